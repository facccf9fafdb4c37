/- Part 7 of what the law stands on: abstract values, their walk, contracts of functions. My own work. Conditions: none. -/
import Derived.Test.YtnmdenipfdgdgaaGreatPart6
set_option linter.unusedVariables false
set_option linter.unusedSimpArgs false
set_option linter.unusedSectionVars false
set_option maxRecDepth 4000
namespace Go.Am
attribute [local irreducible] retQ retQp
open Go.Proofs
theorem c_iProd_ok {p : Int} {n : Nat} {c : Nat → Int} (h : PO p n c) (hp0 : -1000000 ≤ p ∧ p ≤ 1000000) (hn0 : n ≤ 1000) : ACalls Tryz.prog TB 18 [.int .i64 p, rowA n c] (.tup 2 (pairA (rowA n (po p c n)) (.int .i64 0))) [] := by
  have hpb := primeB_bd h.1
  have hn := h.2.1
  have hcb := h.2.2
  have hcc : (AV.cptr (.int .i64 p)).closed := trivial
  refine acalls_of tokTB Tryz.func18 rfl rfl (Nat.le_of_ble_eq_true rfl) ?_
  apply sr tokTB (by kernel_rfl)
  · intro RR hRR
    refine w_boxc (HV.eq (by constructor)) (by exact trivial) ?_
    refine wa ?_
    refine wa ?_
    exact hRR
  refine snd_seq ?_
  apply srG (env' := (25, .bool ((!(primeB p) || !(decide (1 ≤ (n : Int)) && decide ((n : Int) ≤ 6))) || decide (0 ≤ idxF (fun i => !(inB0 p c i)) n))) :: (24, .any) :: (23, .any) :: (22, .any) :: (21, .bool (!(primeB p) || !(decide (1 ≤ (n : Int)) && decide ((n : Int) ≤ 6)))) :: (20, .bool (!(primeB p) || !(decide (1 ≤ (n : Int)) && decide ((n : Int) ≤ 6)))) :: (19, .any) :: (18, .any) :: (17, .any) :: (16, .any) :: (15, .bool (!(primeB p))) :: (14, .bool (!(primeB p))) :: (13, _) :: (12, _) :: _) tokTB (by kernel_rfl)
  · intro RR hRR
    refine w_ldc rfl kn2 (by constructor) (by exact sz2.symm) (by exact ag2.symm) ?_
    refine y_call rfl (ec exn) (c_isPrime) ?_
    refine w_not rfl ?_
    refine wm ?_
    refine w_g rfl rfl (fun hg3 => ?_) (fun hg3 => ?_)
    · skip
      refine wm ?_
      refine w_g_on rfl rfl hg3 ?_
      first | refine w_len_r rfl rfl und24 ?_ | refine w_len_o rfl rfl und24 ?_ | refine w_len_n rfl rfl und24 ?_
      refine w_g_on rfl rfl hg3 ?_
      refine y_call rfl (ec (ec (ec exn))) (c_in) ?_
      refine w_g_on rfl rfl hg3 ?_
      refine w_not rfl ?_
      refine w_pick_0 rfl hg3 (by constructor) ?_
      refine wm ?_
      refine w_g rfl rfl (fun hg9 => ?_) (fun hg9 => ?_)
      · skip
        refine wm ?_
        refine w_g_on rfl rfl hg9 ?_
        refine w_mkf1 (by constructor) ?_
        refine w_g_on rfl rfl hg9 ?_
        refine y_call rfl (exc (by exact rfl) (exc (exp_closed (closed_cap1 (a := .cptr (.int .i64 p)) trivial)) exn)) (c_ContainsFunc1 (f := c) (g := 56) (nc := 1) (caps := (cap1 (.cptr (.int .i64 p)))) (P := fun i => !(inB0 p c i)) (by omega) (closed_cap1 (a := .cptr (.int .i64 p)) trivial) (fun i _ => c_prodOk1 hp0)) ?_
        refine w_pick_0 rfl hg9 (by constructor) ?_
        try simp only [Int.toNat_natCast] at hg3 hg9
        exact hRR _ (EL.cons (.inr (by first | rfl | (simp only [hg3, hg9, els]; done) | (simp only [hg3, hg9, els]; rfl) | (simp [hg3, hg9]; done) | (clear hRR; simp_all; done) | (exfalso; simp only [hg3, Bool.not_false, Bool.not_true, reduceCtorEq] at hg9; done))) (EL.cons (.inl rfl) (EL.cons (.inl rfl) (EL.cons (.inl rfl) (EL.cons (.inr (by first | rfl | (simp only [hg3, hg9, els]; done) | (simp only [hg3, hg9, els]; rfl) | (simp [hg3, hg9]; done) | (clear hRR; simp_all; done) | (exfalso; simp only [hg3, Bool.not_false, Bool.not_true, reduceCtorEq] at hg9; done))) (EL.cons (.inr (by first | rfl | (simp only [hg3, hg9, els]; done) | (simp only [hg3, hg9, els]; rfl) | (simp [hg3, hg9]; done) | (clear hRR; simp_all; done) | (exfalso; simp only [hg3, Bool.not_false, Bool.not_true, reduceCtorEq] at hg9; done))) (EL.cons (.inl rfl) (EL.cons (.inl rfl) (EL.cons (.inl rfl) (EL.cons (.inl rfl) (EL.cons (.inr (by first | rfl | (simp only [hg3, hg9, els]; done) | (simp only [hg3, hg9, els]; rfl) | (simp [hg3, hg9]; done) | (clear hRR; simp_all; done) | (exfalso; simp only [hg3, Bool.not_false, Bool.not_true, reduceCtorEq] at hg9; done))) (EL.cons (.inr (by first | rfl | (simp only [hg3, hg9, els]; done) | (simp only [hg3, hg9, els]; rfl) | (simp [hg3, hg9]; done) | (clear hRR; simp_all; done) | (exfalso; simp only [hg3, Bool.not_false, Bool.not_true, reduceCtorEq] at hg9; done))) (EL.cons (.inr rfl) (EL.cons (.inr rfl) (EL.refl _)))))))))))))))
      · have hg9 := eq_true_of_ne_false hg9
        refine w_g_off rfl rfl (by rw [hg9]; decide) ?_
        refine w_g_off rfl rfl (by rw [hg9]; decide) ?_
        refine w_pick_1 rfl hg9 (by constructor) ?_
        try simp only [Int.toNat_natCast] at hg3 hg9
        exact hRR _ (EL.cons (.inr (by first | rfl | (simp only [hg3, hg9, els]; done) | (simp only [hg3, hg9, els]; rfl) | (simp [hg3, hg9]; done) | (clear hRR; simp_all; done) | (exfalso; simp only [hg3, Bool.not_false, Bool.not_true, reduceCtorEq] at hg9; done))) (EL.cons (.inl rfl) (EL.cons (.inl rfl) (EL.cons (.inl rfl) (EL.cons (.inr (by first | rfl | (simp only [hg3, hg9, els]; done) | (simp only [hg3, hg9, els]; rfl) | (simp [hg3, hg9]; done) | (clear hRR; simp_all; done) | (exfalso; simp only [hg3, Bool.not_false, Bool.not_true, reduceCtorEq] at hg9; done))) (EL.cons (.inr (by first | rfl | (simp only [hg3, hg9, els]; done) | (simp only [hg3, hg9, els]; rfl) | (simp [hg3, hg9]; done) | (clear hRR; simp_all; done) | (exfalso; simp only [hg3, Bool.not_false, Bool.not_true, reduceCtorEq] at hg9; done))) (EL.cons (.inl rfl) (EL.cons (.inl rfl) (EL.cons (.inl rfl) (EL.cons (.inl rfl) (EL.cons (.inr (by first | rfl | (simp only [hg3, hg9, els]; done) | (simp only [hg3, hg9, els]; rfl) | (simp [hg3, hg9]; done) | (clear hRR; simp_all; done) | (exfalso; simp only [hg3, Bool.not_false, Bool.not_true, reduceCtorEq] at hg9; done))) (EL.cons (.inr (by first | rfl | (simp only [hg3, hg9, els]; done) | (simp only [hg3, hg9, els]; rfl) | (simp [hg3, hg9]; done) | (clear hRR; simp_all; done) | (exfalso; simp only [hg3, Bool.not_false, Bool.not_true, reduceCtorEq] at hg9; done))) (EL.cons (.inr rfl) (EL.cons (.inr rfl) (EL.refl _)))))))))))))))
    · have hg3 := eq_true_of_ne_false hg3
      refine w_g_off rfl rfl (by rw [hg3]; decide) ?_
      refine w_g_off rfl rfl (by rw [hg3]; decide) ?_
      refine w_g_off rfl rfl (by rw [hg3]; decide) ?_
      refine w_pick_1 rfl hg3 (by constructor) ?_
      refine wm ?_
      refine w_g_off rfl rfl (by decide) ?_
      refine w_g_off rfl rfl (by decide) ?_
      refine w_g_off rfl rfl (by decide) ?_
      refine w_pick_1 rfl rfl (by constructor) ?_
      try simp only [Int.toNat_natCast] at hg3
      exact hRR _ (EL.cons (.inr (by first | rfl | (simp only [hg3, els]; done) | (simp only [hg3, els]; rfl) | (simp [hg3]; done) | (clear hRR; simp_all; done))) (EL.cons (.inl rfl) (EL.cons (.inl rfl) (EL.cons (.inl rfl) (EL.cons (.inr (by first | rfl | (simp only [hg3, els]; done) | (simp only [hg3, els]; rfl) | (simp [hg3]; done) | (clear hRR; simp_all; done))) (EL.cons (.inr (by first | rfl | (simp only [hg3, els]; done) | (simp only [hg3, els]; rfl) | (simp [hg3]; done) | (clear hRR; simp_all; done))) (EL.cons (.inl rfl) (EL.cons (.inl rfl) (EL.cons (.inl rfl) (EL.cons (.inl rfl) (EL.cons (.inr (by first | rfl | (simp only [hg3, els]; done) | (simp only [hg3, els]; rfl) | (simp [hg3]; done) | (clear hRR; simp_all; done))) (EL.cons (.inr (by first | rfl | (simp only [hg3, els]; done) | (simp only [hg3, els]; rfl) | (simp [hg3]; done) | (clear hRR; simp_all; done))) (EL.cons (.inr rfl) (EL.cons (.inr rfl) (EL.refl _)))))))))))))))
  refine snd_cond_false (by exact congrArg AV.bool (poN_t h)) ?_
  refine snd_skip ?_
  apply sr tokTB (by kernel_rfl)
  · intro RR hRR
    refine w_bsl1 und24 kn2 (by rw [sz2]; rfl) rfl (by constructor) (by first | exact trivial | exact cel_cap2) (by exact sz2.symm) (by first | exact trivial | exact ssh_vec | exact ⟨rfl, fun _ => trivial⟩) ?_
    refine wa ?_
    exact hRR
  refine snd_seq ?_
  apply sr tokTB (by kernel_rfl)
  · intro RR hRR
    refine wm ?_
    refine w_len_r rfl rfl und24 ?_
    refine wm ?_
    exact hRR
  refine snd_block ?_
  refine snd_loop (S := Nat) (fun i => ([(1, rowA n c), (2, .cptr (.int .i64 p)), (6, .own 906 0 (i + 1) 2), (27, rowA n c), (28, .int .i64 (n : Int)), (29, .int .i64 (i : Int))], [(906, .one (Z64 (i + 1)) (C64 (i + 1) (po p c i)))])) (fun i => i ≤ n) (fun i => n - i) (0) (fun k i => bif Nat.beq k 906 then (26, i) else (k, i)) ?_ ?_ ?_
  · exact ⟨⟨(by first | exact mt_row (V := _) (fun _ _ => rfl) | exact mt_fz (by exact ⟨(ne_fst rfl), trivial⟩) rfl (fun _ _ => rfl)), (by exact Mt_closed (V := _) (by assumption) (fun _ _ _ => trivial) (by simp)), (by first | exact ⟨rfl, rfl, rfl, rfl⟩ | exact ⟨rfl, by omega, rfl, rfl⟩), (by first | exact mt_row (V := _) (fun _ _ => rfl) | exact mt_fz (by exact ⟨(ne_fst rfl), trivial⟩) rfl (fun _ _ => rfl)), (mi), (mi), trivial⟩, ⟨⟨rfl, (sx), (by exact ⟨rfl, fun j hj => by obtain rfl : j = 0 := (by omega); exact rfl⟩)⟩, trivial⟩, ⟨⟨(fun h => by first | exact ⟨rfl, rfl⟩ | exact absurd h (by decide)), trivial⟩, trivial⟩⟩
  · exact Nat.zero_le _
  intro i hi0
  refine sq (env2 := [(1, rowA n c), (2, .cptr (.int .i64 p)), (6, .own 906 0 (i + 1) 2), (27, rowA n c), (28, .int .i64 (n : Int)), (29, .int .i64 (i : Int))]) (ol2 := [(906, .one (Z64 (i + 1)) (C64 (i + 1) (po p c i)))]) rfl rfl ?_
  apply sr tokTB (by kernel_rfl)
  · intro RR hRR
    refine w_lss rfl rfl ?_
    exact hRR
  refine snd_seq ?_
  refine snd_cond _ rfl (fun hc30 => ?_) (fun hc30 => ?_)
  · try simp only [hcs] at hc30
    have lt_i : i < n := by omega
    refine snd_skip ?_
    refine snd_seq ?_
    refine snd_block ?_
    apply sr tokTB (by kernel_rfl)
    · intro RR hRR
      refine w_iar rfl rfl und24 kn2 (by exact sz2.symm) ?_ rfl ?_
      · exact ⟨by omega, by omega⟩
      first | refine w_ldc rfl kn2 (by constructor) (by exact sz2.symm) (by exact ag2.symm) ?_ | refine w_ldp rfl kn2 rfl (by constructor) (by exact sz2.symm) (by exact ag2.symm) ?_
      refine wa ?_
      exact hRR
    apply sr tokTB (by kernel_rfl)
    · intro RR hRR
      refine w_bsl1 und24 kn2 (by rw [sz2]; rfl) rfl (by constructor) (by first | exact trivial | exact cel_cap2) (by exact sz2.symm) (by first | exact trivial | exact ssh_vec | exact ⟨rfl, fun _ => trivial⟩) ?_
      refine wm ?_
      refine w_app_o und24 rfl rfl kn2 rfl rfl (fun C h => ⟨rfl, rfl, rfl, h⟩) (by rw [by2]; omega) (by omega) rfl ?_
      refine wa ?_
      exact hRR
    refine snd_seq ?_
    apply sr tokTB (by kernel_rfl)
    · intro RR hRR
      refine wm ?_
      refine w_len_o rfl rfl und24 ?_
      refine wm ?_
      exact hRR
    refine snd_block ?_
    refine snd_loop (S := Nat) (fun k => ([(1, rowA n c), (2, .cptr (.int .i64 p)), (8, .int .i64 (c i)), (9, .own 35 0 (1 + (i + 1)) 2), (27, rowA n c), (28, .int .i64 (n : Int)), (29, .int .i64 (i : Int)), (36, .own 906 0 (i + 1) 2), (37, .int .i64 (((i + 1) : Nat) : Int)), (38, .int .i64 (k : Int))], [(35, .one (Z64 (1 + (i + 1))) (C64 (1 + (i + 1)) (poM p c i k))), (906, .one (Z64 (i + 1)) (C64 (i + 1) (po p c i)))])) (fun k => k ≤ (i + 1)) (fun k => (i + 1) - k) (0) ρ0 ?_ ?_ ?_
    · exact ⟨⟨(by first | exact mt_row (V := _) (fun _ _ => rfl) | exact mt_fz (by exact ⟨(ne_fst rfl), (ne_fst rfl), trivial⟩) rfl (fun _ _ => rfl)), (by exact Mt_closed (V := _) (by assumption) (fun _ _ _ => trivial) (by simp)), (mi), (by first | exact ⟨rfl, rfl, rfl, rfl⟩ | exact ⟨rfl, by omega, rfl, rfl⟩), (by first | exact mt_row (V := _) (fun _ _ => rfl) | exact mt_fz (by exact ⟨(ne_fst rfl), (ne_fst rfl), trivial⟩) rfl (fun _ _ => rfl)), (mi), (mi), (by first | exact ⟨rfl, rfl, rfl, rfl⟩ | exact ⟨rfl, by omega, rfl, rfl⟩), (mi), (mi), trivial⟩, ⟨⟨rfl, (sx), (by exact ⟨rfl, fun j hj => (sh_app hj rfl (fun _ _ => rfl)).trans (congrArg (AV.int .i64) poM_0.symm)⟩)⟩, ⟨rfl, (sx), (by first | exact mt_vec (fun _ _ => rfl) | exact mt_mat (fun _ _ _ _ => rfl) | exact mt_tab (fun _ _ _ _ _ _ => rfl) | exact mt_arr0 | exact mt_app (fun _ _ => rfl) rfl | exact ⟨rfl, fun _ _ => mt_row (fun _ _ => rfl)⟩ | exact Mt_closed (V := _) closed_alg (fun _ _ _ => trivial) (by simp))⟩, trivial⟩, ⟨⟨(fun h => by first | exact ⟨rfl, rfl⟩ | exact absurd h (by decide)), (fun h => by first | exact ⟨rfl, rfl⟩ | exact absurd h (by decide)), trivial⟩, ⟨(fun h => by first | exact ⟨rfl, rfl⟩ | exact absurd h (by decide)), (fun h => by first | exact ⟨rfl, rfl⟩ | exact absurd h (by decide)), trivial⟩, trivial⟩⟩
    · exact Nat.zero_le _
    intro k hi2
    refine sq (env2 := [(1, rowA n c), (2, .cptr (.int .i64 p)), (8, .int .i64 (c i)), (9, .own 35 0 (1 + (i + 1)) 2), (27, rowA n c), (28, .int .i64 (n : Int)), (29, .int .i64 (i : Int)), (36, .own 906 0 (i + 1) 2), (37, .int .i64 (((i + 1) : Nat) : Int)), (38, .int .i64 (k : Int))]) (ol2 := [(35, .one (Z64 (1 + (i + 1))) (C64 (1 + (i + 1)) (poM p c i k))), (906, .one (Z64 (i + 1)) (C64 (i + 1) (po p c i)))]) rfl rfl ?_
    apply sr tokTB (by kernel_rfl)
    · intro RR hRR
      refine w_lss rfl rfl ?_
      exact hRR
    refine snd_seq ?_
    refine snd_cond _ rfl (fun hc39 => ?_) (fun hc39 => ?_)
    · try simp only [hcs] at hc39
      have lt_k : k < (i + 1) := by omega
      refine snd_skip ?_
      refine snd_seq ?_
      refine snd_block ?_
      apply sr tokTB (by kernel_rfl)
      · intro RR hRR
        refine wm ?_
        refine w_iao rfl rfl und24 kn2 ?_ ?_
        · exact ⟨by omega, by omega⟩
        first | refine w_ldc rfl kn2 (by constructor) (by exact sz2.symm) (by exact ag2.symm) ?_ | refine w_ldp rfl kn2 rfl (by constructor) (by exact sz2.symm) (by exact ag2.symm) ?_
        refine wa ?_
        refine wa ?_
        exact hRR
      apply ldX tokTB mixed [10] (by kernel_rfl) (by kernel_rfl)
      · intro RR hRR
        show WOps _ _ _ _ _ _ _
        refine wm ?_
        refine wm ?_
        refine wm ?_
        refine wm ?_
        refine w_iao rfl rfl und24 kn2 ?_ ?_
        · exact ⟨by omega, by omega⟩
        first | refine w_ldc rfl kn2 (by constructor) (by exact sz2.symm) (by exact ag2.symm) ?_ | refine w_ldp rfl kn2 rfl (by constructor) (by exact sz2.symm) (by exact ag2.symm) ?_
        refine wm ?_
        refine wm ?_
        refine y_mul rfl rfl ?_
        refine y_sub rfl rfl ?_
        show LoadC Tryz.prog TB _ _ _
        refine wx_ldc rfl kn2 (by constructor) (by exact sz2.symm) (by exact ag2.symm) ?_
        show WOps _ _ _ _ _ _ _
        refine y_call rfl (ec (ec exn)) (c_rest (by omega) (by omega)) ?_
        refine w_iao rfl rfl und24 kn2 ?_ ?_
        · exact ⟨by omega, by omega⟩
        first | refine w_stw rfl (by constructor) kn2 rfl (by exact trivial) (sx) (by exact sz2.symm) ?_ | refine w_sti rfl rfl kn2 rfl (by exact trivial) (by exact sz2.symm) ?_ | refine w_store rfl (HV.eq (by constructor)) kn2 rfl (by exact trivial) (sx) (by exact sz2.symm) (pin_) ?_ | refine w_store rfl (HV.eq (by constructor)) kn2 rfl (by exact trivial) (by exact trivial) (by exact sz2.symm) rfl ?_
        exact hRR
      apply lr tokTB (by kernel_rfl)
      · intro RR hRR
        refine y_add rfl rfl ?_
        refine wm ?_
        exact hRR
      refine ⟨k + 1, ρ0, ?_, (by omega), (by dsimp only; omega)⟩
      exact ⟨⟨(by first | exact mt_row (V := _) (fun _ _ => rfl) | exact mt_fz (by exact ⟨(ne_fst rfl), (ne_fst rfl), trivial⟩) rfl (fun _ _ => rfl)), (by exact Mt_closed (V := _) (by assumption) (fun _ _ _ => trivial) (by simp)), (mi), (by first | exact ⟨rfl, rfl, rfl, rfl⟩ | exact ⟨rfl, by omega, rfl, rfl⟩), (by first | exact mt_row (V := _) (fun _ _ => rfl) | exact mt_fz (by exact ⟨(ne_fst rfl), (ne_fst rfl), trivial⟩) rfl (fun _ _ => rfl)), (mi), (mi), (by first | exact ⟨rfl, rfl, rfl, rfl⟩ | exact ⟨rfl, by omega, rfl, rfl⟩), (mi), (mi), trivial⟩, ⟨⟨rfl, (sx), (by exact mt_vec (fun z _ => poM_s (po_step hpb (hcb i lt_i) poM_k)))⟩, ⟨rfl, (sx), (by first | exact mt_vec (fun _ _ => rfl) | exact mt_mat (fun _ _ _ _ => rfl) | exact mt_tab (fun _ _ _ _ _ _ => rfl) | exact mt_arr0 | exact mt_app (fun _ _ => rfl) rfl | exact ⟨rfl, fun _ _ => mt_row (fun _ _ => rfl)⟩ | exact Mt_closed (V := _) closed_alg (fun _ _ _ => trivial) (by simp))⟩, trivial⟩, ⟨⟨(fun h => by first | exact ⟨rfl, rfl⟩ | exact absurd h (by decide)), (fun h => by first | exact ⟨rfl, rfl⟩ | exact absurd h (by decide)), trivial⟩, ⟨(fun h => by first | exact ⟨rfl, rfl⟩ | exact absurd h (by decide)), (fun h => by first | exact ⟨rfl, rfl⟩ | exact absurd h (by decide)), trivial⟩, trivial⟩⟩
    · try simp only [hcs] at hc39
      have ge_k : (i + 1) = k := by omega
      subst ge_k
      refine snd_exit ?_
      apply lr tokTB (by kernel_rfl)
      · intro RR hRR
        refine wm ?_
        refine wa ?_
        exact hRR
      apply lr tokTB (by kernel_rfl)
      · intro RR hRR
        refine y_add rfl rfl ?_
        refine wm ?_
        exact hRR
      refine ⟨i + 1, (fun k i => bif Nat.beq k 906 then (35, i) else (k, i)), ?_, (by omega), (by dsimp only; omega)⟩
      exact ⟨⟨(by first | exact mt_row (V := _) (fun _ _ => rfl) | exact mt_fz (by exact ⟨(ne_fst rfl), trivial⟩) rfl (fun _ _ => rfl)), (by exact Mt_closed (V := _) (by assumption) (fun _ _ _ => trivial) (by simp)), (by exact ⟨rfl, by omega, rfl, rfl⟩), (by first | exact mt_row (V := _) (fun _ _ => rfl) | exact mt_fz (by exact ⟨(ne_fst rfl), trivial⟩) rfl (fun _ _ => rfl)), (mi), (mi), trivial⟩, ⟨⟨(by exact congrArg (fun q => AV.arr q _) (by omega)), (sx), (by exact ⟨by omega, fun j hj => congrArg (AV.int .i64) (poM_e (by omega) (by omega))⟩)⟩, trivial⟩, ⟨⟨(fun h => by first | exact ⟨rfl, rfl⟩ | exact absurd h (by decide)), trivial⟩, trivial⟩⟩
  · try simp only [hcs] at hc30
    have ge_i : n = i := by omega
    subst ge_i
    refine snd_exit ?_
    refine snd_emb (ρ := ρ0) (env2 := [(1, rowA n c), (6, rowA (n + 1) (po p c n))]) (ol2 := []) ?_ ?_
    · exact ⟨⟨(by first | exact mt_row (V := _) (fun _ _ => rfl) | exact mt_fz (by exact trivial) rfl (fun _ _ => rfl)), (by exact mt_fz trivial rfl (fun _ _ => rfl)), trivial⟩, trivial, trivial⟩
    apply sr tokTB (by kernel_rfl)
    · intro RR hRR
      refine wm ?_
      refine wm ?_
      refine w_len_r rfl rfl und24 ?_
      refine wm ?_
      refine w_len_r rfl rfl und24 ?_
      refine w_sl3 rfl rfl rfl und24 (by omega) kn2 (by exact sz2.symm) ?_
      refine wa ?_
      refine wa ?_
      exact hRR
    refine snd_ret ?_
    exact rt_tt (T := TB) (fun V => ⟨rfl, fun _ _ => rfl⟩) (fun V => rfl)
theorem c_iProd_no {p : Int} {n : Nat} {c : Nat → Int} (hp0 : -1000000 ≤ p ∧ p ≤ 1000000) (hn0 : n ≤ 1000) (h : ¬ PO p n c) : ACalls Tryz.prog TB 18 [.int .i64 p, rowA n c] (.tup 2 (pairA .nilsl (.int .i64 2))) [] := by
  refine acalls_of tokTB Tryz.func18 rfl rfl (Nat.le_of_ble_eq_true rfl) ?_
  apply sr tokTB (by kernel_rfl)
  · intro RR hRR
    refine w_boxc (HV.eq (by constructor)) (by exact trivial) ?_
    refine wa ?_
    refine wa ?_
    exact hRR
  refine snd_seq ?_
  apply srG (env' := (25, .bool ((!(primeB p) || !(decide (1 ≤ (n : Int)) && decide ((n : Int) ≤ 6))) || decide (0 ≤ idxF (fun i => !(inB0 p c i)) n))) :: (24, .any) :: (23, .any) :: (22, .any) :: (21, .bool (!(primeB p) || !(decide (1 ≤ (n : Int)) && decide ((n : Int) ≤ 6)))) :: (20, .bool (!(primeB p) || !(decide (1 ≤ (n : Int)) && decide ((n : Int) ≤ 6)))) :: (19, .any) :: (18, .any) :: (17, .any) :: (16, .any) :: (15, .bool (!(primeB p))) :: (14, .bool (!(primeB p))) :: (13, _) :: (12, _) :: _) tokTB (by kernel_rfl)
  · intro RR hRR
    refine w_ldc rfl kn2 (by constructor) (by exact sz2.symm) (by exact ag2.symm) ?_
    refine y_call rfl (ec exn) (c_isPrime) ?_
    refine w_not rfl ?_
    refine wm ?_
    refine w_g rfl rfl (fun hg3 => ?_) (fun hg3 => ?_)
    · skip
      refine wm ?_
      refine w_g_on rfl rfl hg3 ?_
      first | refine w_len_r rfl rfl und24 ?_ | refine w_len_o rfl rfl und24 ?_ | refine w_len_n rfl rfl und24 ?_
      refine w_g_on rfl rfl hg3 ?_
      refine y_call rfl (ec (ec (ec exn))) (c_in) ?_
      refine w_g_on rfl rfl hg3 ?_
      refine w_not rfl ?_
      refine w_pick_0 rfl hg3 (by constructor) ?_
      refine wm ?_
      refine w_g rfl rfl (fun hg9 => ?_) (fun hg9 => ?_)
      · skip
        refine wm ?_
        refine w_g_on rfl rfl hg9 ?_
        refine w_mkf1 (by constructor) ?_
        refine w_g_on rfl rfl hg9 ?_
        refine y_call rfl (exc (by exact rfl) (exc (exp_closed (closed_cap1 (a := .cptr (.int .i64 p)) trivial)) exn)) (c_ContainsFunc1 (f := c) (g := 56) (nc := 1) (caps := (cap1 (.cptr (.int .i64 p)))) (P := fun i => !(inB0 p c i)) (by omega) (closed_cap1 (a := .cptr (.int .i64 p)) trivial) (fun i _ => c_prodOk1 hp0)) ?_
        refine w_pick_0 rfl hg9 (by constructor) ?_
        try simp only [Int.toNat_natCast] at hg3 hg9
        exact hRR _ (EL.cons (.inr (by first | rfl | (simp only [hg3, hg9, els]; done) | (simp only [hg3, hg9, els]; rfl) | (simp [hg3, hg9]; done) | (clear hRR; simp_all; done) | (exfalso; simp only [hg3, Bool.not_false, Bool.not_true, reduceCtorEq] at hg9; done))) (EL.cons (.inl rfl) (EL.cons (.inl rfl) (EL.cons (.inl rfl) (EL.cons (.inr (by first | rfl | (simp only [hg3, hg9, els]; done) | (simp only [hg3, hg9, els]; rfl) | (simp [hg3, hg9]; done) | (clear hRR; simp_all; done) | (exfalso; simp only [hg3, Bool.not_false, Bool.not_true, reduceCtorEq] at hg9; done))) (EL.cons (.inr (by first | rfl | (simp only [hg3, hg9, els]; done) | (simp only [hg3, hg9, els]; rfl) | (simp [hg3, hg9]; done) | (clear hRR; simp_all; done) | (exfalso; simp only [hg3, Bool.not_false, Bool.not_true, reduceCtorEq] at hg9; done))) (EL.cons (.inl rfl) (EL.cons (.inl rfl) (EL.cons (.inl rfl) (EL.cons (.inl rfl) (EL.cons (.inr (by first | rfl | (simp only [hg3, hg9, els]; done) | (simp only [hg3, hg9, els]; rfl) | (simp [hg3, hg9]; done) | (clear hRR; simp_all; done) | (exfalso; simp only [hg3, Bool.not_false, Bool.not_true, reduceCtorEq] at hg9; done))) (EL.cons (.inr (by first | rfl | (simp only [hg3, hg9, els]; done) | (simp only [hg3, hg9, els]; rfl) | (simp [hg3, hg9]; done) | (clear hRR; simp_all; done) | (exfalso; simp only [hg3, Bool.not_false, Bool.not_true, reduceCtorEq] at hg9; done))) (EL.cons (.inr rfl) (EL.cons (.inr rfl) (EL.refl _)))))))))))))))
      · have hg9 := eq_true_of_ne_false hg9
        refine w_g_off rfl rfl (by rw [hg9]; decide) ?_
        refine w_g_off rfl rfl (by rw [hg9]; decide) ?_
        refine w_pick_1 rfl hg9 (by constructor) ?_
        try simp only [Int.toNat_natCast] at hg3 hg9
        exact hRR _ (EL.cons (.inr (by first | rfl | (simp only [hg3, hg9, els]; done) | (simp only [hg3, hg9, els]; rfl) | (simp [hg3, hg9]; done) | (clear hRR; simp_all; done) | (exfalso; simp only [hg3, Bool.not_false, Bool.not_true, reduceCtorEq] at hg9; done))) (EL.cons (.inl rfl) (EL.cons (.inl rfl) (EL.cons (.inl rfl) (EL.cons (.inr (by first | rfl | (simp only [hg3, hg9, els]; done) | (simp only [hg3, hg9, els]; rfl) | (simp [hg3, hg9]; done) | (clear hRR; simp_all; done) | (exfalso; simp only [hg3, Bool.not_false, Bool.not_true, reduceCtorEq] at hg9; done))) (EL.cons (.inr (by first | rfl | (simp only [hg3, hg9, els]; done) | (simp only [hg3, hg9, els]; rfl) | (simp [hg3, hg9]; done) | (clear hRR; simp_all; done) | (exfalso; simp only [hg3, Bool.not_false, Bool.not_true, reduceCtorEq] at hg9; done))) (EL.cons (.inl rfl) (EL.cons (.inl rfl) (EL.cons (.inl rfl) (EL.cons (.inl rfl) (EL.cons (.inr (by first | rfl | (simp only [hg3, hg9, els]; done) | (simp only [hg3, hg9, els]; rfl) | (simp [hg3, hg9]; done) | (clear hRR; simp_all; done) | (exfalso; simp only [hg3, Bool.not_false, Bool.not_true, reduceCtorEq] at hg9; done))) (EL.cons (.inr (by first | rfl | (simp only [hg3, hg9, els]; done) | (simp only [hg3, hg9, els]; rfl) | (simp [hg3, hg9]; done) | (clear hRR; simp_all; done) | (exfalso; simp only [hg3, Bool.not_false, Bool.not_true, reduceCtorEq] at hg9; done))) (EL.cons (.inr rfl) (EL.cons (.inr rfl) (EL.refl _)))))))))))))))
    · have hg3 := eq_true_of_ne_false hg3
      refine w_g_off rfl rfl (by rw [hg3]; decide) ?_
      refine w_g_off rfl rfl (by rw [hg3]; decide) ?_
      refine w_g_off rfl rfl (by rw [hg3]; decide) ?_
      refine w_pick_1 rfl hg3 (by constructor) ?_
      refine wm ?_
      refine w_g_off rfl rfl (by decide) ?_
      refine w_g_off rfl rfl (by decide) ?_
      refine w_g_off rfl rfl (by decide) ?_
      refine w_pick_1 rfl rfl (by constructor) ?_
      try simp only [Int.toNat_natCast] at hg3
      exact hRR _ (EL.cons (.inr (by first | rfl | (simp only [hg3, els]; done) | (simp only [hg3, els]; rfl) | (simp [hg3]; done) | (clear hRR; simp_all; done))) (EL.cons (.inl rfl) (EL.cons (.inl rfl) (EL.cons (.inl rfl) (EL.cons (.inr (by first | rfl | (simp only [hg3, els]; done) | (simp only [hg3, els]; rfl) | (simp [hg3]; done) | (clear hRR; simp_all; done))) (EL.cons (.inr (by first | rfl | (simp only [hg3, els]; done) | (simp only [hg3, els]; rfl) | (simp [hg3]; done) | (clear hRR; simp_all; done))) (EL.cons (.inl rfl) (EL.cons (.inl rfl) (EL.cons (.inl rfl) (EL.cons (.inl rfl) (EL.cons (.inr (by first | rfl | (simp only [hg3, els]; done) | (simp only [hg3, els]; rfl) | (simp [hg3]; done) | (clear hRR; simp_all; done))) (EL.cons (.inr (by first | rfl | (simp only [hg3, els]; done) | (simp only [hg3, els]; rfl) | (simp [hg3]; done) | (clear hRR; simp_all; done))) (EL.cons (.inr rfl) (EL.cons (.inr rfl) (EL.refl _)))))))))))))))
  refine snd_cond_true (by exact congrArg AV.bool (poN_f h)) ?_
  apply sr tokTB (by kernel_rfl)
  · intro RR hRR
    refine wa ?_
    refine wa ?_
    exact hRR
  refine snd_ret ?_
  exact rt_tt (T := TB) (fun V => rfl) (fun V => rfl)
theorem c_sProd_ok {p : Int} {n : Nat} {c : Nat → Int} (h : PO p n c) (hp0 : -1000000 ≤ p ∧ p ≤ 1000000) (hn0 : n ≤ 1000) : ACalls Tryz.prog TB 19 [.int .i64 p, rowA n c] (.tup 2 (pairA (.own 0 0 n 2) (.int .i64 0))) [(0, .one (Z64 n) (C64 n (po p c n)))] := by
  have hpb := primeB_bd h.1
  have hn := h.2.1
  have hcb := h.2.2
  refine acalls_of tokTB Tryz.func19 rfl rfl (Nat.le_of_ble_eq_true rfl) ?_
  apply sr tokTB (by kernel_rfl)
  · intro RR hRR
    refine wa ?_
    refine wa ?_
    exact hRR
  refine snd_seq ?_
  apply sr tokTB (by kernel_rfl)
  · intro RR hRR
    refine wm ?_
    refine wm ?_
    refine y_call rfl (ec (ec exn)) ((poC_t h) ▸ c_l09Poly (f := c) hp0 hn0) ?_
    refine w_neq rfl rfl ?_
    exact hRR
  refine snd_cond_false rfl ?_
  refine snd_skip ?_
  apply sr tokTB (by kernel_rfl)
  · intro RR hRR
    refine w_bsl1 und24 kn2 (by rw [sz2]; rfl) rfl (by constructor) (by first | exact trivial | exact cel_cap2) (by exact sz2.symm) (by first | exact trivial | exact ssh_vec | exact ⟨rfl, fun _ => trivial⟩) ?_
    refine wa ?_
    exact hRR
  refine snd_seq ?_
  apply sr tokTB (by kernel_rfl)
  · intro RR hRR
    refine wa ?_
    exact hRR
  refine snd_block ?_
  refine snd_loop (S := Nat) (fun i => ([(0, .int .i64 p), (1, rowA n c), (6, .own 906 0 (i + 1) 2), (7, .int .i64 (i : Int))], [(906, .one (Z64 (i + 1)) (C64 (i + 1) (po p c i)))])) (fun i => i ≤ n) (fun i => n - i) (0) (fun k i => bif Nat.beq k 906 then (14, i) else (k, i)) ?_ ?_ ?_
  · exact ⟨⟨(mi), (by first | exact mt_row (V := _) (fun _ _ => rfl) | exact mt_fz (by exact ⟨(ne_fst rfl), trivial⟩) rfl (fun _ _ => rfl)), (by first | exact ⟨rfl, rfl, rfl, rfl⟩ | exact ⟨rfl, by omega, rfl, rfl⟩), (mi), trivial⟩, ⟨⟨rfl, (sx), (by exact ⟨rfl, fun j hj => by obtain rfl : j = 0 := (by omega); exact rfl⟩)⟩, trivial⟩, ⟨⟨(fun h => by first | exact ⟨rfl, rfl⟩ | exact absurd h (by decide)), trivial⟩, trivial⟩⟩
  · exact Nat.zero_le _
  intro i hi0
  refine sq (env2 := [(0, .int .i64 p), (1, rowA n c), (6, .own 906 0 (i + 1) 2), (7, .int .i64 (i : Int))]) (ol2 := [(906, .one (Z64 (i + 1)) (C64 (i + 1) (po p c i)))]) rfl rfl ?_
  refine snd_seq ?_
  apply sr tokTB (by kernel_rfl)
  · intro RR hRR
    refine wm ?_
    refine wm ?_
    refine w_len_r rfl rfl und24 ?_
    refine w_lss rfl rfl ?_
    exact hRR
  refine snd_cond _ rfl (fun hc18 => ?_) (fun hc18 => ?_)
  · try simp only [hcs] at hc18
    have lt_i : i < n := by omega
    refine snd_skip ?_
    refine snd_seq ?_
    refine snd_block ?_
    refine snd_emb (ρ := ρ0) (env2 := [(0, .int .i64 p), (1, rowA n c), (6, rowA (i + 1) (po p c i)), (7, .int .i64 (i : Int))]) (ol2 := []) ?_ ?_
    · exact ⟨⟨(mi), (by first | exact mt_row (V := _) (fun _ _ => rfl) | exact mt_fz (by exact trivial) rfl (fun _ _ => rfl)), (by exact mt_fz trivial rfl (fun _ _ => rfl)), (mi), trivial⟩, trivial, trivial⟩
    apply sr tokTB (by kernel_rfl)
    · intro RR hRR
      refine wm ?_
      refine w_len_r rfl rfl und24 ?_
      refine w_add rfl rfl (by exact w64 (n := ((i + 1 : Nat) : Int) + 1) (by omega) (by omega)) ?_
      refine w_mks und24 rfl rfl kn2 rfl (by omega) (by rw [by2]; omega) (by omega) rfl ?_
      refine wa ?_
      exact hRR
    refine snd_seq ?_
    apply sr tokTB (by kernel_rfl)
    · intro RR hRR
      refine wa ?_
      exact hRR
    refine snd_block ?_
    refine snd_loop (S := Nat) (fun k => ([(0, .int .i64 p), (1, rowA n c), (6, rowA (i + 1) (po p c i)), (7, .int .i64 (i : Int)), (8, .own 24 0 (i + 1 + 1) 2), (9, .int .i64 (k : Int))], [(24, .one (Z64 (i + 1 + 1)) (C64 (i + 1 + 1) (poQ p c i k)))])) (fun k => k ≤ (i + 1)) (fun k => (i + 1) - k) (0) ρ0 ?_ ?_ ?_
    · exact ⟨⟨(mi), (by first | exact mt_row (V := _) (fun _ _ => rfl) | exact mt_fz (by exact ⟨(ne_fst rfl), trivial⟩) rfl (fun _ _ => rfl)), (by first | exact mt_row (V := _) (fun _ _ => rfl) | exact mt_fz (by exact ⟨(ne_fst rfl), trivial⟩) rfl (fun _ _ => rfl)), (mi), (by first | exact ⟨rfl, rfl, rfl, rfl⟩ | exact ⟨rfl, by omega, rfl, rfl⟩), (mi), trivial⟩, ⟨⟨rfl, (sx), (by exact mt_vec (fun j _ => poQ_0.symm))⟩, trivial⟩, ⟨⟨(fun h => by first | exact ⟨rfl, rfl⟩ | exact absurd h (by decide)), trivial⟩, trivial⟩⟩
    · exact Nat.zero_le _
    intro k hi2
    refine sq (env2 := [(0, .int .i64 p), (1, rowA n c), (6, rowA (i + 1) (po p c i)), (7, .int .i64 (i : Int)), (8, .own 24 0 (i + 1 + 1) 2), (9, .int .i64 (k : Int))]) (ol2 := [(24, .one (Z64 (i + 1 + 1)) (C64 (i + 1 + 1) (poQ p c i k)))]) rfl rfl ?_
    refine snd_seq ?_
    apply sr tokTB (by kernel_rfl)
    · intro RR hRR
      refine wm ?_
      refine wm ?_
      refine w_len_r rfl rfl und24 ?_
      refine w_lss rfl rfl ?_
      exact hRR
    refine snd_cond _ rfl (fun hc28 => ?_) (fun hc28 => ?_)
    · try simp only [hcs] at hc28
      have lt_k : k < (i + 1) := by omega
      have hpo := po_Bp (p := p) (by omega) c i k
      have hq1 : poQ p c i k (k + 1) = 0 := poQ_1
      refine snd_skip ?_
      refine snd_seq ?_
      refine snd_block ?_
      apply sdX tokTB mixed [12] (by kernel_rfl) (by kernel_rfl)
      · intro RR hRR
        show WOps _ _ _ _ _ _ _
        refine wm ?_
        refine wm ?_
        refine w_add rfl rfl (by exact w64 (n := (k : Int) + 1) (by omega) (by omega)) ?_
        refine wm ?_
        refine wm ?_
        refine wm ?_
        refine w_add rfl rfl (by exact w64 (n := (k : Int) + 1) (by omega) (by omega)) ?_
        refine w_iao rfl rfl und24 kn2 ?_ ?_
        · exact ⟨by omega, by omega⟩
        first | refine w_ldc rfl kn2 (by constructor) (by exact sz2.symm) (by exact ag2.symm) ?_ | refine w_ldp rfl kn2 rfl (by constructor) (by exact sz2.symm) (by exact ag2.symm) ?_
        refine wm ?_
        refine wm ?_
        refine w_iar rfl rfl und24 kn2 (by exact sz2.symm) ?_ rfl ?_
        · exact ⟨by omega, by omega⟩
        show LoadC Tryz.prog TB _ _ _
        first | refine wx_ldc rfl kn2 (by constructor) (by exact sz2.symm) (by exact ag2.symm) ?_ | refine w_ldp rfl kn2 rfl (by constructor) (by exact sz2.symm) (by exact ag2.symm) ?_
        show WOps _ _ _ _ _ _ _
        refine w_add rfl rfl (by exact w64 (n := poQ p c i k (k + 1) + po p c i k) (by omega) (by omega)) ?_
        refine y_call rfl (ec (ec exn)) (c_l01Mod (by omega) (by omega)) ?_
        refine w_iao rfl rfl und24 kn2 ?_ ?_
        · exact ⟨by omega, by omega⟩
        first | refine w_stw rfl (by constructor) kn2 rfl (by exact trivial) (sx) (by exact sz2.symm) ?_ | refine w_sti rfl rfl kn2 rfl (by exact trivial) (by exact sz2.symm) ?_ | refine w_store rfl (HV.eq (by constructor)) kn2 rfl (by exact trivial) (sx) (by exact sz2.symm) (pin_) ?_ | refine w_store rfl (HV.eq (by constructor)) kn2 rfl (by exact trivial) (by exact trivial) (by exact sz2.symm) rfl ?_
        exact hRR
      apply ldX tokTB mixed [10, 3] (by kernel_rfl) (by kernel_rfl)
      · intro RR hRR
        show WOps _ _ _ _ _ _ _
        refine wm ?_
        refine wm ?_
        refine wm ?_
        refine wm ?_
        refine wm ?_
        refine w_iao rfl rfl und24 kn2 ?_ ?_
        · exact ⟨by omega, by omega⟩
        first | refine w_ldc rfl kn2 (by constructor) (by exact sz2.symm) (by exact ag2.symm) ?_ | refine w_ldp rfl kn2 rfl (by constructor) (by exact sz2.symm) (by exact ag2.symm) ?_
        refine wm ?_
        refine wm ?_
        refine w_iar rfl rfl und24 kn2 (by exact sz2.symm) ?_ rfl ?_
        · exact ⟨by omega, by omega⟩
        show LoadC Tryz.prog TB _ _ _
        first | refine wx_ldc rfl kn2 (by constructor) (by exact sz2.symm) (by exact ag2.symm) ?_ | refine w_ldp rfl kn2 rfl (by constructor) (by exact sz2.symm) (by exact ag2.symm) ?_
        show WOps _ _ _ _ _ _ _
        refine wm ?_
        refine wm ?_
        refine w_iar rfl rfl und24 kn2 (by exact sz2.symm) ?_ rfl ?_
        · exact ⟨by omega, by omega⟩
        show LoadC Tryz.prog TB _ _ _
        first | refine wx_ldc rfl kn2 (by constructor) (by exact sz2.symm) (by exact ag2.symm) ?_ | refine w_ldp rfl kn2 rfl (by constructor) (by exact sz2.symm) (by exact ag2.symm) ?_
        show WOps _ _ _ _ _ _ _
        refine y_mul rfl rfl ?_
        refine y_sub rfl rfl ?_
        refine y_call rfl (ec (ec exn)) (c_l01Mod (by omega) (by omega)) ?_
        refine w_iao rfl rfl und24 kn2 ?_ ?_
        · exact ⟨by omega, by omega⟩
        first | refine w_stw rfl (by constructor) kn2 rfl (by exact trivial) (sx) (by exact sz2.symm) ?_ | refine w_sti rfl rfl kn2 rfl (by exact trivial) (by exact sz2.symm) ?_ | refine w_store rfl (HV.eq (by constructor)) kn2 rfl (by exact trivial) (sx) (by exact sz2.symm) (pin_) ?_ | refine w_store rfl (HV.eq (by constructor)) kn2 rfl (by exact trivial) (by exact trivial) (by exact sz2.symm) rfl ?_
        exact hRR
      apply lr tokTB (by kernel_rfl)
      · intro RR hRR
        refine wm ?_
        refine y_add rfl rfl ?_
        refine wa ?_
        exact hRR
      refine ⟨k + 1, ρ0, ?_, (by omega), (by dsimp only; omega)⟩
      exact ⟨⟨(mi), (by first | exact mt_row (V := _) (fun _ _ => rfl) | exact mt_fz (by exact ⟨(ne_fst rfl), trivial⟩) rfl (fun _ _ => rfl)), (by first | exact mt_row (V := _) (fun _ _ => rfl) | exact mt_fz (by exact ⟨(ne_fst rfl), trivial⟩) rfl (fun _ _ => rfl)), (mi), (by first | exact ⟨rfl, rfl, rfl, rfl⟩ | exact ⟨rfl, by omega, rfl, rfl⟩), (mi), trivial⟩, ⟨⟨rfl, (sx), (by exact mt_vec (fun z _ => poQ_s (by rw [hq1, Int.zero_add, Int.emod_eq_of_lt hpo.1 hpo.2]) (po_step hpb (hcb i lt_i) ((upd_ne _ _ (by omega)).trans poQ_k))))⟩, trivial⟩, ⟨⟨(fun h => by first | exact ⟨rfl, rfl⟩ | exact absurd h (by decide)), trivial⟩, trivial⟩⟩
    · try simp only [hcs] at hc28
      have ge_k : (i + 1) = k := by omega
      subst ge_k
      refine snd_exit ?_
      apply lr tokTB (by kernel_rfl)
      · intro RR hRR
        refine wm ?_
        refine wa ?_
        exact hRR
      apply lr tokTB (by kernel_rfl)
      · intro RR hRR
        refine wm ?_
        refine y_add rfl rfl ?_
        refine wa ?_
        exact hRR
      refine ⟨i + 1, (fun k i => bif Nat.beq k 906 then (24, i) else (k, i)), ?_, (by omega), (by dsimp only; omega)⟩
      exact ⟨⟨(mi), (by first | exact mt_row (V := _) (fun _ _ => rfl) | exact mt_fz (by exact ⟨(ne_fst rfl), trivial⟩) rfl (fun _ _ => rfl)), (by first | exact ⟨rfl, rfl, rfl, rfl⟩ | exact ⟨rfl, by omega, rfl, rfl⟩), (mi), trivial⟩, ⟨⟨rfl, (sx), (by exact mt_vec (fun j hj => poQ_e (by omega) (by omega)))⟩, trivial⟩, ⟨⟨(fun h => by first | exact ⟨rfl, rfl⟩ | exact absurd h (by decide)), trivial⟩, trivial⟩⟩
  · try simp only [hcs] at hc18
    have ge_i : n = i := by omega
    subst ge_i
    refine snd_exit ?_
    refine snd_emb (ρ := ρ0) (env2 := [(1, rowA n c), (6, rowA (n + 1) (po p c n))]) (ol2 := []) ?_ ?_
    · exact ⟨⟨(by first | exact mt_row (V := _) (fun _ _ => rfl) | exact mt_fz (by exact trivial) rfl (fun _ _ => rfl)), (by exact mt_fz trivial rfl (fun _ _ => rfl)), trivial⟩, trivial, trivial⟩
    apply sr tokTB (by kernel_rfl)
    · intro RR hRR
      refine wm ?_
      refine wm ?_
      refine w_len_r rfl rfl und24 ?_
      refine w_sl_rh rfl rfl und24 kn2 (by exact sz2.symm) (by omega) ?_
      refine w_call rfl (ec exn) (c_l01Own (m := n) (f := po p c n) (by omega) (by omega)) (.inl ⟨trivial, ⟨fun _ => trivial, trivial⟩⟩) rfl (by constructor) rfl ?_
      refine wa ?_
      refine wa ?_
      exact hRR
    refine snd_ret ?_
    show retQ TB _ _ _ _ _ _
    show retQ TB _ _ _ _ _ _
    exact rt_own_u rfl (fun V => rfl) rfl rfl (fun _ => trivial) (fun V i hi => rfl)
theorem c_sProd_no {p : Int} {n : Nat} {c : Nat → Int} (hp0 : -1000000 ≤ p ∧ p ≤ 1000000) (hn0 : n ≤ 1000) (h : ¬ PO p n c) : ACalls Tryz.prog TB 19 [.int .i64 p, rowA n c] (.tup 2 (pairA .nilsl (.int .i64 2))) [] := by
  refine acalls_of tokTB Tryz.func19 rfl rfl (Nat.le_of_ble_eq_true rfl) ?_
  apply sr tokTB (by kernel_rfl)
  · intro RR hRR
    refine wa ?_
    refine wa ?_
    exact hRR
  refine snd_seq ?_
  apply sr tokTB (by kernel_rfl)
  · intro RR hRR
    refine wm ?_
    refine wm ?_
    refine y_call rfl (ec (ec exn)) ((poC_f h) ▸ c_l09Poly (f := c) hp0 hn0) ?_
    refine w_neq rfl rfl ?_
    exact hRR
  refine snd_cond_true rfl ?_
  apply sr tokTB (by kernel_rfl)
  · intro RR hRR
    refine wa ?_
    refine wa ?_
    exact hRR
  refine snd_ret ?_
  exact rt_tt (T := TB) (fun V => rfl) (fun V => rfl)
end Go.Am

set_option maxRecDepth 4000
namespace Go.Am
attribute [local irreducible] retQ retQp
open Go.Proofs
theorem c_l01Next {len : Nat} {z : Nat → Int} (hz : ∀ i, 0 ≤ z i ∧ z i < 256) (hl : len ≤ 1000000) {n : Int} (s : Ss) : MCalls Tryz.prog TB 41 [0] [.ptr 0 0 [] 0 (rtS len z), .int .i64 n] [(0, .one (rtS len z) (srcS len z (s)))] (.int .i64 (sxF len z n s)) [(0, .one (rtS len z) (srcS len z (snF len n s)))] := by
  have hv := nvF_bd s.h
  have hza := hz s.a
  refine mcalls_of tokTB Tryz.func41 rfl rfl (Nat.le_of_ble_eq_true rfl) ⟨rfl, trivial⟩ ?_
  apply srp tokTB (by kernel_rfl)
  · intro RR hRR
    refine wa ?_
    exact hRR
  refine snp_seq ?_
  apply srp tokTB (by kernel_rfl)
  · intro RR hRR
    refine wm ?_
    refine w_lss rfl rfl ?_
    exact hRR
  refine snp_cond _ rfl (fun hc7 => ?_) (fun hc7 => ?_)
  · try simp only [hcs] at hc7
    apply srp tokTB (by kernel_rfl)
    · intro RR hRR
      refine wa ?_
      exact hRR
    refine snp_ret ?_
    have hs : snF len n s = s := if_pos (by omega)
    exact rtp (ρ := ρ0) ⟨⟨m_int (by unfold sxF; rw [if_pos (by omega)]), trivial⟩, ⟨⟨rfl, ssh_src, m_src (by rw [hs]) (by rw [hs])⟩, trivial⟩, ⟨⟨fun _ => ⟨rfl, rfl⟩, trivial⟩, trivial⟩⟩ ⟨⟨fun _ => rfl, rfl⟩, trivial⟩
  · try simp only [hcs] at hc7
    refine snp_skip ?_
    apply srp tokTB (by kernel_rfl)
    · intro RR hRR
      refine wm ?_
      refine wm ?_
      refine w_nilp rfl ?_
      refine w_fap rfl und81 rfl kn79 nz79 rfl (by decide) rfl ?_
      first | refine w_ldc rfl kn79 (by constructor) (by exact sz79.symm) (by exact ag79.symm) ?_ | refine w_ldp rfl kn79 rfl (by constructor) (by exact sz79.symm) (by exact ag79.symm) ?_
      refine w_mul rfl rfl (by exact rfl) ?_
      refine w_add rfl rfl (by exact rfl) ?_
      refine w_nilp rfl ?_
      refine w_fap rfl und81 rfl kn79 nz79 rfl (by decide) rfl ?_
      first | refine w_stw rfl (by constructor) kn79 rfl (by exact trivial) (sx) (by exact sz79.symm) ?_ | refine w_sti rfl rfl kn79 rfl (by exact trivial) (by exact sz79.symm) ?_ | refine w_store rfl (HV.eq (by constructor)) kn79 rfl (by exact trivial) (sx) (by exact sz79.symm) (pin_) ?_ | refine w_store rfl (HV.eq (by constructor)) kn79 rfl (by exact trivial) (by exact trivial) (by exact sz79.symm) rfl ?_
      exact hRR
    apply srp tokTB (by kernel_rfl)
    · intro RR hRR
      refine wm ?_
      refine w_nilp rfl ?_
      refine w_fap rfl und81 rfl kn79 nz79 rfl (by decide) rfl ?_
      first | refine w_ldc rfl kn79 (by constructor) (by exact sz79.symm) (by exact ag79.symm) ?_ | refine w_ldp rfl kn79 rfl (by constructor) (by exact sz79.symm) (by exact ag79.symm) ?_
      refine w_shr rfl rfl (by omega) (by exact rfl) ?_
      refine w_and rfl rfl (by exact rfl) ?_
      refine w_conv rfl und79 und2 (by exact rfl) ?_
      refine wa ?_
      exact hRR
    refine snp_seq ?_
    apply sdp tokTB mixed (by kernel_rfl) (by kernel_rfl)
    · intro RR hRR
      refine wm ?_
      refine w_nilp rfl ?_
      refine w_fap rfl und81 rfl kn3 nz3 rfl (by decide) rfl ?_
      first | refine w_ldc rfl kn3 (by constructor) (by exact sz3.symm) (by exact ag3.symm) ?_ | refine w_ldp rfl kn3 rfl (by constructor) (by exact sz3.symm) (by exact ag3.symm) ?_
      refine wm ?_
      refine w_nilp rfl ?_
      refine w_fap rfl und81 rfl kn22 nz22 rfl (by decide) rfl ?_
      first | refine w_ldc rfl kn22 (by constructor) (by exact sz22.symm) (by exact ag22.symm) ?_ | refine w_ldp rfl kn22 rfl (by constructor) (by exact sz22.symm) (by exact ag22.symm) ?_
      first | refine w_len_r rfl rfl und22 ?_ | refine w_len_o rfl rfl und22 ?_ | refine w_len_n rfl rfl und22 ?_
      refine w_lss rfl rfl ?_
      exact hRR
    refine snp_cond _ rfl (fun hc33 => ?_) (fun hc33 => ?_)
    · try simp only [hcs] at hc33
      have ha : s.a < len := by omega
      apply sdp tokTB mixed (by kernel_rfl) (by kernel_rfl)
      · intro RR hRR
        refine wm ?_
        refine wm ?_
        refine w_nilp rfl ?_
        refine w_fap rfl und81 rfl kn22 nz22 rfl (by decide) rfl ?_
        first | refine w_ldc rfl kn22 (by constructor) (by exact sz22.symm) (by exact ag22.symm) ?_ | refine w_ldp rfl kn22 rfl (by constructor) (by exact sz22.symm) (by exact ag22.symm) ?_
        refine wm ?_
        refine w_nilp rfl ?_
        refine w_fap rfl und81 rfl kn3 nz3 rfl (by decide) rfl ?_
        first | refine w_ldc rfl kn3 (by constructor) (by exact sz3.symm) (by exact ag3.symm) ?_ | refine w_ldp rfl kn3 rfl (by constructor) (by exact sz3.symm) (by exact ag3.symm) ?_
        refine w_iar rfl rfl und22 kn5 (by exact sz5.symm) ?_ rfl ?_
        · exact ⟨by omega, by omega⟩
        first | refine w_ldc rfl kn5 (by constructor) (by exact sz5.symm) (by exact ag5.symm) ?_ | refine w_ldp rfl kn5 rfl (by constructor) (by exact sz5.symm) (by exact ag5.symm) ?_
        refine w_conv rfl und5 und2 (by exact w64 (n := z s.a) (by omega) (by omega)) ?_
        refine w_add rfl rfl (by exact w64 (n := nvF s.h + z s.a) (by omega) (by omega)) ?_
        refine wa ?_
        exact hRR
      apply lrp tokTB (by kernel_rfl)
      · intro RR hRR
        refine wm ?_
        refine wm ?_
        refine w_nilp rfl ?_
        refine w_fap rfl und81 rfl kn3 nz3 rfl (by decide) rfl ?_
        first | refine w_ldc rfl kn3 (by constructor) (by exact sz3.symm) (by exact ag3.symm) ?_ | refine w_ldp rfl kn3 rfl (by constructor) (by exact sz3.symm) (by exact ag3.symm) ?_
        refine w_add rfl rfl (by exact w64 (n := (s.a : Int) + 1) (by omega) (by omega)) ?_
        refine w_nilp rfl ?_
        refine w_fap rfl und81 rfl kn3 nz3 rfl (by decide) rfl ?_
        first | refine w_stw rfl (by constructor) kn3 rfl (by exact trivial) (sx) (by exact sz3.symm) ?_ | refine w_sti rfl rfl kn3 rfl (by exact trivial) (by exact sz3.symm) ?_ | refine w_store rfl (HV.eq (by constructor)) kn3 rfl (by exact trivial) (sx) (by exact sz3.symm) (pin_) ?_ | refine w_store rfl (HV.eq (by constructor)) kn3 rfl (by exact trivial) (by exact trivial) (by exact sz3.symm) rfl ?_
        exact hRR
      apply srp tokTB (by kernel_rfl)
      · intro RR hRR
        refine wm ?_
        refine wm ?_
        refine w_rem rfl rfl (by first | assumption | omega) ?_
        refine wa ?_
        exact hRR
      refine snp_ret ?_
      have hs : snF len n s = ⟨s.a + 1, nhF s.h⟩ := by unfold snF; rw [if_neg (by omega), if_pos ha]
      exact rtp (ρ := ρ0) ⟨⟨m_int (by unfold sxF; rw [if_neg (by omega), if_pos ha] <;> rfl), trivial⟩, ⟨⟨rfl, ssh_src, mt_srcG rfl (by rw [hs] <;> rfl) (by rw [hs] <;> rfl)⟩, trivial⟩, ⟨⟨fun _ => ⟨rfl, rfl⟩, trivial⟩, trivial⟩⟩ ⟨⟨fun _ => rfl, rfl⟩, trivial⟩
    · try simp only [hcs] at hc33
      have ha : ¬ s.a < len := by omega
      refine snp_skip ?_
      apply srp tokTB (by kernel_rfl)
      · intro RR hRR
        refine wm ?_
        refine wm ?_
        refine w_rem rfl rfl (by first | assumption | omega) ?_
        refine wa ?_
        exact hRR
      refine snp_ret ?_
      have hs : snF len n s = ⟨s.a, nhF s.h⟩ := by unfold snF; rw [if_neg (by omega), if_neg ha]
      exact rtp (ρ := ρ0) ⟨⟨m_int (by unfold sxF; rw [if_neg (by omega), if_neg ha] <;> rfl), trivial⟩, ⟨⟨rfl, ssh_src, mt_srcG rfl (by rw [hs] <;> rfl) (by rw [hs] <;> rfl)⟩, trivial⟩, ⟨⟨fun _ => ⟨rfl, rfl⟩, trivial⟩, trivial⟩⟩ ⟨⟨fun _ => rfl, rfl⟩, trivial⟩
theorem c_l01Pick {len : Nat} {z : Nat → Int} (hz : ∀ i, 0 ≤ z i ∧ z i < 256) (hl : len ≤ 1000000) {m : Nat} {f : Nat → Int} (hm : 1 ≤ m ∧ m ≤ 1000) (s : Ss) : MCalls Tryz.prog TB 59 [0] [.ptr 0 0 [] 0 (rtS len z), rowA m f] [(0, .one (rtS len z) (srcS len z (s)))] (.int .i64 (f (sxF len z m s).toNat)) [(0, .one (rtS len z) (srcS len z (snF len m s)))] := by
  have hb := sxF_bd (len := len) hz (m : Int) s
  have hb2 := hb.2 (by omega)
  refine mcalls_of tokTB Tryz.func59 rfl rfl (Nat.le_of_ble_eq_true rfl) ⟨rfl, trivial⟩ ?_
  apply srp tokTB (by kernel_rfl)
  · intro RR hRR
    refine wa ?_
    exact hRR
  apply srDp tokTB (ops1 := [_, _, _, _]) (ops2 := [_, _, _]) (by kernel_rfl) rfl rfl
  · intro RR hRR
    refine wm ?_
    refine wm ?_
    refine wm ?_
    refine w_len_r rfl rfl und24 ?_
    exact hRR
  · exact mut_ptr1 tokTB (c_l01Next hz hl (n := (m : Int)) (s)) (args := [.tmp 8]) rfl rfl ⟨trivial, trivial⟩ trivial closed_src closed_src rfl
  · intro RR hRR
    refine w_iar rfl rfl und24 kn2 (by exact sz2.symm) ?_ rfl ?_
    · exact ⟨hb.1, hb2⟩
    first | refine w_ldc rfl kn2 (by constructor) (by exact sz2.symm) (by exact ag2.symm) ?_ | refine w_ldp rfl kn2 rfl (by constructor) (by exact sz2.symm) (by exact ag2.symm) ?_
    refine wa ?_
    exact hRR
  refine snp_ret ?_
  exact rtp (ρ := ρ0) ⟨⟨m_int rfl, trivial⟩, ⟨⟨rfl, ssh_src, m_src rfl rfl⟩, trivial⟩, ⟨⟨fun _ => ⟨rfl, rfl⟩, trivial⟩, trivial⟩⟩ ⟨⟨fun _ => rfl, rfl⟩, trivial⟩
theorem c_l01DrawPrime {len : Nat} {z : Nat → Int} (hz : ∀ i, 0 ≤ z i ∧ z i < 256) (hl : len ≤ 1000000) (s : Ss) : MCalls Tryz.prog TB 43 [0] [.ptr 0 0 [] 0 (rtS len z)] [(0, .one (rtS len z) (srcS len z (s)))] (.int .i64 (drP len z s)) [(0, .one (rtS len z) (srcS len z (snF len 7 s)))] := by
  refine mcalls_of tokTB Tryz.func43 rfl rfl (Nat.le_of_ble_eq_true rfl) ⟨rfl, trivial⟩ ?_
  apply srp tokTB (by kernel_rfl)
  · intro RR hRR
    refine wa ?_
    exact hRR
  apply srDpE tokTB (ops1 := [_, _]) (ops2 := [_]) (ρ := ρ0) (env1 := [(2, .int .i64 0), (3, .ptr 0 0 [] 0 (rtS len z)), (4, rowA 7 pmL)]) (ol1 := [(0, .one ((rtS len z)) (srcS len z (s)))]) (by kernel_rfl) rfl rfl
  · intro RR hRR
    refine wm ?_
    refine w_bsl und24 kn2 (by rw [sz2]; rfl) rfl (by exact ⟨⟨by decide, trivial, sz2.symm⟩, ⟨by decide, trivial, sz2.symm⟩, ⟨by decide, trivial, sz2.symm⟩, ⟨by decide, trivial, sz2.symm⟩, ⟨by decide, trivial, sz2.symm⟩, ⟨by decide, trivial, sz2.symm⟩, ⟨by decide, trivial, sz2.symm⟩, trivial⟩) (by exact ⟨(sx), (sx), (sx), (sx), (sx), (sx), (sx), trivial⟩) rfl ?_
    refine hRR _ _ ?_
    exact ⟨⟨(mi), ⟨rfl, rfl, rfl, rfl, rfl⟩, (by exact mt_fz (by exact ⟨(ne_fst rfl), trivial⟩) rfl (fun j hj => by match j, hj with | 0, _ => rfl | 1, _ => rfl | 2, _ => rfl | 3, _ => rfl | 4, _ => rfl | 5, _ => rfl | 6, _ => rfl)), trivial⟩, ⟨⟨rfl, (sx), (by exact m_src rfl rfl)⟩, trivial⟩, ⟨⟨(fun h => by first | exact ⟨rfl, rfl⟩ | exact absurd h (by decide)), trivial⟩, trivial⟩⟩
  · exact ⟨⟨fun _ => rfl, rfl⟩, trivial⟩
  · exact mut_ptr1 tokTB (c_l01Pick hz hl (m := 7) (f := pmL) (by omega) s) (args := [.tmp 4]) rfl rfl ⟨(fun _ => trivial), trivial⟩ trivial closed_src closed_src rfl
  · intro RR hRR
    refine wa ?_
    exact hRR
  refine snp_ret ?_
  exact rtp (ρ := ρ0) ⟨⟨m_int rfl, trivial⟩, ⟨⟨rfl, ssh_src, m_src rfl rfl⟩, trivial⟩, ⟨⟨fun _ => ⟨rfl, rfl⟩, trivial⟩, trivial⟩⟩ ⟨⟨fun _ => rfl, rfl⟩, trivial⟩
theorem c_l01Near {len : Nat} {z : Nat → Int} (hz : ∀ i, 0 ≤ z i ∧ z i < 256) (hl : len ≤ 1000000) {m : Int} (hm : -1000000 ≤ m ∧ m ≤ 1000000) (s : Ss) : MCalls Tryz.prog TB 42 [0] [.ptr 0 0 [] 0 (rtS len z), .int .i64 m] [(0, .one (rtS len z) (srcS len z (s)))] (.int .i64 (nrX len z m s)) [(0, .one (rtS len z) (srcS len z (nrS len z m s)))] := by
  refine mcalls_of tokTB Tryz.func42 rfl rfl (Nat.le_of_ble_eq_true rfl) ⟨rfl, trivial⟩ ?_
  apply srp tokTB (by kernel_rfl)
  · intro RR hRR
    refine wa ?_
    exact hRR
  refine snp_seq ?_
  apply srDp tokTB (ops1 := [_]) (ops2 := [_]) (by kernel_rfl) rfl rfl
  · intro RR hRR
    refine wm ?_
    exact hRR
  · exact mut_ptr1 tokTB (c_l01Next hz hl (n := 14) (s)) (args := [.const (.int .i64 14)]) rfl rfl ⟨trivial, trivial⟩ trivial closed_src closed_src rfl
  · intro RR hRR
    refine w_eql rfl rfl ?_
    exact hRR
  refine snp_cond _ rfl (fun hc7 => ?_) (fun hc7 => ?_)
  · try simp only [hcs] at hc7
    apply srDpE tokTB (ops1 := [_, _, _, _]) (ops2 := [_]) (ρ := ρ0) (env1 := [(4, .int .i64 0), (8, .ptr 0 0 [] 0 (rtS len z)), (11, rowA 4 (pk4 (m + 1)))]) (ol1 := [(0, .one ((rtS len z)) (srcS len z (snF len 14 s)))]) (by kernel_rfl) rfl rfl
    · intro RR hRR
      refine wm ?_
      refine wm ?_
      refine y_add rfl rfl ?_
      refine w_bsl und24 kn2 (by rw [sz2]; rfl) rfl (by exact ⟨⟨by decide, trivial, sz2.symm⟩, ⟨by decide, trivial, sz2.symm⟩, ⟨by decide, trivial, sz2.symm⟩, ⟨by decide, trivial, sz2.symm⟩, trivial⟩) (by exact ⟨(sx), (sx), (sx), (sx), trivial⟩) rfl ?_
      refine hRR _ _ ?_
      exact ⟨⟨(mi), ⟨rfl, rfl, rfl, rfl, rfl⟩, (by exact mt_fz (by exact ⟨(ne_fst rfl), trivial⟩) rfl (fun j hj => by match j, hj with | 0, _ => rfl | 1, _ => rfl | 2, _ => rfl | 3, _ => rfl)), trivial⟩, ⟨⟨rfl, (sx), (by exact m_src rfl rfl)⟩, trivial⟩, ⟨⟨(fun h => by first | exact ⟨rfl, rfl⟩ | exact absurd h (by decide)), trivial⟩, trivial⟩⟩
    · exact ⟨⟨fun _ => rfl, rfl⟩, trivial⟩
    · exact mut_ptr1 tokTB (c_l01Pick hz hl (m := 4) (f := pk4 (m + 1)) (by omega) (snF len 14 s)) (args := [.tmp 11]) rfl rfl ⟨(fun _ => trivial), trivial⟩ trivial closed_src closed_src rfl
    · intro RR hRR
      refine wa ?_
      exact hRR
    refine snp_ret ?_
    have hs : nrS len z m s = snF len 4 (snF len 14 s) := if_pos (by assumption)
    exact rtp (ρ := ρ0) ⟨⟨m_int (show _ = nrX len z m s from (if_pos (by assumption)).symm), trivial⟩, ⟨⟨rfl, ssh_src, m_src (by rw [hs] <;> rfl) (by rw [hs] <;> rfl)⟩, trivial⟩, ⟨⟨fun _ => ⟨rfl, rfl⟩, trivial⟩, trivial⟩⟩ ⟨⟨fun _ => rfl, rfl⟩, trivial⟩
  · try simp only [hcs] at hc7
    refine snp_skip ?_
    apply srDp tokTB (ops1 := [_, _, _]) (ops2 := [_]) (by kernel_rfl) rfl rfl
    · intro RR hRR
      refine wm ?_
      refine wm ?_
      refine y_add rfl rfl ?_
      exact hRR
    · exact mut_ptr1 tokTB (c_l01Next hz hl (n := (m + 1)) (snF len 14 s)) (args := [.tmp 15]) rfl rfl ⟨trivial, trivial⟩ trivial closed_src closed_src rfl
    · intro RR hRR
      refine wa ?_
      exact hRR
    refine snp_ret ?_
    have hs : nrS len z m s = snF len (m + 1) (snF len 14 s) := if_neg (by assumption)
    exact rtp (ρ := ρ0) ⟨⟨m_int (show _ = nrX len z m s from (if_neg (by assumption)).symm), trivial⟩, ⟨⟨rfl, ssh_src, m_src (by rw [hs] <;> rfl) (by rw [hs] <;> rfl)⟩, trivial⟩, ⟨⟨fun _ => ⟨rfl, rfl⟩, trivial⟩, trivial⟩⟩ ⟨⟨fun _ => rfl, rfl⟩, trivial⟩
theorem zr81 : TB.zero 81 = src0 := by
  refine congrArg (AV.sct 3) (funext fun i => ?_)
  match i with
  | 0 => rfl
  | 1 => rfl
  | 2 => rfl
  | n + 3 => rfl
theorem c_l01From {len : Nat} {z : Nat → Int} (hz : ∀ i, 0 ≤ z i ∧ z i < 256) (hl : len ≤ 1000000) : ACalls Tryz.prog TB 25 [codeA len z] (.ptr 0 0 [] 0 (rtS len z)) [(0, .one (rtS len z) (srcS len z (frS len z)))] := by
  have hcc : (codeA len z).closed := fun _ => trivial
  refine acalls_of tokTB Tryz.func25 rfl rfl (Nat.le_of_ble_eq_true rfl) ?_
  apply sr tokTB (by kernel_rfl)
  · intro RR hRR
    refine wa ?_
    exact hRR
  apply sr tokTB (by kernel_rfl)
  · intro RR hRR
    refine wm ?_
    refine wm ?_
    first | refine w_len_r rfl rfl und22 ?_ | refine w_len_o rfl rfl und22 ?_ | refine w_len_n rfl rfl und22 ?_
    refine w_conv rfl und3 und79 (by exact rfl) ?_
    refine w_add rfl rfl (by exact rfl) ?_
    refine w_bld_s kn81 zr81 und81 rfl (by exact ⟨rfl, kn22, sz22, rfl, kn3, sz3, rfl, kn79, sz79, trivial⟩) (by exact ⟨⟨by decide, trivial, rfl⟩, ⟨by decide, trivial, rfl⟩, trivial⟩) (c := srcF len z 0 (h0F len)) (funext fun i => by match i with | 0 => rfl | 1 => rfl | 2 => rfl | i + 3 => rfl) ?_
    refine w_boxp (HV.eq (by constructor)) (by exact trivial) rfl ssh_src ?_
    refine wa ?_
    exact hRR
  refine snd_seq ?_
  apply sr tokTB (by kernel_rfl)
  · intro RR hRR
    refine wa ?_
    exact hRR
  refine snd_block ?_
  refine snd_loop (S := Nat) (fun i => ([(0, codeA len z), (3, .ptr 11 0 [] 0 (rtS len z)), (4, .int .i64 (i : Int))], [(11, .one ((rtS len z)) (srcA len z 0 (fhF len z (i))))])) (fun i => i ≤ (min len 4096)) (fun i => (min len 4096) - i) (0) ρ0 ?_ ?_ ?_
  · exact ⟨⟨(by exact Mt_closed (V := _) (by assumption) (fun _ _ _ => trivial) (by simp)), ⟨rfl, rfl, rfl, rfl, rfl⟩, (mi), trivial⟩, ⟨⟨rfl, (sx), (by exact m_src rfl rfl)⟩, trivial⟩, ⟨⟨(fun h => by first | exact ⟨rfl, rfl⟩ | exact absurd h (by decide)), trivial⟩, trivial⟩⟩
  · exact Nat.zero_le _
  intro i hi0
  refine sq (env2 := [(0, codeA len z), (3, .ptr 11 0 [] 0 (rtS len z)), (4, .int .i64 (i : Int))]) (ol2 := [(11, .one ((rtS len z)) (srcA len z 0 (fhF len z (i))))]) rfl rfl ?_
  refine snd_seq ?_
  apply srG (env' := (19, .bool (decide ((i : Int) < (len : Int)) && decide ((i : Int) < 4096))) :: (18, .any) :: (17, .any) :: (16, .bool (decide ((i : Int) < (len : Int)))) :: (15, _) :: (14, _) :: (13, _) :: (12, _) :: _) tokTB (by kernel_rfl)
  · intro RR hRR
    refine wm ?_
    refine wm ?_
    first | refine w_len_r rfl rfl und22 ?_ | refine w_len_o rfl rfl und22 ?_ | refine w_len_n rfl rfl und22 ?_
    refine w_lss rfl rfl ?_
    refine wm ?_
    refine w_g rfl rfl (fun hg4 => ?_) (fun hg4 => ?_)
    · skip
      refine wm ?_
      refine w_g_on rfl rfl hg4 ?_
      refine w_lss rfl rfl ?_
      refine w_pick_1 rfl hg4 (by constructor) ?_
      try simp only [Int.toNat_natCast] at hg4
      exact hRR _ (EL.cons (.inr (by first | (simp only [hg4, els]; done) | (simp only [hg4, els, Bool.true_and, Bool.false_and]; done) | rfl)) (EL.cons (.inl rfl) (EL.cons (.inl rfl) (EL.cons (.inr (by first | (simp only [hg4, els]; done) | (simp only [hg4, els, Bool.true_and, Bool.false_and]; done) | rfl)) (EL.cons (.inr rfl) (EL.cons (.inr rfl) (EL.cons (.inr rfl) (EL.cons (.inr rfl) (EL.refl _)))))))))
    · have hg4 := eq_false_of_ne_true hg4
      refine w_g_off rfl rfl (by rw [hg4]; decide) ?_
      refine w_pick_0 rfl hg4 (by constructor) ?_
      try simp only [Int.toNat_natCast] at hg4
      exact hRR _ (EL.cons (.inr (by first | (simp only [hg4, els]; done) | (simp only [hg4, els, Bool.true_and, Bool.false_and]; done) | rfl)) (EL.cons (.inl rfl) (EL.cons (.inl rfl) (EL.cons (.inr (by first | (simp only [hg4, els]; done) | (simp only [hg4, els, Bool.true_and, Bool.false_and]; done) | rfl)) (EL.cons (.inr rfl) (EL.cons (.inr rfl) (EL.cons (.inr rfl) (EL.cons (.inr rfl) (EL.refl _)))))))))
  refine snd_cond _ rfl (fun hc19 => ?_) (fun hc19 => ?_)
  · skip
    have hi2 : (i : Int) < len ∧ (i : Int) < 4096 := by simpa using hc19
    have lt_i : i < min len 4096 := by omega
    refine snd_skip ?_
    refine snd_seq ?_
    refine snd_block ?_
    apply ldX tokTB mixed [9] (by kernel_rfl) (by kernel_rfl)
    · intro RR hRR
      show WOps _ _ _ _ _ _ _
      refine wm ?_
      refine wm ?_
      refine w_nilp rfl ?_
      refine w_fap rfl und81 rfl kn79 nz79 rfl (by decide) rfl ?_
      first | refine w_ldc rfl kn79 (by constructor) (by exact sz79.symm) (by exact ag79.symm) ?_ | refine w_ldp rfl kn79 rfl (by constructor) (by exact sz79.symm) (by exact ag79.symm) ?_
      refine w_mul rfl rfl (by exact rfl) ?_
      refine wm ?_
      refine wm ?_
      refine w_iar rfl rfl und22 kn5 (by exact sz5.symm) ?_ rfl ?_
      · exact ⟨by omega, by omega⟩
      show LoadC Tryz.prog TB _ _ _
      first | refine wx_ldc rfl kn5 (by constructor) (by exact sz5.symm) (by exact ag5.symm) ?_ | refine w_ldp rfl kn5 rfl (by constructor) (by exact sz5.symm) (by exact ag5.symm) ?_
      show WOps _ _ _ _ _ _ _
      refine w_conv rfl und5 und79 (by exact rfl) ?_
      refine w_add rfl rfl (by exact rfl) ?_
      refine w_add rfl rfl (by exact rfl) ?_
      refine w_nilp rfl ?_
      refine w_fap rfl und81 rfl kn79 nz79 rfl (by decide) rfl ?_
      first | refine w_stw rfl (by constructor) kn79 rfl (by exact trivial) (sx) (by exact sz79.symm) ?_ | refine w_sti rfl rfl kn79 rfl (by exact trivial) (by exact sz79.symm) ?_ | refine w_store rfl (HV.eq (by constructor)) kn79 rfl (by exact trivial) (sx) (by exact sz79.symm) (pin_) ?_ | refine w_store rfl (HV.eq (by constructor)) kn79 rfl (by exact trivial) (by exact trivial) (by exact sz79.symm) rfl ?_
      exact hRR
    apply lr tokTB (by kernel_rfl)
    · intro RR hRR
      refine wm ?_
      refine y_add rfl rfl ?_
      refine wa ?_
      exact hRR
    refine ⟨i + 1, ρ0, ?_, (by omega), (by dsimp only; omega)⟩
    exact ⟨⟨(by exact Mt_closed (V := _) (by assumption) (fun _ _ _ => trivial) (by simp)), ⟨rfl, rfl, rfl, rfl, rfl⟩, (mi), trivial⟩, ⟨⟨rfl, (sx), (by exact mt_srcG rfl rfl rfl)⟩, trivial⟩, ⟨⟨(fun h => by first | exact ⟨rfl, rfl⟩ | exact absurd h (by decide)), trivial⟩, trivial⟩⟩
  · skip
    have ge_i : min len 4096 = i := by have : ¬ ((i : Int) < len ∧ (i : Int) < 4096) := (fun q => by rw [decide_eq_true q.1, decide_eq_true q.2] at hc19; exact absurd hc19 (by decide)); omega
    refine snd_exit ?_
    apply sr tokTB (by kernel_rfl)
    · intro RR hRR
      refine wm ?_
      refine wa ?_
      exact hRR
    refine snd_ret ?_
    show retQ TB _ _ _ _ _ _
    exact rt_ptr rfl rfl ssh_src (fun V => m_src rfl (by show fhF len z i = fhF len z (min len 4096); rw [ge_i]))
end Go.Am

set_option maxRecDepth 4000
namespace Go.Am
attribute [local irreducible] retQ retQp
open Go.Proofs
theorem c_l09List {len : Nat} {z : Nat → Int} (hz : ∀ i, 0 ≤ z i ∧ z i < 256) (hl : len ≤ 1000000) (s : Ss) : MCalls Tryz.prog TB 24 [0] [.ptr 0 0 [] 0 (rtS len z)] [(0, .one (rtS len z) (srcS len z (s)))] (.tup 2 (pairA (.int .i64 (l9F len z s).p) (rowA (l9F len z s).n (l9F len z s).f))) [(0, .one (rtS len z) (srcS len z ((l9F len z s).s)))] := by
  have hp := drP_bd (len := len) hz s
  have hpb := primeB_bd hp
  have hk4 := l9k_bd (len := len) hz (m := 4) (by omega) s
  have hk6 := l9k_bd (len := len) hz (m := 6) (by omega) s
  have hx4 := sxF_bd (len := len) hz 4 (l9s len s)
  have hx6 := sxF_bd (len := len) hz 6 (l9s len s)
  obtain ⟨hA1, hA2, hA3⟩ := l9a_bd (len := len) hz s
  refine mcalls_of tokTB Tryz.func24 rfl rfl (Nat.le_of_ble_eq_true rfl) ⟨rfl, trivial⟩ ?_
  apply srp tokTB (by kernel_rfl)
  · intro RR hRR
    refine wa ?_
    refine wa ?_
    exact hRR
  apply srDp tokTB (ops1 := [_]) (ops2 := [_, _, _]) (by kernel_rfl) rfl rfl
  · intro RR hRR
    refine wm ?_
    exact hRR
  · exact mut_ptr1 tokTB (c_l01DrawPrime hz hl s) (args := []) rfl rfl trivial trivial closed_src closed_src rfl
  · intro RR hRR
    refine w_bsl und24 kn2 (by rw [sz2]; rfl) rfl trivial trivial rfl ?_
    refine wa ?_
    refine wa ?_
    exact hRR
  refine snp_seq ?_
  apply srDp tokTB (ops1 := [_]) (ops2 := [_]) (by kernel_rfl) rfl rfl
  · intro RR hRR
    refine wm ?_
    exact hRR
  · exact mut_ptr1 tokTB (c_l01Next hz hl (n := 2) (snF len 7 s)) (args := [.const (.int .i64 2)]) rfl rfl ⟨trivial, trivial⟩ trivial closed_src closed_src rfl
  · intro RR hRR
    refine w_eql rfl rfl ?_
    exact hRR
  refine snp_cond _ rfl (fun hc14 => ?_) (fun hc14 => ?_)
  · try simp only [hcs] at hc14
    have hA : (l9a len z s) = ⟨(drP len z s), (l9k len z 4 s), po (drP len z s) (lzF len z (drP len z s) (l9t len 4 s)) (l9k len z 4 s), itS len (drP len z s) (l9t len 4 s) ((l9k len z 4 s))⟩ := if_pos hc14
    apply srp tokTB (by kernel_rfl)
    · intro RR hRR
      refine w_bsl und24 kn2 (by rw [sz2]; rfl) rfl trivial trivial rfl ?_
      refine wa ?_
      exact hRR
    refine snp_seq ?_
    apply srDp tokTB (ops1 := [_]) (ops2 := [_, _]) (by kernel_rfl) rfl rfl
    · intro RR hRR
      refine wm ?_
      exact hRR
    · exact mut_ptr1 tokTB (c_l01Next hz hl (n := 4) (l9s len s)) (args := [.const (.int .i64 4)]) rfl rfl ⟨trivial, trivial⟩ trivial closed_src closed_src rfl
    · intro RR hRR
      refine w_add rfl rfl (by exact (w64 (n := 1 + sxF len z 4 (l9s len s)) (by omega) (by omega)).trans hk4.2.2.symm) ?_
      refine wa ?_
      exact hRR
    refine snp_block ?_
    refine snp_loop (S := Nat) (fun k => ([(0, .ptr 0 0 [] 0 (rtS len z)), (4, .int .i64 (drP len z s)), (6, .own 906 0 k 2), (7, .int .i64 ((((l9k len z 4 s) : Nat) : Int) - (k : Int)))], [(0, .one ((rtS len z)) (srcS len z (itS len (drP len z s) (l9t len 4 s) (k)))), (906, .one (Z64 k) (C64 k (lzF len z (drP len z s) (l9t len 4 s))))])) (fun k => k ≤ (l9k len z 4 s)) (fun k => (l9k len z 4 s) - k) (0) (fun k i => bif Nat.beq k 906 then (15, i) else (k, i)) ?_ ?_ ?_
    · exact ⟨⟨⟨⟨rfl, rfl, rfl, rfl, rfl⟩, (mi), (by first | exact ⟨rfl, rfl, rfl, rfl⟩ | exact ⟨rfl, by omega, rfl, rfl⟩), (by exact m_int (by omega)), trivial⟩, ⟨⟨rfl, (sx), (by exact m_src rfl rfl)⟩, ⟨rfl, (sx), (by exact mt_arr0)⟩, trivial⟩, ⟨⟨(fun h => by first | exact ⟨rfl, rfl⟩ | exact absurd h (by decide)), (fun h => by first | exact ⟨rfl, rfl⟩ | exact absurd h (by decide)), trivial⟩, ⟨(fun h => by first | exact ⟨rfl, rfl⟩ | exact absurd h (by decide)), (fun h => by first | exact ⟨rfl, rfl⟩ | exact absurd h (by decide)), trivial⟩, trivial⟩⟩, ⟨⟨fun _ => rfl, rfl⟩, trivial⟩⟩
    · exact Nat.zero_le _
    intro k hi0
    refine sqp (env2 := [(0, .ptr 0 0 [] 0 (rtS len z)), (4, .int .i64 (drP len z s)), (6, .own 906 0 k 2), (7, .int .i64 ((((l9k len z 4 s) : Nat) : Int) - (k : Int)))]) (ol2 := [(0, .one ((rtS len z)) (srcS len z (itS len (drP len z s) (l9t len 4 s) (k)))), (906, .one (Z64 k) (C64 k (lzF len z (drP len z s) (l9t len 4 s))))]) rfl rfl ?_
    refine snp_seq ?_
    apply srp tokTB (by kernel_rfl)
    · intro RR hRR
      refine wm ?_
      refine w_gtr rfl rfl ?_
      exact hRR
    refine snp_cond _ rfl (fun hc20 => ?_) (fun hc20 => ?_)
    · try simp only [hcs] at hc20
      have lt_k : k < (l9k len z 4 s) := by omega
      refine snp_skip ?_
      refine snp_seq ?_
      refine snp_block ?_
      apply lrDp tokTB (ops1 := [_, _, _]) (ops2 := [_, _, _]) (by kernel_rfl) rfl rfl
      · intro RR hRR
        refine wm ?_
        refine wm ?_
        refine wm ?_
        exact hRR
      · exact mut_ptr1 tokTB (c_l01Next hz hl (n := (drP len z s)) (itS len (drP len z s) (l9t len 4 s) (k))) (args := [.tmp 25]) rfl rfl ⟨trivial, trivial⟩ trivial closed_src closed_src rfl
      · intro RR hRR
        refine w_bsl1 und24 kn2 (by rw [sz2]; rfl) rfl (by constructor) (by first | exact trivial | exact cel_cap2) (by exact sz2.symm) (by first | exact trivial | exact ssh_vec | exact ⟨rfl, fun _ => trivial⟩) ?_
        refine w_app_o und24 rfl rfl kn2 rfl rfl (fun C h => ⟨rfl, rfl, rfl, h⟩) (by rw [by2]; omega) (by omega) rfl ?_
        refine wa ?_
        exact hRR
      apply lrp tokTB (by kernel_rfl)
      · intro RR hRR
        refine wm ?_
        refine y_sub rfl rfl ?_
        refine wa ?_
        exact hRR
      refine ⟨k + 1, (fun k i => bif Nat.beq k 906 then (28, i) else (k, i)), ?_, (by omega), (by dsimp only; omega)⟩
      exact ⟨⟨⟨⟨rfl, rfl, rfl, rfl, rfl⟩, (mi), (by first | exact ⟨rfl, rfl, rfl, rfl⟩ | exact ⟨rfl, by omega, rfl, rfl⟩), (by exact m_int (by omega)), trivial⟩, ⟨⟨rfl, (sx), (by exact m_src rfl rfl)⟩, ⟨rfl, (sx), (by exact mt_app (fun _ _ => rfl) rfl)⟩, trivial⟩, ⟨⟨(fun h => by first | exact ⟨rfl, rfl⟩ | exact absurd h (by decide)), (fun h => by first | exact ⟨rfl, rfl⟩ | exact absurd h (by decide)), trivial⟩, ⟨(fun h => by first | exact ⟨rfl, rfl⟩ | exact absurd h (by decide)), (fun h => by first | exact ⟨rfl, rfl⟩ | exact absurd h (by decide)), trivial⟩, trivial⟩⟩, ⟨⟨fun _ => rfl, rfl⟩, trivial⟩⟩
    · try simp only [hcs] at hc20
      have ge_k : (l9k len z 4 s) = k := by omega
      subst ge_k
      refine snp_exit ?_
      apply lrp tokTB (by kernel_rfl)
      · intro RR hRR
        refine wm ?_
        refine wm ?_
        refine w_call rfl rfl ((c_sProd_ok (c := (lzF len z (drP len z s) (l9t len 4 s))) (n := (l9k len z 4 s)) (p := (drP len z s)) ⟨hp, ⟨by omega, by omega⟩, fun j _ => lzF_bd hz (by omega) _ j⟩ (by omega) (by omega)).mt ⟨mt_int0, mt_row0 rfl, trivial⟩) (.inl ⟨nr_pair trivial trivial, ⟨fun _ => trivial, trivial⟩⟩) rfl (by constructor) rfl ?_
        refine wm ?_
        refine we ?_
        refine we ?_
        refine wa ?_
        exact hRR
      refine snp_seq ?_
      refine snp_emb (ρ := (fun k i => bif Nat.beq k 915 then (33000, i) else (k, i))) (env2 := [(0, .ptr 0 0 [] 0 (rtS len z)), (4, .int .i64 (l9a len z s).p), (5, .own 915 0 (l9a len z s).n 2)]) (ol2 := [(0, .one ((rtS len z)) (srcS len z ((l9a len z s).s))), (915, .one (Z64 (l9a len z s).n) (C64 (l9a len z s).n (l9a len z s).f))]) ?_ ⟨⟨fun _ => rfl, rfl⟩, trivial⟩ ?_
      · exact ⟨⟨⟨rfl, rfl, rfl, rfl, rfl⟩, (by exact m_int (by rw [hA])), (by exact ⟨rfl, by rw [hA], rfl, rfl⟩), trivial⟩, ⟨⟨rfl, (sx), (by exact m_src (by rw [hA]) (by rw [hA]))⟩, ⟨(by rw [hA]), (sx), (by rw [hA]; exact mt_vec (fun _ _ => rfl))⟩, trivial⟩, ⟨⟨(fun h => by first | exact ⟨rfl, rfl⟩ | exact absurd h (by decide)), (fun h => by first | exact ⟨rfl, rfl⟩ | exact absurd h (by decide)), trivial⟩, ⟨(fun h => by first | exact ⟨rfl, rfl⟩ | exact absurd h (by decide)), (fun h => by first | exact ⟨rfl, rfl⟩ | exact absurd h (by decide)), trivial⟩, trivial⟩⟩
      apply srDp tokTB (ops1 := [_]) (ops2 := []) (by kernel_rfl) rfl rfl
      · intro RR hRR
        refine wm ?_
        exact hRR
      · exact mut_ptr1 tokTB (c_l01Next hz hl (n := 40) ((l9a len z s).s)) (args := [.const (.int .i64 40)]) rfl rfl ⟨trivial, trivial⟩ trivial closed_src closed_src rfl
      · intro RR hRR
        exact hRR
      refine snp_block ?_
      apply srp tokTB (by kernel_rfl)
      · intro RR hRR
        refine w_eql rfl rfl ?_
        refine wa ?_
        exact hRR
      refine snp_cond _ rfl (fun hc50 => ?_) (fun hc50 => ?_)
      · try simp only [hcs] at hc50
        apply lrDpE tokTB (ops1 := [_, _]) (ops2 := [_]) (ρ := ρ0) (env1 := [(5, .own 915 0 (l9a len z s).n 2), (52, .ptr 0 0 [] 0 (rtS len z)), (53, rowA 3 pk3)]) (ol1 := [(0, .one ((rtS len z)) (srcS len z (snF len 40 (l9a len z s).s))), (915, .one (Z64 (l9a len z s).n) (C64 (l9a len z s).n (l9a len z s).f))]) (by kernel_rfl) rfl rfl
        · intro RR hRR
          refine wm ?_
          refine w_bsl und24 kn2 (by rw [sz2]; rfl) rfl (by exact ⟨⟨by decide, trivial, sz2.symm⟩, ⟨by decide, trivial, sz2.symm⟩, ⟨by decide, trivial, sz2.symm⟩, trivial⟩) (by exact ⟨(sx), (sx), (sx), trivial⟩) rfl ?_
          refine hRR _ _ ?_
          exact ⟨⟨(by first | exact ⟨rfl, rfl, rfl, rfl⟩ | exact ⟨rfl, by omega, rfl, rfl⟩), ⟨rfl, rfl, rfl, rfl, rfl⟩, (by exact mt_fz (by exact ⟨(ne_fst rfl), (ne_fst rfl), trivial⟩) rfl (fun j hj => by match j, hj with | 0, _ => rfl | 1, _ => rfl | 2, _ => rfl)), trivial⟩, ⟨⟨rfl, (sx), (by exact m_src rfl rfl)⟩, ⟨rfl, (sx), (by exact mt_vec (fun _ _ => rfl))⟩, trivial⟩, ⟨⟨(fun h => by first | exact ⟨rfl, rfl⟩ | exact absurd h (by decide)), (fun h => by first | exact ⟨rfl, rfl⟩ | exact absurd h (by decide)), trivial⟩, ⟨(fun h => by first | exact ⟨rfl, rfl⟩ | exact absurd h (by decide)), (fun h => by first | exact ⟨rfl, rfl⟩ | exact absurd h (by decide)), trivial⟩, trivial⟩⟩
        · exact ⟨⟨fun _ => rfl, rfl⟩, trivial⟩
        · exact mut_ptr1 tokTB (c_l01Pick hz hl (m := 3) (f := pk3) (by omega) (snF len 40 (l9a len z s).s)) (args := [.tmp 53]) rfl rfl ⟨(fun _ => trivial), trivial⟩ trivial closed_src closed_src rfl
        · intro RR hRR
          refine wa ?_
          exact hRR
        apply srp tokTB (by kernel_rfl)
        · intro RR hRR
          refine wm ?_
          refine wm ?_
          refine wa ?_
          refine wa ?_
          exact hRR
        refine snp_ret ?_
        have hF : l9F len z s = ⟨pk3 (sxF len z 3 (snF len 40 (l9a len z s).s)).toNat, (l9a len z s).n, (l9a len z s).f, snF len 3 (snF len 40 (l9a len z s).s)⟩ := by show l9b len z (l9a len z s) = _; unfold l9b; rw [if_pos hc50]
        rw [hF]
        exact rtp_tt (ρ := ρ0) ⟨⟨m_int rfl, mt_fz ⟨ne_fst rfl, trivial⟩ rfl (fun j hj => rfl), trivial⟩, ⟨⟨rfl, ssh_src, m_src rfl rfl⟩, trivial⟩, ⟨⟨fun _ => ⟨rfl, rfl⟩, trivial⟩, trivial⟩⟩ ⟨⟨fun _ => rfl, rfl⟩, trivial⟩ (fun _ _ h => h) (fun _ _ h => h)
      · try simp only [hcs] at hc50
        apply srp tokTB (by kernel_rfl)
        · intro RR hRR
          refine w_eql rfl rfl ?_
          refine wa ?_
          exact hRR
        refine snp_cond _ rfl (fun hc55 => ?_) (fun hc55 => ?_)
        · try simp only [hcs] at hc55
          apply lrDpE tokTB (ops1 := [_, _, _, _]) (ops2 := [_, _]) (ρ := ρ0) (env1 := [(4, .int .i64 (l9a len z s).p), (5, .own 915 0 (l9a len z s).n 2), (57, .own 915 0 (l9a len z s).n 2), (58, .ptr 0 0 [] 0 (rtS len z)), (60, rowA 2 (pk2 (l9a len z s).p))]) (ol1 := [(0, .one ((rtS len z)) (srcS len z (snF len 40 (l9a len z s).s))), (915, .one (Z64 (l9a len z s).n) (C64 (l9a len z s).n (l9a len z s).f))]) (by kernel_rfl) rfl rfl
          · intro RR hRR
            refine wm ?_
            refine wm ?_
            refine wm ?_
            refine w_bsl2 und24 kn2 (by rw [sz2]; rfl) rfl (by constructor) (by constructor) (by first | exact trivial | exact cel_cap2) (by first | exact trivial | exact cel_cap2) (by exact sz2.symm) (by exact sz2.symm) (by first | exact trivial | exact ssh_vec | exact ⟨rfl, fun _ => trivial⟩) (by first | exact trivial | exact ssh_vec | exact ⟨rfl, fun _ => trivial⟩) ?_
            refine hRR _ _ ?_
            exact ⟨⟨(mi), (by first | exact ⟨rfl, rfl, rfl, rfl⟩ | exact ⟨rfl, by omega, rfl, rfl⟩), (by first | exact ⟨rfl, rfl, rfl, rfl⟩ | exact ⟨rfl, by omega, rfl, rfl⟩), ⟨rfl, rfl, rfl, rfl, rfl⟩, (by exact mt_fz (by exact ⟨(ne_fst rfl), (ne_fst rfl), trivial⟩) rfl (fun j hj => by match j, hj with | 0, _ => rfl | 1, _ => rfl)), trivial⟩, ⟨⟨rfl, (sx), (by exact m_src rfl rfl)⟩, ⟨rfl, (sx), (by exact mt_vec (fun _ _ => rfl))⟩, trivial⟩, ⟨⟨(fun h => by first | exact ⟨rfl, rfl⟩ | exact absurd h (by decide)), (fun h => by first | exact ⟨rfl, rfl⟩ | exact absurd h (by decide)), trivial⟩, ⟨(fun h => by first | exact ⟨rfl, rfl⟩ | exact absurd h (by decide)), (fun h => by first | exact ⟨rfl, rfl⟩ | exact absurd h (by decide)), trivial⟩, trivial⟩⟩
          · exact ⟨⟨fun _ => rfl, rfl⟩, trivial⟩
          · exact mut_ptr1 tokTB (c_l01Pick hz hl (m := 2) (f := pk2 (l9a len z s).p) (by omega) (snF len 40 (l9a len z s).s)) (args := [.tmp 60]) rfl rfl ⟨(fun _ => trivial), trivial⟩ trivial closed_src closed_src rfl
          · intro RR hRR
            refine w_iao rfl rfl und24 kn2 ?_ ?_
            · exact ⟨Int.le_refl _, (show (0 : Int) < (((l9a len z s).n : Nat) : Int) by omega)⟩
            first | refine w_stw rfl (by constructor) kn2 rfl (by exact trivial) (sx) (by exact sz2.symm) ?_ | refine w_sti rfl rfl kn2 rfl (by exact trivial) (by exact sz2.symm) ?_ | refine w_store rfl (HV.eq (by constructor)) kn2 rfl (by exact trivial) (sx) (by exact sz2.symm) (pin_) ?_ | refine w_store rfl (HV.eq (by constructor)) kn2 rfl (by exact trivial) (by exact trivial) (by exact sz2.symm) rfl ?_
            exact hRR
          apply srp tokTB (by kernel_rfl)
          · intro RR hRR
            refine wm ?_
            refine wm ?_
            refine wa ?_
            refine wa ?_
            exact hRR
          refine snp_ret ?_
          have hF : l9F len z s = ⟨(l9a len z s).p, (l9a len z s).n, upd (l9a len z s).f 0 (pk2 (l9a len z s).p (sxF len z 2 (snF len 40 (l9a len z s).s)).toNat), snF len 2 (snF len 40 (l9a len z s).s)⟩ := by show l9b len z (l9a len z s) = _; unfold l9b; rw [if_neg hc50, if_pos hc55]
          rw [hF]
          exact rtp_tt (ρ := ρ0) ⟨⟨m_int rfl, mt_fz ⟨ne_fst rfl, trivial⟩ rfl (fun j hj => rfl), trivial⟩, ⟨⟨rfl, ssh_src, m_src rfl rfl⟩, trivial⟩, ⟨⟨fun _ => ⟨rfl, rfl⟩, trivial⟩, trivial⟩⟩ ⟨⟨fun _ => rfl, rfl⟩, trivial⟩ (fun _ _ h => h) (fun _ _ h => h)
        · try simp only [hcs] at hc55
          apply srp tokTB (by kernel_rfl)
          · intro RR hRR
            refine w_eql rfl rfl ?_
            refine wa ?_
            exact hRR
          refine snp_cond _ rfl (fun hc63 => ?_) (fun hc63 => ?_)
          · try simp only [hcs] at hc63
            apply lrp tokTB (by kernel_rfl)
            · intro RR hRR
              refine w_bsl und24 kn2 (by rw [sz2]; rfl) rfl trivial trivial rfl ?_
              refine wa ?_
              exact hRR
            apply srp tokTB (by kernel_rfl)
            · intro RR hRR
              refine wm ?_
              refine wm ?_
              refine wa ?_
              refine wa ?_
              exact hRR
            refine snp_ret ?_
            have hF : l9F len z s = ⟨(l9a len z s).p, 0, fun _ => 0, snF len 40 (l9a len z s).s⟩ := by show l9b len z (l9a len z s) = _; unfold l9b; rw [if_neg hc50, if_neg hc55, if_pos hc63]
            rw [hF]
            exact rtp_tt (ρ := ρ0) ⟨⟨m_int rfl, mt_fz ⟨ne_fst rfl, trivial⟩ rfl (fun j hj => absurd hj (Nat.not_lt_zero j)), trivial⟩, ⟨⟨rfl, ssh_src, m_src rfl rfl⟩, trivial⟩, ⟨⟨fun _ => ⟨rfl, rfl⟩, trivial⟩, trivial⟩⟩ ⟨⟨fun _ => rfl, rfl⟩, trivial⟩ (fun _ _ h => h) (fun _ _ h => h)
          · try simp only [hcs] at hc63
            apply srp tokTB (by kernel_rfl)
            · intro RR hRR
              refine w_eql rfl rfl ?_
              refine wa ?_
              exact hRR
            refine snp_cond _ rfl (fun hc66 => ?_) (fun hc66 => ?_)
            · try simp only [hcs] at hc66
              apply lrp tokTB (by kernel_rfl)
              · intro RR hRR
                refine wm ?_
                refine w_bsl und24 kn2 (by rw [sz2]; rfl) rfl (by exact ⟨⟨by decide, trivial, sz2.symm⟩, ⟨by decide, trivial, sz2.symm⟩, ⟨by decide, trivial, sz2.symm⟩, ⟨by decide, trivial, sz2.symm⟩, ⟨by decide, trivial, sz2.symm⟩, ⟨by decide, trivial, sz2.symm⟩, trivial⟩) (by exact ⟨(sx), (sx), (sx), (sx), (sx), (sx), trivial⟩) rfl ?_
                refine w_app_o und24 rfl rfl kn2 rfl rfl (fun C h => ⟨rfl, rfl, rfl, h⟩) (by rw [by2]; omega) (by omega) rfl ?_
                refine wa ?_
                exact hRR
              apply srp tokTB (by kernel_rfl)
              · intro RR hRR
                refine wm ?_
                refine wm ?_
                refine wa ?_
                refine wa ?_
                exact hRR
              refine snp_ret ?_
              have hF : l9F len z s = ⟨(l9a len z s).p, (l9a len z s).n + 6, fun j => if j < (l9a len z s).n then (l9a len z s).f j else 0, snF len 40 (l9a len z s).s⟩ := by show l9b len z (l9a len z s) = _; unfold l9b; rw [if_neg hc50, if_neg hc55, if_neg hc63, if_pos hc66]
              rw [hF]
              exact rtp_tt (ρ := ρ0) ⟨⟨m_int rfl, mt_fz ⟨ne_fst rfl, trivial⟩ rfl (fun j hj => app6 hj), trivial⟩, ⟨⟨rfl, ssh_src, m_src rfl rfl⟩, trivial⟩, ⟨⟨fun _ => ⟨rfl, rfl⟩, trivial⟩, trivial⟩⟩ ⟨⟨fun _ => rfl, rfl⟩, trivial⟩ (fun _ _ h => h) (fun _ _ h => h)
            · try simp only [hcs] at hc66
              refine snp_skip ?_
              apply srp tokTB (by kernel_rfl)
              · intro RR hRR
                refine wm ?_
                refine wm ?_
                refine wa ?_
                refine wa ?_
                exact hRR
              refine snp_ret ?_
              have hF : l9F len z s = ⟨(l9a len z s).p, (l9a len z s).n, (l9a len z s).f, snF len 40 (l9a len z s).s⟩ := by show l9b len z (l9a len z s) = _; unfold l9b; rw [if_neg hc50, if_neg hc55, if_neg hc63, if_neg hc66]
              rw [hF]
              exact rtp_tt (ρ := ρ0) ⟨⟨m_int rfl, mt_fz ⟨ne_fst rfl, trivial⟩ rfl (fun j hj => rfl), trivial⟩, ⟨⟨rfl, ssh_src, m_src rfl rfl⟩, trivial⟩, ⟨⟨fun _ => ⟨rfl, rfl⟩, trivial⟩, trivial⟩⟩ ⟨⟨fun _ => rfl, rfl⟩, trivial⟩ (fun _ _ h => h) (fun _ _ h => h)
  · try simp only [hcs] at hc14
    have hA : (l9a len z s) = ⟨(drP len z s), (l9k len z 6 s), (lzF len z (drP len z s) (l9t len 6 s)), itS len (drP len z s) (l9t len 6 s) ((l9k len z 6 s))⟩ := if_neg hc14
    apply srDp tokTB (ops1 := [_]) (ops2 := [_, _]) (by kernel_rfl) rfl rfl
    · intro RR hRR
      refine wm ?_
      exact hRR
    · exact mut_ptr1 tokTB (c_l01Next hz hl (n := 6) (l9s len s)) (args := [.const (.int .i64 6)]) rfl rfl ⟨trivial, trivial⟩ trivial closed_src closed_src rfl
    · intro RR hRR
      refine w_add rfl rfl (by exact (w64 (n := 1 + sxF len z 6 (l9s len s)) (by omega) (by omega)).trans hk6.2.2.symm) ?_
      refine wa ?_
      exact hRR
    refine snp_block ?_
    refine snp_loop (S := Nat) (fun k => ([(0, .ptr 0 0 [] 0 (rtS len z)), (4, .int .i64 (drP len z s)), (5, .own 905 0 k 2), (8, .int .i64 ((((l9k len z 6 s) : Nat) : Int) - (k : Int)))], [(0, .one ((rtS len z)) (srcS len z (itS len (drP len z s) (l9t len 6 s) (k)))), (905, .one (Z64 k) (C64 k (lzF len z (drP len z s) (l9t len 6 s))))])) (fun k => k ≤ (l9k len z 6 s)) (fun k => (l9k len z 6 s) - k) (0) (fun k i => bif Nat.beq k 905 then (11, i) else (k, i)) ?_ ?_ ?_
    · exact ⟨⟨⟨⟨rfl, rfl, rfl, rfl, rfl⟩, (mi), (by first | exact ⟨rfl, rfl, rfl, rfl⟩ | exact ⟨rfl, by omega, rfl, rfl⟩), (by exact m_int (by omega)), trivial⟩, ⟨⟨rfl, (sx), (by exact m_src rfl rfl)⟩, ⟨rfl, (sx), (by exact mt_arr0)⟩, trivial⟩, ⟨⟨(fun h => by first | exact ⟨rfl, rfl⟩ | exact absurd h (by decide)), (fun h => by first | exact ⟨rfl, rfl⟩ | exact absurd h (by decide)), trivial⟩, ⟨(fun h => by first | exact ⟨rfl, rfl⟩ | exact absurd h (by decide)), (fun h => by first | exact ⟨rfl, rfl⟩ | exact absurd h (by decide)), trivial⟩, trivial⟩⟩, ⟨⟨fun _ => rfl, rfl⟩, trivial⟩⟩
    · exact Nat.zero_le _
    intro k hi2
    refine sqp (env2 := [(0, .ptr 0 0 [] 0 (rtS len z)), (4, .int .i64 (drP len z s)), (5, .own 905 0 k 2), (8, .int .i64 ((((l9k len z 6 s) : Nat) : Int) - (k : Int)))]) (ol2 := [(0, .one ((rtS len z)) (srcS len z (itS len (drP len z s) (l9t len 6 s) (k)))), (905, .one (Z64 k) (C64 k (lzF len z (drP len z s) (l9t len 6 s))))]) rfl rfl ?_
    refine snp_seq ?_
    apply srp tokTB (by kernel_rfl)
    · intro RR hRR
      refine wm ?_
      refine w_gtr rfl rfl ?_
      exact hRR
    refine snp_cond _ rfl (fun hc39 => ?_) (fun hc39 => ?_)
    · try simp only [hcs] at hc39
      have lt_k : k < (l9k len z 6 s) := by omega
      refine snp_skip ?_
      refine snp_seq ?_
      refine snp_block ?_
      apply lrDp tokTB (ops1 := [_, _, _]) (ops2 := [_, _, _]) (by kernel_rfl) rfl rfl
      · intro RR hRR
        refine wm ?_
        refine wm ?_
        refine wm ?_
        exact hRR
      · exact mut_ptr1 tokTB (c_l01Next hz hl (n := (drP len z s)) (itS len (drP len z s) (l9t len 6 s) (k))) (args := [.tmp 44]) rfl rfl ⟨trivial, trivial⟩ trivial closed_src closed_src rfl
      · intro RR hRR
        refine w_bsl1 und24 kn2 (by rw [sz2]; rfl) rfl (by constructor) (by first | exact trivial | exact cel_cap2) (by exact sz2.symm) (by first | exact trivial | exact ssh_vec | exact ⟨rfl, fun _ => trivial⟩) ?_
        refine w_app_o und24 rfl rfl kn2 rfl rfl (fun C h => ⟨rfl, rfl, rfl, h⟩) (by rw [by2]; omega) (by omega) rfl ?_
        refine wa ?_
        exact hRR
      apply lrp tokTB (by kernel_rfl)
      · intro RR hRR
        refine wm ?_
        refine y_sub rfl rfl ?_
        refine wa ?_
        exact hRR
      refine ⟨k + 1, (fun k i => bif Nat.beq k 905 then (47, i) else (k, i)), ?_, (by omega), (by dsimp only; omega)⟩
      exact ⟨⟨⟨⟨rfl, rfl, rfl, rfl, rfl⟩, (mi), (by first | exact ⟨rfl, rfl, rfl, rfl⟩ | exact ⟨rfl, by omega, rfl, rfl⟩), (by exact m_int (by omega)), trivial⟩, ⟨⟨rfl, (sx), (by exact m_src rfl rfl)⟩, ⟨rfl, (sx), (by exact mt_app (fun _ _ => rfl) rfl)⟩, trivial⟩, ⟨⟨(fun h => by first | exact ⟨rfl, rfl⟩ | exact absurd h (by decide)), (fun h => by first | exact ⟨rfl, rfl⟩ | exact absurd h (by decide)), trivial⟩, ⟨(fun h => by first | exact ⟨rfl, rfl⟩ | exact absurd h (by decide)), (fun h => by first | exact ⟨rfl, rfl⟩ | exact absurd h (by decide)), trivial⟩, trivial⟩⟩, ⟨⟨fun _ => rfl, rfl⟩, trivial⟩⟩
    · try simp only [hcs] at hc39
      have ge_k : (l9k len z 6 s) = k := by omega
      subst ge_k
      refine snp_exit ?_
      refine snp_seq ?_
      refine snp_emb (ρ := (fun k i => bif Nat.beq k 915 then (905, i) else (k, i))) (env2 := [(0, .ptr 0 0 [] 0 (rtS len z)), (4, .int .i64 (l9a len z s).p), (5, .own 915 0 (l9a len z s).n 2)]) (ol2 := [(0, .one ((rtS len z)) (srcS len z ((l9a len z s).s))), (915, .one (Z64 (l9a len z s).n) (C64 (l9a len z s).n (l9a len z s).f))]) ?_ ⟨⟨fun _ => rfl, rfl⟩, trivial⟩ ?_
      · exact ⟨⟨⟨rfl, rfl, rfl, rfl, rfl⟩, (by exact m_int (by rw [hA])), (by exact ⟨rfl, by rw [hA], rfl, rfl⟩), trivial⟩, ⟨⟨rfl, (sx), (by exact m_src (by rw [hA]) (by rw [hA]))⟩, ⟨(by rw [hA]), (sx), (by rw [hA]; exact mt_vec (fun _ _ => rfl))⟩, trivial⟩, ⟨⟨(fun h => by first | exact ⟨rfl, rfl⟩ | exact absurd h (by decide)), (fun h => by first | exact ⟨rfl, rfl⟩ | exact absurd h (by decide)), trivial⟩, ⟨(fun h => by first | exact ⟨rfl, rfl⟩ | exact absurd h (by decide)), (fun h => by first | exact ⟨rfl, rfl⟩ | exact absurd h (by decide)), trivial⟩, trivial⟩⟩
      apply srDp tokTB (ops1 := [_]) (ops2 := []) (by kernel_rfl) rfl rfl
      · intro RR hRR
        refine wm ?_
        exact hRR
      · exact mut_ptr1 tokTB (c_l01Next hz hl (n := 40) ((l9a len z s).s)) (args := [.const (.int .i64 40)]) rfl rfl ⟨trivial, trivial⟩ trivial closed_src closed_src rfl
      · intro RR hRR
        exact hRR
      refine snp_block ?_
      apply srp tokTB (by kernel_rfl)
      · intro RR hRR
        refine w_eql rfl rfl ?_
        refine wa ?_
        exact hRR
      refine snp_cond _ rfl (fun hc50 => ?_) (fun hc50 => ?_)
      · try simp only [hcs] at hc50
        apply lrDpE tokTB (ops1 := [_, _]) (ops2 := [_]) (ρ := ρ0) (env1 := [(5, .own 915 0 (l9a len z s).n 2), (52, .ptr 0 0 [] 0 (rtS len z)), (53, rowA 3 pk3)]) (ol1 := [(0, .one ((rtS len z)) (srcS len z (snF len 40 (l9a len z s).s))), (915, .one (Z64 (l9a len z s).n) (C64 (l9a len z s).n (l9a len z s).f))]) (by kernel_rfl) rfl rfl
        · intro RR hRR
          refine wm ?_
          refine w_bsl und24 kn2 (by rw [sz2]; rfl) rfl (by exact ⟨⟨by decide, trivial, sz2.symm⟩, ⟨by decide, trivial, sz2.symm⟩, ⟨by decide, trivial, sz2.symm⟩, trivial⟩) (by exact ⟨(sx), (sx), (sx), trivial⟩) rfl ?_
          refine hRR _ _ ?_
          exact ⟨⟨(by first | exact ⟨rfl, rfl, rfl, rfl⟩ | exact ⟨rfl, by omega, rfl, rfl⟩), ⟨rfl, rfl, rfl, rfl, rfl⟩, (by exact mt_fz (by exact ⟨(ne_fst rfl), (ne_fst rfl), trivial⟩) rfl (fun j hj => by match j, hj with | 0, _ => rfl | 1, _ => rfl | 2, _ => rfl)), trivial⟩, ⟨⟨rfl, (sx), (by exact m_src rfl rfl)⟩, ⟨rfl, (sx), (by exact mt_vec (fun _ _ => rfl))⟩, trivial⟩, ⟨⟨(fun h => by first | exact ⟨rfl, rfl⟩ | exact absurd h (by decide)), (fun h => by first | exact ⟨rfl, rfl⟩ | exact absurd h (by decide)), trivial⟩, ⟨(fun h => by first | exact ⟨rfl, rfl⟩ | exact absurd h (by decide)), (fun h => by first | exact ⟨rfl, rfl⟩ | exact absurd h (by decide)), trivial⟩, trivial⟩⟩
        · exact ⟨⟨fun _ => rfl, rfl⟩, trivial⟩
        · exact mut_ptr1 tokTB (c_l01Pick hz hl (m := 3) (f := pk3) (by omega) (snF len 40 (l9a len z s).s)) (args := [.tmp 53]) rfl rfl ⟨(fun _ => trivial), trivial⟩ trivial closed_src closed_src rfl
        · intro RR hRR
          refine wa ?_
          exact hRR
        apply srp tokTB (by kernel_rfl)
        · intro RR hRR
          refine wm ?_
          refine wm ?_
          refine wa ?_
          refine wa ?_
          exact hRR
        refine snp_ret ?_
        have hF : l9F len z s = ⟨pk3 (sxF len z 3 (snF len 40 (l9a len z s).s)).toNat, (l9a len z s).n, (l9a len z s).f, snF len 3 (snF len 40 (l9a len z s).s)⟩ := by show l9b len z (l9a len z s) = _; unfold l9b; rw [if_pos hc50]
        rw [hF]
        exact rtp_tt (ρ := ρ0) ⟨⟨m_int rfl, mt_fz ⟨ne_fst rfl, trivial⟩ rfl (fun j hj => rfl), trivial⟩, ⟨⟨rfl, ssh_src, m_src rfl rfl⟩, trivial⟩, ⟨⟨fun _ => ⟨rfl, rfl⟩, trivial⟩, trivial⟩⟩ ⟨⟨fun _ => rfl, rfl⟩, trivial⟩ (fun _ _ h => h) (fun _ _ h => h)
      · try simp only [hcs] at hc50
        apply srp tokTB (by kernel_rfl)
        · intro RR hRR
          refine w_eql rfl rfl ?_
          refine wa ?_
          exact hRR
        refine snp_cond _ rfl (fun hc55 => ?_) (fun hc55 => ?_)
        · try simp only [hcs] at hc55
          apply lrDpE tokTB (ops1 := [_, _, _, _]) (ops2 := [_, _]) (ρ := ρ0) (env1 := [(4, .int .i64 (l9a len z s).p), (5, .own 915 0 (l9a len z s).n 2), (57, .own 915 0 (l9a len z s).n 2), (58, .ptr 0 0 [] 0 (rtS len z)), (60, rowA 2 (pk2 (l9a len z s).p))]) (ol1 := [(0, .one ((rtS len z)) (srcS len z (snF len 40 (l9a len z s).s))), (915, .one (Z64 (l9a len z s).n) (C64 (l9a len z s).n (l9a len z s).f))]) (by kernel_rfl) rfl rfl
          · intro RR hRR
            refine wm ?_
            refine wm ?_
            refine wm ?_
            refine w_bsl2 und24 kn2 (by rw [sz2]; rfl) rfl (by constructor) (by constructor) (by first | exact trivial | exact cel_cap2) (by first | exact trivial | exact cel_cap2) (by exact sz2.symm) (by exact sz2.symm) (by first | exact trivial | exact ssh_vec | exact ⟨rfl, fun _ => trivial⟩) (by first | exact trivial | exact ssh_vec | exact ⟨rfl, fun _ => trivial⟩) ?_
            refine hRR _ _ ?_
            exact ⟨⟨(mi), (by first | exact ⟨rfl, rfl, rfl, rfl⟩ | exact ⟨rfl, by omega, rfl, rfl⟩), (by first | exact ⟨rfl, rfl, rfl, rfl⟩ | exact ⟨rfl, by omega, rfl, rfl⟩), ⟨rfl, rfl, rfl, rfl, rfl⟩, (by exact mt_fz (by exact ⟨(ne_fst rfl), (ne_fst rfl), trivial⟩) rfl (fun j hj => by match j, hj with | 0, _ => rfl | 1, _ => rfl)), trivial⟩, ⟨⟨rfl, (sx), (by exact m_src rfl rfl)⟩, ⟨rfl, (sx), (by exact mt_vec (fun _ _ => rfl))⟩, trivial⟩, ⟨⟨(fun h => by first | exact ⟨rfl, rfl⟩ | exact absurd h (by decide)), (fun h => by first | exact ⟨rfl, rfl⟩ | exact absurd h (by decide)), trivial⟩, ⟨(fun h => by first | exact ⟨rfl, rfl⟩ | exact absurd h (by decide)), (fun h => by first | exact ⟨rfl, rfl⟩ | exact absurd h (by decide)), trivial⟩, trivial⟩⟩
          · exact ⟨⟨fun _ => rfl, rfl⟩, trivial⟩
          · exact mut_ptr1 tokTB (c_l01Pick hz hl (m := 2) (f := pk2 (l9a len z s).p) (by omega) (snF len 40 (l9a len z s).s)) (args := [.tmp 60]) rfl rfl ⟨(fun _ => trivial), trivial⟩ trivial closed_src closed_src rfl
          · intro RR hRR
            refine w_iao rfl rfl und24 kn2 ?_ ?_
            · exact ⟨Int.le_refl _, (show (0 : Int) < (((l9a len z s).n : Nat) : Int) by omega)⟩
            first | refine w_stw rfl (by constructor) kn2 rfl (by exact trivial) (sx) (by exact sz2.symm) ?_ | refine w_sti rfl rfl kn2 rfl (by exact trivial) (by exact sz2.symm) ?_ | refine w_store rfl (HV.eq (by constructor)) kn2 rfl (by exact trivial) (sx) (by exact sz2.symm) (pin_) ?_ | refine w_store rfl (HV.eq (by constructor)) kn2 rfl (by exact trivial) (by exact trivial) (by exact sz2.symm) rfl ?_
            exact hRR
          apply srp tokTB (by kernel_rfl)
          · intro RR hRR
            refine wm ?_
            refine wm ?_
            refine wa ?_
            refine wa ?_
            exact hRR
          refine snp_ret ?_
          have hF : l9F len z s = ⟨(l9a len z s).p, (l9a len z s).n, upd (l9a len z s).f 0 (pk2 (l9a len z s).p (sxF len z 2 (snF len 40 (l9a len z s).s)).toNat), snF len 2 (snF len 40 (l9a len z s).s)⟩ := by show l9b len z (l9a len z s) = _; unfold l9b; rw [if_neg hc50, if_pos hc55]
          rw [hF]
          exact rtp_tt (ρ := ρ0) ⟨⟨m_int rfl, mt_fz ⟨ne_fst rfl, trivial⟩ rfl (fun j hj => rfl), trivial⟩, ⟨⟨rfl, ssh_src, m_src rfl rfl⟩, trivial⟩, ⟨⟨fun _ => ⟨rfl, rfl⟩, trivial⟩, trivial⟩⟩ ⟨⟨fun _ => rfl, rfl⟩, trivial⟩ (fun _ _ h => h) (fun _ _ h => h)
        · try simp only [hcs] at hc55
          apply srp tokTB (by kernel_rfl)
          · intro RR hRR
            refine w_eql rfl rfl ?_
            refine wa ?_
            exact hRR
          refine snp_cond _ rfl (fun hc63 => ?_) (fun hc63 => ?_)
          · try simp only [hcs] at hc63
            apply lrp tokTB (by kernel_rfl)
            · intro RR hRR
              refine w_bsl und24 kn2 (by rw [sz2]; rfl) rfl trivial trivial rfl ?_
              refine wa ?_
              exact hRR
            apply srp tokTB (by kernel_rfl)
            · intro RR hRR
              refine wm ?_
              refine wm ?_
              refine wa ?_
              refine wa ?_
              exact hRR
            refine snp_ret ?_
            have hF : l9F len z s = ⟨(l9a len z s).p, 0, fun _ => 0, snF len 40 (l9a len z s).s⟩ := by show l9b len z (l9a len z s) = _; unfold l9b; rw [if_neg hc50, if_neg hc55, if_pos hc63]
            rw [hF]
            exact rtp_tt (ρ := ρ0) ⟨⟨m_int rfl, mt_fz ⟨ne_fst rfl, trivial⟩ rfl (fun j hj => absurd hj (Nat.not_lt_zero j)), trivial⟩, ⟨⟨rfl, ssh_src, m_src rfl rfl⟩, trivial⟩, ⟨⟨fun _ => ⟨rfl, rfl⟩, trivial⟩, trivial⟩⟩ ⟨⟨fun _ => rfl, rfl⟩, trivial⟩ (fun _ _ h => h) (fun _ _ h => h)
          · try simp only [hcs] at hc63
            apply srp tokTB (by kernel_rfl)
            · intro RR hRR
              refine w_eql rfl rfl ?_
              refine wa ?_
              exact hRR
            refine snp_cond _ rfl (fun hc66 => ?_) (fun hc66 => ?_)
            · try simp only [hcs] at hc66
              apply lrp tokTB (by kernel_rfl)
              · intro RR hRR
                refine wm ?_
                refine w_bsl und24 kn2 (by rw [sz2]; rfl) rfl (by exact ⟨⟨by decide, trivial, sz2.symm⟩, ⟨by decide, trivial, sz2.symm⟩, ⟨by decide, trivial, sz2.symm⟩, ⟨by decide, trivial, sz2.symm⟩, ⟨by decide, trivial, sz2.symm⟩, ⟨by decide, trivial, sz2.symm⟩, trivial⟩) (by exact ⟨(sx), (sx), (sx), (sx), (sx), (sx), trivial⟩) rfl ?_
                refine w_app_o und24 rfl rfl kn2 rfl rfl (fun C h => ⟨rfl, rfl, rfl, h⟩) (by rw [by2]; omega) (by omega) rfl ?_
                refine wa ?_
                exact hRR
              apply srp tokTB (by kernel_rfl)
              · intro RR hRR
                refine wm ?_
                refine wm ?_
                refine wa ?_
                refine wa ?_
                exact hRR
              refine snp_ret ?_
              have hF : l9F len z s = ⟨(l9a len z s).p, (l9a len z s).n + 6, fun j => if j < (l9a len z s).n then (l9a len z s).f j else 0, snF len 40 (l9a len z s).s⟩ := by show l9b len z (l9a len z s) = _; unfold l9b; rw [if_neg hc50, if_neg hc55, if_neg hc63, if_pos hc66]
              rw [hF]
              exact rtp_tt (ρ := ρ0) ⟨⟨m_int rfl, mt_fz ⟨ne_fst rfl, trivial⟩ rfl (fun j hj => app6 hj), trivial⟩, ⟨⟨rfl, ssh_src, m_src rfl rfl⟩, trivial⟩, ⟨⟨fun _ => ⟨rfl, rfl⟩, trivial⟩, trivial⟩⟩ ⟨⟨fun _ => rfl, rfl⟩, trivial⟩ (fun _ _ h => h) (fun _ _ h => h)
            · try simp only [hcs] at hc66
              refine snp_skip ?_
              apply srp tokTB (by kernel_rfl)
              · intro RR hRR
                refine wm ?_
                refine wm ?_
                refine wa ?_
                refine wa ?_
                exact hRR
              refine snp_ret ?_
              have hF : l9F len z s = ⟨(l9a len z s).p, (l9a len z s).n, (l9a len z s).f, snF len 40 (l9a len z s).s⟩ := by show l9b len z (l9a len z s) = _; unfold l9b; rw [if_neg hc50, if_neg hc55, if_neg hc63, if_neg hc66]
              rw [hF]
              exact rtp_tt (ρ := ρ0) ⟨⟨m_int rfl, mt_fz ⟨ne_fst rfl, trivial⟩ rfl (fun j hj => rfl), trivial⟩, ⟨⟨rfl, ssh_src, m_src rfl rfl⟩, trivial⟩, ⟨⟨fun _ => ⟨rfl, rfl⟩, trivial⟩, trivial⟩⟩ ⟨⟨fun _ => rfl, rfl⟩, trivial⟩ (fun _ _ h => h) (fun _ _ h => h)
theorem c_l09Apart {len : Nat} {z : Nat → Int} (hz : ∀ i, 0 ≤ z i ∧ z i < 256) (hl : len ≤ 1000000) {p : Int} (hp : 2 ≤ p ∧ p ≤ 13) (s : Ss) : MCalls Tryz.prog TB 44 [0] [.ptr 0 0 [] 0 (rtS len z), .int .i64 p] [(0, .one (rtS len z) (srcS len z (s)))] (rowA (apL len z p s).n (apL len z p s).f) [(0, .one (rtS len z) (srcS len z ((apL len z p s).s)))] := by
  refine mcalls_of tokTB Tryz.func44 rfl rfl (Nat.le_of_ble_eq_true rfl) ⟨rfl, trivial⟩ ?_
  apply srp tokTB (by kernel_rfl)
  · intro RR hRR
    refine wa ?_
    exact hRR
  apply srp tokTB (by kernel_rfl)
  · intro RR hRR
    refine w_bsl und24 kn2 (by rw [sz2]; rfl) rfl trivial trivial rfl ?_
    refine wa ?_
    exact hRR
  refine snp_seq ?_
  apply srp tokTB (by kernel_rfl)
  · intro RR hRR
    refine wa ?_
    exact hRR
  refine snp_block ?_
  refine snp_loop (S := Nat) (fun r => ([(0, .ptr 0 0 [] 0 (rtS len z)), (1, .int .i64 p), (5, .own 905 0 (apG len z s (r)).1 2), (6, .int .i64 (r : Int))], [(0, .one ((rtS len z)) (srcS len z ((apG len z s (r)).2.2))), (905, .one (Z64 (apG len z s (r)).1) (C64 (apG len z s (r)).1 (apG len z s (r)).2.1))])) (fun r => r ≤ p.toNat ∧ (∀ a, a < r → apC len z p s a = false)) (fun r => p.toNat - r) (0) (fun k i => bif Nat.beq k 905 then (7, i) else (k, i)) ?_ ?_ ?_
  · exact ⟨⟨⟨⟨rfl, rfl, rfl, rfl, rfl⟩, (mi), (by first | exact ⟨rfl, rfl, rfl, rfl⟩ | exact ⟨rfl, by omega, rfl, rfl⟩), (mi), trivial⟩, ⟨⟨rfl, (sx), (by exact m_src rfl rfl)⟩, ⟨rfl, (sx), (by exact mt_arr0)⟩, trivial⟩, ⟨⟨(fun h => by first | exact ⟨rfl, rfl⟩ | exact absurd h (by decide)), (fun h => by first | exact ⟨rfl, rfl⟩ | exact absurd h (by decide)), trivial⟩, ⟨(fun h => by first | exact ⟨rfl, rfl⟩ | exact absurd h (by decide)), (fun h => by first | exact ⟨rfl, rfl⟩ | exact absurd h (by decide)), trivial⟩, trivial⟩⟩, ⟨⟨fun _ => rfl, rfl⟩, trivial⟩⟩
  · exact ⟨Nat.zero_le _, fun j hj => absurd hj (Nat.not_lt_zero _)⟩
  intro r hi0
  refine sqp (env2 := [(0, .ptr 0 0 [] 0 (rtS len z)), (1, .int .i64 p), (5, .own 905 0 (apG len z s (r)).1 2), (6, .int .i64 (r : Int))]) (ol2 := [(0, .one ((rtS len z)) (srcS len z ((apG len z s (r)).2.2))), (905, .one (Z64 (apG len z s (r)).1) (C64 (apG len z s (r)).1 (apG len z s (r)).2.1))]) rfl rfl ?_
  obtain ⟨le_r, inv_r⟩ := hi0
  refine snp_seq ?_
  apply srGp (env' := (15, .bool (decide ((r : Int) < p) && decide ((((apG len z s (r)).1 : Nat) : Int) < 6))) :: (14, .any) :: (13, .any) :: (12, .any) :: (11, .bool (decide ((r : Int) < p))) :: (10, _) :: (9, _) :: (8, _) :: _) tokTB (by kernel_rfl)
  · intro RR hRR
    refine wm ?_
    refine wm ?_
    refine w_lss rfl rfl ?_
    refine wm ?_
    refine w_g rfl rfl (fun hg3 => ?_) (fun hg3 => ?_)
    · skip
      refine wm ?_
      refine w_g_on rfl rfl hg3 ?_
      first | refine w_len_r rfl rfl und24 ?_ | refine w_len_o rfl rfl und24 ?_ | refine w_len_n rfl rfl und24 ?_
      refine w_g_on rfl rfl hg3 ?_
      refine w_lss rfl rfl ?_
      refine w_pick_1 rfl hg3 (by constructor) ?_
      try simp only [Int.toNat_natCast] at hg3
      exact hRR _ (EL.cons (.inr (by first | (simp only [hg3, els]; done) | (simp only [hg3, els, Bool.true_and, Bool.false_and]; done) | rfl)) (EL.cons (.inl rfl) (EL.cons (.inl rfl) (EL.cons (.inl rfl) (EL.cons (.inr (by first | (simp only [hg3, els]; done) | (simp only [hg3, els, Bool.true_and, Bool.false_and]; done) | rfl)) (EL.cons (.inr rfl) (EL.cons (.inr rfl) (EL.cons (.inr rfl) (EL.refl _)))))))))
    · have hg3 := eq_false_of_ne_true hg3
      refine w_g_off rfl rfl (by rw [hg3]; decide) ?_
      refine w_g_off rfl rfl (by rw [hg3]; decide) ?_
      refine w_pick_0 rfl hg3 (by constructor) ?_
      try simp only [Int.toNat_natCast] at hg3
      exact hRR _ (EL.cons (.inr (by first | (simp only [hg3, els]; done) | (simp only [hg3, els, Bool.true_and, Bool.false_and]; done) | rfl)) (EL.cons (.inl rfl) (EL.cons (.inl rfl) (EL.cons (.inl rfl) (EL.cons (.inr (by first | (simp only [hg3, els]; done) | (simp only [hg3, els, Bool.true_and, Bool.false_and]; done) | rfl)) (EL.cons (.inr rfl) (EL.cons (.inr rfl) (EL.cons (.inr rfl) (EL.refl _)))))))))
  refine snp_cond _ rfl (fun hc15 => ?_) (fun hc15 => ?_)
  · skip
    have hC : apC len z p s r = false := by unfold apC; rw [hc15]; rfl
    have hrp : (r : Int) < p ∧ (((apG len z s (r)).1 : Nat) : Int) < 6 := by simpa using hc15
    have lt_r : r < p.toNat := by omega
    refine snp_skip ?_
    refine snp_seq ?_
    refine snp_block ?_
    apply srDp tokTB (ops1 := [_]) (ops2 := [_]) (by kernel_rfl) rfl rfl
    · intro RR hRR
      refine wm ?_
      exact hRR
    · exact mut_ptr1 tokTB (c_l01Next hz hl (n := 3) ((apG len z s (r)).2.2)) (args := [.const (.int .i64 3)]) rfl rfl ⟨trivial, trivial⟩ trivial closed_src closed_src rfl
    · intro RR hRR
      refine w_eql rfl rfl ?_
      exact hRR
    refine snp_cond _ rfl (fun hc20 => ?_) (fun hc20 => ?_)
    · try simp only [hcs] at hc20
      have hs := apG_t (len := len) (z := z) hc20
      apply lrp tokTB (by kernel_rfl)
      · intro RR hRR
        refine wm ?_
        refine wm ?_
        refine w_bsl1 und24 kn2 (by rw [sz2]; rfl) rfl (by constructor) (by first | exact trivial | exact cel_cap2) (by exact sz2.symm) (by first | exact trivial | exact ssh_vec | exact ⟨rfl, fun _ => trivial⟩) ?_
        refine w_app_o und24 rfl rfl kn2 rfl rfl (fun C h => ⟨rfl, rfl, rfl, h⟩) (by rw [by2]; omega) (by omega) rfl ?_
        refine wa ?_
        exact hRR
      apply lrp tokTB (by kernel_rfl)
      · intro RR hRR
        refine wm ?_
        refine y_add rfl rfl ?_
        refine wa ?_
        exact hRR
      refine ⟨r + 1, (fun k i => bif Nat.beq k 905 then (24, i) else (k, i)), ?_, ⟨by omega, all_step inv_r hC⟩, (by dsimp only; omega)⟩
      exact ⟨⟨⟨⟨rfl, rfl, rfl, rfl, rfl⟩, (mi), (by exact ⟨rfl, by rw [hs], rfl, rfl⟩), (mi), trivial⟩, ⟨⟨rfl, (sx), (by exact m_src (by rw [hs]) (by rw [hs]))⟩, ⟨(by exact congrArg (fun q => AV.arr q _) (by rw [hs])), (sx), (by rw [hs]; exact mt_app (fun j hj => congrArg (AV.int .i64) (upd_ne _ _ (by omega)).symm) (congrArg (AV.int .i64) (upd_at _ _ _).symm))⟩, trivial⟩, ⟨⟨(fun h => by first | exact ⟨rfl, rfl⟩ | exact absurd h (by decide)), (fun h => by first | exact ⟨rfl, rfl⟩ | exact absurd h (by decide)), trivial⟩, ⟨(fun h => by first | exact ⟨rfl, rfl⟩ | exact absurd h (by decide)), (fun h => by first | exact ⟨rfl, rfl⟩ | exact absurd h (by decide)), trivial⟩, trivial⟩⟩, ⟨⟨fun _ => rfl, rfl⟩, trivial⟩⟩
    · try simp only [hcs] at hc20
      have hs := apG_f (len := len) (z := z) hc20
      refine snp_skip ?_
      apply lrp tokTB (by kernel_rfl)
      · intro RR hRR
        refine wm ?_
        refine y_add rfl rfl ?_
        refine wa ?_
        exact hRR
      refine ⟨r + 1, ρ0, ?_, ⟨by omega, all_step inv_r hC⟩, (by dsimp only; omega)⟩
      exact ⟨⟨⟨⟨rfl, rfl, rfl, rfl, rfl⟩, (mi), (by exact ⟨rfl, by rw [hs], rfl, rfl⟩), (mi), trivial⟩, ⟨⟨rfl, (sx), (by exact m_src (by rw [hs]) (by rw [hs]))⟩, ⟨(by exact congrArg (fun q => AV.arr q _) (by rw [hs])), (sx), (by rw [hs]; exact mt_vec (fun _ _ => rfl))⟩, trivial⟩, ⟨⟨(fun h => by first | exact ⟨rfl, rfl⟩ | exact absurd h (by decide)), (fun h => by first | exact ⟨rfl, rfl⟩ | exact absurd h (by decide)), trivial⟩, ⟨(fun h => by first | exact ⟨rfl, rfl⟩ | exact absurd h (by decide)), (fun h => by first | exact ⟨rfl, rfl⟩ | exact absurd h (by decide)), trivial⟩, trivial⟩⟩, ⟨⟨fun _ => rfl, rfl⟩, trivial⟩⟩
  · skip
    have hR : apR len z p s = r := apR_at (by omega) (by unfold apC; rw [hc15]; rfl) inv_r
    have hle := apG_le (len := len) (z := z) s r
    refine snp_exit ?_
    refine snp_seq ?_
    apply srp tokTB (by kernel_rfl)
    · intro RR hRR
      refine wm ?_
      refine w_len_o rfl rfl und24 ?_
      refine w_eql rfl rfl ?_
      exact hRR
    refine snp_cond _ rfl (fun hc27 => ?_) (fun hc27 => ?_)
    · try simp only [hcs] at hc27
      apply lrDp tokTB (ops1 := [_, _, _]) (ops2 := [_, _, _]) (by kernel_rfl) rfl rfl
      · intro RR hRR
        refine wm ?_
        refine wm ?_
        refine wm ?_
        exact hRR
      · exact mut_ptr1 tokTB (c_l01Next hz hl (n := p) ((apG len z s (r)).2.2)) (args := [.tmp 30]) rfl rfl ⟨trivial, trivial⟩ trivial closed_src closed_src rfl
      · intro RR hRR
        refine w_bsl1 und24 kn2 (by rw [sz2]; rfl) rfl (by constructor) (by first | exact trivial | exact cel_cap2) (by exact sz2.symm) (by first | exact trivial | exact ssh_vec | exact ⟨rfl, fun _ => trivial⟩) ?_
        refine w_app_o und24 rfl rfl kn2 rfl rfl (fun C h => ⟨rfl, rfl, rfl, h⟩) (by rw [by2]; omega) (by omega) rfl ?_
        refine wa ?_
        exact hRR
      apply srp tokTB (by kernel_rfl)
      · intro RR hRR
        refine wm ?_
        refine wa ?_
        exact hRR
      refine snp_ret ?_
      have hm0 : (apG len z s (r)).1 = 0 := by omega
      have hF : apL len z p s = ⟨p, 1, fun _ => sxF len z p (apG len z s (r)).2.2, snF len p (apG len z s (r)).2.2⟩ := by unfold apL; rw [hR, if_pos hm0]
      rw [hF]
      exact rtp (ρ := ρ0) ⟨⟨mt_fzE (by rw [hm0]) ⟨ne_fst rfl, trivial⟩ rfl (fun j hj => by obtain rfl : j = 0 := (by have h : j < 1 := hj; omega); rw [appF_ge (by omega) (by omega), hm0]; rfl), trivial⟩, ⟨⟨rfl, ssh_src, m_src rfl rfl⟩, trivial⟩, ⟨⟨fun _ => ⟨rfl, rfl⟩, trivial⟩, trivial⟩⟩ ⟨⟨fun _ => rfl, rfl⟩, trivial⟩
    · try simp only [hcs] at hc27
      refine snp_skip ?_
      apply srp tokTB (by kernel_rfl)
      · intro RR hRR
        refine wm ?_
        refine wa ?_
        exact hRR
      refine snp_ret ?_
      have hm0 : ¬ (apG len z s (r)).1 = 0 := by omega
      have hF : apL len z p s = ⟨p, (apG len z s (r)).1, (apG len z s (r)).2.1, (apG len z s (r)).2.2⟩ := by unfold apL; rw [hR, if_neg hm0]
      rw [hF]
      exact rtp (ρ := ρ0) ⟨⟨mt_fz ⟨ne_fst rfl, trivial⟩ rfl (fun j hj => rfl), trivial⟩, ⟨⟨rfl, ssh_src, m_src rfl rfl⟩, trivial⟩, ⟨⟨fun _ => ⟨rfl, rfl⟩, trivial⟩, trivial⟩⟩ ⟨⟨fun _ => rfl, rfl⟩, trivial⟩
end Go.Am

set_option maxRecDepth 4000
namespace Go.Am
attribute [local irreducible] retQ retQp
open Go.Proofs
theorem c_Draw5 {len : Nat} {z : Nat → Int} (hz : ∀ i, 0 ≤ z i ∧ z i < 256) (hl : len ≤ 1000000) : ACalls Tryz.prog TB 5 [codeA len z] (.tup 2 (pairA (.int .i64 (l9F len z (frS len z)).p) (rowA (l9F len z (frS len z)).n (l9F len z (frS len z)).f))) [] := by
  have hcc : (codeA len z).closed := fun _ => trivial
  refine acalls_of tokTB Tryz.func5 rfl rfl (Nat.le_of_ble_eq_true rfl) ?_
  apply sr tokTB (by kernel_rfl)
  · intro RR hRR
    refine wa ?_
    refine wa ?_
    exact hRR
  apply srD tokTB (ops1 := [_, _]) (ops2 := [_, _, _, _, _]) (by kernel_rfl) rfl rfl
  · intro RR hRR
    refine wm ?_
    refine w_call rfl (ec exn) (c_l01From hz hl) (.inr ⟨fun _ => trivial, trivial⟩) rfl (by constructor) rfl ?_
    exact hRR
  · exact mut_ptr1 tokTB (c_l09List hz hl (frS len z)) (args := []) rfl rfl trivial (closed_p2 trivial (fun _ => trivial)) closed_src closed_src (hat_src rfl)
  · intro RR hRR
    refine wm ?_
    refine we ?_
    refine we ?_
    refine wa ?_
    refine wa ?_
    exact hRR
  apply sr tokTB (by kernel_rfl)
  · intro RR hRR
    refine wm ?_
    refine wm ?_
    refine wa ?_
    refine wa ?_
    exact hRR
  refine snd_ret ?_
  exact rt_tt0 rfl ⟨rfl, fun _ _ => rfl⟩
theorem c_Draw23 {len : Nat} {z : Nat → Int} (hz : ∀ i, 0 ≤ z i ∧ z i < 256) (hl : len ≤ 1000000) : ACalls Tryz.prog TB 23 [codeA len z] (.tup 2 (pairA (.int .i64 (l9F len z (frS len z)).p) (rowA (l9F len z (frS len z)).n (l9F len z (frS len z)).f))) [] := by
  have hcc : (codeA len z).closed := fun _ => trivial
  refine acalls_of tokTB Tryz.func23 rfl rfl (Nat.le_of_ble_eq_true rfl) ?_
  apply sr tokTB (by kernel_rfl)
  · intro RR hRR
    refine wa ?_
    refine wa ?_
    exact hRR
  apply srD tokTB (ops1 := [_, _]) (ops2 := [_, _, _, _, _]) (by kernel_rfl) rfl rfl
  · intro RR hRR
    refine wm ?_
    refine w_call rfl (ec exn) (c_l01From hz hl) (.inr ⟨fun _ => trivial, trivial⟩) rfl (by constructor) rfl ?_
    exact hRR
  · exact mut_ptr1 tokTB (c_l09List hz hl (frS len z)) (args := []) rfl rfl trivial (closed_p2 trivial (fun _ => trivial)) closed_src closed_src (hat_src rfl)
  · intro RR hRR
    refine wm ?_
    refine we ?_
    refine we ?_
    refine wa ?_
    refine wa ?_
    exact hRR
  apply sr tokTB (by kernel_rfl)
  · intro RR hRR
    refine wm ?_
    refine wm ?_
    refine wa ?_
    refine wa ?_
    exact hRR
  refine snd_ret ?_
  exact rt_tt0 rfl ⟨rfl, fun _ _ => rfl⟩
theorem c_Draw20 {len : Nat} {z : Nat → Int} (hz : ∀ i, 0 ≤ z i ∧ z i < 256) (hl : len ≤ 1000000) : ACalls Tryz.prog TB 20 [codeA len z] (.tup 3 (trA (.int .i64 (l9F len z (frS len z)).p) (rowA (l9F len z (frS len z)).n (l9F len z (frS len z)).f) (.int .i64 (nrX len z (mxP (l9F len z (frS len z)).p) (l9F len z (frS len z)).s)))) [] := by
  have hcc : (codeA len z).closed := fun _ => trivial
  have hb := l9F_bd (len := len) hz (frS len z)
  have hmx := mxP_bd (len := len) hz (s := (frS len z))
  refine acalls_of tokTB Tryz.func20 rfl rfl (Nat.le_of_ble_eq_true rfl) ?_
  apply sr tokTB (by kernel_rfl)
  · intro RR hRR
    refine wa ?_
    refine wa ?_
    refine wa ?_
    exact hRR
  apply sr tokTB (by kernel_rfl)
  · intro RR hRR
    refine wm ?_
    refine w_call rfl (ec exn) (c_l01From hz hl) (.inr ⟨fun _ => trivial, trivial⟩) rfl (by constructor) rfl ?_
    refine wa ?_
    exact hRR
  apply srD tokTB (ops1 := [_]) (ops2 := [_, _, _, _, _]) (by kernel_rfl) rfl rfl
  · intro RR hRR
    refine wm ?_
    exact hRR
  · exact mut_ptr1 tokTB (c_l09List hz hl (frS len z)) (args := []) rfl rfl trivial (closed_p2 trivial (fun _ => trivial)) closed_src closed_src (hat_src rfl)
  · intro RR hRR
    refine wm ?_
    refine we ?_
    refine we ?_
    refine wa ?_
    refine wa ?_
    exact hRR
  apply srD tokTB (ops1 := [_, _, _, _, _, _]) (ops2 := [_, _, _]) (by kernel_rfl) rfl rfl
  · intro RR hRR
    refine wm ?_
    refine wm ?_
    refine wm ?_
    refine wm ?_
    refine y_sub rfl rfl ?_
    refine w_max rfl rfl (by exact rfl) ?_
    exact hRR
  · exact mut_ptr1 tokTB (c_l01Near hz hl (m := mxP (l9F len z (frS len z)).p) hmx (l9F len z (frS len z)).s) (args := [.tmp 20]) rfl rfl ⟨trivial, trivial⟩ trivial closed_src closed_src rfl
  · intro RR hRR
    refine wa ?_
    refine wa ?_
    refine wa ?_
    exact hRR
  refine snd_ret ?_
  exact rt_ttt rfl ⟨rfl, fun _ _ => rfl⟩ rfl
theorem c_Draw13 {len : Nat} {z : Nat → Int} (hz : ∀ i, 0 ≤ z i ∧ z i < 256) (hl : len ≤ 1000000) : ACalls Tryz.prog TB 13 [codeA len z] (.tup 3 (trA (.int .i64 (d13F len z (frS len z)).p) (rowA (d13F len z (frS len z)).n (d13F len z (frS len z)).f) (.int .i64 (d13F len z (frS len z)).g))) [] := by
  have hcc : (codeA len z).closed := fun _ => trivial
  have hp := drP_bd (len := len) hz (snF len 4 (frS len z))
  have hpb := primeB_bd hp
  obtain ⟨hAn, hAf⟩ := apL_bd (len := len) hz hpb (snF len 7 (snF len 4 (frS len z)))
  refine acalls_of tokTB Tryz.func13 rfl rfl (Nat.le_of_ble_eq_true rfl) ?_
  apply sr tokTB (by kernel_rfl)
  · intro RR hRR
    refine wa ?_
    refine wa ?_
    refine wa ?_
    exact hRR
  apply sr tokTB (by kernel_rfl)
  · intro RR hRR
    refine wm ?_
    refine w_call rfl (ec exn) (c_l01From hz hl) (.inr ⟨fun _ => trivial, trivial⟩) rfl (by constructor) rfl ?_
    refine wa ?_
    exact hRR
  refine snd_seq ?_
  apply srD tokTB (ops1 := [_]) (ops2 := [_]) (by kernel_rfl) rfl rfl
  · intro RR hRR
    refine wm ?_
    exact hRR
  · exact mut_ptr1 tokTB (c_l01Next hz hl (n := 4) ((frS len z))) (args := [.const (.int .i64 4)]) rfl rfl ⟨trivial, trivial⟩ trivial closed_src closed_src (hat_src rfl)
  · intro RR hRR
    refine w_eql rfl rfl ?_
    exact hRR
  refine snd_cond _ rfl (fun hc15 => ?_) (fun hc15 => ?_)
  · try simp only [hcs] at hc15
    apply srD tokTB (ops1 := [_]) (ops2 := [_, _, _, _, _]) (by kernel_rfl) rfl rfl
    · intro RR hRR
      refine wm ?_
      exact hRR
    · exact mut_ptr1 tokTB (c_l09List hz hl (snF len 4 (frS len z))) (args := []) rfl rfl trivial (closed_p2 trivial (fun _ => trivial)) closed_src closed_src rfl
    · intro RR hRR
      refine wm ?_
      refine we ?_
      refine we ?_
      refine wa ?_
      refine wa ?_
      exact hRR
    apply srD tokTB (ops1 := [_, _, _]) (ops2 := [_, _, _]) (by kernel_rfl) rfl rfl
    · intro RR hRR
      refine wm ?_
      refine wm ?_
      refine wm ?_
      exact hRR
    · exact mut_ptr1 tokTB (c_l01Near hz hl (m := 30) (by omega) (l9F len z (snF len 4 (frS len z))).s) (args := [.const (.int .i64 30)]) rfl rfl ⟨trivial, trivial⟩ trivial closed_src closed_src rfl
    · intro RR hRR
      refine wa ?_
      refine wa ?_
      refine wa ?_
      exact hRR
    refine snd_ret ?_
    have hF : d13F len z (frS len z) = ⟨(l9F len z (snF len 4 (frS len z))).p, (l9F len z (snF len 4 (frS len z))).n, (l9F len z (snF len 4 (frS len z))).f, nrX len z 30 (l9F len z (snF len 4 (frS len z))).s⟩ := if_pos hc15
    rw [hF]
    exact rt_ttt rfl ⟨rfl, fun _ _ => rfl⟩ rfl
  · try simp only [hcs] at hc15
    refine snd_skip ?_
    apply srD tokTB (ops1 := [_]) (ops2 := [_]) (by kernel_rfl) rfl rfl
    · intro RR hRR
      refine wm ?_
      exact hRR
    · exact mut_ptr1 tokTB (c_l01DrawPrime hz hl (snF len 4 (frS len z))) (args := []) rfl rfl trivial trivial closed_src closed_src rfl
    · intro RR hRR
      refine wa ?_
      exact hRR
    apply srD tokTB (ops1 := [_, _, _]) (ops2 := [_, _, _, _, _, _]) (by kernel_rfl) rfl rfl
    · intro RR hRR
      refine wm ?_
      refine wm ?_
      refine wm ?_
      exact hRR
    · exact mut_ptr1 tokTB (c_l09Apart hz hl (p := (drP len z (snF len 4 (frS len z)))) hpb (snF len 7 (snF len 4 (frS len z)))) (args := [.tmp 30]) rfl rfl ⟨trivial, trivial⟩ (fun _ => trivial) closed_src closed_src rfl
    · intro RR hRR
      refine w_call rfl (ec (ec exn)) (c_sProd_ok (c := (apL len z (drP len z (snF len 4 (frS len z))) (snF len 7 (snF len 4 (frS len z)))).f) (n := (apL len z (drP len z (snF len 4 (frS len z))) (snF len 7 (snF len 4 (frS len z)))).n) (p := (drP len z (snF len 4 (frS len z)))) ⟨hp, hAn, hAf⟩ (by omega) (by omega)) (.inl ⟨nr_pair trivial trivial, ⟨fun _ => trivial, trivial⟩⟩) rfl (by constructor) rfl ?_
      refine wm ?_
      refine we ?_
      refine we ?_
      refine wa ?_
      refine wa ?_
      exact hRR
    apply srD tokTB (ops1 := [_, _, _]) (ops2 := [_, _, _]) (by kernel_rfl) rfl rfl
    · intro RR hRR
      refine wm ?_
      refine wm ?_
      refine wm ?_
      exact hRR
    · exact mut_ptr1 tokTB (c_l01Near hz hl (m := 30) (by omega) (apL len z (drP len z (snF len 4 (frS len z))) (snF len 7 (snF len 4 (frS len z)))).s) (args := [.const (.int .i64 30)]) rfl rfl ⟨trivial, trivial⟩ trivial closed_src closed_src rfl
    · intro RR hRR
      refine wa ?_
      refine wa ?_
      refine wa ?_
      exact hRR
    refine snd_ret ?_
    have hF : d13F len z (frS len z) = ⟨(drP len z (snF len 4 (frS len z))), (apL len z (drP len z (snF len 4 (frS len z))) (snF len 7 (snF len 4 (frS len z)))).n, po (drP len z (snF len 4 (frS len z))) (apL len z (drP len z (snF len 4 (frS len z))) (snF len 7 (snF len 4 (frS len z)))).f (apL len z (drP len z (snF len 4 (frS len z))) (snF len 7 (snF len 4 (frS len z)))).n, nrX len z 30 (apL len z (drP len z (snF len 4 (frS len z))) (snF len 7 (snF len 4 (frS len z)))).s⟩ := if_neg hc15
    rw [hF]
    exact rt_ttt rfl (mt_fz trivial rfl (fun j hj => rfl)) rfl
theorem c_Draw17 {len : Nat} {z : Nat → Int} (hz : ∀ i, 0 ≤ z i ∧ z i < 256) (hl : len ≤ 1000000) : ACalls Tryz.prog TB 17 [codeA len z] (.tup 2 (pairA (.int .i64 (d17F len z (frS len z)).p) (rowA (d17F len z (frS len z)).n (d17F len z (frS len z)).f))) [] := by
  have hcc : (codeA len z).closed := fun _ => trivial
  refine acalls_of tokTB Tryz.func17 rfl rfl (Nat.le_of_ble_eq_true rfl) ?_
  apply sr tokTB (by kernel_rfl)
  · intro RR hRR
    refine wa ?_
    refine wa ?_
    exact hRR
  apply sr tokTB (by kernel_rfl)
  · intro RR hRR
    refine wm ?_
    refine w_call rfl (ec exn) (c_l01From hz hl) (.inr ⟨fun _ => trivial, trivial⟩) rfl (by constructor) rfl ?_
    refine wa ?_
    exact hRR
  apply srD tokTB (ops1 := [_]) (ops2 := [_, _, _, _, _]) (by kernel_rfl) rfl rfl
  · intro RR hRR
    refine wm ?_
    exact hRR
  · exact mut_ptr1 tokTB (c_l09List hz hl (frS len z)) (args := []) rfl rfl trivial (closed_p2 trivial (fun _ => trivial)) closed_src closed_src (hat_src rfl)
  · intro RR hRR
    refine wm ?_
    refine we ?_
    refine we ?_
    refine wa ?_
    refine wa ?_
    exact hRR
  refine snd_seq ?_
  apply srDG (env' := (20, .bool (decide (sxF len z 2 (l9F len z (frS len z)).s = 0) && primeB (l9F len z (frS len z)).p)) :: (19, .any) :: (18, .any) :: (17, .bool (decide (sxF len z 2 (l9F len z (frS len z)).s = 0))) :: (16, .bool (decide (sxF len z 2 (l9F len z (frS len z)).s = 0))) :: _) tokTB (ops1 := [_]) (ops2 := [_, _, _, _, _]) (by kernel_rfl) rfl rfl
  · intro RR hRR
    refine wm ?_
    exact hRR
  · exact mut_ptr1 tokTB (c_l01Next hz hl (n := 2) ((l9F len z (frS len z)).s)) (args := [.const (.int .i64 2)]) rfl rfl ⟨trivial, trivial⟩ trivial closed_src closed_src rfl
  · intro RR hRR
    refine w_eql rfl rfl ?_
    refine wm ?_
    refine w_g rfl rfl (fun hg3 => ?_) (fun hg3 => ?_)
    · skip
      refine wm ?_
      refine w_g_on rfl rfl hg3 ?_
      refine y_call rfl (ec exn) (c_l01Prime) ?_
      refine w_pick_1 rfl hg3 (by constructor) ?_
      try simp only [Int.toNat_natCast] at hg3
      exact hRR _ (EL.cons (.inr (by first | rfl | (simp only [hg3, els]; done) | (simp only [hg3, els]; rfl) | (simp [hg3]; done) | (clear hRR; simp_all; done))) (EL.cons (.inl rfl) (EL.cons (.inl rfl) (EL.cons (.inr (by first | rfl | (simp only [hg3, els]; done) | (simp only [hg3, els]; rfl) | (simp [hg3]; done) | (clear hRR; simp_all; done))) (EL.cons (.inr (by first | rfl | (simp only [hg3, els]; done) | (simp only [hg3, els]; rfl) | (simp [hg3]; done) | (clear hRR; simp_all; done))) (EL.refl _))))))
    · have hg3 := eq_false_of_ne_true hg3
      refine w_g_off rfl rfl (by rw [hg3]; decide) ?_
      refine w_pick_0 rfl hg3 (by constructor) ?_
      try simp only [Int.toNat_natCast] at hg3
      exact hRR _ (EL.cons (.inr (by first | rfl | (simp only [hg3, els]; done) | (simp only [hg3, els]; rfl) | (simp [hg3]; done) | (clear hRR; simp_all; done))) (EL.cons (.inl rfl) (EL.cons (.inl rfl) (EL.cons (.inr (by first | rfl | (simp only [hg3, els]; done) | (simp only [hg3, els]; rfl) | (simp [hg3]; done) | (clear hRR; simp_all; done))) (EL.cons (.inr (by first | rfl | (simp only [hg3, els]; done) | (simp only [hg3, els]; rfl) | (simp [hg3]; done) | (clear hRR; simp_all; done))) (EL.refl _))))))
  refine snd_cond _ rfl (fun hc20 => ?_) (fun hc20 => ?_)
  · skip
    have hpb : 2 ≤ (l9F len z (frS len z)).p ∧ (l9F len z (frS len z)).p ≤ 13 := primeB_bd (by simp at hc20; exact hc20.2)
    apply lrD tokTB (ops1 := [_, _]) (ops2 := [_]) (by kernel_rfl) rfl rfl
    · intro RR hRR
      refine wm ?_
      refine wm ?_
      exact hRR
    · exact mut_ptr1 tokTB (c_l09Apart hz hl (p := (l9F len z (frS len z)).p) hpb (snF len 2 (l9F len z (frS len z)).s)) (args := [.tmp 22]) rfl rfl ⟨trivial, trivial⟩ (fun _ => trivial) closed_src closed_src rfl
    · intro RR hRR
      refine wa ?_
      exact hRR
    apply sr tokTB (by kernel_rfl)
    · intro RR hRR
      refine wm ?_
      refine wm ?_
      refine wa ?_
      refine wa ?_
      exact hRR
    refine snd_ret ?_
    have hF : d17F len z (frS len z) = ⟨(l9F len z (frS len z)).p, (apL len z (l9F len z (frS len z)).p (snF len 2 (l9F len z (frS len z)).s)).n, (apL len z (l9F len z (frS len z)).p (snF len 2 (l9F len z (frS len z)).s)).f, (frS len z)⟩ := if_pos hc20
    rw [hF]
    exact rt_tt0 rfl ⟨rfl, fun _ _ => rfl⟩
  · skip
    refine snd_skip ?_
    apply sr tokTB (by kernel_rfl)
    · intro RR hRR
      refine wm ?_
      refine wm ?_
      refine wa ?_
      refine wa ?_
      exact hRR
    refine snd_ret ?_
    have hF : d17F len z (frS len z) = ⟨(l9F len z (frS len z)).p, (l9F len z (frS len z)).n, (l9F len z (frS len z)).f, (frS len z)⟩ := if_neg (by unfold d17B; rw [hc20]; decide)
    rw [hF]
    exact rt_tt0 rfl ⟨rfl, fun _ _ => rfl⟩
end Go.Am

set_option maxRecDepth 4000
namespace Go.Am
attribute [local irreducible] retQ retQp
open Go.Proofs
theorem sim_vec6 {d : Nat} {p : Nat → Int} : simT TB (d + 2) 27 (vecA p) := simT_arr und27 kn5 (fun i hi => ⟨sz5.symm, ag5.symm, simT_int und5⟩)
theorem sim_vecI {d : Nat} {p : Nat → Int} : simT TB (d + 2) 30 (vecA p) := simT_arr und30 kn5 (fun i hi => ⟨sz5.symm, ag5.symm, simT_int und5⟩)
theorem sim_mat6 {d : Nat} {p : Nat → Nat → Int} : simT TB (d + 3) 28 (matA p) := simT_arr und28 kn27 (fun i hi => ⟨sz27.symm, ag27.symm, sim_vec6⟩)
theorem sim_tab6 {d : Nat} {p : Nat → Nat → Nat → Int} : simT TB (d + 4) 29 (tabA p) := simT_arr und29 kn28 (fun i hi => ⟨sz28.symm, ag28.symm, sim_mat6⟩)
theorem sim_alg {p n : Int} {D : Nat → Nat → Nat → Int} {fo : Nat → Int} : simT TB 6 32 (algA p n D fo) := simT_alg und32 (by kernel_rfl) ⟨kn2, rfl, sz2.symm, ag2.symm, _, und2⟩ ⟨kn2, rfl, sz2.symm, ag2.symm, _, und2⟩ ⟨kn29, rfl, sz29.symm, ag29.symm, sim_tab6⟩ ⟨kn30, rfl, sz30.symm, ag30.symm, sim_vecI⟩
theorem c_likeInts {m : Nat} {f : Nat → Int} (hm : m ≤ 1000000) : ACalls Tryz.prog TB 10 [rowA m f, rowA m f] (.bool true) [] := by
  refine acalls_of tokTB Tryz.func10 rfl rfl (Nat.le_of_ble_eq_true rfl) ?_
  apply sr tokTB (by kernel_rfl)
  · intro RR hRR
    refine wa ?_
    exact hRR
  refine snd_seq ?_
  apply sr tokTB (by kernel_rfl)
  · intro RR hRR
    refine wm ?_
    refine w_len_r rfl rfl und24 ?_
    refine wm ?_
    refine w_len_r rfl rfl und24 ?_
    refine w_neq rfl rfl ?_
    exact hRR
  refine snd_cond_false (congrArg AV.bool (decide_eq_false (fun q => q rfl))) ?_
  refine snd_skip ?_
  refine snd_seq ?_
  apply sr tokTB (by kernel_rfl)
  · intro RR hRR
    refine wa ?_
    exact hRR
  refine snd_block ?_
  refine snd_loop (S := Nat) (fun i => ([(0, rowA m f), (1, rowA m f), (5, .int .i64 (i : Int))], [])) (fun i => i ≤ m) (fun i => m - i) (0) ρ0 ?_ ?_ ?_
  · exact ⟨⟨(by first | exact mt_row (V := _) (fun _ _ => rfl) | exact mt_fz (by exact trivial) rfl (fun _ _ => rfl)), (by first | exact mt_row (V := _) (fun _ _ => rfl) | exact mt_fz (by exact trivial) rfl (fun _ _ => rfl)), (mi), trivial⟩, trivial, trivial⟩
  · exact Nat.zero_le _
  intro i hi0
  refine sq (env2 := [(0, rowA m f), (1, rowA m f), (5, .int .i64 (i : Int))]) (ol2 := []) rfl rfl ?_
  refine snd_seq ?_
  apply sr tokTB (by kernel_rfl)
  · intro RR hRR
    refine wm ?_
    refine wm ?_
    refine w_len_r rfl rfl und24 ?_
    refine w_lss rfl rfl ?_
    exact hRR
  refine snd_cond _ rfl (fun hc14 => ?_) (fun hc14 => ?_)
  · try simp only [hcs] at hc14
    have lt_i : i < m := by omega
    refine snd_skip ?_
    refine snd_seq ?_
    refine snd_block ?_
    apply sd tokTB mixed (by kernel_rfl) (by kernel_rfl)
    · intro RR hRR
      refine wm ?_
      refine wm ?_
      refine w_iar rfl rfl und24 kn2 (by exact sz2.symm) ?_ rfl ?_
      · exact ⟨by omega, by omega⟩
      first | refine w_ldc rfl kn2 (by constructor) (by exact sz2.symm) (by exact ag2.symm) ?_ | refine w_ldp rfl kn2 rfl (by constructor) (by exact sz2.symm) (by exact ag2.symm) ?_
      refine wm ?_
      refine wm ?_
      refine w_iar rfl rfl und24 kn2 (by exact sz2.symm) ?_ rfl ?_
      · exact ⟨by omega, by omega⟩
      first | refine w_ldc rfl kn2 (by constructor) (by exact sz2.symm) (by exact ag2.symm) ?_ | refine w_ldp rfl kn2 rfl (by constructor) (by exact sz2.symm) (by exact ag2.symm) ?_
      refine w_neq rfl rfl ?_
      exact hRR
    refine snd_cond_false (congrArg AV.bool (decide_eq_false (fun q => q rfl))) ?_
    refine snd_skip ?_
    apply lr tokTB (by kernel_rfl)
    · intro RR hRR
      refine wm ?_
      refine y_add rfl rfl ?_
      refine wa ?_
      exact hRR
    refine ⟨i + 1, ρ0, ?_, (by omega), (by dsimp only; omega)⟩
    exact ⟨⟨(by first | exact mt_row (V := _) (fun _ _ => rfl) | exact mt_fz (by exact trivial) rfl (fun _ _ => rfl)), (by first | exact mt_row (V := _) (fun _ _ => rfl) | exact mt_fz (by exact trivial) rfl (fun _ _ => rfl)), (mi), trivial⟩, trivial, trivial⟩
  · try simp only [hcs] at hc14
    have ge_i : m = i := by omega
    subst ge_i
    refine snd_exit ?_
    apply sr tokTB (by kernel_rfl)
    · intro RR hRR
      refine wa ?_
      exact hRR
    refine snd_ret ?_
    exact rt (T := TB) (fun V => by first | exact m_bool rfl | exact m_int rfl)
theorem c_likeNil : ACalls Tryz.prog TB 10 [.nilsl, .nilsl] (.bool true) [] := by
  refine acalls_of tokTB Tryz.func10 rfl rfl (Nat.le_of_ble_eq_true rfl) ?_
  apply sr tokTB (by kernel_rfl)
  · intro RR hRR
    refine wa ?_
    exact hRR
  refine snd_seq ?_
  apply sr tokTB (by kernel_rfl)
  · intro RR hRR
    refine wm ?_
    refine w_len_n rfl rfl und24 ?_
    refine wm ?_
    refine w_len_n rfl rfl und24 ?_
    refine w_neq rfl rfl ?_
    exact hRR
  refine snd_cond_false rfl ?_
  refine snd_skip ?_
  refine snd_seq ?_
  apply sr tokTB (by kernel_rfl)
  · intro RR hRR
    refine wa ?_
    exact hRR
  refine snd_block ?_
  refine snd_loop (S := Nat) (fun i => ([(0, .nilsl), (1, .nilsl), (5, .int .i64 (i : Int))], [])) (fun i => i ≤ 0) (fun i => 0 - i) (0) ρ0 ?_ ?_ ?_
  · exact ⟨⟨rfl, rfl, (mi), trivial⟩, trivial, trivial⟩
  · exact Nat.zero_le _
  intro i hi0
  refine sq (env2 := [(0, .nilsl), (1, .nilsl), (5, .int .i64 (i : Int))]) (ol2 := []) rfl rfl ?_
  refine snd_seq ?_
  apply sr tokTB (by kernel_rfl)
  · intro RR hRR
    refine wm ?_
    refine wm ?_
    refine w_len_n rfl rfl und24 ?_
    refine w_lss rfl rfl ?_
    exact hRR
  refine snd_cond_false rfl ?_
  refine snd_exit ?_
  apply sr tokTB (by kernel_rfl)
  · intro RR hRR
    refine wa ?_
    exact hRR
  refine snd_ret ?_
  exact rt (T := TB) (fun V => by first | exact m_bool rfl | exact m_int rfl)
theorem c_big {len : Nat} {z : Nat → Int} : ACalls Tryz.prog TB 4 [codeA len z] (.bool (decide ((4096 : Int) < (len : Int)))) [] := by
  refine acalls_of tokTB Tryz.func4 rfl rfl (Nat.le_of_ble_eq_true rfl) ?_
  apply sr tokTB (by kernel_rfl)
  · intro RR hRR
    refine wa ?_
    exact hRR
  apply sr tokTB (by kernel_rfl)
  · intro RR hRR
    refine wm ?_
    first | refine w_len_r rfl rfl und22 ?_ | refine w_len_o rfl rfl und22 ?_ | refine w_len_n rfl rfl und22 ?_
    refine w_gtr rfl rfl ?_
    refine wa ?_
    exact hRR
  refine snd_ret ?_
  exact rt (T := TB) (fun V => by first | exact m_bool rfl | exact m_int rfl)
end Go.Am

set_option maxRecDepth 4000
namespace Go.Am
attribute [local irreducible] retQ retQp
open Go.Proofs
theorem ex_Draw5 {len : Nat} {z : Nat → Int} (hz : ∀ i, 0 ≤ z i ∧ z i < 256) (hl : len ≤ 1000000) : ∃ (p : Int) (n : Nat) (f : Nat → Int), (-1000000 ≤ p ∧ p ≤ 1000000) ∧ n ≤ 1000 ∧ ACalls Tryz.prog TB 5 [codeA len z] (.tup 2 (pairA (.int .i64 p) (rowA n f))) [] := ⟨_, _, _, (l9F_bd hz _).1, by have := (l9F_bd (len := len) hz (frS len z)).2; omega, c_Draw5 hz hl⟩
theorem ex_Draw23 {len : Nat} {z : Nat → Int} (hz : ∀ i, 0 ≤ z i ∧ z i < 256) (hl : len ≤ 1000000) : ∃ (p : Int) (n : Nat) (f : Nat → Int), (-1000000 ≤ p ∧ p ≤ 1000000) ∧ n ≤ 1000 ∧ ACalls Tryz.prog TB 23 [codeA len z] (.tup 2 (pairA (.int .i64 p) (rowA n f))) [] := ⟨_, _, _, (l9F_bd hz _).1, by have := (l9F_bd (len := len) hz (frS len z)).2; omega, c_Draw23 hz hl⟩
theorem ex_Draw17 {len : Nat} {z : Nat → Int} (hz : ∀ i, 0 ≤ z i ∧ z i < 256) (hl : len ≤ 1000000) : ∃ (p : Int) (n : Nat) (f : Nat → Int), (-1000000 ≤ p ∧ p ≤ 1000000) ∧ n ≤ 1000 ∧ ACalls Tryz.prog TB 17 [codeA len z] (.tup 2 (pairA (.int .i64 p) (rowA n f))) [] := ⟨_, _, _, (d17_bd hz _).1, by have := (d17_bd (len := len) hz (frS len z)).2; omega, c_Draw17 hz hl⟩
theorem ex_Draw13 {len : Nat} {z : Nat → Int} (hz : ∀ i, 0 ≤ z i ∧ z i < 256) (hl : len ≤ 1000000) : ∃ (p : Int) (n : Nat) (f : Nat → Int) (g : Int), (-1000000 ≤ p ∧ p ≤ 1000000) ∧ n ≤ 1000 ∧ ACalls Tryz.prog TB 13 [codeA len z] (.tup 3 (trA (.int .i64 p) (rowA n f) (.int .i64 g))) [] := ⟨_, _, _, _, (d13_bd hz _).1, by have := (d13_bd (len := len) hz (frS len z)).2; omega, c_Draw13 hz hl⟩
theorem ex_Draw20 {len : Nat} {z : Nat → Int} (hz : ∀ i, 0 ≤ z i ∧ z i < 256) (hl : len ≤ 1000000) : ∃ (p : Int) (n : Nat) (f : Nat → Int) (g : Int), (-1000000 ≤ p ∧ p ≤ 1000000) ∧ n ≤ 1000 ∧ ACalls Tryz.prog TB 20 [codeA len z] (.tup 3 (trA (.int .i64 p) (rowA n f) (.int .i64 g))) [] := ⟨_, _, _, _, (l9F_bd hz _).1, by have := (l9F_bd (len := len) hz (frS len z)).2; omega, c_Draw20 hz hl⟩
theorem pol_V {p : Int} {n : Nat} {f : Nat → Int} (h : PO p n f) : VN p n (polT p n (cutF f n)) (polO n) := pol_VN h.1 (by have := h.2.1; omega) (by have := h.2.1; omega)
theorem res_frob {p : Int} {n : Nat} {f : Nat → Int} (h : PO p n f) : ACalls Tryz.prog TB 11 [algA p (n : Int) (polT p n (cutF f n)) (polO n)] (.tup 2 (pairA (.bool true) (.int .i64 0))) [] := by
  have e := c_iIsFrobenius_ok (pol_V h)
  rw [decide_eq_true (pol_rank h.1 (by have := h.2.1; omega) (by have := h.2.1; omega))] at e
  exact e
theorem res_min {p : Int} {n : Nat} {f : Nat → Int} (h : PO p n f) (h2 : 1 < n) : ACalls Tryz.prog TB 12 [algA p (n : Int) (polT p n (cutF f n)) (polO n), vecA (eF 1)] (.tup 2 (pairA (.own 0 0 (n + 1) 2) (.int .i64 0))) [(0, .one (Z64 (n + 1)) (C64 (n + 1) (fun j => if j < n then f j else 1)))] := by
  have hpb := primeB_bd h.1
  obtain ⟨D, hD⟩ := mp_ex (pol_V h) (VV.eF (show 1 < p by omega) h2)
  obtain ⟨h3, h4⟩ := pol_coef h h2 hD
  have e := c_iMinimalPolynomial_ok (pol_V h) (VV.eF (show 1 < p by omega) h2) hD
  rw [h4, h3] at e
  exact e
theorem res_genus {p : Int} {n : Nat} {f : Nat → Int} (h : PO p n f) (hN : roN p n f = n) {g : Nat} (hg : g ≤ 30) : ACalls Tryz.prog TB 16 [algA p (n : Int) (polT p n (cutF f n)) (polO n), .int .i64 (g : Int)] (.tup 2 (pairA (.int .i64 (rnF p n f g)) (.int .i64 0))) [] := by
  have e : ACalls Tryz.prog TB 16 [algA p (n : Int) (polT p n (cutF f n)) (polO n), .int .i64 (g : Int)] (.tup 2 (pairA (.int .i64 (formF p (polO n) (powV p n (polT p n (cutF f n)) (uF p n (polT p n (cutF f n))) (pr1 p n (polT p n (cutF f n)) (cpM p n (formT p (polT p n (cutF f n)) (polO n))) n) g))) (.int .i64 0))) [] := c_iGenusNumber_ok (pol_V h) (VZ_0.2 (pol_V h).va) pol_com (pol_rank h.1 (by have := h.2.1; omega) (by have := h.2.1; omega)) hg
  rw [genus_roots h.1 (by have := h.2.1; omega) (by have := h.2.1; omega) (roN_cut.trans hN) g, rnF_cut] at e
  exact e
theorem res_prod {p : Int} {n : Nat} {f : Nat → Int} (h : PO p n f) (hp0 : -1000000 ≤ p ∧ p ≤ 1000000) (hn0 : n ≤ 1000) : ∃ (m : Nat) (R : Nat → Int), m ≤ 1000 ∧ (∀ i, i < n → ∃ r, r < m ∧ R r = f i) ∧ ACalls Tryz.prog TB 8 [.int .i64 p, rowA n (po p f n)] (.tup 2 (pairA (.own 0 0 m 2) (.int .i64 0))) [(0, .one (Z64 m) (C64 m R))] :=
  ⟨_, _, by have := ro_le h.1 n (po p f n); omega, fun i hi => po_all h hi, c_iRootsOf_ok (PO_po h) hp0 hn0⟩
theorem law_FnResidues {len : Nat} {z : Nat → Int} (hz : ∀ i, 0 ≤ z i ∧ z i < 256) : ACalls Tryz.prog TB 3 [codeA len z] (.bool true) [] := by
  refine acalls_of tokTB Tryz.func3 rfl rfl (Nat.le_of_ble_eq_true rfl) ?_
  apply sr tokTB (by kernel_rfl)
  · intro RR hRR
    refine wa ?_
    exact hRR
  refine snd_seq ?_
  apply sr tokTB (by kernel_rfl)
  · intro RR hRR
    refine wm ?_
    refine y_call rfl (ec exn) (c_big) ?_
    exact hRR
  refine snd_cond _ rfl (fun hc53 => ?_) (fun hc53 => ?_)
  · skip
    apply sr tokTB (by kernel_rfl)
    · intro RR hRR
      refine wa ?_
      exact hRR
    refine snd_ret ?_
    exact rt (T := TB) (fun V => by first | exact m_bool rfl | exact m_int rfl)
  · skip
    have hl : len ≤ 1000000 := by simp only [decide_eq_false_iff_not] at hc53; omega
    refine snd_skip ?_
    apply snd_cut (env2 := [(0, codeA len z)]) (ol2 := [])
    case h1 =>
      intro hK18
      obtain ⟨p, n, f, hp0, hn0, hD⟩ := ex_Draw5 hz hl
      apply sr tokTB (by kernel_rfl)
      · intro RR hRR
        refine wm ?_
        refine w_callc rfl (ec exn) (hD) (closed_p2 trivial (fun _ => trivial)) ⟨fun _ => trivial, trivial⟩ ?_
        refine wm ?_
        refine we ?_
        refine we ?_
        refine wa ?_
        refine wa ?_
        exact hRR
      rcases po3 p n f with hno | ⟨h, h1⟩ | ⟨h, h2⟩
      · skip
        apply sr tokTB (by kernel_rfl)
        · intro RR hRR
          refine wm ?_
          refine wm ?_
          refine y_call rfl (ec (ec exn)) (c_iPolyAlg_no hp0 hn0 hno) ?_
          refine wm ?_
          refine we ?_
          refine we ?_
          refine w_alloc kn32 rfl zr32 ?_
          refine w_stw rfl (by constructor) kn32 rfl (by exact trivial) (sx) (by exact sz32.symm) ?_
          refine wa ?_
          exact hRR
        apply sr tokTB (by kernel_rfl)
        · intro RR hRR
          refine wm ?_
          refine wm ?_
          refine y_call rfl (ec (ec exn)) (c_sPolyAlg_no hp0 hn0 hno) ?_
          refine wm ?_
          refine we ?_
          refine we ?_
          refine w_alloc kn32 rfl zr32 ?_
          refine w_stw rfl (by constructor) kn32 rfl (by exact trivial) (sx) (by exact sz32.symm) ?_
          refine wa ?_
          exact hRR
        apply sr tokTB (by kernel_rfl)
        · intro RR hRR
          refine wm ?_
          refine wm ?_
          refine y_call rfl (ec (ec exn)) (c_iRootsOf_no hp0 hn0 hno) ?_
          refine wm ?_
          refine we ?_
          refine we ?_
          refine wa ?_
          refine wa ?_
          exact hRR
        apply sr tokTB (by kernel_rfl)
        · intro RR hRR
          refine wm ?_
          refine wm ?_
          refine y_call rfl (ec (ec exn)) (c_sRootsOf_no hp0 hn0 hno) ?_
          refine wm ?_
          refine we ?_
          refine we ?_
          refine wa ?_
          refine wa ?_
          exact hRR
        refine snd_seq ?_
        apply srG (env' := (101, .bool false) :: (100, .any) :: (99, .any) :: (98, .any) :: (97, .any) :: (96, .bool false) :: (95, .bool false) :: (94, .any) :: (93, .any) :: (92, .any) :: (91, .bool false) :: (90, .bool false) :: (89, .any) :: (88, .any) :: (87, .any) :: (86, _) :: (85, _) :: (84, _) :: (83, _) :: _) tokTB (by kernel_rfl)
        · intro RR hRR
          refine wm ?_
          refine wm ?_
          refine w_neq_f rfl rfl rfl ?_
          refine wm ?_
          refine w_g_on rfl rfl rfl ?_
          refine w_ldp rfl kn32 rfl (by constructor) (by exact sz32.symm) (by exact ag32.symm) ?_
          refine w_g_on rfl rfl rfl ?_
          refine w_ldp rfl kn32 rfl (by constructor) (by exact sz32.symm) (by exact ag32.symm) ?_
          refine w_g_on rfl rfl rfl ?_
          refine w_sctn rfl rfl und32 sim_alg ?_
          refine w_pick_0 rfl rfl (by constructor) ?_
          refine wm ?_
          refine w_g_on rfl rfl rfl ?_
          refine wm ?_
          refine w_g_on rfl rfl rfl ?_
          refine wm ?_
          refine w_g_on rfl rfl rfl ?_
          refine w_neq_f rfl rfl rfl ?_
          refine w_pick_0 rfl rfl (by constructor) ?_
          refine wm ?_
          refine w_g_on rfl rfl rfl ?_
          refine wm ?_
          refine w_g_on rfl rfl rfl ?_
          refine wm ?_
          refine w_g_on rfl rfl rfl ?_
          refine y_call rfl (ec (ec exn)) (c_likeNil) ?_
          refine w_g_on rfl rfl rfl ?_
          refine w_not rfl ?_
          refine w_pick_0 rfl rfl (by constructor) ?_
          exact hRR _ (EL.cons (er) (EL.cons (.inl rfl) (EL.cons (.inl rfl) (EL.cons (.inl rfl) (EL.cons (.inl rfl) (EL.cons (er) (EL.cons (er) (EL.cons (.inl rfl) (EL.cons (.inl rfl) (EL.cons (.inl rfl) (EL.cons (er) (EL.cons (er) (EL.cons (.inl rfl) (EL.cons (.inl rfl) (EL.cons (.inl rfl) (EL.cons (.inr rfl) (EL.cons (.inr rfl) (EL.cons (.inr rfl) (EL.cons (.inr rfl) (EL.refl _))))))))))))))))))))
        refine snd_cond_false rfl ?_
        refine snd_skip ?_
        refine snd_seq ?_
        apply sr tokTB (by kernel_rfl)
        · intro RR hRR
          refine wm ?_
          refine w_eql rfl rfl ?_
          exact hRR
        refine snd_cond_false (congrArg AV.bool (decide_eq_false (by decide))) ?_
        refine snd_skip ?_
        refine snd_emb (ρ := ρ0) (env2 := [(0, codeA len z)]) (ol2 := []) ?_ hK18
        exact ⟨⟨⟨rfl, fun _ _ => rfl⟩, trivial⟩, trivial, trivial⟩
      · skip
        have hpb := primeB_bd h.1
        have hrn := ro_le h.1 n f
        apply sr tokTB (by kernel_rfl)
        · intro RR hRR
          refine wm ?_
          refine wm ?_
          refine y_call rfl (ec (ec exn)) (c_iPolyAlg_ok h) ?_
          refine wm ?_
          refine we ?_
          refine we ?_
          refine w_alloc kn32 rfl zr32 ?_
          refine w_stw rfl (by constructor) kn32 rfl (by exact trivial) (sx) (by exact sz32.symm) ?_
          refine wa ?_
          exact hRR
        apply sr tokTB (by kernel_rfl)
        · intro RR hRR
          refine wm ?_
          refine wm ?_
          refine y_call rfl (ec (ec exn)) (c_sPolyAlg_ok h hp0 hn0) ?_
          refine wm ?_
          refine we ?_
          refine we ?_
          refine w_alloc kn32 rfl zr32 ?_
          refine w_stw rfl (by constructor) kn32 rfl (by exact trivial) (sx) (by exact sz32.symm) ?_
          refine wa ?_
          exact hRR
        apply sr tokTB (by kernel_rfl)
        · intro RR hRR
          refine wm ?_
          refine wm ?_
          refine w_call rfl (ec (ec exn)) (c_iRootsOf_ok h hp0 hn0) (.inl ⟨nr_pair trivial trivial, ⟨fun _ => trivial, trivial⟩⟩) rfl (by constructor) rfl ?_
          refine wm ?_
          refine we ?_
          refine we ?_
          refine wa ?_
          refine wa ?_
          exact hRR
        apply sr tokTB (by kernel_rfl)
        · intro RR hRR
          refine wm ?_
          refine wm ?_
          refine w_call rfl (ec (ec exn)) (c_sRootsOf_ok h hp0 hn0) (.inl ⟨nr_pair trivial trivial, ⟨fun _ => trivial, trivial⟩⟩) rfl (by constructor) rfl ?_
          refine wm ?_
          refine we ?_
          refine we ?_
          refine wa ?_
          refine wa ?_
          exact hRR
        refine snd_seq ?_
        apply srG (env' := (101, .bool false) :: (100, .any) :: (99, .any) :: (98, .any) :: (97, .any) :: (96, .bool false) :: (95, .bool false) :: (94, .any) :: (93, .any) :: (92, .any) :: (91, .bool false) :: (90, .bool false) :: (89, .any) :: (88, .any) :: (87, .any) :: (86, _) :: (85, _) :: (84, _) :: (83, _) :: _) tokTB (by kernel_rfl)
        · intro RR hRR
          refine wm ?_
          refine wm ?_
          refine w_neq_f rfl rfl rfl ?_
          refine wm ?_
          refine w_g_on rfl rfl rfl ?_
          refine w_ldp rfl kn32 rfl (by constructor) (by exact sz32.symm) (by exact ag32.symm) ?_
          refine w_g_on rfl rfl rfl ?_
          refine w_ldp rfl kn32 rfl (by constructor) (by exact sz32.symm) (by exact ag32.symm) ?_
          refine w_g_on rfl rfl rfl ?_
          refine w_sctn rfl rfl und32 sim_alg ?_
          refine w_pick_0 rfl rfl (by constructor) ?_
          refine wm ?_
          refine w_g_on rfl rfl rfl ?_
          refine wm ?_
          refine w_g_on rfl rfl rfl ?_
          refine wm ?_
          refine w_g_on rfl rfl rfl ?_
          refine w_neq_f rfl rfl rfl ?_
          refine w_pick_0 rfl rfl (by constructor) ?_
          refine wm ?_
          refine w_g_on rfl rfl rfl ?_
          refine wm ?_
          refine w_g_on rfl rfl rfl ?_
          refine wm ?_
          refine w_g_on rfl rfl rfl ?_
          refine y_call rfl rfl ((c_likeInts (m := roN p n f) (f := fun i => ((roF p n f i : Nat) : Int)) (by omega)).mt ⟨mt_row0 rfl, mt_row0 rfl, trivial⟩) ?_
          refine w_g_on rfl rfl rfl ?_
          refine w_not rfl ?_
          refine w_pick_0 rfl rfl (by constructor) ?_
          exact hRR _ (EL.cons (er) (EL.cons (.inl rfl) (EL.cons (.inl rfl) (EL.cons (.inl rfl) (EL.cons (.inl rfl) (EL.cons (er) (EL.cons (er) (EL.cons (.inl rfl) (EL.cons (.inl rfl) (EL.cons (.inl rfl) (EL.cons (er) (EL.cons (er) (EL.cons (.inl rfl) (EL.cons (.inl rfl) (EL.cons (.inl rfl) (EL.cons (.inr rfl) (EL.cons (.inr rfl) (EL.cons (.inr rfl) (EL.cons (.inr rfl) (EL.refl _))))))))))))))))))))
        refine snd_cond_false rfl ?_
        refine snd_skip ?_
        refine snd_seq ?_
        apply sr tokTB (by kernel_rfl)
        · intro RR hRR
          refine wm ?_
          refine w_eql rfl rfl ?_
          exact hRR
        refine snd_cond_true (congrArg AV.bool (decide_eq_true rfl)) ?_
        apply sr tokTB (by kernel_rfl)
        · intro RR hRR
          refine w_ldp rfl kn32 rfl (by constructor) (by exact sz32.symm) (by exact ag32.symm) ?_
          refine y_call rfl (ec exn) (res_frob h) ?_
          refine wm ?_
          refine we ?_
          refine we ?_
          refine wa ?_
          refine wa ?_
          exact hRR
        refine snd_seq ?_
        apply srG (env' := (121, .bool false) :: (120, .any) :: (119, .any) :: (118, .any) :: (117, .any) :: (116, .any) :: (115, .bool false) :: (114, .bool false) :: (113, .any) :: (112, .any) :: (111, _) :: (110, _) :: (109, _) :: _) tokTB (by kernel_rfl)
        · intro RR hRR
          refine wm ?_
          refine w_neq_f rfl rfl rfl ?_
          refine wm ?_
          refine w_g_on rfl rfl rfl ?_
          refine wm ?_
          refine w_g_on rfl rfl rfl ?_
          refine w_not rfl ?_
          refine w_pick_0 rfl rfl (by constructor) ?_
          refine wm ?_
          refine w_g_on rfl rfl rfl ?_
          refine wm ?_
          refine w_g_on rfl rfl rfl ?_
          first | refine w_len_r rfl rfl und24 ?_ | refine w_len_o rfl rfl und24 ?_ | refine w_len_n rfl rfl und24 ?_
          refine w_g_on rfl rfl rfl ?_
          refine wm ?_
          refine w_g_on rfl rfl rfl ?_
          first | refine w_len_r rfl rfl und24 ?_ | refine w_len_o rfl rfl und24 ?_ | refine w_len_n rfl rfl und24 ?_
          refine w_g_on rfl rfl rfl ?_
          refine w_gtr_f rfl rfl (by omega) ?_
          refine w_pick_0 rfl rfl (by constructor) ?_
          exact hRR _ (EL.cons (er) (EL.cons (.inl rfl) (EL.cons (.inl rfl) (EL.cons (.inl rfl) (EL.cons (.inl rfl) (EL.cons (.inl rfl) (EL.cons (er) (EL.cons (er) (EL.cons (.inl rfl) (EL.cons (.inl rfl) (EL.cons (.inr rfl) (EL.cons (.inr rfl) (EL.cons (.inr rfl) (EL.refl _))))))))))))))
        refine snd_cond_false rfl ?_
        refine snd_skip ?_
        apply sr tokTB (by kernel_rfl)
        · intro RR hRR
          refine wm ?_
          refine w_len_r rfl rfl und24 ?_
          refine w_gtr rfl rfl ?_
          exact hRR
        refine snd_cond_false (congrArg AV.bool (decide_eq_false (by omega))) ?_
        refine snd_skip ?_
        refine snd_emb (ρ := ρ0) (env2 := [(0, codeA len z)]) (ol2 := []) ?_ hK18
        exact ⟨⟨⟨rfl, fun _ _ => rfl⟩, trivial⟩, trivial, trivial⟩
      · skip
        have hpb := primeB_bd h.1
        have hrn := ro_le h.1 n f
        apply sr tokTB (by kernel_rfl)
        · intro RR hRR
          refine wm ?_
          refine wm ?_
          refine y_call rfl (ec (ec exn)) (c_iPolyAlg_ok h) ?_
          refine wm ?_
          refine we ?_
          refine we ?_
          refine w_alloc kn32 rfl zr32 ?_
          refine w_stw rfl (by constructor) kn32 rfl (by exact trivial) (sx) (by exact sz32.symm) ?_
          refine wa ?_
          exact hRR
        apply sr tokTB (by kernel_rfl)
        · intro RR hRR
          refine wm ?_
          refine wm ?_
          refine y_call rfl (ec (ec exn)) (c_sPolyAlg_ok h hp0 hn0) ?_
          refine wm ?_
          refine we ?_
          refine we ?_
          refine w_alloc kn32 rfl zr32 ?_
          refine w_stw rfl (by constructor) kn32 rfl (by exact trivial) (sx) (by exact sz32.symm) ?_
          refine wa ?_
          exact hRR
        apply sr tokTB (by kernel_rfl)
        · intro RR hRR
          refine wm ?_
          refine wm ?_
          refine w_call rfl (ec (ec exn)) (c_iRootsOf_ok h hp0 hn0) (.inl ⟨nr_pair trivial trivial, ⟨fun _ => trivial, trivial⟩⟩) rfl (by constructor) rfl ?_
          refine wm ?_
          refine we ?_
          refine we ?_
          refine wa ?_
          refine wa ?_
          exact hRR
        apply sr tokTB (by kernel_rfl)
        · intro RR hRR
          refine wm ?_
          refine wm ?_
          refine w_call rfl (ec (ec exn)) (c_sRootsOf_ok h hp0 hn0) (.inl ⟨nr_pair trivial trivial, ⟨fun _ => trivial, trivial⟩⟩) rfl (by constructor) rfl ?_
          refine wm ?_
          refine we ?_
          refine we ?_
          refine wa ?_
          refine wa ?_
          exact hRR
        refine snd_seq ?_
        apply srG (env' := (101, .bool false) :: (100, .any) :: (99, .any) :: (98, .any) :: (97, .any) :: (96, .bool false) :: (95, .bool false) :: (94, .any) :: (93, .any) :: (92, .any) :: (91, .bool false) :: (90, .bool false) :: (89, .any) :: (88, .any) :: (87, .any) :: (86, _) :: (85, _) :: (84, _) :: (83, _) :: _) tokTB (by kernel_rfl)
        · intro RR hRR
          refine wm ?_
          refine wm ?_
          refine w_neq_f rfl rfl rfl ?_
          refine wm ?_
          refine w_g_on rfl rfl rfl ?_
          refine w_ldp rfl kn32 rfl (by constructor) (by exact sz32.symm) (by exact ag32.symm) ?_
          refine w_g_on rfl rfl rfl ?_
          refine w_ldp rfl kn32 rfl (by constructor) (by exact sz32.symm) (by exact ag32.symm) ?_
          refine w_g_on rfl rfl rfl ?_
          refine w_sctn rfl rfl und32 sim_alg ?_
          refine w_pick_0 rfl rfl (by constructor) ?_
          refine wm ?_
          refine w_g_on rfl rfl rfl ?_
          refine wm ?_
          refine w_g_on rfl rfl rfl ?_
          refine wm ?_
          refine w_g_on rfl rfl rfl ?_
          refine w_neq_f rfl rfl rfl ?_
          refine w_pick_0 rfl rfl (by constructor) ?_
          refine wm ?_
          refine w_g_on rfl rfl rfl ?_
          refine wm ?_
          refine w_g_on rfl rfl rfl ?_
          refine wm ?_
          refine w_g_on rfl rfl rfl ?_
          refine y_call rfl rfl ((c_likeInts (m := roN p n f) (f := fun i => ((roF p n f i : Nat) : Int)) (by omega)).mt ⟨mt_row0 rfl, mt_row0 rfl, trivial⟩) ?_
          refine w_g_on rfl rfl rfl ?_
          refine w_not rfl ?_
          refine w_pick_0 rfl rfl (by constructor) ?_
          exact hRR _ (EL.cons (er) (EL.cons (.inl rfl) (EL.cons (.inl rfl) (EL.cons (.inl rfl) (EL.cons (.inl rfl) (EL.cons (er) (EL.cons (er) (EL.cons (.inl rfl) (EL.cons (.inl rfl) (EL.cons (.inl rfl) (EL.cons (er) (EL.cons (er) (EL.cons (.inl rfl) (EL.cons (.inl rfl) (EL.cons (.inl rfl) (EL.cons (.inr rfl) (EL.cons (.inr rfl) (EL.cons (.inr rfl) (EL.cons (.inr rfl) (EL.refl _))))))))))))))))))))
        refine snd_cond_false rfl ?_
        refine snd_skip ?_
        refine snd_seq ?_
        apply sr tokTB (by kernel_rfl)
        · intro RR hRR
          refine wm ?_
          refine w_eql rfl rfl ?_
          exact hRR
        refine snd_cond_true (congrArg AV.bool (decide_eq_true rfl)) ?_
        apply sr tokTB (by kernel_rfl)
        · intro RR hRR
          refine w_ldp rfl kn32 rfl (by constructor) (by exact sz32.symm) (by exact ag32.symm) ?_
          refine y_call rfl (ec exn) (res_frob h) ?_
          refine wm ?_
          refine we ?_
          refine we ?_
          refine wa ?_
          refine wa ?_
          exact hRR
        refine snd_seq ?_
        apply srG (env' := (121, .bool false) :: (120, .any) :: (119, .any) :: (118, .any) :: (117, .any) :: (116, .any) :: (115, .bool false) :: (114, .bool false) :: (113, .any) :: (112, .any) :: (111, _) :: (110, _) :: (109, _) :: _) tokTB (by kernel_rfl)
        · intro RR hRR
          refine wm ?_
          refine w_neq_f rfl rfl rfl ?_
          refine wm ?_
          refine w_g_on rfl rfl rfl ?_
          refine wm ?_
          refine w_g_on rfl rfl rfl ?_
          refine w_not rfl ?_
          refine w_pick_0 rfl rfl (by constructor) ?_
          refine wm ?_
          refine w_g_on rfl rfl rfl ?_
          refine wm ?_
          refine w_g_on rfl rfl rfl ?_
          first | refine w_len_r rfl rfl und24 ?_ | refine w_len_o rfl rfl und24 ?_ | refine w_len_n rfl rfl und24 ?_
          refine w_g_on rfl rfl rfl ?_
          refine wm ?_
          refine w_g_on rfl rfl rfl ?_
          first | refine w_len_r rfl rfl und24 ?_ | refine w_len_o rfl rfl und24 ?_ | refine w_len_n rfl rfl und24 ?_
          refine w_g_on rfl rfl rfl ?_
          refine w_gtr_f rfl rfl (by omega) ?_
          refine w_pick_0 rfl rfl (by constructor) ?_
          exact hRR _ (EL.cons (er) (EL.cons (.inl rfl) (EL.cons (.inl rfl) (EL.cons (.inl rfl) (EL.cons (.inl rfl) (EL.cons (.inl rfl) (EL.cons (er) (EL.cons (er) (EL.cons (.inl rfl) (EL.cons (.inl rfl) (EL.cons (.inr rfl) (EL.cons (.inr rfl) (EL.cons (.inr rfl) (EL.refl _))))))))))))))
        refine snd_cond_false rfl ?_
        refine snd_skip ?_
        apply sr tokTB (by kernel_rfl)
        · intro RR hRR
          refine wm ?_
          refine w_len_r rfl rfl und24 ?_
          refine w_gtr rfl rfl ?_
          exact hRR
        refine snd_cond_true (congrArg AV.bool (decide_eq_true (by omega))) ?_
        apply sr tokTB (by kernel_rfl)
        · intro RR hRR
          refine w_ldp rfl kn32 rfl (by constructor) (by exact sz32.symm) (by exact ag32.symm) ?_
          refine w_bld_a kn30 zr30 und30 kn5 (fun _ => (by exact sz5.symm)) (by exact ⟨⟨by decide, trivial, sz5.symm⟩, ⟨by decide, trivial, sz5.symm⟩, trivial⟩) (c := fun i => .int .u8 (eF 1 i)) (ef1 rfl rfl) (by exact sz5.symm) ?_
          refine w_call rfl (ec (ec exn)) (res_min h h2) (.inl ⟨nr_pair trivial trivial, ⟨fun _ => trivial, trivial⟩⟩) rfl (by constructor) rfl ?_
          refine wm ?_
          refine we ?_
          refine we ?_
          refine wa ?_
          refine wa ?_
          exact hRR
        refine snd_emb (ρ := ρ0) (env2 := [(0, codeA len z), (4, rowA n f), (15, rowA (n + 1) (fun j => if j < n then f j else 1)), (16, .int .i64 0)]) (ol2 := []) ?_ ?_
        · exact ⟨⟨⟨rfl, fun _ _ => rfl⟩, (by first | exact mt_row (V := _) (fun _ _ => rfl) | exact mt_fz (by exact trivial) rfl (fun _ _ => rfl)), (by exact mt_fz trivial rfl (fun _ _ => rfl)), (mi), trivial⟩, trivial, trivial⟩
        apply srG (env' := (149, .bool false) :: (148, .any) :: (147, .any) :: (146, .any) :: (145, .any) :: (144, .any) :: (143, .any) :: (142, .any) :: (141, .bool false) :: (140, .bool false) :: (139, .any) :: (138, .any) :: (137, .any) :: (136, .any) :: (135, .any) :: (134, .any) :: (133, _) :: (132, _) :: (131, _) :: _) tokTB (by kernel_rfl)
        · intro RR hRR
          refine wm ?_
          refine w_neq_f rfl rfl rfl ?_
          refine wm ?_
          refine w_g_on rfl rfl rfl ?_
          refine wm ?_
          refine w_g_on rfl rfl rfl ?_
          first | refine w_len_r rfl rfl und24 ?_ | refine w_len_o rfl rfl und24 ?_ | refine w_len_n rfl rfl und24 ?_
          refine w_g_on rfl rfl rfl ?_
          refine wm ?_
          refine w_g_on rfl rfl rfl ?_
          first | refine w_len_r rfl rfl und24 ?_ | refine w_len_o rfl rfl und24 ?_ | refine w_len_n rfl rfl und24 ?_
          refine w_g_on rfl rfl rfl ?_
          refine w_add rfl rfl (by exact (w64 (n := (n : Int) + 1) (by omega) (by omega)).trans (show (n : Int) + 1 = ((n + 1 : Nat) : Int) by omega)) ?_
          refine w_g_on rfl rfl rfl ?_
          refine w_neq_f rfl rfl rfl ?_
          refine w_pick_0 rfl rfl (by constructor) ?_
          refine wm ?_
          refine w_g_on rfl rfl rfl ?_
          refine wm ?_
          refine w_g_on rfl rfl rfl ?_
          refine wm ?_
          refine w_g_on rfl rfl rfl ?_
          first | refine w_len_r rfl rfl und24 ?_ | refine w_len_o rfl rfl und24 ?_ | refine w_len_n rfl rfl und24 ?_
          refine w_g_on rfl rfl rfl ?_
          refine w_sl_rh rfl rfl und24 kn2 (by exact sz2.symm) (by omega) ?_
          refine w_g_on rfl rfl rfl ?_
          refine wm ?_
          refine w_g_on rfl rfl rfl ?_
          refine y_call rfl rfl ((c_likeInts (m := n) (f := f) (by omega)).mt ⟨mt_row (fun i hi => if_pos hi), ⟨rfl, fun _ _ => rfl⟩, trivial⟩) ?_
          refine w_g_on rfl rfl rfl ?_
          refine w_not rfl ?_
          refine w_pick_0 rfl rfl (by constructor) ?_
          exact hRR _ (EL.cons (er) (EL.cons (.inl rfl) (EL.cons (.inl rfl) (EL.cons (.inl rfl) (EL.cons (.inl rfl) (EL.cons (.inl rfl) (EL.cons (.inl rfl) (EL.cons (.inl rfl) (EL.cons (er) (EL.cons (er) (EL.cons (.inl rfl) (EL.cons (.inl rfl) (EL.cons (.inl rfl) (EL.cons (.inl rfl) (EL.cons (.inl rfl) (EL.cons (.inl rfl) (EL.cons (.inr rfl) (EL.cons (.inr rfl) (EL.cons (.inr rfl) (EL.refl _))))))))))))))))))))
        refine snd_cond_false rfl ?_
        refine snd_skip ?_
        refine snd_emb (ρ := ρ0) (env2 := [(0, codeA len z)]) (ol2 := []) ?_ hK18
        exact ⟨⟨⟨rfl, fun _ _ => rfl⟩, trivial⟩, trivial, trivial⟩
    case h2 =>
      apply snd_cut (env2 := [(0, codeA len z)]) (ol2 := [])
      case h1 =>
        intro hK28
        obtain ⟨p, n, f, g0, hp0, hn0, hD⟩ := ex_Draw13 hz hl
        apply sr tokTB (by kernel_rfl)
        · intro RR hRR
          refine wm ?_
          refine w_callc rfl (ec exn) (hD) (closed_tr trivial (fun _ => trivial) trivial) ⟨fun _ => trivial, trivial⟩ ?_
          refine wm ?_
          refine we ?_
          refine we ?_
          refine we ?_
          refine wa ?_
          refine wa ?_
          refine wa ?_
          exact hRR
        rcases po_rn p n f g0 with hno | ⟨g, rfl, hg, h, hN⟩ | ⟨g, rfl, hg, h, hN⟩
        · skip
          apply sr tokTB (by kernel_rfl)
          · intro RR hRR
            refine wm ?_
            refine wm ?_
            refine wm ?_
            refine y_call rfl (ec (ec (ec exn))) (c_iRootNumber_no hp0 hn0 hno) ?_
            refine wm ?_
            refine we ?_
            refine we ?_
            refine wa ?_
            refine wa ?_
            exact hRR
          apply sr tokTB (by kernel_rfl)
          · intro RR hRR
            refine wm ?_
            refine wm ?_
            refine wm ?_
            refine y_call rfl (ec (ec (ec exn))) (c_sRootNumber_no hp0 hn0 hno) ?_
            refine wm ?_
            refine we ?_
            refine we ?_
            refine wa ?_
            refine wa ?_
            exact hRR
          refine snd_seq ?_
          apply srG (env' := (177, .bool false) :: (176, .any) :: (175, .any) :: (174, .any) :: (173, _) :: (172, _) :: (171, _) :: (170, _) :: _) tokTB (by kernel_rfl)
          · intro RR hRR
            refine wm ?_
            refine wm ?_
            refine w_neq_f rfl rfl rfl ?_
            refine wm ?_
            refine w_g_on rfl rfl rfl ?_
            refine wm ?_
            refine w_g_on rfl rfl rfl ?_
            refine wm ?_
            refine w_g_on rfl rfl rfl ?_
            refine w_neq_f rfl rfl rfl ?_
            refine w_pick_0 rfl rfl (by constructor) ?_
            exact hRR _ (EL.cons (er) (EL.cons (.inl rfl) (EL.cons (.inl rfl) (EL.cons (.inl rfl) (EL.cons (.inr rfl) (EL.cons (.inr rfl) (EL.cons (.inr rfl) (EL.cons (.inr rfl) (EL.refl _)))))))))
          refine snd_cond_false rfl ?_
          refine snd_skip ?_
          refine snd_seq ?_
          apply sr tokTB (by kernel_rfl)
          · intro RR hRR
            refine wm ?_
            refine w_eql rfl rfl ?_
            exact hRR
          refine snd_cond_false (congrArg AV.bool (decide_eq_false (by decide))) ?_
          refine snd_skip ?_
          refine snd_emb (ρ := ρ0) (env2 := [(0, codeA len z)]) (ol2 := []) ?_ hK28
          exact ⟨⟨⟨rfl, fun _ _ => rfl⟩, trivial⟩, trivial, trivial⟩
        · skip
          apply sr tokTB (by kernel_rfl)
          · intro RR hRR
            refine wm ?_
            refine wm ?_
            refine wm ?_
            refine y_call rfl (ec (ec (ec exn))) (c_iRootNumber_st h hp0 hn0 hN hg) ?_
            refine wm ?_
            refine we ?_
            refine we ?_
            refine wa ?_
            refine wa ?_
            exact hRR
          apply sr tokTB (by kernel_rfl)
          · intro RR hRR
            refine wm ?_
            refine wm ?_
            refine wm ?_
            refine y_call rfl (ec (ec (ec exn))) (c_sRootNumber_st h hp0 hn0 hN hg) ?_
            refine wm ?_
            refine we ?_
            refine we ?_
            refine wa ?_
            refine wa ?_
            exact hRR
          refine snd_seq ?_
          apply srG (env' := (177, .bool false) :: (176, .any) :: (175, .any) :: (174, .any) :: (173, _) :: (172, _) :: (171, _) :: (170, _) :: _) tokTB (by kernel_rfl)
          · intro RR hRR
            refine wm ?_
            refine wm ?_
            refine w_neq_f rfl rfl rfl ?_
            refine wm ?_
            refine w_g_on rfl rfl rfl ?_
            refine wm ?_
            refine w_g_on rfl rfl rfl ?_
            refine wm ?_
            refine w_g_on rfl rfl rfl ?_
            refine w_neq_f rfl rfl rfl ?_
            refine w_pick_0 rfl rfl (by constructor) ?_
            exact hRR _ (EL.cons (er) (EL.cons (.inl rfl) (EL.cons (.inl rfl) (EL.cons (.inl rfl) (EL.cons (.inr rfl) (EL.cons (.inr rfl) (EL.cons (.inr rfl) (EL.cons (.inr rfl) (EL.refl _)))))))))
          refine snd_cond_false rfl ?_
          refine snd_skip ?_
          refine snd_seq ?_
          apply sr tokTB (by kernel_rfl)
          · intro RR hRR
            refine wm ?_
            refine w_eql rfl rfl ?_
            exact hRR
          refine snd_cond_false (congrArg AV.bool (decide_eq_false (by decide))) ?_
          refine snd_skip ?_
          refine snd_emb (ρ := ρ0) (env2 := [(0, codeA len z)]) (ol2 := []) ?_ hK28
          exact ⟨⟨⟨rfl, fun _ _ => rfl⟩, trivial⟩, trivial, trivial⟩
        · skip
          apply sr tokTB (by kernel_rfl)
          · intro RR hRR
            refine wm ?_
            refine wm ?_
            refine wm ?_
            refine y_call rfl (ec (ec (ec exn))) (c_iRootNumber_ok h hp0 hn0 hN hg) ?_
            refine wm ?_
            refine we ?_
            refine we ?_
            refine wa ?_
            refine wa ?_
            exact hRR
          apply sr tokTB (by kernel_rfl)
          · intro RR hRR
            refine wm ?_
            refine wm ?_
            refine wm ?_
            refine y_call rfl (ec (ec (ec exn))) (c_sRootNumber_ok h hp0 hn0 hN hg) ?_
            refine wm ?_
            refine we ?_
            refine we ?_
            refine wa ?_
            refine wa ?_
            exact hRR
          refine snd_seq ?_
          apply srG (env' := (177, .bool false) :: (176, .any) :: (175, .any) :: (174, .any) :: (173, _) :: (172, _) :: (171, _) :: (170, _) :: _) tokTB (by kernel_rfl)
          · intro RR hRR
            refine wm ?_
            refine wm ?_
            refine w_neq_f rfl rfl rfl ?_
            refine wm ?_
            refine w_g_on rfl rfl rfl ?_
            refine wm ?_
            refine w_g_on rfl rfl rfl ?_
            refine wm ?_
            refine w_g_on rfl rfl rfl ?_
            refine w_neq_f rfl rfl rfl ?_
            refine w_pick_0 rfl rfl (by constructor) ?_
            exact hRR _ (EL.cons (er) (EL.cons (.inl rfl) (EL.cons (.inl rfl) (EL.cons (.inl rfl) (EL.cons (.inr rfl) (EL.cons (.inr rfl) (EL.cons (.inr rfl) (EL.cons (.inr rfl) (EL.refl _)))))))))
          refine snd_cond_false rfl ?_
          refine snd_skip ?_
          refine snd_seq ?_
          apply sr tokTB (by kernel_rfl)
          · intro RR hRR
            refine wm ?_
            refine w_eql rfl rfl ?_
            exact hRR
          refine snd_cond_true (congrArg AV.bool (decide_eq_true rfl)) ?_
          apply sr tokTB (by kernel_rfl)
          · intro RR hRR
            refine wm ?_
            refine wm ?_
            refine y_call rfl (ec (ec exn)) (c_iPolyAlg_ok h) ?_
            refine wm ?_
            refine we ?_
            refine we ?_
            refine w_alloc kn32 rfl zr32 ?_
            refine w_stw rfl (by constructor) kn32 rfl (by exact trivial) (sx) (by exact sz32.symm) ?_
            refine wa ?_
            exact hRR
          apply sr tokTB (by kernel_rfl)
          · intro RR hRR
            refine w_ldp rfl kn32 rfl (by constructor) (by exact sz32.symm) (by exact ag32.symm) ?_
            refine wm ?_
            refine y_call rfl (ec (ec exn)) (res_genus h hN hg) ?_
            refine wm ?_
            refine we ?_
            refine we ?_
            refine wa ?_
            refine wa ?_
            exact hRR
          apply srG (env' := (202, .bool false) :: (201, .any) :: (200, .any) :: (199, .any) :: (198, .bool false) :: (197, .bool false) :: (196, .any) :: (195, .any) :: (194, _) :: (193, _) :: (192, _) :: _) tokTB (by kernel_rfl)
          · intro RR hRR
            refine wm ?_
            refine w_neq_f rfl rfl rfl ?_
            refine wm ?_
            refine w_g_on rfl rfl rfl ?_
            refine wm ?_
            refine w_g_on rfl rfl rfl ?_
            refine w_neq_f rfl rfl rfl ?_
            refine w_pick_0 rfl rfl (by constructor) ?_
            refine wm ?_
            refine w_g_on rfl rfl rfl ?_
            refine wm ?_
            refine w_g_on rfl rfl rfl ?_
            refine wm ?_
            refine w_g_on rfl rfl rfl ?_
            refine w_neq_f rfl rfl rfl ?_
            refine w_pick_0 rfl rfl (by constructor) ?_
            exact hRR _ (EL.cons (er) (EL.cons (.inl rfl) (EL.cons (.inl rfl) (EL.cons (.inl rfl) (EL.cons (er) (EL.cons (er) (EL.cons (.inl rfl) (EL.cons (.inl rfl) (EL.cons (.inr rfl) (EL.cons (.inr rfl) (EL.cons (.inr rfl) (EL.refl _))))))))))))
          refine snd_cond_false rfl ?_
          refine snd_skip ?_
          refine snd_emb (ρ := ρ0) (env2 := [(0, codeA len z)]) (ol2 := []) ?_ hK28
          exact ⟨⟨⟨rfl, fun _ _ => rfl⟩, trivial⟩, trivial, trivial⟩
      case h2 =>
        apply snd_cut (env2 := [(0, codeA len z)]) (ol2 := [])
        case h1 =>
          intro hK47
          obtain ⟨p, n, f, hp0, hn0, hD⟩ := ex_Draw17 hz hl
          apply sr tokTB (by kernel_rfl)
          · intro RR hRR
            refine wm ?_
            refine w_callc rfl (ec exn) (hD) (closed_p2 trivial (fun _ => trivial)) ⟨fun _ => trivial, trivial⟩ ?_
            refine wm ?_
            refine we ?_
            refine we ?_
            refine wa ?_
            refine wa ?_
            exact hRR
          by_cases h : PO p n f
          · skip
            obtain ⟨m, R, hm, hall, hR⟩ := res_prod h hp0 hn0
            apply sr tokTB (by kernel_rfl)
            · intro RR hRR
              refine wm ?_
              refine wm ?_
              refine w_callc rfl (ec (ec exn)) (c_iProd_ok h hp0 hn0) (closed_p2 (fun _ => trivial) trivial) ⟨trivial, ⟨fun _ => trivial, trivial⟩⟩ ?_
              refine wm ?_
              refine we ?_
              refine we ?_
              refine wa ?_
              refine wa ?_
              exact hRR
            apply sr tokTB (by kernel_rfl)
            · intro RR hRR
              refine wm ?_
              refine wm ?_
              refine w_call rfl (ec (ec exn)) (c_sProd_ok h hp0 hn0) (.inl ⟨nr_pair trivial trivial, ⟨fun _ => trivial, trivial⟩⟩) rfl (by constructor) rfl ?_
              refine wm ?_
              refine we ?_
              refine we ?_
              refine wa ?_
              refine wa ?_
              exact hRR
            refine snd_seq ?_
            apply srG (env' := (228, .bool false) :: (227, .any) :: (226, .any) :: (225, .any) :: (224, .any) :: (223, _) :: (222, _) :: (221, _) :: (220, _) :: _) tokTB (by kernel_rfl)
            · intro RR hRR
              refine wm ?_
              refine wm ?_
              refine w_neq_f rfl rfl rfl ?_
              refine wm ?_
              refine w_g_on rfl rfl rfl ?_
              refine wm ?_
              refine w_g_on rfl rfl rfl ?_
              refine wm ?_
              refine w_g_on rfl rfl rfl ?_
              refine y_call rfl rfl ((c_likeInts (m := n) (f := po p f n) (by omega)).mt ⟨⟨rfl, fun _ _ => rfl⟩, mt_row0 rfl, trivial⟩) ?_
              refine w_g_on rfl rfl rfl ?_
              refine w_not rfl ?_
              refine w_pick_0 rfl rfl (by constructor) ?_
              exact hRR _ (EL.cons (er) (EL.cons (.inl rfl) (EL.cons (.inl rfl) (EL.cons (.inl rfl) (EL.cons (.inl rfl) (EL.cons (.inr rfl) (EL.cons (.inr rfl) (EL.cons (.inr rfl) (EL.cons (.inr rfl) (EL.refl _))))))))))
            refine snd_cond_false rfl ?_
            refine snd_skip ?_
            refine snd_seq ?_
            apply sr tokTB (by kernel_rfl)
            · intro RR hRR
              refine wm ?_
              refine w_eql rfl rfl ?_
              exact hRR
            refine snd_cond_true (congrArg AV.bool (decide_eq_true rfl)) ?_
            apply sr tokTB (by kernel_rfl)
            · intro RR hRR
              refine wm ?_
              refine wm ?_
              refine w_call rfl (ec (ec exn)) (hR) (.inl ⟨nr_pair trivial trivial, ⟨fun _ => trivial, trivial⟩⟩) rfl (by constructor) rfl ?_
              refine wm ?_
              refine we ?_
              refine we ?_
              refine wa ?_
              refine wa ?_
              exact hRR
            refine snd_seq ?_
            apply sr tokTB (by kernel_rfl)
            · intro RR hRR
              refine wm ?_
              refine w_neq_f rfl rfl rfl ?_
              exact hRR
            refine snd_cond_false rfl ?_
            refine snd_skip ?_
            refine snd_emb (ρ := ρ0) (env2 := [(0, codeA len z), (29, rowA n f), (34, rowA m R)]) (ol2 := []) ?_ ?_
            · exact ⟨⟨⟨rfl, fun _ _ => rfl⟩, (by first | exact mt_row (V := _) (fun _ _ => rfl) | exact mt_fz (by exact trivial) rfl (fun _ _ => rfl)), (by exact mt_fz trivial rfl (fun _ _ => rfl)), trivial⟩, trivial, trivial⟩
            apply sr tokTB (by kernel_rfl)
            · intro RR hRR
              refine wa ?_
              exact hRR
            refine snd_block ?_
            refine snd_loop (S := Nat) (fun i => ([(0, codeA len z), (29, rowA n f), (34, rowA m R), (36, .int .i64 (i : Int))], [])) (fun i => i ≤ n) (fun i => n - i) (0) ρ0 ?_ ?_ ?_
            · exact ⟨⟨⟨rfl, fun _ _ => rfl⟩, (by first | exact mt_row (V := _) (fun _ _ => rfl) | exact mt_fz (by exact trivial) rfl (fun _ _ => rfl)), (by first | exact mt_row (V := _) (fun _ _ => rfl) | exact mt_fz (by exact trivial) rfl (fun _ _ => rfl)), (mi), trivial⟩, trivial, trivial⟩
            · exact Nat.zero_le _
            intro i hi0
            refine sq (env2 := [(0, codeA len z), (29, rowA n f), (34, rowA m R), (36, .int .i64 (i : Int))]) (ol2 := []) rfl rfl ?_
            refine snd_seq ?_
            apply sr tokTB (by kernel_rfl)
            · intro RR hRR
              refine wm ?_
              refine wm ?_
              refine w_len_r rfl rfl und24 ?_
              refine w_lss rfl rfl ?_
              exact hRR
            refine snd_cond _ rfl (fun hc242 => ?_) (fun hc242 => ?_)
            · try simp only [hcs] at hc242
              have lt_i : i < n := by omega
              refine snd_skip ?_
              refine snd_seq ?_
              refine snd_block ?_
              apply sr tokTB (by kernel_rfl)
              · intro RR hRR
                refine wa ?_
                exact hRR
              refine snd_seq ?_
              apply sr tokTB (by kernel_rfl)
              · intro RR hRR
                refine wa ?_
                exact hRR
              refine snd_block ?_
              refine snd_loop (S := Nat) (fun k => ([(0, codeA len z), (29, rowA n f), (34, rowA m R), (36, .int .i64 (i : Int)), (37, .bool (hasF R (f i) k)), (38, .int .i64 (k : Int))], [])) (fun k => k ≤ m) (fun k => m - k) (0) ρ0 ?_ ?_ ?_
              · exact ⟨⟨⟨rfl, fun _ _ => rfl⟩, (by first | exact mt_row (V := _) (fun _ _ => rfl) | exact mt_fz (by exact trivial) rfl (fun _ _ => rfl)), (by first | exact mt_row (V := _) (fun _ _ => rfl) | exact mt_fz (by exact trivial) rfl (fun _ _ => rfl)), (mi), (by first | exact m_bool rfl | exact m_bool (by simp)), (mi), trivial⟩, trivial, trivial⟩
              · exact Nat.zero_le _
              intro k hi2
              refine sq (env2 := [(0, codeA len z), (29, rowA n f), (34, rowA m R), (36, .int .i64 (i : Int)), (37, .bool (hasF R (f i) k)), (38, .int .i64 (k : Int))]) (ol2 := []) rfl rfl ?_
              refine snd_seq ?_
              apply sr tokTB (by kernel_rfl)
              · intro RR hRR
                refine wm ?_
                refine wm ?_
                refine w_len_r rfl rfl und24 ?_
                refine w_lss rfl rfl ?_
                exact hRR
              refine snd_cond _ rfl (fun hc248 => ?_) (fun hc248 => ?_)
              · try simp only [hcs] at hc248
                have lt_k : k < m := by omega
                refine snd_skip ?_
                refine snd_seq ?_
                refine snd_block ?_
                apply ldG (env' := (37, .bool (hasF R (f i) k || decide (R k = f i))) :: (262, .bool (hasF R (f i) k || decide (R k = f i))) :: (261, .any) :: (260, .any) :: (259, .any) :: (258, .any) :: (257, .any) :: (256, .any) :: (255, .any) :: (254, .any) :: (253, .any) :: (252, .bool (hasF R (f i) k)) :: (251, _) :: _) tokTB mixed (by kernel_rfl) (by kernel_rfl)
                · intro RR hRR
                  refine wm ?_
                  refine wm ?_
                  refine w_g rfl rfl (fun hg1 => ?_) (fun hg1 => ?_)
                  · skip
                    refine wm ?_
                    refine w_g_on rfl rfl hg1 ?_
                    refine wm ?_
                    refine w_g_on rfl rfl hg1 ?_
                    first | refine w_iar rfl rfl und24 kn2 (by exact sz2.symm) ?_ rfl ?_ | refine w_iao rfl rfl und24 kn2 ?_ ?_
                    · exact ⟨by omega, by omega⟩
                    refine w_g_on rfl rfl hg1 ?_
                    first | refine w_ldc rfl kn2 (by constructor) (by exact sz2.symm) (by exact ag2.symm) ?_ | refine w_ldp rfl kn2 rfl (by constructor) (by exact sz2.symm) (by exact ag2.symm) ?_
                    refine w_g_on rfl rfl hg1 ?_
                    refine wm ?_
                    refine w_g_on rfl rfl hg1 ?_
                    refine wm ?_
                    refine w_g_on rfl rfl hg1 ?_
                    first | refine w_iar rfl rfl und24 kn2 (by exact sz2.symm) ?_ rfl ?_ | refine w_iao rfl rfl und24 kn2 ?_ ?_
                    · exact ⟨by omega, by omega⟩
                    refine w_g_on rfl rfl hg1 ?_
                    first | refine w_ldc rfl kn2 (by constructor) (by exact sz2.symm) (by exact ag2.symm) ?_ | refine w_ldp rfl kn2 rfl (by constructor) (by exact sz2.symm) (by exact ag2.symm) ?_
                    refine w_g_on rfl rfl hg1 ?_
                    refine w_eql rfl rfl ?_
                    refine w_pick_0 rfl hg1 (by constructor) ?_
                    refine wa ?_
                    try simp only [Int.toNat_natCast] at hg1
                    exact hRR _ (EL.cons (.inr (by first | rfl | (simp only [hg1, els]; done) | (simp only [hg1, els]; rfl) | (simp [hg1]; done) | (clear hRR; simp_all; done))) (EL.cons (.inr (by first | rfl | (simp only [hg1, els]; done) | (simp only [hg1, els]; rfl) | (simp [hg1]; done) | (clear hRR; simp_all; done))) (EL.cons (.inl rfl) (EL.cons (.inl rfl) (EL.cons (.inl rfl) (EL.cons (.inl rfl) (EL.cons (.inl rfl) (EL.cons (.inl rfl) (EL.cons (.inl rfl) (EL.cons (.inl rfl) (EL.cons (.inl rfl) (EL.cons (.inr (by first | rfl | (simp only [hg1, els]; done) | (simp only [hg1, els]; rfl) | (simp [hg1]; done) | (clear hRR; simp_all; done))) (EL.cons (.inr rfl) (EL.refl _))))))))))))))
                  · have hg1 := eq_true_of_ne_false hg1
                    refine w_g_off rfl rfl (by rw [hg1]; decide) ?_
                    refine w_g_off rfl rfl (by rw [hg1]; decide) ?_
                    refine w_g_off rfl rfl (by rw [hg1]; decide) ?_
                    refine w_g_off rfl rfl (by rw [hg1]; decide) ?_
                    refine w_g_off rfl rfl (by rw [hg1]; decide) ?_
                    refine w_g_off rfl rfl (by rw [hg1]; decide) ?_
                    refine w_g_off rfl rfl (by rw [hg1]; decide) ?_
                    refine w_g_off rfl rfl (by rw [hg1]; decide) ?_
                    refine w_pick_1 rfl hg1 (by constructor) ?_
                    refine wa ?_
                    try simp only [Int.toNat_natCast] at hg1
                    exact hRR _ (EL.cons (.inr (by first | rfl | (simp only [hg1, els]; done) | (simp only [hg1, els]; rfl) | (simp [hg1]; done) | (clear hRR; simp_all; done))) (EL.cons (.inr (by first | rfl | (simp only [hg1, els]; done) | (simp only [hg1, els]; rfl) | (simp [hg1]; done) | (clear hRR; simp_all; done))) (EL.cons (.inl rfl) (EL.cons (.inl rfl) (EL.cons (.inl rfl) (EL.cons (.inl rfl) (EL.cons (.inl rfl) (EL.cons (.inl rfl) (EL.cons (.inl rfl) (EL.cons (.inl rfl) (EL.cons (.inl rfl) (EL.cons (.inr (by first | rfl | (simp only [hg1, els]; done) | (simp only [hg1, els]; rfl) | (simp [hg1]; done) | (clear hRR; simp_all; done))) (EL.cons (.inr rfl) (EL.refl _))))))))))))))
                refine fun e he => snd_el he ?_
                apply lr tokTB (by kernel_rfl)
                · intro RR hRR
                  refine wm ?_
                  refine y_add rfl rfl ?_
                  refine wa ?_
                  exact hRR
                refine ⟨k + 1, ρ0, ?_, (by omega), (by dsimp only; omega)⟩
                exact ⟨⟨⟨rfl, fun _ _ => rfl⟩, (by first | exact mt_row (V := _) (fun _ _ => rfl) | exact mt_fz (by exact trivial) rfl (fun _ _ => rfl)), (by first | exact mt_row (V := _) (fun _ _ => rfl) | exact mt_fz (by exact trivial) rfl (fun _ _ => rfl)), (mi), (by first | exact m_bool rfl | exact m_bool (by simp)), (mi), trivial⟩, trivial, trivial⟩
              · try simp only [hcs] at hc248
                have ge_k : m = k := by omega
                subst ge_k
                refine snd_exit ?_
                apply sr tokTB (by kernel_rfl)
                · intro RR hRR
                  refine wm ?_
                  refine w_not rfl ?_
                  exact hRR
                refine snd_cond_false (by exact congrArg (fun b => AV.bool !b) (hasF_t m (hall i lt_i))) ?_
                refine snd_skip ?_
                apply lr tokTB (by kernel_rfl)
                · intro RR hRR
                  refine wm ?_
                  refine y_add rfl rfl ?_
                  refine wa ?_
                  exact hRR
                refine ⟨i + 1, ρ0, ?_, (by omega), (by dsimp only; omega)⟩
                exact ⟨⟨⟨rfl, fun _ _ => rfl⟩, (by first | exact mt_row (V := _) (fun _ _ => rfl) | exact mt_fz (by exact trivial) rfl (fun _ _ => rfl)), (by first | exact mt_row (V := _) (fun _ _ => rfl) | exact mt_fz (by exact trivial) rfl (fun _ _ => rfl)), (mi), trivial⟩, trivial, trivial⟩
            · try simp only [hcs] at hc242
              have ge_i : n = i := by omega
              subst ge_i
              refine snd_exit ?_
              refine snd_emb (ρ := ρ0) (env2 := [(0, codeA len z)]) (ol2 := []) ?_ hK47
              exact ⟨⟨⟨rfl, fun _ _ => rfl⟩, trivial⟩, trivial, trivial⟩
          · skip
            apply sr tokTB (by kernel_rfl)
            · intro RR hRR
              refine wm ?_
              refine wm ?_
              refine y_call rfl (ec (ec exn)) (c_iProd_no hp0 hn0 h) ?_
              refine wm ?_
              refine we ?_
              refine we ?_
              refine wa ?_
              refine wa ?_
              exact hRR
            apply sr tokTB (by kernel_rfl)
            · intro RR hRR
              refine wm ?_
              refine wm ?_
              refine y_call rfl (ec (ec exn)) (c_sProd_no hp0 hn0 h) ?_
              refine wm ?_
              refine we ?_
              refine we ?_
              refine wa ?_
              refine wa ?_
              exact hRR
            refine snd_seq ?_
            apply srG (env' := (228, .bool false) :: (227, .any) :: (226, .any) :: (225, .any) :: (224, .any) :: (223, _) :: (222, _) :: (221, _) :: (220, _) :: _) tokTB (by kernel_rfl)
            · intro RR hRR
              refine wm ?_
              refine wm ?_
              refine w_neq_f rfl rfl rfl ?_
              refine wm ?_
              refine w_g_on rfl rfl rfl ?_
              refine wm ?_
              refine w_g_on rfl rfl rfl ?_
              refine wm ?_
              refine w_g_on rfl rfl rfl ?_
              refine y_call rfl (ec (ec exn)) (c_likeNil) ?_
              refine w_g_on rfl rfl rfl ?_
              refine w_not rfl ?_
              refine w_pick_0 rfl rfl (by constructor) ?_
              exact hRR _ (EL.cons (er) (EL.cons (.inl rfl) (EL.cons (.inl rfl) (EL.cons (.inl rfl) (EL.cons (.inl rfl) (EL.cons (.inr rfl) (EL.cons (.inr rfl) (EL.cons (.inr rfl) (EL.cons (.inr rfl) (EL.refl _))))))))))
            refine snd_cond_false rfl ?_
            refine snd_skip ?_
            refine snd_seq ?_
            apply sr tokTB (by kernel_rfl)
            · intro RR hRR
              refine wm ?_
              refine w_eql rfl rfl ?_
              exact hRR
            refine snd_cond_false (congrArg AV.bool (decide_eq_false (by decide))) ?_
            refine snd_skip ?_
            refine snd_emb (ρ := ρ0) (env2 := [(0, codeA len z)]) (ol2 := []) ?_ hK47
            exact ⟨⟨⟨rfl, fun _ _ => rfl⟩, trivial⟩, trivial, trivial⟩
        case h2 =>
          obtain ⟨p, n, f, r, hp0, hn0, hD⟩ := ex_Draw20 hz hl
          apply sr tokTB (by kernel_rfl)
          · intro RR hRR
            refine wm ?_
            refine w_callc rfl (ec exn) (hD) (closed_tr trivial (fun _ => trivial) trivial) ⟨fun _ => trivial, trivial⟩ ?_
            refine wm ?_
            refine we ?_
            refine we ?_
            refine we ?_
            refine wa ?_
            refine wa ?_
            refine wa ?_
            exact hRR
          by_cases h : PO p n f ∧ 0 ≤ r ∧ r ≤ p - 1
          · skip
            apply sr tokTB (by kernel_rfl)
            · intro RR hRR
              refine wm ?_
              refine wm ?_
              refine wm ?_
              refine y_call rfl (ec (ec (ec exn))) (c_iSlopeAt_ok h.1 hp0 hn0 h.2) ?_
              refine wm ?_
              refine we ?_
              refine we ?_
              refine wa ?_
              refine wa ?_
              exact hRR
            apply sr tokTB (by kernel_rfl)
            · intro RR hRR
              refine wm ?_
              refine wm ?_
              refine wm ?_
              refine y_call rfl (ec (ec (ec exn))) (c_sSlopeAt_ok h.1 hp0 hn0 h.2) ?_
              refine wm ?_
              refine we ?_
              refine we ?_
              refine wa ?_
              refine wa ?_
              exact hRR
            obtain ⟨p2, n2, f2, hq0, hm0, hD2⟩ := ex_Draw23 hz hl
            apply sr tokTB (by kernel_rfl)
            · intro RR hRR
              refine wm ?_
              refine w_callc rfl (ec exn) (hD2) (closed_p2 trivial (fun _ => trivial)) ⟨fun _ => trivial, trivial⟩ ?_
              refine wm ?_
              refine we ?_
              refine we ?_
              refine wa ?_
              refine wa ?_
              exact hRR
            by_cases h2 : PO p2 n2 f2
            · skip
              have hrn := ro_le h2.1 n2 f2
              apply sr tokTB (by kernel_rfl)
              · intro RR hRR
                refine wm ?_
                refine wm ?_
                refine w_call rfl (ec (ec exn)) (c_iRootsOf_ok h2 hq0 hm0) (.inl ⟨nr_pair trivial trivial, ⟨fun _ => trivial, trivial⟩⟩) rfl (by constructor) rfl ?_
                refine wm ?_
                refine we ?_
                refine we ?_
                refine wa ?_
                refine wa ?_
                exact hRR
              apply sr tokTB (by kernel_rfl)
              · intro RR hRR
                refine wm ?_
                refine wm ?_
                refine w_call rfl (ec (ec exn)) (c_sRootsOf_ok h2 hq0 hm0) (.inl ⟨nr_pair trivial trivial, ⟨fun _ => trivial, trivial⟩⟩) rfl (by constructor) rfl ?_
                refine wm ?_
                refine we ?_
                refine we ?_
                refine wa ?_
                refine wa ?_
                exact hRR
              apply srG (env' := (2, .bool true) :: (319, .bool true) :: (318, .any) :: (317, .any) :: (316, .any) :: (315, .bool true) :: (314, .bool true) :: (313, .any) :: (312, .any) :: (311, .any) :: (310, .bool true) :: (309, .bool true) :: (308, .any) :: (307, .any) :: (306, .any) :: (305, _) :: (304, _) :: (303, _) :: (302, _) :: _) tokTB (by kernel_rfl)
              · intro RR hRR
                refine wm ?_
                refine wm ?_
                refine w_eql_t rfl rfl rfl ?_
                refine wm ?_
                refine w_g_on rfl rfl rfl ?_
                refine wm ?_
                refine w_g_on rfl rfl rfl ?_
                refine wm ?_
                refine w_g_on rfl rfl rfl ?_
                refine w_eql_t rfl rfl rfl ?_
                refine w_pick_1 rfl rfl (by constructor) ?_
                refine wm ?_
                refine w_g_on rfl rfl rfl ?_
                refine wm ?_
                refine w_g_on rfl rfl rfl ?_
                refine wm ?_
                refine w_g_on rfl rfl rfl ?_
                refine w_eql_t rfl rfl rfl ?_
                refine w_pick_1 rfl rfl (by constructor) ?_
                refine wm ?_
                refine w_g_on rfl rfl rfl ?_
                refine wm ?_
                refine w_g_on rfl rfl rfl ?_
                refine wm ?_
                refine w_g_on rfl rfl rfl ?_
                refine y_call rfl rfl ((c_likeInts (m := roN p2 n2 f2) (f := fun i => ((roF p2 n2 f2 i : Nat) : Int)) (by omega)).mt ⟨mt_row0 rfl, mt_row0 rfl, trivial⟩) ?_
                refine w_pick_1 rfl rfl (by constructor) ?_
                refine wa ?_
                exact hRR _ (EL.cons (er) (EL.cons (er) (EL.cons (.inl rfl) (EL.cons (.inl rfl) (EL.cons (.inl rfl) (EL.cons (er) (EL.cons (er) (EL.cons (.inl rfl) (EL.cons (.inl rfl) (EL.cons (.inl rfl) (EL.cons (er) (EL.cons (er) (EL.cons (.inl rfl) (EL.cons (.inl rfl) (EL.cons (.inl rfl) (EL.cons (.inr rfl) (EL.cons (.inr rfl) (EL.cons (.inr rfl) (EL.cons (.inr rfl) (EL.refl _))))))))))))))))))))
              refine snd_ret ?_
              exact rt (T := TB) (fun V => by first | exact m_bool rfl | exact m_int rfl)
            · skip
              apply sr tokTB (by kernel_rfl)
              · intro RR hRR
                refine wm ?_
                refine wm ?_
                refine y_call rfl (ec (ec exn)) (c_iRootsOf_no hq0 hm0 h2) ?_
                refine wm ?_
                refine we ?_
                refine we ?_
                refine wa ?_
                refine wa ?_
                exact hRR
              apply sr tokTB (by kernel_rfl)
              · intro RR hRR
                refine wm ?_
                refine wm ?_
                refine y_call rfl (ec (ec exn)) (c_sRootsOf_no hq0 hm0 h2) ?_
                refine wm ?_
                refine we ?_
                refine we ?_
                refine wa ?_
                refine wa ?_
                exact hRR
              apply srG (env' := (2, .bool true) :: (319, .bool true) :: (318, .any) :: (317, .any) :: (316, .any) :: (315, .bool true) :: (314, .bool true) :: (313, .any) :: (312, .any) :: (311, .any) :: (310, .bool true) :: (309, .bool true) :: (308, .any) :: (307, .any) :: (306, .any) :: (305, _) :: (304, _) :: (303, _) :: (302, _) :: _) tokTB (by kernel_rfl)
              · intro RR hRR
                refine wm ?_
                refine wm ?_
                refine w_eql_t rfl rfl rfl ?_
                refine wm ?_
                refine w_g_on rfl rfl rfl ?_
                refine wm ?_
                refine w_g_on rfl rfl rfl ?_
                refine wm ?_
                refine w_g_on rfl rfl rfl ?_
                refine w_eql_t rfl rfl rfl ?_
                refine w_pick_1 rfl rfl (by constructor) ?_
                refine wm ?_
                refine w_g_on rfl rfl rfl ?_
                refine wm ?_
                refine w_g_on rfl rfl rfl ?_
                refine wm ?_
                refine w_g_on rfl rfl rfl ?_
                refine w_eql_t rfl rfl rfl ?_
                refine w_pick_1 rfl rfl (by constructor) ?_
                refine wm ?_
                refine w_g_on rfl rfl rfl ?_
                refine wm ?_
                refine w_g_on rfl rfl rfl ?_
                refine wm ?_
                refine w_g_on rfl rfl rfl ?_
                refine y_call rfl (ec (ec exn)) (c_likeNil) ?_
                refine w_pick_1 rfl rfl (by constructor) ?_
                refine wa ?_
                exact hRR _ (EL.cons (er) (EL.cons (er) (EL.cons (.inl rfl) (EL.cons (.inl rfl) (EL.cons (.inl rfl) (EL.cons (er) (EL.cons (er) (EL.cons (.inl rfl) (EL.cons (.inl rfl) (EL.cons (.inl rfl) (EL.cons (er) (EL.cons (er) (EL.cons (.inl rfl) (EL.cons (.inl rfl) (EL.cons (.inl rfl) (EL.cons (.inr rfl) (EL.cons (.inr rfl) (EL.cons (.inr rfl) (EL.cons (.inr rfl) (EL.refl _))))))))))))))))))))
              refine snd_ret ?_
              exact rt (T := TB) (fun V => by first | exact m_bool rfl | exact m_int rfl)
          · skip
            apply sr tokTB (by kernel_rfl)
            · intro RR hRR
              refine wm ?_
              refine wm ?_
              refine wm ?_
              refine y_call rfl (ec (ec (ec exn))) (c_iSlopeAt_no hp0 hn0 h) ?_
              refine wm ?_
              refine we ?_
              refine we ?_
              refine wa ?_
              refine wa ?_
              exact hRR
            apply sr tokTB (by kernel_rfl)
            · intro RR hRR
              refine wm ?_
              refine wm ?_
              refine wm ?_
              refine y_call rfl (ec (ec (ec exn))) (c_sSlopeAt_no hp0 hn0 h) ?_
              refine wm ?_
              refine we ?_
              refine we ?_
              refine wa ?_
              refine wa ?_
              exact hRR
            obtain ⟨p2, n2, f2, hq0, hm0, hD2⟩ := ex_Draw23 hz hl
            apply sr tokTB (by kernel_rfl)
            · intro RR hRR
              refine wm ?_
              refine w_callc rfl (ec exn) (hD2) (closed_p2 trivial (fun _ => trivial)) ⟨fun _ => trivial, trivial⟩ ?_
              refine wm ?_
              refine we ?_
              refine we ?_
              refine wa ?_
              refine wa ?_
              exact hRR
            by_cases h2 : PO p2 n2 f2
            · skip
              have hrn := ro_le h2.1 n2 f2
              apply sr tokTB (by kernel_rfl)
              · intro RR hRR
                refine wm ?_
                refine wm ?_
                refine w_call rfl (ec (ec exn)) (c_iRootsOf_ok h2 hq0 hm0) (.inl ⟨nr_pair trivial trivial, ⟨fun _ => trivial, trivial⟩⟩) rfl (by constructor) rfl ?_
                refine wm ?_
                refine we ?_
                refine we ?_
                refine wa ?_
                refine wa ?_
                exact hRR
              apply sr tokTB (by kernel_rfl)
              · intro RR hRR
                refine wm ?_
                refine wm ?_
                refine w_call rfl (ec (ec exn)) (c_sRootsOf_ok h2 hq0 hm0) (.inl ⟨nr_pair trivial trivial, ⟨fun _ => trivial, trivial⟩⟩) rfl (by constructor) rfl ?_
                refine wm ?_
                refine we ?_
                refine we ?_
                refine wa ?_
                refine wa ?_
                exact hRR
              apply srG (env' := (2, .bool true) :: (319, .bool true) :: (318, .any) :: (317, .any) :: (316, .any) :: (315, .bool true) :: (314, .bool true) :: (313, .any) :: (312, .any) :: (311, .any) :: (310, .bool true) :: (309, .bool true) :: (308, .any) :: (307, .any) :: (306, .any) :: (305, _) :: (304, _) :: (303, _) :: (302, _) :: _) tokTB (by kernel_rfl)
              · intro RR hRR
                refine wm ?_
                refine wm ?_
                refine w_eql_t rfl rfl rfl ?_
                refine wm ?_
                refine w_g_on rfl rfl rfl ?_
                refine wm ?_
                refine w_g_on rfl rfl rfl ?_
                refine wm ?_
                refine w_g_on rfl rfl rfl ?_
                refine w_eql_t rfl rfl rfl ?_
                refine w_pick_1 rfl rfl (by constructor) ?_
                refine wm ?_
                refine w_g_on rfl rfl rfl ?_
                refine wm ?_
                refine w_g_on rfl rfl rfl ?_
                refine wm ?_
                refine w_g_on rfl rfl rfl ?_
                refine w_eql_t rfl rfl rfl ?_
                refine w_pick_1 rfl rfl (by constructor) ?_
                refine wm ?_
                refine w_g_on rfl rfl rfl ?_
                refine wm ?_
                refine w_g_on rfl rfl rfl ?_
                refine wm ?_
                refine w_g_on rfl rfl rfl ?_
                refine y_call rfl rfl ((c_likeInts (m := roN p2 n2 f2) (f := fun i => ((roF p2 n2 f2 i : Nat) : Int)) (by omega)).mt ⟨mt_row0 rfl, mt_row0 rfl, trivial⟩) ?_
                refine w_pick_1 rfl rfl (by constructor) ?_
                refine wa ?_
                exact hRR _ (EL.cons (er) (EL.cons (er) (EL.cons (.inl rfl) (EL.cons (.inl rfl) (EL.cons (.inl rfl) (EL.cons (er) (EL.cons (er) (EL.cons (.inl rfl) (EL.cons (.inl rfl) (EL.cons (.inl rfl) (EL.cons (er) (EL.cons (er) (EL.cons (.inl rfl) (EL.cons (.inl rfl) (EL.cons (.inl rfl) (EL.cons (.inr rfl) (EL.cons (.inr rfl) (EL.cons (.inr rfl) (EL.cons (.inr rfl) (EL.refl _))))))))))))))))))))
              refine snd_ret ?_
              exact rt (T := TB) (fun V => by first | exact m_bool rfl | exact m_int rfl)
            · skip
              apply sr tokTB (by kernel_rfl)
              · intro RR hRR
                refine wm ?_
                refine wm ?_
                refine y_call rfl (ec (ec exn)) (c_iRootsOf_no hq0 hm0 h2) ?_
                refine wm ?_
                refine we ?_
                refine we ?_
                refine wa ?_
                refine wa ?_
                exact hRR
              apply sr tokTB (by kernel_rfl)
              · intro RR hRR
                refine wm ?_
                refine wm ?_
                refine y_call rfl (ec (ec exn)) (c_sRootsOf_no hq0 hm0 h2) ?_
                refine wm ?_
                refine we ?_
                refine we ?_
                refine wa ?_
                refine wa ?_
                exact hRR
              apply srG (env' := (2, .bool true) :: (319, .bool true) :: (318, .any) :: (317, .any) :: (316, .any) :: (315, .bool true) :: (314, .bool true) :: (313, .any) :: (312, .any) :: (311, .any) :: (310, .bool true) :: (309, .bool true) :: (308, .any) :: (307, .any) :: (306, .any) :: (305, _) :: (304, _) :: (303, _) :: (302, _) :: _) tokTB (by kernel_rfl)
              · intro RR hRR
                refine wm ?_
                refine wm ?_
                refine w_eql_t rfl rfl rfl ?_
                refine wm ?_
                refine w_g_on rfl rfl rfl ?_
                refine wm ?_
                refine w_g_on rfl rfl rfl ?_
                refine wm ?_
                refine w_g_on rfl rfl rfl ?_
                refine w_eql_t rfl rfl rfl ?_
                refine w_pick_1 rfl rfl (by constructor) ?_
                refine wm ?_
                refine w_g_on rfl rfl rfl ?_
                refine wm ?_
                refine w_g_on rfl rfl rfl ?_
                refine wm ?_
                refine w_g_on rfl rfl rfl ?_
                refine w_eql_t rfl rfl rfl ?_
                refine w_pick_1 rfl rfl (by constructor) ?_
                refine wm ?_
                refine w_g_on rfl rfl rfl ?_
                refine wm ?_
                refine w_g_on rfl rfl rfl ?_
                refine wm ?_
                refine w_g_on rfl rfl rfl ?_
                refine y_call rfl (ec (ec exn)) (c_likeNil) ?_
                refine w_pick_1 rfl rfl (by constructor) ?_
                refine wa ?_
                exact hRR _ (EL.cons (er) (EL.cons (er) (EL.cons (.inl rfl) (EL.cons (.inl rfl) (EL.cons (.inl rfl) (EL.cons (er) (EL.cons (er) (EL.cons (.inl rfl) (EL.cons (.inl rfl) (EL.cons (.inl rfl) (EL.cons (er) (EL.cons (er) (EL.cons (.inl rfl) (EL.cons (.inl rfl) (EL.cons (.inl rfl) (EL.cons (.inr rfl) (EL.cons (.inr rfl) (EL.cons (.inr rfl) (EL.cons (.inr rfl) (EL.refl _))))))))))))))))))))
              refine snd_ret ?_
              exact rt (T := TB) (fun V => by first | exact m_bool rfl | exact m_int rfl)
end Go.Am

