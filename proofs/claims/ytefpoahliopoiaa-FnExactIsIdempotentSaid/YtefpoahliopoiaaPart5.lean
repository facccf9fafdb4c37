/- Part 5 of what the law stands on: abstract values, their walk, contracts of functions. My own work. Conditions: none. -/
import Derived.Test.YtefpoahliopoiaaPart1
import Derived.Test.YtefpoahliopoiaaPart2
import Derived.Test.YtefpoahliopoiaaPart3
import Derived.Test.YtefpoahliopoiaaPart4
set_option linter.unusedVariables false
set_option linter.unusedSimpArgs false
set_option maxRecDepth 4000
namespace Go.Am
attribute [local irreducible] retQ
open Go.Proofs
theorem c_solved_ok {M n : Nat} {G NC : Nat → Nat} {CP : Nat → Nat → AV} {Fv : Nat → Nat → Nat → Int} {W : Nat → Nat → Int} {p : Int} {T : Nat → Nat → Nat → Int} {fo : Nat → Int} (hp : primeB p = true) (hM0 : 0 < M) (hM : M ≤ 100) (hn0 : 0 < n) (hn : n ≤ 6) (hcl : ∀ x, (AV.fn (G x) (NC x) (CP x)).closed) (hFp : ∀ x i, Bp p (Fv x i)) (hWp : ∀ x, Bp p (W x)) (hf : ∀ x, x < M → ∀ i, i < n → ACalls Try.prog TB (G x) (vecA (eF i) :: capL (NC x) (CP x)) (vecA (Fv x i)) []) (hcon : conP n (redGo p (M * n) (sysR n Fv W) (n + 1)).no (redGo p (M * n) (sysR n Fv W) (n + 1)).O) : ACalls Try.prog TB 91 [.cptr (algA p (n : Int) T fo), .ro M (fun x => vecA (W x)), .ro M (fun x => .fn (G x) (NC x) (CP x))] (.tup 2 (pairA (vecA (cutF (solGo n (redGo p (M * n) (sysR n Fv W) (n + 1)).O (redGo p (M * n) (sysR n Fv W) (n + 1)).no) n)) (.bool true))) [] := by
  have hpb := primeB_bd hp
  have hB : ∀ x i, x < M → B8 (Fv x i) := fun x i _ => B8_of (by omega) (hFp x i)
  have hle : M * n ≤ 100 * 6 := Nat.mul_le_mul hM hn
  have hle1 : 0 < M * n := Nat.mul_pos hM0 hn0
  have hS : ∀ r, Bp p (sysR n Fv W r) := fun r => sysR_Bp hFp hWp r
  have hO8 : ∀ i, i < (redGo p (M * n) (sysR n Fv W) (n + 1)).no → B8 ((redGo p (M * n) (sysR n Fv W) (n + 1)).O i) := by obtain ⟨⟨l, hrr⟩, _⟩ := red_ok (m := n + 1) (n := M * n) (R := sysR n Fv W) hp (fun i _ => hS i); exact fun i hi => B8_of (by omega) (hrr.bp i hi)
  refine acalls_of tokTB Try.func91 rfl rfl (Nat.le_of_ble_eq_true rfl) ?_
  apply sr tokTB (by kernel_rfl)
  · intro RR hRR
    refine w_alloc kn29 rfl zr29 ?_
    refine w_assign (by constructor) ?_
    exact hRR
  apply sr tokTB (by kernel_rfl)
  · intro RR hRR
    refine w_move (by constructor) ?_
    refine w_move (by constructor) ?_
    refine w_call rfl (exc (by first | exact rfl | exact exp_alg | exact exp_calg | exact ex_vl | exact exp_closed (by assumption)) (exc (by first | exact rfl | exact exp_alg | exact exp_calg | exact ex_vl | exact exp_closed (by assumption)) exn)) (c_equations hM hn0 hn hcl hB hf) (.inl ⟨trivial, ⟨fun _ => trivial, fun i sh c h => (by obtain ⟨_, _, rfl⟩ := famF_some h; exact fun _ => trivial), trivial⟩⟩) rfl (by constructor) rfl ?_
    refine w_assign (by constructor) ?_
    exact hRR
  refine snd_seq ?_
  apply sr tokTB (by kernel_rfl)
  · intro RR hRR
    refine w_move (by constructor) ?_
    first | refine w_len_r rfl rfl und85 ?_ | refine w_len_o rfl rfl und85 ?_ | refine w_len_n rfl rfl und85 ?_
    refine w_move (by constructor) ?_
    exact hRR
  refine snd_block ?_
  refine snd_loop (S := Nat) (fun i => ([(0, .cptr (algA p (n : Int) T fo)), (1, .ro M (fun x => vecA (W x))), (6, .ptr 6 0 [] 0 (vecA (fun _ => 0))), (8, .own 905 0 (M * n) 86), (16, .int .i64 ((M * n : Nat) : Int)), (17, .int .i64 (i : Int))], [(905, .one (ZR (M * n)) (CO 15001 (M * n) (fun r => if r < i then n + 1 else n) 2)), (15001, .many (famF (M * n) (fun r => if r < i then n + 1 else n) (mixG (sysR n Fv W) (eqR n Fv) i))), (6, .one (vecA (fun _ => 0)) (vecA (fun _ => 0)))])) (fun i => i ≤ (M * n)) (fun i => (M * n) - i) (0) (ρQ 905 15001 15000 912 (M * n) 6 6) ?_ ?_ ?_
  · exact emb_fam1 (by decide) (by decide) (by decide) (by decide) (by decide) (by decide) (by decide) (by decide) (by decide) rfl (fun j hj hne => by show AV.own (15000 + 1) j n _ = _; simp) (fun h => absurd h (by omega)) (fun h => absurd h (by omega)) (fun r hr hne => by show (match famF (M * n) (fun _ => n) (eqR n Fv) r with | some (sh, c) => some (sh, Am.shift 15000 c) | none => none) = _; rw [famF_at hr]; simp [mixG, shift]) ⟨_, rfl, ssh_vec, fun V => mt_vec (fun _ _ => rfl)⟩ ⟨m_calg, (by exact Mt_closed (V := _) (v := .ro M (fun x => vecA (W x))) (fun _ _ => trivial) (fun _ _ _ => trivial) (by simp)), ⟨rfl, rfl, rfl, rfl, rfl⟩, (by first | exact ⟨rfl, rfl, rfl, rfl⟩ | exact ⟨rfl, by omega, rfl, rfl⟩), (by first | exact m_int rfl | exact m_int (by omega) | exact m_int (by simp; done) | (exact m_int (by simp; omega))), (by first | exact m_int rfl | exact m_int (by omega) | exact m_int (by simp; done) | (exact m_int (by simp; omega))), trivial⟩
  · exact Nat.zero_le _
  intro i hi0
  refine sq (env2 := [(0, .cptr (algA p (n : Int) T fo)), (1, .ro M (fun x => vecA (W x))), (6, .ptr 6 0 [] 0 (vecA (fun _ => 0))), (8, .own 905 0 (M * n) 86), (16, .int .i64 ((M * n : Nat) : Int)), (17, .int .i64 (i : Int))]) (ol2 := [(905, .one (ZR (M * n)) (CO 15001 (M * n) (fun r => if r < i then n + 1 else n) 2)), (15001, .many (famF (M * n) (fun r => if r < i then n + 1 else n) (mixG (sysR n Fv W) (eqR n Fv) i))), (6, .one (vecA (fun _ => 0)) (vecA (fun _ => 0)))]) rfl rfl ?_
  apply sr tokTB (by kernel_rfl)
  · intro RR hRR
    refine w_lss rfl rfl ?_
    exact hRR
  refine snd_seq ?_
  refine snd_cond _ rfl (fun hc18 => ?_) (fun hc18 => ?_)
  · try simp only [Bool.not_eq_true', Bool.not_eq_false', Bool.not_eq_true, Bool.not_eq_false, decide_eq_true_eq, decide_eq_false_iff_not, Int.not_lt, Int.not_le, Classical.not_not, ne_eq] at hc18
    have hin : i < M * n := by omega
    have hq : i / n < M := (Nat.div_lt_iff_lt_mul hn0).2 hin
    have hr : i % n < n := Nat.mod_lt _ hn0
    have hwid : ∀ j, j ≠ i → (if j < i + 1 then n + 1 else n) = (if j < i then n + 1 else n) := fun j hj => by by_cases h : j < i; rw [if_pos h, if_pos (by omega)]; rw [if_neg h, if_neg (by omega)]
    have hwi : (if i < i then n + 1 else n) = n := if_neg (Nat.lt_irrefl i)
    have hwi1 : (if i < i + 1 then n + 1 else n) = n + 1 := if_pos (Nat.lt_succ_self i)
    have hmix : ∀ j, j ≠ i → mixG (sysR n Fv W) (eqR n Fv) (i + 1) j = mixG (sysR n Fv W) (eqR n Fv) i j := fun j hj => by by_cases h : j < i; rw [mixG_lt _ _ h, mixG_lt _ _ (by omega)]; rw [mixG_ge _ _ (by omega), mixG_ge _ _ (by omega)]
    have hmixi : mixG (sysR n Fv W) (eqR n Fv) i i = eqR n Fv i := mixG_self _ _ _
    have hmixi1 : mixG (sysR n Fv W) (eqR n Fv) (i + 1) i = sysR n Fv W i := mixG_lt _ _ (Nat.lt_succ_self i)
    refine snd_skip ?_
    refine snd_seq ?_
    refine snd_block ?_
    apply sr tokTB (by kernel_rfl)
    · intro RR hRR
      refine w_move (by constructor) ?_
      refine w_assign (by constructor) ?_
      exact hRR
    apply ld tokTB mixed (by kernel_rfl) (by kernel_rfl)
    · intro RR hRR
      refine w_move (by constructor) ?_
      refine w_move (by constructor) ?_
      refine w_move (by constructor) ?_
      refine w_move (by constructor) ?_
      first | refine w_iar rfl rfl und85 kn86 (by exact sz86.symm) ?_ rfl ?_ | refine w_iao rfl rfl und85 kn86 ?_ ?_
      · exact ⟨by omega, by omega⟩
      first | refine w_ldc rfl kn86 (by constructor) (by exact sz86.symm) (by exact ag86.symm) ?_ | refine w_ldp rfl kn86 rfl (by constructor) (by exact sz86.symm) (by exact ag86.symm) ?_
      refine w_move (by constructor) ?_
      refine w_move (by constructor) ?_
      refine w_move (by constructor) ?_
      refine w_call0 rfl (exc (by first | exact rfl | exact exp_alg | exact exp_calg | exact ex_vl | exact exp_closed (by assumption)) exn) (c_n) (by first | exact trivial | exact fun _ => trivial | exact fun _ _ => trivial | exact fun _ _ _ => trivial | exact nr_alg | exact nr_pair (by first | exact trivial | exact fun _ => trivial | exact nr_alg) (by first | exact trivial | exact fun _ => trivial)) (fun _ => by first | exact rfl | exact shift_alg | exact shift_pair rfl rfl | exact shift_pair shift_alg rfl) ?_
      refine w_quoN rfl rfl (by omega) (by omega) ?_
      refine w_move (by constructor) ?_
      refine w_move (by constructor) ?_
      refine w_call0 rfl (exc (by first | exact rfl | exact exp_alg | exact exp_calg | exact ex_vl | exact exp_closed (by assumption)) exn) (c_n) (by first | exact trivial | exact fun _ => trivial | exact fun _ _ => trivial | exact fun _ _ _ => trivial | exact nr_alg | exact nr_pair (by first | exact trivial | exact fun _ => trivial | exact nr_alg) (by first | exact trivial | exact fun _ => trivial)) (fun _ => by first | exact rfl | exact shift_alg | exact shift_pair rfl rfl | exact shift_pair shift_alg rfl) ?_
      refine w_remN rfl rfl (by omega) ?_
      first | refine w_iar rfl rfl und74 kn29 (by exact sz29.symm) ?_ rfl ?_ | refine w_iao rfl rfl und74 kn29 ?_ ?_
      · exact ⟨Int.natCast_nonneg _, Int.ofNat_lt.2 hq⟩
      first | refine w_iac rfl rfl und29 kn5 (by exact sz5.symm) ?_ rfl ?_ | refine w_iap rfl rfl und29 kn5 rfl (by exact sz5.symm) rfl ?_ ?_
      · exact ⟨Int.natCast_nonneg _, by omega⟩
      first | refine w_ldc rfl kn5 (by constructor) (by exact sz5.symm) (by exact ag5.symm) ?_ | refine w_ldp rfl kn5 rfl (by constructor) (by exact sz5.symm) (by exact ag5.symm) ?_
      refine w_conv rfl und5 und2 (by exact w64b (B8_of (by omega) (hWp _)) _) ?_
      refine w_bsl1 und86 kn2 (by rw [sz2]; rfl) rfl (by constructor) (by exact trivial) (by exact sz2.symm) (by first | exact trivial | exact ssh_vec | exact ⟨rfl, fun _ => trivial⟩) ?_
      refine w_app_o (k := 15001) (i := i) (n := n) (m := 1) (f := fun j => .int .i64 (eqR n Fv i j)) und86 (by show AV.own 15001 i (if i < i then n + 1 else n) _ = _; rw [hwi]) rfl kn2 rfl (by show famF (M * n) (fun r => if r < i then n + 1 else n) (mixG (sysR n Fv W) (eqR n Fv) i) i = _; rw [famF_at hin, hwi, hmixi]; rfl) (fun C h => ⟨rfl, rfl, rfl, h⟩) (by rw [by2]; omega) (by omega) rfl ?_
      first | refine w_iar rfl rfl und85 kn86 (by exact sz86.symm) ?_ rfl ?_ | refine w_iao rfl rfl und85 kn86 ?_ ?_
      · exact ⟨by omega, by omega⟩
      first | refine w_stw rfl (by constructor) kn86 rfl (by exact trivial) (by first | exact trivial | exact ssh_vec | exact ssh_alg | exact ssh_tab | exact ssh_mat | exact ⟨rfl, fun _ => trivial⟩ | exact ⟨rfl, fun _ => by rw [zr29]; exact ssh_vec⟩) (by exact sz86.symm) ?_ | refine w_sti rfl rfl kn86 rfl (by exact trivial) (by exact sz86.symm) ?_ | refine w_store rfl (HV.eq (by constructor)) kn86 rfl (by exact trivial) (by first | exact trivial | exact ssh_vec | exact ssh_alg | exact ssh_tab | exact ssh_mat | exact ⟨rfl, fun _ => trivial⟩ | exact ⟨rfl, fun _ => by rw [zr29]; exact ssh_vec⟩) (by exact sz86.symm) (put_in (by first | exact put_mat | exact put_tab | exact put_alg0 | exact put_alg1 | exact put_alg2 | exact put_alg3 | exact put_alg3i | exact put_alg2ij | exact put_alg2ijk | exact put_mat2 | exact put_tab2 | exact put_tab3)) ?_ | refine w_store rfl (HV.eq (by constructor)) kn86 rfl (by exact trivial) (by exact trivial) (by exact sz86.symm) rfl ?_
      exact hRR
    apply lr tokTB (by kernel_rfl)
    · intro RR hRR
      refine w_add rfl rfl (by first | exact w64 (by omega) (by omega) | exact w64b (by assumption) _ | exact w64t (by assumption) _ _ _ | exact rfl) ?_
      refine w_move (by constructor) ?_
      exact hRR
    refine ⟨i + 1, (ρQ 905 15001 905 40 i 6 6), ?_, (by omega), (by dsimp only; omega)⟩
    exact emb_fam1 (by decide) (by decide) (by decide) (by decide) (by decide) (by decide) (by decide) (by decide) (by decide) rfl (fun j hj hne => by show (bif Nat.beq j i then _ else AV.own 15001 j (if j < i then n + 1 else n) _) = _; rw [beq_ff hne]; simp only [cond_false, hwid j hne]) (fun h => by show (bif Nat.beq i i then _ else _) = _; rw [Nat.beq_refl]; simp [put, hwi, hwi1]) (fun h => by refine ⟨_, (by show _ = some (Z64 (if i < i + 1 then n + 1 else n), _); rw [hwi1]; exact rfl), fun V => ?_⟩; show Mt V (C64 (if i < i + 1 then n + 1 else n) _) _; rw [hwi1]; exact mt_app (fun j hj => congrArg (AV.int .i64) (by rw [hmixi1, sysR_lt hj])) (congrArg (AV.int .i64) (by rw [hmixi1, sysR_n]; rfl))) (fun r hr hne => by show (bif Nat.beq r i then none else famF (M * n) (fun r => if r < i then n + 1 else n) (mixG (sysR n Fv W) (eqR n Fv) i) r) = _; rw [beq_ff hne]; simp only [cond_false]; rw [famF_at hr]; simp only [hwid r hne, hmix r hne]) ⟨_, rfl, ssh_vec, fun V => mt_vec (fun _ _ => rfl)⟩ ⟨m_calg, (by exact Mt_closed (V := _) (v := .ro M (fun x => vecA (W x))) (fun _ _ => trivial) (fun _ _ _ => trivial) (by simp)), ⟨rfl, rfl, rfl, rfl, rfl⟩, (by first | exact ⟨rfl, rfl, rfl, rfl⟩ | exact ⟨rfl, by omega, rfl, rfl⟩), (by first | exact m_int rfl | exact m_int (by omega) | exact m_int (by simp; done) | (exact m_int (by simp; omega))), (by first | exact m_int rfl | exact m_int (by omega) | exact m_int (by simp; done) | (exact m_int (by simp; omega))), trivial⟩
  · try simp only [Bool.not_eq_true', Bool.not_eq_false', Bool.not_eq_true, Bool.not_eq_false, decide_eq_true_eq, decide_eq_false_iff_not, Int.not_lt, Int.not_le, Classical.not_not, ne_eq] at hc18
    have hiN : M * n = i := by omega
    refine snd_exit ?_
    refine snd_emb (ρ := ρ0) (env2 := [(0, .cptr (algA p (n : Int) T fo)), (6, .ptr 6 0 [] 0 (vecA (fun _ => 0))), (8, rowsA (M * n) (n + 1) (sysR n Fv W))]) (ol2 := [(6, .one (vecA (fun _ => 0)) (vecA (fun _ => 0)))]) ?_ ?_
    · exact ⟨⟨m_calg, ⟨rfl, rfl, rfl, rfl, rfl⟩, mt_fam_fz (w := fun r => if r < i then n + 1 else n) (F := mixG (sysR n Fv W) (eqR n Fv) i) ⟨ne_fst rfl, trivial⟩ (fun r => ⟨ne_fst rfl, trivial⟩) rfl (fun r hr => famF_at (w := fun r => if r < i then n + 1 else n) (F := mixG (sysR n Fv W) (eqR n Fv) i) hr) (fun r hr => if_pos (by omega)) (fun r hr j hj => by rw [mixG_lt _ _ (by omega)]), trivial⟩, ⟨⟨rfl, ssh_vec, mt_vec (fun _ _ => rfl)⟩, trivial⟩, ⟨⟨fun _ => ⟨rfl, rfl⟩, trivial⟩, trivial⟩⟩
    apply sd tokTB mixed (by kernel_rfl) (by kernel_rfl)
    · intro RR hRR
      refine w_move (by constructor) ?_
      refine w_move (by constructor) ?_
      refine w_call0 rfl (exc (by first | exact rfl | exact exp_alg | exact exp_calg | exact ex_vl | exact exp_closed (by assumption)) exn) (c_n) (by first | exact trivial | exact fun _ => trivial | exact fun _ _ => trivial | exact fun _ _ _ => trivial | exact nr_alg | exact nr_pair (by first | exact trivial | exact fun _ => trivial | exact nr_alg) (by first | exact trivial | exact fun _ => trivial)) (fun _ => by first | exact rfl | exact shift_alg | exact shift_pair rfl rfl | exact shift_pair shift_alg rfl) ?_
      refine w_move (by constructor) ?_
      first | refine w_nilc rfl ?_ | refine w_nilp rfl ?_ | refine w_nilf rfl ?_
      first | refine w_fac rfl und31 rfl kn2 nz2 (by decide) rfl (by constructor) ?_ | refine w_fap rfl und31 rfl kn2 nz2 rfl (by decide) rfl ?_
      first | refine w_ldc rfl kn2 (by constructor) (by exact sz2.symm) (by exact ag2.symm) ?_ | refine w_ldp rfl kn2 rfl (by constructor) (by exact sz2.symm) (by exact ag2.symm) ?_
      refine w_call rfl (exc (by first | exact rfl | exact exp_alg | exact exp_calg | exact ex_vl | exact exp_closed (by assumption)) (exc (by first | exact rfl | exact exp_alg | exact exp_calg | exact ex_vl | exact exp_closed (by assumption)) (exc (by first | exact rfl | exact exp_alg | exact exp_calg | exact ex_vl | exact exp_closed (by assumption)) exn))) (c_solve_ok (S := sysR n Fv W) hp (by omega) (by omega) hS hcon) (.inr ⟨closed_rows, trivial, trivial, trivial⟩) rfl (by constructor) rfl ?_
      refine w_move (by constructor) ?_
      refine w_ext rfl (by decide) (by constructor) ?_
      refine w_ext rfl (by decide) (by constructor) ?_
      refine w_assign (by constructor) ?_
      refine w_assign (by constructor) ?_
      exact hRR
    apply sr tokTB (by kernel_rfl)
    · intro RR hRR
      refine w_move (by constructor) ?_
      refine w_call0 rfl (exc (by first | exact rfl | exact exp_alg | exact exp_calg | exact ex_vl | exact exp_closed (by assumption)) exn) (c_vector (m := n) (f := solGo n (redGo p (M * n) (sysR n Fv W) (n + 1)).O (redGo p (M * n) (sysR n Fv W) (n + 1)).no) (by omega) (by exact solGo_B8 hO8 _ (Nat.le_refl _))) (by first | exact trivial | exact fun _ => trivial | exact fun _ _ => trivial | exact fun _ _ _ => trivial | exact nr_alg | exact nr_pair (by first | exact trivial | exact fun _ => trivial | exact nr_alg) (by first | exact trivial | exact fun _ => trivial)) (fun _ => by first | exact rfl | exact shift_alg | exact shift_pair rfl rfl | exact shift_pair shift_alg rfl) ?_
      refine w_move (by constructor) ?_
      first | refine w_stw rfl (by constructor) kn29 rfl (by exact trivial) (by first | exact trivial | exact ssh_vec | exact ssh_alg | exact ssh_tab | exact ssh_mat | exact ⟨rfl, fun _ => trivial⟩ | exact ⟨rfl, fun _ => by rw [zr29]; exact ssh_vec⟩) (by exact sz29.symm) ?_ | refine w_sti rfl rfl kn29 rfl (by exact trivial) (by exact sz29.symm) ?_ | refine w_store rfl (HV.eq (by constructor)) kn29 rfl (by exact trivial) (by first | exact trivial | exact ssh_vec | exact ssh_alg | exact ssh_tab | exact ssh_mat | exact ⟨rfl, fun _ => trivial⟩ | exact ⟨rfl, fun _ => by rw [zr29]; exact ssh_vec⟩) (by exact sz29.symm) (put_in (by first | exact put_mat | exact put_tab | exact put_alg0 | exact put_alg1 | exact put_alg2 | exact put_alg3 | exact put_alg3i | exact put_alg2ij | exact put_alg2ijk | exact put_mat2 | exact put_tab2 | exact put_tab3)) ?_ | refine w_store rfl (HV.eq (by constructor)) kn29 rfl (by exact trivial) (by exact trivial) (by exact sz29.symm) rfl ?_
      refine w_assign (by constructor) ?_
      exact hRR
    refine snd_ret ?_
    show retQ TB _ _ _ _ _ _
    exact rt_ct (T := TB) rfl kn29 rfl sz29.symm ag29.symm (fun V => mt_vec (fun _ _ => rfl)) (fun V => rfl)
theorem c_solved_no {M n : Nat} {G NC : Nat → Nat} {CP : Nat → Nat → AV} {Fv : Nat → Nat → Nat → Int} {W : Nat → Nat → Int} {p : Int} {T : Nat → Nat → Nat → Int} {fo : Nat → Int} (hp : primeB p = true) (hM0 : 0 < M) (hM : M ≤ 100) (hn0 : 0 < n) (hn : n ≤ 6) (hcl : ∀ x, (AV.fn (G x) (NC x) (CP x)).closed) (hFp : ∀ x i, Bp p (Fv x i)) (hWp : ∀ x, Bp p (W x)) (hf : ∀ x, x < M → ∀ i, i < n → ACalls Try.prog TB (G x) (vecA (eF i) :: capL (NC x) (CP x)) (vecA (Fv x i)) []) (hcon : ¬ conP n (redGo p (M * n) (sysR n Fv W) (n + 1)).no (redGo p (M * n) (sysR n Fv W) (n + 1)).O) : ACalls Try.prog TB 91 [.cptr (algA p (n : Int) T fo), .ro M (fun x => vecA (W x)), .ro M (fun x => .fn (G x) (NC x) (CP x))] (.tup 2 (pairA (vecA (fun _ => 0)) (.bool false))) [] := by
  have hpb := primeB_bd hp
  have hB : ∀ x i, x < M → B8 (Fv x i) := fun x i _ => B8_of (by omega) (hFp x i)
  have hle : M * n ≤ 100 * 6 := Nat.mul_le_mul hM hn
  have hle1 : 0 < M * n := Nat.mul_pos hM0 hn0
  have hS : ∀ r, Bp p (sysR n Fv W r) := fun r => sysR_Bp hFp hWp r
  refine acalls_of tokTB Try.func91 rfl rfl (Nat.le_of_ble_eq_true rfl) ?_
  apply sr tokTB (by kernel_rfl)
  · intro RR hRR
    refine w_alloc kn29 rfl zr29 ?_
    refine w_assign (by constructor) ?_
    exact hRR
  apply sr tokTB (by kernel_rfl)
  · intro RR hRR
    refine w_move (by constructor) ?_
    refine w_move (by constructor) ?_
    refine w_call rfl (exc (by first | exact rfl | exact exp_alg | exact exp_calg | exact ex_vl | exact exp_closed (by assumption)) (exc (by first | exact rfl | exact exp_alg | exact exp_calg | exact ex_vl | exact exp_closed (by assumption)) exn)) (c_equations hM hn0 hn hcl hB hf) (.inl ⟨trivial, ⟨fun _ => trivial, fun i sh c h => (by obtain ⟨_, _, rfl⟩ := famF_some h; exact fun _ => trivial), trivial⟩⟩) rfl (by constructor) rfl ?_
    refine w_assign (by constructor) ?_
    exact hRR
  refine snd_seq ?_
  apply sr tokTB (by kernel_rfl)
  · intro RR hRR
    refine w_move (by constructor) ?_
    first | refine w_len_r rfl rfl und85 ?_ | refine w_len_o rfl rfl und85 ?_ | refine w_len_n rfl rfl und85 ?_
    refine w_move (by constructor) ?_
    exact hRR
  refine snd_block ?_
  refine snd_loop (S := Nat) (fun i => ([(0, .cptr (algA p (n : Int) T fo)), (1, .ro M (fun x => vecA (W x))), (6, .ptr 6 0 [] 0 (vecA (fun _ => 0))), (8, .own 905 0 (M * n) 86), (16, .int .i64 ((M * n : Nat) : Int)), (17, .int .i64 (i : Int))], [(905, .one (ZR (M * n)) (CO 15001 (M * n) (fun r => if r < i then n + 1 else n) 2)), (15001, .many (famF (M * n) (fun r => if r < i then n + 1 else n) (mixG (sysR n Fv W) (eqR n Fv) i))), (6, .one (vecA (fun _ => 0)) (vecA (fun _ => 0)))])) (fun i => i ≤ (M * n)) (fun i => (M * n) - i) (0) (ρQ 905 15001 15000 912 (M * n) 6 6) ?_ ?_ ?_
  · exact emb_fam1 (by decide) (by decide) (by decide) (by decide) (by decide) (by decide) (by decide) (by decide) (by decide) rfl (fun j hj hne => by show AV.own (15000 + 1) j n _ = _; simp) (fun h => absurd h (by omega)) (fun h => absurd h (by omega)) (fun r hr hne => by show (match famF (M * n) (fun _ => n) (eqR n Fv) r with | some (sh, c) => some (sh, Am.shift 15000 c) | none => none) = _; rw [famF_at hr]; simp [mixG, shift]) ⟨_, rfl, ssh_vec, fun V => mt_vec (fun _ _ => rfl)⟩ ⟨m_calg, (by exact Mt_closed (V := _) (v := .ro M (fun x => vecA (W x))) (fun _ _ => trivial) (fun _ _ _ => trivial) (by simp)), ⟨rfl, rfl, rfl, rfl, rfl⟩, (by first | exact ⟨rfl, rfl, rfl, rfl⟩ | exact ⟨rfl, by omega, rfl, rfl⟩), (by first | exact m_int rfl | exact m_int (by omega) | exact m_int (by simp; done) | (exact m_int (by simp; omega))), (by first | exact m_int rfl | exact m_int (by omega) | exact m_int (by simp; done) | (exact m_int (by simp; omega))), trivial⟩
  · exact Nat.zero_le _
  intro i hi0
  refine sq (env2 := [(0, .cptr (algA p (n : Int) T fo)), (1, .ro M (fun x => vecA (W x))), (6, .ptr 6 0 [] 0 (vecA (fun _ => 0))), (8, .own 905 0 (M * n) 86), (16, .int .i64 ((M * n : Nat) : Int)), (17, .int .i64 (i : Int))]) (ol2 := [(905, .one (ZR (M * n)) (CO 15001 (M * n) (fun r => if r < i then n + 1 else n) 2)), (15001, .many (famF (M * n) (fun r => if r < i then n + 1 else n) (mixG (sysR n Fv W) (eqR n Fv) i))), (6, .one (vecA (fun _ => 0)) (vecA (fun _ => 0)))]) rfl rfl ?_
  apply sr tokTB (by kernel_rfl)
  · intro RR hRR
    refine w_lss rfl rfl ?_
    exact hRR
  refine snd_seq ?_
  refine snd_cond _ rfl (fun hc18 => ?_) (fun hc18 => ?_)
  · try simp only [Bool.not_eq_true', Bool.not_eq_false', Bool.not_eq_true, Bool.not_eq_false, decide_eq_true_eq, decide_eq_false_iff_not, Int.not_lt, Int.not_le, Classical.not_not, ne_eq] at hc18
    have hin : i < M * n := by omega
    have hq : i / n < M := (Nat.div_lt_iff_lt_mul hn0).2 hin
    have hr : i % n < n := Nat.mod_lt _ hn0
    have hwid : ∀ j, j ≠ i → (if j < i + 1 then n + 1 else n) = (if j < i then n + 1 else n) := fun j hj => by by_cases h : j < i; rw [if_pos h, if_pos (by omega)]; rw [if_neg h, if_neg (by omega)]
    have hwi : (if i < i then n + 1 else n) = n := if_neg (Nat.lt_irrefl i)
    have hwi1 : (if i < i + 1 then n + 1 else n) = n + 1 := if_pos (Nat.lt_succ_self i)
    have hmix : ∀ j, j ≠ i → mixG (sysR n Fv W) (eqR n Fv) (i + 1) j = mixG (sysR n Fv W) (eqR n Fv) i j := fun j hj => by by_cases h : j < i; rw [mixG_lt _ _ h, mixG_lt _ _ (by omega)]; rw [mixG_ge _ _ (by omega), mixG_ge _ _ (by omega)]
    have hmixi : mixG (sysR n Fv W) (eqR n Fv) i i = eqR n Fv i := mixG_self _ _ _
    have hmixi1 : mixG (sysR n Fv W) (eqR n Fv) (i + 1) i = sysR n Fv W i := mixG_lt _ _ (Nat.lt_succ_self i)
    refine snd_skip ?_
    refine snd_seq ?_
    refine snd_block ?_
    apply sr tokTB (by kernel_rfl)
    · intro RR hRR
      refine w_move (by constructor) ?_
      refine w_assign (by constructor) ?_
      exact hRR
    apply ld tokTB mixed (by kernel_rfl) (by kernel_rfl)
    · intro RR hRR
      refine w_move (by constructor) ?_
      refine w_move (by constructor) ?_
      refine w_move (by constructor) ?_
      refine w_move (by constructor) ?_
      first | refine w_iar rfl rfl und85 kn86 (by exact sz86.symm) ?_ rfl ?_ | refine w_iao rfl rfl und85 kn86 ?_ ?_
      · exact ⟨by omega, by omega⟩
      first | refine w_ldc rfl kn86 (by constructor) (by exact sz86.symm) (by exact ag86.symm) ?_ | refine w_ldp rfl kn86 rfl (by constructor) (by exact sz86.symm) (by exact ag86.symm) ?_
      refine w_move (by constructor) ?_
      refine w_move (by constructor) ?_
      refine w_move (by constructor) ?_
      refine w_call0 rfl (exc (by first | exact rfl | exact exp_alg | exact exp_calg | exact ex_vl | exact exp_closed (by assumption)) exn) (c_n) (by first | exact trivial | exact fun _ => trivial | exact fun _ _ => trivial | exact fun _ _ _ => trivial | exact nr_alg | exact nr_pair (by first | exact trivial | exact fun _ => trivial | exact nr_alg) (by first | exact trivial | exact fun _ => trivial)) (fun _ => by first | exact rfl | exact shift_alg | exact shift_pair rfl rfl | exact shift_pair shift_alg rfl) ?_
      refine w_quoN rfl rfl (by omega) (by omega) ?_
      refine w_move (by constructor) ?_
      refine w_move (by constructor) ?_
      refine w_call0 rfl (exc (by first | exact rfl | exact exp_alg | exact exp_calg | exact ex_vl | exact exp_closed (by assumption)) exn) (c_n) (by first | exact trivial | exact fun _ => trivial | exact fun _ _ => trivial | exact fun _ _ _ => trivial | exact nr_alg | exact nr_pair (by first | exact trivial | exact fun _ => trivial | exact nr_alg) (by first | exact trivial | exact fun _ => trivial)) (fun _ => by first | exact rfl | exact shift_alg | exact shift_pair rfl rfl | exact shift_pair shift_alg rfl) ?_
      refine w_remN rfl rfl (by omega) ?_
      first | refine w_iar rfl rfl und74 kn29 (by exact sz29.symm) ?_ rfl ?_ | refine w_iao rfl rfl und74 kn29 ?_ ?_
      · exact ⟨Int.natCast_nonneg _, Int.ofNat_lt.2 hq⟩
      first | refine w_iac rfl rfl und29 kn5 (by exact sz5.symm) ?_ rfl ?_ | refine w_iap rfl rfl und29 kn5 rfl (by exact sz5.symm) rfl ?_ ?_
      · exact ⟨Int.natCast_nonneg _, by omega⟩
      first | refine w_ldc rfl kn5 (by constructor) (by exact sz5.symm) (by exact ag5.symm) ?_ | refine w_ldp rfl kn5 rfl (by constructor) (by exact sz5.symm) (by exact ag5.symm) ?_
      refine w_conv rfl und5 und2 (by exact w64b (B8_of (by omega) (hWp _)) _) ?_
      refine w_bsl1 und86 kn2 (by rw [sz2]; rfl) rfl (by constructor) (by exact trivial) (by exact sz2.symm) (by first | exact trivial | exact ssh_vec | exact ⟨rfl, fun _ => trivial⟩) ?_
      refine w_app_o (k := 15001) (i := i) (n := n) (m := 1) (f := fun j => .int .i64 (eqR n Fv i j)) und86 (by show AV.own 15001 i (if i < i then n + 1 else n) _ = _; rw [hwi]) rfl kn2 rfl (by show famF (M * n) (fun r => if r < i then n + 1 else n) (mixG (sysR n Fv W) (eqR n Fv) i) i = _; rw [famF_at hin, hwi, hmixi]; rfl) (fun C h => ⟨rfl, rfl, rfl, h⟩) (by rw [by2]; omega) (by omega) rfl ?_
      first | refine w_iar rfl rfl und85 kn86 (by exact sz86.symm) ?_ rfl ?_ | refine w_iao rfl rfl und85 kn86 ?_ ?_
      · exact ⟨by omega, by omega⟩
      first | refine w_stw rfl (by constructor) kn86 rfl (by exact trivial) (by first | exact trivial | exact ssh_vec | exact ssh_alg | exact ssh_tab | exact ssh_mat | exact ⟨rfl, fun _ => trivial⟩ | exact ⟨rfl, fun _ => by rw [zr29]; exact ssh_vec⟩) (by exact sz86.symm) ?_ | refine w_sti rfl rfl kn86 rfl (by exact trivial) (by exact sz86.symm) ?_ | refine w_store rfl (HV.eq (by constructor)) kn86 rfl (by exact trivial) (by first | exact trivial | exact ssh_vec | exact ssh_alg | exact ssh_tab | exact ssh_mat | exact ⟨rfl, fun _ => trivial⟩ | exact ⟨rfl, fun _ => by rw [zr29]; exact ssh_vec⟩) (by exact sz86.symm) (put_in (by first | exact put_mat | exact put_tab | exact put_alg0 | exact put_alg1 | exact put_alg2 | exact put_alg3 | exact put_alg3i | exact put_alg2ij | exact put_alg2ijk | exact put_mat2 | exact put_tab2 | exact put_tab3)) ?_ | refine w_store rfl (HV.eq (by constructor)) kn86 rfl (by exact trivial) (by exact trivial) (by exact sz86.symm) rfl ?_
      exact hRR
    apply lr tokTB (by kernel_rfl)
    · intro RR hRR
      refine w_add rfl rfl (by first | exact w64 (by omega) (by omega) | exact w64b (by assumption) _ | exact w64t (by assumption) _ _ _ | exact rfl) ?_
      refine w_move (by constructor) ?_
      exact hRR
    refine ⟨i + 1, (ρQ 905 15001 905 40 i 6 6), ?_, (by omega), (by dsimp only; omega)⟩
    exact emb_fam1 (by decide) (by decide) (by decide) (by decide) (by decide) (by decide) (by decide) (by decide) (by decide) rfl (fun j hj hne => by show (bif Nat.beq j i then _ else AV.own 15001 j (if j < i then n + 1 else n) _) = _; rw [beq_ff hne]; simp only [cond_false, hwid j hne]) (fun h => by show (bif Nat.beq i i then _ else _) = _; rw [Nat.beq_refl]; simp [put, hwi, hwi1]) (fun h => by refine ⟨_, (by show _ = some (Z64 (if i < i + 1 then n + 1 else n), _); rw [hwi1]; exact rfl), fun V => ?_⟩; show Mt V (C64 (if i < i + 1 then n + 1 else n) _) _; rw [hwi1]; exact mt_app (fun j hj => congrArg (AV.int .i64) (by rw [hmixi1, sysR_lt hj])) (congrArg (AV.int .i64) (by rw [hmixi1, sysR_n]; rfl))) (fun r hr hne => by show (bif Nat.beq r i then none else famF (M * n) (fun r => if r < i then n + 1 else n) (mixG (sysR n Fv W) (eqR n Fv) i) r) = _; rw [beq_ff hne]; simp only [cond_false]; rw [famF_at hr]; simp only [hwid r hne, hmix r hne]) ⟨_, rfl, ssh_vec, fun V => mt_vec (fun _ _ => rfl)⟩ ⟨m_calg, (by exact Mt_closed (V := _) (v := .ro M (fun x => vecA (W x))) (fun _ _ => trivial) (fun _ _ _ => trivial) (by simp)), ⟨rfl, rfl, rfl, rfl, rfl⟩, (by first | exact ⟨rfl, rfl, rfl, rfl⟩ | exact ⟨rfl, by omega, rfl, rfl⟩), (by first | exact m_int rfl | exact m_int (by omega) | exact m_int (by simp; done) | (exact m_int (by simp; omega))), (by first | exact m_int rfl | exact m_int (by omega) | exact m_int (by simp; done) | (exact m_int (by simp; omega))), trivial⟩
  · try simp only [Bool.not_eq_true', Bool.not_eq_false', Bool.not_eq_true, Bool.not_eq_false, decide_eq_true_eq, decide_eq_false_iff_not, Int.not_lt, Int.not_le, Classical.not_not, ne_eq] at hc18
    have hiN : M * n = i := by omega
    refine snd_exit ?_
    refine snd_emb (ρ := ρ0) (env2 := [(0, .cptr (algA p (n : Int) T fo)), (6, .ptr 6 0 [] 0 (vecA (fun _ => 0))), (8, rowsA (M * n) (n + 1) (sysR n Fv W))]) (ol2 := [(6, .one (vecA (fun _ => 0)) (vecA (fun _ => 0)))]) ?_ ?_
    · exact ⟨⟨m_calg, ⟨rfl, rfl, rfl, rfl, rfl⟩, mt_fam_fz (w := fun r => if r < i then n + 1 else n) (F := mixG (sysR n Fv W) (eqR n Fv) i) ⟨ne_fst rfl, trivial⟩ (fun r => ⟨ne_fst rfl, trivial⟩) rfl (fun r hr => famF_at (w := fun r => if r < i then n + 1 else n) (F := mixG (sysR n Fv W) (eqR n Fv) i) hr) (fun r hr => if_pos (by omega)) (fun r hr j hj => by rw [mixG_lt _ _ (by omega)]), trivial⟩, ⟨⟨rfl, ssh_vec, mt_vec (fun _ _ => rfl)⟩, trivial⟩, ⟨⟨fun _ => ⟨rfl, rfl⟩, trivial⟩, trivial⟩⟩
    apply sd tokTB mixed (by kernel_rfl) (by kernel_rfl)
    · intro RR hRR
      refine w_move (by constructor) ?_
      refine w_move (by constructor) ?_
      refine w_call0 rfl (exc (by first | exact rfl | exact exp_alg | exact exp_calg | exact ex_vl | exact exp_closed (by assumption)) exn) (c_n) (by first | exact trivial | exact fun _ => trivial | exact fun _ _ => trivial | exact fun _ _ _ => trivial | exact nr_alg | exact nr_pair (by first | exact trivial | exact fun _ => trivial | exact nr_alg) (by first | exact trivial | exact fun _ => trivial)) (fun _ => by first | exact rfl | exact shift_alg | exact shift_pair rfl rfl | exact shift_pair shift_alg rfl) ?_
      refine w_move (by constructor) ?_
      first | refine w_nilc rfl ?_ | refine w_nilp rfl ?_ | refine w_nilf rfl ?_
      first | refine w_fac rfl und31 rfl kn2 nz2 (by decide) rfl (by constructor) ?_ | refine w_fap rfl und31 rfl kn2 nz2 rfl (by decide) rfl ?_
      first | refine w_ldc rfl kn2 (by constructor) (by exact sz2.symm) (by exact ag2.symm) ?_ | refine w_ldp rfl kn2 rfl (by constructor) (by exact sz2.symm) (by exact ag2.symm) ?_
      refine w_call0 rfl (exc (by first | exact rfl | exact exp_alg | exact exp_calg | exact ex_vl | exact exp_closed (by assumption)) (exc (by first | exact rfl | exact exp_alg | exact exp_calg | exact ex_vl | exact exp_closed (by assumption)) (exc (by first | exact rfl | exact exp_alg | exact exp_calg | exact ex_vl | exact exp_closed (by assumption)) exn))) (c_solve_no (S := sysR n Fv W) hp (by omega) (by omega) hS hcon) (by first | exact trivial | exact fun _ => trivial | exact fun _ _ => trivial | exact fun _ _ _ => trivial | exact nr_alg | exact nr_pair (by first | exact trivial | exact fun _ => trivial | exact nr_alg) (by first | exact trivial | exact fun _ => trivial)) (fun _ => by first | exact rfl | exact shift_alg | exact shift_pair rfl rfl | exact shift_pair shift_alg rfl) ?_
      refine w_move (by constructor) ?_
      refine w_ext rfl (by decide) (by constructor) ?_
      refine w_ext rfl (by decide) (by constructor) ?_
      refine w_assign (by constructor) ?_
      refine w_assign (by constructor) ?_
      exact hRR
    apply sr tokTB (by kernel_rfl)
    · intro RR hRR
      refine w_move (by constructor) ?_
      refine w_call0 rfl (exc (by first | exact rfl | exact exp_alg | exact exp_calg | exact ex_vl | exact exp_closed (by assumption)) exn) (c_vectorN) (by first | exact trivial | exact fun _ => trivial | exact fun _ _ => trivial | exact fun _ _ _ => trivial | exact nr_alg | exact nr_pair (by first | exact trivial | exact fun _ => trivial | exact nr_alg) (by first | exact trivial | exact fun _ => trivial)) (fun _ => by first | exact rfl | exact shift_alg | exact shift_pair rfl rfl | exact shift_pair shift_alg rfl) ?_
      refine w_move (by constructor) ?_
      first | refine w_stw rfl (by constructor) kn29 rfl (by exact trivial) (by first | exact trivial | exact ssh_vec | exact ssh_alg | exact ssh_tab | exact ssh_mat | exact ⟨rfl, fun _ => trivial⟩ | exact ⟨rfl, fun _ => by rw [zr29]; exact ssh_vec⟩) (by exact sz29.symm) ?_ | refine w_sti rfl rfl kn29 rfl (by exact trivial) (by exact sz29.symm) ?_ | refine w_store rfl (HV.eq (by constructor)) kn29 rfl (by exact trivial) (by first | exact trivial | exact ssh_vec | exact ssh_alg | exact ssh_tab | exact ssh_mat | exact ⟨rfl, fun _ => trivial⟩ | exact ⟨rfl, fun _ => by rw [zr29]; exact ssh_vec⟩) (by exact sz29.symm) (put_in (by first | exact put_mat | exact put_tab | exact put_alg0 | exact put_alg1 | exact put_alg2 | exact put_alg3 | exact put_alg3i | exact put_alg2ij | exact put_alg2ijk | exact put_mat2 | exact put_tab2 | exact put_tab3)) ?_ | refine w_store rfl (HV.eq (by constructor)) kn29 rfl (by exact trivial) (by exact trivial) (by exact sz29.symm) rfl ?_
      refine w_assign (by constructor) ?_
      exact hRR
    refine snd_ret ?_
    show retQ TB _ _ _ _ _ _
    exact rt_ct (T := TB) rfl kn29 rfl sz29.symm ag29.symm (fun V => mt_vec (fun _ _ => rfl)) (fun V => rfl)
end Go.Am
set_option linter.unusedVariables false
set_option linter.unusedSimpArgs false
set_option maxRecDepth 4000
namespace Go.Am
attribute [local irreducible] retQ
open Go.Proofs
noncomputable instance (n no : Nat) (O : Nat → Nat → Int) : Decidable (conP n no O) := Classical.propDecidable _
theorem c_solved {M n : Nat} {G NC : Nat → Nat} {CP : Nat → Nat → AV} {Fv : Nat → Nat → Nat → Int} {W : Nat → Nat → Int} {p : Int} {T : Nat → Nat → Nat → Int} {fo : Nat → Int} (hp : primeB p = true) (hM0 : 0 < M) (hM : M ≤ 100) (hn0 : 0 < n) (hn : n ≤ 6) (hcl : ∀ x, (AV.fn (G x) (NC x) (CP x)).closed) (hFp : ∀ x i, Bp p (Fv x i)) (hWp : ∀ x, Bp p (W x)) (hf : ∀ x, x < M → ∀ i, i < n → ACalls Try.prog TB (G x) (vecA (eF i) :: capL (NC x) (CP x)) (vecA (Fv x i)) []) : ACalls Try.prog TB 91 [.cptr (algA p (n : Int) T fo), .ro M (fun x => vecA (W x)), .ro M (fun x => .fn (G x) (NC x) (CP x))] (.tup 2 (pairA (vecA (if conP n (redGo p (M * n) (sysR n Fv W) (n + 1)).no (redGo p (M * n) (sysR n Fv W) (n + 1)).O then cutF (solGo n (redGo p (M * n) (sysR n Fv W) (n + 1)).O (redGo p (M * n) (sysR n Fv W) (n + 1)).no) n else fun _ => 0)) (.bool (decide (conP n (redGo p (M * n) (sysR n Fv W) (n + 1)).no (redGo p (M * n) (sysR n Fv W) (n + 1)).O))))) [] := by
  by_cases h : conP n (redGo p (M * n) (sysR n Fv W) (n + 1)).no (redGo p (M * n) (sysR n Fv W) (n + 1)).O
  · rw [if_pos h, decide_eq_true h]; exact c_solved_ok hp hM0 hM hn0 hn hcl hFp hWp hf h
  · rw [if_neg h, decide_eq_false h]; exact c_solved_no hp hM0 hM hn0 hn hcl hFp hWp hf h
def uG (x : Nat) : Nat := if x % 2 = 0 then 105 else 106
def uC (p : Int) (n : Nat) (T : Nat → Nat → Nat → Int) (fo : Nat → Int) (x : Nat) : Nat → AV := cap2 (.cptr (.cptr (algA p (n : Int) T fo))) (.cptr (vecA (eF (x / 2))))
theorem uE0 {p : Int} {n : Nat} {T : Nat → Nat → Nat → Int} {fo : Nat → Int} {i : Nat} : AV.fn (uG (2 * i)) 2 (uC p n T fo (2 * i)) = .fn 105 2 (cap2 (.cptr (.cptr (algA p (n : Int) T fo))) (.cptr (vecA (eF i)))) := by
  unfold uG uC; rw [if_pos (by omega), show 2 * i / 2 = i by omega]
theorem uE1 {p : Int} {n : Nat} {T : Nat → Nat → Nat → Int} {fo : Nat → Int} {i : Nat} : AV.fn (uG (2 * i + 1)) 2 (uC p n T fo (2 * i + 1)) = .fn 106 2 (cap2 (.cptr (.cptr (algA p (n : Int) T fo))) (.cptr (vecA (eF i)))) := by
  unfold uG uC; rw [if_neg (by omega), show (2 * i + 1) / 2 = i by omega]
theorem uCl {p : Int} {n : Nat} {T : Nat → Nat → Nat → Int} {fo : Nat → Int} (x : Nat) : (AV.fn (uG x) 2 (uC p n T fo x)).closed := closed_cap2 closed_calg (closed_vec (n := 6))
theorem mtCl {V : Vw} {g : Nat} {a b : AV} (ha : a.closed) (hb : b.closed) : Mt V (.fn g 2 (cap2 a b)) (.fn g 2 (cap2 a b)) := Mt_closed (closed_cap2 ha hb) (fun _ _ _ => trivial) (by simp)
theorem uHf {p : Int} {n : Nat} {T : Nat → Nat → Nat → Int} {fo : Nat → Int} (hp : 0 < p) (hp2 : p < 256) (hn : n ≤ 6) (hT : B8T T) : ∀ x, x < 2 * n → ∀ i, i < n → ACalls Try.prog TB (uG x) (vecA (eF i) :: capL 2 (uC p n T fo x)) (vecA (uM p n T x i)) [] := by
  intro x _ i _
  unfold uG uM
  by_cases h : x % 2 = 0
  · simp only [h, if_true]; exact c_behind1 hp hp2 hn hT (eF_B8 _) (eF_B8 _)
  · simp only [h, if_false]; exact c_ahead1 hp hp2 hn hT (eF_B8 _) (eF_B8 _)
theorem c_findUnit {p : Int} {n : Nat} {T : Nat → Nat → Nat → Int} {fo : Nat → Int} (hp : primeB p = true) (hn0 : 0 < n) (hn : n ≤ 6) (hT : BpT p T) : ACalls Try.prog TB 76 [.cptr (algA p (n : Int) T fo)] (.tup 2 (pairA (vecA (uF p n T)) (.bool (decide (uOk p n T))))) [] := by
  have hpb := primeB_bd hp
  refine acalls_of tokTB Try.func76 rfl rfl (Nat.le_of_ble_eq_true rfl) ?_
  apply sr tokTB (by kernel_rfl)
  · intro RR hRR
    refine w_alloc kn29 rfl zr29 ?_
    refine w_assign (by constructor) ?_
    exact hRR
  apply sr tokTB (by kernel_rfl)
  · intro RR hRR
    refine w_bsl und96 kn97 (by rw [sz97]; rfl) rfl trivial trivial rfl ?_
    refine w_bsl und74 kn29 (by rw [sz29]; rfl) rfl trivial trivial rfl ?_
    refine w_assign (by constructor) ?_
    refine w_assign (by constructor) ?_
    exact hRR
  refine snd_seq ?_
  apply sr tokTB (by kernel_rfl)
  · intro RR hRR
    refine w_move (by constructor) ?_
    refine w_call0 rfl (exc (by first | exact rfl | exact exp_alg | exact exp_calg | exact ex_vl | exact exp_closed (by assumption)) exn) (c_n) (by first | exact trivial | exact fun _ => trivial | exact fun _ _ => trivial | exact fun _ _ _ => trivial | exact nr_alg | exact nr_pair (by first | exact trivial | exact fun _ => trivial | exact nr_alg) (by first | exact trivial | exact fun _ => trivial)) (fun _ => by first | exact rfl | exact shift_alg | exact shift_pair rfl rfl | exact shift_pair shift_alg rfl) ?_
    refine w_move (by constructor) ?_
    exact hRR
  refine snd_block ?_
  refine snd_loop (S := Nat) (fun i => ([(0, .cptr (algA p (n : Int) T fo)), (2, .ptr 2 0 [] 0 (vecA (fun _ => 0))), (4, .own 904 0 (2 * i) 97), (5, .own 905 0 (2 * i) 29), (10, .int .i64 (n : Int)), (11, .int .i64 (i : Int))], [(2, .one (vecA (fun _ => 0)) (vecA (fun _ => 0))), (904, .one (.arr (2 * i) (fun _ => TB.zero 97)) (.arr (2 * i) (fun x => .fn (uG x) 2 (uC p n T fo x)))), (905, .one (.arr (2 * i) (fun _ => TB.zero 29)) (.arr (2 * i) (fun x => vecA (eF (x / 2)))))])) (fun i => i ≤ n) (fun i => n - i) (0) (fun k i => bif Nat.beq k 905 then (8, i) else bif Nat.beq k 904 then (7, i) else (k, i)) ?_ ?_ ?_
  · exact ⟨⟨m_calg, ⟨rfl, rfl, rfl, rfl, rfl⟩, (by first | exact ⟨rfl, rfl, rfl, rfl⟩ | exact ⟨rfl, by omega, rfl, rfl⟩), (by first | exact ⟨rfl, rfl, rfl, rfl⟩ | exact ⟨rfl, by omega, rfl, rfl⟩), (by first | exact m_int rfl | exact m_int (by omega) | exact m_int (by simp; done) | (exact m_int (by simp; omega))), (by first | exact m_int rfl | exact m_int (by omega) | exact m_int (by simp; done) | (exact m_int (by simp; omega))), trivial⟩, ⟨⟨rfl, (by first | exact trivial | exact ssh_vec | exact ssh_alg | exact ssh_tab | exact ssh_mat | exact ⟨rfl, fun _ => trivial⟩ | exact ⟨rfl, fun _ => by rw [zr29]; exact ssh_vec⟩), (by first | exact mt_vec (fun _ _ => rfl) | exact mt_mat (fun _ _ _ _ => rfl) | exact mt_tab (fun _ _ _ _ _ _ => rfl) | exact mt_arr0 | exact mt_app (fun _ _ => rfl) rfl | exact ⟨rfl, fun _ _ => mt_row (fun _ _ => rfl)⟩ | exact Mt_closed (V := _) closed_alg (fun _ _ _ => trivial) (by simp))⟩, ⟨rfl, (by first | exact trivial | exact ssh_vec | exact ssh_alg | exact ssh_tab | exact ssh_mat | exact ⟨rfl, fun _ => trivial⟩ | exact ⟨rfl, fun _ => by rw [zr29]; exact ssh_vec⟩), (by first | exact mt_vec (fun _ _ => rfl) | exact mt_mat (fun _ _ _ _ => rfl) | exact mt_tab (fun _ _ _ _ _ _ => rfl) | exact mt_arr0 | exact mt_app (fun _ _ => rfl) rfl | exact ⟨rfl, fun _ _ => mt_row (fun _ _ => rfl)⟩ | exact Mt_closed (V := _) closed_alg (fun _ _ _ => trivial) (by simp))⟩, ⟨rfl, (by first | exact trivial | exact ssh_vec | exact ssh_alg | exact ssh_tab | exact ssh_mat | exact ⟨rfl, fun _ => trivial⟩ | exact ⟨rfl, fun _ => by rw [zr29]; exact ssh_vec⟩), (by first | exact mt_vec (fun _ _ => rfl) | exact mt_mat (fun _ _ _ _ => rfl) | exact mt_tab (fun _ _ _ _ _ _ => rfl) | exact mt_arr0 | exact mt_app (fun _ _ => rfl) rfl | exact ⟨rfl, fun _ _ => mt_row (fun _ _ => rfl)⟩ | exact Mt_closed (V := _) closed_alg (fun _ _ _ => trivial) (by simp))⟩, trivial⟩, ⟨⟨(fun h => by first | exact ⟨rfl, rfl⟩ | exact absurd h (by decide)), (fun h => by first | exact ⟨rfl, rfl⟩ | exact absurd h (by decide)), (fun h => by first | exact ⟨rfl, rfl⟩ | exact absurd h (by decide)), trivial⟩, ⟨(fun h => by first | exact ⟨rfl, rfl⟩ | exact absurd h (by decide)), (fun h => by first | exact ⟨rfl, rfl⟩ | exact absurd h (by decide)), (fun h => by first | exact ⟨rfl, rfl⟩ | exact absurd h (by decide)), trivial⟩, ⟨(fun h => by first | exact ⟨rfl, rfl⟩ | exact absurd h (by decide)), (fun h => by first | exact ⟨rfl, rfl⟩ | exact absurd h (by decide)), (fun h => by first | exact ⟨rfl, rfl⟩ | exact absurd h (by decide)), trivial⟩, trivial⟩⟩
  · exact Nat.zero_le _
  intro i hi0
  refine sq (env2 := [(0, .cptr (algA p (n : Int) T fo)), (2, .ptr 2 0 [] 0 (vecA (fun _ => 0))), (4, .own 904 0 (2 * i) 97), (5, .own 905 0 (2 * i) 29), (10, .int .i64 (n : Int)), (11, .int .i64 (i : Int))]) (ol2 := [(2, .one (vecA (fun _ => 0)) (vecA (fun _ => 0))), (904, .one (.arr (2 * i) (fun _ => TB.zero 97)) (.arr (2 * i) (fun x => .fn (uG x) 2 (uC p n T fo x)))), (905, .one (.arr (2 * i) (fun _ => TB.zero 29)) (.arr (2 * i) (fun x => vecA (eF (x / 2)))))]) rfl rfl ?_
  apply sr tokTB (by kernel_rfl)
  · intro RR hRR
    refine w_lss rfl rfl ?_
    exact hRR
  refine snd_seq ?_
  refine snd_cond _ rfl (fun hc12 => ?_) (fun hc12 => ?_)
  · try simp only [Bool.not_eq_true', Bool.not_eq_false', Bool.not_eq_true, Bool.not_eq_false, decide_eq_true_eq, decide_eq_false_iff_not, Int.not_lt, Int.not_le, Classical.not_not, ne_eq] at hc12
    have lt_i : i < n := by omega
    refine snd_skip ?_
    refine snd_seq ?_
    refine snd_block ?_
    apply sr tokTB (by kernel_rfl)
    · intro RR hRR
      refine w_move (by constructor) ?_
      refine w_assign (by constructor) ?_
      exact hRR
    apply sr tokTB (by kernel_rfl)
    · intro RR hRR
      refine w_move (by constructor) ?_
      refine w_move (by constructor) ?_
      refine w_move (by constructor) ?_
      refine w_call0 rfl (exc (by first | exact rfl | exact exp_alg | exact exp_calg | exact ex_vl | exact exp_closed (by assumption)) exn) (c_basis (by omega)) (by first | exact trivial | exact fun _ => trivial | exact fun _ _ => trivial | exact fun _ _ _ => trivial | exact nr_alg | exact nr_pair (by first | exact trivial | exact fun _ => trivial | exact nr_alg) (by first | exact trivial | exact fun _ => trivial)) (fun _ => by first | exact rfl | exact shift_alg | exact shift_pair rfl rfl | exact shift_pair shift_alg rfl) ?_
      refine w_callc rfl (exc (by first | exact rfl | exact exp_alg | exact exp_calg | exact ex_vl | exact exp_closed (by assumption)) (exc (by first | exact rfl | exact exp_alg | exact exp_calg | exact ex_vl | exact exp_closed (by assumption)) exn)) (c_behind) (by exact closed_cap2 closed_calg (closed_vec (n := 6))) (by exact ⟨closed_calg, closed_vec (n := 6), trivial⟩) ?_
      refine w_move (by constructor) ?_
      refine w_move (by constructor) ?_
      refine w_call0 rfl (exc (by first | exact rfl | exact exp_alg | exact exp_calg | exact ex_vl | exact exp_closed (by assumption)) exn) (c_basis (by omega)) (by first | exact trivial | exact fun _ => trivial | exact fun _ _ => trivial | exact fun _ _ _ => trivial | exact nr_alg | exact nr_pair (by first | exact trivial | exact fun _ => trivial | exact nr_alg) (by first | exact trivial | exact fun _ => trivial)) (fun _ => by first | exact rfl | exact shift_alg | exact shift_pair rfl rfl | exact shift_pair shift_alg rfl) ?_
      refine w_callc rfl (exc (by first | exact rfl | exact exp_alg | exact exp_calg | exact ex_vl | exact exp_closed (by assumption)) (exc (by first | exact rfl | exact exp_alg | exact exp_calg | exact ex_vl | exact exp_closed (by assumption)) exn)) (c_ahead) (by exact closed_cap2 closed_calg (closed_vec (n := 6))) (by exact ⟨closed_calg, closed_vec (n := 6), trivial⟩) ?_
      refine w_bsl2 und96 kn97 (by rw [sz97]; rfl) rfl (by constructor) (by constructor) (by first | exact trivial | exact cel_cap2) (by first | exact trivial | exact cel_cap2) (by exact sz97.symm) (by exact sz97.symm) (by first | exact trivial | exact ssh_vec | exact ⟨rfl, fun _ => trivial⟩) (by first | exact trivial | exact ssh_vec | exact ⟨rfl, fun _ => trivial⟩) ?_
      first | refine w_app_o und96 rfl rfl kn97 rfl rfl (fun C h => ⟨rfl, rfl, rfl, h⟩) (by rw [by97]; omega) (by omega) rfl ?_ | refine w_app_o und96 rfl rfl kn97 rfl rfl (fun C h => ⟨by omega, fun _ => trivial, h⟩) (by rw [by97]; omega) (by omega) rfl ?_ | refine w_app_n und96 rfl rfl kn97 rfl (fun C h => ⟨rfl, rfl, rfl, h⟩) (by omega) (by rw [by97]; omega) (by omega) ?_ | refine w_app_n und96 rfl rfl kn97 rfl (fun C h => ⟨by omega, fun _ => trivial, h⟩) (by omega) (by rw [by97]; omega) (by omega) ?_
      refine w_assign (by constructor) ?_
      exact hRR
    apply lr tokTB (by kernel_rfl)
    · intro RR hRR
      refine w_move (by constructor) ?_
      refine w_move (by constructor) ?_
      refine w_call0 rfl (exc (by first | exact rfl | exact exp_alg | exact exp_calg | exact ex_vl | exact exp_closed (by assumption)) exn) (c_basis (by omega)) (by first | exact trivial | exact fun _ => trivial | exact fun _ _ => trivial | exact fun _ _ _ => trivial | exact nr_alg | exact nr_pair (by first | exact trivial | exact fun _ => trivial | exact nr_alg) (by first | exact trivial | exact fun _ => trivial)) (fun _ => by first | exact rfl | exact shift_alg | exact shift_pair rfl rfl | exact shift_pair shift_alg rfl) ?_
      refine w_move (by constructor) ?_
      refine w_call0 rfl (exc (by first | exact rfl | exact exp_alg | exact exp_calg | exact ex_vl | exact exp_closed (by assumption)) exn) (c_basis (by omega)) (by first | exact trivial | exact fun _ => trivial | exact fun _ _ => trivial | exact fun _ _ _ => trivial | exact nr_alg | exact nr_pair (by first | exact trivial | exact fun _ => trivial | exact nr_alg) (by first | exact trivial | exact fun _ => trivial)) (fun _ => by first | exact rfl | exact shift_alg | exact shift_pair rfl rfl | exact shift_pair shift_alg rfl) ?_
      refine w_bsl2 und74 kn29 (by rw [sz29]; rfl) rfl (by constructor) (by constructor) (by first | exact trivial | exact cel_cap2) (by first | exact trivial | exact cel_cap2) (by exact sz29.symm) (by exact sz29.symm) (by first | exact trivial | exact ssh_vec | exact ⟨rfl, fun _ => trivial⟩) (by first | exact trivial | exact ssh_vec | exact ⟨rfl, fun _ => trivial⟩) ?_
      first | refine w_app_o und74 rfl rfl kn29 rfl rfl (fun C h => ⟨rfl, rfl, rfl, h⟩) (by rw [by29]; omega) (by omega) rfl ?_ | refine w_app_o und74 rfl rfl kn29 rfl rfl (fun C h => ⟨by omega, fun _ => trivial, h⟩) (by rw [by29]; omega) (by omega) rfl ?_ | refine w_app_n und74 rfl rfl kn29 rfl (fun C h => ⟨rfl, rfl, rfl, h⟩) (by omega) (by rw [by29]; omega) (by omega) ?_ | refine w_app_n und74 rfl rfl kn29 rfl (fun C h => ⟨by omega, fun _ => trivial, h⟩) (by omega) (by rw [by29]; omega) (by omega) ?_
      refine w_assign (by constructor) ?_
      exact hRR
    apply lr tokTB (by kernel_rfl)
    · intro RR hRR
      refine w_add rfl rfl (by first | exact w64 (by omega) (by omega) | exact w64b (by assumption) _ | exact w64t (by assumption) _ _ _ | exact rfl) ?_
      refine w_move (by constructor) ?_
      exact hRR
    refine ⟨i + 1, (fun k i => bif Nat.beq k 905 then (31, i) else bif Nat.beq k 904 then (24, i) else (k, i)), ?_, (by omega), (by dsimp only; omega)⟩
    exact ⟨⟨m_calg, ⟨rfl, rfl, rfl, rfl, rfl⟩, (by first | exact ⟨rfl, rfl, rfl, rfl⟩ | exact ⟨rfl, by omega, rfl, rfl⟩), (by first | exact ⟨rfl, rfl, rfl, rfl⟩ | exact ⟨rfl, by omega, rfl, rfl⟩), (by first | exact m_int rfl | exact m_int (by omega) | exact m_int (by simp; done) | (exact m_int (by simp; omega))), (by first | exact m_int rfl | exact m_int (by omega) | exact m_int (by simp; done) | (exact m_int (by simp; omega))), trivial⟩, ⟨⟨rfl, (by first | exact trivial | exact ssh_vec | exact ssh_alg | exact ssh_tab | exact ssh_mat | exact ⟨rfl, fun _ => trivial⟩ | exact ⟨rfl, fun _ => by rw [zr29]; exact ssh_vec⟩), (by first | exact mt_vec (fun _ _ => rfl) | exact mt_mat (fun _ _ _ _ => rfl) | exact mt_tab (fun _ _ _ _ _ _ => rfl) | exact mt_arr0 | exact mt_app (fun _ _ => rfl) rfl | exact ⟨rfl, fun _ _ => mt_row (fun _ _ => rfl)⟩ | exact Mt_closed (V := _) closed_alg (fun _ _ _ => trivial) (by simp))⟩, ⟨(by exact congrArg (fun q => AV.arr q _) (show 2 * i + 2 = 2 * (i + 1) by omega)), (by first | exact trivial | exact ssh_vec | exact ssh_alg | exact ssh_tab | exact ssh_mat | exact ⟨rfl, fun _ => trivial⟩ | exact ⟨rfl, fun _ => by rw [zr29]; exact ssh_vec⟩), (by exact mt_app2 (by omega) (fun j hj => Mt_closed (uCl j) (fun _ _ _ => trivial) (by simp)) (by rw [uE0]; exact mtCl closed_calg (closed_vec (n := 6))) (by rw [uE1]; exact mtCl closed_calg (closed_vec (n := 6))))⟩, ⟨(by exact congrArg (fun q => AV.arr q _) (show 2 * i + 2 = 2 * (i + 1) by omega)), (by first | exact trivial | exact ssh_vec | exact ssh_alg | exact ssh_tab | exact ssh_mat | exact ⟨rfl, fun _ => trivial⟩ | exact ⟨rfl, fun _ => by rw [zr29]; exact ssh_vec⟩), (by exact mt_app2 (by omega) (fun j hj => mt_vec (fun _ _ => rfl)) (by rw [show 2 * i / 2 = i by omega]; exact mt_vec (fun _ _ => rfl)) (by rw [show (2 * i + 1) / 2 = i by omega]; exact mt_vec (fun _ _ => rfl)))⟩, trivial⟩, ⟨⟨(fun h => by first | exact ⟨rfl, rfl⟩ | exact absurd h (by decide)), (fun h => by first | exact ⟨rfl, rfl⟩ | exact absurd h (by decide)), (fun h => by first | exact ⟨rfl, rfl⟩ | exact absurd h (by decide)), trivial⟩, ⟨(fun h => by first | exact ⟨rfl, rfl⟩ | exact absurd h (by decide)), (fun h => by first | exact ⟨rfl, rfl⟩ | exact absurd h (by decide)), (fun h => by first | exact ⟨rfl, rfl⟩ | exact absurd h (by decide)), trivial⟩, ⟨(fun h => by first | exact ⟨rfl, rfl⟩ | exact absurd h (by decide)), (fun h => by first | exact ⟨rfl, rfl⟩ | exact absurd h (by decide)), (fun h => by first | exact ⟨rfl, rfl⟩ | exact absurd h (by decide)), trivial⟩, trivial⟩⟩
  · try simp only [Bool.not_eq_true', Bool.not_eq_false', Bool.not_eq_true, Bool.not_eq_false, decide_eq_true_eq, decide_eq_false_iff_not, Int.not_lt, Int.not_le, Classical.not_not, ne_eq] at hc12
    have ge_i : n = i := by omega
    subst ge_i
    refine snd_exit ?_
    refine snd_emb (ρ := ρ0) (env2 := [(0, .cptr (algA p (n : Int) T fo)), (2, .ptr 2 0 [] 0 (vecA (fun _ => 0))), (4, .ro (2 * n) (fun x => .fn (uG x) 2 (uC p n T fo x))), (5, .ro (2 * n) (fun x => vecA (eF (x / 2))))]) (ol2 := [(2, .one (vecA (fun _ => 0)) (vecA (fun _ => 0)))]) ?_ ?_
    · exact ⟨⟨m_calg, ⟨rfl, rfl, rfl, rfl, rfl⟩, mt_fz ⟨ne_fst rfl, trivial⟩ rfl (fun j hj => Mt_closed (uCl j) (fun _ _ _ => trivial) (by simp)), mt_fz ⟨ne_fst rfl, trivial⟩ rfl (fun j hj => mt_vec (fun _ _ => rfl)), trivial⟩, ⟨⟨rfl, ssh_vec, mt_vec (fun _ _ => rfl)⟩, trivial⟩, ⟨⟨fun _ => ⟨rfl, rfl⟩, trivial⟩, trivial⟩⟩
    apply sr tokTB (by kernel_rfl)
    · intro RR hRR
      refine w_move (by constructor) ?_
      refine w_move (by constructor) ?_
      refine w_move (by constructor) ?_
      refine w_call0 rfl (exc exp_calg (exc (exp_closed (fun _ _ => trivial)) (exc (exp_closed (v := .ro (2 * n) (fun x => .fn (uG x) 2 (uC p n T fo x))) (fun x => uCl x)) exn))) (c_solved (M := 2 * n) (n := n) (G := uG) (NC := fun _ => 2) (CP := uC p n T fo) (Fv := uM p n T) (W := uW) (p := p) (T := T) (fo := fo) hp (by omega) (by omega) hn0 hn uCl (fun x i => uM_Bp (by omega) x i) (fun x => eF_Bp (by omega) _) (uHf (by omega) (by omega) hn (B8T_of (by omega) hT))) (by exact nr_pair (fun _ => trivial) trivial) (fun _ => by exact shift_pair rfl rfl) ?_
      refine w_ext rfl (by decide) (by constructor) ?_
      refine w_ext rfl (by decide) (by constructor) ?_
      first | refine w_stw rfl (by constructor) kn29 rfl (by exact trivial) (by first | exact trivial | exact ssh_vec | exact ssh_alg | exact ssh_tab | exact ssh_mat | exact ⟨rfl, fun _ => trivial⟩ | exact ⟨rfl, fun _ => by rw [zr29]; exact ssh_vec⟩) (by exact sz29.symm) ?_ | refine w_sti rfl rfl kn29 rfl (by exact trivial) (by exact sz29.symm) ?_ | refine w_store rfl (HV.eq (by constructor)) kn29 rfl (by exact trivial) (by first | exact trivial | exact ssh_vec | exact ssh_alg | exact ssh_tab | exact ssh_mat | exact ⟨rfl, fun _ => trivial⟩ | exact ⟨rfl, fun _ => by rw [zr29]; exact ssh_vec⟩) (by exact sz29.symm) (put_in (by first | exact put_mat | exact put_tab | exact put_alg0 | exact put_alg1 | exact put_alg2 | exact put_alg3 | exact put_alg3i | exact put_alg2ij | exact put_alg2ijk | exact put_mat2 | exact put_tab2 | exact put_tab3)) ?_ | refine w_store rfl (HV.eq (by constructor)) kn29 rfl (by exact trivial) (by exact trivial) (by exact sz29.symm) rfl ?_
      refine w_assign (by constructor) ?_
      exact hRR
    refine snd_ret ?_
    show retQ TB _ _ _ _ _ _
    exact rt_ct (T := TB) rfl kn29 rfl sz29.symm ag29.symm (fun V => mt_vec (fun _ _ => rfl)) (fun V => congrArg AV.bool rfl)
end Go.Am
set_option linter.unusedVariables false
set_option linter.unusedSimpArgs false
set_option maxRecDepth 4000
namespace Go.Am
attribute [local irreducible] retQ
open Go.Proofs
theorem c_l01Find {p : Int} {n : Nat} {T : Nat → Nat → Nat → Int} {fo : Nat → Int} (hp : primeB p = true) (hn0 : 0 < n) (hn : n ≤ 6) (hT : BpT p T) : ACalls Try.prog TB 75 [algA p (n : Int) T fo] (.tup 2 (pairA (vecA (uF p n T)) (.bool (decide (uOk p n T))))) [] := by
  have h : ACalls Try.prog TB 75 [algA p (n : Int) T fo] (.tup 2 (pairA (vecA (findV p n T)) (.bool (decide (okS p n T))))) [] := by
    by_cases h : oneP n (echGo p (n + 1) (unitS n T) (n * n)).no (echGo p (n + 1) (unitS n T) (n * n)).O
    · exact c_l01Find_ok hp hn0 hn hT h
    · exact c_l01Find_no hp hn0 hn hT h
  obtain ⟨h1, h2⟩ := okS_iff hp hn0 hn hT
  rw [show findV p n T = uF p n T from funext h2] at h
  rw [show decide (okS p n T) = decide (uOk p n T) from decide_eq_decide.2 h1] at h
  exact h
theorem c_l01Commutative {p n : Int} {T : Nat → Nat → Nat → Int} {fo : Nat → Int} : ACalls Try.prog TB 51 [algA p n T fo] (.bool (decide (comP T))) [] := by
  refine acalls_of tokTB Try.func51 rfl rfl (Nat.le_of_ble_eq_true rfl) ?_
  apply sr tokTB (by kernel_rfl)
  · intro RR hRR
    refine w_boxc (HV.eq (by constructor)) (by exact trivial) ?_
    refine w_assign (by constructor) ?_
    exact hRR
  refine snd_seq ?_
  apply sr tokTB (by kernel_rfl)
  · intro RR hRR
    refine w_assign (by constructor) ?_
    exact hRR
  refine snd_block ?_
  refine snd_loop (S := Nat) (fun i => ([(1, .cptr (algA p n T fo)), (3, .int .i64 (i : Int))], [])) (fun i => i ≤ 6 ∧ (∀ a, a < i → ∀ b, b < a → eqN 6 (T a b) (T b a))) (fun i => 6 - i) (0) ρ0 ?_ ?_ ?_
  · exact ⟨⟨m_calg, (by first | exact m_int rfl | exact m_int (by omega) | exact m_int (by simp; done) | (exact m_int (by simp; omega))), trivial⟩, trivial, trivial⟩
  · exact ⟨Nat.zero_le _, fun j hj => absurd hj (Nat.not_lt_zero _)⟩
  intro i hi0
  refine sq (env2 := [(1, .cptr (algA p n T fo)), (3, .int .i64 (i : Int))]) (ol2 := []) rfl rfl ?_
  obtain ⟨le_i, inv_i⟩ := hi0
  refine snd_seq ?_
  apply sr tokTB (by kernel_rfl)
  · intro RR hRR
    refine w_move (by constructor) ?_
    refine w_lss rfl rfl ?_
    exact hRR
  refine snd_cond _ rfl (fun hc6 => ?_) (fun hc6 => ?_)
  · try simp only [Bool.not_eq_true', Bool.not_eq_false', Bool.not_eq_true, Bool.not_eq_false, decide_eq_true_eq, decide_eq_false_iff_not, Int.not_lt, Int.not_le, Classical.not_not, ne_eq] at hc6
    have lt_i : i < 6 := by omega
    refine snd_skip ?_
    refine snd_seq ?_
    refine snd_block ?_
    apply sr tokTB (by kernel_rfl)
    · intro RR hRR
      refine w_assign (by constructor) ?_
      exact hRR
    refine snd_block ?_
    refine snd_loop (S := Nat) (fun j => ([(1, .cptr (algA p n T fo)), (3, .int .i64 (i : Int)), (4, .int .i64 (j : Int))], [])) (fun j => j ≤ i ∧ (∀ b, b < j → eqN 6 (T i b) (T b i))) (fun j => i - j) (0) ρ0 ?_ ?_ ?_
    · exact ⟨⟨m_calg, (by first | exact m_int rfl | exact m_int (by omega) | exact m_int (by simp; done) | (exact m_int (by simp; omega))), (by first | exact m_int rfl | exact m_int (by omega) | exact m_int (by simp; done) | (exact m_int (by simp; omega))), trivial⟩, trivial, trivial⟩
    · exact ⟨Nat.zero_le _, fun j hj => absurd hj (Nat.not_lt_zero _)⟩
    intro j hi2
    refine sq (env2 := [(1, .cptr (algA p n T fo)), (3, .int .i64 (i : Int)), (4, .int .i64 (j : Int))]) (ol2 := []) rfl rfl ?_
    obtain ⟨le_j, inv_j⟩ := hi2
    refine snd_seq ?_
    apply sr tokTB (by kernel_rfl)
    · intro RR hRR
      refine w_move (by constructor) ?_
      refine w_move (by constructor) ?_
      refine w_lss rfl rfl ?_
      exact hRR
    refine snd_cond _ rfl (fun hc11 => ?_) (fun hc11 => ?_)
    · try simp only [Bool.not_eq_true', Bool.not_eq_false', Bool.not_eq_true, Bool.not_eq_false, decide_eq_true_eq, decide_eq_false_iff_not, Int.not_lt, Int.not_le, Classical.not_not, ne_eq] at hc11
      have lt_j : j < i := by omega
      refine snd_skip ?_
      refine snd_seq ?_
      refine snd_block ?_
      apply sd tokTB mixed (by kernel_rfl) (by kernel_rfl)
      · intro RR hRR
        refine w_move (by constructor) ?_
        refine w_move (by constructor) ?_
        first | refine w_fac rfl und31 rfl kn24 nz24 (by decide) rfl (by constructor) ?_ | refine w_fap rfl und31 rfl kn24 nz24 rfl (by decide) rfl ?_
        first | refine w_iac rfl rfl und24 kn23 (by exact sz23.symm) ?_ rfl ?_ | refine w_iap rfl rfl und24 kn23 rfl (by exact sz23.symm) rfl ?_ ?_
        · exact ⟨by omega, by omega⟩
        first | refine w_iac rfl rfl und23 kn22 (by exact sz22.symm) ?_ rfl ?_ | refine w_iap rfl rfl und23 kn22 rfl (by exact sz22.symm) rfl ?_ ?_
        · exact ⟨by omega, by omega⟩
        first | refine w_ldc rfl kn22 (by constructor) (by exact sz22.symm) (by exact ag22.symm) ?_ | refine w_ldp rfl kn22 rfl (by constructor) (by exact sz22.symm) (by exact ag22.symm) ?_
        refine w_move (by constructor) ?_
        refine w_move (by constructor) ?_
        first | refine w_fac rfl und31 rfl kn24 nz24 (by decide) rfl (by constructor) ?_ | refine w_fap rfl und31 rfl kn24 nz24 rfl (by decide) rfl ?_
        first | refine w_iac rfl rfl und24 kn23 (by exact sz23.symm) ?_ rfl ?_ | refine w_iap rfl rfl und24 kn23 rfl (by exact sz23.symm) rfl ?_ ?_
        · exact ⟨by omega, by omega⟩
        first | refine w_iac rfl rfl und23 kn22 (by exact sz22.symm) ?_ rfl ?_ | refine w_iap rfl rfl und23 kn22 rfl (by exact sz22.symm) rfl ?_ ?_
        · exact ⟨by omega, by omega⟩
        first | refine w_ldc rfl kn22 (by constructor) (by exact sz22.symm) (by exact ag22.symm) ?_ | refine w_ldp rfl kn22 rfl (by constructor) (by exact sz22.symm) (by exact ag22.symm) ?_
        refine w_aneq rfl rfl und22 und5 ?_
        exact hRR
      refine snd_cond _ rfl (fun hc26 => ?_) (fun hc26 => ?_)
      · skip
        apply sr tokTB (by kernel_rfl)
        · intro RR hRR
          refine w_assign (by constructor) ?_
          exact hRR
        refine snd_ret ?_
        exact rt (T := TB) (fun V => m_bool (by symm; rw [decide_eq_false_iff_not]; intro h; exact of_decide_eq_true (p := ¬ eqN 6 _ _) hc26 (h i (by omega) j (by omega))))
      · skip
        refine snd_skip ?_
        apply lr tokTB (by kernel_rfl)
        · intro RR hRR
          refine w_move (by constructor) ?_
          refine w_add rfl rfl (by first | exact w64 (by omega) (by omega) | exact w64b (by assumption) _ | exact w64t (by assumption) _ _ _ | exact rfl) ?_
          refine w_assign (by constructor) ?_
          exact hRR
        refine ⟨j + 1, ρ0, ?_, ⟨by omega, all_step inv_j (Classical.not_not.1 (of_decide_eq_false (p := ¬ eqN 6 _ _) hc26))⟩, (by dsimp only; omega)⟩
        exact ⟨⟨m_calg, (by first | exact m_int rfl | exact m_int (by omega) | exact m_int (by simp; done) | (exact m_int (by simp; omega))), (by first | exact m_int rfl | exact m_int (by omega) | exact m_int (by simp; done) | (exact m_int (by simp; omega))), trivial⟩, trivial, trivial⟩
    · try simp only [Bool.not_eq_true', Bool.not_eq_false', Bool.not_eq_true, Bool.not_eq_false, decide_eq_true_eq, decide_eq_false_iff_not, Int.not_lt, Int.not_le, Classical.not_not, ne_eq] at hc11
      have ge_j : i = j := by omega
      subst ge_j
      refine snd_exit ?_
      apply lr tokTB (by kernel_rfl)
      · intro RR hRR
        refine w_move (by constructor) ?_
        refine w_add rfl rfl (by first | exact w64 (by omega) (by omega) | exact w64b (by assumption) _ | exact w64t (by assumption) _ _ _ | exact rfl) ?_
        refine w_assign (by constructor) ?_
        exact hRR
      refine ⟨i + 1, ρ0, ?_, ⟨by omega, all_step inv_i inv_j⟩, (by dsimp only; omega)⟩
      exact ⟨⟨m_calg, (by first | exact m_int rfl | exact m_int (by omega) | exact m_int (by simp; done) | (exact m_int (by simp; omega))), trivial⟩, trivial, trivial⟩
  · try simp only [Bool.not_eq_true', Bool.not_eq_false', Bool.not_eq_true, Bool.not_eq_false, decide_eq_true_eq, decide_eq_false_iff_not, Int.not_lt, Int.not_le, Classical.not_not, ne_eq] at hc6
    have ge_i : 6 = i := by omega
    subst ge_i
    refine snd_exit ?_
    apply sr tokTB (by kernel_rfl)
    · intro RR hRR
      refine w_assign (by constructor) ?_
      exact hRR
    refine snd_ret ?_
    exact rt (T := TB) (fun V => m_bool (by symm; rw [decide_eq_true_eq]; exact inv_i))
theorem c_commutative {p : Int} {n : Nat} (hn : n ≤ 6) {T : Nat → Nat → Nat → Int} {fo : Nat → Int} : ACalls Try.prog TB 53 [.cptr (algA p (n : Int) T fo)] (.bool (decide (comN n T))) [] := by
  refine acalls_of tokTB Try.func53 rfl rfl (Nat.le_of_ble_eq_true rfl) ?_
  apply sr tokTB (by kernel_rfl)
  · intro RR hRR
    refine w_assign (by constructor) ?_
    exact hRR
  refine snd_seq ?_
  apply sr tokTB (by kernel_rfl)
  · intro RR hRR
    refine w_move (by constructor) ?_
    refine w_call0 rfl (exc (by first | exact rfl | exact exp_alg | exact exp_calg | exact ex_vl | exact exp_closed (by assumption)) exn) (c_n) (by first | exact trivial | exact fun _ => trivial | exact fun _ _ => trivial | exact fun _ _ _ => trivial | exact nr_alg | exact nr_pair (by first | exact trivial | exact fun _ => trivial | exact nr_alg) (by first | exact trivial | exact fun _ => trivial)) (fun _ => by first | exact rfl | exact shift_alg | exact shift_pair rfl rfl | exact shift_pair shift_alg rfl) ?_
    refine w_move (by constructor) ?_
    exact hRR
  refine snd_block ?_
  refine snd_loop (S := Nat) (fun i => ([(0, .cptr (algA p (n : Int) T fo)), (6, .int .i64 (n : Int)), (7, .int .i64 (i : Int))], [])) (fun i => i ≤ n ∧ (∀ a, a < i → ∀ b, b < a → eqN 6 (T a b) (T b a))) (fun i => n - i) (0) ρ0 ?_ ?_ ?_
  · exact ⟨⟨m_calg, (by first | exact m_int rfl | exact m_int (by omega) | exact m_int (by simp; done) | (exact m_int (by simp; omega))), (by first | exact m_int rfl | exact m_int (by omega) | exact m_int (by simp; done) | (exact m_int (by simp; omega))), trivial⟩, trivial, trivial⟩
  · exact ⟨Nat.zero_le _, fun j hj => absurd hj (Nat.not_lt_zero _)⟩
  intro i hi0
  refine sq (env2 := [(0, .cptr (algA p (n : Int) T fo)), (6, .int .i64 (n : Int)), (7, .int .i64 (i : Int))]) (ol2 := []) rfl rfl ?_
  obtain ⟨le_i, inv_i⟩ := hi0
  apply sr tokTB (by kernel_rfl)
  · intro RR hRR
    refine w_lss rfl rfl ?_
    exact hRR
  refine snd_seq ?_
  refine snd_cond _ rfl (fun hc8 => ?_) (fun hc8 => ?_)
  · try simp only [Bool.not_eq_true', Bool.not_eq_false', Bool.not_eq_true, Bool.not_eq_false, decide_eq_true_eq, decide_eq_false_iff_not, Int.not_lt, Int.not_le, Classical.not_not, ne_eq] at hc8
    have lt_i : i < n := by omega
    refine snd_skip ?_
    refine snd_seq ?_
    refine snd_block ?_
    apply sr tokTB (by kernel_rfl)
    · intro RR hRR
      refine w_move (by constructor) ?_
      refine w_assign (by constructor) ?_
      exact hRR
    apply sr tokTB (by kernel_rfl)
    · intro RR hRR
      refine w_move (by constructor) ?_
      refine w_move (by constructor) ?_
      exact hRR
    refine snd_block ?_
    refine snd_loop (S := Nat) (fun j => ([(0, .cptr (algA p (n : Int) T fo)), (3, .int .i64 (i : Int)), (6, .int .i64 (n : Int)), (7, .int .i64 (i : Int)), (10, .int .i64 (i : Int)), (11, .int .i64 (j : Int))], [])) (fun j => j ≤ i ∧ (∀ b, b < j → eqN 6 (T i b) (T b i))) (fun j => i - j) (0) ρ0 ?_ ?_ ?_
    · exact ⟨⟨m_calg, (by first | exact m_int rfl | exact m_int (by omega) | exact m_int (by simp; done) | (exact m_int (by simp; omega))), (by first | exact m_int rfl | exact m_int (by omega) | exact m_int (by simp; done) | (exact m_int (by simp; omega))), (by first | exact m_int rfl | exact m_int (by omega) | exact m_int (by simp; done) | (exact m_int (by simp; omega))), (by first | exact m_int rfl | exact m_int (by omega) | exact m_int (by simp; done) | (exact m_int (by simp; omega))), (by first | exact m_int rfl | exact m_int (by omega) | exact m_int (by simp; done) | (exact m_int (by simp; omega))), trivial⟩, trivial, trivial⟩
    · exact ⟨Nat.zero_le _, fun j hj => absurd hj (Nat.not_lt_zero _)⟩
    intro j hi2
    refine sq (env2 := [(0, .cptr (algA p (n : Int) T fo)), (3, .int .i64 (i : Int)), (6, .int .i64 (n : Int)), (7, .int .i64 (i : Int)), (10, .int .i64 (i : Int)), (11, .int .i64 (j : Int))]) (ol2 := []) rfl rfl ?_
    obtain ⟨le_j, inv_j⟩ := hi2
    apply sr tokTB (by kernel_rfl)
    · intro RR hRR
      refine w_lss rfl rfl ?_
      exact hRR
    refine snd_seq ?_
    refine snd_cond _ rfl (fun hc12 => ?_) (fun hc12 => ?_)
    · try simp only [Bool.not_eq_true', Bool.not_eq_false', Bool.not_eq_true, Bool.not_eq_false, decide_eq_true_eq, decide_eq_false_iff_not, Int.not_lt, Int.not_le, Classical.not_not, ne_eq] at hc12
      have lt_j : j < i := by omega
      refine snd_skip ?_
      refine snd_seq ?_
      refine snd_block ?_
      apply sr tokTB (by kernel_rfl)
      · intro RR hRR
        refine w_move (by constructor) ?_
        refine w_assign (by constructor) ?_
        exact hRR
      apply sd tokTB mixed (by kernel_rfl) (by kernel_rfl)
      · intro RR hRR
        refine w_move (by constructor) ?_
        refine w_move (by constructor) ?_
        refine w_move (by constructor) ?_
        first | refine w_nilc rfl ?_ | refine w_nilp rfl ?_ | refine w_nilf rfl ?_
        first | refine w_fac rfl und31 rfl kn24 nz24 (by decide) rfl (by constructor) ?_ | refine w_fap rfl und31 rfl kn24 nz24 rfl (by decide) rfl ?_
        first | refine w_iac rfl rfl und24 kn23 (by exact sz23.symm) ?_ rfl ?_ | refine w_iap rfl rfl und24 kn23 rfl (by exact sz23.symm) rfl ?_ ?_
        · exact ⟨by omega, by omega⟩
        first | refine w_iac rfl rfl und23 kn22 (by exact sz22.symm) ?_ rfl ?_ | refine w_iap rfl rfl und23 kn22 rfl (by exact sz22.symm) rfl ?_ ?_
        · exact ⟨by omega, by omega⟩
        first | refine w_ldc rfl kn22 (by constructor) (by exact sz22.symm) (by exact ag22.symm) ?_ | refine w_ldp rfl kn22 rfl (by constructor) (by exact sz22.symm) (by exact ag22.symm) ?_
        refine w_move (by constructor) ?_
        refine w_move (by constructor) ?_
        refine w_move (by constructor) ?_
        first | refine w_nilc rfl ?_ | refine w_nilp rfl ?_ | refine w_nilf rfl ?_
        first | refine w_fac rfl und31 rfl kn24 nz24 (by decide) rfl (by constructor) ?_ | refine w_fap rfl und31 rfl kn24 nz24 rfl (by decide) rfl ?_
        first | refine w_iac rfl rfl und24 kn23 (by exact sz23.symm) ?_ rfl ?_ | refine w_iap rfl rfl und24 kn23 rfl (by exact sz23.symm) rfl ?_ ?_
        · exact ⟨by omega, by omega⟩
        first | refine w_iac rfl rfl und23 kn22 (by exact sz22.symm) ?_ rfl ?_ | refine w_iap rfl rfl und23 kn22 rfl (by exact sz22.symm) rfl ?_ ?_
        · exact ⟨by omega, by omega⟩
        first | refine w_ldc rfl kn22 (by constructor) (by exact sz22.symm) (by exact ag22.symm) ?_ | refine w_ldp rfl kn22 rfl (by constructor) (by exact sz22.symm) (by exact ag22.symm) ?_
        refine w_aneq rfl rfl und22 und5 ?_
        exact hRR
      refine snd_cond _ rfl (fun hc30 => ?_) (fun hc30 => ?_)
      · skip
        apply sr tokTB (by kernel_rfl)
        · intro RR hRR
          refine w_assign (by constructor) ?_
          exact hRR
        refine snd_ret ?_
        exact rt (T := TB) (fun V => m_bool (by symm; rw [decide_eq_false_iff_not]; intro h; exact of_decide_eq_true (p := ¬ eqN 6 _ _) hc30 (h i (by omega) j (by omega))))
      · skip
        refine snd_skip ?_
        apply lr tokTB (by kernel_rfl)
        · intro RR hRR
          refine w_add rfl rfl (by first | exact w64 (by omega) (by omega) | exact w64b (by assumption) _ | exact w64t (by assumption) _ _ _ | exact rfl) ?_
          refine w_move (by constructor) ?_
          exact hRR
        refine ⟨j + 1, ρ0, ?_, ⟨by omega, all_step inv_j (Classical.not_not.1 (of_decide_eq_false (p := ¬ eqN 6 _ _) hc30))⟩, (by dsimp only; omega)⟩
        exact ⟨⟨m_calg, (by first | exact m_int rfl | exact m_int (by omega) | exact m_int (by simp; done) | (exact m_int (by simp; omega))), (by first | exact m_int rfl | exact m_int (by omega) | exact m_int (by simp; done) | (exact m_int (by simp; omega))), (by first | exact m_int rfl | exact m_int (by omega) | exact m_int (by simp; done) | (exact m_int (by simp; omega))), (by first | exact m_int rfl | exact m_int (by omega) | exact m_int (by simp; done) | (exact m_int (by simp; omega))), (by first | exact m_int rfl | exact m_int (by omega) | exact m_int (by simp; done) | (exact m_int (by simp; omega))), trivial⟩, trivial, trivial⟩
    · try simp only [Bool.not_eq_true', Bool.not_eq_false', Bool.not_eq_true, Bool.not_eq_false, decide_eq_true_eq, decide_eq_false_iff_not, Int.not_lt, Int.not_le, Classical.not_not, ne_eq] at hc12
      have ge_j : i = j := by omega
      subst ge_j
      refine snd_exit ?_
      apply lr tokTB (by kernel_rfl)
      · intro RR hRR
        refine w_add rfl rfl (by first | exact w64 (by omega) (by omega) | exact w64b (by assumption) _ | exact w64t (by assumption) _ _ _ | exact rfl) ?_
        refine w_move (by constructor) ?_
        exact hRR
      refine ⟨i + 1, ρ0, ?_, ⟨by omega, all_step inv_i inv_j⟩, (by dsimp only; omega)⟩
      exact ⟨⟨m_calg, (by first | exact m_int rfl | exact m_int (by omega) | exact m_int (by simp; done) | (exact m_int (by simp; omega))), (by first | exact m_int rfl | exact m_int (by omega) | exact m_int (by simp; done) | (exact m_int (by simp; omega))), trivial⟩, trivial, trivial⟩
  · try simp only [Bool.not_eq_true', Bool.not_eq_false', Bool.not_eq_true, Bool.not_eq_false, decide_eq_true_eq, decide_eq_false_iff_not, Int.not_lt, Int.not_le, Classical.not_not, ne_eq] at hc8
    have ge_i : n = i := by omega
    subst ge_i
    refine snd_exit ?_
    apply sr tokTB (by kernel_rfl)
    · intro RR hRR
      refine w_assign (by constructor) ?_
      exact hRR
    refine snd_ret ?_
    exact rt (T := TB) (fun V => m_bool (by symm; rw [decide_eq_true_eq]; exact inv_i))
theorem c_l01Form {p n : Int} {T : Nat → Nat → Nat → Int} {fo v : Nat → Int} (hp : 0 < p) (hf : B8 fo) (hv : B8 v) : ACalls Try.prog TB 54 [algA p n T fo, vecA v] (.int .i64 (formF p fo v)) [] := by
  refine acalls_of tokTB Try.func54 rfl rfl (Nat.le_of_ble_eq_true rfl) ?_
  apply sr tokTB (by kernel_rfl)
  · intro RR hRR
    refine w_boxc (HV.eq (by constructor)) (by exact trivial) ?_
    refine w_boxc (HV.eq (by constructor)) (by exact trivial) ?_
    refine w_assign (by constructor) ?_
    exact hRR
  apply sr tokTB (by kernel_rfl)
  · intro RR hRR
    refine w_assign (by constructor) ?_
    exact hRR
  refine snd_seq ?_
  apply sr tokTB (by kernel_rfl)
  · intro RR hRR
    refine w_assign (by constructor) ?_
    exact hRR
  refine snd_block ?_
  refine snd_loop (S := Nat) (fun i => ([(2, .cptr (algA p n T fo)), (3, .cptr (vecA v)), (5, .int .i64 (sumZ (fun i => fo i * v i) i)), (6, .int .i64 (i : Int))], [])) (fun i => i ≤ 6) (fun i => 6 - i) (0) ρ0 ?_ ?_ ?_
  · exact ⟨⟨m_calg, (m_cvec (fun _ _ => rfl)), (by first | exact m_int rfl | exact m_int (by omega) | exact m_int (by simp; done) | (exact m_int (by simp; omega))), (by first | exact m_int rfl | exact m_int (by omega) | exact m_int (by simp; done) | (exact m_int (by simp; omega))), trivial⟩, trivial, trivial⟩
  · exact Nat.zero_le _
  intro i hi0
  refine sq (env2 := [(2, .cptr (algA p n T fo)), (3, .cptr (vecA v)), (5, .int .i64 (sumZ (fun i => fo i * v i) i)), (6, .int .i64 (i : Int))]) (ol2 := []) rfl rfl ?_
  have hac := form_acc hf hv (i := i) (by omega)
  have huv := uv_small hf hv i
  refine snd_seq ?_
  apply sr tokTB (by kernel_rfl)
  · intro RR hRR
    refine w_move (by constructor) ?_
    refine w_lss rfl rfl ?_
    exact hRR
  refine snd_cond _ rfl (fun hc8 => ?_) (fun hc8 => ?_)
  · try simp only [Bool.not_eq_true', Bool.not_eq_false', Bool.not_eq_true, Bool.not_eq_false, decide_eq_true_eq, decide_eq_false_iff_not, Int.not_lt, Int.not_le, Classical.not_not, ne_eq] at hc8
    have lt_i : i < 6 := by omega
    refine snd_skip ?_
    refine snd_seq ?_
    refine snd_block ?_
    apply ld tokTB mixed (by kernel_rfl) (by kernel_rfl)
    · intro RR hRR
      refine w_move (by constructor) ?_
      refine w_move (by constructor) ?_
      first | refine w_fac rfl und31 rfl kn29 nz29 (by decide) rfl (by constructor) ?_ | refine w_fap rfl und31 rfl kn29 nz29 rfl (by decide) rfl ?_
      first | refine w_iac rfl rfl und29 kn5 (by exact sz5.symm) ?_ rfl ?_ | refine w_iap rfl rfl und29 kn5 rfl (by exact sz5.symm) rfl ?_ ?_
      · exact ⟨by omega, by omega⟩
      first | refine w_ldc rfl kn5 (by constructor) (by exact sz5.symm) (by exact ag5.symm) ?_ | refine w_ldp rfl kn5 rfl (by constructor) (by exact sz5.symm) (by exact ag5.symm) ?_
      refine w_conv rfl und5 und2 (by exact w64b hf _) ?_
      refine w_move (by constructor) ?_
      first | refine w_iac rfl rfl und29 kn5 (by exact sz5.symm) ?_ rfl ?_ | refine w_iap rfl rfl und29 kn5 rfl (by exact sz5.symm) rfl ?_ ?_
      · exact ⟨by omega, by omega⟩
      first | refine w_ldc rfl kn5 (by constructor) (by exact sz5.symm) (by exact ag5.symm) ?_ | refine w_ldp rfl kn5 rfl (by constructor) (by exact sz5.symm) (by exact ag5.symm) ?_
      refine w_conv rfl und5 und2 (by exact w64b hv _) ?_
      refine w_mul rfl rfl (by exact w64 (n := fo i * v i) (by omega) (by omega)) ?_
      refine w_add rfl rfl (by exact w64 (n := sumZ (fun i => fo i * v i) i + fo i * v i) (by omega) (by omega)) ?_
      refine w_assign (by constructor) ?_
      exact hRR
    apply lr tokTB (by kernel_rfl)
    · intro RR hRR
      refine w_move (by constructor) ?_
      refine w_add rfl rfl (by first | exact w64 (by omega) (by omega) | exact w64b (by assumption) _ | exact w64t (by assumption) _ _ _ | exact rfl) ?_
      refine w_assign (by constructor) ?_
      exact hRR
    refine ⟨i + 1, ρ0, ?_, (by omega), (by dsimp only; omega)⟩
    exact ⟨⟨m_calg, (m_cvec (fun _ _ => rfl)), (by first | exact m_int rfl | exact m_int (by omega) | exact m_int (by simp; done) | (exact m_int (by simp; omega))), (by first | exact m_int rfl | exact m_int (by omega) | exact m_int (by simp; done) | (exact m_int (by simp; omega))), trivial⟩, trivial, trivial⟩
  · try simp only [Bool.not_eq_true', Bool.not_eq_false', Bool.not_eq_true, Bool.not_eq_false, decide_eq_true_eq, decide_eq_false_iff_not, Int.not_lt, Int.not_le, Classical.not_not, ne_eq] at hc8
    have ge_i : 6 = i := by omega
    subst ge_i
    refine snd_exit ?_
    apply sr tokTB (by kernel_rfl)
    · intro RR hRR
      refine w_move (by constructor) ?_
      first | refine w_fac rfl und31 rfl kn2 nz2 (by decide) rfl (by constructor) ?_ | refine w_fap rfl und31 rfl kn2 nz2 rfl (by decide) rfl ?_
      first | refine w_ldc rfl kn2 (by constructor) (by exact sz2.symm) (by exact ag2.symm) ?_ | refine w_ldp rfl kn2 rfl (by constructor) (by exact sz2.symm) (by exact ag2.symm) ?_
      refine w_rem rfl rfl (by first | assumption | omega) ?_
      refine w_assign (by constructor) ?_
      exact hRR
    refine snd_ret ?_
    exact rt (T := TB) (fun V => m_int (tmod_nn (form_acc hf hv (Nat.le_refl _)).1))
theorem c_form {p n : Int} {T : Nat → Nat → Nat → Int} {fo v : Nat → Int} (hp : 0 < p) (hf : B8 fo) (hv : B8 v) : ACalls Try.prog TB 55 [.cptr (algA p n T fo), vecA v] (.int .i64 (formF p fo v)) [] := by
  refine acalls_of tokTB Try.func55 rfl rfl (Nat.le_of_ble_eq_true rfl) ?_
  apply sr tokTB (by kernel_rfl)
  · intro RR hRR
    refine w_boxc (HV.eq (by constructor)) (by exact trivial) ?_
    refine w_assign (by constructor) ?_
    exact hRR
  apply sr tokTB (by kernel_rfl)
  · intro RR hRR
    refine w_assign (by constructor) ?_
    exact hRR
  refine snd_seq ?_
  apply sr tokTB (by kernel_rfl)
  · intro RR hRR
    first | refine w_ldc rfl kn29 (by constructor) (by exact sz29.symm) (by exact ag29.symm) ?_ | refine w_ldp rfl kn29 rfl (by constructor) (by exact sz29.symm) (by exact ag29.symm) ?_
    refine w_move (by constructor) ?_
    exact hRR
  refine snd_block ?_
  refine snd_loop (S := Nat) (fun i => ([(0, .cptr (algA p n T fo)), (5, .int .i64 (sumZ (fun i => v i * fo i) i)), (8, vecA v), (9, .int .i64 (i : Int))], [])) (fun i => i ≤ 6) (fun i => 6 - i) (0) ρ0 ?_ ?_ ?_
  · exact ⟨⟨m_calg, (by first | exact m_int rfl | exact m_int (by omega) | exact m_int (by simp; done) | (exact m_int (by simp; omega))), (m_vec (fun _ _ => rfl)), (by first | exact m_int rfl | exact m_int (by omega) | exact m_int (by simp; done) | (exact m_int (by simp; omega))), trivial⟩, trivial, trivial⟩
  · exact Nat.zero_le _
  intro i hi0
  refine sq (env2 := [(0, .cptr (algA p n T fo)), (5, .int .i64 (sumZ (fun i => v i * fo i) i)), (8, vecA v), (9, .int .i64 (i : Int))]) (ol2 := []) rfl rfl ?_
  have hac := form_acc hv hf (i := i) (by omega)
  have huv := uv_small hv hf i
  apply sr tokTB (by kernel_rfl)
  · intro RR hRR
    refine w_lss rfl rfl ?_
    exact hRR
  refine snd_seq ?_
  refine snd_cond _ rfl (fun hc10 => ?_) (fun hc10 => ?_)
  · try simp only [Bool.not_eq_true', Bool.not_eq_false', Bool.not_eq_true, Bool.not_eq_false, decide_eq_true_eq, decide_eq_false_iff_not, Int.not_lt, Int.not_le, Classical.not_not, ne_eq] at hc10
    have lt_i : i < 6 := by omega
    refine snd_skip ?_
    refine snd_seq ?_
    refine snd_block ?_
    apply sr tokTB (by kernel_rfl)
    · intro RR hRR
      refine w_move (by constructor) ?_
      refine w_ixa rfl rfl und29 kn5 (by exact sz5.symm) ?_ (by constructor) (by exact ag5.symm) ?_
      · exact ⟨by omega, by omega⟩
      refine w_assign (by constructor) ?_
      refine w_assign (by constructor) ?_
      exact hRR
    apply lr tokTB (by kernel_rfl)
    · intro RR hRR
      refine w_move (by constructor) ?_
      refine w_move (by constructor) ?_
      refine w_conv rfl und5 und2 (by exact w64b hv _) ?_
      refine w_move (by constructor) ?_
      refine w_move (by constructor) ?_
      first | refine w_nilc rfl ?_ | refine w_nilp rfl ?_ | refine w_nilf rfl ?_
      first | refine w_fac rfl und31 rfl kn29 nz29 (by decide) rfl (by constructor) ?_ | refine w_fap rfl und31 rfl kn29 nz29 rfl (by decide) rfl ?_
      first | refine w_iac rfl rfl und29 kn5 (by exact sz5.symm) ?_ rfl ?_ | refine w_iap rfl rfl und29 kn5 rfl (by exact sz5.symm) rfl ?_ ?_
      · exact ⟨by omega, by omega⟩
      first | refine w_ldc rfl kn5 (by constructor) (by exact sz5.symm) (by exact ag5.symm) ?_ | refine w_ldp rfl kn5 rfl (by constructor) (by exact sz5.symm) (by exact ag5.symm) ?_
      refine w_conv rfl und5 und2 (by exact w64b hf _) ?_
      refine w_mul rfl rfl (by exact w64 (n := v i * fo i) (by omega) (by omega)) ?_
      refine w_add rfl rfl (by exact w64 (n := sumZ (fun i => v i * fo i) i + v i * fo i) (by omega) (by omega)) ?_
      refine w_assign (by constructor) ?_
      exact hRR
    apply lr tokTB (by kernel_rfl)
    · intro RR hRR
      refine w_add rfl rfl (by first | exact w64 (by omega) (by omega) | exact w64b (by assumption) _ | exact w64t (by assumption) _ _ _ | exact rfl) ?_
      refine w_move (by constructor) ?_
      exact hRR
    refine ⟨i + 1, ρ0, ?_, (by omega), (by dsimp only; omega)⟩
    exact ⟨⟨m_calg, (by first | exact m_int rfl | exact m_int (by omega) | exact m_int (by simp; done) | (exact m_int (by simp; omega))), (m_vec (fun _ _ => rfl)), (by first | exact m_int rfl | exact m_int (by omega) | exact m_int (by simp; done) | (exact m_int (by simp; omega))), trivial⟩, trivial, trivial⟩
  · try simp only [Bool.not_eq_true', Bool.not_eq_false', Bool.not_eq_true, Bool.not_eq_false, decide_eq_true_eq, decide_eq_false_iff_not, Int.not_lt, Int.not_le, Classical.not_not, ne_eq] at hc10
    have ge_i : 6 = i := by omega
    subst ge_i
    refine snd_exit ?_
    apply sr tokTB (by kernel_rfl)
    · intro RR hRR
      refine w_move (by constructor) ?_
      refine w_move (by constructor) ?_
      first | refine w_nilc rfl ?_ | refine w_nilp rfl ?_ | refine w_nilf rfl ?_
      first | refine w_fac rfl und31 rfl kn2 nz2 (by decide) rfl (by constructor) ?_ | refine w_fap rfl und31 rfl kn2 nz2 rfl (by decide) rfl ?_
      first | refine w_ldc rfl kn2 (by constructor) (by exact sz2.symm) (by exact ag2.symm) ?_ | refine w_ldp rfl kn2 rfl (by constructor) (by exact sz2.symm) (by exact ag2.symm) ?_
      refine w_rem rfl rfl (by first | assumption | omega) ?_
      refine w_assign (by constructor) ?_
      exact hRR
    refine snd_ret ?_
    exact rt (T := TB) (fun V => m_int ((tmod_nn (form_acc hv hf (Nat.le_refl _)).1).trans formF_comm))
theorem c_l01Unit {p : Int} {n : Nat} {T : Nat → Nat → Nat → Int} {fo : Nat → Int} (hv : VN p n T fo) : ACalls Try.prog TB 56 [algA p (n : Int) T fo] (vecA (uF p n T)) [] := by
  refine acalls_of tokTB Try.func56 rfl rfl (Nat.le_of_ble_eq_true rfl) ?_
  apply sr tokTB (by kernel_rfl)
  · intro RR hRR
    refine w_boxc (HV.eq (by constructor)) (by exact trivial) ?_
    refine w_alloc kn29 rfl zr29 ?_
    exact hRR
  apply sr tokTB (by kernel_rfl)
  · intro RR hRR
    first | refine w_ldc rfl kn31 (by constructor) (by exact sz31.symm) (by exact ag31.symm) ?_ | refine w_ldp rfl kn31 rfl (by constructor) (by exact sz31.symm) (by exact ag31.symm) ?_
    refine w_call0 rfl (exc (by first | exact rfl | exact exp_alg | exact exp_calg | exact ex_vl | exact exp_closed (by assumption)) exn) (c_l01Find hv.hp hv.n0 hv.n6 hv.hT) (by first | exact trivial | exact fun _ => trivial | exact fun _ _ => trivial | exact fun _ _ _ => trivial | exact nr_alg | exact nr_pair (by first | exact trivial | exact fun _ => trivial | exact nr_alg) (by first | exact trivial | exact fun _ => trivial)) (fun _ => by first | exact rfl | exact shift_alg | exact shift_pair rfl rfl | exact shift_pair shift_alg rfl) ?_
    refine w_move (by constructor) ?_
    refine w_ext rfl (by decide) (by constructor) ?_
    refine w_ext rfl (by decide) (by constructor) ?_
    refine w_alloc kn29 rfl zr29 ?_
    first | refine w_stw rfl (by constructor) kn29 rfl (by exact trivial) (by first | exact trivial | exact ssh_vec | exact ssh_alg | exact ssh_tab | exact ssh_mat | exact ⟨rfl, fun _ => trivial⟩ | exact ⟨rfl, fun _ => by rw [zr29]; exact ssh_vec⟩) (by exact sz29.symm) ?_ | refine w_sti rfl rfl kn29 rfl (by exact trivial) (by exact sz29.symm) ?_ | refine w_store rfl (HV.eq (by constructor)) kn29 rfl (by exact trivial) (by first | exact trivial | exact ssh_vec | exact ssh_alg | exact ssh_tab | exact ssh_mat | exact ⟨rfl, fun _ => trivial⟩ | exact ⟨rfl, fun _ => by rw [zr29]; exact ssh_vec⟩) (by exact sz29.symm) (put_in (by first | exact put_mat | exact put_tab | exact put_alg0 | exact put_alg1 | exact put_alg2 | exact put_alg3 | exact put_alg3i | exact put_alg2ij | exact put_alg2ijk | exact put_mat2 | exact put_tab2 | exact put_tab3)) ?_ | refine w_store rfl (HV.eq (by constructor)) kn29 rfl (by exact trivial) (by exact trivial) (by exact sz29.symm) rfl ?_
    refine w_assign (by constructor) ?_
    exact hRR
  apply sr tokTB (by kernel_rfl)
  · intro RR hRR
    first | refine w_ldc rfl kn29 (by constructor) (by exact sz29.symm) (by exact ag29.symm) ?_ | refine w_ldp rfl kn29 rfl (by constructor) (by exact sz29.symm) (by exact ag29.symm) ?_
    first | refine w_stw rfl (by constructor) kn29 rfl (by exact trivial) (by first | exact trivial | exact ssh_vec | exact ssh_alg | exact ssh_tab | exact ssh_mat | exact ⟨rfl, fun _ => trivial⟩ | exact ⟨rfl, fun _ => by rw [zr29]; exact ssh_vec⟩) (by exact sz29.symm) ?_ | refine w_sti rfl rfl kn29 rfl (by exact trivial) (by exact sz29.symm) ?_ | refine w_store rfl (HV.eq (by constructor)) kn29 rfl (by exact trivial) (by first | exact trivial | exact ssh_vec | exact ssh_alg | exact ssh_tab | exact ssh_mat | exact ⟨rfl, fun _ => trivial⟩ | exact ⟨rfl, fun _ => by rw [zr29]; exact ssh_vec⟩) (by exact sz29.symm) (put_in (by first | exact put_mat | exact put_tab | exact put_alg0 | exact put_alg1 | exact put_alg2 | exact put_alg3 | exact put_alg3i | exact put_alg2ij | exact put_alg2ijk | exact put_mat2 | exact put_tab2 | exact put_tab3)) ?_ | refine w_store rfl (HV.eq (by constructor)) kn29 rfl (by exact trivial) (by exact trivial) (by exact sz29.symm) rfl ?_
    exact hRR
  refine snd_ret ?_
  exact rt_c (T := TB) rfl kn29 rfl sz29.symm ag29.symm (fun V => m_vec (fun j hj => rfl))
theorem c_unit {p : Int} {n : Nat} {T : Nat → Nat → Nat → Int} {fo : Nat → Int} (hv : VN p n T fo) : ACalls Try.prog TB 57 [.cptr (algA p (n : Int) T fo)] (vecA (uF p n T)) [] := by
  refine acalls_of tokTB Try.func57 rfl rfl (Nat.le_of_ble_eq_true rfl) ?_
  apply sr tokTB (by kernel_rfl)
  · intro RR hRR
    refine w_alloc kn29 rfl zr29 ?_
    exact hRR
  apply sr tokTB (by kernel_rfl)
  · intro RR hRR
    refine w_move (by constructor) ?_
    refine w_call0 rfl (exc (by first | exact rfl | exact exp_alg | exact exp_calg | exact ex_vl | exact exp_closed (by assumption)) exn) (c_findUnit hv.hp hv.n0 hv.n6 hv.hT) (by first | exact trivial | exact fun _ => trivial | exact fun _ _ => trivial | exact fun _ _ _ => trivial | exact nr_alg | exact nr_pair (by first | exact trivial | exact fun _ => trivial | exact nr_alg) (by first | exact trivial | exact fun _ => trivial)) (fun _ => by first | exact rfl | exact shift_alg | exact shift_pair rfl rfl | exact shift_pair shift_alg rfl) ?_
    refine w_move (by constructor) ?_
    refine w_ext rfl (by decide) (by constructor) ?_
    refine w_ext rfl (by decide) (by constructor) ?_
    refine w_alloc kn29 rfl zr29 ?_
    first | refine w_stw rfl (by constructor) kn29 rfl (by exact trivial) (by first | exact trivial | exact ssh_vec | exact ssh_alg | exact ssh_tab | exact ssh_mat | exact ⟨rfl, fun _ => trivial⟩ | exact ⟨rfl, fun _ => by rw [zr29]; exact ssh_vec⟩) (by exact sz29.symm) ?_ | refine w_sti rfl rfl kn29 rfl (by exact trivial) (by exact sz29.symm) ?_ | refine w_store rfl (HV.eq (by constructor)) kn29 rfl (by exact trivial) (by first | exact trivial | exact ssh_vec | exact ssh_alg | exact ssh_tab | exact ssh_mat | exact ⟨rfl, fun _ => trivial⟩ | exact ⟨rfl, fun _ => by rw [zr29]; exact ssh_vec⟩) (by exact sz29.symm) (put_in (by first | exact put_mat | exact put_tab | exact put_alg0 | exact put_alg1 | exact put_alg2 | exact put_alg3 | exact put_alg3i | exact put_alg2ij | exact put_alg2ijk | exact put_mat2 | exact put_tab2 | exact put_tab3)) ?_ | refine w_store rfl (HV.eq (by constructor)) kn29 rfl (by exact trivial) (by exact trivial) (by exact sz29.symm) rfl ?_
    refine w_assign (by constructor) ?_
    exact hRR
  apply sr tokTB (by kernel_rfl)
  · intro RR hRR
    first | refine w_ldc rfl kn29 (by constructor) (by exact sz29.symm) (by exact ag29.symm) ?_ | refine w_ldp rfl kn29 rfl (by constructor) (by exact sz29.symm) (by exact ag29.symm) ?_
    first | refine w_stw rfl (by constructor) kn29 rfl (by exact trivial) (by first | exact trivial | exact ssh_vec | exact ssh_alg | exact ssh_tab | exact ssh_mat | exact ⟨rfl, fun _ => trivial⟩ | exact ⟨rfl, fun _ => by rw [zr29]; exact ssh_vec⟩) (by exact sz29.symm) ?_ | refine w_sti rfl rfl kn29 rfl (by exact trivial) (by exact sz29.symm) ?_ | refine w_store rfl (HV.eq (by constructor)) kn29 rfl (by exact trivial) (by first | exact trivial | exact ssh_vec | exact ssh_alg | exact ssh_tab | exact ssh_mat | exact ⟨rfl, fun _ => trivial⟩ | exact ⟨rfl, fun _ => by rw [zr29]; exact ssh_vec⟩) (by exact sz29.symm) (put_in (by first | exact put_mat | exact put_tab | exact put_alg0 | exact put_alg1 | exact put_alg2 | exact put_alg3 | exact put_alg3i | exact put_alg2ij | exact put_alg2ijk | exact put_mat2 | exact put_tab2 | exact put_tab3)) ?_ | refine w_store rfl (HV.eq (by constructor)) kn29 rfl (by exact trivial) (by exact trivial) (by exact sz29.symm) rfl ?_
    exact hRR
  refine snd_ret ?_
  exact rt_c (T := TB) rfl kn29 rfl sz29.symm ag29.symm (fun V => m_vec (fun j hj => rfl))
end Go.Am
set_option linter.unusedVariables false
set_option linter.unusedSimpArgs false
set_option maxRecDepth 4000
namespace Go.Am
attribute [local irreducible] retQ
open Go.Proofs
theorem c_l01Vector {p n : Int} {T : Nat → Nat → Nat → Int} {fo : Nat → Int} {v : Nat → Int} (hv : B8 v) : ACalls Try.prog TB 69 [algA p n T fo, vecA v] (.bool (decide (smP p n v))) [] := by
  refine acalls_of tokTB Try.func69 rfl rfl (Nat.le_of_ble_eq_true rfl) ?_
  apply sr tokTB (by kernel_rfl)
  · intro RR hRR
    refine w_boxc (HV.eq (by constructor)) (by exact trivial) ?_
    refine w_boxc (HV.eq (by constructor)) (by exact trivial) ?_
    refine w_assign (by constructor) ?_
    exact hRR
  apply sr tokTB (by kernel_rfl)
  · intro RR hRR
    first | refine w_fac rfl und31 rfl kn2 nz2 (by decide) rfl (by constructor) ?_ | refine w_fap rfl und31 rfl kn2 nz2 rfl (by decide) rfl ?_
    first | refine w_ldc rfl kn2 (by constructor) (by exact sz2.symm) (by exact ag2.symm) ?_ | refine w_ldp rfl kn2 rfl (by constructor) (by exact sz2.symm) (by exact ag2.symm) ?_
    first | refine w_fac rfl und31 rfl kn2 nz2 (by decide) rfl (by constructor) ?_ | refine w_fap rfl und31 rfl kn2 nz2 rfl (by decide) rfl ?_
    first | refine w_ldc rfl kn2 (by constructor) (by exact sz2.symm) (by exact ag2.symm) ?_ | refine w_ldp rfl kn2 rfl (by constructor) (by exact sz2.symm) (by exact ag2.symm) ?_
    first | refine w_ldc rfl kn29 (by constructor) (by exact sz29.symm) (by exact ag29.symm) ?_ | refine w_ldp rfl kn29 rfl (by constructor) (by exact sz29.symm) (by exact ag29.symm) ?_
    refine w_call0 rfl (exc (by first | exact rfl | exact exp_alg | exact exp_calg | exact ex_vl | exact exp_closed (by assumption)) (exc (by first | exact rfl | exact exp_alg | exact exp_calg | exact ex_vl | exact exp_closed (by assumption)) (exc (by first | exact rfl | exact exp_alg | exact exp_calg | exact ex_vl | exact exp_closed (by assumption)) exn))) (c_l01Small (by assumption)) (by first | exact trivial | exact fun _ => trivial | exact fun _ _ => trivial | exact fun _ _ _ => trivial | exact nr_alg | exact nr_pair (by first | exact trivial | exact fun _ => trivial | exact nr_alg) (by first | exact trivial | exact fun _ => trivial)) (fun _ => by first | exact rfl | exact shift_alg | exact shift_pair rfl rfl | exact shift_pair shift_alg rfl) ?_
    refine w_assign (by constructor) ?_
    exact hRR
  refine snd_ret ?_
  exact rt (T := TB) (fun V => by first | exact m_bool rfl | exact m_int rfl)
theorem c_l01AlgebraN {p : Int} {n : Nat} {T : Nat → Nat → Nat → Int} {fo : Nat → Int} (hT : RB T) (hf : RV fo) : ACalls Try.prog TB 68 [algA p (n : Int) T fo] (.bool (decide (VA p n T fo))) [] := by
  refine acalls_of tokTB Try.func68 rfl rfl (Nat.le_of_ble_eq_true rfl) ?_
  apply sr tokTB (by kernel_rfl)
  · intro RR hRR
    refine w_boxc (HV.eq (by constructor)) (by exact trivial) ?_
    refine w_assign (by constructor) ?_
    exact hRR
  refine snd_seq ?_
  apply sr tokTB (by kernel_rfl)
  · intro RR hRR
    first | refine w_ldc rfl kn31 (by constructor) (by exact sz31.symm) (by exact ag31.symm) ?_ | refine w_ldp rfl kn31 rfl (by constructor) (by exact sz31.symm) (by exact ag31.symm) ?_
    refine w_call0 rfl (exc (by first | exact rfl | exact exp_alg | exact exp_calg | exact ex_vl | exact exp_closed (by assumption)) exn) (c_l01Shape hT.b hf.b) (by first | exact trivial | exact fun _ => trivial | exact fun _ _ => trivial | exact fun _ _ _ => trivial | exact nr_alg | exact nr_pair (by first | exact trivial | exact fun _ => trivial | exact nr_alg) (by first | exact trivial | exact fun _ => trivial)) (fun _ => by first | exact rfl | exact shift_alg | exact shift_pair rfl rfl | exact shift_pair shift_alg rfl) ?_
    refine w_not rfl ?_
    exact hRR
  refine snd_cond _ rfl (fun hc10 => ?_) (fun hc10 => ?_)
  · try simp only [Bool.not_eq_true', Bool.not_eq_false', Bool.not_eq_true, Bool.not_eq_false, decide_eq_true_eq, decide_eq_false_iff_not, Int.not_lt, Int.not_le, Classical.not_not, ne_eq] at hc10
    apply sr tokTB (by kernel_rfl)
    · intro RR hRR
      refine w_assign (by constructor) ?_
      exact hRR
    refine snd_ret ?_
    exact rt (T := TB) (fun V => m_bool (by symm; rw [decide_eq_false_iff_not]; exact fun h => hc10 h.1))
  · try simp only [Bool.not_eq_true', Bool.not_eq_false', Bool.not_eq_true, Bool.not_eq_false, decide_eq_true_eq, decide_eq_false_iff_not, Int.not_lt, Int.not_le, Classical.not_not, ne_eq] at hc10
    obtain ⟨h1, h2, h3, h4⟩ := shape_iff.1 hc10
    have hpb := primeB_bd h1
    refine snd_skip ?_
    refine snd_seq ?_
    apply sr tokTB (by kernel_rfl)
    · intro RR hRR
      refine w_assign (by constructor) ?_
      exact hRR
    refine snd_block ?_
    refine snd_loop (S := Nat) (fun i => ([(1, .cptr (algA p (n : Int) T fo)), (3, .int .i64 (i : Int))], [])) (fun i => i ≤ n ∧ (∀ a, a < i → ∀ b, b < n → ∀ c, c < n → assocG p n T a b c)) (fun i => n - i) (0) ρ0 ?_ ?_ ?_
    · exact ⟨⟨m_calg, (by first | exact m_int rfl | exact m_int (by omega) | exact m_int (by simp; done) | (exact m_int (by simp; omega))), trivial⟩, trivial, trivial⟩
    · exact ⟨Nat.zero_le _, fun j hj => absurd hj (Nat.not_lt_zero _)⟩
    intro i hi0
    refine sq (env2 := [(1, .cptr (algA p (n : Int) T fo)), (3, .int .i64 (i : Int))]) (ol2 := []) rfl rfl ?_
    obtain ⟨le_i, inv_i⟩ := hi0
    refine snd_seq ?_
    apply sr tokTB (by kernel_rfl)
    · intro RR hRR
      refine w_move (by constructor) ?_
      first | refine w_fac rfl und31 rfl kn2 nz2 (by decide) rfl (by constructor) ?_ | refine w_fap rfl und31 rfl kn2 nz2 rfl (by decide) rfl ?_
      first | refine w_ldc rfl kn2 (by constructor) (by exact sz2.symm) (by exact ag2.symm) ?_ | refine w_ldp rfl kn2 rfl (by constructor) (by exact sz2.symm) (by exact ag2.symm) ?_
      refine w_lss rfl rfl ?_
      exact hRR
    refine snd_cond _ rfl (fun hc14 => ?_) (fun hc14 => ?_)
    · try simp only [Bool.not_eq_true', Bool.not_eq_false', Bool.not_eq_true, Bool.not_eq_false, decide_eq_true_eq, decide_eq_false_iff_not, Int.not_lt, Int.not_le, Classical.not_not, ne_eq] at hc14
      have lt_i : i < n := by omega
      refine snd_skip ?_
      refine snd_seq ?_
      refine snd_block ?_
      apply sr tokTB (by kernel_rfl)
      · intro RR hRR
        refine w_assign (by constructor) ?_
        exact hRR
      refine snd_block ?_
      refine snd_loop (S := Nat) (fun j => ([(1, .cptr (algA p (n : Int) T fo)), (3, .int .i64 (i : Int)), (4, .int .i64 (j : Int))], [])) (fun j => j ≤ n ∧ (∀ b, b < j → ∀ c, c < n → assocG p n T i b c)) (fun j => n - j) (0) ρ0 ?_ ?_ ?_
      · exact ⟨⟨m_calg, (by first | exact m_int rfl | exact m_int (by omega) | exact m_int (by simp; done) | (exact m_int (by simp; omega))), (by first | exact m_int rfl | exact m_int (by omega) | exact m_int (by simp; done) | (exact m_int (by simp; omega))), trivial⟩, trivial, trivial⟩
      · exact ⟨Nat.zero_le _, fun j hj => absurd hj (Nat.not_lt_zero _)⟩
      intro j hi2
      refine sq (env2 := [(1, .cptr (algA p (n : Int) T fo)), (3, .int .i64 (i : Int)), (4, .int .i64 (j : Int))]) (ol2 := []) rfl rfl ?_
      obtain ⟨le_j, inv_j⟩ := hi2
      refine snd_seq ?_
      apply sr tokTB (by kernel_rfl)
      · intro RR hRR
        refine w_move (by constructor) ?_
        first | refine w_fac rfl und31 rfl kn2 nz2 (by decide) rfl (by constructor) ?_ | refine w_fap rfl und31 rfl kn2 nz2 rfl (by decide) rfl ?_
        first | refine w_ldc rfl kn2 (by constructor) (by exact sz2.symm) (by exact ag2.symm) ?_ | refine w_ldp rfl kn2 rfl (by constructor) (by exact sz2.symm) (by exact ag2.symm) ?_
        refine w_lss rfl rfl ?_
        exact hRR
      refine snd_cond _ rfl (fun hc20 => ?_) (fun hc20 => ?_)
      · try simp only [Bool.not_eq_true', Bool.not_eq_false', Bool.not_eq_true, Bool.not_eq_false, decide_eq_true_eq, decide_eq_false_iff_not, Int.not_lt, Int.not_le, Classical.not_not, ne_eq] at hc20
        have lt_j : j < n := by omega
        refine snd_skip ?_
        refine snd_seq ?_
        refine snd_block ?_
        apply sr tokTB (by kernel_rfl)
        · intro RR hRR
          refine w_assign (by constructor) ?_
          exact hRR
        refine snd_block ?_
        refine snd_loop (S := Nat) (fun k => ([(1, .cptr (algA p (n : Int) T fo)), (3, .int .i64 (i : Int)), (4, .int .i64 (j : Int)), (5, .int .i64 (k : Int))], [])) (fun k => k ≤ n ∧ (∀ c, c < k → assocG p n T i j c)) (fun k => n - k) (0) ρ0 ?_ ?_ ?_
        · exact ⟨⟨m_calg, (by first | exact m_int rfl | exact m_int (by omega) | exact m_int (by simp; done) | (exact m_int (by simp; omega))), (by first | exact m_int rfl | exact m_int (by omega) | exact m_int (by simp; done) | (exact m_int (by simp; omega))), (by first | exact m_int rfl | exact m_int (by omega) | exact m_int (by simp; done) | (exact m_int (by simp; omega))), trivial⟩, trivial, trivial⟩
        · exact ⟨Nat.zero_le _, fun j hj => absurd hj (Nat.not_lt_zero _)⟩
        intro k hi4
        refine sq (env2 := [(1, .cptr (algA p (n : Int) T fo)), (3, .int .i64 (i : Int)), (4, .int .i64 (j : Int)), (5, .int .i64 (k : Int))]) (ol2 := []) rfl rfl ?_
        obtain ⟨le_k, inv_k⟩ := hi4
        refine snd_seq ?_
        apply sr tokTB (by kernel_rfl)
        · intro RR hRR
          refine w_move (by constructor) ?_
          first | refine w_fac rfl und31 rfl kn2 nz2 (by decide) rfl (by constructor) ?_ | refine w_fap rfl und31 rfl kn2 nz2 rfl (by decide) rfl ?_
          first | refine w_ldc rfl kn2 (by constructor) (by exact sz2.symm) (by exact ag2.symm) ?_ | refine w_ldp rfl kn2 rfl (by constructor) (by exact sz2.symm) (by exact ag2.symm) ?_
          refine w_lss rfl rfl ?_
          exact hRR
        refine snd_cond _ rfl (fun hc26 => ?_) (fun hc26 => ?_)
        · try simp only [Bool.not_eq_true', Bool.not_eq_false', Bool.not_eq_true, Bool.not_eq_false, decide_eq_true_eq, decide_eq_false_iff_not, Int.not_lt, Int.not_le, Classical.not_not, ne_eq] at hc26
          have lt_k : k < n := by omega
          refine snd_skip ?_
          refine snd_seq ?_
          refine snd_block ?_
          apply sd tokTB mixed (by kernel_rfl) (by kernel_rfl)
          · intro RR hRR
            first | refine w_ldc rfl kn31 (by constructor) (by exact sz31.symm) (by exact ag31.symm) ?_ | refine w_ldp rfl kn31 rfl (by constructor) (by exact sz31.symm) (by exact ag31.symm) ?_
            refine w_move (by constructor) ?_
            refine w_move (by constructor) ?_
            first | refine w_fac rfl und31 rfl kn24 nz24 (by decide) rfl (by constructor) ?_ | refine w_fap rfl und31 rfl kn24 nz24 rfl (by decide) rfl ?_
            first | refine w_iac rfl rfl und24 kn23 (by exact sz23.symm) ?_ rfl ?_ | refine w_iap rfl rfl und24 kn23 rfl (by exact sz23.symm) rfl ?_ ?_
            · exact ⟨by omega, by omega⟩
            first | refine w_iac rfl rfl und23 kn22 (by exact sz22.symm) ?_ rfl ?_ | refine w_iap rfl rfl und23 kn22 rfl (by exact sz22.symm) rfl ?_ ?_
            · exact ⟨by omega, by omega⟩
            first | refine w_ldc rfl kn22 (by constructor) (by exact sz22.symm) (by exact ag22.symm) ?_ | refine w_ldp rfl kn22 rfl (by constructor) (by exact sz22.symm) (by exact ag22.symm) ?_
            refine w_move (by constructor) ?_
            refine w_call0 rfl (exc (by first | exact rfl | exact exp_alg | exact exp_calg | exact ex_vl | exact exp_closed (by assumption)) exn) (c_l01Basis (by omega)) (by first | exact trivial | exact fun _ => trivial | exact fun _ _ => trivial | exact fun _ _ _ => trivial | exact nr_alg | exact nr_pair (by first | exact trivial | exact fun _ => trivial | exact nr_alg) (by first | exact trivial | exact fun _ => trivial)) (fun _ => by first | exact rfl | exact shift_alg | exact shift_pair rfl rfl | exact shift_pair shift_alg rfl) ?_
            refine w_call0 rfl (exc (by first | exact rfl | exact exp_alg | exact exp_calg | exact ex_vl | exact exp_closed (by assumption)) (exc (by first | exact rfl | exact exp_alg | exact exp_calg | exact ex_vl | exact exp_closed (by assumption)) (exc (by first | exact rfl | exact exp_alg | exact exp_calg | exact ex_vl | exact exp_closed (by assumption)) exn))) (c_l01Times (u := T i j) (v := eF k) (by omega) (by omega) (by omega) hT.b (hT.b i j) (eF_B8 k)) (by first | exact trivial | exact fun _ => trivial | exact fun _ _ => trivial | exact fun _ _ _ => trivial | exact nr_alg | exact nr_pair (by first | exact trivial | exact fun _ => trivial | exact nr_alg) (by first | exact trivial | exact fun _ => trivial)) (fun _ => by first | exact rfl | exact shift_alg | exact shift_pair rfl rfl | exact shift_pair shift_alg rfl) ?_
            first | refine w_ldc rfl kn31 (by constructor) (by exact sz31.symm) (by exact ag31.symm) ?_ | refine w_ldp rfl kn31 rfl (by constructor) (by exact sz31.symm) (by exact ag31.symm) ?_
            refine w_move (by constructor) ?_
            refine w_call0 rfl (exc (by first | exact rfl | exact exp_alg | exact exp_calg | exact ex_vl | exact exp_closed (by assumption)) exn) (c_l01Basis (by omega)) (by first | exact trivial | exact fun _ => trivial | exact fun _ _ => trivial | exact fun _ _ _ => trivial | exact nr_alg | exact nr_pair (by first | exact trivial | exact fun _ => trivial | exact nr_alg) (by first | exact trivial | exact fun _ => trivial)) (fun _ => by first | exact rfl | exact shift_alg | exact shift_pair rfl rfl | exact shift_pair shift_alg rfl) ?_
            refine w_move (by constructor) ?_
            refine w_move (by constructor) ?_
            first | refine w_fac rfl und31 rfl kn24 nz24 (by decide) rfl (by constructor) ?_ | refine w_fap rfl und31 rfl kn24 nz24 rfl (by decide) rfl ?_
            first | refine w_iac rfl rfl und24 kn23 (by exact sz23.symm) ?_ rfl ?_ | refine w_iap rfl rfl und24 kn23 rfl (by exact sz23.symm) rfl ?_ ?_
            · exact ⟨by omega, by omega⟩
            first | refine w_iac rfl rfl und23 kn22 (by exact sz22.symm) ?_ rfl ?_ | refine w_iap rfl rfl und23 kn22 rfl (by exact sz22.symm) rfl ?_ ?_
            · exact ⟨by omega, by omega⟩
            first | refine w_ldc rfl kn22 (by constructor) (by exact sz22.symm) (by exact ag22.symm) ?_ | refine w_ldp rfl kn22 rfl (by constructor) (by exact sz22.symm) (by exact ag22.symm) ?_
            refine w_call0 rfl (exc (by first | exact rfl | exact exp_alg | exact exp_calg | exact ex_vl | exact exp_closed (by assumption)) (exc (by first | exact rfl | exact exp_alg | exact exp_calg | exact ex_vl | exact exp_closed (by assumption)) (exc (by first | exact rfl | exact exp_alg | exact exp_calg | exact ex_vl | exact exp_closed (by assumption)) exn))) (c_l01Times (u := eF i) (v := T j k) (by omega) (by omega) (by omega) hT.b (eF_B8 i) (hT.b j k)) (by first | exact trivial | exact fun _ => trivial | exact fun _ _ => trivial | exact fun _ _ _ => trivial | exact nr_alg | exact nr_pair (by first | exact trivial | exact fun _ => trivial | exact nr_alg) (by first | exact trivial | exact fun _ => trivial)) (fun _ => by first | exact rfl | exact shift_alg | exact shift_pair rfl rfl | exact shift_pair shift_alg rfl) ?_
            refine w_aneq rfl rfl und29 und5 ?_
            exact hRR
          refine snd_cond _ rfl (fun hc49 => ?_) (fun hc49 => ?_)
          · skip
            apply sr tokTB (by kernel_rfl)
            · intro RR hRR
              refine w_assign (by constructor) ?_
              exact hRR
            refine snd_ret ?_
            exact rt (T := TB) (fun V => m_bool (by symm; rw [decide_eq_false_iff_not]; intro h; exact of_decide_eq_true (p := ¬ eqN 6 _ _) hc49 (h.2.1 i (by omega) j (by omega) k (by omega))))
          · skip
            refine snd_skip ?_
            apply lr tokTB (by kernel_rfl)
            · intro RR hRR
              refine w_move (by constructor) ?_
              refine w_add rfl rfl (by first | exact w64 (by omega) (by omega) | exact w64b (by assumption) _ | exact w64t (by assumption) _ _ _ | exact rfl) ?_
              refine w_assign (by constructor) ?_
              exact hRR
            refine ⟨k + 1, ρ0, ?_, ⟨by omega, all_step inv_k (Classical.not_not.1 (of_decide_eq_false (p := ¬ eqN 6 _ _) hc49))⟩, (by dsimp only; omega)⟩
            exact ⟨⟨m_calg, (by first | exact m_int rfl | exact m_int (by omega) | exact m_int (by simp; done) | (exact m_int (by simp; omega))), (by first | exact m_int rfl | exact m_int (by omega) | exact m_int (by simp; done) | (exact m_int (by simp; omega))), (by first | exact m_int rfl | exact m_int (by omega) | exact m_int (by simp; done) | (exact m_int (by simp; omega))), trivial⟩, trivial, trivial⟩
        · try simp only [Bool.not_eq_true', Bool.not_eq_false', Bool.not_eq_true, Bool.not_eq_false, decide_eq_true_eq, decide_eq_false_iff_not, Int.not_lt, Int.not_le, Classical.not_not, ne_eq] at hc26
          have ge_k : k = n := by omega
          refine snd_exit ?_
          apply lr tokTB (by kernel_rfl)
          · intro RR hRR
            refine w_move (by constructor) ?_
            refine w_add rfl rfl (by first | exact w64 (by omega) (by omega) | exact w64b (by assumption) _ | exact w64t (by assumption) _ _ _ | exact rfl) ?_
            refine w_assign (by constructor) ?_
            exact hRR
          refine ⟨j + 1, ρ0, ?_, ⟨by omega, all_step inv_j (fun b hb => inv_k b (by omega))⟩, (by dsimp only; omega)⟩
          exact ⟨⟨m_calg, (by first | exact m_int rfl | exact m_int (by omega) | exact m_int (by simp; done) | (exact m_int (by simp; omega))), (by first | exact m_int rfl | exact m_int (by omega) | exact m_int (by simp; done) | (exact m_int (by simp; omega))), trivial⟩, trivial, trivial⟩
      · try simp only [Bool.not_eq_true', Bool.not_eq_false', Bool.not_eq_true, Bool.not_eq_false, decide_eq_true_eq, decide_eq_false_iff_not, Int.not_lt, Int.not_le, Classical.not_not, ne_eq] at hc20
        have ge_j : j = n := by omega
        refine snd_exit ?_
        apply lr tokTB (by kernel_rfl)
        · intro RR hRR
          refine w_move (by constructor) ?_
          refine w_add rfl rfl (by first | exact w64 (by omega) (by omega) | exact w64b (by assumption) _ | exact w64t (by assumption) _ _ _ | exact rfl) ?_
          refine w_assign (by constructor) ?_
          exact hRR
        refine ⟨i + 1, ρ0, ?_, ⟨by omega, all_step inv_i (fun b hb => inv_j b (by omega))⟩, (by dsimp only; omega)⟩
        exact ⟨⟨m_calg, (by first | exact m_int rfl | exact m_int (by omega) | exact m_int (by simp; done) | (exact m_int (by simp; omega))), trivial⟩, trivial, trivial⟩
    · try simp only [Bool.not_eq_true', Bool.not_eq_false', Bool.not_eq_true, Bool.not_eq_false, decide_eq_true_eq, decide_eq_false_iff_not, Int.not_lt, Int.not_le, Classical.not_not, ne_eq] at hc14
      have ge_i : i = n := by omega
      refine snd_exit ?_
      apply sr tokTB (by kernel_rfl)
      · intro RR hRR
        first | refine w_ldc rfl kn31 (by constructor) (by exact sz31.symm) (by exact ag31.symm) ?_ | refine w_ldp rfl kn31 rfl (by constructor) (by exact sz31.symm) (by exact ag31.symm) ?_
        refine w_call0 rfl (exc (by first | exact rfl | exact exp_alg | exact exp_calg | exact ex_vl | exact exp_closed (by assumption)) exn) (c_l01Find h1 (by omega) (by omega) (BpT_of hT hc10)) (by first | exact trivial | exact fun _ => trivial | exact fun _ _ => trivial | exact fun _ _ _ => trivial | exact nr_alg | exact nr_pair (by first | exact trivial | exact fun _ => trivial | exact nr_alg) (by first | exact trivial | exact fun _ => trivial)) (fun _ => by first | exact rfl | exact shift_alg | exact shift_pair rfl rfl | exact shift_pair shift_alg rfl) ?_
        refine w_move (by constructor) ?_
        refine w_ext rfl (by decide) (by constructor) ?_
        refine w_ext rfl (by decide) (by constructor) ?_
        refine w_alloc kn29 rfl zr29 ?_
        first | refine w_stw rfl (by constructor) kn29 rfl (by exact trivial) (by first | exact trivial | exact ssh_vec | exact ssh_alg | exact ssh_tab | exact ssh_mat | exact ⟨rfl, fun _ => trivial⟩ | exact ⟨rfl, fun _ => by rw [zr29]; exact ssh_vec⟩) (by exact sz29.symm) ?_ | refine w_sti rfl rfl kn29 rfl (by exact trivial) (by exact sz29.symm) ?_ | refine w_store rfl (HV.eq (by constructor)) kn29 rfl (by exact trivial) (by first | exact trivial | exact ssh_vec | exact ssh_alg | exact ssh_tab | exact ssh_mat | exact ⟨rfl, fun _ => trivial⟩ | exact ⟨rfl, fun _ => by rw [zr29]; exact ssh_vec⟩) (by exact sz29.symm) (put_in (by first | exact put_mat | exact put_tab | exact put_alg0 | exact put_alg1 | exact put_alg2 | exact put_alg3 | exact put_alg3i | exact put_alg2ij | exact put_alg2ijk | exact put_mat2 | exact put_tab2 | exact put_tab3)) ?_ | refine w_store rfl (HV.eq (by constructor)) kn29 rfl (by exact trivial) (by exact trivial) (by exact sz29.symm) rfl ?_
        refine w_assign (by constructor) ?_
        exact hRR
      apply sr tokTB (by kernel_rfl)
      · intro RR hRR
        refine w_move (by constructor) ?_
        refine w_assign (by constructor) ?_
        exact hRR
      refine snd_ret ?_
      exact rt (T := TB) (fun V => m_bool (decide_eq_decide.2 ⟨fun h => ⟨hc10, fun a ha b hb c hc => inv_i a (by omega) b (by omega) c (by omega), h⟩, fun h => h.2.2⟩))
theorem c_l01Algebra0 {p n : Int} {T : Nat → Nat → Nat → Int} {fo : Nat → Int} (hT : RB T) (hf : RV fo) (hn : n < 0) : ACalls Try.prog TB 68 [algA p n T fo] (.bool (decide (VA p n T fo))) [] := by
  refine acalls_of tokTB Try.func68 rfl rfl (Nat.le_of_ble_eq_true rfl) ?_
  apply sr tokTB (by kernel_rfl)
  · intro RR hRR
    refine w_boxc (HV.eq (by constructor)) (by exact trivial) ?_
    refine w_assign (by constructor) ?_
    exact hRR
  refine snd_seq ?_
  apply sr tokTB (by kernel_rfl)
  · intro RR hRR
    first | refine w_ldc rfl kn31 (by constructor) (by exact sz31.symm) (by exact ag31.symm) ?_ | refine w_ldp rfl kn31 rfl (by constructor) (by exact sz31.symm) (by exact ag31.symm) ?_
    refine w_call0 rfl (exc (by first | exact rfl | exact exp_alg | exact exp_calg | exact ex_vl | exact exp_closed (by assumption)) exn) (c_l01Shape hT.b hf.b) (by first | exact trivial | exact fun _ => trivial | exact fun _ _ => trivial | exact fun _ _ _ => trivial | exact nr_alg | exact nr_pair (by first | exact trivial | exact fun _ => trivial | exact nr_alg) (by first | exact trivial | exact fun _ => trivial)) (fun _ => by first | exact rfl | exact shift_alg | exact shift_pair rfl rfl | exact shift_pair shift_alg rfl) ?_
    refine w_not rfl ?_
    exact hRR
  refine snd_cond_true (by exact congrArg AV.bool (by rw [decide_eq_false (shape_neg hn)]; rfl)) ?_
  apply sr tokTB (by kernel_rfl)
  · intro RR hRR
    refine w_assign (by constructor) ?_
    exact hRR
  refine snd_ret ?_
  exact rt (T := TB) (fun V => m_bool (by symm; rw [decide_eq_false_iff_not]; exact VA_neg hn))
theorem c_l01Algebra {p n : Int} {T : Nat → Nat → Nat → Int} {fo : Nat → Int} (hT : RB T) (hf : RV fo) : ACalls Try.prog TB 68 [algA p n T fo] (.bool (decide (VA p n T fo))) [] := by
  rcases Int.lt_or_le n 0 with h | h
  · exact c_l01Algebra0 hT hf h
  · obtain ⟨m, rfl⟩ := Int.eq_ofNat_of_zero_le h
    exact c_l01AlgebraN hT hf
theorem c_IsAlgebraN {p : Int} {n : Nat} {T : Nat → Nat → Nat → Int} {fo : Nat → Int} (hT : RB T) (hf : RV fo) : ACalls Try.prog TB 71 [algA p (n : Int) T fo] (.bool (decide (VA p n T fo))) [] := by
  refine acalls_of tokTB Try.func71 rfl rfl (Nat.le_of_ble_eq_true rfl) ?_
  apply sr tokTB (by kernel_rfl)
  · intro RR hRR
    refine w_boxc (HV.eq (by constructor)) (by exact trivial) ?_
    refine w_assign (by constructor) ?_
    exact hRR
  refine snd_seq ?_
  apply srG (env' := (22, .bool (((!(primeB p) || !(decide (1 ≤ (n : Int)) && decide ((n : Int) ≤ 6))) || !(decide (tabP p n T fo))) || !(decide (assocP p n T)))) :: (21, .any) :: (20, .any) :: (19, .bool ((!(primeB p) || !(decide (1 ≤ (n : Int)) && decide ((n : Int) ≤ 6))) || !(decide (tabP p n T fo)))) :: (18, .bool ((!(primeB p) || !(decide (1 ≤ (n : Int)) && decide ((n : Int) ≤ 6))) || !(decide (tabP p n T fo)))) :: (17, .any) :: (16, .any) :: (15, .bool (!(primeB p) || !(decide (1 ≤ (n : Int)) && decide ((n : Int) ≤ 6)))) :: (14, .bool (!(primeB p) || !(decide (1 ≤ (n : Int)) && decide ((n : Int) ≤ 6)))) :: (13, .any) :: (12, .any) :: (11, .any) :: (10, .any) :: (9, _) :: (8, _) :: (7, _) :: (6, _) :: (5, _) :: _) tokTB (by kernel_rfl)
  · intro RR hRR
    first | refine w_fac rfl und31 rfl kn2 nz2 (by decide) rfl (by constructor) ?_ | refine w_fap rfl und31 rfl kn2 nz2 rfl (by decide) rfl ?_
    first | refine w_ldc rfl kn2 (by constructor) (by exact sz2.symm) (by exact ag2.symm) ?_ | refine w_ldp rfl kn2 rfl (by constructor) (by exact sz2.symm) (by exact ag2.symm) ?_
    refine w_call0 rfl (exc (by first | exact rfl | exact exp_alg | exact exp_calg | exact ex_vl | exact exp_closed (by assumption)) exn) (c_isPrime) (by first | exact trivial | exact fun _ => trivial | exact fun _ _ => trivial | exact fun _ _ _ => trivial | exact nr_alg | exact nr_pair (by first | exact trivial | exact fun _ => trivial | exact nr_alg) (by first | exact trivial | exact fun _ => trivial)) (fun _ => by first | exact rfl | exact shift_alg | exact shift_pair rfl rfl | exact shift_pair shift_alg rfl) ?_
    refine w_not rfl ?_
    refine w_move (by constructor) ?_
    refine w_g rfl rfl (fun hg4 => ?_) (fun hg4 => ?_)
    · skip
      first | refine w_fac rfl und31 rfl kn2 nz2 (by decide) rfl (by constructor) ?_ | refine w_fap rfl und31 rfl kn2 nz2 rfl (by decide) rfl ?_
      refine w_g_on rfl rfl hg4 ?_
      first | refine w_ldc rfl kn2 (by constructor) (by exact sz2.symm) (by exact ag2.symm) ?_ | refine w_ldp rfl kn2 rfl (by constructor) (by exact sz2.symm) (by exact ag2.symm) ?_
      refine w_g_on rfl rfl hg4 ?_
      refine w_call0 rfl (exc (by first | exact rfl | exact exp_alg | exact exp_calg | exact ex_vl | exact exp_closed (by assumption)) (exc (by first | exact rfl | exact exp_alg | exact exp_calg | exact ex_vl | exact exp_closed (by assumption)) (exc (by first | exact rfl | exact exp_alg | exact exp_calg | exact ex_vl | exact exp_closed (by assumption)) exn))) (c_in) (by first | exact trivial | exact fun _ => trivial | exact fun _ _ => trivial | exact fun _ _ _ => trivial | exact nr_alg | exact nr_pair (by first | exact trivial | exact fun _ => trivial | exact nr_alg) (by first | exact trivial | exact fun _ => trivial)) (fun _ => by first | exact rfl | exact shift_alg | exact shift_pair rfl rfl | exact shift_pair shift_alg rfl) ?_
      refine w_g_on rfl rfl hg4 ?_
      refine w_not rfl ?_
      refine w_pick_0 rfl hg4 (by constructor) ?_
      refine w_move (by constructor) ?_
      refine w_g rfl rfl (fun hg10 => ?_) (fun hg10 => ?_)
      · skip
        refine w_call0 rfl (exc (by first | exact rfl | exact exp_alg | exact exp_calg | exact ex_vl | exact exp_closed (by assumption)) exn) (c_tableOk hT.b hf.b) (by first | exact trivial | exact fun _ => trivial | exact fun _ _ => trivial | exact fun _ _ _ => trivial | exact nr_alg | exact nr_pair (by first | exact trivial | exact fun _ => trivial | exact nr_alg) (by first | exact trivial | exact fun _ => trivial)) (fun _ => by first | exact rfl | exact shift_alg | exact shift_pair rfl rfl | exact shift_pair shift_alg rfl) ?_
        refine w_g_on rfl rfl hg10 ?_
        refine w_not rfl ?_
        refine w_pick_0 rfl hg10 (by constructor) ?_
        refine w_move (by constructor) ?_
        refine w_g rfl rfl (fun hg14 => ?_) (fun hg14 => ?_)
        · skip
          refine w_call0 rfl (exc (by first | exact rfl | exact exp_alg | exact exp_calg | exact ex_vl | exact exp_closed (by assumption)) exn) (c_associative (p := p) (n := n) (T := T) (by simp only [Bool.not_eq_false'] at hg4; have := primeB_bd hg4; omega) (by simp only [Bool.not_eq_false'] at hg4; have := primeB_bd hg4; omega) (by simp only [Bool.not_eq_false', Bool.and_eq_true, decide_eq_true_eq] at hg10; omega) hT.b) (by first | exact trivial | exact fun _ => trivial | exact fun _ _ => trivial | exact fun _ _ _ => trivial | exact nr_alg | exact nr_pair (by first | exact trivial | exact fun _ => trivial | exact nr_alg) (by first | exact trivial | exact fun _ => trivial)) (fun _ => by first | exact rfl | exact shift_alg | exact shift_pair rfl rfl | exact shift_pair shift_alg rfl) ?_
          refine w_g_on rfl rfl hg14 ?_
          refine w_not rfl ?_
          refine w_pick_0 rfl hg14 (by constructor) ?_
          try simp only [Int.toNat_natCast] at hg4 hg10 hg14
          exact hRR _ (EL.cons (.inr (by first | rfl | (simp only [hg4, hg10, hg14, Bool.true_or, Bool.false_or, Bool.true_and, Bool.false_and, Bool.or_true, Bool.or_false]; done) | (simp only [hg4, hg10, hg14, Bool.true_or, Bool.false_or, Bool.true_and, Bool.false_and, Bool.or_true, Bool.or_false]; rfl) | simp [hg4, hg10, hg14])) (EL.cons (.inl rfl) (EL.cons (.inl rfl) (EL.cons (.inr (by first | rfl | (simp only [hg4, hg10, hg14, Bool.true_or, Bool.false_or, Bool.true_and, Bool.false_and, Bool.or_true, Bool.or_false]; done) | (simp only [hg4, hg10, hg14, Bool.true_or, Bool.false_or, Bool.true_and, Bool.false_and, Bool.or_true, Bool.or_false]; rfl) | simp [hg4, hg10, hg14])) (EL.cons (.inr (by first | rfl | (simp only [hg4, hg10, hg14, Bool.true_or, Bool.false_or, Bool.true_and, Bool.false_and, Bool.or_true, Bool.or_false]; done) | (simp only [hg4, hg10, hg14, Bool.true_or, Bool.false_or, Bool.true_and, Bool.false_and, Bool.or_true, Bool.or_false]; rfl) | simp [hg4, hg10, hg14])) (EL.cons (.inl rfl) (EL.cons (.inl rfl) (EL.cons (.inr (by first | rfl | (simp only [hg4, hg10, hg14, Bool.true_or, Bool.false_or, Bool.true_and, Bool.false_and, Bool.or_true, Bool.or_false]; done) | (simp only [hg4, hg10, hg14, Bool.true_or, Bool.false_or, Bool.true_and, Bool.false_and, Bool.or_true, Bool.or_false]; rfl) | simp [hg4, hg10, hg14])) (EL.cons (.inr (by first | rfl | (simp only [hg4, hg10, hg14, Bool.true_or, Bool.false_or, Bool.true_and, Bool.false_and, Bool.or_true, Bool.or_false]; done) | (simp only [hg4, hg10, hg14, Bool.true_or, Bool.false_or, Bool.true_and, Bool.false_and, Bool.or_true, Bool.or_false]; rfl) | simp [hg4, hg10, hg14])) (EL.cons (.inl rfl) (EL.cons (.inl rfl) (EL.cons (.inl rfl) (EL.cons (.inl rfl) (EL.cons (.inr rfl) (EL.cons (.inr rfl) (EL.cons (.inr rfl) (EL.cons (.inr rfl) (EL.cons (.inr rfl) (EL.refl _)))))))))))))))))))
        · have hg14 := eq_true_of_ne_false hg14
          refine w_g_off rfl rfl (by rw [hg14]; decide) ?_
          refine w_pick_1 rfl hg14 (by constructor) ?_
          try simp only [Int.toNat_natCast] at hg4 hg10 hg14
          exact hRR _ (EL.cons (.inr (by first | rfl | (simp only [hg4, hg10, hg14, Bool.true_or, Bool.false_or, Bool.true_and, Bool.false_and, Bool.or_true, Bool.or_false]; done) | (simp only [hg4, hg10, hg14, Bool.true_or, Bool.false_or, Bool.true_and, Bool.false_and, Bool.or_true, Bool.or_false]; rfl) | simp [hg4, hg10, hg14])) (EL.cons (.inl rfl) (EL.cons (.inl rfl) (EL.cons (.inr (by first | rfl | (simp only [hg4, hg10, hg14, Bool.true_or, Bool.false_or, Bool.true_and, Bool.false_and, Bool.or_true, Bool.or_false]; done) | (simp only [hg4, hg10, hg14, Bool.true_or, Bool.false_or, Bool.true_and, Bool.false_and, Bool.or_true, Bool.or_false]; rfl) | simp [hg4, hg10, hg14])) (EL.cons (.inr (by first | rfl | (simp only [hg4, hg10, hg14, Bool.true_or, Bool.false_or, Bool.true_and, Bool.false_and, Bool.or_true, Bool.or_false]; done) | (simp only [hg4, hg10, hg14, Bool.true_or, Bool.false_or, Bool.true_and, Bool.false_and, Bool.or_true, Bool.or_false]; rfl) | simp [hg4, hg10, hg14])) (EL.cons (.inl rfl) (EL.cons (.inl rfl) (EL.cons (.inr (by first | rfl | (simp only [hg4, hg10, hg14, Bool.true_or, Bool.false_or, Bool.true_and, Bool.false_and, Bool.or_true, Bool.or_false]; done) | (simp only [hg4, hg10, hg14, Bool.true_or, Bool.false_or, Bool.true_and, Bool.false_and, Bool.or_true, Bool.or_false]; rfl) | simp [hg4, hg10, hg14])) (EL.cons (.inr (by first | rfl | (simp only [hg4, hg10, hg14, Bool.true_or, Bool.false_or, Bool.true_and, Bool.false_and, Bool.or_true, Bool.or_false]; done) | (simp only [hg4, hg10, hg14, Bool.true_or, Bool.false_or, Bool.true_and, Bool.false_and, Bool.or_true, Bool.or_false]; rfl) | simp [hg4, hg10, hg14])) (EL.cons (.inl rfl) (EL.cons (.inl rfl) (EL.cons (.inl rfl) (EL.cons (.inl rfl) (EL.cons (.inr rfl) (EL.cons (.inr rfl) (EL.cons (.inr rfl) (EL.cons (.inr rfl) (EL.cons (.inr rfl) (EL.refl _)))))))))))))))))))
      · have hg10 := eq_true_of_ne_false hg10
        refine w_g_off rfl rfl (by rw [hg10]; decide) ?_
        refine w_pick_1 rfl hg10 (by constructor) ?_
        refine w_move (by constructor) ?_
        refine w_g_off rfl rfl (by decide) ?_
        refine w_g_off rfl rfl (by decide) ?_
        refine w_pick_1 rfl rfl (by constructor) ?_
        try simp only [Int.toNat_natCast] at hg4 hg10
        exact hRR _ (EL.cons (.inr (by first | rfl | (simp only [hg4, hg10, Bool.true_or, Bool.false_or, Bool.true_and, Bool.false_and, Bool.or_true, Bool.or_false]; done) | (simp only [hg4, hg10, Bool.true_or, Bool.false_or, Bool.true_and, Bool.false_and, Bool.or_true, Bool.or_false]; rfl) | simp [hg4, hg10])) (EL.cons (.inl rfl) (EL.cons (.inl rfl) (EL.cons (.inr (by first | rfl | (simp only [hg4, hg10, Bool.true_or, Bool.false_or, Bool.true_and, Bool.false_and, Bool.or_true, Bool.or_false]; done) | (simp only [hg4, hg10, Bool.true_or, Bool.false_or, Bool.true_and, Bool.false_and, Bool.or_true, Bool.or_false]; rfl) | simp [hg4, hg10])) (EL.cons (.inr (by first | rfl | (simp only [hg4, hg10, Bool.true_or, Bool.false_or, Bool.true_and, Bool.false_and, Bool.or_true, Bool.or_false]; done) | (simp only [hg4, hg10, Bool.true_or, Bool.false_or, Bool.true_and, Bool.false_and, Bool.or_true, Bool.or_false]; rfl) | simp [hg4, hg10])) (EL.cons (.inl rfl) (EL.cons (.inl rfl) (EL.cons (.inr (by first | rfl | (simp only [hg4, hg10, Bool.true_or, Bool.false_or, Bool.true_and, Bool.false_and, Bool.or_true, Bool.or_false]; done) | (simp only [hg4, hg10, Bool.true_or, Bool.false_or, Bool.true_and, Bool.false_and, Bool.or_true, Bool.or_false]; rfl) | simp [hg4, hg10])) (EL.cons (.inr (by first | rfl | (simp only [hg4, hg10, Bool.true_or, Bool.false_or, Bool.true_and, Bool.false_and, Bool.or_true, Bool.or_false]; done) | (simp only [hg4, hg10, Bool.true_or, Bool.false_or, Bool.true_and, Bool.false_and, Bool.or_true, Bool.or_false]; rfl) | simp [hg4, hg10])) (EL.cons (.inl rfl) (EL.cons (.inl rfl) (EL.cons (.inl rfl) (EL.cons (.inl rfl) (EL.cons (.inr rfl) (EL.cons (.inr rfl) (EL.cons (.inr rfl) (EL.cons (.inr rfl) (EL.cons (.inr rfl) (EL.refl _)))))))))))))))))))
    · have hg4 := eq_true_of_ne_false hg4
      refine w_g_off rfl rfl (by rw [hg4]; decide) ?_
      refine w_g_off rfl rfl (by rw [hg4]; decide) ?_
      refine w_g_off rfl rfl (by rw [hg4]; decide) ?_
      refine w_pick_1 rfl hg4 (by constructor) ?_
      refine w_move (by constructor) ?_
      refine w_g_off rfl rfl (by decide) ?_
      refine w_g_off rfl rfl (by decide) ?_
      refine w_pick_1 rfl rfl (by constructor) ?_
      refine w_move (by constructor) ?_
      refine w_g_off rfl rfl (by decide) ?_
      refine w_g_off rfl rfl (by decide) ?_
      refine w_pick_1 rfl rfl (by constructor) ?_
      try simp only [Int.toNat_natCast] at hg4
      exact hRR _ (EL.cons (.inr (by first | rfl | (simp only [hg4, Bool.true_or, Bool.false_or, Bool.true_and, Bool.false_and, Bool.or_true, Bool.or_false]; done) | (simp only [hg4, Bool.true_or, Bool.false_or, Bool.true_and, Bool.false_and, Bool.or_true, Bool.or_false]; rfl) | simp [hg4])) (EL.cons (.inl rfl) (EL.cons (.inl rfl) (EL.cons (.inr (by first | rfl | (simp only [hg4, Bool.true_or, Bool.false_or, Bool.true_and, Bool.false_and, Bool.or_true, Bool.or_false]; done) | (simp only [hg4, Bool.true_or, Bool.false_or, Bool.true_and, Bool.false_and, Bool.or_true, Bool.or_false]; rfl) | simp [hg4])) (EL.cons (.inr (by first | rfl | (simp only [hg4, Bool.true_or, Bool.false_or, Bool.true_and, Bool.false_and, Bool.or_true, Bool.or_false]; done) | (simp only [hg4, Bool.true_or, Bool.false_or, Bool.true_and, Bool.false_and, Bool.or_true, Bool.or_false]; rfl) | simp [hg4])) (EL.cons (.inl rfl) (EL.cons (.inl rfl) (EL.cons (.inr (by first | rfl | (simp only [hg4, Bool.true_or, Bool.false_or, Bool.true_and, Bool.false_and, Bool.or_true, Bool.or_false]; done) | (simp only [hg4, Bool.true_or, Bool.false_or, Bool.true_and, Bool.false_and, Bool.or_true, Bool.or_false]; rfl) | simp [hg4])) (EL.cons (.inr (by first | rfl | (simp only [hg4, Bool.true_or, Bool.false_or, Bool.true_and, Bool.false_and, Bool.or_true, Bool.or_false]; done) | (simp only [hg4, Bool.true_or, Bool.false_or, Bool.true_and, Bool.false_and, Bool.or_true, Bool.or_false]; rfl) | simp [hg4])) (EL.cons (.inl rfl) (EL.cons (.inl rfl) (EL.cons (.inl rfl) (EL.cons (.inl rfl) (EL.cons (.inr rfl) (EL.cons (.inr rfl) (EL.cons (.inr rfl) (EL.cons (.inr rfl) (EL.cons (.inr rfl) (EL.refl _)))))))))))))))))))
  refine snd_cond _ rfl (fun hc22 => ?_) (fun hc22 => ?_)
  · skip
    apply sr tokTB (by kernel_rfl)
    · intro RR hRR
      refine w_assign (by constructor) ?_
      exact hRR
    refine snd_ret ?_
    exact rt (T := TB) (fun V => m_bool (by symm; rw [decide_eq_false_iff_not]; intro h; obtain ⟨q1, q2, q3⟩ := shape_iff.1 h.1; rw [q1, decide_eq_true q2.1, decide_eq_true q2.2, decide_eq_true q3, decide_eq_true (show assocP p n T from h.2.1)] at hc22; cases hc22))
  · skip
    simp only [Bool.or_eq_false_iff, Bool.not_eq_false', Bool.and_eq_true, decide_eq_true_eq] at hc22
    obtain ⟨⟨⟨h1, h2⟩, h3⟩, h4⟩ := hc22
    refine snd_skip ?_
    apply sr tokTB (by kernel_rfl)
    · intro RR hRR
      refine w_call0 rfl (exc (by first | exact rfl | exact exp_alg | exact exp_calg | exact ex_vl | exact exp_closed (by assumption)) exn) (c_findUnit h1 (by omega) (by omega) (BpT_of hT (shape_iff.2 ⟨h1, h2, h3⟩))) (by first | exact trivial | exact fun _ => trivial | exact fun _ _ => trivial | exact fun _ _ _ => trivial | exact nr_alg | exact nr_pair (by first | exact trivial | exact fun _ => trivial | exact nr_alg) (by first | exact trivial | exact fun _ => trivial)) (fun _ => by first | exact rfl | exact shift_alg | exact shift_pair rfl rfl | exact shift_pair shift_alg rfl) ?_
      refine w_move (by constructor) ?_
      refine w_ext rfl (by decide) (by constructor) ?_
      refine w_ext rfl (by decide) (by constructor) ?_
      refine w_alloc kn29 rfl zr29 ?_
      first | refine w_stw rfl (by constructor) kn29 rfl (by exact trivial) (by first | exact trivial | exact ssh_vec | exact ssh_alg | exact ssh_tab | exact ssh_mat | exact ⟨rfl, fun _ => trivial⟩ | exact ⟨rfl, fun _ => by rw [zr29]; exact ssh_vec⟩) (by exact sz29.symm) ?_ | refine w_sti rfl rfl kn29 rfl (by exact trivial) (by exact sz29.symm) ?_ | refine w_store rfl (HV.eq (by constructor)) kn29 rfl (by exact trivial) (by first | exact trivial | exact ssh_vec | exact ssh_alg | exact ssh_tab | exact ssh_mat | exact ⟨rfl, fun _ => trivial⟩ | exact ⟨rfl, fun _ => by rw [zr29]; exact ssh_vec⟩) (by exact sz29.symm) (put_in (by first | exact put_mat | exact put_tab | exact put_alg0 | exact put_alg1 | exact put_alg2 | exact put_alg3 | exact put_alg3i | exact put_alg2ij | exact put_alg2ijk | exact put_mat2 | exact put_tab2 | exact put_tab3)) ?_ | refine w_store rfl (HV.eq (by constructor)) kn29 rfl (by exact trivial) (by exact trivial) (by exact sz29.symm) rfl ?_
      refine w_assign (by constructor) ?_
      exact hRR
    apply sr tokTB (by kernel_rfl)
    · intro RR hRR
      refine w_move (by constructor) ?_
      refine w_assign (by constructor) ?_
      exact hRR
    refine snd_ret ?_
    exact rt (T := TB) (fun V => m_bool (decide_eq_decide.2 ⟨fun h => ⟨shape_iff.2 ⟨h1, h2, h3⟩, h4, h⟩, fun h => h.2.2⟩))
theorem c_IsAlgebra0 {p n : Int} {T : Nat → Nat → Nat → Int} {fo : Nat → Int} (hT : RB T) (hf : RV fo) (hn : n < 0) : ACalls Try.prog TB 71 [algA p n T fo] (.bool (decide (VA p n T fo))) [] := by
  refine acalls_of tokTB Try.func71 rfl rfl (Nat.le_of_ble_eq_true rfl) ?_
  apply sr tokTB (by kernel_rfl)
  · intro RR hRR
    refine w_boxc (HV.eq (by constructor)) (by exact trivial) ?_
    refine w_assign (by constructor) ?_
    exact hRR
  refine snd_seq ?_
  apply srG (env' := (22, .bool true) :: (21, .any) :: (20, .any) :: (19, .bool ((!(primeB p) || !(decide (1 ≤ n) && decide (n ≤ 6))) || !(decide (tabP p n T fo)))) :: (18, .bool ((!(primeB p) || !(decide (1 ≤ n) && decide (n ≤ 6))) || !(decide (tabP p n T fo)))) :: (17, .any) :: (16, .any) :: (15, .bool (!(primeB p) || !(decide (1 ≤ n) && decide (n ≤ 6)))) :: (14, .bool (!(primeB p) || !(decide (1 ≤ n) && decide (n ≤ 6)))) :: (13, .any) :: (12, .any) :: (11, .any) :: (10, .any) :: (9, _) :: (8, _) :: (7, _) :: (6, _) :: (5, _) :: _) tokTB (by kernel_rfl)
  · intro RR hRR
    first | refine w_fac rfl und31 rfl kn2 nz2 (by decide) rfl (by constructor) ?_ | refine w_fap rfl und31 rfl kn2 nz2 rfl (by decide) rfl ?_
    first | refine w_ldc rfl kn2 (by constructor) (by exact sz2.symm) (by exact ag2.symm) ?_ | refine w_ldp rfl kn2 rfl (by constructor) (by exact sz2.symm) (by exact ag2.symm) ?_
    refine w_call0 rfl (exc (by first | exact rfl | exact exp_alg | exact exp_calg | exact ex_vl | exact exp_closed (by assumption)) exn) (c_isPrime) (by first | exact trivial | exact fun _ => trivial | exact fun _ _ => trivial | exact fun _ _ _ => trivial | exact nr_alg | exact nr_pair (by first | exact trivial | exact fun _ => trivial | exact nr_alg) (by first | exact trivial | exact fun _ => trivial)) (fun _ => by first | exact rfl | exact shift_alg | exact shift_pair rfl rfl | exact shift_pair shift_alg rfl) ?_
    refine w_not rfl ?_
    refine w_move (by constructor) ?_
    refine w_g rfl rfl (fun hg4 => ?_) (fun hg4 => ?_)
    · skip
      first | refine w_fac rfl und31 rfl kn2 nz2 (by decide) rfl (by constructor) ?_ | refine w_fap rfl und31 rfl kn2 nz2 rfl (by decide) rfl ?_
      refine w_g_on rfl rfl hg4 ?_
      first | refine w_ldc rfl kn2 (by constructor) (by exact sz2.symm) (by exact ag2.symm) ?_ | refine w_ldp rfl kn2 rfl (by constructor) (by exact sz2.symm) (by exact ag2.symm) ?_
      refine w_g_on rfl rfl hg4 ?_
      refine w_call0 rfl (exc (by first | exact rfl | exact exp_alg | exact exp_calg | exact ex_vl | exact exp_closed (by assumption)) (exc (by first | exact rfl | exact exp_alg | exact exp_calg | exact ex_vl | exact exp_closed (by assumption)) (exc (by first | exact rfl | exact exp_alg | exact exp_calg | exact ex_vl | exact exp_closed (by assumption)) exn))) (c_in) (by first | exact trivial | exact fun _ => trivial | exact fun _ _ => trivial | exact fun _ _ _ => trivial | exact nr_alg | exact nr_pair (by first | exact trivial | exact fun _ => trivial | exact nr_alg) (by first | exact trivial | exact fun _ => trivial)) (fun _ => by first | exact rfl | exact shift_alg | exact shift_pair rfl rfl | exact shift_pair shift_alg rfl) ?_
      refine w_g_on rfl rfl hg4 ?_
      refine w_not rfl ?_
      refine w_pick_0 rfl hg4 (by constructor) ?_
      refine w_move (by constructor) ?_
      refine w_g rfl rfl (fun hg10 => ?_) (fun hg10 => ?_)
      · skip
        refine w_call0 rfl (exc (by first | exact rfl | exact exp_alg | exact exp_calg | exact ex_vl | exact exp_closed (by assumption)) exn) (c_tableOk hT.b hf.b) (by first | exact trivial | exact fun _ => trivial | exact fun _ _ => trivial | exact fun _ _ _ => trivial | exact nr_alg | exact nr_pair (by first | exact trivial | exact fun _ => trivial | exact nr_alg) (by first | exact trivial | exact fun _ => trivial)) (fun _ => by first | exact rfl | exact shift_alg | exact shift_pair rfl rfl | exact shift_pair shift_alg rfl) ?_
        refine w_g_on rfl rfl hg10 ?_
        refine w_not rfl ?_
        refine w_pick_0 rfl hg10 (by constructor) ?_
        refine w_move (by constructor) ?_
        refine w_g rfl rfl (fun hg14 => ?_) (fun hg14 => ?_)
        · skip
          refine w_call0 rfl (exc (by first | exact rfl | exact exp_alg | exact exp_calg | exact ex_vl | exact exp_closed (by assumption)) exn) ((absurd hg10 (by simp; omega) : ACalls Try.prog TB 86 [.cptr (algA p n T fo)] (.bool false) [])) (by first | exact trivial | exact fun _ => trivial | exact fun _ _ => trivial | exact fun _ _ _ => trivial | exact nr_alg | exact nr_pair (by first | exact trivial | exact fun _ => trivial | exact nr_alg) (by first | exact trivial | exact fun _ => trivial)) (fun _ => by first | exact rfl | exact shift_alg | exact shift_pair rfl rfl | exact shift_pair shift_alg rfl) ?_
          refine w_g_on rfl rfl hg14 ?_
          refine w_not rfl ?_
          refine w_pick_0 rfl hg14 (by constructor) ?_
          try simp only [Int.toNat_natCast] at hg4 hg10 hg14
          exact hRR _ (EL.cons (.inr (by first | rfl | (simp only [hg4, hg10, hg14, Bool.true_or, Bool.false_or, Bool.true_and, Bool.false_and, Bool.or_true, Bool.or_false]; done) | (simp only [hg4, hg10, hg14, Bool.true_or, Bool.false_or, Bool.true_and, Bool.false_and, Bool.or_true, Bool.or_false]; rfl) | simp [hg4, hg10, hg14])) (EL.cons (.inl rfl) (EL.cons (.inl rfl) (EL.cons (.inr (by first | rfl | (simp only [hg4, hg10, hg14, Bool.true_or, Bool.false_or, Bool.true_and, Bool.false_and, Bool.or_true, Bool.or_false]; done) | (simp only [hg4, hg10, hg14, Bool.true_or, Bool.false_or, Bool.true_and, Bool.false_and, Bool.or_true, Bool.or_false]; rfl) | simp [hg4, hg10, hg14])) (EL.cons (.inr (by first | rfl | (simp only [hg4, hg10, hg14, Bool.true_or, Bool.false_or, Bool.true_and, Bool.false_and, Bool.or_true, Bool.or_false]; done) | (simp only [hg4, hg10, hg14, Bool.true_or, Bool.false_or, Bool.true_and, Bool.false_and, Bool.or_true, Bool.or_false]; rfl) | simp [hg4, hg10, hg14])) (EL.cons (.inl rfl) (EL.cons (.inl rfl) (EL.cons (.inr (by first | rfl | (simp only [hg4, hg10, hg14, Bool.true_or, Bool.false_or, Bool.true_and, Bool.false_and, Bool.or_true, Bool.or_false]; done) | (simp only [hg4, hg10, hg14, Bool.true_or, Bool.false_or, Bool.true_and, Bool.false_and, Bool.or_true, Bool.or_false]; rfl) | simp [hg4, hg10, hg14])) (EL.cons (.inr (by first | rfl | (simp only [hg4, hg10, hg14, Bool.true_or, Bool.false_or, Bool.true_and, Bool.false_and, Bool.or_true, Bool.or_false]; done) | (simp only [hg4, hg10, hg14, Bool.true_or, Bool.false_or, Bool.true_and, Bool.false_and, Bool.or_true, Bool.or_false]; rfl) | simp [hg4, hg10, hg14])) (EL.cons (.inl rfl) (EL.cons (.inl rfl) (EL.cons (.inl rfl) (EL.cons (.inl rfl) (EL.cons (.inr rfl) (EL.cons (.inr rfl) (EL.cons (.inr rfl) (EL.cons (.inr rfl) (EL.cons (.inr rfl) (EL.refl _)))))))))))))))))))
        · have hg14 := eq_true_of_ne_false hg14
          refine w_g_off rfl rfl (by rw [hg14]; decide) ?_
          refine w_pick_1 rfl hg14 (by constructor) ?_
          try simp only [Int.toNat_natCast] at hg4 hg10 hg14
          exact hRR _ (EL.cons (.inr (by first | rfl | (simp only [hg4, hg10, hg14, Bool.true_or, Bool.false_or, Bool.true_and, Bool.false_and, Bool.or_true, Bool.or_false]; done) | (simp only [hg4, hg10, hg14, Bool.true_or, Bool.false_or, Bool.true_and, Bool.false_and, Bool.or_true, Bool.or_false]; rfl) | simp [hg4, hg10, hg14])) (EL.cons (.inl rfl) (EL.cons (.inl rfl) (EL.cons (.inr (by first | rfl | (simp only [hg4, hg10, hg14, Bool.true_or, Bool.false_or, Bool.true_and, Bool.false_and, Bool.or_true, Bool.or_false]; done) | (simp only [hg4, hg10, hg14, Bool.true_or, Bool.false_or, Bool.true_and, Bool.false_and, Bool.or_true, Bool.or_false]; rfl) | simp [hg4, hg10, hg14])) (EL.cons (.inr (by first | rfl | (simp only [hg4, hg10, hg14, Bool.true_or, Bool.false_or, Bool.true_and, Bool.false_and, Bool.or_true, Bool.or_false]; done) | (simp only [hg4, hg10, hg14, Bool.true_or, Bool.false_or, Bool.true_and, Bool.false_and, Bool.or_true, Bool.or_false]; rfl) | simp [hg4, hg10, hg14])) (EL.cons (.inl rfl) (EL.cons (.inl rfl) (EL.cons (.inr (by first | rfl | (simp only [hg4, hg10, hg14, Bool.true_or, Bool.false_or, Bool.true_and, Bool.false_and, Bool.or_true, Bool.or_false]; done) | (simp only [hg4, hg10, hg14, Bool.true_or, Bool.false_or, Bool.true_and, Bool.false_and, Bool.or_true, Bool.or_false]; rfl) | simp [hg4, hg10, hg14])) (EL.cons (.inr (by first | rfl | (simp only [hg4, hg10, hg14, Bool.true_or, Bool.false_or, Bool.true_and, Bool.false_and, Bool.or_true, Bool.or_false]; done) | (simp only [hg4, hg10, hg14, Bool.true_or, Bool.false_or, Bool.true_and, Bool.false_and, Bool.or_true, Bool.or_false]; rfl) | simp [hg4, hg10, hg14])) (EL.cons (.inl rfl) (EL.cons (.inl rfl) (EL.cons (.inl rfl) (EL.cons (.inl rfl) (EL.cons (.inr rfl) (EL.cons (.inr rfl) (EL.cons (.inr rfl) (EL.cons (.inr rfl) (EL.cons (.inr rfl) (EL.refl _)))))))))))))))))))
      · have hg10 := eq_true_of_ne_false hg10
        refine w_g_off rfl rfl (by rw [hg10]; decide) ?_
        refine w_pick_1 rfl hg10 (by constructor) ?_
        refine w_move (by constructor) ?_
        refine w_g_off rfl rfl (by decide) ?_
        refine w_g_off rfl rfl (by decide) ?_
        refine w_pick_1 rfl rfl (by constructor) ?_
        try simp only [Int.toNat_natCast] at hg4 hg10
        exact hRR _ (EL.cons (.inr (by first | rfl | (simp only [hg4, hg10, Bool.true_or, Bool.false_or, Bool.true_and, Bool.false_and, Bool.or_true, Bool.or_false]; done) | (simp only [hg4, hg10, Bool.true_or, Bool.false_or, Bool.true_and, Bool.false_and, Bool.or_true, Bool.or_false]; rfl) | simp [hg4, hg10])) (EL.cons (.inl rfl) (EL.cons (.inl rfl) (EL.cons (.inr (by first | rfl | (simp only [hg4, hg10, Bool.true_or, Bool.false_or, Bool.true_and, Bool.false_and, Bool.or_true, Bool.or_false]; done) | (simp only [hg4, hg10, Bool.true_or, Bool.false_or, Bool.true_and, Bool.false_and, Bool.or_true, Bool.or_false]; rfl) | simp [hg4, hg10])) (EL.cons (.inr (by first | rfl | (simp only [hg4, hg10, Bool.true_or, Bool.false_or, Bool.true_and, Bool.false_and, Bool.or_true, Bool.or_false]; done) | (simp only [hg4, hg10, Bool.true_or, Bool.false_or, Bool.true_and, Bool.false_and, Bool.or_true, Bool.or_false]; rfl) | simp [hg4, hg10])) (EL.cons (.inl rfl) (EL.cons (.inl rfl) (EL.cons (.inr (by first | rfl | (simp only [hg4, hg10, Bool.true_or, Bool.false_or, Bool.true_and, Bool.false_and, Bool.or_true, Bool.or_false]; done) | (simp only [hg4, hg10, Bool.true_or, Bool.false_or, Bool.true_and, Bool.false_and, Bool.or_true, Bool.or_false]; rfl) | simp [hg4, hg10])) (EL.cons (.inr (by first | rfl | (simp only [hg4, hg10, Bool.true_or, Bool.false_or, Bool.true_and, Bool.false_and, Bool.or_true, Bool.or_false]; done) | (simp only [hg4, hg10, Bool.true_or, Bool.false_or, Bool.true_and, Bool.false_and, Bool.or_true, Bool.or_false]; rfl) | simp [hg4, hg10])) (EL.cons (.inl rfl) (EL.cons (.inl rfl) (EL.cons (.inl rfl) (EL.cons (.inl rfl) (EL.cons (.inr rfl) (EL.cons (.inr rfl) (EL.cons (.inr rfl) (EL.cons (.inr rfl) (EL.cons (.inr rfl) (EL.refl _)))))))))))))))))))
    · have hg4 := eq_true_of_ne_false hg4
      refine w_g_off rfl rfl (by rw [hg4]; decide) ?_
      refine w_g_off rfl rfl (by rw [hg4]; decide) ?_
      refine w_g_off rfl rfl (by rw [hg4]; decide) ?_
      refine w_pick_1 rfl hg4 (by constructor) ?_
      refine w_move (by constructor) ?_
      refine w_g_off rfl rfl (by decide) ?_
      refine w_g_off rfl rfl (by decide) ?_
      refine w_pick_1 rfl rfl (by constructor) ?_
      refine w_move (by constructor) ?_
      refine w_g_off rfl rfl (by decide) ?_
      refine w_g_off rfl rfl (by decide) ?_
      refine w_pick_1 rfl rfl (by constructor) ?_
      try simp only [Int.toNat_natCast] at hg4
      exact hRR _ (EL.cons (.inr (by first | rfl | (simp only [hg4, Bool.true_or, Bool.false_or, Bool.true_and, Bool.false_and, Bool.or_true, Bool.or_false]; done) | (simp only [hg4, Bool.true_or, Bool.false_or, Bool.true_and, Bool.false_and, Bool.or_true, Bool.or_false]; rfl) | simp [hg4])) (EL.cons (.inl rfl) (EL.cons (.inl rfl) (EL.cons (.inr (by first | rfl | (simp only [hg4, Bool.true_or, Bool.false_or, Bool.true_and, Bool.false_and, Bool.or_true, Bool.or_false]; done) | (simp only [hg4, Bool.true_or, Bool.false_or, Bool.true_and, Bool.false_and, Bool.or_true, Bool.or_false]; rfl) | simp [hg4])) (EL.cons (.inr (by first | rfl | (simp only [hg4, Bool.true_or, Bool.false_or, Bool.true_and, Bool.false_and, Bool.or_true, Bool.or_false]; done) | (simp only [hg4, Bool.true_or, Bool.false_or, Bool.true_and, Bool.false_and, Bool.or_true, Bool.or_false]; rfl) | simp [hg4])) (EL.cons (.inl rfl) (EL.cons (.inl rfl) (EL.cons (.inr (by first | rfl | (simp only [hg4, Bool.true_or, Bool.false_or, Bool.true_and, Bool.false_and, Bool.or_true, Bool.or_false]; done) | (simp only [hg4, Bool.true_or, Bool.false_or, Bool.true_and, Bool.false_and, Bool.or_true, Bool.or_false]; rfl) | simp [hg4])) (EL.cons (.inr (by first | rfl | (simp only [hg4, Bool.true_or, Bool.false_or, Bool.true_and, Bool.false_and, Bool.or_true, Bool.or_false]; done) | (simp only [hg4, Bool.true_or, Bool.false_or, Bool.true_and, Bool.false_and, Bool.or_true, Bool.or_false]; rfl) | simp [hg4])) (EL.cons (.inl rfl) (EL.cons (.inl rfl) (EL.cons (.inl rfl) (EL.cons (.inl rfl) (EL.cons (.inr rfl) (EL.cons (.inr rfl) (EL.cons (.inr rfl) (EL.cons (.inr rfl) (EL.cons (.inr rfl) (EL.refl _)))))))))))))))))))
  refine snd_cond_true rfl ?_
  apply sr tokTB (by kernel_rfl)
  · intro RR hRR
    refine w_assign (by constructor) ?_
    exact hRR
  refine snd_ret ?_
  exact rt (T := TB) (fun V => m_bool (by symm; rw [decide_eq_false_iff_not]; exact VA_neg hn))
theorem c_IsAlgebra {p n : Int} {T : Nat → Nat → Nat → Int} {fo : Nat → Int} (hT : RB T) (hf : RV fo) : ACalls Try.prog TB 71 [algA p n T fo] (.bool (decide (VA p n T fo))) [] := by
  rcases Int.lt_or_le n 0 with h | h
  · exact c_IsAlgebra0 hT hf h
  · obtain ⟨m, rfl⟩ := Int.eq_ofNat_of_zero_le h
    exact c_IsAlgebraN hT hf
end Go.Am
set_option linter.unusedVariables false
set_option linter.unusedSimpArgs false
set_option maxRecDepth 4000
namespace Go.Am
attribute [local irreducible] retQ
open Go.Proofs
theorem c_IndexFuncV {M : Nat} {F : Nat → Nat → Int} {g nc : Nat} {caps : Nat → AV} {P : Nat → Bool} (hm : M ≤ 1000000) (hcaps : (AV.fn g nc caps).closed) (hf : ∀ i, i < M → ACalls Try.prog TB g (vecA (F i) :: capL nc caps) (.bool (P i)) []) : ACalls Try.prog TB 87 [vlA M F, .fn g nc caps] (.int .i64 (idxF P M)) [] := by
  refine acalls_of tokTB Try.func87 rfl rfl (Nat.le_of_ble_eq_true rfl) ?_
  apply sr tokTB (by kernel_rfl)
  · intro RR hRR
    refine w_assign (by constructor) ?_
    exact hRR
  refine snd_seq ?_
  apply sr tokTB (by kernel_rfl)
  · intro RR hRR
    refine w_move (by constructor) ?_
    first | refine w_len_r rfl rfl und74 ?_ | refine w_len_o rfl rfl und74 ?_ | refine w_len_n rfl rfl und74 ?_
    refine w_move (by constructor) ?_
    exact hRR
  refine snd_block ?_
  refine snd_loop (S := Nat) (fun i => ([(0, vlA M F), (1, .fn g nc caps), (7, .int .i64 (M : Int)), (8, .int .i64 (i : Int))], [])) (fun i => i ≤ M ∧ (∀ j, j < i → P j = false)) (fun i => M - i) (0) ρ0 ?_ ?_ ?_
  · exact ⟨⟨(by first | exact m_vl | exact mt_fz (by exact trivial) rfl (fun _ _ => mt_vec (fun _ _ => rfl))), (Mt_closed (V := _) (by assumption) (fun _ _ _ => trivial) (by simp)), (by first | exact m_int rfl | exact m_int (by omega) | exact m_int (by simp; done) | (exact m_int (by simp; omega))), (by first | exact m_int rfl | exact m_int (by omega) | exact m_int (by simp; done) | (exact m_int (by simp; omega))), trivial⟩, trivial, trivial⟩
  · exact ⟨Nat.zero_le _, fun j hj => absurd hj (Nat.not_lt_zero _)⟩
  intro i hi0
  refine sq (env2 := [(0, vlA M F), (1, .fn g nc caps), (7, .int .i64 (M : Int)), (8, .int .i64 (i : Int))]) (ol2 := []) rfl rfl ?_
  obtain ⟨le_i, inv_i⟩ := hi0
  apply sr tokTB (by kernel_rfl)
  · intro RR hRR
    refine w_lss rfl rfl ?_
    exact hRR
  refine snd_seq ?_
  refine snd_cond _ rfl (fun hc9 => ?_) (fun hc9 => ?_)
  · try simp only [Bool.not_eq_true', Bool.not_eq_false', Bool.not_eq_true, Bool.not_eq_false, decide_eq_true_eq, decide_eq_false_iff_not, Int.not_lt, Int.not_le, Classical.not_not, ne_eq] at hc9
    have lt_i : i < M := by omega
    refine snd_skip ?_
    refine snd_seq ?_
    refine snd_block ?_
    apply sr tokTB (by kernel_rfl)
    · intro RR hRR
      refine w_move (by constructor) ?_
      refine w_assign (by constructor) ?_
      exact hRR
    apply sr tokTB (by kernel_rfl)
    · intro RR hRR
      refine w_move (by constructor) ?_
      refine w_move (by constructor) ?_
      refine w_move (by constructor) ?_
      first | refine w_iar rfl rfl und74 kn29 (by exact sz29.symm) ?_ rfl ?_ | refine w_iao rfl rfl und74 kn29 ?_ ?_
      · exact ⟨by omega, by omega⟩
      first | refine w_ldc rfl kn29 (by constructor) (by exact sz29.symm) (by exact ag29.symm) ?_ | refine w_ldp rfl kn29 rfl (by constructor) (by exact sz29.symm) (by exact ag29.symm) ?_
      refine w_call0 rfl (exc (by exact rfl) (exp_capL hcaps)) (hf i (by omega)) (by first | exact trivial | exact fun _ => trivial | exact fun _ _ => trivial | exact fun _ _ _ => trivial | exact nr_alg | exact nr_pair (by first | exact trivial | exact fun _ => trivial | exact nr_alg) (by first | exact trivial | exact fun _ => trivial)) (fun _ => by first | exact rfl | exact shift_alg | exact shift_pair rfl rfl | exact shift_pair shift_alg rfl) ?_
      exact hRR
    refine snd_cond _ rfl (fun hc16 => ?_) (fun hc16 => ?_)
    · skip
      apply sr tokTB (by kernel_rfl)
      · intro RR hRR
        refine w_move (by constructor) ?_
        refine w_assign (by constructor) ?_
        exact hRR
      refine snd_ret ?_
      exact rt (T := TB) (fun V => m_int (idx_at (by omega) (by exact hc16) inv_i).symm)
    · skip
      refine snd_skip ?_
      apply lr tokTB (by kernel_rfl)
      · intro RR hRR
        refine w_add rfl rfl (by first | exact w64 (by omega) (by omega) | exact w64b (by assumption) _ | exact w64t (by assumption) _ _ _ | exact rfl) ?_
        refine w_move (by constructor) ?_
        exact hRR
      refine ⟨i + 1, ρ0, ?_, ⟨by omega, all_step inv_i (by exact hc16)⟩, (by dsimp only; omega)⟩
      exact ⟨⟨(by first | exact m_vl | exact mt_fz (by exact trivial) rfl (fun _ _ => mt_vec (fun _ _ => rfl))), (Mt_closed (V := _) (by assumption) (fun _ _ _ => trivial) (by simp)), (by first | exact m_int rfl | exact m_int (by omega) | exact m_int (by simp; done) | (exact m_int (by simp; omega))), (by first | exact m_int rfl | exact m_int (by omega) | exact m_int (by simp; done) | (exact m_int (by simp; omega))), trivial⟩, trivial, trivial⟩
  · try simp only [Bool.not_eq_true', Bool.not_eq_false', Bool.not_eq_true, Bool.not_eq_false, decide_eq_true_eq, decide_eq_false_iff_not, Int.not_lt, Int.not_le, Classical.not_not, ne_eq] at hc9
    have ge_i : M = i := by omega
    subst ge_i
    refine snd_exit ?_
    apply sr tokTB (by kernel_rfl)
    · intro RR hRR
      refine w_assign (by constructor) ?_
      exact hRR
    refine snd_ret ?_
    exact rt (T := TB) (fun V => m_int (idx_none inv_i).symm)
theorem c_ContainsFuncV {M : Nat} {F : Nat → Nat → Int} {g nc : Nat} {caps : Nat → AV} {P : Nat → Bool} (hm : M ≤ 1000000) (hcaps : (AV.fn g nc caps).closed) (hf : ∀ i, i < M → ACalls Try.prog TB g (vecA (F i) :: capL nc caps) (.bool (P i)) []) : ACalls Try.prog TB 72 [vlA M F, .fn g nc caps] (.bool (decide (0 ≤ idxF P M))) [] := by
  refine acalls_of tokTB Try.func72 rfl rfl (Nat.le_of_ble_eq_true rfl) ?_
  apply sr tokTB (by kernel_rfl)
  · intro RR hRR
    refine w_assign (by constructor) ?_
    exact hRR
  apply sr tokTB (by kernel_rfl)
  · intro RR hRR
    refine w_move (by constructor) ?_
    refine w_move (by constructor) ?_
    refine w_call0 rfl (exc ex_vl (exc (exp_closed hcaps) exn)) (c_IndexFuncV hm hcaps hf) (by first | exact trivial | exact fun _ => trivial | exact fun _ _ => trivial | exact fun _ _ _ => trivial | exact nr_alg | exact nr_pair (by first | exact trivial | exact fun _ => trivial | exact nr_alg) (by first | exact trivial | exact fun _ => trivial)) (fun _ => by first | exact rfl | exact shift_alg | exact shift_pair rfl rfl | exact shift_pair shift_alg rfl) ?_
    refine w_geq rfl rfl ?_
    refine w_assign (by constructor) ?_
    exact hRR
  refine snd_ret ?_
  exact rt (T := TB) (fun V => by first | exact m_bool rfl | exact m_int rfl)
theorem c_valid1 {p n : Int} {T : Nat → Nat → Nat → Int} {fo : Nat → Int} {v : Nat → Int} (hv : B8 v) : ACalls Try.prog TB 73 [vecA v, .cptr (algA p n T fo)] (.bool (!decide (smP p n v))) [] := by
  refine acalls_of tokTB Try.func73 rfl rfl (Nat.le_of_ble_eq_true rfl) ?_
  apply sr tokTB (by kernel_rfl)
  · intro RR hRR
    refine w_boxc (HV.eq (by constructor)) (by exact trivial) ?_
    refine w_assign (by constructor) ?_
    exact hRR
  apply sr tokTB (by kernel_rfl)
  · intro RR hRR
    first | refine w_ldc rfl kn29 (by constructor) (by exact sz29.symm) (by exact ag29.symm) ?_ | refine w_ldp rfl kn29 rfl (by constructor) (by exact sz29.symm) (by exact ag29.symm) ?_
    first | refine w_fac rfl und31 rfl kn2 nz2 (by decide) rfl (by constructor) ?_ | refine w_fap rfl und31 rfl kn2 nz2 rfl (by decide) rfl ?_
    first | refine w_ldc rfl kn2 (by constructor) (by exact sz2.symm) (by exact ag2.symm) ?_ | refine w_ldp rfl kn2 rfl (by constructor) (by exact sz2.symm) (by exact ag2.symm) ?_
    first | refine w_fac rfl und31 rfl kn2 nz2 (by decide) rfl (by constructor) ?_ | refine w_fap rfl und31 rfl kn2 nz2 rfl (by decide) rfl ?_
    first | refine w_ldc rfl kn2 (by constructor) (by exact sz2.symm) (by exact ag2.symm) ?_ | refine w_ldp rfl kn2 rfl (by constructor) (by exact sz2.symm) (by exact ag2.symm) ?_
    refine w_call0 rfl (exc (by first | exact rfl | exact exp_alg | exact exp_calg | exact ex_vl | exact exp_closed (by assumption)) (exc (by first | exact rfl | exact exp_alg | exact exp_calg | exact ex_vl | exact exp_closed (by assumption)) (exc (by first | exact rfl | exact exp_alg | exact exp_calg | exact ex_vl | exact exp_closed (by assumption)) exn))) (c_isVector hv) (by first | exact trivial | exact fun _ => trivial | exact fun _ _ => trivial | exact fun _ _ _ => trivial | exact nr_alg | exact nr_pair (by first | exact trivial | exact fun _ => trivial | exact nr_alg) (by first | exact trivial | exact fun _ => trivial)) (fun _ => by first | exact rfl | exact shift_alg | exact shift_pair rfl rfl | exact shift_pair shift_alg rfl) ?_
    refine w_not rfl ?_
    refine w_assign (by constructor) ?_
    exact hRR
  refine snd_ret ?_
  exact rt (T := TB) (fun V => by first | exact m_bool rfl | exact m_int rfl)
theorem c_l01Code {p n : Int} {T : Nat → Nat → Nat → Int} {fo : Nat → Int} {M : Nat} {F : Nat → Nat → Int} (hT : RB T) (hf : RV fo) (hM : M ≤ 1000000) (hF : ∀ i, B8 (F i)) : ACalls Try.prog TB 42 [algA p n T fo, vlA M F] (.int .i64 (cZ p n T fo M F)) [] := by
  refine acalls_of tokTB Try.func42 rfl rfl (Nat.le_of_ble_eq_true rfl) ?_
  apply sr tokTB (by kernel_rfl)
  · intro RR hRR
    refine w_boxc (HV.eq (by constructor)) (by exact trivial) ?_
    refine w_assign (by constructor) ?_
    exact hRR
  refine snd_seq ?_
  apply sr tokTB (by kernel_rfl)
  · intro RR hRR
    first | refine w_ldc rfl kn31 (by constructor) (by exact sz31.symm) (by exact ag31.symm) ?_ | refine w_ldp rfl kn31 rfl (by constructor) (by exact sz31.symm) (by exact ag31.symm) ?_
    refine w_call0 rfl (exc (by first | exact rfl | exact exp_alg | exact exp_calg | exact ex_vl | exact exp_closed (by assumption)) exn) (c_l01Algebra hT hf) (by first | exact trivial | exact fun _ => trivial | exact fun _ _ => trivial | exact fun _ _ _ => trivial | exact nr_alg | exact nr_pair (by first | exact trivial | exact fun _ => trivial | exact nr_alg) (by first | exact trivial | exact fun _ => trivial)) (fun _ => by first | exact rfl | exact shift_alg | exact shift_pair rfl rfl | exact shift_pair shift_alg rfl) ?_
    refine w_not rfl ?_
    exact hRR
  refine snd_cond _ rfl (fun hc8 => ?_) (fun hc8 => ?_)
  · try simp only [Bool.not_eq_true', Bool.not_eq_false', Bool.not_eq_true, Bool.not_eq_false, decide_eq_true_eq, decide_eq_false_iff_not, Int.not_lt, Int.not_le, Classical.not_not, ne_eq] at hc8
    apply sr tokTB (by kernel_rfl)
    · intro RR hRR
      refine w_assign (by constructor) ?_
      exact hRR
    refine snd_ret ?_
    exact rt (T := TB) (fun V => m_int (cZ_no (fun h => hc8 h.1)).symm)
  · try simp only [Bool.not_eq_true', Bool.not_eq_false', Bool.not_eq_true, Bool.not_eq_false, decide_eq_true_eq, decide_eq_false_iff_not, Int.not_lt, Int.not_le, Classical.not_not, ne_eq] at hc8
    refine snd_skip ?_
    refine snd_seq ?_
    apply sr tokTB (by kernel_rfl)
    · intro RR hRR
      refine w_assign (by constructor) ?_
      exact hRR
    refine snd_block ?_
    refine snd_loop (S := Nat) (fun i => ([(1, vlA M F), (2, .cptr (algA p n T fo)), (5, .int .i64 (i : Int))], [])) (fun i => i ≤ M ∧ (∀ a, a < i → smP p n (F a))) (fun i => M - i) (0) ρ0 ?_ ?_ ?_
    · exact ⟨⟨(by first | exact m_vl | exact mt_fz (by exact trivial) rfl (fun _ _ => mt_vec (fun _ _ => rfl))), m_calg, (by first | exact m_int rfl | exact m_int (by omega) | exact m_int (by simp; done) | (exact m_int (by simp; omega))), trivial⟩, trivial, trivial⟩
    · exact ⟨Nat.zero_le _, fun j hj => absurd hj (Nat.not_lt_zero _)⟩
    intro i hi0
    refine sq (env2 := [(1, vlA M F), (2, .cptr (algA p n T fo)), (5, .int .i64 (i : Int))]) (ol2 := []) rfl rfl ?_
    obtain ⟨le_i, inv_i⟩ := hi0
    refine snd_seq ?_
    apply sr tokTB (by kernel_rfl)
    · intro RR hRR
      refine w_move (by constructor) ?_
      refine w_move (by constructor) ?_
      first | refine w_len_r rfl rfl und74 ?_ | refine w_len_o rfl rfl und74 ?_ | refine w_len_n rfl rfl und74 ?_
      refine w_lss rfl rfl ?_
      exact hRR
    refine snd_cond _ rfl (fun hc12 => ?_) (fun hc12 => ?_)
    · try simp only [Bool.not_eq_true', Bool.not_eq_false', Bool.not_eq_true, Bool.not_eq_false, decide_eq_true_eq, decide_eq_false_iff_not, Int.not_lt, Int.not_le, Classical.not_not, ne_eq] at hc12
      have lt_i : i < M := by omega
      refine snd_skip ?_
      refine snd_seq ?_
      refine snd_block ?_
      apply sd tokTB mixed (by kernel_rfl) (by kernel_rfl)
      · intro RR hRR
        first | refine w_ldc rfl kn31 (by constructor) (by exact sz31.symm) (by exact ag31.symm) ?_ | refine w_ldp rfl kn31 rfl (by constructor) (by exact sz31.symm) (by exact ag31.symm) ?_
        refine w_move (by constructor) ?_
        refine w_move (by constructor) ?_
        first | refine w_iar rfl rfl und74 kn29 (by exact sz29.symm) ?_ rfl ?_ | refine w_iao rfl rfl und74 kn29 ?_ ?_
        · exact ⟨by omega, by omega⟩
        first | refine w_ldc rfl kn29 (by constructor) (by exact sz29.symm) (by exact ag29.symm) ?_ | refine w_ldp rfl kn29 rfl (by constructor) (by exact sz29.symm) (by exact ag29.symm) ?_
        refine w_call0 rfl (exc (by first | exact rfl | exact exp_alg | exact exp_calg | exact ex_vl | exact exp_closed (by assumption)) (exc (by first | exact rfl | exact exp_alg | exact exp_calg | exact ex_vl | exact exp_closed (by assumption)) exn)) (c_l01Vector (v := F i) (hF i)) (by first | exact trivial | exact fun _ => trivial | exact fun _ _ => trivial | exact fun _ _ _ => trivial | exact nr_alg | exact nr_pair (by first | exact trivial | exact fun _ => trivial | exact nr_alg) (by first | exact trivial | exact fun _ => trivial)) (fun _ => by first | exact rfl | exact shift_alg | exact shift_pair rfl rfl | exact shift_pair shift_alg rfl) ?_
        refine w_not rfl ?_
        exact hRR
      refine snd_cond _ rfl (fun hc21 => ?_) (fun hc21 => ?_)
      · try simp only [Bool.not_eq_true', Bool.not_eq_false', Bool.not_eq_true, Bool.not_eq_false, decide_eq_true_eq, decide_eq_false_iff_not, Int.not_lt, Int.not_le, Classical.not_not, ne_eq] at hc21
        apply sr tokTB (by kernel_rfl)
        · intro RR hRR
          refine w_assign (by constructor) ?_
          exact hRR
        refine snd_ret ?_
        exact rt (T := TB) (fun V => m_int (cZ_no (fun h => hc21 (h.2 i (by omega)))).symm)
      · try simp only [Bool.not_eq_true', Bool.not_eq_false', Bool.not_eq_true, Bool.not_eq_false, decide_eq_true_eq, decide_eq_false_iff_not, Int.not_lt, Int.not_le, Classical.not_not, ne_eq] at hc21
        refine snd_skip ?_
        apply lr tokTB (by kernel_rfl)
        · intro RR hRR
          refine w_move (by constructor) ?_
          refine w_add rfl rfl (by first | exact w64 (by omega) (by omega) | exact w64b (by assumption) _ | exact w64t (by assumption) _ _ _ | exact rfl) ?_
          refine w_assign (by constructor) ?_
          exact hRR
        refine ⟨i + 1, ρ0, ?_, ⟨by omega, all_step inv_i hc21⟩, (by dsimp only; omega)⟩
        exact ⟨⟨(by first | exact m_vl | exact mt_fz (by exact trivial) rfl (fun _ _ => mt_vec (fun _ _ => rfl))), m_calg, (by first | exact m_int rfl | exact m_int (by omega) | exact m_int (by simp; done) | (exact m_int (by simp; omega))), trivial⟩, trivial, trivial⟩
    · try simp only [Bool.not_eq_true', Bool.not_eq_false', Bool.not_eq_true, Bool.not_eq_false, decide_eq_true_eq, decide_eq_false_iff_not, Int.not_lt, Int.not_le, Classical.not_not, ne_eq] at hc12
      have ge_i : M = i := by omega
      subst ge_i
      refine snd_exit ?_
      apply sr tokTB (by kernel_rfl)
      · intro RR hRR
        refine w_assign (by constructor) ?_
        exact hRR
      refine snd_ret ?_
      exact rt (T := TB) (fun V => m_int (cZ_ok ⟨hc8, inv_i⟩).symm)
theorem c_valid {p n : Int} {T : Nat → Nat → Nat → Int} {fo : Nat → Int} {M : Nat} {F : Nat → Nat → Int} (hT : RB T) (hf : RV fo) (hM : M ≤ 1000000) (hF : ∀ i, B8 (F i)) : ACalls Try.prog TB 45 [algA p n T fo, vlA M F] (.int .i64 (cZ p n T fo M F)) [] := by
  refine acalls_of tokTB Try.func45 rfl rfl (Nat.le_of_ble_eq_true rfl) ?_
  apply sr tokTB (by kernel_rfl)
  · intro RR hRR
    refine w_boxc (HV.eq (by constructor)) (by exact trivial) ?_
    refine w_assign (by constructor) ?_
    exact hRR
  refine snd_seq ?_
  apply srG (env' := (12, .bool (!(decide (VA p n T fo)) || decide (0 ≤ idxF (fun i => !decide (smP p n (F i))) M))) :: (11, .any) :: (10, .any) :: (9, .any) :: (8, _) :: (7, _) :: (6, _) :: (5, _) :: _) tokTB (by kernel_rfl)
  · intro RR hRR
    first | refine w_ldc rfl kn31 (by constructor) (by exact sz31.symm) (by exact ag31.symm) ?_ | refine w_ldp rfl kn31 rfl (by constructor) (by exact sz31.symm) (by exact ag31.symm) ?_
    refine w_call0 rfl (exc (by first | exact rfl | exact exp_alg | exact exp_calg | exact ex_vl | exact exp_closed (by assumption)) exn) (c_IsAlgebra hT hf) (by first | exact trivial | exact fun _ => trivial | exact fun _ _ => trivial | exact fun _ _ _ => trivial | exact nr_alg | exact nr_pair (by first | exact trivial | exact fun _ => trivial | exact nr_alg) (by first | exact trivial | exact fun _ => trivial)) (fun _ => by first | exact rfl | exact shift_alg | exact shift_pair rfl rfl | exact shift_pair shift_alg rfl) ?_
    refine w_not rfl ?_
    refine w_move (by constructor) ?_
    refine w_g rfl rfl (fun hg3 => ?_) (fun hg3 => ?_)
    · skip
      refine w_move (by constructor) ?_
      refine w_g_on rfl rfl hg3 ?_
      refine w_mkf1 (by constructor) ?_
      refine w_g_on rfl rfl hg3 ?_
      refine w_call0 rfl (exc ex_vl (exc (exp_closed (closed_cap1 closed_calg)) exn)) (c_ContainsFuncV (nc := 1) (caps := cap1 (.cptr (algA p n T fo))) (P := fun i => !decide (smP p n (F i))) hM (closed_cap1 closed_calg) (fun i _ => c_valid1 (hF i))) (by first | exact trivial | exact fun _ => trivial | exact fun _ _ => trivial | exact fun _ _ _ => trivial | exact nr_alg | exact nr_pair (by first | exact trivial | exact fun _ => trivial | exact nr_alg) (by first | exact trivial | exact fun _ => trivial)) (fun _ => by first | exact rfl | exact shift_alg | exact shift_pair rfl rfl | exact shift_pair shift_alg rfl) ?_
      refine w_pick_0 rfl hg3 (by constructor) ?_
      try simp only [Int.toNat_natCast] at hg3
      exact hRR _ (EL.cons (.inr (by first | rfl | (simp only [hg3, Bool.true_or, Bool.false_or, Bool.true_and, Bool.false_and, Bool.or_true, Bool.or_false]; done) | (simp only [hg3, Bool.true_or, Bool.false_or, Bool.true_and, Bool.false_and, Bool.or_true, Bool.or_false]; rfl) | simp [hg3])) (EL.cons (.inl rfl) (EL.cons (.inl rfl) (EL.cons (.inl rfl) (EL.cons (.inr rfl) (EL.cons (.inr rfl) (EL.cons (.inr rfl) (EL.cons (.inr rfl) (EL.refl _)))))))))
    · have hg3 := eq_true_of_ne_false hg3
      refine w_g_off rfl rfl (by rw [hg3]; decide) ?_
      refine w_g_off rfl rfl (by rw [hg3]; decide) ?_
      refine w_pick_1 rfl hg3 (by constructor) ?_
      try simp only [Int.toNat_natCast] at hg3
      exact hRR _ (EL.cons (.inr (by first | rfl | (simp only [hg3, Bool.true_or, Bool.false_or, Bool.true_and, Bool.false_and, Bool.or_true, Bool.or_false]; done) | (simp only [hg3, Bool.true_or, Bool.false_or, Bool.true_and, Bool.false_and, Bool.or_true, Bool.or_false]; rfl) | simp [hg3])) (EL.cons (.inl rfl) (EL.cons (.inl rfl) (EL.cons (.inl rfl) (EL.cons (.inr rfl) (EL.cons (.inr rfl) (EL.cons (.inr rfl) (EL.cons (.inr rfl) (EL.refl _)))))))))
  refine snd_cond _ rfl (fun hc12 => ?_) (fun hc12 => ?_)
  · skip
    apply sr tokTB (by kernel_rfl)
    · intro RR hRR
      refine w_assign (by constructor) ?_
      exact hRR
    refine snd_ret ?_
    exact rt (T := TB) (fun V => m_int (cZ_no (fun h => by rw [decide_eq_true h.1] at hc12; obtain ⟨i, hi, hP⟩ := idx_ge.1 (by simpa using hc12); simp at hP; exact hP (h.2 i hi))).symm)
  · skip
    refine snd_skip ?_
    apply sr tokTB (by kernel_rfl)
    · intro RR hRR
      refine w_assign (by constructor) ?_
      exact hRR
    refine snd_ret ?_
    exact rt (T := TB) (fun V => m_int (cZ_ok (by simp only [Bool.or_eq_false_iff, Bool.not_eq_false', decide_eq_true_eq, decide_eq_false_iff_not] at hc12; exact ⟨hc12.1, fun i hi => Classical.byContradiction fun hn => hc12.2 (idx_ge.2 ⟨i, hi, by simpa using hn⟩)⟩)).symm)
theorem nil_l {F : Nat → Nat → Int} {a : AV} (h : a.closed) (ht : a ≠ .any) : MtL [a, vlA 0 F] [a, .nilsl] := ⟨Mt_closed h (fun _ _ _ => trivial) ht, rfl, trivial⟩
theorem c_valid0 {p n : Int} {T : Nat → Nat → Nat → Int} {fo : Nat → Int} (hT : RB T) (hf : RV fo) : ACalls Try.prog TB 45 [algA p n T fo, .nilsl] (.int .i64 (cZ p n T fo 0 (fun _ _ => 0))) [] := (c_valid (F := fun _ _ => 0) hT hf (by omega) (fun _ => B8_0)).mt (nil_l closed_alg (by simp))
theorem c_l01Code0 {p n : Int} {T : Nat → Nat → Nat → Int} {fo : Nat → Int} (hT : RB T) (hf : RV fo) : ACalls Try.prog TB 42 [algA p n T fo, .nilsl] (.int .i64 (cZ p n T fo 0 (fun _ _ => 0))) [] := (c_l01Code (F := fun _ _ => 0) hT hf (by omega) (fun _ => B8_0)).mt (nil_l closed_alg (by simp))
end Go.Am
set_option linter.unusedVariables false
set_option linter.unusedSimpArgs false
set_option maxRecDepth 4000
namespace Go.Am
attribute [local irreducible] retQ
open Go.Proofs
theorem c_valid0_ok {p : Int} {n : Nat} {T : Nat → Nat → Nat → Int} {fo : Nat → Int} (hv0 : VN p n T fo) : ACalls Try.prog TB 45 [algA p (n : Int) T fo, .nilsl] (.int .i64 0) [] := by
  have hp : p ≤ 256 := by have := hv0.p0; omega
  have h := c_valid0 hv0.rb hv0.rv (p := p) (n := (n : Int)) (T := T) (fo := fo)
  rwa [cZ_ok (VZ_0.2 hv0.va)] at h
theorem c_valid0_no {p n : Int} {T : Nat → Nat → Nat → Int} {fo : Nat → Int} (hT : RB T) (hf : RV fo) (hz : ¬ VZ p n T fo 0 (fun _ _ => 0)) : ACalls Try.prog TB 45 [algA p n T fo, .nilsl] (.int .i64 1) [] := by
  have h := c_valid0 hT hf (p := p) (n := n) (T := T) (fo := fo)
  rwa [cZ_no hz] at h
theorem c_valid1_ok {p : Int} {n : Nat} {T : Nat → Nat → Nat → Int} {fo : Nat → Int} (hv0 : VN p n T fo) {v : Nat → Int} (hv : VV p n v) : ACalls Try.prog TB 45 [algA p (n : Int) T fo, vlA 1 (vs1 v)] (.int .i64 0) [] := by
  have hp : p ≤ 256 := by have := hv0.p0; omega
  have h := c_valid hv0.rb hv0.rv (M := 1) (by omega) (vs1_B8 (hv.B8 hp)) (p := p) (n := (n : Int)) (T := T) (fo := fo)
  rwa [cZ_ok (VZ_1.2 ⟨hv0.va, hv.sm⟩)] at h
theorem c_valid1_no {p n : Int} {T : Nat → Nat → Nat → Int} {fo : Nat → Int} (hT : RB T) (hf : RV fo) {v : Nat → Int} (hv : B8 v) (hz : ¬ VZ p n T fo 1 (vs1 v)) : ACalls Try.prog TB 45 [algA p n T fo, vlA 1 (vs1 v)] (.int .i64 1) [] := by
  have h := c_valid hT hf (M := 1) (by omega) (vs1_B8 hv) (p := p) (n := n) (T := T) (fo := fo)
  rwa [cZ_no hz] at h
theorem c_valid2_ok {p : Int} {n : Nat} {T : Nat → Nat → Nat → Int} {fo : Nat → Int} (hv0 : VN p n T fo) {v : Nat → Int} (hv : VV p n v) {w : Nat → Int} (hw : VV p n w) : ACalls Try.prog TB 45 [algA p (n : Int) T fo, vlA 2 (vs2 v w)] (.int .i64 0) [] := by
  have hp : p ≤ 256 := by have := hv0.p0; omega
  have h := c_valid hv0.rb hv0.rv (M := 2) (by omega) (vs2_B8 (hv.B8 hp) (hw.B8 hp)) (p := p) (n := (n : Int)) (T := T) (fo := fo)
  rwa [cZ_ok (VZ_2.2 ⟨hv0.va, hv.sm, hw.sm⟩)] at h
theorem c_valid2_no {p n : Int} {T : Nat → Nat → Nat → Int} {fo : Nat → Int} (hT : RB T) (hf : RV fo) {v : Nat → Int} (hv : B8 v) {w : Nat → Int} (hw : B8 w) (hz : ¬ VZ p n T fo 2 (vs2 v w)) : ACalls Try.prog TB 45 [algA p n T fo, vlA 2 (vs2 v w)] (.int .i64 1) [] := by
  have h := c_valid hT hf (M := 2) (by omega) (vs2_B8 hv hw) (p := p) (n := n) (T := T) (fo := fo)
  rwa [cZ_no hz] at h
theorem c_l01Code0_ok {p : Int} {n : Nat} {T : Nat → Nat → Nat → Int} {fo : Nat → Int} (hv0 : VN p n T fo) : ACalls Try.prog TB 42 [algA p (n : Int) T fo, .nilsl] (.int .i64 0) [] := by
  have hp : p ≤ 256 := by have := hv0.p0; omega
  have h := c_l01Code0 hv0.rb hv0.rv (p := p) (n := (n : Int)) (T := T) (fo := fo)
  rwa [cZ_ok (VZ_0.2 hv0.va)] at h
theorem c_l01Code0_no {p n : Int} {T : Nat → Nat → Nat → Int} {fo : Nat → Int} (hT : RB T) (hf : RV fo) (hz : ¬ VZ p n T fo 0 (fun _ _ => 0)) : ACalls Try.prog TB 42 [algA p n T fo, .nilsl] (.int .i64 1) [] := by
  have h := c_l01Code0 hT hf (p := p) (n := n) (T := T) (fo := fo)
  rwa [cZ_no hz] at h
theorem c_l01Code1_ok {p : Int} {n : Nat} {T : Nat → Nat → Nat → Int} {fo : Nat → Int} (hv0 : VN p n T fo) {v : Nat → Int} (hv : VV p n v) : ACalls Try.prog TB 42 [algA p (n : Int) T fo, vlA 1 (vs1 v)] (.int .i64 0) [] := by
  have hp : p ≤ 256 := by have := hv0.p0; omega
  have h := c_l01Code hv0.rb hv0.rv (M := 1) (by omega) (vs1_B8 (hv.B8 hp)) (p := p) (n := (n : Int)) (T := T) (fo := fo)
  rwa [cZ_ok (VZ_1.2 ⟨hv0.va, hv.sm⟩)] at h
theorem c_l01Code1_no {p n : Int} {T : Nat → Nat → Nat → Int} {fo : Nat → Int} (hT : RB T) (hf : RV fo) {v : Nat → Int} (hv : B8 v) (hz : ¬ VZ p n T fo 1 (vs1 v)) : ACalls Try.prog TB 42 [algA p n T fo, vlA 1 (vs1 v)] (.int .i64 1) [] := by
  have h := c_l01Code hT hf (M := 1) (by omega) (vs1_B8 hv) (p := p) (n := n) (T := T) (fo := fo)
  rwa [cZ_no hz] at h
theorem c_l01Code2_ok {p : Int} {n : Nat} {T : Nat → Nat → Nat → Int} {fo : Nat → Int} (hv0 : VN p n T fo) {v : Nat → Int} (hv : VV p n v) {w : Nat → Int} (hw : VV p n w) : ACalls Try.prog TB 42 [algA p (n : Int) T fo, vlA 2 (vs2 v w)] (.int .i64 0) [] := by
  have hp : p ≤ 256 := by have := hv0.p0; omega
  have h := c_l01Code hv0.rb hv0.rv (M := 2) (by omega) (vs2_B8 (hv.B8 hp) (hw.B8 hp)) (p := p) (n := (n : Int)) (T := T) (fo := fo)
  rwa [cZ_ok (VZ_2.2 ⟨hv0.va, hv.sm, hw.sm⟩)] at h
theorem c_l01Code2_no {p n : Int} {T : Nat → Nat → Nat → Int} {fo : Nat → Int} (hT : RB T) (hf : RV fo) {v : Nat → Int} (hv : B8 v) {w : Nat → Int} (hw : B8 w) (hz : ¬ VZ p n T fo 2 (vs2 v w)) : ACalls Try.prog TB 42 [algA p n T fo, vlA 2 (vs2 v w)] (.int .i64 1) [] := by
  have h := c_l01Code hT hf (M := 2) (by omega) (vs2_B8 hv hw) (p := p) (n := n) (T := T) (fo := fo)
  rwa [cZ_no hz] at h

theorem c_idempotent {p : Int} {n : Nat} {T : Nat → Nat → Nat → Int} {fo : Nat → Int} (hv0 : VN p n T fo) {v : Nat → Int} (hv : VV p n v) : ACalls Try.prog TB 46 [.cptr (algA p (n : Int) T fo), vecA v] (.bool (decide (eqN 6 (timesF p n T v v) v))) [] := by
  have hp8 := hv0.p0
  refine acalls_of tokTB Try.func46 rfl rfl (Nat.le_of_ble_eq_true rfl) ?_
  apply sr tokTB (by kernel_rfl)
  · intro RR hRR
    refine w_boxc (HV.eq (by constructor)) (by exact trivial) ?_
    refine w_assign (by constructor) ?_
    exact hRR
  apply sd tokTB mixed (by kernel_rfl) (by kernel_rfl)
  · intro RR hRR
    refine w_move (by constructor) ?_
    first | refine w_ldc rfl kn29 (by constructor) (by exact sz29.symm) (by exact ag29.symm) ?_ | refine w_ldp rfl kn29 rfl (by constructor) (by exact sz29.symm) (by exact ag29.symm) ?_
    first | refine w_ldc rfl kn29 (by constructor) (by exact sz29.symm) (by exact ag29.symm) ?_ | refine w_ldp rfl kn29 rfl (by constructor) (by exact sz29.symm) (by exact ag29.symm) ?_
    refine w_call0 rfl (exc (by first | exact rfl | exact exp_alg | exact exp_calg | exact ex_vl | exact exp_closed (by assumption)) (exc (by first | exact rfl | exact exp_alg | exact exp_calg | exact ex_vl | exact exp_closed (by assumption)) (exc (by first | exact rfl | exact exp_alg | exact exp_calg | exact ex_vl | exact exp_closed (by assumption)) exn))) (c_times (u := v) (v := v) (by omega) (by omega) hv0.n6 hv0.T8 (hv.B8 (by omega)) (hv.B8 (by omega))) (by first | exact trivial | exact fun _ => trivial | exact fun _ _ => trivial | exact fun _ _ _ => trivial | exact nr_alg | exact nr_pair (by first | exact trivial | exact fun _ => trivial | exact nr_alg) (by first | exact trivial | exact fun _ => trivial)) (fun _ => by first | exact rfl | exact shift_alg | exact shift_pair rfl rfl | exact shift_pair shift_alg rfl) ?_
    first | refine w_ldc rfl kn29 (by constructor) (by exact sz29.symm) (by exact ag29.symm) ?_ | refine w_ldp rfl kn29 rfl (by constructor) (by exact sz29.symm) (by exact ag29.symm) ?_
    refine w_aeql rfl rfl und29 und5 ?_
    refine w_assign (by constructor) ?_
    exact hRR
  refine snd_ret ?_
  exact rt (T := TB) (fun V => by first | exact m_bool rfl | exact m_int rfl)
theorem c_sIsIdempotent_ok {p : Int} {n : Nat} {T : Nat → Nat → Nat → Int} {fo : Nat → Int} (hv0 : VN p n T fo) {v : Nat → Int} (hv : VV p n v) : ACalls Try.prog TB 15 [algA p (n : Int) T fo, vecA v] (.tup 2 (pairA (.bool (decide (eqN 6 (timesF p n T v v) v))) (.int .i64 0))) [] := by
  have hp8 := hv0.p0
  refine acalls_of tokTB Try.func15 rfl rfl (Nat.le_of_ble_eq_true rfl) ?_
  apply sr tokTB (by kernel_rfl)
  · intro RR hRR
    refine w_boxc (HV.eq (by constructor)) (by exact trivial) ?_
    refine w_boxc (HV.eq (by constructor)) (by exact trivial) ?_
    refine w_assign (by constructor) ?_
    refine w_assign (by constructor) ?_
    exact hRR
  refine snd_seq ?_
  apply sr tokTB (by kernel_rfl)
  · intro RR hRR
    first | refine w_ldc rfl kn31 (by constructor) (by exact sz31.symm) (by exact ag31.symm) ?_ | refine w_ldp rfl kn31 rfl (by constructor) (by exact sz31.symm) (by exact ag31.symm) ?_
    first | refine w_ldc rfl kn29 (by constructor) (by exact sz29.symm) (by exact ag29.symm) ?_ | refine w_ldp rfl kn29 rfl (by constructor) (by exact sz29.symm) (by exact ag29.symm) ?_
    refine w_bsl1 und74 kn29 (by rw [sz29]; rfl) rfl (by constructor) (by exact trivial) (by exact sz29.symm) (by first | exact trivial | exact ssh_vec | exact ⟨rfl, fun _ => trivial⟩) ?_
    refine w_call0 rfl (exc exp_alg (exc (ex_l1 zr29 rfl) exn)) (c_l01Code1_ok hv0 hv) (by first | exact trivial | exact fun _ => trivial | exact fun _ _ => trivial | exact fun _ _ _ => trivial | exact nr_alg | exact nr_pair (by first | exact trivial | exact fun _ => trivial | exact nr_alg) (by first | exact trivial | exact fun _ => trivial)) (fun _ => by first | exact rfl | exact shift_alg | exact shift_pair rfl rfl | exact shift_pair shift_alg rfl) ?_
    refine w_assign (by constructor) ?_
    exact hRR
  apply sr tokTB (by kernel_rfl)
  · intro RR hRR
    refine w_move (by constructor) ?_
    refine w_neq rfl rfl ?_
    exact hRR
  refine snd_cond_false rfl ?_
  refine snd_skip ?_
  apply sd tokTB mixed (by kernel_rfl) (by kernel_rfl)
  · intro RR hRR
    first | refine w_ldc rfl kn31 (by constructor) (by exact sz31.symm) (by exact ag31.symm) ?_ | refine w_ldp rfl kn31 rfl (by constructor) (by exact sz31.symm) (by exact ag31.symm) ?_
    first | refine w_ldc rfl kn29 (by constructor) (by exact sz29.symm) (by exact ag29.symm) ?_ | refine w_ldp rfl kn29 rfl (by constructor) (by exact sz29.symm) (by exact ag29.symm) ?_
    first | refine w_ldc rfl kn29 (by constructor) (by exact sz29.symm) (by exact ag29.symm) ?_ | refine w_ldp rfl kn29 rfl (by constructor) (by exact sz29.symm) (by exact ag29.symm) ?_
    refine w_call0 rfl (exc (by first | exact rfl | exact exp_alg | exact exp_calg | exact ex_vl | exact exp_closed (by assumption)) (exc (by first | exact rfl | exact exp_alg | exact exp_calg | exact ex_vl | exact exp_closed (by assumption)) (exc (by first | exact rfl | exact exp_alg | exact exp_calg | exact ex_vl | exact exp_closed (by assumption)) exn))) (c_l01Times (u := v) (v := v) (by omega) (by omega) hv0.n6 hv0.T8 (hv.B8 (by omega)) (hv.B8 (by omega))) (by first | exact trivial | exact fun _ => trivial | exact fun _ _ => trivial | exact fun _ _ _ => trivial | exact nr_alg | exact nr_pair (by first | exact trivial | exact fun _ => trivial | exact nr_alg) (by first | exact trivial | exact fun _ => trivial)) (fun _ => by first | exact rfl | exact shift_alg | exact shift_pair rfl rfl | exact shift_pair shift_alg rfl) ?_
    first | refine w_ldc rfl kn29 (by constructor) (by exact sz29.symm) (by exact ag29.symm) ?_ | refine w_ldp rfl kn29 rfl (by constructor) (by exact sz29.symm) (by exact ag29.symm) ?_
    refine w_aeql rfl rfl und29 und5 ?_
    refine w_assign (by constructor) ?_
    refine w_assign (by constructor) ?_
    exact hRR
  refine snd_ret ?_
  exact rt_tt (T := TB) (fun V => rfl) (fun V => rfl)
theorem c_sIsIdempotent_no {p n : Int} {T : Nat → Nat → Nat → Int} {fo : Nat → Int} (hT : RB T) (hf : RV fo) {v : Nat → Int} (hv : B8 v) (hz : ¬ VZ p n T fo 1 (vs1 v)) : ACalls Try.prog TB 15 [algA p n T fo, vecA v] (.tup 2 (pairA (.bool false) (.int .i64 1))) [] := by
  refine acalls_of tokTB Try.func15 rfl rfl (Nat.le_of_ble_eq_true rfl) ?_
  apply sr tokTB (by kernel_rfl)
  · intro RR hRR
    refine w_boxc (HV.eq (by constructor)) (by exact trivial) ?_
    refine w_boxc (HV.eq (by constructor)) (by exact trivial) ?_
    refine w_assign (by constructor) ?_
    refine w_assign (by constructor) ?_
    exact hRR
  refine snd_seq ?_
  apply sr tokTB (by kernel_rfl)
  · intro RR hRR
    first | refine w_ldc rfl kn31 (by constructor) (by exact sz31.symm) (by exact ag31.symm) ?_ | refine w_ldp rfl kn31 rfl (by constructor) (by exact sz31.symm) (by exact ag31.symm) ?_
    first | refine w_ldc rfl kn29 (by constructor) (by exact sz29.symm) (by exact ag29.symm) ?_ | refine w_ldp rfl kn29 rfl (by constructor) (by exact sz29.symm) (by exact ag29.symm) ?_
    refine w_bsl1 und74 kn29 (by rw [sz29]; rfl) rfl (by constructor) (by exact trivial) (by exact sz29.symm) (by first | exact trivial | exact ssh_vec | exact ⟨rfl, fun _ => trivial⟩) ?_
    refine w_call0 rfl (exc exp_alg (exc (ex_l1 zr29 rfl) exn)) (c_l01Code1_no hT hf hv hz) (by first | exact trivial | exact fun _ => trivial | exact fun _ _ => trivial | exact fun _ _ _ => trivial | exact nr_alg | exact nr_pair (by first | exact trivial | exact fun _ => trivial | exact nr_alg) (by first | exact trivial | exact fun _ => trivial)) (fun _ => by first | exact rfl | exact shift_alg | exact shift_pair rfl rfl | exact shift_pair shift_alg rfl) ?_
    refine w_assign (by constructor) ?_
    exact hRR
  apply sr tokTB (by kernel_rfl)
  · intro RR hRR
    refine w_move (by constructor) ?_
    refine w_neq rfl rfl ?_
    exact hRR
  refine snd_cond_true rfl ?_
  apply sr tokTB (by kernel_rfl)
  · intro RR hRR
    refine w_move (by constructor) ?_
    refine w_assign (by constructor) ?_
    refine w_assign (by constructor) ?_
    exact hRR
  refine snd_ret ?_
  exact rt_tt (T := TB) (fun V => rfl) (fun V => rfl)
theorem c_iIsIdempotent_ok {p : Int} {n : Nat} {T : Nat → Nat → Nat → Int} {fo : Nat → Int} (hv0 : VN p n T fo) {v : Nat → Int} (hv : VV p n v) : ACalls Try.prog TB 18 [algA p (n : Int) T fo, vecA v] (.tup 2 (pairA (.bool (decide (eqN 6 (timesF p n T v v) v))) (.int .i64 0))) [] := by
  have hp8 := hv0.p0
  refine acalls_of tokTB Try.func18 rfl rfl (Nat.le_of_ble_eq_true rfl) ?_
  apply sr tokTB (by kernel_rfl)
  · intro RR hRR
    refine w_boxc (HV.eq (by constructor)) (by exact trivial) ?_
    refine w_boxc (HV.eq (by constructor)) (by exact trivial) ?_
    refine w_assign (by constructor) ?_
    refine w_assign (by constructor) ?_
    exact hRR
  refine snd_seq ?_
  apply sr tokTB (by kernel_rfl)
  · intro RR hRR
    first | refine w_ldc rfl kn31 (by constructor) (by exact sz31.symm) (by exact ag31.symm) ?_ | refine w_ldp rfl kn31 rfl (by constructor) (by exact sz31.symm) (by exact ag31.symm) ?_
    first | refine w_ldc rfl kn29 (by constructor) (by exact sz29.symm) (by exact ag29.symm) ?_ | refine w_ldp rfl kn29 rfl (by constructor) (by exact sz29.symm) (by exact ag29.symm) ?_
    refine w_bsl1 und74 kn29 (by rw [sz29]; rfl) rfl (by constructor) (by exact trivial) (by exact sz29.symm) (by first | exact trivial | exact ssh_vec | exact ⟨rfl, fun _ => trivial⟩) ?_
    refine w_call0 rfl (exc exp_alg (exc (ex_l1 zr29 rfl) exn)) (c_valid1_ok hv0 hv) (by first | exact trivial | exact fun _ => trivial | exact fun _ _ => trivial | exact fun _ _ _ => trivial | exact nr_alg | exact nr_pair (by first | exact trivial | exact fun _ => trivial | exact nr_alg) (by first | exact trivial | exact fun _ => trivial)) (fun _ => by first | exact rfl | exact shift_alg | exact shift_pair rfl rfl | exact shift_pair shift_alg rfl) ?_
    refine w_assign (by constructor) ?_
    exact hRR
  apply sr tokTB (by kernel_rfl)
  · intro RR hRR
    refine w_move (by constructor) ?_
    refine w_neq rfl rfl ?_
    exact hRR
  refine snd_cond_false rfl ?_
  refine snd_skip ?_
  apply sr tokTB (by kernel_rfl)
  · intro RR hRR
    first | refine w_ldc rfl kn29 (by constructor) (by exact sz29.symm) (by exact ag29.symm) ?_ | refine w_ldp rfl kn29 rfl (by constructor) (by exact sz29.symm) (by exact ag29.symm) ?_
    refine w_call0 rfl (exc (by first | exact rfl | exact exp_alg | exact exp_calg | exact ex_vl | exact exp_closed (by assumption)) (exc (by first | exact rfl | exact exp_alg | exact exp_calg | exact ex_vl | exact exp_closed (by assumption)) exn)) (c_idempotent hv0 hv) (by first | exact trivial | exact fun _ => trivial | exact fun _ _ => trivial | exact fun _ _ _ => trivial | exact nr_alg | exact nr_pair (by first | exact trivial | exact fun _ => trivial | exact nr_alg) (by first | exact trivial | exact fun _ => trivial)) (fun _ => by first | exact rfl | exact shift_alg | exact shift_pair rfl rfl | exact shift_pair shift_alg rfl) ?_
    refine w_assign (by constructor) ?_
    refine w_assign (by constructor) ?_
    exact hRR
  refine snd_ret ?_
  exact rt_tt (T := TB) (fun V => rfl) (fun V => rfl)
theorem c_iIsIdempotent_no {p n : Int} {T : Nat → Nat → Nat → Int} {fo : Nat → Int} (hT : RB T) (hf : RV fo) {v : Nat → Int} (hv : B8 v) (hz : ¬ VZ p n T fo 1 (vs1 v)) : ACalls Try.prog TB 18 [algA p n T fo, vecA v] (.tup 2 (pairA (.bool false) (.int .i64 1))) [] := by
  refine acalls_of tokTB Try.func18 rfl rfl (Nat.le_of_ble_eq_true rfl) ?_
  apply sr tokTB (by kernel_rfl)
  · intro RR hRR
    refine w_boxc (HV.eq (by constructor)) (by exact trivial) ?_
    refine w_boxc (HV.eq (by constructor)) (by exact trivial) ?_
    refine w_assign (by constructor) ?_
    refine w_assign (by constructor) ?_
    exact hRR
  refine snd_seq ?_
  apply sr tokTB (by kernel_rfl)
  · intro RR hRR
    first | refine w_ldc rfl kn31 (by constructor) (by exact sz31.symm) (by exact ag31.symm) ?_ | refine w_ldp rfl kn31 rfl (by constructor) (by exact sz31.symm) (by exact ag31.symm) ?_
    first | refine w_ldc rfl kn29 (by constructor) (by exact sz29.symm) (by exact ag29.symm) ?_ | refine w_ldp rfl kn29 rfl (by constructor) (by exact sz29.symm) (by exact ag29.symm) ?_
    refine w_bsl1 und74 kn29 (by rw [sz29]; rfl) rfl (by constructor) (by exact trivial) (by exact sz29.symm) (by first | exact trivial | exact ssh_vec | exact ⟨rfl, fun _ => trivial⟩) ?_
    refine w_call0 rfl (exc exp_alg (exc (ex_l1 zr29 rfl) exn)) (c_valid1_no hT hf hv hz) (by first | exact trivial | exact fun _ => trivial | exact fun _ _ => trivial | exact fun _ _ _ => trivial | exact nr_alg | exact nr_pair (by first | exact trivial | exact fun _ => trivial | exact nr_alg) (by first | exact trivial | exact fun _ => trivial)) (fun _ => by first | exact rfl | exact shift_alg | exact shift_pair rfl rfl | exact shift_pair shift_alg rfl) ?_
    refine w_assign (by constructor) ?_
    exact hRR
  apply sr tokTB (by kernel_rfl)
  · intro RR hRR
    refine w_move (by constructor) ?_
    refine w_neq rfl rfl ?_
    exact hRR
  refine snd_cond_true rfl ?_
  apply sr tokTB (by kernel_rfl)
  · intro RR hRR
    refine w_move (by constructor) ?_
    refine w_assign (by constructor) ?_
    refine w_assign (by constructor) ?_
    exact hRR
  refine snd_ret ?_
  exact rt_tt (T := TB) (fun V => rfl) (fun V => rfl)
end Go.Am
set_option linter.unusedVariables false
set_option linter.unusedSimpArgs false
set_option maxRecDepth 4000
namespace Go.Am
attribute [local irreducible] retQ
open Go.Proofs
theorem lIsIdempotent_ok {p : Int} {n : Nat} {T : Nat → Nat → Nat → Int} {fo : Nat → Int} (hv0 : VN p n T fo) {v : Nat → Int} (hv : VV p n v) : ACalls Try.prog TB 3 [algA p (n : Int) T fo, vecA v] (.bool true) [] := by
  refine acalls_of tokTB Try.func3 rfl rfl (Nat.le_of_ble_eq_true rfl) ?_
  apply sr tokTB (by kernel_rfl)
  · intro RR hRR
    refine w_boxc (HV.eq (by constructor)) (by exact trivial) ?_
    refine w_boxc (HV.eq (by constructor)) (by exact trivial) ?_
    refine w_assign (by constructor) ?_
    exact hRR
  apply sd tokTB mixed (by kernel_rfl) (by kernel_rfl)
  · intro RR hRR
    first | refine w_ldc rfl kn26 (by constructor) (by exact sz26.symm) (by exact ag26.symm) ?_ | refine w_ldp rfl kn26 rfl (by constructor) (by exact sz26.symm) (by exact ag26.symm) ?_
    refine w_call0 rfl (exc (by first | exact rfl | exact exp_alg | exact exp_calg | exact ex_vl | exact exp_closed (by assumption)) exn) (c_toAlgebra) (by first | exact trivial | exact fun _ => trivial | exact fun _ _ => trivial | exact fun _ _ _ => trivial | exact nr_alg | exact nr_pair (by first | exact trivial | exact fun _ => trivial | exact nr_alg) (by first | exact trivial | exact fun _ => trivial)) (fun _ => by first | exact rfl | exact shift_alg | exact shift_pair rfl rfl | exact shift_pair shift_alg rfl) ?_
    first | refine w_ldc rfl kn22 (by constructor) (by exact sz22.symm) (by exact ag22.symm) ?_ | refine w_ldp rfl kn22 rfl (by constructor) (by exact sz22.symm) (by exact ag22.symm) ?_
    refine w_call0 rfl (exc (by first | exact rfl | exact exp_alg | exact exp_calg | exact ex_vl | exact exp_closed (by assumption)) exn) (c_toVector) (by first | exact trivial | exact fun _ => trivial | exact fun _ _ => trivial | exact fun _ _ _ => trivial | exact nr_alg | exact nr_pair (by first | exact trivial | exact fun _ => trivial | exact nr_alg) (by first | exact trivial | exact fun _ => trivial)) (fun _ => by first | exact rfl | exact shift_alg | exact shift_pair rfl rfl | exact shift_pair shift_alg rfl) ?_
    refine w_call0 rfl (exc (by first | exact rfl | exact exp_alg | exact exp_calg | exact ex_vl | exact exp_closed (by assumption)) (exc (by first | exact rfl | exact exp_alg | exact exp_calg | exact ex_vl | exact exp_closed (by assumption)) exn)) (c_sIsIdempotent_ok hv0 hv) (by first | exact trivial | exact fun _ => trivial | exact fun _ _ => trivial | exact fun _ _ _ => trivial | exact nr_alg | exact nr_pair (by first | exact trivial | exact fun _ => trivial | exact nr_alg) (by first | exact trivial | exact fun _ => trivial)) (fun _ => by first | exact rfl | exact shift_alg | exact shift_pair rfl rfl | exact shift_pair shift_alg rfl) ?_
    refine w_move (by constructor) ?_
    refine w_ext rfl (by decide) (by constructor) ?_
    refine w_ext rfl (by decide) (by constructor) ?_
    refine w_assign (by constructor) ?_
    refine w_assign (by constructor) ?_
    exact hRR
  apply sd tokTB mixed (by kernel_rfl) (by kernel_rfl)
  · intro RR hRR
    first | refine w_ldc rfl kn26 (by constructor) (by exact sz26.symm) (by exact ag26.symm) ?_ | refine w_ldp rfl kn26 rfl (by constructor) (by exact sz26.symm) (by exact ag26.symm) ?_
    refine w_call0 rfl (exc (by first | exact rfl | exact exp_alg | exact exp_calg | exact ex_vl | exact exp_closed (by assumption)) exn) (c_toAlgebra) (by first | exact trivial | exact fun _ => trivial | exact fun _ _ => trivial | exact fun _ _ _ => trivial | exact nr_alg | exact nr_pair (by first | exact trivial | exact fun _ => trivial | exact nr_alg) (by first | exact trivial | exact fun _ => trivial)) (fun _ => by first | exact rfl | exact shift_alg | exact shift_pair rfl rfl | exact shift_pair shift_alg rfl) ?_
    first | refine w_ldc rfl kn22 (by constructor) (by exact sz22.symm) (by exact ag22.symm) ?_ | refine w_ldp rfl kn22 rfl (by constructor) (by exact sz22.symm) (by exact ag22.symm) ?_
    refine w_call0 rfl (exc (by first | exact rfl | exact exp_alg | exact exp_calg | exact ex_vl | exact exp_closed (by assumption)) exn) (c_toVector) (by first | exact trivial | exact fun _ => trivial | exact fun _ _ => trivial | exact fun _ _ _ => trivial | exact nr_alg | exact nr_pair (by first | exact trivial | exact fun _ => trivial | exact nr_alg) (by first | exact trivial | exact fun _ => trivial)) (fun _ => by first | exact rfl | exact shift_alg | exact shift_pair rfl rfl | exact shift_pair shift_alg rfl) ?_
    refine w_call0 rfl (exc (by first | exact rfl | exact exp_alg | exact exp_calg | exact ex_vl | exact exp_closed (by assumption)) (exc (by first | exact rfl | exact exp_alg | exact exp_calg | exact ex_vl | exact exp_closed (by assumption)) exn)) (c_iIsIdempotent_ok hv0 hv) (by first | exact trivial | exact fun _ => trivial | exact fun _ _ => trivial | exact fun _ _ _ => trivial | exact nr_alg | exact nr_pair (by first | exact trivial | exact fun _ => trivial | exact nr_alg) (by first | exact trivial | exact fun _ => trivial)) (fun _ => by first | exact rfl | exact shift_alg | exact shift_pair rfl rfl | exact shift_pair shift_alg rfl) ?_
    refine w_move (by constructor) ?_
    refine w_ext rfl (by decide) (by constructor) ?_
    refine w_ext rfl (by decide) (by constructor) ?_
    refine w_assign (by constructor) ?_
    refine w_assign (by constructor) ?_
    exact hRR
  refine snd_seq ?_
  apply srG (env' := (32, .bool ((!((decide (eqN 6 (timesF p n T v v) v)) == (decide (eqN 6 (timesF p n T v v) v)))) || decide ((0 : Int) ≠ 0))) :: (31, .any) :: (30, .any) :: (29, .any) :: (28, _) :: (27, _) :: (26, _) :: (25, _) :: _) tokTB (by kernel_rfl)
  · intro RR hRR
    refine w_move (by constructor) ?_
    refine w_move (by constructor) ?_
    refine w_bneq rfl rfl und4 ?_
    refine w_move (by constructor) ?_
    refine w_g rfl rfl (fun hg3 => ?_) (fun hg3 => ?_)
    · skip
      refine w_move (by constructor) ?_
      refine w_g_on rfl rfl hg3 ?_
      refine w_move (by constructor) ?_
      refine w_g_on rfl rfl hg3 ?_
      refine w_neq rfl rfl ?_
      refine w_pick_0 rfl hg3 (by constructor) ?_
      try simp only [Int.toNat_natCast] at hg3
      exact hRR _ (EL.cons (.inr (by first | rfl | (simp only [hg3, Bool.true_or, Bool.false_or, Bool.true_and, Bool.false_and, Bool.or_true, Bool.or_false]; done) | (simp only [hg3, Bool.true_or, Bool.false_or, Bool.true_and, Bool.false_and, Bool.or_true, Bool.or_false]; rfl) | simp [hg3])) (EL.cons (.inl rfl) (EL.cons (.inl rfl) (EL.cons (.inl rfl) (EL.cons (.inr rfl) (EL.cons (.inr rfl) (EL.cons (.inr rfl) (EL.cons (.inr rfl) (EL.refl _)))))))))
    · have hg3 := eq_true_of_ne_false hg3
      refine w_g_off rfl rfl (by rw [hg3]; decide) ?_
      refine w_g_off rfl rfl (by rw [hg3]; decide) ?_
      refine w_pick_1 rfl hg3 (by constructor) ?_
      try simp only [Int.toNat_natCast] at hg3
      exact hRR _ (EL.cons (.inr (by first | rfl | (simp only [hg3, Bool.true_or, Bool.false_or, Bool.true_and, Bool.false_and, Bool.or_true, Bool.or_false]; done) | (simp only [hg3, Bool.true_or, Bool.false_or, Bool.true_and, Bool.false_and, Bool.or_true, Bool.or_false]; rfl) | simp [hg3])) (EL.cons (.inl rfl) (EL.cons (.inl rfl) (EL.cons (.inl rfl) (EL.cons (.inr rfl) (EL.cons (.inr rfl) (EL.cons (.inr rfl) (EL.cons (.inr rfl) (EL.refl _)))))))))
  refine snd_cond _ rfl (fun hc32 => ?_) (fun hc32 => ?_)
  · skip
    exact absurd hc32 (by simp [eqN])
  · skip
    refine snd_skip ?_
    apply sr tokTB (by kernel_rfl)
    · intro RR hRR
      refine w_assign (by constructor) ?_
      exact hRR
    refine snd_ret ?_
    exact rt (T := TB) (fun V => by first | exact m_bool rfl | exact m_int rfl)
theorem lIsIdempotent_no {p n : Int} {T : Nat → Nat → Nat → Int} {fo : Nat → Int} (hT : RB T) (hf : RV fo) {v : Nat → Int} (hv : B8 v) (hz : ¬ VZ p n T fo 1 (vs1 v)) : ACalls Try.prog TB 3 [algA p n T fo, vecA v] (.bool true) [] := by
  refine acalls_of tokTB Try.func3 rfl rfl (Nat.le_of_ble_eq_true rfl) ?_
  apply sr tokTB (by kernel_rfl)
  · intro RR hRR
    refine w_boxc (HV.eq (by constructor)) (by exact trivial) ?_
    refine w_boxc (HV.eq (by constructor)) (by exact trivial) ?_
    refine w_assign (by constructor) ?_
    exact hRR
  apply sd tokTB mixed (by kernel_rfl) (by kernel_rfl)
  · intro RR hRR
    first | refine w_ldc rfl kn26 (by constructor) (by exact sz26.symm) (by exact ag26.symm) ?_ | refine w_ldp rfl kn26 rfl (by constructor) (by exact sz26.symm) (by exact ag26.symm) ?_
    refine w_call0 rfl (exc (by first | exact rfl | exact exp_alg | exact exp_calg | exact ex_vl | exact exp_closed (by assumption)) exn) (c_toAlgebra) (by first | exact trivial | exact fun _ => trivial | exact fun _ _ => trivial | exact fun _ _ _ => trivial | exact nr_alg | exact nr_pair (by first | exact trivial | exact fun _ => trivial | exact nr_alg) (by first | exact trivial | exact fun _ => trivial)) (fun _ => by first | exact rfl | exact shift_alg | exact shift_pair rfl rfl | exact shift_pair shift_alg rfl) ?_
    first | refine w_ldc rfl kn22 (by constructor) (by exact sz22.symm) (by exact ag22.symm) ?_ | refine w_ldp rfl kn22 rfl (by constructor) (by exact sz22.symm) (by exact ag22.symm) ?_
    refine w_call0 rfl (exc (by first | exact rfl | exact exp_alg | exact exp_calg | exact ex_vl | exact exp_closed (by assumption)) exn) (c_toVector) (by first | exact trivial | exact fun _ => trivial | exact fun _ _ => trivial | exact fun _ _ _ => trivial | exact nr_alg | exact nr_pair (by first | exact trivial | exact fun _ => trivial | exact nr_alg) (by first | exact trivial | exact fun _ => trivial)) (fun _ => by first | exact rfl | exact shift_alg | exact shift_pair rfl rfl | exact shift_pair shift_alg rfl) ?_
    refine w_call0 rfl (exc (by first | exact rfl | exact exp_alg | exact exp_calg | exact ex_vl | exact exp_closed (by assumption)) (exc (by first | exact rfl | exact exp_alg | exact exp_calg | exact ex_vl | exact exp_closed (by assumption)) exn)) (c_sIsIdempotent_no hT hf hv hz) (by first | exact trivial | exact fun _ => trivial | exact fun _ _ => trivial | exact fun _ _ _ => trivial | exact nr_alg | exact nr_pair (by first | exact trivial | exact fun _ => trivial | exact nr_alg) (by first | exact trivial | exact fun _ => trivial)) (fun _ => by first | exact rfl | exact shift_alg | exact shift_pair rfl rfl | exact shift_pair shift_alg rfl) ?_
    refine w_move (by constructor) ?_
    refine w_ext rfl (by decide) (by constructor) ?_
    refine w_ext rfl (by decide) (by constructor) ?_
    refine w_assign (by constructor) ?_
    refine w_assign (by constructor) ?_
    exact hRR
  apply sd tokTB mixed (by kernel_rfl) (by kernel_rfl)
  · intro RR hRR
    first | refine w_ldc rfl kn26 (by constructor) (by exact sz26.symm) (by exact ag26.symm) ?_ | refine w_ldp rfl kn26 rfl (by constructor) (by exact sz26.symm) (by exact ag26.symm) ?_
    refine w_call0 rfl (exc (by first | exact rfl | exact exp_alg | exact exp_calg | exact ex_vl | exact exp_closed (by assumption)) exn) (c_toAlgebra) (by first | exact trivial | exact fun _ => trivial | exact fun _ _ => trivial | exact fun _ _ _ => trivial | exact nr_alg | exact nr_pair (by first | exact trivial | exact fun _ => trivial | exact nr_alg) (by first | exact trivial | exact fun _ => trivial)) (fun _ => by first | exact rfl | exact shift_alg | exact shift_pair rfl rfl | exact shift_pair shift_alg rfl) ?_
    first | refine w_ldc rfl kn22 (by constructor) (by exact sz22.symm) (by exact ag22.symm) ?_ | refine w_ldp rfl kn22 rfl (by constructor) (by exact sz22.symm) (by exact ag22.symm) ?_
    refine w_call0 rfl (exc (by first | exact rfl | exact exp_alg | exact exp_calg | exact ex_vl | exact exp_closed (by assumption)) exn) (c_toVector) (by first | exact trivial | exact fun _ => trivial | exact fun _ _ => trivial | exact fun _ _ _ => trivial | exact nr_alg | exact nr_pair (by first | exact trivial | exact fun _ => trivial | exact nr_alg) (by first | exact trivial | exact fun _ => trivial)) (fun _ => by first | exact rfl | exact shift_alg | exact shift_pair rfl rfl | exact shift_pair shift_alg rfl) ?_
    refine w_call0 rfl (exc (by first | exact rfl | exact exp_alg | exact exp_calg | exact ex_vl | exact exp_closed (by assumption)) (exc (by first | exact rfl | exact exp_alg | exact exp_calg | exact ex_vl | exact exp_closed (by assumption)) exn)) (c_iIsIdempotent_no hT hf hv hz) (by first | exact trivial | exact fun _ => trivial | exact fun _ _ => trivial | exact fun _ _ _ => trivial | exact nr_alg | exact nr_pair (by first | exact trivial | exact fun _ => trivial | exact nr_alg) (by first | exact trivial | exact fun _ => trivial)) (fun _ => by first | exact rfl | exact shift_alg | exact shift_pair rfl rfl | exact shift_pair shift_alg rfl) ?_
    refine w_move (by constructor) ?_
    refine w_ext rfl (by decide) (by constructor) ?_
    refine w_ext rfl (by decide) (by constructor) ?_
    refine w_assign (by constructor) ?_
    refine w_assign (by constructor) ?_
    exact hRR
  refine snd_seq ?_
  apply srG (env' := (32, .bool ((!(false == false)) || decide ((1 : Int) ≠ 1))) :: (31, .any) :: (30, .any) :: (29, .any) :: (28, _) :: (27, _) :: (26, _) :: (25, _) :: _) tokTB (by kernel_rfl)
  · intro RR hRR
    refine w_move (by constructor) ?_
    refine w_move (by constructor) ?_
    refine w_bneq rfl rfl und4 ?_
    refine w_move (by constructor) ?_
    refine w_g rfl rfl (fun hg3 => ?_) (fun hg3 => ?_)
    · skip
      refine w_move (by constructor) ?_
      refine w_g_on rfl rfl hg3 ?_
      refine w_move (by constructor) ?_
      refine w_g_on rfl rfl hg3 ?_
      refine w_neq rfl rfl ?_
      refine w_pick_0 rfl hg3 (by constructor) ?_
      try simp only [Int.toNat_natCast] at hg3
      exact hRR _ (EL.cons (.inr (by first | rfl | (simp only [hg3, Bool.true_or, Bool.false_or, Bool.true_and, Bool.false_and, Bool.or_true, Bool.or_false]; done) | (simp only [hg3, Bool.true_or, Bool.false_or, Bool.true_and, Bool.false_and, Bool.or_true, Bool.or_false]; rfl) | simp [hg3])) (EL.cons (.inl rfl) (EL.cons (.inl rfl) (EL.cons (.inl rfl) (EL.cons (.inr rfl) (EL.cons (.inr rfl) (EL.cons (.inr rfl) (EL.cons (.inr rfl) (EL.refl _)))))))))
    · have hg3 := eq_true_of_ne_false hg3
      refine w_g_off rfl rfl (by rw [hg3]; decide) ?_
      refine w_g_off rfl rfl (by rw [hg3]; decide) ?_
      refine w_pick_1 rfl hg3 (by constructor) ?_
      try simp only [Int.toNat_natCast] at hg3
      exact hRR _ (EL.cons (.inr (by first | rfl | (simp only [hg3, Bool.true_or, Bool.false_or, Bool.true_and, Bool.false_and, Bool.or_true, Bool.or_false]; done) | (simp only [hg3, Bool.true_or, Bool.false_or, Bool.true_and, Bool.false_and, Bool.or_true, Bool.or_false]; rfl) | simp [hg3])) (EL.cons (.inl rfl) (EL.cons (.inl rfl) (EL.cons (.inl rfl) (EL.cons (.inr rfl) (EL.cons (.inr rfl) (EL.cons (.inr rfl) (EL.cons (.inr rfl) (EL.refl _)))))))))
  refine snd_cond _ rfl (fun hc32 => ?_) (fun hc32 => ?_)
  · skip
    exact absurd hc32 (by simp [eqN])
  · skip
    refine snd_skip ?_
    apply sr tokTB (by kernel_rfl)
    · intro RR hRR
      refine w_assign (by constructor) ?_
      exact hRR
    refine snd_ret ?_
    exact rt (T := TB) (fun V => by first | exact m_bool rfl | exact m_int rfl)
theorem law_IsIdempotent {p n : Int} {T : Nat → Nat → Nat → Int} {fo : Nat → Int} {v : Nat → Int} (hT : RB T) (hf : RV fo) (hv : RV v) : ACalls Try.prog TB 3 [algA p n T fo, vecA v] (.bool true) [] := by
  by_cases hz : VZ p n T fo 1 (vs1 v)
  · obtain ⟨h1, h2⟩ := VZ_1.1 hz
    obtain ⟨hv0, hn⟩ := VN_of hT hf h1
    obtain ⟨m, rfl⟩ : ∃ m : Nat, n = (m : Int) := ⟨n.toNat, hn⟩
    have hv0 : VN p m T fo := hv0
    have hp0 : 0 < p := by have := hv0.p0; omega
    exact lIsIdempotent_ok hv0 (VV_of hp0 hv0.n6 hv h2)
  · exact lIsIdempotent_no hT hf hv.b hz
end Go.Am
