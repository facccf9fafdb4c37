/- Part 5 of what the law stands on: abstract values, their walk, contracts of functions. My own work. Conditions: none. -/
import Derived.Test.YtnmdenipfdgdgaaGreatPart4
set_option linter.unusedVariables false
set_option linter.unusedSimpArgs false
set_option linter.unusedSectionVars false
set_option maxRecDepth 4000
namespace Go.Am
attribute [local irreducible] retQ retQp
open Go.Proofs
theorem c_solved_ok {M n : Nat} {G NC : Nat → Nat} {CP : Nat → Nat → AV} {Fv : Nat → Nat → Nat → Int} {W : Nat → Nat → Int} {p : Int} {T : Nat → Nat → Nat → Int} {fo : Nat → Int} (hp : primeB p = true) (hM0 : 0 < M) (hM : M ≤ 100) (hn0 : 0 < n) (hn : n ≤ 6) (hcl : ∀ x, (AV.fn (G x) (NC x) (CP x)).closed) (hFp : ∀ x i, Bp p (Fv x i)) (hWp : ∀ x, Bp p (W x)) (hf : ∀ x, x < M → ∀ i, i < n → ACalls Tryz.prog TB (G x) (vecA (eF i) :: capL (NC x) (CP x)) (vecA (Fv x i)) []) (hcon : conP n (redGo p (M * n) (sysR n Fv W) (n + 1)).no (redGo p (M * n) (sysR n Fv W) (n + 1)).O) : ACalls Tryz.prog TB 92 [.cptr (algA p (n : Int) T fo), .ro M (fun x => vecA (W x)), .ro M (fun x => .fn (G x) (NC x) (CP x))] (.tup 2 (pairA (vecA (cutF (solGo n (redGo p (M * n) (sysR n Fv W) (n + 1)).O (redGo p (M * n) (sysR n Fv W) (n + 1)).no) n)) (.bool true))) [] := by
  have hpb := primeB_bd hp
  have hB : ∀ x i, x < M → B8 (Fv x i) := fun x i _ => B8_of (by omega) (hFp x i)
  have hle : M * n ≤ 100 * 6 := Nat.mul_le_mul hM hn
  have hle1 : 0 < M * n := Nat.mul_pos hM0 hn0
  have hS : ∀ r, Bp p (sysR n Fv W r) := fun r => sysR_Bp hFp hWp r
  have hO8 : ∀ i, i < (redGo p (M * n) (sysR n Fv W) (n + 1)).no → B8 ((redGo p (M * n) (sysR n Fv W) (n + 1)).O i) := by obtain ⟨⟨l, hrr⟩, _⟩ := red_ok (m := n + 1) (n := M * n) (R := sysR n Fv W) hp (fun i _ => hS i); exact fun i hi => B8_of (by omega) (hrr.bp i hi)
  refine acalls_of tokTB Tryz.func92 rfl rfl (Nat.le_of_ble_eq_true rfl) ?_
  apply sr tokTB (by kernel_rfl)
  · intro RR hRR
    refine w_alloc kn30 rfl zr30 ?_
    refine wa ?_
    exact hRR
  apply sr tokTB (by kernel_rfl)
  · intro RR hRR
    refine wm ?_
    refine wm ?_
    refine w_call rfl (ec (ec exn)) (c_equations hM hn0 hn hcl hB hf) (.inl ⟨trivial, ⟨fun _ => trivial, fun i sh c h => (by obtain ⟨_, _, rfl⟩ := famF_some h; exact fun _ => trivial), trivial⟩⟩) rfl (by constructor) rfl ?_
    refine wa ?_
    exact hRR
  refine snd_seq ?_
  apply sr tokTB (by kernel_rfl)
  · intro RR hRR
    refine wm ?_
    refine w_len_o rfl rfl und63 ?_
    refine wm ?_
    exact hRR
  refine snd_block ?_
  refine snd_loop (S := Nat) (fun i => ([(0, .cptr (algA p (n : Int) T fo)), (1, .ro M (fun x => vecA (W x))), (6, .ptr 6 0 [] 0 (vecA (fun _ => 0))), (8, .own 905 0 (M * n) 24), (16, .int .i64 ((M * n : Nat) : Int)), (17, .int .i64 (i : Int))], [(905, .one (ZR (M * n)) (CO 15001 (M * n) (fun r => if r < i then n + 1 else n) 2)), (15001, .many (famF (M * n) (fun r => if r < i then n + 1 else n) (mixG (sysR n Fv W) (eqR n Fv) i))), (6, .one (vecA (fun _ => 0)) (vecA (fun _ => 0)))])) (fun i => i ≤ (M * n)) (fun i => (M * n) - i) (0) (ρQ 905 15001 15000 912 (M * n) 6 6) ?_ ?_ ?_
  · exact emb_fam1 (by decide) (by decide) (by decide) (by decide) (by decide) (by decide) (by decide) (by decide) (by decide) rfl (fun j hj hne => by show AV.own (15000 + 1) j n _ = _; simp) (fun h => absurd h (by omega)) (fun h => absurd h (by omega)) (fun r hr hne => by show (match famF (M * n) (fun _ => n) (eqR n Fv) r with | some (sh, c) => some (sh, Am.shift 15000 c) | none => none) = _; rw [famF_at hr]; simp [mixG, shift]) ⟨_, rfl, ssh_vec, fun V => mt_vec (fun _ _ => rfl)⟩ ⟨m_calg, (by exact Mt_closed (V := _) (v := .ro M (fun x => vecA (W x))) (fun _ _ => trivial) (fun _ _ _ => trivial) (by simp)), ⟨rfl, rfl, rfl, rfl, rfl⟩, (by first | exact ⟨rfl, rfl, rfl, rfl⟩ | exact ⟨rfl, by omega, rfl, rfl⟩), (mi), (mi), trivial⟩
  · exact Nat.zero_le _
  intro i hi0
  refine sq (env2 := [(0, .cptr (algA p (n : Int) T fo)), (1, .ro M (fun x => vecA (W x))), (6, .ptr 6 0 [] 0 (vecA (fun _ => 0))), (8, .own 905 0 (M * n) 24), (16, .int .i64 ((M * n : Nat) : Int)), (17, .int .i64 (i : Int))]) (ol2 := [(905, .one (ZR (M * n)) (CO 15001 (M * n) (fun r => if r < i then n + 1 else n) 2)), (15001, .many (famF (M * n) (fun r => if r < i then n + 1 else n) (mixG (sysR n Fv W) (eqR n Fv) i))), (6, .one (vecA (fun _ => 0)) (vecA (fun _ => 0)))]) rfl rfl ?_
  apply sr tokTB (by kernel_rfl)
  · intro RR hRR
    refine w_lss rfl rfl ?_
    exact hRR
  refine snd_seq ?_
  refine snd_cond _ rfl (fun hc18 => ?_) (fun hc18 => ?_)
  · try simp only [hcs] at hc18
    have hin : i < M * n := by omega
    have hq : i / n < M := (Nat.div_lt_iff_lt_mul hn0).2 hin
    have hr : i % n < n := Nat.mod_lt _ hn0
    have hwid : ∀ j, j ≠ i → (if j < i + 1 then n + 1 else n) = (if j < i then n + 1 else n) := fun j hj => by by_cases h : j < i; rw [if_pos h, if_pos (by omega)]; rw [if_neg h, if_neg (by omega)]
    have hwi : (if i < i then n + 1 else n) = n := if_neg (Nat.lt_irrefl i)
    have hwi1 : (if i < i + 1 then n + 1 else n) = n + 1 := if_pos (Nat.lt_succ_self i)
    have hmix : ∀ j, j ≠ i → mixG (sysR n Fv W) (eqR n Fv) (i + 1) j = mixG (sysR n Fv W) (eqR n Fv) i j := fun j hj => by by_cases h : j < i; rw [mixG_lt _ _ h, mixG_lt _ _ (by omega)]; rw [mixG_ge _ _ (by omega), mixG_ge _ _ (by omega)]
    have hmixi : mixG (sysR n Fv W) (eqR n Fv) i i = eqR n Fv i := mixG_self _ _ _
    have hmixi1 : mixG (sysR n Fv W) (eqR n Fv) (i + 1) i = sysR n Fv W i := mixG_lt _ _ (Nat.lt_succ_self i)
    refine snd_skip ?_
    refine snd_seq ?_
    refine snd_block ?_
    apply sr tokTB (by kernel_rfl)
    · intro RR hRR
      refine wm ?_
      refine wa ?_
      exact hRR
    apply ld tokTB mixed (by kernel_rfl) (by kernel_rfl)
    · intro RR hRR
      refine wm ?_
      refine wm ?_
      refine wm ?_
      refine wm ?_
      refine w_iao rfl rfl und63 kn24 ?_ ?_
      · exact ⟨by omega, by omega⟩
      first | refine w_ldc rfl kn24 (by constructor) (by exact sz24.symm) (by exact ag24.symm) ?_ | refine w_ldp rfl kn24 rfl (by constructor) (by exact sz24.symm) (by exact ag24.symm) ?_
      refine wm ?_
      refine wm ?_
      refine wm ?_
      refine y_call rfl (ec exn) (c_n) ?_
      refine w_quoN rfl rfl (by omega) (by omega) ?_
      refine wm ?_
      refine wm ?_
      refine y_call rfl (ec exn) (c_n) ?_
      refine w_remN rfl rfl (by omega) ?_
      refine w_iar rfl rfl und61 kn30 (by exact sz30.symm) ?_ rfl ?_
      · exact ⟨Int.natCast_nonneg _, Int.ofNat_lt.2 hq⟩
      first | refine w_iac rfl rfl und30 kn5 (by exact sz5.symm) ?_ rfl ?_ | refine w_iap rfl rfl und30 kn5 rfl (by exact sz5.symm) rfl ?_ ?_
      · exact ⟨Int.natCast_nonneg _, by omega⟩
      first | refine w_ldc rfl kn5 (by constructor) (by exact sz5.symm) (by exact ag5.symm) ?_ | refine w_ldp rfl kn5 rfl (by constructor) (by exact sz5.symm) (by exact ag5.symm) ?_
      refine w_conv rfl und5 und2 (by exact w64b (B8_of (by omega) (hWp _)) _) ?_
      refine w_bsl1 und24 kn2 (by rw [sz2]; rfl) rfl (by constructor) (by first | exact trivial | exact cel_cap2) (by exact sz2.symm) (by first | exact trivial | exact ssh_vec | exact ⟨rfl, fun _ => trivial⟩) ?_
      refine w_app_o (k := 15001) (i := i) (n := n) (m := 1) (f := fun j => .int .i64 (eqR n Fv i j)) und24 (by show AV.own 15001 i (if i < i then n + 1 else n) _ = _; rw [hwi]) rfl kn2 rfl (by show famF (M * n) (fun r => if r < i then n + 1 else n) (mixG (sysR n Fv W) (eqR n Fv) i) i = _; rw [famF_at hin, hwi, hmixi]; rfl) (fun C h => ⟨rfl, rfl, rfl, h⟩) (by rw [by2]; omega) (by omega) rfl ?_
      refine w_iao rfl rfl und63 kn24 ?_ ?_
      · exact ⟨by omega, by omega⟩
      first | refine w_stw rfl (by constructor) kn24 rfl (by exact trivial) (sx) (by exact sz24.symm) ?_ | refine w_sti rfl rfl kn24 rfl (by exact trivial) (by exact sz24.symm) ?_ | refine w_store rfl (HV.eq (by constructor)) kn24 rfl (by exact trivial) (sx) (by exact sz24.symm) (pin_) ?_ | refine w_store rfl (HV.eq (by constructor)) kn24 rfl (by exact trivial) (by exact trivial) (by exact sz24.symm) rfl ?_
      exact hRR
    apply lr tokTB (by kernel_rfl)
    · intro RR hRR
      refine y_add rfl rfl ?_
      refine wm ?_
      exact hRR
    refine ⟨i + 1, (ρQ 905 15001 905 40 i 6 6), ?_, (by omega), (by dsimp only; omega)⟩
    exact emb_fam1 (by decide) (by decide) (by decide) (by decide) (by decide) (by decide) (by decide) (by decide) (by decide) rfl (fun j hj hne => by show (bif Nat.beq j i then _ else AV.own 15001 j (if j < i then n + 1 else n) _) = _; rw [beq_ff hne]; simp only [cond_false, hwid j hne]) (fun h => by show (bif Nat.beq i i then _ else _) = _; rw [Nat.beq_refl]; simp [put, hwi, hwi1]) (fun h => by refine ⟨_, (by show _ = some (Z64 (if i < i + 1 then n + 1 else n), _); rw [hwi1]; exact rfl), fun V => ?_⟩; show Mt V (C64 (if i < i + 1 then n + 1 else n) _) _; rw [hwi1]; exact mt_app (fun j hj => congrArg (AV.int .i64) (by rw [hmixi1, sysR_lt hj])) (congrArg (AV.int .i64) (by rw [hmixi1, sysR_n]; rfl))) (fun r hr hne => by show (bif Nat.beq r i then none else famF (M * n) (fun r => if r < i then n + 1 else n) (mixG (sysR n Fv W) (eqR n Fv) i) r) = _; rw [beq_ff hne]; simp only [cond_false]; rw [famF_at hr]; simp only [hwid r hne, hmix r hne]) ⟨_, rfl, ssh_vec, fun V => mt_vec (fun _ _ => rfl)⟩ ⟨m_calg, (by exact Mt_closed (V := _) (v := .ro M (fun x => vecA (W x))) (fun _ _ => trivial) (fun _ _ _ => trivial) (by simp)), ⟨rfl, rfl, rfl, rfl, rfl⟩, (by first | exact ⟨rfl, rfl, rfl, rfl⟩ | exact ⟨rfl, by omega, rfl, rfl⟩), (mi), (mi), trivial⟩
  · try simp only [hcs] at hc18
    have hiN : M * n = i := by omega
    refine snd_exit ?_
    refine snd_emb (ρ := ρ0) (env2 := [(0, .cptr (algA p (n : Int) T fo)), (6, .ptr 6 0 [] 0 (vecA (fun _ => 0))), (8, rowsA (M * n) (n + 1) (sysR n Fv W))]) (ol2 := [(6, .one (vecA (fun _ => 0)) (vecA (fun _ => 0)))]) ?_ ?_
    · exact ⟨⟨m_calg, ⟨rfl, rfl, rfl, rfl, rfl⟩, mt_fam_fz (w := fun r => if r < i then n + 1 else n) (F := mixG (sysR n Fv W) (eqR n Fv) i) ⟨ne_fst rfl, trivial⟩ (fun r => ⟨ne_fst rfl, trivial⟩) rfl (fun r hr => famF_at (w := fun r => if r < i then n + 1 else n) (F := mixG (sysR n Fv W) (eqR n Fv) i) hr) (fun r hr => if_pos (by omega)) (fun r hr j hj => by rw [mixG_lt _ _ (by omega)]), trivial⟩, ⟨⟨rfl, ssh_vec, mt_vec (fun _ _ => rfl)⟩, trivial⟩, ⟨⟨fun _ => ⟨rfl, rfl⟩, trivial⟩, trivial⟩⟩
    apply sd tokTB mixed (by kernel_rfl) (by kernel_rfl)
    · intro RR hRR
      refine wm ?_
      refine wm ?_
      refine y_call rfl (ec exn) (c_n) ?_
      refine wm ?_
      refine w_nilc rfl ?_
      refine w_fac rfl und32 rfl kn2 nz2 (by decide) rfl (by constructor) ?_
      refine w_ldc rfl kn2 (by constructor) (by exact sz2.symm) (by exact ag2.symm) ?_
      refine w_call rfl (ec (ec (ec exn))) (c_solve_ok (S := sysR n Fv W) hp (by omega) (by omega) hS hcon) (.inr ⟨closed_rows, trivial, trivial, trivial⟩) rfl (by constructor) rfl ?_
      refine wm ?_
      refine we ?_
      refine we ?_
      refine wa ?_
      refine wa ?_
      exact hRR
    apply sr tokTB (by kernel_rfl)
    · intro RR hRR
      refine wm ?_
      refine y_call rfl (ec exn) (c_vector (m := n) (f := solGo n (redGo p (M * n) (sysR n Fv W) (n + 1)).O (redGo p (M * n) (sysR n Fv W) (n + 1)).no) (by omega) (by exact solGo_B8 hO8 _ (Nat.le_refl _))) ?_
      refine wm ?_
      refine w_stw rfl (by constructor) kn30 rfl (by exact trivial) (sx) (by exact sz30.symm) ?_
      refine wa ?_
      exact hRR
    refine snd_ret ?_
    show retQ TB _ _ _ _ _ _
    exact rt_ct (T := TB) rfl kn30 rfl sz30.symm ag30.symm (fun V => mt_vec (fun _ _ => rfl)) (fun V => rfl)
theorem c_solved_no {M n : Nat} {G NC : Nat → Nat} {CP : Nat → Nat → AV} {Fv : Nat → Nat → Nat → Int} {W : Nat → Nat → Int} {p : Int} {T : Nat → Nat → Nat → Int} {fo : Nat → Int} (hp : primeB p = true) (hM0 : 0 < M) (hM : M ≤ 100) (hn0 : 0 < n) (hn : n ≤ 6) (hcl : ∀ x, (AV.fn (G x) (NC x) (CP x)).closed) (hFp : ∀ x i, Bp p (Fv x i)) (hWp : ∀ x, Bp p (W x)) (hf : ∀ x, x < M → ∀ i, i < n → ACalls Tryz.prog TB (G x) (vecA (eF i) :: capL (NC x) (CP x)) (vecA (Fv x i)) []) (hcon : ¬ conP n (redGo p (M * n) (sysR n Fv W) (n + 1)).no (redGo p (M * n) (sysR n Fv W) (n + 1)).O) : ACalls Tryz.prog TB 92 [.cptr (algA p (n : Int) T fo), .ro M (fun x => vecA (W x)), .ro M (fun x => .fn (G x) (NC x) (CP x))] (.tup 2 (pairA (vecA (fun _ => 0)) (.bool false))) [] := by
  have hpb := primeB_bd hp
  have hB : ∀ x i, x < M → B8 (Fv x i) := fun x i _ => B8_of (by omega) (hFp x i)
  have hle : M * n ≤ 100 * 6 := Nat.mul_le_mul hM hn
  have hle1 : 0 < M * n := Nat.mul_pos hM0 hn0
  have hS : ∀ r, Bp p (sysR n Fv W r) := fun r => sysR_Bp hFp hWp r
  refine acalls_of tokTB Tryz.func92 rfl rfl (Nat.le_of_ble_eq_true rfl) ?_
  apply sr tokTB (by kernel_rfl)
  · intro RR hRR
    refine w_alloc kn30 rfl zr30 ?_
    refine wa ?_
    exact hRR
  apply sr tokTB (by kernel_rfl)
  · intro RR hRR
    refine wm ?_
    refine wm ?_
    refine w_call rfl (ec (ec exn)) (c_equations hM hn0 hn hcl hB hf) (.inl ⟨trivial, ⟨fun _ => trivial, fun i sh c h => (by obtain ⟨_, _, rfl⟩ := famF_some h; exact fun _ => trivial), trivial⟩⟩) rfl (by constructor) rfl ?_
    refine wa ?_
    exact hRR
  refine snd_seq ?_
  apply sr tokTB (by kernel_rfl)
  · intro RR hRR
    refine wm ?_
    refine w_len_o rfl rfl und63 ?_
    refine wm ?_
    exact hRR
  refine snd_block ?_
  refine snd_loop (S := Nat) (fun i => ([(0, .cptr (algA p (n : Int) T fo)), (1, .ro M (fun x => vecA (W x))), (6, .ptr 6 0 [] 0 (vecA (fun _ => 0))), (8, .own 905 0 (M * n) 24), (16, .int .i64 ((M * n : Nat) : Int)), (17, .int .i64 (i : Int))], [(905, .one (ZR (M * n)) (CO 15001 (M * n) (fun r => if r < i then n + 1 else n) 2)), (15001, .many (famF (M * n) (fun r => if r < i then n + 1 else n) (mixG (sysR n Fv W) (eqR n Fv) i))), (6, .one (vecA (fun _ => 0)) (vecA (fun _ => 0)))])) (fun i => i ≤ (M * n)) (fun i => (M * n) - i) (0) (ρQ 905 15001 15000 912 (M * n) 6 6) ?_ ?_ ?_
  · exact emb_fam1 (by decide) (by decide) (by decide) (by decide) (by decide) (by decide) (by decide) (by decide) (by decide) rfl (fun j hj hne => by show AV.own (15000 + 1) j n _ = _; simp) (fun h => absurd h (by omega)) (fun h => absurd h (by omega)) (fun r hr hne => by show (match famF (M * n) (fun _ => n) (eqR n Fv) r with | some (sh, c) => some (sh, Am.shift 15000 c) | none => none) = _; rw [famF_at hr]; simp [mixG, shift]) ⟨_, rfl, ssh_vec, fun V => mt_vec (fun _ _ => rfl)⟩ ⟨m_calg, (by exact Mt_closed (V := _) (v := .ro M (fun x => vecA (W x))) (fun _ _ => trivial) (fun _ _ _ => trivial) (by simp)), ⟨rfl, rfl, rfl, rfl, rfl⟩, (by first | exact ⟨rfl, rfl, rfl, rfl⟩ | exact ⟨rfl, by omega, rfl, rfl⟩), (mi), (mi), trivial⟩
  · exact Nat.zero_le _
  intro i hi0
  refine sq (env2 := [(0, .cptr (algA p (n : Int) T fo)), (1, .ro M (fun x => vecA (W x))), (6, .ptr 6 0 [] 0 (vecA (fun _ => 0))), (8, .own 905 0 (M * n) 24), (16, .int .i64 ((M * n : Nat) : Int)), (17, .int .i64 (i : Int))]) (ol2 := [(905, .one (ZR (M * n)) (CO 15001 (M * n) (fun r => if r < i then n + 1 else n) 2)), (15001, .many (famF (M * n) (fun r => if r < i then n + 1 else n) (mixG (sysR n Fv W) (eqR n Fv) i))), (6, .one (vecA (fun _ => 0)) (vecA (fun _ => 0)))]) rfl rfl ?_
  apply sr tokTB (by kernel_rfl)
  · intro RR hRR
    refine w_lss rfl rfl ?_
    exact hRR
  refine snd_seq ?_
  refine snd_cond _ rfl (fun hc18 => ?_) (fun hc18 => ?_)
  · try simp only [hcs] at hc18
    have hin : i < M * n := by omega
    have hq : i / n < M := (Nat.div_lt_iff_lt_mul hn0).2 hin
    have hr : i % n < n := Nat.mod_lt _ hn0
    have hwid : ∀ j, j ≠ i → (if j < i + 1 then n + 1 else n) = (if j < i then n + 1 else n) := fun j hj => by by_cases h : j < i; rw [if_pos h, if_pos (by omega)]; rw [if_neg h, if_neg (by omega)]
    have hwi : (if i < i then n + 1 else n) = n := if_neg (Nat.lt_irrefl i)
    have hwi1 : (if i < i + 1 then n + 1 else n) = n + 1 := if_pos (Nat.lt_succ_self i)
    have hmix : ∀ j, j ≠ i → mixG (sysR n Fv W) (eqR n Fv) (i + 1) j = mixG (sysR n Fv W) (eqR n Fv) i j := fun j hj => by by_cases h : j < i; rw [mixG_lt _ _ h, mixG_lt _ _ (by omega)]; rw [mixG_ge _ _ (by omega), mixG_ge _ _ (by omega)]
    have hmixi : mixG (sysR n Fv W) (eqR n Fv) i i = eqR n Fv i := mixG_self _ _ _
    have hmixi1 : mixG (sysR n Fv W) (eqR n Fv) (i + 1) i = sysR n Fv W i := mixG_lt _ _ (Nat.lt_succ_self i)
    refine snd_skip ?_
    refine snd_seq ?_
    refine snd_block ?_
    apply sr tokTB (by kernel_rfl)
    · intro RR hRR
      refine wm ?_
      refine wa ?_
      exact hRR
    apply ld tokTB mixed (by kernel_rfl) (by kernel_rfl)
    · intro RR hRR
      refine wm ?_
      refine wm ?_
      refine wm ?_
      refine wm ?_
      refine w_iao rfl rfl und63 kn24 ?_ ?_
      · exact ⟨by omega, by omega⟩
      first | refine w_ldc rfl kn24 (by constructor) (by exact sz24.symm) (by exact ag24.symm) ?_ | refine w_ldp rfl kn24 rfl (by constructor) (by exact sz24.symm) (by exact ag24.symm) ?_
      refine wm ?_
      refine wm ?_
      refine wm ?_
      refine y_call rfl (ec exn) (c_n) ?_
      refine w_quoN rfl rfl (by omega) (by omega) ?_
      refine wm ?_
      refine wm ?_
      refine y_call rfl (ec exn) (c_n) ?_
      refine w_remN rfl rfl (by omega) ?_
      refine w_iar rfl rfl und61 kn30 (by exact sz30.symm) ?_ rfl ?_
      · exact ⟨Int.natCast_nonneg _, Int.ofNat_lt.2 hq⟩
      first | refine w_iac rfl rfl und30 kn5 (by exact sz5.symm) ?_ rfl ?_ | refine w_iap rfl rfl und30 kn5 rfl (by exact sz5.symm) rfl ?_ ?_
      · exact ⟨Int.natCast_nonneg _, by omega⟩
      first | refine w_ldc rfl kn5 (by constructor) (by exact sz5.symm) (by exact ag5.symm) ?_ | refine w_ldp rfl kn5 rfl (by constructor) (by exact sz5.symm) (by exact ag5.symm) ?_
      refine w_conv rfl und5 und2 (by exact w64b (B8_of (by omega) (hWp _)) _) ?_
      refine w_bsl1 und24 kn2 (by rw [sz2]; rfl) rfl (by constructor) (by first | exact trivial | exact cel_cap2) (by exact sz2.symm) (by first | exact trivial | exact ssh_vec | exact ⟨rfl, fun _ => trivial⟩) ?_
      refine w_app_o (k := 15001) (i := i) (n := n) (m := 1) (f := fun j => .int .i64 (eqR n Fv i j)) und24 (by show AV.own 15001 i (if i < i then n + 1 else n) _ = _; rw [hwi]) rfl kn2 rfl (by show famF (M * n) (fun r => if r < i then n + 1 else n) (mixG (sysR n Fv W) (eqR n Fv) i) i = _; rw [famF_at hin, hwi, hmixi]; rfl) (fun C h => ⟨rfl, rfl, rfl, h⟩) (by rw [by2]; omega) (by omega) rfl ?_
      refine w_iao rfl rfl und63 kn24 ?_ ?_
      · exact ⟨by omega, by omega⟩
      first | refine w_stw rfl (by constructor) kn24 rfl (by exact trivial) (sx) (by exact sz24.symm) ?_ | refine w_sti rfl rfl kn24 rfl (by exact trivial) (by exact sz24.symm) ?_ | refine w_store rfl (HV.eq (by constructor)) kn24 rfl (by exact trivial) (sx) (by exact sz24.symm) (pin_) ?_ | refine w_store rfl (HV.eq (by constructor)) kn24 rfl (by exact trivial) (by exact trivial) (by exact sz24.symm) rfl ?_
      exact hRR
    apply lr tokTB (by kernel_rfl)
    · intro RR hRR
      refine y_add rfl rfl ?_
      refine wm ?_
      exact hRR
    refine ⟨i + 1, (ρQ 905 15001 905 40 i 6 6), ?_, (by omega), (by dsimp only; omega)⟩
    exact emb_fam1 (by decide) (by decide) (by decide) (by decide) (by decide) (by decide) (by decide) (by decide) (by decide) rfl (fun j hj hne => by show (bif Nat.beq j i then _ else AV.own 15001 j (if j < i then n + 1 else n) _) = _; rw [beq_ff hne]; simp only [cond_false, hwid j hne]) (fun h => by show (bif Nat.beq i i then _ else _) = _; rw [Nat.beq_refl]; simp [put, hwi, hwi1]) (fun h => by refine ⟨_, (by show _ = some (Z64 (if i < i + 1 then n + 1 else n), _); rw [hwi1]; exact rfl), fun V => ?_⟩; show Mt V (C64 (if i < i + 1 then n + 1 else n) _) _; rw [hwi1]; exact mt_app (fun j hj => congrArg (AV.int .i64) (by rw [hmixi1, sysR_lt hj])) (congrArg (AV.int .i64) (by rw [hmixi1, sysR_n]; rfl))) (fun r hr hne => by show (bif Nat.beq r i then none else famF (M * n) (fun r => if r < i then n + 1 else n) (mixG (sysR n Fv W) (eqR n Fv) i) r) = _; rw [beq_ff hne]; simp only [cond_false]; rw [famF_at hr]; simp only [hwid r hne, hmix r hne]) ⟨_, rfl, ssh_vec, fun V => mt_vec (fun _ _ => rfl)⟩ ⟨m_calg, (by exact Mt_closed (V := _) (v := .ro M (fun x => vecA (W x))) (fun _ _ => trivial) (fun _ _ _ => trivial) (by simp)), ⟨rfl, rfl, rfl, rfl, rfl⟩, (by first | exact ⟨rfl, rfl, rfl, rfl⟩ | exact ⟨rfl, by omega, rfl, rfl⟩), (mi), (mi), trivial⟩
  · try simp only [hcs] at hc18
    have hiN : M * n = i := by omega
    refine snd_exit ?_
    refine snd_emb (ρ := ρ0) (env2 := [(0, .cptr (algA p (n : Int) T fo)), (6, .ptr 6 0 [] 0 (vecA (fun _ => 0))), (8, rowsA (M * n) (n + 1) (sysR n Fv W))]) (ol2 := [(6, .one (vecA (fun _ => 0)) (vecA (fun _ => 0)))]) ?_ ?_
    · exact ⟨⟨m_calg, ⟨rfl, rfl, rfl, rfl, rfl⟩, mt_fam_fz (w := fun r => if r < i then n + 1 else n) (F := mixG (sysR n Fv W) (eqR n Fv) i) ⟨ne_fst rfl, trivial⟩ (fun r => ⟨ne_fst rfl, trivial⟩) rfl (fun r hr => famF_at (w := fun r => if r < i then n + 1 else n) (F := mixG (sysR n Fv W) (eqR n Fv) i) hr) (fun r hr => if_pos (by omega)) (fun r hr j hj => by rw [mixG_lt _ _ (by omega)]), trivial⟩, ⟨⟨rfl, ssh_vec, mt_vec (fun _ _ => rfl)⟩, trivial⟩, ⟨⟨fun _ => ⟨rfl, rfl⟩, trivial⟩, trivial⟩⟩
    apply sd tokTB mixed (by kernel_rfl) (by kernel_rfl)
    · intro RR hRR
      refine wm ?_
      refine wm ?_
      refine y_call rfl (ec exn) (c_n) ?_
      refine wm ?_
      refine w_nilc rfl ?_
      refine w_fac rfl und32 rfl kn2 nz2 (by decide) rfl (by constructor) ?_
      refine w_ldc rfl kn2 (by constructor) (by exact sz2.symm) (by exact ag2.symm) ?_
      refine y_call rfl (ec (ec (ec exn))) (c_solve_no (S := sysR n Fv W) hp (by omega) (by omega) hS hcon) ?_
      refine wm ?_
      refine we ?_
      refine we ?_
      refine wa ?_
      refine wa ?_
      exact hRR
    apply sr tokTB (by kernel_rfl)
    · intro RR hRR
      refine wm ?_
      refine y_call rfl (ec exn) (c_vectorN) ?_
      refine wm ?_
      refine w_stw rfl (by constructor) kn30 rfl (by exact trivial) (sx) (by exact sz30.symm) ?_
      refine wa ?_
      exact hRR
    refine snd_ret ?_
    show retQ TB _ _ _ _ _ _
    exact rt_ct (T := TB) rfl kn30 rfl sz30.symm ag30.symm (fun V => mt_vec (fun _ _ => rfl)) (fun V => rfl)
end Go.Am

set_option maxRecDepth 4000
namespace Go.Am
attribute [local irreducible] retQ retQp
open Go.Proofs
noncomputable instance (n no : Nat) (O : Nat → Nat → Int) : Decidable (conP n no O) := Classical.propDecidable _
theorem c_solved {M n : Nat} {G NC : Nat → Nat} {CP : Nat → Nat → AV} {Fv : Nat → Nat → Nat → Int} {W : Nat → Nat → Int} {p : Int} {T : Nat → Nat → Nat → Int} {fo : Nat → Int} (hp : primeB p = true) (hM0 : 0 < M) (hM : M ≤ 100) (hn0 : 0 < n) (hn : n ≤ 6) (hcl : ∀ x, (AV.fn (G x) (NC x) (CP x)).closed) (hFp : ∀ x i, Bp p (Fv x i)) (hWp : ∀ x, Bp p (W x)) (hf : ∀ x, x < M → ∀ i, i < n → ACalls Tryz.prog TB (G x) (vecA (eF i) :: capL (NC x) (CP x)) (vecA (Fv x i)) []) : ACalls Tryz.prog TB 92 [.cptr (algA p (n : Int) T fo), .ro M (fun x => vecA (W x)), .ro M (fun x => .fn (G x) (NC x) (CP x))] (.tup 2 (pairA (vecA (if conP n (redGo p (M * n) (sysR n Fv W) (n + 1)).no (redGo p (M * n) (sysR n Fv W) (n + 1)).O then cutF (solGo n (redGo p (M * n) (sysR n Fv W) (n + 1)).O (redGo p (M * n) (sysR n Fv W) (n + 1)).no) n else fun _ => 0)) (.bool (decide (conP n (redGo p (M * n) (sysR n Fv W) (n + 1)).no (redGo p (M * n) (sysR n Fv W) (n + 1)).O))))) [] := by
  by_cases h : conP n (redGo p (M * n) (sysR n Fv W) (n + 1)).no (redGo p (M * n) (sysR n Fv W) (n + 1)).O
  · rw [if_pos h, decide_eq_true h]; exact c_solved_ok hp hM0 hM hn0 hn hcl hFp hWp hf h
  · rw [if_neg h, decide_eq_false h]; exact c_solved_no hp hM0 hM hn0 hn hcl hFp hWp hf h
def uG (x : Nat) : Nat := if x % 2 = 0 then 99 else 100
def uC (p : Int) (n : Nat) (T : Nat → Nat → Nat → Int) (fo : Nat → Int) (x : Nat) : Nat → AV := cap2 (.cptr (.cptr (algA p (n : Int) T fo))) (.cptr (vecA (eF (x / 2))))
theorem uE0 {p : Int} {n : Nat} {T : Nat → Nat → Nat → Int} {fo : Nat → Int} {i : Nat} : AV.fn (uG (2 * i)) 2 (uC p n T fo (2 * i)) = .fn 99 2 (cap2 (.cptr (.cptr (algA p (n : Int) T fo))) (.cptr (vecA (eF i)))) := by
  unfold uG uC; rw [if_pos (by omega), show 2 * i / 2 = i by omega]
theorem uE1 {p : Int} {n : Nat} {T : Nat → Nat → Nat → Int} {fo : Nat → Int} {i : Nat} : AV.fn (uG (2 * i + 1)) 2 (uC p n T fo (2 * i + 1)) = .fn 100 2 (cap2 (.cptr (.cptr (algA p (n : Int) T fo))) (.cptr (vecA (eF i)))) := by
  unfold uG uC; rw [if_neg (by omega), show (2 * i + 1) / 2 = i by omega]
theorem uCl {p : Int} {n : Nat} {T : Nat → Nat → Nat → Int} {fo : Nat → Int} (x : Nat) : (AV.fn (uG x) 2 (uC p n T fo x)).closed := closed_cap2 closed_calg (closed_vec (n := 6))
theorem mtCl {V : Vw} {g : Nat} {a b : AV} (ha : a.closed) (hb : b.closed) : Mt V (.fn g 2 (cap2 a b)) (.fn g 2 (cap2 a b)) := Mt_closed (closed_cap2 ha hb) (fun _ _ _ => trivial) (by simp)
theorem uHf {p : Int} {n : Nat} {T : Nat → Nat → Nat → Int} {fo : Nat → Int} (hp : 0 < p) (hp2 : p < 256) (hn : n ≤ 6) (hT : B8T T) : ∀ x, x < 2 * n → ∀ i, i < n → ACalls Tryz.prog TB (uG x) (vecA (eF i) :: capL 2 (uC p n T fo x)) (vecA (uM p n T x i)) [] := by
  intro x _ i _
  unfold uG uM
  by_cases h : x % 2 = 0
  · simp only [h, if_true]; exact c_behind1 hp hp2 hn hT (eF_B8 _) (eF_B8 _)
  · simp only [h, if_false]; exact c_ahead1 hp hp2 hn hT (eF_B8 _) (eF_B8 _)
theorem c_findUnit {p : Int} {n : Nat} {T : Nat → Nat → Nat → Int} {fo : Nat → Int} (hp : primeB p = true) (hn0 : 0 < n) (hn : n ≤ 6) (hT : BpT p T) : ACalls Tryz.prog TB 71 [.cptr (algA p (n : Int) T fo)] (.tup 2 (pairA (vecA (uF p n T)) (.bool (decide (uOk p n T))))) [] := by
  have hpb := primeB_bd hp
  refine acalls_of tokTB Tryz.func71 rfl rfl (Nat.le_of_ble_eq_true rfl) ?_
  apply sr tokTB (by kernel_rfl)
  · intro RR hRR
    refine w_alloc kn30 rfl zr30 ?_
    refine wa ?_
    exact hRR
  apply sr tokTB (by kernel_rfl)
  · intro RR hRR
    refine w_bsl und108 kn109 (by rw [sz109]; rfl) rfl trivial trivial rfl ?_
    refine w_bsl und61 kn30 (by rw [sz30]; rfl) rfl trivial trivial rfl ?_
    refine wa ?_
    refine wa ?_
    exact hRR
  refine snd_seq ?_
  apply sr tokTB (by kernel_rfl)
  · intro RR hRR
    refine wm ?_
    refine y_call rfl (ec exn) (c_n) ?_
    refine wm ?_
    exact hRR
  refine snd_block ?_
  refine snd_loop (S := Nat) (fun i => ([(0, .cptr (algA p (n : Int) T fo)), (2, .ptr 2 0 [] 0 (vecA (fun _ => 0))), (4, .own 904 0 (2 * i) 109), (5, .own 905 0 (2 * i) 30), (10, .int .i64 (n : Int)), (11, .int .i64 (i : Int))], [(2, .one (vecA (fun _ => 0)) (vecA (fun _ => 0))), (904, .one (.arr (2 * i) (fun _ => TB.zero 109)) (.arr (2 * i) (fun x => .fn (uG x) 2 (uC p n T fo x)))), (905, .one (.arr (2 * i) (fun _ => TB.zero 30)) (.arr (2 * i) (fun x => vecA (eF (x / 2)))))])) (fun i => i ≤ n) (fun i => n - i) (0) (fun k i => bif Nat.beq k 905 then (8, i) else bif Nat.beq k 904 then (7, i) else (k, i)) ?_ ?_ ?_
  · exact ⟨⟨m_calg, ⟨rfl, rfl, rfl, rfl, rfl⟩, (by first | exact ⟨rfl, rfl, rfl, rfl⟩ | exact ⟨rfl, by omega, rfl, rfl⟩), (by first | exact ⟨rfl, rfl, rfl, rfl⟩ | exact ⟨rfl, by omega, rfl, rfl⟩), (mi), (mi), trivial⟩, ⟨⟨rfl, (sx), (by first | exact mt_vec (fun _ _ => rfl) | exact mt_mat (fun _ _ _ _ => rfl) | exact mt_tab (fun _ _ _ _ _ _ => rfl) | exact mt_arr0 | exact mt_app (fun _ _ => rfl) rfl | exact ⟨rfl, fun _ _ => mt_row (fun _ _ => rfl)⟩ | exact Mt_closed (V := _) closed_alg (fun _ _ _ => trivial) (by simp))⟩, ⟨rfl, (sx), (by first | exact mt_vec (fun _ _ => rfl) | exact mt_mat (fun _ _ _ _ => rfl) | exact mt_tab (fun _ _ _ _ _ _ => rfl) | exact mt_arr0 | exact mt_app (fun _ _ => rfl) rfl | exact ⟨rfl, fun _ _ => mt_row (fun _ _ => rfl)⟩ | exact Mt_closed (V := _) closed_alg (fun _ _ _ => trivial) (by simp))⟩, ⟨rfl, (sx), (by first | exact mt_vec (fun _ _ => rfl) | exact mt_mat (fun _ _ _ _ => rfl) | exact mt_tab (fun _ _ _ _ _ _ => rfl) | exact mt_arr0 | exact mt_app (fun _ _ => rfl) rfl | exact ⟨rfl, fun _ _ => mt_row (fun _ _ => rfl)⟩ | exact Mt_closed (V := _) closed_alg (fun _ _ _ => trivial) (by simp))⟩, trivial⟩, ⟨⟨(fun h => by first | exact ⟨rfl, rfl⟩ | exact absurd h (by decide)), (fun h => by first | exact ⟨rfl, rfl⟩ | exact absurd h (by decide)), (fun h => by first | exact ⟨rfl, rfl⟩ | exact absurd h (by decide)), trivial⟩, ⟨(fun h => by first | exact ⟨rfl, rfl⟩ | exact absurd h (by decide)), (fun h => by first | exact ⟨rfl, rfl⟩ | exact absurd h (by decide)), (fun h => by first | exact ⟨rfl, rfl⟩ | exact absurd h (by decide)), trivial⟩, ⟨(fun h => by first | exact ⟨rfl, rfl⟩ | exact absurd h (by decide)), (fun h => by first | exact ⟨rfl, rfl⟩ | exact absurd h (by decide)), (fun h => by first | exact ⟨rfl, rfl⟩ | exact absurd h (by decide)), trivial⟩, trivial⟩⟩
  · exact Nat.zero_le _
  intro i hi0
  refine sq (env2 := [(0, .cptr (algA p (n : Int) T fo)), (2, .ptr 2 0 [] 0 (vecA (fun _ => 0))), (4, .own 904 0 (2 * i) 109), (5, .own 905 0 (2 * i) 30), (10, .int .i64 (n : Int)), (11, .int .i64 (i : Int))]) (ol2 := [(2, .one (vecA (fun _ => 0)) (vecA (fun _ => 0))), (904, .one (.arr (2 * i) (fun _ => TB.zero 109)) (.arr (2 * i) (fun x => .fn (uG x) 2 (uC p n T fo x)))), (905, .one (.arr (2 * i) (fun _ => TB.zero 30)) (.arr (2 * i) (fun x => vecA (eF (x / 2)))))]) rfl rfl ?_
  apply sr tokTB (by kernel_rfl)
  · intro RR hRR
    refine w_lss rfl rfl ?_
    exact hRR
  refine snd_seq ?_
  refine snd_cond _ rfl (fun hc12 => ?_) (fun hc12 => ?_)
  · try simp only [hcs] at hc12
    have lt_i : i < n := by omega
    refine snd_skip ?_
    refine snd_seq ?_
    refine snd_block ?_
    apply sr tokTB (by kernel_rfl)
    · intro RR hRR
      refine wm ?_
      refine wa ?_
      exact hRR
    apply sr tokTB (by kernel_rfl)
    · intro RR hRR
      refine wm ?_
      refine wm ?_
      refine wm ?_
      refine y_call rfl (ec exn) (c_basis (by omega)) ?_
      refine w_callc rfl (ec (ec exn)) (c_behind) (by exact closed_cap2 closed_calg (closed_vec (n := 6))) (by exact ⟨closed_calg, closed_vec (n := 6), trivial⟩) ?_
      refine wm ?_
      refine wm ?_
      refine y_call rfl (ec exn) (c_basis (by omega)) ?_
      refine w_callc rfl (ec (ec exn)) (c_ahead) (by exact closed_cap2 closed_calg (closed_vec (n := 6))) (by exact ⟨closed_calg, closed_vec (n := 6), trivial⟩) ?_
      refine w_bsl2 und108 kn109 (by rw [sz109]; rfl) rfl (by constructor) (by constructor) (by first | exact trivial | exact cel_cap2) (by first | exact trivial | exact cel_cap2) (by exact sz109.symm) (by exact sz109.symm) (by first | exact trivial | exact ssh_vec | exact ⟨rfl, fun _ => trivial⟩) (by first | exact trivial | exact ssh_vec | exact ⟨rfl, fun _ => trivial⟩) ?_
      refine w_app_o und108 rfl rfl kn109 rfl rfl (fun C h => ⟨rfl, rfl, rfl, h⟩) (by rw [by109]; omega) (by omega) rfl ?_
      refine wa ?_
      exact hRR
    apply lr tokTB (by kernel_rfl)
    · intro RR hRR
      refine wm ?_
      refine wm ?_
      refine y_call rfl (ec exn) (c_basis (by omega)) ?_
      refine wm ?_
      refine y_call rfl (ec exn) (c_basis (by omega)) ?_
      refine w_bsl2 und61 kn30 (by rw [sz30]; rfl) rfl (by constructor) (by constructor) (by first | exact trivial | exact cel_cap2) (by first | exact trivial | exact cel_cap2) (by exact sz30.symm) (by exact sz30.symm) (by first | exact trivial | exact ssh_vec | exact ⟨rfl, fun _ => trivial⟩) (by first | exact trivial | exact ssh_vec | exact ⟨rfl, fun _ => trivial⟩) ?_
      refine w_app_o und61 rfl rfl kn30 rfl rfl (fun C h => ⟨rfl, rfl, rfl, h⟩) (by rw [by30]; omega) (by omega) rfl ?_
      refine wa ?_
      exact hRR
    apply lr tokTB (by kernel_rfl)
    · intro RR hRR
      refine y_add rfl rfl ?_
      refine wm ?_
      exact hRR
    refine ⟨i + 1, (fun k i => bif Nat.beq k 905 then (31, i) else bif Nat.beq k 904 then (24, i) else (k, i)), ?_, (by omega), (by dsimp only; omega)⟩
    exact ⟨⟨m_calg, ⟨rfl, rfl, rfl, rfl, rfl⟩, (by first | exact ⟨rfl, rfl, rfl, rfl⟩ | exact ⟨rfl, by omega, rfl, rfl⟩), (by first | exact ⟨rfl, rfl, rfl, rfl⟩ | exact ⟨rfl, by omega, rfl, rfl⟩), (mi), (mi), trivial⟩, ⟨⟨rfl, (sx), (by first | exact mt_vec (fun _ _ => rfl) | exact mt_mat (fun _ _ _ _ => rfl) | exact mt_tab (fun _ _ _ _ _ _ => rfl) | exact mt_arr0 | exact mt_app (fun _ _ => rfl) rfl | exact ⟨rfl, fun _ _ => mt_row (fun _ _ => rfl)⟩ | exact Mt_closed (V := _) closed_alg (fun _ _ _ => trivial) (by simp))⟩, ⟨(by exact congrArg (fun q => AV.arr q _) (show 2 * i + 2 = 2 * (i + 1) by omega)), (sx), (by exact mt_app2 (by omega) (fun j hj => Mt_closed (uCl j) (fun _ _ _ => trivial) (by simp)) (by rw [uE0]; exact mtCl closed_calg (closed_vec (n := 6))) (by rw [uE1]; exact mtCl closed_calg (closed_vec (n := 6))))⟩, ⟨(by exact congrArg (fun q => AV.arr q _) (show 2 * i + 2 = 2 * (i + 1) by omega)), (sx), (by exact mt_app2 (by omega) (fun j hj => mt_vec (fun _ _ => rfl)) (by rw [show 2 * i / 2 = i by omega]; exact mt_vec (fun _ _ => rfl)) (by rw [show (2 * i + 1) / 2 = i by omega]; exact mt_vec (fun _ _ => rfl)))⟩, trivial⟩, ⟨⟨(fun h => by first | exact ⟨rfl, rfl⟩ | exact absurd h (by decide)), (fun h => by first | exact ⟨rfl, rfl⟩ | exact absurd h (by decide)), (fun h => by first | exact ⟨rfl, rfl⟩ | exact absurd h (by decide)), trivial⟩, ⟨(fun h => by first | exact ⟨rfl, rfl⟩ | exact absurd h (by decide)), (fun h => by first | exact ⟨rfl, rfl⟩ | exact absurd h (by decide)), (fun h => by first | exact ⟨rfl, rfl⟩ | exact absurd h (by decide)), trivial⟩, ⟨(fun h => by first | exact ⟨rfl, rfl⟩ | exact absurd h (by decide)), (fun h => by first | exact ⟨rfl, rfl⟩ | exact absurd h (by decide)), (fun h => by first | exact ⟨rfl, rfl⟩ | exact absurd h (by decide)), trivial⟩, trivial⟩⟩
  · try simp only [hcs] at hc12
    have ge_i : n = i := by omega
    subst ge_i
    refine snd_exit ?_
    refine snd_emb (ρ := ρ0) (env2 := [(0, .cptr (algA p (n : Int) T fo)), (2, .ptr 2 0 [] 0 (vecA (fun _ => 0))), (4, .ro (2 * n) (fun x => .fn (uG x) 2 (uC p n T fo x))), (5, .ro (2 * n) (fun x => vecA (eF (x / 2))))]) (ol2 := [(2, .one (vecA (fun _ => 0)) (vecA (fun _ => 0)))]) ?_ ?_
    · exact ⟨⟨m_calg, ⟨rfl, rfl, rfl, rfl, rfl⟩, mt_fz ⟨ne_fst rfl, trivial⟩ rfl (fun j hj => Mt_closed (uCl j) (fun _ _ _ => trivial) (by simp)), mt_fz ⟨ne_fst rfl, trivial⟩ rfl (fun j hj => mt_vec (fun _ _ => rfl)), trivial⟩, ⟨⟨rfl, ssh_vec, mt_vec (fun _ _ => rfl)⟩, trivial⟩, ⟨⟨fun _ => ⟨rfl, rfl⟩, trivial⟩, trivial⟩⟩
    apply sr tokTB (by kernel_rfl)
    · intro RR hRR
      refine wm ?_
      refine wm ?_
      refine wm ?_
      refine w_call0 rfl (exc exp_calg (exc (exp_closed (fun _ _ => trivial)) (exc (exp_closed (v := .ro (2 * n) (fun x => .fn (uG x) 2 (uC p n T fo x))) (fun x => uCl x)) exn))) (c_solved (M := 2 * n) (n := n) (G := uG) (NC := fun _ => 2) (CP := uC p n T fo) (Fv := uM p n T) (W := uW) (p := p) (T := T) (fo := fo) hp (by omega) (by omega) hn0 hn uCl (fun x i => uM_Bp (by omega) x i) (fun x => eF_Bp (by omega) _) (uHf (by omega) (by omega) hn (B8T_of (by omega) hT))) (by exact nr_pair (fun _ => trivial) trivial) (fun _ => by exact shift_pair rfl rfl) ?_
      refine we ?_
      refine we ?_
      refine w_stw rfl (by constructor) kn30 rfl (by exact trivial) (sx) (by exact sz30.symm) ?_
      refine wa ?_
      exact hRR
    refine snd_ret ?_
    show retQ TB _ _ _ _ _ _
    exact rt_ct (T := TB) rfl kn30 rfl sz30.symm ag30.symm (fun V => mt_vec (fun _ _ => rfl)) (fun V => congrArg AV.bool rfl)
end Go.Am

set_option maxRecDepth 4000
namespace Go.Am
attribute [local irreducible] retQ retQp
open Go.Proofs
theorem c_commutative {p : Int} {n : Nat} (hn : n ≤ 6) {T : Nat → Nat → Nat → Int} {fo : Nat → Int} : ACalls Tryz.prog TB 94 [.cptr (algA p (n : Int) T fo)] (.bool (decide (comN n T))) [] := by
  refine acalls_of tokTB Tryz.func94 rfl rfl (Nat.le_of_ble_eq_true rfl) ?_
  apply sr tokTB (by kernel_rfl)
  · intro RR hRR
    refine wa ?_
    exact hRR
  refine snd_seq ?_
  apply sr tokTB (by kernel_rfl)
  · intro RR hRR
    refine wm ?_
    refine y_call rfl (ec exn) (c_n) ?_
    refine wm ?_
    exact hRR
  refine snd_block ?_
  refine snd_loop (S := Nat) (fun i => ([(0, .cptr (algA p (n : Int) T fo)), (6, .int .i64 (n : Int)), (7, .int .i64 (i : Int))], [])) (fun i => i ≤ n ∧ (∀ a, a < i → ∀ b, b < a → eqN 6 (T a b) (T b a))) (fun i => n - i) (0) ρ0 ?_ ?_ ?_
  · exact ⟨⟨m_calg, (mi), (mi), trivial⟩, trivial, trivial⟩
  · exact ⟨Nat.zero_le _, fun j hj => absurd hj (Nat.not_lt_zero _)⟩
  intro i hi0
  refine sq (env2 := [(0, .cptr (algA p (n : Int) T fo)), (6, .int .i64 (n : Int)), (7, .int .i64 (i : Int))]) (ol2 := []) rfl rfl ?_
  obtain ⟨le_i, inv_i⟩ := hi0
  apply sr tokTB (by kernel_rfl)
  · intro RR hRR
    refine w_lss rfl rfl ?_
    exact hRR
  refine snd_seq ?_
  refine snd_cond _ rfl (fun hc8 => ?_) (fun hc8 => ?_)
  · try simp only [hcs] at hc8
    have lt_i : i < n := by omega
    refine snd_skip ?_
    refine snd_seq ?_
    refine snd_block ?_
    apply sr tokTB (by kernel_rfl)
    · intro RR hRR
      refine wm ?_
      refine wa ?_
      exact hRR
    apply sr tokTB (by kernel_rfl)
    · intro RR hRR
      refine wm ?_
      refine wm ?_
      exact hRR
    refine snd_block ?_
    refine snd_loop (S := Nat) (fun j => ([(0, .cptr (algA p (n : Int) T fo)), (3, .int .i64 (i : Int)), (6, .int .i64 (n : Int)), (7, .int .i64 (i : Int)), (10, .int .i64 (i : Int)), (11, .int .i64 (j : Int))], [])) (fun j => j ≤ i ∧ (∀ b, b < j → eqN 6 (T i b) (T b i))) (fun j => i - j) (0) ρ0 ?_ ?_ ?_
    · exact ⟨⟨m_calg, (mi), (mi), (mi), (mi), (mi), trivial⟩, trivial, trivial⟩
    · exact ⟨Nat.zero_le _, fun j hj => absurd hj (Nat.not_lt_zero _)⟩
    intro j hi2
    refine sq (env2 := [(0, .cptr (algA p (n : Int) T fo)), (3, .int .i64 (i : Int)), (6, .int .i64 (n : Int)), (7, .int .i64 (i : Int)), (10, .int .i64 (i : Int)), (11, .int .i64 (j : Int))]) (ol2 := []) rfl rfl ?_
    obtain ⟨le_j, inv_j⟩ := hi2
    apply sr tokTB (by kernel_rfl)
    · intro RR hRR
      refine w_lss rfl rfl ?_
      exact hRR
    refine snd_seq ?_
    refine snd_cond _ rfl (fun hc12 => ?_) (fun hc12 => ?_)
    · try simp only [hcs] at hc12
      have lt_j : j < i := by omega
      refine snd_skip ?_
      refine snd_seq ?_
      refine snd_block ?_
      apply sr tokTB (by kernel_rfl)
      · intro RR hRR
        refine wm ?_
        refine wa ?_
        exact hRR
      apply sd tokTB mixed (by kernel_rfl) (by kernel_rfl)
      · intro RR hRR
        refine wm ?_
        refine wm ?_
        refine wm ?_
        refine w_nilc rfl ?_
        refine w_fac rfl und32 rfl kn29 nz29 (by decide) rfl (by constructor) ?_
        refine w_iac rfl rfl und29 kn28 (by exact sz28.symm) ?_ rfl ?_
        · exact ⟨by omega, by omega⟩
        refine w_iac rfl rfl und28 kn27 (by exact sz27.symm) ?_ rfl ?_
        · exact ⟨by omega, by omega⟩
        refine w_ldc rfl kn27 (by constructor) (by exact sz27.symm) (by exact ag27.symm) ?_
        refine wm ?_
        refine wm ?_
        refine wm ?_
        refine w_nilc rfl ?_
        refine w_fac rfl und32 rfl kn29 nz29 (by decide) rfl (by constructor) ?_
        refine w_iac rfl rfl und29 kn28 (by exact sz28.symm) ?_ rfl ?_
        · exact ⟨by omega, by omega⟩
        refine w_iac rfl rfl und28 kn27 (by exact sz27.symm) ?_ rfl ?_
        · exact ⟨by omega, by omega⟩
        refine w_ldc rfl kn27 (by constructor) (by exact sz27.symm) (by exact ag27.symm) ?_
        refine w_aneq rfl rfl und27 und5 ?_
        exact hRR
      refine snd_cond _ rfl (fun hc30 => ?_) (fun hc30 => ?_)
      · skip
        apply sr tokTB (by kernel_rfl)
        · intro RR hRR
          refine wa ?_
          exact hRR
        refine snd_ret ?_
        exact rt (T := TB) (fun V => m_bool (by symm; rw [decide_eq_false_iff_not]; intro h; exact of_decide_eq_true (p := ¬ eqN 6 _ _) hc30 (h i (by omega) j (by omega))))
      · skip
        refine snd_skip ?_
        apply lr tokTB (by kernel_rfl)
        · intro RR hRR
          refine y_add rfl rfl ?_
          refine wm ?_
          exact hRR
        refine ⟨j + 1, ρ0, ?_, ⟨by omega, all_step inv_j (Classical.not_not.1 (of_decide_eq_false (p := ¬ eqN 6 _ _) hc30))⟩, (by dsimp only; omega)⟩
        exact ⟨⟨m_calg, (mi), (mi), (mi), (mi), (mi), trivial⟩, trivial, trivial⟩
    · try simp only [hcs] at hc12
      have ge_j : i = j := by omega
      subst ge_j
      refine snd_exit ?_
      apply lr tokTB (by kernel_rfl)
      · intro RR hRR
        refine y_add rfl rfl ?_
        refine wm ?_
        exact hRR
      refine ⟨i + 1, ρ0, ?_, ⟨by omega, all_step inv_i inv_j⟩, (by dsimp only; omega)⟩
      exact ⟨⟨m_calg, (mi), (mi), trivial⟩, trivial, trivial⟩
  · try simp only [hcs] at hc8
    have ge_i : n = i := by omega
    subst ge_i
    refine snd_exit ?_
    apply sr tokTB (by kernel_rfl)
    · intro RR hRR
      refine wa ?_
      exact hRR
    refine snd_ret ?_
    exact rt (T := TB) (fun V => m_bool (by symm; rw [decide_eq_true_eq]; exact inv_i))
theorem c_form {p n : Int} {T : Nat → Nat → Nat → Int} {fo v : Nat → Int} (hp : 0 < p) (hf : B8 fo) (hv : B8 v) : ACalls Tryz.prog TB 77 [.cptr (algA p n T fo), vecA v] (.int .i64 (formF p fo v)) [] := by
  refine acalls_of tokTB Tryz.func77 rfl rfl (Nat.le_of_ble_eq_true rfl) ?_
  apply sr tokTB (by kernel_rfl)
  · intro RR hRR
    refine w_boxc (HV.eq (by constructor)) (by exact trivial) ?_
    refine wa ?_
    exact hRR
  apply sr tokTB (by kernel_rfl)
  · intro RR hRR
    refine wa ?_
    exact hRR
  refine snd_seq ?_
  apply sr tokTB (by kernel_rfl)
  · intro RR hRR
    refine w_ldc rfl kn30 (by constructor) (by exact sz30.symm) (by exact ag30.symm) ?_
    refine wm ?_
    exact hRR
  refine snd_block ?_
  refine snd_loop (S := Nat) (fun i => ([(0, .cptr (algA p n T fo)), (5, .int .i64 (sumZ (fun i => v i * fo i) i)), (8, vecA v), (9, .int .i64 (i : Int))], [])) (fun i => i ≤ 6) (fun i => 6 - i) (0) ρ0 ?_ ?_ ?_
  · exact ⟨⟨m_calg, (mi), (m_vec (fun _ _ => rfl)), (mi), trivial⟩, trivial, trivial⟩
  · exact Nat.zero_le _
  intro i hi0
  refine sq (env2 := [(0, .cptr (algA p n T fo)), (5, .int .i64 (sumZ (fun i => v i * fo i) i)), (8, vecA v), (9, .int .i64 (i : Int))]) (ol2 := []) rfl rfl ?_
  have hac := form_acc hv hf (i := i) (by omega)
  have huv := uv_small hv hf i
  apply sr tokTB (by kernel_rfl)
  · intro RR hRR
    refine w_lss rfl rfl ?_
    exact hRR
  refine snd_seq ?_
  refine snd_cond _ rfl (fun hc10 => ?_) (fun hc10 => ?_)
  · try simp only [hcs] at hc10
    have lt_i : i < 6 := by omega
    refine snd_skip ?_
    refine snd_seq ?_
    refine snd_block ?_
    apply sr tokTB (by kernel_rfl)
    · intro RR hRR
      refine wm ?_
      refine w_ixa rfl rfl und30 kn5 (by exact sz5.symm) ?_ (by constructor) (by exact ag5.symm) ?_
      · exact ⟨by omega, by omega⟩
      refine wa ?_
      refine wa ?_
      exact hRR
    apply lr tokTB (by kernel_rfl)
    · intro RR hRR
      refine wm ?_
      refine wm ?_
      refine w_conv rfl und5 und2 (by exact w64b hv _) ?_
      refine wm ?_
      refine wm ?_
      refine w_nilc rfl ?_
      refine w_fac rfl und32 rfl kn30 nz30 (by decide) rfl (by constructor) ?_
      refine w_iac rfl rfl und30 kn5 (by exact sz5.symm) ?_ rfl ?_
      · exact ⟨by omega, by omega⟩
      first | refine w_ldc rfl kn5 (by constructor) (by exact sz5.symm) (by exact ag5.symm) ?_ | refine w_ldp rfl kn5 rfl (by constructor) (by exact sz5.symm) (by exact ag5.symm) ?_
      refine w_conv rfl und5 und2 (by exact w64b hf _) ?_
      refine w_mul rfl rfl (by exact w64 (n := v i * fo i) (by omega) (by omega)) ?_
      refine w_add rfl rfl (by exact w64 (n := sumZ (fun i => v i * fo i) i + v i * fo i) (by omega) (by omega)) ?_
      refine wa ?_
      exact hRR
    apply lr tokTB (by kernel_rfl)
    · intro RR hRR
      refine y_add rfl rfl ?_
      refine wm ?_
      exact hRR
    refine ⟨i + 1, ρ0, ?_, (by omega), (by dsimp only; omega)⟩
    exact ⟨⟨m_calg, (mi), (m_vec (fun _ _ => rfl)), (mi), trivial⟩, trivial, trivial⟩
  · try simp only [hcs] at hc10
    have ge_i : 6 = i := by omega
    subst ge_i
    refine snd_exit ?_
    apply sr tokTB (by kernel_rfl)
    · intro RR hRR
      refine wm ?_
      refine wm ?_
      refine w_nilc rfl ?_
      refine w_fac rfl und32 rfl kn2 nz2 (by decide) rfl (by constructor) ?_
      refine w_ldc rfl kn2 (by constructor) (by exact sz2.symm) (by exact ag2.symm) ?_
      refine w_rem rfl rfl (by first | assumption | omega) ?_
      refine wa ?_
      exact hRR
    refine snd_ret ?_
    exact rt (T := TB) (fun V => m_int ((tmod_nn (form_acc hv hf (Nat.le_refl _)).1).trans formF_comm))
theorem c_unit {p : Int} {n : Nat} {T : Nat → Nat → Nat → Int} {fo : Nat → Int} (hv : VN p n T fo) : ACalls Tryz.prog TB 36 [.cptr (algA p (n : Int) T fo)] (vecA (uF p n T)) [] := by
  refine acalls_of tokTB Tryz.func36 rfl rfl (Nat.le_of_ble_eq_true rfl) ?_
  apply sr tokTB (by kernel_rfl)
  · intro RR hRR
    refine w_alloc kn30 rfl zr30 ?_
    exact hRR
  apply sr tokTB (by kernel_rfl)
  · intro RR hRR
    refine wm ?_
    refine y_call rfl (ec exn) (c_findUnit hv.hp hv.n0 hv.n6 hv.hT) ?_
    refine wm ?_
    refine we ?_
    refine we ?_
    refine w_alloc kn30 rfl zr30 ?_
    refine w_stw rfl (by constructor) kn30 rfl (by exact trivial) (sx) (by exact sz30.symm) ?_
    refine wa ?_
    exact hRR
  apply sr tokTB (by kernel_rfl)
  · intro RR hRR
    refine w_ldp rfl kn30 rfl (by constructor) (by exact sz30.symm) (by exact ag30.symm) ?_
    refine w_stw rfl (by constructor) kn30 rfl (by exact trivial) (sx) (by exact sz30.symm) ?_
    exact hRR
  refine snd_ret ?_
  exact rt_c (T := TB) rfl kn30 rfl sz30.symm ag30.symm (fun V => m_vec (fun j hj => rfl))
end Go.Am

set_option maxRecDepth 4000
namespace Go.Am
attribute [local irreducible] retQ retQp
open Go.Proofs
theorem c_IsAlgebraN {p : Int} {n : Nat} {T : Nat → Nat → Nat → Int} {fo : Nat → Int} (hT : RB T) (hf : RV fo) : ACalls Tryz.prog TB 65 [algA p (n : Int) T fo] (.bool (decide (VA p n T fo))) [] := by
  refine acalls_of tokTB Tryz.func65 rfl rfl (Nat.le_of_ble_eq_true rfl) ?_
  apply sr tokTB (by kernel_rfl)
  · intro RR hRR
    refine w_boxc (HV.eq (by constructor)) (by exact trivial) ?_
    refine wa ?_
    exact hRR
  refine snd_seq ?_
  apply srG (env' := (22, .bool (((!(primeB p) || !(decide (1 ≤ (n : Int)) && decide ((n : Int) ≤ 6))) || !(decide (tabP p n T fo))) || !(decide (assocP p n T)))) :: (21, .any) :: (20, .any) :: (19, .bool ((!(primeB p) || !(decide (1 ≤ (n : Int)) && decide ((n : Int) ≤ 6))) || !(decide (tabP p n T fo)))) :: (18, .bool ((!(primeB p) || !(decide (1 ≤ (n : Int)) && decide ((n : Int) ≤ 6))) || !(decide (tabP p n T fo)))) :: (17, .any) :: (16, .any) :: (15, .bool (!(primeB p) || !(decide (1 ≤ (n : Int)) && decide ((n : Int) ≤ 6)))) :: (14, .bool (!(primeB p) || !(decide (1 ≤ (n : Int)) && decide ((n : Int) ≤ 6)))) :: (13, .any) :: (12, .any) :: (11, .any) :: (10, .any) :: (9, _) :: (8, _) :: (7, _) :: (6, _) :: (5, _) :: _) tokTB (by kernel_rfl)
  · intro RR hRR
    refine w_fac rfl und32 rfl kn2 nz2 (by decide) rfl (by constructor) ?_
    first | refine w_ldc rfl kn2 (by constructor) (by exact sz2.symm) (by exact ag2.symm) ?_ | refine w_ldp rfl kn2 rfl (by constructor) (by exact sz2.symm) (by exact ag2.symm) ?_
    refine y_call rfl (ec exn) (c_isPrime) ?_
    refine w_not rfl ?_
    refine wm ?_
    refine w_g rfl rfl (fun hg4 => ?_) (fun hg4 => ?_)
    · skip
      refine w_fac rfl und32 rfl kn2 nz2 (by decide) rfl (by constructor) ?_
      refine w_g_on rfl rfl hg4 ?_
      first | refine w_ldc rfl kn2 (by constructor) (by exact sz2.symm) (by exact ag2.symm) ?_ | refine w_ldp rfl kn2 rfl (by constructor) (by exact sz2.symm) (by exact ag2.symm) ?_
      refine w_g_on rfl rfl hg4 ?_
      refine y_call rfl (ec (ec (ec exn))) (c_in) ?_
      refine w_g_on rfl rfl hg4 ?_
      refine w_not rfl ?_
      refine w_pick_0 rfl hg4 (by constructor) ?_
      refine wm ?_
      refine w_g rfl rfl (fun hg10 => ?_) (fun hg10 => ?_)
      · skip
        refine y_call rfl (ec exn) (c_tableOk hT.b hf.b) ?_
        refine w_g_on rfl rfl hg10 ?_
        refine w_not rfl ?_
        refine w_pick_0 rfl hg10 (by constructor) ?_
        refine wm ?_
        refine w_g rfl rfl (fun hg14 => ?_) (fun hg14 => ?_)
        · skip
          refine y_call rfl (ec exn) (c_associative (p := p) (n := n) (T := T) (by simp only [Bool.not_eq_false'] at hg4; have := primeB_bd hg4; omega) (by simp only [Bool.not_eq_false'] at hg4; have := primeB_bd hg4; omega) (by simp only [Bool.not_eq_false', Bool.and_eq_true, decide_eq_true_eq] at hg10; omega) hT.b) ?_
          refine w_g_on rfl rfl hg14 ?_
          refine w_not rfl ?_
          refine w_pick_0 rfl hg14 (by constructor) ?_
          try simp only [Int.toNat_natCast] at hg4 hg10 hg14
          exact hRR _ (EL.cons (.inr (by first | rfl | (simp only [hg4, hg10, hg14, els]; done) | (simp only [hg4, hg10, hg14, els]; rfl) | (simp [hg4, hg10, hg14]; done) | (clear hRR; simp_all; done) | (exfalso; simp only [hg4, Bool.not_false, Bool.not_true, reduceCtorEq] at hg10; done) | (exfalso; simp only [hg4, Bool.not_false, Bool.not_true, reduceCtorEq] at hg14; done) | (exfalso; simp only [hg10, Bool.not_false, Bool.not_true, reduceCtorEq] at hg14; done))) (EL.cons (.inl rfl) (EL.cons (.inl rfl) (EL.cons (.inr (by first | rfl | (simp only [hg4, hg10, hg14, els]; done) | (simp only [hg4, hg10, hg14, els]; rfl) | (simp [hg4, hg10, hg14]; done) | (clear hRR; simp_all; done) | (exfalso; simp only [hg4, Bool.not_false, Bool.not_true, reduceCtorEq] at hg10; done) | (exfalso; simp only [hg4, Bool.not_false, Bool.not_true, reduceCtorEq] at hg14; done) | (exfalso; simp only [hg10, Bool.not_false, Bool.not_true, reduceCtorEq] at hg14; done))) (EL.cons (.inr (by first | rfl | (simp only [hg4, hg10, hg14, els]; done) | (simp only [hg4, hg10, hg14, els]; rfl) | (simp [hg4, hg10, hg14]; done) | (clear hRR; simp_all; done) | (exfalso; simp only [hg4, Bool.not_false, Bool.not_true, reduceCtorEq] at hg10; done) | (exfalso; simp only [hg4, Bool.not_false, Bool.not_true, reduceCtorEq] at hg14; done) | (exfalso; simp only [hg10, Bool.not_false, Bool.not_true, reduceCtorEq] at hg14; done))) (EL.cons (.inl rfl) (EL.cons (.inl rfl) (EL.cons (.inr (by first | rfl | (simp only [hg4, hg10, hg14, els]; done) | (simp only [hg4, hg10, hg14, els]; rfl) | (simp [hg4, hg10, hg14]; done) | (clear hRR; simp_all; done) | (exfalso; simp only [hg4, Bool.not_false, Bool.not_true, reduceCtorEq] at hg10; done) | (exfalso; simp only [hg4, Bool.not_false, Bool.not_true, reduceCtorEq] at hg14; done) | (exfalso; simp only [hg10, Bool.not_false, Bool.not_true, reduceCtorEq] at hg14; done))) (EL.cons (.inr (by first | rfl | (simp only [hg4, hg10, hg14, els]; done) | (simp only [hg4, hg10, hg14, els]; rfl) | (simp [hg4, hg10, hg14]; done) | (clear hRR; simp_all; done) | (exfalso; simp only [hg4, Bool.not_false, Bool.not_true, reduceCtorEq] at hg10; done) | (exfalso; simp only [hg4, Bool.not_false, Bool.not_true, reduceCtorEq] at hg14; done) | (exfalso; simp only [hg10, Bool.not_false, Bool.not_true, reduceCtorEq] at hg14; done))) (EL.cons (.inl rfl) (EL.cons (.inl rfl) (EL.cons (.inl rfl) (EL.cons (.inl rfl) (EL.cons (.inr rfl) (EL.cons (.inr rfl) (EL.cons (.inr rfl) (EL.cons (.inr rfl) (EL.cons (.inr rfl) (EL.refl _)))))))))))))))))))
        · have hg14 := eq_true_of_ne_false hg14
          refine w_g_off rfl rfl (by rw [hg14]; decide) ?_
          refine w_pick_1 rfl hg14 (by constructor) ?_
          try simp only [Int.toNat_natCast] at hg4 hg10 hg14
          exact hRR _ (EL.cons (.inr (by first | rfl | (simp only [hg4, hg10, hg14, els]; done) | (simp only [hg4, hg10, hg14, els]; rfl) | (simp [hg4, hg10, hg14]; done) | (clear hRR; simp_all; done) | (exfalso; simp only [hg4, Bool.not_false, Bool.not_true, reduceCtorEq] at hg10; done) | (exfalso; simp only [hg4, Bool.not_false, Bool.not_true, reduceCtorEq] at hg14; done) | (exfalso; simp only [hg10, Bool.not_false, Bool.not_true, reduceCtorEq] at hg14; done))) (EL.cons (.inl rfl) (EL.cons (.inl rfl) (EL.cons (.inr (by first | rfl | (simp only [hg4, hg10, hg14, els]; done) | (simp only [hg4, hg10, hg14, els]; rfl) | (simp [hg4, hg10, hg14]; done) | (clear hRR; simp_all; done) | (exfalso; simp only [hg4, Bool.not_false, Bool.not_true, reduceCtorEq] at hg10; done) | (exfalso; simp only [hg4, Bool.not_false, Bool.not_true, reduceCtorEq] at hg14; done) | (exfalso; simp only [hg10, Bool.not_false, Bool.not_true, reduceCtorEq] at hg14; done))) (EL.cons (.inr (by first | rfl | (simp only [hg4, hg10, hg14, els]; done) | (simp only [hg4, hg10, hg14, els]; rfl) | (simp [hg4, hg10, hg14]; done) | (clear hRR; simp_all; done) | (exfalso; simp only [hg4, Bool.not_false, Bool.not_true, reduceCtorEq] at hg10; done) | (exfalso; simp only [hg4, Bool.not_false, Bool.not_true, reduceCtorEq] at hg14; done) | (exfalso; simp only [hg10, Bool.not_false, Bool.not_true, reduceCtorEq] at hg14; done))) (EL.cons (.inl rfl) (EL.cons (.inl rfl) (EL.cons (.inr (by first | rfl | (simp only [hg4, hg10, hg14, els]; done) | (simp only [hg4, hg10, hg14, els]; rfl) | (simp [hg4, hg10, hg14]; done) | (clear hRR; simp_all; done) | (exfalso; simp only [hg4, Bool.not_false, Bool.not_true, reduceCtorEq] at hg10; done) | (exfalso; simp only [hg4, Bool.not_false, Bool.not_true, reduceCtorEq] at hg14; done) | (exfalso; simp only [hg10, Bool.not_false, Bool.not_true, reduceCtorEq] at hg14; done))) (EL.cons (.inr (by first | rfl | (simp only [hg4, hg10, hg14, els]; done) | (simp only [hg4, hg10, hg14, els]; rfl) | (simp [hg4, hg10, hg14]; done) | (clear hRR; simp_all; done) | (exfalso; simp only [hg4, Bool.not_false, Bool.not_true, reduceCtorEq] at hg10; done) | (exfalso; simp only [hg4, Bool.not_false, Bool.not_true, reduceCtorEq] at hg14; done) | (exfalso; simp only [hg10, Bool.not_false, Bool.not_true, reduceCtorEq] at hg14; done))) (EL.cons (.inl rfl) (EL.cons (.inl rfl) (EL.cons (.inl rfl) (EL.cons (.inl rfl) (EL.cons (.inr rfl) (EL.cons (.inr rfl) (EL.cons (.inr rfl) (EL.cons (.inr rfl) (EL.cons (.inr rfl) (EL.refl _)))))))))))))))))))
      · have hg10 := eq_true_of_ne_false hg10
        refine w_g_off rfl rfl (by rw [hg10]; decide) ?_
        refine w_pick_1 rfl hg10 (by constructor) ?_
        refine wm ?_
        refine w_g_off rfl rfl (by decide) ?_
        refine w_g_off rfl rfl (by decide) ?_
        refine w_pick_1 rfl rfl (by constructor) ?_
        try simp only [Int.toNat_natCast] at hg4 hg10
        exact hRR _ (EL.cons (.inr (by first | rfl | (simp only [hg4, hg10, els]; done) | (simp only [hg4, hg10, els]; rfl) | (simp [hg4, hg10]; done) | (clear hRR; simp_all; done) | (exfalso; simp only [hg4, Bool.not_false, Bool.not_true, reduceCtorEq] at hg10; done))) (EL.cons (.inl rfl) (EL.cons (.inl rfl) (EL.cons (.inr (by first | rfl | (simp only [hg4, hg10, els]; done) | (simp only [hg4, hg10, els]; rfl) | (simp [hg4, hg10]; done) | (clear hRR; simp_all; done) | (exfalso; simp only [hg4, Bool.not_false, Bool.not_true, reduceCtorEq] at hg10; done))) (EL.cons (.inr (by first | rfl | (simp only [hg4, hg10, els]; done) | (simp only [hg4, hg10, els]; rfl) | (simp [hg4, hg10]; done) | (clear hRR; simp_all; done) | (exfalso; simp only [hg4, Bool.not_false, Bool.not_true, reduceCtorEq] at hg10; done))) (EL.cons (.inl rfl) (EL.cons (.inl rfl) (EL.cons (.inr (by first | rfl | (simp only [hg4, hg10, els]; done) | (simp only [hg4, hg10, els]; rfl) | (simp [hg4, hg10]; done) | (clear hRR; simp_all; done) | (exfalso; simp only [hg4, Bool.not_false, Bool.not_true, reduceCtorEq] at hg10; done))) (EL.cons (.inr (by first | rfl | (simp only [hg4, hg10, els]; done) | (simp only [hg4, hg10, els]; rfl) | (simp [hg4, hg10]; done) | (clear hRR; simp_all; done) | (exfalso; simp only [hg4, Bool.not_false, Bool.not_true, reduceCtorEq] at hg10; done))) (EL.cons (.inl rfl) (EL.cons (.inl rfl) (EL.cons (.inl rfl) (EL.cons (.inl rfl) (EL.cons (.inr rfl) (EL.cons (.inr rfl) (EL.cons (.inr rfl) (EL.cons (.inr rfl) (EL.cons (.inr rfl) (EL.refl _)))))))))))))))))))
    · have hg4 := eq_true_of_ne_false hg4
      refine w_g_off rfl rfl (by rw [hg4]; decide) ?_
      refine w_g_off rfl rfl (by rw [hg4]; decide) ?_
      refine w_g_off rfl rfl (by rw [hg4]; decide) ?_
      refine w_pick_1 rfl hg4 (by constructor) ?_
      refine wm ?_
      refine w_g_off rfl rfl (by decide) ?_
      refine w_g_off rfl rfl (by decide) ?_
      refine w_pick_1 rfl rfl (by constructor) ?_
      refine wm ?_
      refine w_g_off rfl rfl (by decide) ?_
      refine w_g_off rfl rfl (by decide) ?_
      refine w_pick_1 rfl rfl (by constructor) ?_
      try simp only [Int.toNat_natCast] at hg4
      exact hRR _ (EL.cons (.inr (by first | rfl | (simp only [hg4, els]; done) | (simp only [hg4, els]; rfl) | (simp [hg4]; done) | (clear hRR; simp_all; done))) (EL.cons (.inl rfl) (EL.cons (.inl rfl) (EL.cons (.inr (by first | rfl | (simp only [hg4, els]; done) | (simp only [hg4, els]; rfl) | (simp [hg4]; done) | (clear hRR; simp_all; done))) (EL.cons (.inr (by first | rfl | (simp only [hg4, els]; done) | (simp only [hg4, els]; rfl) | (simp [hg4]; done) | (clear hRR; simp_all; done))) (EL.cons (.inl rfl) (EL.cons (.inl rfl) (EL.cons (.inr (by first | rfl | (simp only [hg4, els]; done) | (simp only [hg4, els]; rfl) | (simp [hg4]; done) | (clear hRR; simp_all; done))) (EL.cons (.inr (by first | rfl | (simp only [hg4, els]; done) | (simp only [hg4, els]; rfl) | (simp [hg4]; done) | (clear hRR; simp_all; done))) (EL.cons (.inl rfl) (EL.cons (.inl rfl) (EL.cons (.inl rfl) (EL.cons (.inl rfl) (EL.cons (.inr rfl) (EL.cons (.inr rfl) (EL.cons (.inr rfl) (EL.cons (.inr rfl) (EL.cons (.inr rfl) (EL.refl _)))))))))))))))))))
  refine snd_cond _ rfl (fun hc22 => ?_) (fun hc22 => ?_)
  · skip
    apply sr tokTB (by kernel_rfl)
    · intro RR hRR
      refine wa ?_
      exact hRR
    refine snd_ret ?_
    exact rt (T := TB) (fun V => m_bool (by symm; rw [decide_eq_false_iff_not]; intro h; obtain ⟨q1, q2, q3⟩ := shape_iff.1 h.1; rw [q1, decide_eq_true q2.1, decide_eq_true q2.2, decide_eq_true q3, decide_eq_true (show assocP p n T from h.2.1)] at hc22; cases hc22))
  · skip
    simp only [Bool.or_eq_false_iff, Bool.not_eq_false', Bool.and_eq_true, decide_eq_true_eq] at hc22
    obtain ⟨⟨⟨h1, h2⟩, h3⟩, h4⟩ := hc22
    refine snd_skip ?_
    apply sr tokTB (by kernel_rfl)
    · intro RR hRR
      refine y_call rfl (ec exn) (c_findUnit h1 (by omega) (by omega) (BpT_of hT (shape_iff.2 ⟨h1, h2, h3⟩))) ?_
      refine wm ?_
      refine we ?_
      refine we ?_
      refine w_alloc kn30 rfl zr30 ?_
      refine w_stw rfl (by constructor) kn30 rfl (by exact trivial) (sx) (by exact sz30.symm) ?_
      refine wa ?_
      exact hRR
    apply sr tokTB (by kernel_rfl)
    · intro RR hRR
      refine wm ?_
      refine wa ?_
      exact hRR
    refine snd_ret ?_
    exact rt (T := TB) (fun V => m_bool (decide_eq_decide.2 ⟨fun h => ⟨shape_iff.2 ⟨h1, h2, h3⟩, h4, h⟩, fun h => h.2.2⟩))
theorem c_IsAlgebra0 {p n : Int} {T : Nat → Nat → Nat → Int} {fo : Nat → Int} (hT : RB T) (hf : RV fo) (hn : n < 0) : ACalls Tryz.prog TB 65 [algA p n T fo] (.bool (decide (VA p n T fo))) [] := by
  refine acalls_of tokTB Tryz.func65 rfl rfl (Nat.le_of_ble_eq_true rfl) ?_
  apply sr tokTB (by kernel_rfl)
  · intro RR hRR
    refine w_boxc (HV.eq (by constructor)) (by exact trivial) ?_
    refine wa ?_
    exact hRR
  refine snd_seq ?_
  apply srG (env' := (22, .bool true) :: (21, .any) :: (20, .any) :: (19, .bool ((!(primeB p) || !(decide (1 ≤ n) && decide (n ≤ 6))) || !(decide (tabP p n T fo)))) :: (18, .bool ((!(primeB p) || !(decide (1 ≤ n) && decide (n ≤ 6))) || !(decide (tabP p n T fo)))) :: (17, .any) :: (16, .any) :: (15, .bool (!(primeB p) || !(decide (1 ≤ n) && decide (n ≤ 6)))) :: (14, .bool (!(primeB p) || !(decide (1 ≤ n) && decide (n ≤ 6)))) :: (13, .any) :: (12, .any) :: (11, .any) :: (10, .any) :: (9, _) :: (8, _) :: (7, _) :: (6, _) :: (5, _) :: _) tokTB (by kernel_rfl)
  · intro RR hRR
    refine w_fac rfl und32 rfl kn2 nz2 (by decide) rfl (by constructor) ?_
    first | refine w_ldc rfl kn2 (by constructor) (by exact sz2.symm) (by exact ag2.symm) ?_ | refine w_ldp rfl kn2 rfl (by constructor) (by exact sz2.symm) (by exact ag2.symm) ?_
    refine y_call rfl (ec exn) (c_isPrime) ?_
    refine w_not rfl ?_
    refine wm ?_
    refine w_g rfl rfl (fun hg4 => ?_) (fun hg4 => ?_)
    · skip
      refine w_fac rfl und32 rfl kn2 nz2 (by decide) rfl (by constructor) ?_
      refine w_g_on rfl rfl hg4 ?_
      first | refine w_ldc rfl kn2 (by constructor) (by exact sz2.symm) (by exact ag2.symm) ?_ | refine w_ldp rfl kn2 rfl (by constructor) (by exact sz2.symm) (by exact ag2.symm) ?_
      refine w_g_on rfl rfl hg4 ?_
      refine y_call rfl (ec (ec (ec exn))) (c_in) ?_
      refine w_g_on rfl rfl hg4 ?_
      refine w_not rfl ?_
      refine w_pick_0 rfl hg4 (by constructor) ?_
      refine wm ?_
      refine w_g rfl rfl (fun hg10 => ?_) (fun hg10 => ?_)
      · skip
        refine y_call rfl (ec exn) (c_tableOk hT.b hf.b) ?_
        refine w_g_on rfl rfl hg10 ?_
        refine w_not rfl ?_
        refine w_pick_0 rfl hg10 (by constructor) ?_
        refine wm ?_
        refine w_g rfl rfl (fun hg14 => ?_) (fun hg14 => ?_)
        · skip
          refine y_call rfl (ec exn) ((absurd hg10 (by simp; omega) : ACalls Tryz.prog TB 82 [.cptr (algA p n T fo)] (.bool false) [])) ?_
          refine w_g_on rfl rfl hg14 ?_
          refine w_not rfl ?_
          refine w_pick_0 rfl hg14 (by constructor) ?_
          try simp only [Int.toNat_natCast] at hg4 hg10 hg14
          exact hRR _ (EL.cons (.inr (by first | rfl | (simp only [hg4, hg10, hg14, els]; done) | (simp only [hg4, hg10, hg14, els]; rfl) | (simp [hg4, hg10, hg14]; done) | (clear hRR; simp_all; done) | (exfalso; simp only [hg4, Bool.not_false, Bool.not_true, reduceCtorEq] at hg10; done) | (exfalso; simp only [hg4, Bool.not_false, Bool.not_true, reduceCtorEq] at hg14; done) | (exfalso; simp only [hg10, Bool.not_false, Bool.not_true, reduceCtorEq] at hg14; done))) (EL.cons (.inl rfl) (EL.cons (.inl rfl) (EL.cons (.inr (by first | rfl | (simp only [hg4, hg10, hg14, els]; done) | (simp only [hg4, hg10, hg14, els]; rfl) | (simp [hg4, hg10, hg14]; done) | (clear hRR; simp_all; done) | (exfalso; simp only [hg4, Bool.not_false, Bool.not_true, reduceCtorEq] at hg10; done) | (exfalso; simp only [hg4, Bool.not_false, Bool.not_true, reduceCtorEq] at hg14; done) | (exfalso; simp only [hg10, Bool.not_false, Bool.not_true, reduceCtorEq] at hg14; done))) (EL.cons (.inr (by first | rfl | (simp only [hg4, hg10, hg14, els]; done) | (simp only [hg4, hg10, hg14, els]; rfl) | (simp [hg4, hg10, hg14]; done) | (clear hRR; simp_all; done) | (exfalso; simp only [hg4, Bool.not_false, Bool.not_true, reduceCtorEq] at hg10; done) | (exfalso; simp only [hg4, Bool.not_false, Bool.not_true, reduceCtorEq] at hg14; done) | (exfalso; simp only [hg10, Bool.not_false, Bool.not_true, reduceCtorEq] at hg14; done))) (EL.cons (.inl rfl) (EL.cons (.inl rfl) (EL.cons (.inr (by first | rfl | (simp only [hg4, hg10, hg14, els]; done) | (simp only [hg4, hg10, hg14, els]; rfl) | (simp [hg4, hg10, hg14]; done) | (clear hRR; simp_all; done) | (exfalso; simp only [hg4, Bool.not_false, Bool.not_true, reduceCtorEq] at hg10; done) | (exfalso; simp only [hg4, Bool.not_false, Bool.not_true, reduceCtorEq] at hg14; done) | (exfalso; simp only [hg10, Bool.not_false, Bool.not_true, reduceCtorEq] at hg14; done))) (EL.cons (.inr (by first | rfl | (simp only [hg4, hg10, hg14, els]; done) | (simp only [hg4, hg10, hg14, els]; rfl) | (simp [hg4, hg10, hg14]; done) | (clear hRR; simp_all; done) | (exfalso; simp only [hg4, Bool.not_false, Bool.not_true, reduceCtorEq] at hg10; done) | (exfalso; simp only [hg4, Bool.not_false, Bool.not_true, reduceCtorEq] at hg14; done) | (exfalso; simp only [hg10, Bool.not_false, Bool.not_true, reduceCtorEq] at hg14; done))) (EL.cons (.inl rfl) (EL.cons (.inl rfl) (EL.cons (.inl rfl) (EL.cons (.inl rfl) (EL.cons (.inr rfl) (EL.cons (.inr rfl) (EL.cons (.inr rfl) (EL.cons (.inr rfl) (EL.cons (.inr rfl) (EL.refl _)))))))))))))))))))
        · have hg14 := eq_true_of_ne_false hg14
          refine w_g_off rfl rfl (by rw [hg14]; decide) ?_
          refine w_pick_1 rfl hg14 (by constructor) ?_
          try simp only [Int.toNat_natCast] at hg4 hg10 hg14
          exact hRR _ (EL.cons (.inr (by first | rfl | (simp only [hg4, hg10, hg14, els]; done) | (simp only [hg4, hg10, hg14, els]; rfl) | (simp [hg4, hg10, hg14]; done) | (clear hRR; simp_all; done) | (exfalso; simp only [hg4, Bool.not_false, Bool.not_true, reduceCtorEq] at hg10; done) | (exfalso; simp only [hg4, Bool.not_false, Bool.not_true, reduceCtorEq] at hg14; done) | (exfalso; simp only [hg10, Bool.not_false, Bool.not_true, reduceCtorEq] at hg14; done))) (EL.cons (.inl rfl) (EL.cons (.inl rfl) (EL.cons (.inr (by first | rfl | (simp only [hg4, hg10, hg14, els]; done) | (simp only [hg4, hg10, hg14, els]; rfl) | (simp [hg4, hg10, hg14]; done) | (clear hRR; simp_all; done) | (exfalso; simp only [hg4, Bool.not_false, Bool.not_true, reduceCtorEq] at hg10; done) | (exfalso; simp only [hg4, Bool.not_false, Bool.not_true, reduceCtorEq] at hg14; done) | (exfalso; simp only [hg10, Bool.not_false, Bool.not_true, reduceCtorEq] at hg14; done))) (EL.cons (.inr (by first | rfl | (simp only [hg4, hg10, hg14, els]; done) | (simp only [hg4, hg10, hg14, els]; rfl) | (simp [hg4, hg10, hg14]; done) | (clear hRR; simp_all; done) | (exfalso; simp only [hg4, Bool.not_false, Bool.not_true, reduceCtorEq] at hg10; done) | (exfalso; simp only [hg4, Bool.not_false, Bool.not_true, reduceCtorEq] at hg14; done) | (exfalso; simp only [hg10, Bool.not_false, Bool.not_true, reduceCtorEq] at hg14; done))) (EL.cons (.inl rfl) (EL.cons (.inl rfl) (EL.cons (.inr (by first | rfl | (simp only [hg4, hg10, hg14, els]; done) | (simp only [hg4, hg10, hg14, els]; rfl) | (simp [hg4, hg10, hg14]; done) | (clear hRR; simp_all; done) | (exfalso; simp only [hg4, Bool.not_false, Bool.not_true, reduceCtorEq] at hg10; done) | (exfalso; simp only [hg4, Bool.not_false, Bool.not_true, reduceCtorEq] at hg14; done) | (exfalso; simp only [hg10, Bool.not_false, Bool.not_true, reduceCtorEq] at hg14; done))) (EL.cons (.inr (by first | rfl | (simp only [hg4, hg10, hg14, els]; done) | (simp only [hg4, hg10, hg14, els]; rfl) | (simp [hg4, hg10, hg14]; done) | (clear hRR; simp_all; done) | (exfalso; simp only [hg4, Bool.not_false, Bool.not_true, reduceCtorEq] at hg10; done) | (exfalso; simp only [hg4, Bool.not_false, Bool.not_true, reduceCtorEq] at hg14; done) | (exfalso; simp only [hg10, Bool.not_false, Bool.not_true, reduceCtorEq] at hg14; done))) (EL.cons (.inl rfl) (EL.cons (.inl rfl) (EL.cons (.inl rfl) (EL.cons (.inl rfl) (EL.cons (.inr rfl) (EL.cons (.inr rfl) (EL.cons (.inr rfl) (EL.cons (.inr rfl) (EL.cons (.inr rfl) (EL.refl _)))))))))))))))))))
      · have hg10 := eq_true_of_ne_false hg10
        refine w_g_off rfl rfl (by rw [hg10]; decide) ?_
        refine w_pick_1 rfl hg10 (by constructor) ?_
        refine wm ?_
        refine w_g_off rfl rfl (by decide) ?_
        refine w_g_off rfl rfl (by decide) ?_
        refine w_pick_1 rfl rfl (by constructor) ?_
        try simp only [Int.toNat_natCast] at hg4 hg10
        exact hRR _ (EL.cons (.inr (by first | rfl | (simp only [hg4, hg10, els]; done) | (simp only [hg4, hg10, els]; rfl) | (simp [hg4, hg10]; done) | (clear hRR; simp_all; done) | (exfalso; simp only [hg4, Bool.not_false, Bool.not_true, reduceCtorEq] at hg10; done))) (EL.cons (.inl rfl) (EL.cons (.inl rfl) (EL.cons (.inr (by first | rfl | (simp only [hg4, hg10, els]; done) | (simp only [hg4, hg10, els]; rfl) | (simp [hg4, hg10]; done) | (clear hRR; simp_all; done) | (exfalso; simp only [hg4, Bool.not_false, Bool.not_true, reduceCtorEq] at hg10; done))) (EL.cons (.inr (by first | rfl | (simp only [hg4, hg10, els]; done) | (simp only [hg4, hg10, els]; rfl) | (simp [hg4, hg10]; done) | (clear hRR; simp_all; done) | (exfalso; simp only [hg4, Bool.not_false, Bool.not_true, reduceCtorEq] at hg10; done))) (EL.cons (.inl rfl) (EL.cons (.inl rfl) (EL.cons (.inr (by first | rfl | (simp only [hg4, hg10, els]; done) | (simp only [hg4, hg10, els]; rfl) | (simp [hg4, hg10]; done) | (clear hRR; simp_all; done) | (exfalso; simp only [hg4, Bool.not_false, Bool.not_true, reduceCtorEq] at hg10; done))) (EL.cons (.inr (by first | rfl | (simp only [hg4, hg10, els]; done) | (simp only [hg4, hg10, els]; rfl) | (simp [hg4, hg10]; done) | (clear hRR; simp_all; done) | (exfalso; simp only [hg4, Bool.not_false, Bool.not_true, reduceCtorEq] at hg10; done))) (EL.cons (.inl rfl) (EL.cons (.inl rfl) (EL.cons (.inl rfl) (EL.cons (.inl rfl) (EL.cons (.inr rfl) (EL.cons (.inr rfl) (EL.cons (.inr rfl) (EL.cons (.inr rfl) (EL.cons (.inr rfl) (EL.refl _)))))))))))))))))))
    · have hg4 := eq_true_of_ne_false hg4
      refine w_g_off rfl rfl (by rw [hg4]; decide) ?_
      refine w_g_off rfl rfl (by rw [hg4]; decide) ?_
      refine w_g_off rfl rfl (by rw [hg4]; decide) ?_
      refine w_pick_1 rfl hg4 (by constructor) ?_
      refine wm ?_
      refine w_g_off rfl rfl (by decide) ?_
      refine w_g_off rfl rfl (by decide) ?_
      refine w_pick_1 rfl rfl (by constructor) ?_
      refine wm ?_
      refine w_g_off rfl rfl (by decide) ?_
      refine w_g_off rfl rfl (by decide) ?_
      refine w_pick_1 rfl rfl (by constructor) ?_
      try simp only [Int.toNat_natCast] at hg4
      exact hRR _ (EL.cons (.inr (by first | rfl | (simp only [hg4, els]; done) | (simp only [hg4, els]; rfl) | (simp [hg4]; done) | (clear hRR; simp_all; done))) (EL.cons (.inl rfl) (EL.cons (.inl rfl) (EL.cons (.inr (by first | rfl | (simp only [hg4, els]; done) | (simp only [hg4, els]; rfl) | (simp [hg4]; done) | (clear hRR; simp_all; done))) (EL.cons (.inr (by first | rfl | (simp only [hg4, els]; done) | (simp only [hg4, els]; rfl) | (simp [hg4]; done) | (clear hRR; simp_all; done))) (EL.cons (.inl rfl) (EL.cons (.inl rfl) (EL.cons (.inr (by first | rfl | (simp only [hg4, els]; done) | (simp only [hg4, els]; rfl) | (simp [hg4]; done) | (clear hRR; simp_all; done))) (EL.cons (.inr (by first | rfl | (simp only [hg4, els]; done) | (simp only [hg4, els]; rfl) | (simp [hg4]; done) | (clear hRR; simp_all; done))) (EL.cons (.inl rfl) (EL.cons (.inl rfl) (EL.cons (.inl rfl) (EL.cons (.inl rfl) (EL.cons (.inr rfl) (EL.cons (.inr rfl) (EL.cons (.inr rfl) (EL.cons (.inr rfl) (EL.cons (.inr rfl) (EL.refl _)))))))))))))))))))
  refine snd_cond_true rfl ?_
  apply sr tokTB (by kernel_rfl)
  · intro RR hRR
    refine wa ?_
    exact hRR
  refine snd_ret ?_
  exact rt (T := TB) (fun V => m_bool (by symm; rw [decide_eq_false_iff_not]; exact VA_neg hn))
theorem c_IsAlgebra {p n : Int} {T : Nat → Nat → Nat → Int} {fo : Nat → Int} (hT : RB T) (hf : RV fo) : ACalls Tryz.prog TB 65 [algA p n T fo] (.bool (decide (VA p n T fo))) [] := by
  rcases Int.lt_or_le n 0 with h | h
  · exact c_IsAlgebra0 hT hf h
  · obtain ⟨m, rfl⟩ := Int.eq_ofNat_of_zero_le h
    exact c_IsAlgebraN hT hf
end Go.Am

set_option maxRecDepth 4000
namespace Go.Am
attribute [local irreducible] retQ retQp
open Go.Proofs
theorem c_IndexFuncV {M : Nat} {F : Nat → Nat → Int} {g nc : Nat} {caps : Nat → AV} {P : Nat → Bool} (hm : M ≤ 16777216) (hcaps : (AV.fn g nc caps).closed) (hf : ∀ i, i < M → ACalls Tryz.prog TB g (vecA (F i) :: capL nc caps) (.bool (P i)) []) : ACalls Tryz.prog TB 88 [vlA M F, .fn g nc caps] (.int .i64 (idxF P M)) [] := by
  refine acalls_of tokTB Tryz.func88 rfl rfl (Nat.le_of_ble_eq_true rfl) ?_
  apply sr tokTB (by kernel_rfl)
  · intro RR hRR
    refine wa ?_
    exact hRR
  refine snd_seq ?_
  apply sr tokTB (by kernel_rfl)
  · intro RR hRR
    refine wm ?_
    refine w_len_r rfl rfl und61 ?_
    refine wm ?_
    exact hRR
  refine snd_block ?_
  refine snd_loop (S := Nat) (fun i => ([(0, vlA M F), (1, .fn g nc caps), (7, .int .i64 (M : Int)), (8, .int .i64 (i : Int))], [])) (fun i => i ≤ M ∧ (∀ j, j < i → P j = false)) (fun i => M - i) (0) ρ0 ?_ ?_ ?_
  · exact ⟨⟨(by first | exact m_vl | exact mt_fz (by exact trivial) rfl (fun _ _ => mt_vec (fun _ _ => rfl))), (Mt_closed (V := _) (by assumption) (fun _ _ _ => trivial) (by simp)), (mi), (mi), trivial⟩, trivial, trivial⟩
  · exact ⟨Nat.zero_le _, fun j hj => absurd hj (Nat.not_lt_zero _)⟩
  intro i hi0
  refine sq (env2 := [(0, vlA M F), (1, .fn g nc caps), (7, .int .i64 (M : Int)), (8, .int .i64 (i : Int))]) (ol2 := []) rfl rfl ?_
  obtain ⟨le_i, inv_i⟩ := hi0
  apply sr tokTB (by kernel_rfl)
  · intro RR hRR
    refine w_lss rfl rfl ?_
    exact hRR
  refine snd_seq ?_
  refine snd_cond _ rfl (fun hc9 => ?_) (fun hc9 => ?_)
  · try simp only [hcs] at hc9
    have lt_i : i < M := by omega
    refine snd_skip ?_
    refine snd_seq ?_
    refine snd_block ?_
    apply sr tokTB (by kernel_rfl)
    · intro RR hRR
      refine wm ?_
      refine wa ?_
      exact hRR
    apply sr tokTB (by kernel_rfl)
    · intro RR hRR
      refine wm ?_
      refine wm ?_
      refine wm ?_
      refine w_iar rfl rfl und61 kn30 (by exact sz30.symm) ?_ rfl ?_
      · exact ⟨by omega, by omega⟩
      first | refine w_ldc rfl kn30 (by constructor) (by exact sz30.symm) (by exact ag30.symm) ?_ | refine w_ldp rfl kn30 rfl (by constructor) (by exact sz30.symm) (by exact ag30.symm) ?_
      refine y_call rfl (exc (by exact rfl) (exp_capL hcaps)) (hf i (by omega)) ?_
      exact hRR
    refine snd_cond _ rfl (fun hc16 => ?_) (fun hc16 => ?_)
    · skip
      apply sr tokTB (by kernel_rfl)
      · intro RR hRR
        refine wm ?_
        refine wa ?_
        exact hRR
      refine snd_ret ?_
      exact rt (T := TB) (fun V => m_int (idx_at (by omega) (by exact hc16) inv_i).symm)
    · skip
      refine snd_skip ?_
      apply lr tokTB (by kernel_rfl)
      · intro RR hRR
        refine y_add rfl rfl ?_
        refine wm ?_
        exact hRR
      refine ⟨i + 1, ρ0, ?_, ⟨by omega, all_step inv_i (by exact hc16)⟩, (by dsimp only; omega)⟩
      exact ⟨⟨(by first | exact m_vl | exact mt_fz (by exact trivial) rfl (fun _ _ => mt_vec (fun _ _ => rfl))), (Mt_closed (V := _) (by assumption) (fun _ _ _ => trivial) (by simp)), (mi), (mi), trivial⟩, trivial, trivial⟩
  · try simp only [hcs] at hc9
    have ge_i : M = i := by omega
    subst ge_i
    refine snd_exit ?_
    apply sr tokTB (by kernel_rfl)
    · intro RR hRR
      refine wa ?_
      exact hRR
    refine snd_ret ?_
    exact rt (T := TB) (fun V => m_int (idx_none inv_i).symm)
theorem c_ContainsFuncV {M : Nat} {F : Nat → Nat → Int} {g nc : Nat} {caps : Nat → AV} {P : Nat → Bool} (hm : M ≤ 16777216) (hcaps : (AV.fn g nc caps).closed) (hf : ∀ i, i < M → ACalls Tryz.prog TB g (vecA (F i) :: capL nc caps) (.bool (P i)) []) : ACalls Tryz.prog TB 68 [vlA M F, .fn g nc caps] (.bool (decide (0 ≤ idxF P M))) [] := by
  refine acalls_of tokTB Tryz.func68 rfl rfl (Nat.le_of_ble_eq_true rfl) ?_
  apply sr tokTB (by kernel_rfl)
  · intro RR hRR
    refine wa ?_
    exact hRR
  apply sr tokTB (by kernel_rfl)
  · intro RR hRR
    refine wm ?_
    refine wm ?_
    refine y_call rfl (exc ex_vl (exc (exp_closed hcaps) exn)) (c_IndexFuncV hm hcaps hf) ?_
    refine w_geq rfl rfl ?_
    refine wa ?_
    exact hRR
  refine snd_ret ?_
  exact rt (T := TB) (fun V => by first | exact m_bool rfl | exact m_int rfl)
theorem c_valid1 {p n : Int} {T : Nat → Nat → Nat → Int} {fo : Nat → Int} {v : Nat → Int} (hv : B8 v) : ACalls Tryz.prog TB 69 [vecA v, .cptr (algA p n T fo)] (.bool (!decide (smP p n v))) [] := by
  refine acalls_of tokTB Tryz.func69 rfl rfl (Nat.le_of_ble_eq_true rfl) ?_
  apply sr tokTB (by kernel_rfl)
  · intro RR hRR
    refine w_boxc (HV.eq (by constructor)) (by exact trivial) ?_
    refine wa ?_
    exact hRR
  apply sr tokTB (by kernel_rfl)
  · intro RR hRR
    refine w_ldc rfl kn30 (by constructor) (by exact sz30.symm) (by exact ag30.symm) ?_
    refine w_fac rfl und32 rfl kn2 nz2 (by decide) rfl (by constructor) ?_
    refine w_ldc rfl kn2 (by constructor) (by exact sz2.symm) (by exact ag2.symm) ?_
    refine w_fac rfl und32 rfl kn2 nz2 (by decide) rfl (by constructor) ?_
    refine w_ldc rfl kn2 (by constructor) (by exact sz2.symm) (by exact ag2.symm) ?_
    refine y_call rfl (ec (ec (ec exn))) (c_isVector hv) ?_
    refine w_not rfl ?_
    refine wa ?_
    exact hRR
  refine snd_ret ?_
  exact rt (T := TB) (fun V => by first | exact m_bool rfl | exact m_int rfl)
theorem c_valid {p n : Int} {T : Nat → Nat → Nat → Int} {fo : Nat → Int} {M : Nat} {F : Nat → Nat → Int} (hT : RB T) (hf : RV fo) (hM : M ≤ 16777216) (hF : ∀ i, B8 (F i)) : ACalls Tryz.prog TB 35 [algA p n T fo, vlA M F] (.int .i64 (cZ p n T fo M F)) [] := by
  refine acalls_of tokTB Tryz.func35 rfl rfl (Nat.le_of_ble_eq_true rfl) ?_
  apply sr tokTB (by kernel_rfl)
  · intro RR hRR
    refine w_boxc (HV.eq (by constructor)) (by exact trivial) ?_
    refine wa ?_
    exact hRR
  refine snd_seq ?_
  apply srG (env' := (12, .bool (!(decide (VA p n T fo)) || decide (0 ≤ idxF (fun i => !decide (smP p n (F i))) M))) :: (11, .any) :: (10, .any) :: (9, .any) :: (8, _) :: (7, _) :: (6, _) :: (5, _) :: _) tokTB (by kernel_rfl)
  · intro RR hRR
    refine w_ldc rfl kn32 (by constructor) (by exact sz32.symm) (by exact ag32.symm) ?_
    refine y_call rfl (ec exn) (c_IsAlgebra hT hf) ?_
    refine w_not rfl ?_
    refine wm ?_
    refine w_g rfl rfl (fun hg3 => ?_) (fun hg3 => ?_)
    · skip
      refine wm ?_
      refine w_g_on rfl rfl hg3 ?_
      refine w_mkf1 (by constructor) ?_
      refine w_g_on rfl rfl hg3 ?_
      refine y_call rfl (exc ex_vl (exc (exp_closed (closed_cap1 closed_calg)) exn)) (c_ContainsFuncV (nc := 1) (caps := cap1 (.cptr (algA p n T fo))) (P := fun i => !decide (smP p n (F i))) hM (closed_cap1 closed_calg) (fun i _ => c_valid1 (hF i))) ?_
      refine w_pick_0 rfl hg3 (by constructor) ?_
      try simp only [Int.toNat_natCast] at hg3
      exact hRR _ (EL.cons (.inr (by first | rfl | (simp only [hg3, els]; done) | (simp only [hg3, els]; rfl) | (simp [hg3]; done) | (clear hRR; simp_all; done))) (EL.cons (.inl rfl) (EL.cons (.inl rfl) (EL.cons (.inl rfl) (EL.cons (.inr rfl) (EL.cons (.inr rfl) (EL.cons (.inr rfl) (EL.cons (.inr rfl) (EL.refl _)))))))))
    · have hg3 := eq_true_of_ne_false hg3
      refine w_g_off rfl rfl (by rw [hg3]; decide) ?_
      refine w_g_off rfl rfl (by rw [hg3]; decide) ?_
      refine w_pick_1 rfl hg3 (by constructor) ?_
      try simp only [Int.toNat_natCast] at hg3
      exact hRR _ (EL.cons (.inr (by first | rfl | (simp only [hg3, els]; done) | (simp only [hg3, els]; rfl) | (simp [hg3]; done) | (clear hRR; simp_all; done))) (EL.cons (.inl rfl) (EL.cons (.inl rfl) (EL.cons (.inl rfl) (EL.cons (.inr rfl) (EL.cons (.inr rfl) (EL.cons (.inr rfl) (EL.cons (.inr rfl) (EL.refl _)))))))))
  refine snd_cond _ rfl (fun hc12 => ?_) (fun hc12 => ?_)
  · skip
    apply sr tokTB (by kernel_rfl)
    · intro RR hRR
      refine wa ?_
      exact hRR
    refine snd_ret ?_
    exact rt (T := TB) (fun V => m_int (cZ_no (fun h => by rw [decide_eq_true h.1] at hc12; obtain ⟨i, hi, hP⟩ := idx_ge.1 (by simpa using hc12); simp at hP; exact hP (h.2 i hi))).symm)
  · skip
    refine snd_skip ?_
    apply sr tokTB (by kernel_rfl)
    · intro RR hRR
      refine wa ?_
      exact hRR
    refine snd_ret ?_
    exact rt (T := TB) (fun V => m_int (cZ_ok (by simp only [Bool.or_eq_false_iff, Bool.not_eq_false', decide_eq_true_eq, decide_eq_false_iff_not] at hc12; exact ⟨hc12.1, fun i hi => Classical.byContradiction fun hn => hc12.2 (idx_ge.2 ⟨i, hi, by simpa using hn⟩)⟩)).symm)
end Go.Am

