/- Part 5 of what the law stands on: abstract values, their walk, contracts of functions. My own work. Conditions: none. -/
import Derived.Test.YtpaiipbomihocaaPart4
set_option linter.unusedVariables false
set_option linter.unusedSimpArgs false
set_option maxRecDepth 4000
namespace Go.Am
attribute [local irreducible] retQ retQp
open Go.Proofs
theorem c_valid0_ok {p : Int} {n : Nat} {T : Nat → Nat → Nat → Int} {fo : Nat → Int} (hv0 : VN p n T fo) : ACalls Try.prog TB 49 [algA p (n : Int) T fo, .nilsl] (.int .i64 0) [] := by
  have hp : p ≤ 256 := by have := hv0.p0; omega
  have h := c_valid0 hv0.rb hv0.rv (p := p) (n := (n : Int)) (T := T) (fo := fo)
  rwa [cZ_ok (VZ_0.2 hv0.va)] at h
theorem c_valid0_no {p n : Int} {T : Nat → Nat → Nat → Int} {fo : Nat → Int} (hT : RB T) (hf : RV fo) (hz : ¬ VZ p n T fo 0 (fun _ _ => 0)) : ACalls Try.prog TB 49 [algA p n T fo, .nilsl] (.int .i64 1) [] := by
  have h := c_valid0 hT hf (p := p) (n := n) (T := T) (fo := fo)
  rwa [cZ_no hz] at h
theorem c_l01Code0_ok {p : Int} {n : Nat} {T : Nat → Nat → Nat → Int} {fo : Nat → Int} (hv0 : VN p n T fo) : ACalls Try.prog TB 46 [algA p (n : Int) T fo, .nilsl] (.int .i64 0) [] := by
  have hp : p ≤ 256 := by have := hv0.p0; omega
  have h := c_l01Code0 hv0.rb hv0.rv (p := p) (n := (n : Int)) (T := T) (fo := fo)
  rwa [cZ_ok (VZ_0.2 hv0.va)] at h
theorem c_l01Code0_no {p n : Int} {T : Nat → Nat → Nat → Int} {fo : Nat → Int} (hT : RB T) (hf : RV fo) (hz : ¬ VZ p n T fo 0 (fun _ _ => 0)) : ACalls Try.prog TB 46 [algA p n T fo, .nilsl] (.int .i64 1) [] := by
  have h := c_l01Code0 hT hf (p := p) (n := n) (T := T) (fo := fo)
  rwa [cZ_no hz] at h
end Go.Am

set_option linter.unusedVariables false
set_option linter.unusedSimpArgs false
set_option maxRecDepth 4000
namespace Go.Am
attribute [local irreducible] retQ retQp
open Go.Proofs
theorem c_eqInt64S {m : Nat} {f g : Nat → Int} (hm : m ≤ 1000) (h : ∀ j, j < m → f j = g j) : ACalls Try.prog TB 52 [rowA m f, rowA m g] (.bool true) [] := by
  refine acalls_of tokTB Try.func52 rfl rfl (Nat.le_of_ble_eq_true rfl) ?_
  apply sr tokTB (by kernel_rfl)
  · intro RR hRR
    refine w_assign (by constructor) ?_
    exact hRR
  refine snd_seq ?_
  apply sr tokTB (by kernel_rfl)
  · intro RR hRR
    refine w_move (by constructor) ?_
    refine w_len_r rfl rfl und27 ?_
    refine w_move (by constructor) ?_
    refine w_len_r rfl rfl und27 ?_
    refine w_neq rfl rfl ?_
    exact hRR
  refine snd_cond_false (by exact congrArg AV.bool (decide_eq_false (by simp))) ?_
  refine snd_skip ?_
  refine snd_seq ?_
  apply sr tokTB (by kernel_rfl)
  · intro RR hRR
    refine w_assign (by constructor) ?_
    exact hRR
  refine snd_block ?_
  refine snd_loop (S := Nat) (fun i => ([(0, rowA m f), (1, rowA m g), (5, .int .i64 (i : Int))], [])) (fun i => i ≤ m) (fun i => m - i) (0) ρ0 ?_ ?_ ?_
  · exact ⟨⟨(by first | exact mt_row (V := _) (fun _ _ => rfl) | exact mt_fz (by exact trivial) rfl (fun _ _ => rfl)), (by first | exact mt_row (V := _) (fun _ _ => rfl) | exact mt_fz (by exact trivial) rfl (fun _ _ => rfl)), (mi), trivial⟩, trivial, trivial⟩
  · exact Nat.zero_le _
  intro i hi0
  refine sq (env2 := [(0, rowA m f), (1, rowA m g), (5, .int .i64 (i : Int))]) (ol2 := []) rfl rfl ?_
  refine snd_seq ?_
  apply sr tokTB (by kernel_rfl)
  · intro RR hRR
    refine w_move (by constructor) ?_
    refine w_move (by constructor) ?_
    refine w_len_r rfl rfl und27 ?_
    refine w_lss rfl rfl ?_
    exact hRR
  refine snd_cond _ rfl (fun hc14 => ?_) (fun hc14 => ?_)
  · try simp only [hcs] at hc14
    have lt_i : i < m := by omega
    refine snd_skip ?_
    refine snd_seq ?_
    refine snd_block ?_
    apply sd tokTB mixed (by kernel_rfl) (by kernel_rfl)
    · intro RR hRR
      refine w_move (by constructor) ?_
      refine w_move (by constructor) ?_
      refine w_iar rfl rfl und27 kn2 (by exact sz2.symm) ?_ rfl ?_
      · exact ⟨by omega, by omega⟩
      first | refine w_ldc rfl kn2 (by constructor) (by exact sz2.symm) (by exact ag2.symm) ?_ | refine w_ldp rfl kn2 rfl (by constructor) (by exact sz2.symm) (by exact ag2.symm) ?_
      refine w_move (by constructor) ?_
      refine w_move (by constructor) ?_
      refine w_iar rfl rfl und27 kn2 (by exact sz2.symm) ?_ rfl ?_
      · exact ⟨by omega, by omega⟩
      first | refine w_ldc rfl kn2 (by constructor) (by exact sz2.symm) (by exact ag2.symm) ?_ | refine w_ldp rfl kn2 rfl (by constructor) (by exact sz2.symm) (by exact ag2.symm) ?_
      refine w_neq rfl rfl ?_
      exact hRR
    refine snd_cond _ rfl (fun hc25 => ?_) (fun hc25 => ?_)
    · skip
      exact absurd (h i (by omega)) (of_decide_eq_true hc25)
    · skip
      refine snd_skip ?_
      apply lr tokTB (by kernel_rfl)
      · intro RR hRR
        refine w_move (by constructor) ?_
        refine y_add rfl rfl ?_
        refine w_assign (by constructor) ?_
        exact hRR
      refine ⟨i + 1, ρ0, ?_, (by omega), (by dsimp only; omega)⟩
      exact ⟨⟨(by first | exact mt_row (V := _) (fun _ _ => rfl) | exact mt_fz (by exact trivial) rfl (fun _ _ => rfl)), (by first | exact mt_row (V := _) (fun _ _ => rfl) | exact mt_fz (by exact trivial) rfl (fun _ _ => rfl)), (mi), trivial⟩, trivial, trivial⟩
  · try simp only [hcs] at hc14
    have ge_i : m = i := by omega
    subst ge_i
    refine snd_exit ?_
    apply sr tokTB (by kernel_rfl)
    · intro RR hRR
      refine w_assign (by constructor) ?_
      exact hRR
    refine snd_ret ?_
    exact rt (T := TB) (fun V => rfl)
theorem c_markInt64S {m : Nat} {f : Nat → Int} {k : Int} (hm : m ≤ 1000) (hk : 0 ≤ k ∧ k ≤ 1000000) : MCalls Try.prog TB 53 [0] [.own 0 0 m 2, .int .i64 k] [(0, .one (Z64 m) (C64 m f))] (.int .i64 (k + m)) [(0, .one (Z64 m) (C64 m (fun j => k + (j : Nat))))] := by
  refine mcalls_of tokTB Try.func53 rfl rfl (Nat.le_of_ble_eq_true rfl) ⟨rfl, trivial⟩ ?_
  apply srp tokTB (by kernel_rfl)
  · intro RR hRR
    refine w_assign (by constructor) ?_
    exact hRR
  refine snp_seq ?_
  apply srp tokTB (by kernel_rfl)
  · intro RR hRR
    refine w_assign (by constructor) ?_
    exact hRR
  refine snp_block ?_
  refine snp_loop (S := Nat) (fun i => ([(0, .own 0 0 m 2), (1, .int .i64 (k + (i : Nat))), (5, .int .i64 (i : Int))], [(0, .one (Z64 m) (C64 m (mixF (fun j => k + (j : Nat)) f i)))])) (fun i => i ≤ m) (fun i => m - i) (0) ρ0 ?_ ?_ ?_
  · exact ⟨⟨⟨(by first | exact ⟨rfl, rfl, rfl, rfl⟩ | exact ⟨rfl, by omega, rfl, rfl⟩), (mi), (mi), trivial⟩, ⟨⟨rfl, (sx), (by exact mt_vec (fun z _ => by simp [mixF]))⟩, trivial⟩, ⟨⟨(fun h => by first | exact ⟨rfl, rfl⟩ | exact absurd h (by decide)), trivial⟩, trivial⟩⟩, ⟨⟨fun _ => rfl, rfl⟩, trivial⟩⟩
  · exact Nat.zero_le _
  intro i hi0
  refine sqp (env2 := [(0, .own 0 0 m 2), (1, .int .i64 (k + (i : Nat))), (5, .int .i64 (i : Int))]) (ol2 := [(0, .one (Z64 m) (C64 m (mixF (fun j => k + (j : Nat)) f i)))]) rfl rfl ?_
  refine snp_seq ?_
  apply srp tokTB (by kernel_rfl)
  · intro RR hRR
    refine w_move (by constructor) ?_
    refine w_move (by constructor) ?_
    refine w_len_o rfl rfl und27 ?_
    refine w_lss rfl rfl ?_
    exact hRR
  refine snp_cond _ rfl (fun hc9 => ?_) (fun hc9 => ?_)
  · try simp only [hcs] at hc9
    have lt_i : i < m := by omega
    refine snp_skip ?_
    refine snp_seq ?_
    refine snp_block ?_
    apply srp tokTB (by kernel_rfl)
    · intro RR hRR
      refine w_move (by constructor) ?_
      refine w_move (by constructor) ?_
      refine w_move (by constructor) ?_
      refine w_iao rfl rfl und27 kn2 ?_ ?_
      · exact ⟨by omega, by omega⟩
      first | refine w_stw rfl (by constructor) kn2 rfl (by exact trivial) (sx) (by exact sz2.symm) ?_ | refine w_sti rfl rfl kn2 rfl (by exact trivial) (by exact sz2.symm) ?_ | refine w_store rfl (HV.eq (by constructor)) kn2 rfl (by exact trivial) (sx) (by exact sz2.symm) (put_in (by first | exact put_mat | exact put_tab | exact put_alg0 | exact put_pr0 | exact put_pr1 | exact put_pr2 | exact put_alg1 | exact put_alg2 | exact put_alg3 | exact put_alg3i | exact put_alg2ij | exact put_alg2ijk | exact put_mat2 | exact put_tab2 | exact put_tab3)) ?_ | refine w_store rfl (HV.eq (by constructor)) kn2 rfl (by exact trivial) (by exact trivial) (by exact sz2.symm) rfl ?_
      exact hRR
    apply lrp tokTB (by kernel_rfl)
    · intro RR hRR
      refine w_move (by constructor) ?_
      refine w_add rfl rfl (by exact w64 (by omega) (by omega)) ?_
      refine w_assign (by constructor) ?_
      exact hRR
    apply lrp tokTB (by kernel_rfl)
    · intro RR hRR
      refine w_move (by constructor) ?_
      refine y_add rfl rfl ?_
      refine w_assign (by constructor) ?_
      exact hRR
    refine ⟨i + 1, ρ0, ?_, (by omega), (by dsimp only; omega)⟩
    exact ⟨⟨⟨(by first | exact ⟨rfl, rfl, rfl, rfl⟩ | exact ⟨rfl, by omega, rfl, rfl⟩), (mi), (mi), trivial⟩, ⟨⟨rfl, (sx), (by exact mt_vec (fun z _ => upd_mix _ _ i z))⟩, trivial⟩, ⟨⟨(fun h => by first | exact ⟨rfl, rfl⟩ | exact absurd h (by decide)), trivial⟩, trivial⟩⟩, ⟨⟨fun _ => rfl, rfl⟩, trivial⟩⟩
  · try simp only [hcs] at hc9
    have ge_i : m = i := by omega
    subst ge_i
    refine snp_exit ?_
    apply srp tokTB (by kernel_rfl)
    · intro RR hRR
      refine w_move (by constructor) ?_
      refine w_assign (by constructor) ?_
      exact hRR
    refine snp_ret ?_
    exact rtp (ρ := ρ0) ⟨⟨m_int rfl, trivial⟩, ⟨⟨rfl, ⟨rfl, fun _ => trivial⟩, mt_vec (fun z hz => by simp [mixF, hz])⟩, trivial⟩, ⟨⟨fun _ => ⟨rfl, rfl⟩, trivial⟩, trivial⟩⟩ ⟨⟨fun _ => rfl, rfl⟩, trivial⟩
theorem c_heldInt64S {m : Nat} {f : Nat → Int} {k : Int} (hm : m ≤ 1000) (hk : 0 ≤ k ∧ k ≤ 1000000) (h : ∀ j, j < m → f j = k + (j : Nat)) : ACalls Try.prog TB 54 [rowA m f, .int .i64 k] (.int .i64 (k + m)) [] := by
  refine acalls_of tokTB Try.func54 rfl rfl (Nat.le_of_ble_eq_true rfl) ?_
  apply sr tokTB (by kernel_rfl)
  · intro RR hRR
    refine w_assign (by constructor) ?_
    exact hRR
  refine snd_seq ?_
  apply sr tokTB (by kernel_rfl)
  · intro RR hRR
    refine w_assign (by constructor) ?_
    exact hRR
  refine snd_block ?_
  refine snd_loop (S := Nat) (fun i => ([(0, rowA m f), (1, .int .i64 (k + (i : Nat))), (5, .int .i64 (i : Int))], [])) (fun i => i ≤ m) (fun i => m - i) (0) ρ0 ?_ ?_ ?_
  · exact ⟨⟨(by first | exact mt_row (V := _) (fun _ _ => rfl) | exact mt_fz (by exact trivial) rfl (fun _ _ => rfl)), (mi), (mi), trivial⟩, trivial, trivial⟩
  · exact Nat.zero_le _
  intro i hi0
  refine sq (env2 := [(0, rowA m f), (1, .int .i64 (k + (i : Nat))), (5, .int .i64 (i : Int))]) (ol2 := []) rfl rfl ?_
  refine snd_seq ?_
  apply sr tokTB (by kernel_rfl)
  · intro RR hRR
    refine w_move (by constructor) ?_
    refine w_move (by constructor) ?_
    refine w_len_r rfl rfl und27 ?_
    refine w_lss rfl rfl ?_
    exact hRR
  refine snd_cond _ rfl (fun hc9 => ?_) (fun hc9 => ?_)
  · try simp only [hcs] at hc9
    have lt_i : i < m := by omega
    refine snd_skip ?_
    refine snd_seq ?_
    refine snd_block ?_
    refine snd_seq ?_
    apply sr tokTB (by kernel_rfl)
    · intro RR hRR
      refine w_move (by constructor) ?_
      refine w_move (by constructor) ?_
      refine w_iar rfl rfl und27 kn2 (by exact sz2.symm) ?_ rfl ?_
      · exact ⟨by omega, by omega⟩
      first | refine w_ldc rfl kn2 (by constructor) (by exact sz2.symm) (by exact ag2.symm) ?_ | refine w_ldp rfl kn2 rfl (by constructor) (by exact sz2.symm) (by exact ag2.symm) ?_
      refine w_move (by constructor) ?_
      refine w_neq rfl rfl ?_
      exact hRR
    refine snd_cond _ rfl (fun hc17 => ?_) (fun hc17 => ?_)
    · skip
      exact absurd (h i (by omega)) (of_decide_eq_true hc17)
    · skip
      refine snd_skip ?_
      apply lr tokTB (by kernel_rfl)
      · intro RR hRR
        refine w_move (by constructor) ?_
        refine w_add rfl rfl (by exact w64 (by omega) (by omega)) ?_
        refine w_assign (by constructor) ?_
        exact hRR
      apply lr tokTB (by kernel_rfl)
      · intro RR hRR
        refine w_move (by constructor) ?_
        refine y_add rfl rfl ?_
        refine w_assign (by constructor) ?_
        exact hRR
      refine ⟨i + 1, ρ0, ?_, (by omega), (by dsimp only; omega)⟩
      exact ⟨⟨(by first | exact mt_row (V := _) (fun _ _ => rfl) | exact mt_fz (by exact trivial) rfl (fun _ _ => rfl)), (mi), (mi), trivial⟩, trivial, trivial⟩
  · try simp only [hcs] at hc9
    have ge_i : m = i := by omega
    subst ge_i
    refine snd_exit ?_
    apply sr tokTB (by kernel_rfl)
    · intro RR hRR
      refine w_move (by constructor) ?_
      refine w_assign (by constructor) ?_
      exact hRR
    refine snd_ret ?_
    exact rt (T := TB) (fun V => rfl)
theorem c_markNilInt64S {k : Int} : ACalls Try.prog TB 53 [.nilsl, .int .i64 k] (.int .i64 k) [] := by
  refine acalls_of tokTB Try.func53 rfl rfl (Nat.le_of_ble_eq_true rfl) ?_
  apply sr tokTB (by kernel_rfl)
  · intro RR hRR
    refine w_assign (by constructor) ?_
    exact hRR
  refine snd_seq ?_
  apply sr tokTB (by kernel_rfl)
  · intro RR hRR
    refine w_assign (by constructor) ?_
    exact hRR
  refine snd_block ?_
  refine snd_loop (S := Nat) (fun i => ([(0, .nilsl), (1, .int .i64 k), (5, .int .i64 (i : Int))], [])) (fun i => i ≤ 0) (fun i => 0 - i) (0) ρ0 ?_ ?_ ?_
  · exact ⟨⟨rfl, (mi), (mi), trivial⟩, trivial, trivial⟩
  · exact Nat.zero_le _
  intro i hi0
  refine sq (env2 := [(0, .nilsl), (1, .int .i64 k), (5, .int .i64 (i : Int))]) (ol2 := []) rfl rfl ?_
  refine snd_seq ?_
  apply sr tokTB (by kernel_rfl)
  · intro RR hRR
    refine w_move (by constructor) ?_
    refine w_move (by constructor) ?_
    refine w_len_n rfl rfl und27 ?_
    refine w_lss rfl rfl ?_
    exact hRR
  refine snd_cond _ rfl (fun hc9 => ?_) (fun hc9 => ?_)
  · try simp only [hcs] at hc9
    have lt_i : i < 0 := by omega
    omega
  · try simp only [hcs] at hc9
    have ge_i : 0 = i := by omega
    subst ge_i
    refine snd_exit ?_
    apply sr tokTB (by kernel_rfl)
    · intro RR hRR
      refine w_move (by constructor) ?_
      refine w_assign (by constructor) ?_
      exact hRR
    refine snd_ret ?_
    exact rt (T := TB) (fun V => rfl)
end Go.Am

set_option linter.unusedVariables false
set_option linter.unusedSimpArgs false
set_option maxRecDepth 4000
namespace Go.Am
attribute [local irreducible] retQ retQp
open Go.Proofs
theorem zr29 : TB.zero 29 = tnA 0 0 0 0 .nilsl := by
  refine congrArg (AV.sct 5) (funext fun i => ?_)
  match i with
  | 0 => rfl
  | 1 => rfl
  | 2 => rfl
  | 3 => rfl
  | 4 => rfl
  | n + 5 => rfl
theorem c_powerOf {n k : Nat} (hn : 1 ≤ n ∧ n ≤ 6) (hk : k ≤ 3) : ACalls Try.prog TB 97 [.int .i64 (n : Int), .int .i64 (k : Int)] (.int .i64 ((n ^ k : Nat) : Int)) [] := by
  refine acalls_of tokTB Try.func97 rfl rfl (Nat.le_of_ble_eq_true rfl) ?_
  apply sr tokTB (by kernel_rfl)
  · intro RR hRR
    refine w_assign (by constructor) ?_
    exact hRR
  apply sr tokTB (by kernel_rfl)
  · intro RR hRR
    refine w_assign (by constructor) ?_
    exact hRR
  refine snd_seq ?_
  apply sr tokTB (by kernel_rfl)
  · intro RR hRR
    refine w_move (by constructor) ?_
    refine w_move (by constructor) ?_
    exact hRR
  refine snd_block ?_
  refine snd_loop (S := Nat) (fun i => ([(0, .int .i64 (n : Int)), (5, .int .i64 ((n ^ i : Nat) : Int)), (6, .int .i64 (k : Int)), (7, .int .i64 (i : Int))], [])) (fun i => i ≤ k) (fun i => k - i) (0) ρ0 ?_ ?_ ?_
  · exact ⟨⟨(mi), (mi), (mi), (mi), trivial⟩, trivial, trivial⟩
  · exact Nat.zero_le _
  intro i hi0
  refine sq (env2 := [(0, .int .i64 (n : Int)), (5, .int .i64 ((n ^ i : Nat) : Int)), (6, .int .i64 (k : Int)), (7, .int .i64 (i : Int))]) (ol2 := []) rfl rfl ?_
  apply sr tokTB (by kernel_rfl)
  · intro RR hRR
    refine w_lss rfl rfl ?_
    exact hRR
  refine snd_seq ?_
  refine snd_cond _ rfl (fun hc8 => ?_) (fun hc8 => ?_)
  · try simp only [hcs] at hc8
    have lt_i : i < k := by omega
    refine snd_skip ?_
    refine snd_seq ?_
    refine snd_block ?_
    apply sr tokTB (by kernel_rfl)
    · intro RR hRR
      refine w_move (by constructor) ?_
      refine w_move (by constructor) ?_
      refine w_mul rfl rfl (by exact (congrArg _ pow_mulI).trans (w64 (by have := pow216 hn (show i + 1 ≤ 3 by omega); omega) (by have := pow216 hn (show i + 1 ≤ 3 by omega); omega))) ?_
      refine w_assign (by constructor) ?_
      exact hRR
    apply sr tokTB (by kernel_rfl)
    · intro RR hRR
      refine w_move (by constructor) ?_
      refine w_gtr rfl rfl ?_
      exact hRR
    refine snd_cond_false (by exact congrArg AV.bool (decide_eq_false (by have := pow216 hn (show i + 1 ≤ 3 by omega); omega))) ?_
    refine snd_skip ?_
    apply lr tokTB (by kernel_rfl)
    · intro RR hRR
      refine y_add rfl rfl ?_
      refine w_move (by constructor) ?_
      exact hRR
    refine ⟨i + 1, ρ0, ?_, (by omega), (by dsimp only; omega)⟩
    exact ⟨⟨(mi), (mi), (mi), (mi), trivial⟩, trivial, trivial⟩
  · try simp only [hcs] at hc8
    have ge_i : k = i := by omega
    subst ge_i
    refine snd_exit ?_
    apply sr tokTB (by kernel_rfl)
    · intro RR hRR
      refine w_move (by constructor) ?_
      refine w_assign (by constructor) ?_
      exact hRR
    refine snd_ret ?_
    exact rt (T := TB) (fun V => rfl)
theorem c_l03Power {n k : Nat} (hn : 1 ≤ n ∧ n ≤ 6) (hk : k ≤ 3) : ACalls Try.prog TB 101 [.int .i64 (n : Int), .int .i64 (k : Int)] (.int .i64 ((n ^ k : Nat) : Int)) [] := by
  refine acalls_of tokTB Try.func101 rfl rfl (Nat.le_of_ble_eq_true rfl) ?_
  apply sr tokTB (by kernel_rfl)
  · intro RR hRR
    refine w_assign (by constructor) ?_
    exact hRR
  apply sr tokTB (by kernel_rfl)
  · intro RR hRR
    refine w_assign (by constructor) ?_
    exact hRR
  refine snd_seq ?_
  refine snd_block ?_
  refine snd_loop (S := Nat) (fun i => ([(0, .int .i64 (n : Int)), (1, .int .i64 ((k : Int) - (i : Int))), (5, .int .i64 ((n ^ i : Nat) : Int))], [])) (fun i => i ≤ k) (fun i => k - i) (0) ρ0 ?_ ?_ ?_
  · exact ⟨⟨(mi), (mi), (mi), trivial⟩, trivial, trivial⟩
  · exact Nat.zero_le _
  intro i hi0
  refine sq (env2 := [(0, .int .i64 (n : Int)), (1, .int .i64 ((k : Int) - (i : Int))), (5, .int .i64 ((n ^ i : Nat) : Int))]) (ol2 := []) rfl rfl ?_
  have hpw := pow216 hn (show i ≤ 3 by omega)
  refine snd_seq ?_
  apply srG (env' := (11, .bool (decide ((k : Int) - (i : Int) > 0) && decide (((n ^ i : Nat) : Int) ≤ 1296))) :: (10, .any) :: (9, .any) :: (8, _) :: (7, _) :: (6, _) :: _) tokTB (by kernel_rfl)
  · intro RR hRR
    refine w_move (by constructor) ?_
    refine w_gtr rfl rfl ?_
    refine w_move (by constructor) ?_
    refine w_g rfl rfl (fun hg2 => ?_) (fun hg2 => ?_)
    · skip
      refine w_move (by constructor) ?_
      refine w_g_on rfl rfl hg2 ?_
      refine w_leq rfl rfl ?_
      refine w_pick_1 rfl hg2 (by constructor) ?_
      try simp only [Int.toNat_natCast] at hg2
      exact hRR _ (EL.cons (.inr (by first | rfl | (simp only [hg2, els]; done) | (simp only [hg2, els]; rfl) | simp [hg2])) (EL.cons (.inl rfl) (EL.cons (.inl rfl) (EL.cons (.inr rfl) (EL.cons (.inr rfl) (EL.cons (.inr rfl) (EL.refl _)))))))
    · have hg2 := eq_false_of_ne_true hg2
      refine w_g_off rfl rfl (by rw [hg2]; decide) ?_
      refine w_pick_0 rfl hg2 (by constructor) ?_
      try simp only [Int.toNat_natCast] at hg2
      exact hRR _ (EL.cons (.inr (by first | rfl | (simp only [hg2, els]; done) | (simp only [hg2, els]; rfl) | simp [hg2])) (EL.cons (.inl rfl) (EL.cons (.inl rfl) (EL.cons (.inr rfl) (EL.cons (.inr rfl) (EL.cons (.inr rfl) (EL.refl _)))))))
  refine snd_cond _ rfl (fun hc11 => ?_) (fun hc11 => ?_)
  · skip
    have lt_i : i < k := by simp only [Bool.and_eq_true, decide_eq_true_eq] at hc11; omega
    refine snd_skip ?_
    refine snd_seq ?_
    refine snd_block ?_
    apply lr tokTB (by kernel_rfl)
    · intro RR hRR
      refine w_move (by constructor) ?_
      refine w_move (by constructor) ?_
      refine w_mul rfl rfl (by exact (congrArg _ pow_mulI).trans (w64 (by have := pow216 hn (show i + 1 ≤ 3 by omega); omega) (by have := pow216 hn (show i + 1 ≤ 3 by omega); omega))) ?_
      refine w_assign (by constructor) ?_
      exact hRR
    apply lr tokTB (by kernel_rfl)
    · intro RR hRR
      refine w_move (by constructor) ?_
      refine y_sub rfl rfl ?_
      refine w_assign (by constructor) ?_
      exact hRR
    refine ⟨i + 1, ρ0, ?_, (by omega), (by dsimp only; omega)⟩
    exact ⟨⟨(mi), (mi), (mi), trivial⟩, trivial, trivial⟩
  · skip
    have ge_i : k = i := by
      apply Classical.byContradiction
      intro h
      rw [decide_eq_true (show (k : Int) - (i : Int) > 0 by omega), decide_eq_true (show ((n ^ i : Nat) : Int) ≤ 1296 by omega)] at hc11
      cases hc11
    subst ge_i
    refine snd_exit ?_
    apply sr tokTB (by kernel_rfl)
    · intro RR hRR
      refine w_move (by constructor) ?_
      refine w_assign (by constructor) ?_
      exact hRR
    refine snd_ret ?_
    exact rt (T := TB) (fun V => rfl)
theorem c_endsOk {k : Int} : ACalls Try.prog TB 98 [.int .i64 k] (.bool (decide (0 ≤ k) && decide (k ≤ 8))) [] := by
  refine acalls_of tokTB Try.func98 rfl rfl (Nat.le_of_ble_eq_true rfl) ?_
  apply sr tokTB (by kernel_rfl)
  · intro RR hRR
    refine w_assign (by constructor) ?_
    exact hRR
  apply sr tokTB (by kernel_rfl)
  · intro RR hRR
    refine w_move (by constructor) ?_
    refine y_call rfl (ec (ec (ec exn))) (c_in) ?_
    refine w_assign (by constructor) ?_
    exact hRR
  refine snd_ret ?_
  exact rt (T := TB) (fun V => rfl)
theorem c_digits {n m x : Nat} (hn : 1 ≤ n ∧ n ≤ 6) (hm : m ≤ 3) (hx : x ≤ 1000) : ACalls Try.prog TB 99 [.int .i64 (x : Int), .int .i64 (n : Int), .int .i64 (m : Int)] (.own 0 0 m 2) (HR m (dgF n m x)) := by
  refine acalls_of tokTB Try.func99 rfl rfl (Nat.le_of_ble_eq_true rfl) ?_
  apply sr tokTB (by kernel_rfl)
  · intro RR hRR
    refine w_assign (by constructor) ?_
    exact hRR
  apply sr tokTB (by kernel_rfl)
  · intro RR hRR
    refine w_move (by constructor) ?_
    refine w_mks und27 rfl rfl kn2 rfl (by omega) (by rw [by2]; omega) (by omega) rfl ?_
    refine w_assign (by constructor) ?_
    exact hRR
  refine snd_seq ?_
  apply sr tokTB (by kernel_rfl)
  · intro RR hRR
    refine w_move (by constructor) ?_
    refine y_sub rfl rfl ?_
    refine w_assign (by constructor) ?_
    exact hRR
  refine snd_block ?_
  refine snd_loop (S := Nat) (fun c => ([(0, .int .i64 ((x / n ^ c : Nat) : Int)), (1, .int .i64 (n : Int)), (7, .own 907 0 m 2), (8, .int .i64 ((m : Int) - 1 - (c : Int)))], [(907, .one (Z64 m) (C64 m (dgS n m x (m - c))))])) (fun c => c ≤ m) (fun c => m - c) (0) (fun k i => bif Nat.beq k 907 then (10, i) else (k, i)) ?_ ?_ ?_
  · exact ⟨⟨(by exact m_int (by simp)), (mi), (by first | exact ⟨rfl, rfl, rfl, rfl⟩ | exact ⟨rfl, by omega, rfl, rfl⟩), (mi), trivial⟩, ⟨⟨(by show AV.arr m (fun _ => TB.zero 2) = _; rw [zr2]), (sx), (by exact mt_vec (fun z hz => dgS_0 hz))⟩, trivial⟩, ⟨⟨(fun h => by first | exact ⟨rfl, rfl⟩ | exact absurd h (by decide)), trivial⟩, trivial⟩⟩
  · exact Nat.zero_le _
  intro c hi0
  refine sq (env2 := [(0, .int .i64 ((x / n ^ c : Nat) : Int)), (1, .int .i64 (n : Int)), (7, .own 907 0 m 2), (8, .int .i64 ((m : Int) - 1 - (c : Int)))]) (ol2 := [(907, .one (Z64 m) (C64 m (dgS n m x (m - c))))]) rfl rfl ?_
  have hxd := Nat.div_le_self x (n ^ c)
  refine snd_seq ?_
  apply sr tokTB (by kernel_rfl)
  · intro RR hRR
    refine w_move (by constructor) ?_
    refine w_geq rfl rfl ?_
    exact hRR
  refine snd_cond _ rfl (fun hc14 => ?_) (fun hc14 => ?_)
  · try simp only [hcs] at hc14
    have lt_c : c < m := by omega
    refine snd_skip ?_
    refine snd_seq ?_
    refine snd_block ?_
    apply sr tokTB (by kernel_rfl)
    · intro RR hRR
      refine w_move (by constructor) ?_
      refine w_move (by constructor) ?_
      refine w_move (by constructor) ?_
      refine w_move (by constructor) ?_
      refine w_remN rfl rfl (by omega) ?_
      refine w_iao rfl rfl und27 kn2 ?_ ?_
      · exact ⟨by omega, by omega⟩
      first | refine w_stw rfl (by constructor) kn2 rfl (by exact trivial) (sx) (by exact sz2.symm) ?_ | refine w_sti rfl rfl kn2 rfl (by exact trivial) (by exact sz2.symm) ?_ | refine w_store rfl (HV.eq (by constructor)) kn2 rfl (by exact trivial) (sx) (by exact sz2.symm) (put_in (by first | exact put_mat | exact put_tab | exact put_alg0 | exact put_pr0 | exact put_pr1 | exact put_pr2 | exact put_tn4 | exact put_alg1 | exact put_alg2 | exact put_alg3 | exact put_alg3i | exact put_alg2ij | exact put_alg2ijk | exact put_mat2 | exact put_tab2 | exact put_tab3)) ?_ | refine w_store rfl (HV.eq (by constructor)) kn2 rfl (by exact trivial) (by exact trivial) (by exact sz2.symm) rfl ?_
      exact hRR
    apply lr tokTB (by kernel_rfl)
    · intro RR hRR
      refine w_move (by constructor) ?_
      refine w_move (by constructor) ?_
      refine w_quoN rfl rfl (by omega) (by omega) ?_
      refine w_assign (by constructor) ?_
      exact hRR
    apply lr tokTB (by kernel_rfl)
    · intro RR hRR
      refine w_move (by constructor) ?_
      refine y_sub rfl rfl ?_
      refine w_assign (by constructor) ?_
      exact hRR
    refine ⟨c + 1, ρ0, ?_, (by omega), (by dsimp only; omega)⟩
    exact ⟨⟨(by exact m_int (by rw [Nat.pow_succ, Nat.div_div_eq_div_mul])), (mi), (by first | exact ⟨rfl, rfl, rfl, rfl⟩ | exact ⟨rfl, by omega, rfl, rfl⟩), (mi), trivial⟩, ⟨⟨rfl, (sx), (by exact mt_vec (fun z _ => dgS_step lt_c))⟩, trivial⟩, ⟨⟨(fun h => by first | exact ⟨rfl, rfl⟩ | exact absurd h (by decide)), trivial⟩, trivial⟩⟩
  · try simp only [hcs] at hc14
    have ge_c : m = c := by omega
    subst ge_c
    refine snd_exit ?_
    apply sr tokTB (by kernel_rfl)
    · intro RR hRR
      refine w_move (by constructor) ?_
      refine w_assign (by constructor) ?_
      exact hRR
    refine snd_ret ?_
    show retQ TB _ _ _ _ _ _
    exact rt_own rfl rfl rfl (fun _ => trivial) (fun V i hi => congrArg (AV.int .i64) dgS_n)
theorem c_tensor {p : Int} {n a b : Nat} {g nc : Nat} {caps : Nat → AV} {Q : Nat → Int} (hp8 : 2 ≤ p ∧ p ≤ 13) (hn : 1 ≤ n ∧ n ≤ 6) (hab : a + b ≤ 3) (hcl : (AV.fn g nc caps).closed) (hQ : ∀ x, 0 ≤ Q x ∧ Q x < p) (hf : ∀ x, x < n ^ (a + b) → ACalls Try.prog TB g (rowA a (dgF n (a + b) x) :: rowA b (fun j => dgF n (a + b) x (a + j)) :: capL nc caps) (.int .i64 (Q x)) []) : ACalls Try.prog TB 50 [.int .i64 p, .int .i64 (n : Int), .int .i64 (a : Int), .int .i64 (b : Int), .fn g nc caps] (.tup 2 (pairA (tnA p (n : Int) (a : Int) (b : Int) (.own 0 0 (n ^ (a + b)) 2)) (.int .i64 0))) [(0, .one (Z64 (n ^ (a + b))) (C64 (n ^ (a + b)) Q))] := by
  have hpw := pow216 hn hab
  refine acalls_of tokTB Try.func50 rfl rfl (Nat.le_of_ble_eq_true rfl) ?_
  apply sr tokTB (by kernel_rfl)
  · intro RR hRR
    refine w_alloc kn29 rfl zr29 ?_
    refine w_assign (by constructor) ?_
    exact hRR
  apply sr tokTB (by kernel_rfl)
  · intro RR hRR
    refine w_move (by constructor) ?_
    refine w_move (by constructor) ?_
    refine w_move (by constructor) ?_
    refine y_add rfl rfl ?_
    refine y_call rfl (exc (by exact rfl) (exc (by exact congrArg (AV.int .i64) (Int.natCast_add a b).symm) exn)) (c_powerOf (k := a + b) hn hab) ?_
    refine w_assign (by constructor) ?_
    exact hRR
  refine snd_seq ?_
  apply srG (env' := (32, .bool (decide (((n ^ (a + b) : Nat) : Int) > 1296))) :: (31, .any) :: (30, .any) :: (29, .bool (!true)) :: (28, .bool (!true)) :: (27, .any) :: (26, .any) :: (25, .any) :: (24, _) :: (23, _) :: (22, _) :: (21, _) :: _) tokTB (by kernel_rfl)
  · intro RR hRR
    refine w_move (by constructor) ?_
    refine y_call rfl (ec exn) (in_both (show (0 : Int) ≤ (a : Int) ∧ (a : Int) ≤ 8 by omega) ▸ c_endsOk) ?_
    refine w_not rfl ?_
    refine w_move (by constructor) ?_
    refine w_g_on rfl rfl rfl ?_
    refine w_move (by constructor) ?_
    refine w_g_on rfl rfl rfl ?_
    refine y_call rfl (ec exn) (in_both (show (0 : Int) ≤ (b : Int) ∧ (b : Int) ≤ 8 by omega) ▸ c_endsOk) ?_
    refine w_g_on rfl rfl rfl ?_
    refine w_not rfl ?_
    refine w_pick_0 rfl rfl (by constructor) ?_
    refine w_move (by constructor) ?_
    refine w_g_on rfl rfl rfl ?_
    refine w_move (by constructor) ?_
    refine w_g_on rfl rfl rfl ?_
    refine w_gtr rfl rfl ?_
    refine w_pick_0 rfl rfl (by constructor) ?_
    exact hRR _ (EL.cons (.inr (by first | rfl | (simp only [els]; done) | simp)) (EL.cons (.inl rfl) (EL.cons (.inl rfl) (EL.cons (.inr (by first | rfl | (simp only [els]; done) | simp)) (EL.cons (.inr (by first | rfl | (simp only [els]; done) | simp)) (EL.cons (.inl rfl) (EL.cons (.inl rfl) (EL.cons (.inl rfl) (EL.cons (.inr rfl) (EL.cons (.inr rfl) (EL.cons (.inr rfl) (EL.cons (.inr rfl) (EL.refl _)))))))))))))
  refine snd_cond_false (by exact congrArg AV.bool (decide_eq_false (by omega))) ?_
  refine snd_skip ?_
  apply sr tokTB (by kernel_rfl)
  · intro RR hRR
    refine w_move (by constructor) ?_
    refine w_move (by constructor) ?_
    refine w_move (by constructor) ?_
    refine w_move (by constructor) ?_
    refine w_bld_s kn29 zr29 und29 rfl (by exact ⟨rfl, kn2, sz2, rfl, kn2, sz2, rfl, kn2, sz2, rfl, kn2, sz2, rfl, kn27, sz27, trivial⟩) (by exact ⟨⟨by decide, trivial, rfl⟩, ⟨by decide, trivial, rfl⟩, ⟨by decide, trivial, rfl⟩, ⟨by decide, trivial, rfl⟩, trivial⟩) rfl ?_
    refine w_alloc kn29 rfl zr29 ?_
    refine w_stw rfl (by constructor) kn29 rfl (by exact trivial) (sx) (by exact sz29.symm) ?_
    exact hRR
  refine snd_seq ?_
  apply sr tokTB (by kernel_rfl)
  · intro RR hRR
    refine w_move (by constructor) ?_
    refine w_move (by constructor) ?_
    exact hRR
  refine snd_block ?_
  refine snd_loop (S := Nat) (fun x => ([(0, .int .i64 p), (1, .int .i64 (n : Int)), (2, .int .i64 (a : Int)), (3, .int .i64 (b : Int)), (4, .fn g nc caps), (10, .ptr 10 0 [] 0 (tnA 0 0 0 0 .nilsl)), (13, .ptr 13 0 [] 0 (tnA 0 0 0 0 .nilsl)), (39, .int .i64 ((n ^ (a + b) : Nat) : Int)), (40, .int .i64 (x : Int))], (if x = 0 then [(10, .one (tnA 0 0 0 0 .nilsl) (tnA 0 0 0 0 .nilsl)), (13, .one (tnA 0 0 0 0 .nilsl) (tnA p (n : Int) (a : Int) (b : Int) .nilsl))] else [(10, .one (tnA 0 0 0 0 .nilsl) (tnA 0 0 0 0 .nilsl)), (13, .one (tnA 0 0 0 0 .nilsl) (tnA p (n : Int) (a : Int) (b : Int) (.own 905 0 x 2))), (905, .one (Z64 x) (C64 x Q))]))) (fun x => x ≤ n ^ (a + b)) (fun x => n ^ (a + b) - x) (0) ρ0 ?_ ?_ ?_
  · show Emb _ _ _ _ [(10, .one (tnA 0 0 0 0 .nilsl) (tnA 0 0 0 0 .nilsl)), (13, .one (tnA 0 0 0 0 .nilsl) (tnA p (n : Int) (a : Int) (b : Int) .nilsl))]
    exact ⟨⟨(mi), (mi), (mi), (mi), (by exact Mt_closed (V := _) hcl (fun _ _ _ => trivial) (by simp)), ⟨rfl, rfl, rfl, rfl, rfl⟩, ⟨rfl, rfl, rfl, rfl, rfl⟩, (mi), (mi), trivial⟩, ⟨⟨rfl, (sx), (by exact mt_tn rfl)⟩, ⟨rfl, (sx), (by exact mt_tng rfl rfl rfl rfl rfl)⟩, trivial⟩, ⟨⟨(fun h => by first | exact ⟨rfl, rfl⟩ | exact absurd h (by decide)), (fun h => by first | exact ⟨rfl, rfl⟩ | exact absurd h (by decide)), trivial⟩, ⟨(fun h => by first | exact ⟨rfl, rfl⟩ | exact absurd h (by decide)), (fun h => by first | exact ⟨rfl, rfl⟩ | exact absurd h (by decide)), trivial⟩, trivial⟩⟩
  · exact Nat.zero_le _
  intro x hi0
  rcases Nat.eq_zero_or_pos x with hx0 | hx0
  · skip
    refine sq (env2 := [(0, .int .i64 p), (1, .int .i64 (n : Int)), (2, .int .i64 (a : Int)), (3, .int .i64 (b : Int)), (4, .fn g nc caps), (10, .ptr 10 0 [] 0 (tnA 0 0 0 0 .nilsl)), (13, .ptr 13 0 [] 0 (tnA 0 0 0 0 .nilsl)), (39, .int .i64 ((n ^ (a + b) : Nat) : Int)), (40, .int .i64 (x : Int))]) (ol2 := [(10, .one (tnA 0 0 0 0 .nilsl) (tnA 0 0 0 0 .nilsl)), (13, .one (tnA 0 0 0 0 .nilsl) (tnA p (n : Int) (a : Int) (b : Int) .nilsl))]) rfl (by exact if_pos hx0) ?_
    apply sr tokTB (by kernel_rfl)
    · intro RR hRR
      refine w_lss rfl rfl ?_
      exact hRR
    refine snd_seq ?_
    refine snd_cond _ rfl (fun hc41 => ?_) (fun hc41 => ?_)
    · try simp only [hcs] at hc41
      have lt_x : x < n ^ (a + b) := by omega
      refine snd_skip ?_
      refine snd_seq ?_
      refine snd_block ?_
      apply sr tokTB (by kernel_rfl)
      · intro RR hRR
        refine w_move (by constructor) ?_
        refine w_assign (by constructor) ?_
        exact hRR
      apply sr tokTB (by kernel_rfl)
      · intro RR hRR
        refine w_move (by constructor) ?_
        refine w_move (by constructor) ?_
        refine w_move (by constructor) ?_
        refine w_move (by constructor) ?_
        refine y_add rfl rfl ?_
        refine w_call rfl (exc (by exact rfl) (exc (by exact rfl) (exc (by exact congrArg (AV.int .i64) (Int.natCast_add a b).symm) exn))) (c_digits (x := x) (n := n) (m := a + b) hn hab (by omega)) (.inl ⟨trivial, ⟨fun _ => trivial, trivial⟩⟩) rfl (by constructor) rfl ?_
        refine w_assign (by constructor) ?_
        exact hRR
      refine snd_emb (ρ := ρ0) (env2 := [(0, .int .i64 p), (1, .int .i64 (n : Int)), (2, .int .i64 (a : Int)), (3, .int .i64 (b : Int)), (4, .fn g nc caps), (10, .ptr 10 0 [] 0 (tnA 0 0 0 0 .nilsl)), (13, .ptr 13 0 [] 0 (tnA 0 0 0 0 .nilsl)), (15, rowA (a + b) (dgF n (a + b) x)), (39, .int .i64 ((n ^ (a + b) : Nat) : Int)), (40, .int .i64 (x : Int))]) (ol2 := [(10, .one (tnA 0 0 0 0 .nilsl) (tnA 0 0 0 0 .nilsl)), (13, .one (tnA 0 0 0 0 .nilsl) (tnA p (n : Int) (a : Int) (b : Int) .nilsl))]) ?_ ?_
      · exact ⟨⟨m_int rfl, m_int rfl, m_int rfl, m_int rfl, Mt_closed hcl (fun _ _ _ => trivial) (by simp), ⟨rfl, rfl, rfl, rfl, rfl⟩, ⟨rfl, rfl, rfl, rfl, rfl⟩, mt_fz ⟨ne_fst rfl, ne_fst rfl, trivial⟩ rfl (fun _ _ => rfl), m_int rfl, m_int rfl, trivial⟩, ⟨⟨rfl, sshTn trivial, mt_tn rfl⟩, ⟨rfl, sshTn trivial, mt_tn rfl⟩, trivial⟩, ⟨⟨fun _ => ⟨rfl, rfl⟩, fun h => absurd h (by decide), trivial⟩, ⟨fun h => absurd h (by decide), fun _ => ⟨rfl, rfl⟩, trivial⟩, trivial⟩⟩
      apply ld tokTB mixed (by kernel_rfl) (by kernel_rfl)
      · intro RR hRR
        refine w_fap rfl und29 rfl kn27 nz27 rfl (by decide) rfl ?_
        first | refine w_ldc rfl kn27 (by constructor) (by exact sz27.symm) (by exact ag27.symm) ?_ | refine w_ldp rfl kn27 rfl (by constructor) (by exact sz27.symm) (by exact ag27.symm) ?_
        refine w_move (by constructor) ?_
        refine w_move (by constructor) ?_
        refine w_move (by constructor) ?_
        refine w_sl_rh rfl rfl und27 kn2 (by exact sz2.symm) (by omega) ?_
        refine w_move (by constructor) ?_
        refine w_move (by constructor) ?_
        refine w_sl_rl rfl rfl und27 kn2 (by exact sz2.symm) rfl (by omega) ?_
        refine y_call rfl (exc (by exact rfl) (exc (by show AV.ro (a + b - a) _ = _; rw [Nat.add_sub_cancel_left]; rfl) (exp_capL hcl))) (hf x lt_x) ?_
        refine w_move (by constructor) ?_
        refine y_call rfl (ec (ec exn)) (c_rest (x := Q x) (by omega) (by omega)) ?_
        refine w_bsl1 und27 kn2 (by rw [sz2]; rfl) rfl (by constructor) (by first | exact trivial | exact cel_cap2) (by exact sz2.symm) (by first | exact trivial | exact ssh_vec | exact ⟨rfl, fun _ => trivial⟩) ?_
        first | refine w_app_o und27 rfl rfl kn2 rfl rfl (fun C h => ⟨rfl, rfl, rfl, h⟩) (by rw [by2]; omega) (by omega) rfl ?_ | refine w_app_n und27 rfl rfl kn2 rfl (fun C h => ⟨rfl, rfl, rfl, h⟩) (by omega) (by rw [by2]; omega) (by omega) ?_
        refine w_fap rfl und29 rfl kn27 nz27 rfl (by decide) rfl ?_
        first | refine w_stw rfl (by constructor) kn27 rfl (by exact trivial) (sx) (by exact sz27.symm) ?_ | refine w_sti rfl rfl kn27 rfl (by exact trivial) (by exact sz27.symm) ?_ | refine w_store rfl (HV.eq (by constructor)) kn27 rfl (by exact trivial) (sx) (by exact sz27.symm) (put_in (by first | exact put_mat | exact put_tab | exact put_alg0 | exact put_pr0 | exact put_pr1 | exact put_pr2 | exact put_tn4 | exact put_alg1 | exact put_alg2 | exact put_alg3 | exact put_alg3i | exact put_alg2ij | exact put_alg2ijk | exact put_mat2 | exact put_tab2 | exact put_tab3)) ?_ | refine w_store rfl (HV.eq (by constructor)) kn27 rfl (by exact trivial) (by exact trivial) (by exact sz27.symm) rfl ?_
        exact hRR
      apply lr tokTB (by kernel_rfl)
      · intro RR hRR
        refine y_add rfl rfl ?_
        refine w_move (by constructor) ?_
        exact hRR
      refine ⟨x + 1, (fun k i => bif Nat.beq k 905 then (62, i) else (k, i)), ?_, (by omega), (by dsimp only; omega)⟩
      show Emb _ _ _ _ (if x + 1 = 0 then [(10, .one (tnA 0 0 0 0 .nilsl) (tnA 0 0 0 0 .nilsl)), (13, .one (tnA 0 0 0 0 .nilsl) (tnA p (n : Int) (a : Int) (b : Int) .nilsl))] else [(10, .one (tnA 0 0 0 0 .nilsl) (tnA 0 0 0 0 .nilsl)), (13, .one (tnA 0 0 0 0 .nilsl) (tnA p (n : Int) (a : Int) (b : Int) (.own 905 0 (x + 1) 2))), (905, .one (Z64 (x + 1)) (C64 (x + 1) Q))])
      rw [if_neg (Nat.succ_ne_zero x)]
      exact ⟨⟨(mi), (mi), (mi), (mi), (by exact Mt_closed (V := _) hcl (fun _ _ _ => trivial) (by simp)), ⟨rfl, rfl, rfl, rfl, rfl⟩, ⟨rfl, rfl, rfl, rfl, rfl⟩, (mi), (mi), trivial⟩, ⟨⟨rfl, (sx), (by exact mt_tn rfl)⟩, ⟨rfl, (sx), (by subst hx0; exact mt_tn ⟨rfl, rfl, rfl, rfl⟩)⟩, ⟨(by subst hx0; exact rfl), (sx), (by subst hx0; exact ⟨rfl, fun j hj => by obtain rfl : j = 0 := (by omega); exact congrArg (AV.int .i64) (Int.emod_eq_of_lt (hQ 0).1 (hQ 0).2)⟩)⟩, trivial⟩, ⟨⟨(fun h => by first | exact ⟨rfl, rfl⟩ | exact absurd h (by decide)), (fun h => by first | exact ⟨rfl, rfl⟩ | exact absurd h (by decide)), (fun h => by first | exact ⟨rfl, rfl⟩ | exact absurd h (by decide)), trivial⟩, ⟨(fun h => by first | exact ⟨rfl, rfl⟩ | exact absurd h (by decide)), (fun h => by first | exact ⟨rfl, rfl⟩ | exact absurd h (by decide)), (fun h => by first | exact ⟨rfl, rfl⟩ | exact absurd h (by decide)), trivial⟩, ⟨(fun h => by first | exact ⟨rfl, rfl⟩ | exact absurd h (by decide)), (fun h => by first | exact ⟨rfl, rfl⟩ | exact absurd h (by decide)), (fun h => by first | exact ⟨rfl, rfl⟩ | exact absurd h (by decide)), trivial⟩, trivial⟩⟩
    · try simp only [hcs] at hc41
      have ge_x : n ^ (a + b) = x := by omega
      subst ge_x
      omega
  · skip
    refine sq (env2 := [(0, .int .i64 p), (1, .int .i64 (n : Int)), (2, .int .i64 (a : Int)), (3, .int .i64 (b : Int)), (4, .fn g nc caps), (10, .ptr 10 0 [] 0 (tnA 0 0 0 0 .nilsl)), (13, .ptr 13 0 [] 0 (tnA 0 0 0 0 .nilsl)), (39, .int .i64 ((n ^ (a + b) : Nat) : Int)), (40, .int .i64 (x : Int))]) (ol2 := [(10, .one (tnA 0 0 0 0 .nilsl) (tnA 0 0 0 0 .nilsl)), (13, .one (tnA 0 0 0 0 .nilsl) (tnA p (n : Int) (a : Int) (b : Int) (.own 905 0 x 2))), (905, .one (Z64 x) (C64 x Q))]) rfl (by exact if_neg (by omega)) ?_
    apply sr tokTB (by kernel_rfl)
    · intro RR hRR
      refine w_lss rfl rfl ?_
      exact hRR
    refine snd_seq ?_
    refine snd_cond _ rfl (fun hc41 => ?_) (fun hc41 => ?_)
    · try simp only [hcs] at hc41
      have lt_x : x < n ^ (a + b) := by omega
      refine snd_skip ?_
      refine snd_seq ?_
      refine snd_block ?_
      apply sr tokTB (by kernel_rfl)
      · intro RR hRR
        refine w_move (by constructor) ?_
        refine w_assign (by constructor) ?_
        exact hRR
      apply sr tokTB (by kernel_rfl)
      · intro RR hRR
        refine w_move (by constructor) ?_
        refine w_move (by constructor) ?_
        refine w_move (by constructor) ?_
        refine w_move (by constructor) ?_
        refine y_add rfl rfl ?_
        refine w_call rfl (exc (by exact rfl) (exc (by exact rfl) (exc (by exact congrArg (AV.int .i64) (Int.natCast_add a b).symm) exn))) (c_digits (x := x) (n := n) (m := a + b) hn hab (by omega)) (.inl ⟨trivial, ⟨fun _ => trivial, trivial⟩⟩) rfl (by constructor) rfl ?_
        refine w_assign (by constructor) ?_
        exact hRR
      refine snd_emb (ρ := ρ0) (env2 := [(0, .int .i64 p), (1, .int .i64 (n : Int)), (2, .int .i64 (a : Int)), (3, .int .i64 (b : Int)), (4, .fn g nc caps), (10, .ptr 10 0 [] 0 (tnA 0 0 0 0 .nilsl)), (13, .ptr 13 0 [] 0 (tnA 0 0 0 0 .nilsl)), (15, rowA (a + b) (dgF n (a + b) x)), (39, .int .i64 ((n ^ (a + b) : Nat) : Int)), (40, .int .i64 (x : Int))]) (ol2 := [(10, .one (tnA 0 0 0 0 .nilsl) (tnA 0 0 0 0 .nilsl)), (13, .one (tnA 0 0 0 0 .nilsl) (tnA p (n : Int) (a : Int) (b : Int) (.own 905 0 x 2))), (905, .one (Z64 x) (C64 x Q))]) ?_ ?_
      · exact ⟨⟨m_int rfl, m_int rfl, m_int rfl, m_int rfl, Mt_closed hcl (fun _ _ _ => trivial) (by simp), ⟨rfl, rfl, rfl, rfl, rfl⟩, ⟨rfl, rfl, rfl, rfl, rfl⟩, mt_fz ⟨ne_fst rfl, ne_fst rfl, ne_fst rfl, trivial⟩ rfl (fun _ _ => rfl), m_int rfl, m_int rfl, trivial⟩, ⟨⟨rfl, sshTn trivial, mt_tn rfl⟩, ⟨rfl, sshTn trivial, mt_tn ⟨rfl, rfl, rfl, rfl⟩⟩, ⟨rfl, ⟨rfl, fun _ => trivial⟩, mt_vec (fun _ _ => rfl)⟩, trivial⟩, ⟨⟨fun _ => ⟨rfl, rfl⟩, fun h => absurd h (by decide), fun h => absurd h (by decide), trivial⟩, ⟨fun h => absurd h (by decide), fun _ => ⟨rfl, rfl⟩, fun h => absurd h (by decide), trivial⟩, ⟨fun h => absurd h (by decide), fun h => absurd h (by decide), fun _ => ⟨rfl, rfl⟩, trivial⟩, trivial⟩⟩
      apply ld tokTB mixed (by kernel_rfl) (by kernel_rfl)
      · intro RR hRR
        refine w_fap rfl und29 rfl kn27 nz27 rfl (by decide) rfl ?_
        first | refine w_ldc rfl kn27 (by constructor) (by exact sz27.symm) (by exact ag27.symm) ?_ | refine w_ldp rfl kn27 rfl (by constructor) (by exact sz27.symm) (by exact ag27.symm) ?_
        refine w_move (by constructor) ?_
        refine w_move (by constructor) ?_
        refine w_move (by constructor) ?_
        refine w_sl_rh rfl rfl und27 kn2 (by exact sz2.symm) (by omega) ?_
        refine w_move (by constructor) ?_
        refine w_move (by constructor) ?_
        refine w_sl_rl rfl rfl und27 kn2 (by exact sz2.symm) rfl (by omega) ?_
        refine y_call rfl (exc (by exact rfl) (exc (by show AV.ro (a + b - a) _ = _; rw [Nat.add_sub_cancel_left]; rfl) (exp_capL hcl))) (hf x lt_x) ?_
        refine w_move (by constructor) ?_
        refine y_call rfl (ec (ec exn)) (c_rest (x := Q x) (by omega) (by omega)) ?_
        refine w_bsl1 und27 kn2 (by rw [sz2]; rfl) rfl (by constructor) (by first | exact trivial | exact cel_cap2) (by exact sz2.symm) (by first | exact trivial | exact ssh_vec | exact ⟨rfl, fun _ => trivial⟩) ?_
        first | refine w_app_o und27 rfl rfl kn2 rfl rfl (fun C h => ⟨rfl, rfl, rfl, h⟩) (by rw [by2]; omega) (by omega) rfl ?_ | refine w_app_n und27 rfl rfl kn2 rfl (fun C h => ⟨rfl, rfl, rfl, h⟩) (by omega) (by rw [by2]; omega) (by omega) ?_
        refine w_fap rfl und29 rfl kn27 nz27 rfl (by decide) rfl ?_
        first | refine w_stw rfl (by constructor) kn27 rfl (by exact trivial) (sx) (by exact sz27.symm) ?_ | refine w_sti rfl rfl kn27 rfl (by exact trivial) (by exact sz27.symm) ?_ | refine w_store rfl (HV.eq (by constructor)) kn27 rfl (by exact trivial) (sx) (by exact sz27.symm) (put_in (by first | exact put_mat | exact put_tab | exact put_alg0 | exact put_pr0 | exact put_pr1 | exact put_pr2 | exact put_tn4 | exact put_alg1 | exact put_alg2 | exact put_alg3 | exact put_alg3i | exact put_alg2ij | exact put_alg2ijk | exact put_mat2 | exact put_tab2 | exact put_tab3)) ?_ | refine w_store rfl (HV.eq (by constructor)) kn27 rfl (by exact trivial) (by exact trivial) (by exact sz27.symm) rfl ?_
        exact hRR
      apply lr tokTB (by kernel_rfl)
      · intro RR hRR
        refine y_add rfl rfl ?_
        refine w_move (by constructor) ?_
        exact hRR
      refine ⟨x + 1, (fun k i => bif Nat.beq k 905 then (62, i) else (k, i)), ?_, (by omega), (by dsimp only; omega)⟩
      show Emb _ _ _ _ (if x + 1 = 0 then [(10, .one (tnA 0 0 0 0 .nilsl) (tnA 0 0 0 0 .nilsl)), (13, .one (tnA 0 0 0 0 .nilsl) (tnA p (n : Int) (a : Int) (b : Int) .nilsl))] else [(10, .one (tnA 0 0 0 0 .nilsl) (tnA 0 0 0 0 .nilsl)), (13, .one (tnA 0 0 0 0 .nilsl) (tnA p (n : Int) (a : Int) (b : Int) (.own 905 0 (x + 1) 2))), (905, .one (Z64 (x + 1)) (C64 (x + 1) Q))])
      rw [if_neg (Nat.succ_ne_zero x)]
      exact ⟨⟨(mi), (mi), (mi), (mi), (by exact Mt_closed (V := _) hcl (fun _ _ _ => trivial) (by simp)), ⟨rfl, rfl, rfl, rfl, rfl⟩, ⟨rfl, rfl, rfl, rfl, rfl⟩, (mi), (mi), trivial⟩, ⟨⟨rfl, (sx), (by exact mt_tn rfl)⟩, ⟨rfl, (sx), (by exact mt_tn ⟨rfl, rfl, rfl, rfl⟩)⟩, ⟨rfl, (sx), (by exact mt_app (fun _ _ => rfl) (congrArg (AV.int .i64) (Int.emod_eq_of_lt (hQ x).1 (hQ x).2)))⟩, trivial⟩, ⟨⟨(fun h => by first | exact ⟨rfl, rfl⟩ | exact absurd h (by decide)), (fun h => by first | exact ⟨rfl, rfl⟩ | exact absurd h (by decide)), (fun h => by first | exact ⟨rfl, rfl⟩ | exact absurd h (by decide)), trivial⟩, ⟨(fun h => by first | exact ⟨rfl, rfl⟩ | exact absurd h (by decide)), (fun h => by first | exact ⟨rfl, rfl⟩ | exact absurd h (by decide)), (fun h => by first | exact ⟨rfl, rfl⟩ | exact absurd h (by decide)), trivial⟩, ⟨(fun h => by first | exact ⟨rfl, rfl⟩ | exact absurd h (by decide)), (fun h => by first | exact ⟨rfl, rfl⟩ | exact absurd h (by decide)), (fun h => by first | exact ⟨rfl, rfl⟩ | exact absurd h (by decide)), trivial⟩, trivial⟩⟩
    · try simp only [hcs] at hc41
      have ge_x : n ^ (a + b) = x := by omega
      subst ge_x
      refine snd_exit ?_
      apply sr tokTB (by kernel_rfl)
      · intro RR hRR
        refine w_ldp rfl kn29 rfl (by constructor) (by exact sz29.symm) (by exact ag29.symm) ?_
        refine w_stw rfl (by constructor) kn29 rfl (by exact trivial) (sx) (by exact sz29.symm) ?_
        refine w_assign (by constructor) ?_
        exact hRR
      refine snd_ret ?_
      show retQ TB _ _ _ _ _ _
      exact rt_tnu (T := TB) (k := 905) rfl kn29 rfl sz29.symm ag29.symm mt_tn_own (fun V => rfl) rfl rfl
end Go.Am

set_option linter.unusedVariables false
set_option linter.unusedSimpArgs false
set_option maxRecDepth 4000
namespace Go.Am
attribute [local irreducible] retQ retQp
open Go.Proofs
theorem c_l03Empty {p : Int} {n a b : Nat} (hn : 1 ≤ n ∧ n ≤ 6) (hab : a + b ≤ 3) : ACalls Try.prog TB 55 [.int .i64 p, .int .i64 (n : Int), .int .i64 (a : Int), .int .i64 (b : Int)] (tnA p (n : Int) (a : Int) (b : Int) (.own 0 0 (n ^ (a + b)) 2)) [(0, .one (Z64 (n ^ (a + b))) (C64 (n ^ (a + b)) (fun _ => 0)))] := by
  have hpw := pow216 hn hab
  refine acalls_of tokTB Try.func55 rfl rfl (Nat.le_of_ble_eq_true rfl) ?_
  apply sr tokTB (by kernel_rfl)
  · intro RR hRR
    refine w_alloc kn29 rfl zr29 ?_
    exact hRR
  apply sr tokTB (by kernel_rfl)
  · intro RR hRR
    refine w_move (by constructor) ?_
    refine w_move (by constructor) ?_
    refine w_move (by constructor) ?_
    refine w_move (by constructor) ?_
    refine w_move (by constructor) ?_
    refine w_move (by constructor) ?_
    refine w_move (by constructor) ?_
    refine y_add rfl rfl ?_
    refine y_call rfl (exc (by exact rfl) (exc (by exact congrArg (AV.int .i64) (Int.natCast_add a b).symm) exn)) (c_l03Power (k := a + b) hn hab) ?_
    refine w_mks und27 rfl rfl kn2 rfl (by omega) (by rw [by2]; omega) (by omega) rfl ?_
    refine w_bld_s kn29 zr29 und29 rfl (by exact ⟨rfl, kn2, sz2, rfl, kn2, sz2, rfl, kn2, sz2, rfl, kn2, sz2, rfl, kn27, sz27, trivial⟩) (by exact ⟨⟨by decide, trivial, rfl⟩, ⟨by decide, trivial, rfl⟩, ⟨by decide, trivial, rfl⟩, ⟨by decide, trivial, rfl⟩, ⟨by decide, trivial, rfl⟩, trivial⟩) rfl ?_
    refine w_stw rfl (by constructor) kn29 rfl (by exact trivial) (sx) (by exact sz29.symm) ?_
    exact hRR
  refine snd_ret ?_
  show retQ TB _ _ _ _ _ _
  exact rt_tn (T := TB) (k := 18) rfl kn29 rfl sz29.symm ag29.symm (fun V h1 h2 => mt_tng rfl rfl rfl rfl ⟨h1, rfl, rfl, h2⟩) (by show some (AV.arr _ (fun _ => TB.zero 2), AV.arr _ (fun _ => TB.zero 2)) = _; rw [zr2]; rfl) rfl
theorem c_ProductTensor1 {p : Int} {n : Nat} {T : Nat → Nat → Nat → Int} {fo : Nat → Int} (hv0 : VN p n T fo) {x : Nat} {d e : Nat → Int} (h0 : d 0 = ((dgN n 3 x 0 : Nat) : Int)) (h1 : d 1 = ((dgN n 3 x 1 : Nat) : Int)) (h2 : e 0 = ((dgN n 3 x 2 : Nat) : Int)) : ACalls Try.prog TB 56 [rowA 2 d, rowA 1 e, .cptr (algA p (n : Int) T fo)] (.int .i64 (prQ n T x)) [] := by
  have hp8 := hv0.p0
  have hn6 := hv0.n6
  have hn0 := hv0.n0
  have hn : 1 ≤ n ∧ n ≤ 6 := by omega
  have hb0 := dgN_lt (m := 3) (x := x) (j := 0) hn0
  have hb1 := dgN_lt (m := 3) (x := x) (j := 1) hn0
  have hb2 := dgN_lt (m := 3) (x := x) (j := 2) hn0
  refine acalls_of tokTB Try.func56 rfl rfl (Nat.le_of_ble_eq_true rfl) ?_
  apply sr tokTB (by kernel_rfl)
  · intro RR hRR
    refine w_assign (by constructor) ?_
    exact hRR
  apply sd tokTB mixed (by kernel_rfl) (by kernel_rfl)
  · intro RR hRR
    refine w_move (by constructor) ?_
    refine w_iar rfl rfl und27 kn2 (by exact sz2.symm) ?_ rfl ?_
    · exact ⟨by omega, by omega⟩
    refine w_ldc (v := .int .i64 ((dgN n 3 x 0 : Nat) : Int)) rfl kn2 (by show HV (.int .i64 (d 0)) _; rw [h0]; constructor) (by exact sz2.symm) (by exact ag2.symm) ?_
    refine w_move (by constructor) ?_
    refine w_iar rfl rfl und27 kn2 (by exact sz2.symm) ?_ rfl ?_
    · exact ⟨by omega, by omega⟩
    refine w_ldc (v := .int .i64 ((dgN n 3 x 1 : Nat) : Int)) rfl kn2 (by show HV (.int .i64 (d 1)) _; rw [h1]; constructor) (by exact sz2.symm) (by exact ag2.symm) ?_
    refine w_move (by constructor) ?_
    refine w_iar rfl rfl und27 kn2 (by exact sz2.symm) ?_ rfl ?_
    · exact ⟨by omega, by omega⟩
    refine w_ldc (v := .int .i64 ((dgN n 3 x 2 : Nat) : Int)) rfl kn2 (by show HV (.int .i64 (e 0)) _; rw [h2]; constructor) (by exact sz2.symm) (by exact ag2.symm) ?_
    refine w_fac rfl und34 rfl kn24 nz24 (by decide) rfl (by constructor) ?_
    refine w_iac rfl rfl und24 kn23 (by exact sz23.symm) ?_ rfl ?_
    · exact ⟨by omega, by omega⟩
    first | refine w_iac rfl rfl und23 kn22 (by exact sz22.symm) ?_ rfl ?_ | refine w_iap rfl rfl und23 kn22 rfl (by exact sz22.symm) rfl ?_ ?_
    · exact ⟨by omega, by omega⟩
    first | refine w_iac rfl rfl und22 kn5 (by exact sz5.symm) ?_ rfl ?_ | refine w_iap rfl rfl und22 kn5 rfl (by exact sz5.symm) rfl ?_ ?_
    · exact ⟨by omega, by omega⟩
    first | refine w_ldc rfl kn5 (by constructor) (by exact sz5.symm) (by exact ag5.symm) ?_ | refine w_ldp rfl kn5 rfl (by constructor) (by exact sz5.symm) (by exact ag5.symm) ?_
    refine w_conv rfl und5 und2 (by exact w64t hv0.T8 _ _ _) ?_
    refine w_assign (by constructor) ?_
    exact hRR
  refine snd_ret ?_
  exact rt (T := TB) (fun V => rfl)
theorem c_sProductTensor_ok {p : Int} {n : Nat} {T : Nat → Nat → Nat → Int} {fo : Nat → Int} (hv0 : VN p n T fo) : ACalls Try.prog TB 20 [algA p (n : Int) T fo] (.tup 2 (pairA (tnA p (n : Int) 2 1 (.own 0 0 (n ^ (2 + 1)) 2)) (.int .i64 0))) [(0, .one (Z64 (n ^ (2 + 1))) (C64 (n ^ (2 + 1)) (cutF (prQ n T) (n * n * n))))] := by
  have hp8 := hv0.p0
  have hn6 := hv0.n6
  have hn0 := hv0.n0
  have hn : 1 ≤ n ∧ n ≤ 6 := by omega
  refine acalls_of tokTB Try.func20 rfl rfl (Nat.le_of_ble_eq_true rfl) ?_
  apply sr tokTB (by kernel_rfl)
  · intro RR hRR
    refine w_boxc (HV.eq (by constructor)) (by exact trivial) ?_
    refine w_alloc kn29 rfl zr29 ?_
    refine w_assign (by constructor) ?_
    exact hRR
  refine snd_seq ?_
  apply sr tokTB (by kernel_rfl)
  · intro RR hRR
    refine w_ldc rfl kn34 (by constructor) (by exact sz34.symm) (by exact ag34.symm) ?_
    refine y_call rfl (ec (ec exn)) (c_l01Code0_ok hv0) ?_
    refine w_assign (by constructor) ?_
    exact hRR
  apply sr tokTB (by kernel_rfl)
  · intro RR hRR
    refine w_move (by constructor) ?_
    refine w_neq rfl rfl ?_
    exact hRR
  refine snd_cond_false rfl ?_
  refine snd_skip ?_
  apply sr tokTB (by kernel_rfl)
  · intro RR hRR
    refine w_fac rfl und34 rfl kn2 nz2 (by decide) rfl (by constructor) ?_
    refine w_ldc rfl kn2 (by constructor) (by exact sz2.symm) (by exact ag2.symm) ?_
    refine w_assign (by constructor) ?_
    exact hRR
  apply sr tokTB (by kernel_rfl)
  · intro RR hRR
    refine w_fac rfl und34 rfl kn2 nz2 (by decide) rfl (by constructor) ?_
    refine w_ldc rfl kn2 (by constructor) (by exact sz2.symm) (by exact ag2.symm) ?_
    refine w_move (by constructor) ?_
    refine w_call rfl (exc (by exact rfl) (exc (by exact rfl) (exc (by exact rfl) (exc (by exact rfl) exn)))) (c_l03Empty (a := 2) (b := 1) hn (by omega)) (.inl ⟨nr_tn trivial, ⟨fun _ => trivial, trivial⟩⟩) rfl (by constructor) rfl ?_
    refine w_alloc kn29 rfl zr29 ?_
    refine w_stw rfl (by constructor) kn29 rfl (by exact trivial) (sx) (by exact sz29.symm) ?_
    exact hRR
  refine snd_seq ?_
  apply sr tokTB (by kernel_rfl)
  · intro RR hRR
    refine w_assign (by constructor) ?_
    exact hRR
  refine snd_block ?_
  refine snd_loop (S := Nat) (fun i => ([(1, .cptr (algA p (n : Int) T fo)), (2, .ptr 2 0 [] 0 (tnA 0 0 0 0 .nilsl)), (5, .int .i64 (n : Int)), (6, .ptr 6 0 [] 0 (tnA 0 0 0 0 .nilsl)), (7, .int .i64 (i : Int))], [(2, .one (tnA 0 0 0 0 .nilsl) (tnA 0 0 0 0 .nilsl)), (6, .one (tnA 0 0 0 0 .nilsl) (tnA p (n : Int) 2 1 (.own 905 0 (n ^ (2 + 1)) 2))), (905, .one (Z64 (n ^ (2 + 1))) (C64 (n ^ (2 + 1)) (cutF (prQ n T) (i * n * n))))])) (fun i => i ≤ n) (fun i => n - i) (0) (fun k i => bif Nat.beq k 905 then (22000, i) else (k, i)) ?_ ?_ ?_
  · exact ⟨⟨m_calg, ⟨rfl, rfl, rfl, rfl, rfl⟩, (mi), ⟨rfl, rfl, rfl, rfl, rfl⟩, (mi), trivial⟩, ⟨⟨rfl, (sx), (by exact mt_tn rfl)⟩, ⟨rfl, (sx), (by exact mt_tng rfl rfl rfl rfl ⟨rfl, rfl, rfl, rfl⟩)⟩, ⟨rfl, (sx), (by exact mt_vec (fun z _ => by rw [Nat.zero_mul, Nat.zero_mul]; rfl))⟩, trivial⟩, ⟨⟨(fun h => by first | exact ⟨rfl, rfl⟩ | exact absurd h (by decide)), (fun h => by first | exact ⟨rfl, rfl⟩ | exact absurd h (by decide)), (fun h => by first | exact ⟨rfl, rfl⟩ | exact absurd h (by decide)), trivial⟩, ⟨(fun h => by first | exact ⟨rfl, rfl⟩ | exact absurd h (by decide)), (fun h => by first | exact ⟨rfl, rfl⟩ | exact absurd h (by decide)), (fun h => by first | exact ⟨rfl, rfl⟩ | exact absurd h (by decide)), trivial⟩, ⟨(fun h => by first | exact ⟨rfl, rfl⟩ | exact absurd h (by decide)), (fun h => by first | exact ⟨rfl, rfl⟩ | exact absurd h (by decide)), (fun h => by first | exact ⟨rfl, rfl⟩ | exact absurd h (by decide)), trivial⟩, trivial⟩⟩
  · exact Nat.zero_le _
  intro i hi0
  refine sq (env2 := [(1, .cptr (algA p (n : Int) T fo)), (2, .ptr 2 0 [] 0 (tnA 0 0 0 0 .nilsl)), (5, .int .i64 (n : Int)), (6, .ptr 6 0 [] 0 (tnA 0 0 0 0 .nilsl)), (7, .int .i64 (i : Int))]) (ol2 := [(2, .one (tnA 0 0 0 0 .nilsl) (tnA 0 0 0 0 .nilsl)), (6, .one (tnA 0 0 0 0 .nilsl) (tnA p (n : Int) 2 1 (.own 905 0 (n ^ (2 + 1)) 2))), (905, .one (Z64 (n ^ (2 + 1))) (C64 (n ^ (2 + 1)) (cutF (prQ n T) (i * n * n))))]) rfl rfl ?_
  refine snd_seq ?_
  apply sr tokTB (by kernel_rfl)
  · intro RR hRR
    refine w_move (by constructor) ?_
    refine w_move (by constructor) ?_
    refine w_lss rfl rfl ?_
    exact hRR
  refine snd_cond _ rfl (fun hc24 => ?_) (fun hc24 => ?_)
  · try simp only [hcs] at hc24
    have lt_i : i < n := by omega
    refine snd_skip ?_
    refine snd_seq ?_
    refine snd_block ?_
    apply sr tokTB (by kernel_rfl)
    · intro RR hRR
      refine w_assign (by constructor) ?_
      exact hRR
    refine snd_block ?_
    refine snd_loop (S := Nat) (fun j => ([(1, .cptr (algA p (n : Int) T fo)), (2, .ptr 2 0 [] 0 (tnA 0 0 0 0 .nilsl)), (5, .int .i64 (n : Int)), (6, .ptr 6 0 [] 0 (tnA 0 0 0 0 .nilsl)), (7, .int .i64 (i : Int)), (8, .int .i64 (j : Int))], [(2, .one (tnA 0 0 0 0 .nilsl) (tnA 0 0 0 0 .nilsl)), (6, .one (tnA 0 0 0 0 .nilsl) (tnA p (n : Int) 2 1 (.own 905 0 (n ^ (2 + 1)) 2))), (905, .one (Z64 (n ^ (2 + 1))) (C64 (n ^ (2 + 1)) (cutF (prQ n T) ((i * n + j) * n))))])) (fun j => j ≤ n) (fun j => n - j) (0) ρ0 ?_ ?_ ?_
    · exact ⟨⟨m_calg, ⟨rfl, rfl, rfl, rfl, rfl⟩, (mi), ⟨rfl, rfl, rfl, rfl, rfl⟩, (mi), (mi), trivial⟩, ⟨⟨rfl, (sx), (by exact mt_tn rfl)⟩, ⟨rfl, (sx), (by exact mt_tn ⟨rfl, rfl, rfl, rfl⟩)⟩, ⟨rfl, (sx), (by exact mt_vec (fun z _ => by rw [Nat.add_zero]))⟩, trivial⟩, ⟨⟨(fun h => by first | exact ⟨rfl, rfl⟩ | exact absurd h (by decide)), (fun h => by first | exact ⟨rfl, rfl⟩ | exact absurd h (by decide)), (fun h => by first | exact ⟨rfl, rfl⟩ | exact absurd h (by decide)), trivial⟩, ⟨(fun h => by first | exact ⟨rfl, rfl⟩ | exact absurd h (by decide)), (fun h => by first | exact ⟨rfl, rfl⟩ | exact absurd h (by decide)), (fun h => by first | exact ⟨rfl, rfl⟩ | exact absurd h (by decide)), trivial⟩, ⟨(fun h => by first | exact ⟨rfl, rfl⟩ | exact absurd h (by decide)), (fun h => by first | exact ⟨rfl, rfl⟩ | exact absurd h (by decide)), (fun h => by first | exact ⟨rfl, rfl⟩ | exact absurd h (by decide)), trivial⟩, trivial⟩⟩
    · exact Nat.zero_le _
    intro j hi2
    refine sq (env2 := [(1, .cptr (algA p (n : Int) T fo)), (2, .ptr 2 0 [] 0 (tnA 0 0 0 0 .nilsl)), (5, .int .i64 (n : Int)), (6, .ptr 6 0 [] 0 (tnA 0 0 0 0 .nilsl)), (7, .int .i64 (i : Int)), (8, .int .i64 (j : Int))]) (ol2 := [(2, .one (tnA 0 0 0 0 .nilsl) (tnA 0 0 0 0 .nilsl)), (6, .one (tnA 0 0 0 0 .nilsl) (tnA p (n : Int) 2 1 (.own 905 0 (n ^ (2 + 1)) 2))), (905, .one (Z64 (n ^ (2 + 1))) (C64 (n ^ (2 + 1)) (cutF (prQ n T) ((i * n + j) * n))))]) rfl rfl ?_
    refine snd_seq ?_
    apply sr tokTB (by kernel_rfl)
    · intro RR hRR
      refine w_move (by constructor) ?_
      refine w_move (by constructor) ?_
      refine w_lss rfl rfl ?_
      exact hRR
    refine snd_cond _ rfl (fun hc29 => ?_) (fun hc29 => ?_)
    · try simp only [hcs] at hc29
      have lt_j : j < n := by omega
      refine snd_skip ?_
      refine snd_seq ?_
      refine snd_block ?_
      apply sr tokTB (by kernel_rfl)
      · intro RR hRR
        refine w_assign (by constructor) ?_
        exact hRR
      refine snd_block ?_
      refine snd_loop (S := Nat) (fun k => ([(1, .cptr (algA p (n : Int) T fo)), (2, .ptr 2 0 [] 0 (tnA 0 0 0 0 .nilsl)), (5, .int .i64 (n : Int)), (6, .ptr 6 0 [] 0 (tnA 0 0 0 0 .nilsl)), (7, .int .i64 (i : Int)), (8, .int .i64 (j : Int)), (9, .int .i64 (k : Int))], [(2, .one (tnA 0 0 0 0 .nilsl) (tnA 0 0 0 0 .nilsl)), (6, .one (tnA 0 0 0 0 .nilsl) (tnA p (n : Int) 2 1 (.own 905 0 (n ^ (2 + 1)) 2))), (905, .one (Z64 (n ^ (2 + 1))) (C64 (n ^ (2 + 1)) (cutF (prQ n T) ((i * n + j) * n + k))))])) (fun k => k ≤ n) (fun k => n - k) (0) ρ0 ?_ ?_ ?_
      · exact ⟨⟨m_calg, ⟨rfl, rfl, rfl, rfl, rfl⟩, (mi), ⟨rfl, rfl, rfl, rfl, rfl⟩, (mi), (mi), (mi), trivial⟩, ⟨⟨rfl, (sx), (by exact mt_tn rfl)⟩, ⟨rfl, (sx), (by exact mt_tn ⟨rfl, rfl, rfl, rfl⟩)⟩, ⟨rfl, (sx), (by exact mt_vec (fun z _ => rfl))⟩, trivial⟩, ⟨⟨(fun h => by first | exact ⟨rfl, rfl⟩ | exact absurd h (by decide)), (fun h => by first | exact ⟨rfl, rfl⟩ | exact absurd h (by decide)), (fun h => by first | exact ⟨rfl, rfl⟩ | exact absurd h (by decide)), trivial⟩, ⟨(fun h => by first | exact ⟨rfl, rfl⟩ | exact absurd h (by decide)), (fun h => by first | exact ⟨rfl, rfl⟩ | exact absurd h (by decide)), (fun h => by first | exact ⟨rfl, rfl⟩ | exact absurd h (by decide)), trivial⟩, ⟨(fun h => by first | exact ⟨rfl, rfl⟩ | exact absurd h (by decide)), (fun h => by first | exact ⟨rfl, rfl⟩ | exact absurd h (by decide)), (fun h => by first | exact ⟨rfl, rfl⟩ | exact absurd h (by decide)), trivial⟩, trivial⟩⟩
      · exact Nat.zero_le _
      intro k hi4
      refine sq (env2 := [(1, .cptr (algA p (n : Int) T fo)), (2, .ptr 2 0 [] 0 (tnA 0 0 0 0 .nilsl)), (5, .int .i64 (n : Int)), (6, .ptr 6 0 [] 0 (tnA 0 0 0 0 .nilsl)), (7, .int .i64 (i : Int)), (8, .int .i64 (j : Int)), (9, .int .i64 (k : Int))]) (ol2 := [(2, .one (tnA 0 0 0 0 .nilsl) (tnA 0 0 0 0 .nilsl)), (6, .one (tnA 0 0 0 0 .nilsl) (tnA p (n : Int) 2 1 (.own 905 0 (n ^ (2 + 1)) 2))), (905, .one (Z64 (n ^ (2 + 1))) (C64 (n ^ (2 + 1)) (cutF (prQ n T) ((i * n + j) * n + k))))]) rfl rfl ?_
      refine snd_seq ?_
      apply sr tokTB (by kernel_rfl)
      · intro RR hRR
        refine w_move (by constructor) ?_
        refine w_move (by constructor) ?_
        refine w_lss rfl rfl ?_
        exact hRR
      refine snd_cond _ rfl (fun hc34 => ?_) (fun hc34 => ?_)
      · try simp only [hcs] at hc34
        have lt_k : k < n := by omega
        obtain ⟨⟨hc1, hc2⟩, hc3, hc4, hc5, hc6⟩ := cube_at hn6 (show i < n by omega) (show j < n by omega) (show k < n by omega)
        have hq : prQ n T ((i * n + j) * n + k) = T i j k := by unfold prQ; rw [hc4, hc5, hc6]
        refine snd_skip ?_
        refine snd_seq ?_
        refine snd_block ?_
        apply ld tokTB mixed (by kernel_rfl) (by kernel_rfl)
        · intro RR hRR
          refine w_fap rfl und29 rfl kn27 nz27 rfl (by decide) rfl ?_
          first | refine w_ldc rfl kn27 (by constructor) (by exact sz27.symm) (by exact ag27.symm) ?_ | refine w_ldp rfl kn27 rfl (by constructor) (by exact sz27.symm) (by exact ag27.symm) ?_
          refine w_move (by constructor) ?_
          refine w_move (by constructor) ?_
          refine w_mul rfl rfl (by exact (w64 (n := (i : Int) * (n : Int)) (by rw [← Int.natCast_mul]; omega) (by rw [← Int.natCast_mul]; omega)).trans (Int.natCast_mul i n).symm) ?_
          refine w_move (by constructor) ?_
          refine y_add rfl rfl ?_
          refine w_move (by constructor) ?_
          refine w_mul rfl rfl (by exact (w64 (n := (((i * n : Nat) : Int) + (j : Int)) * (n : Int)) (by rw [← Int.natCast_add, ← Int.natCast_mul]; omega) (by rw [← Int.natCast_add, ← Int.natCast_mul]; omega)).trans (by rw [← Int.natCast_add]; exact (Int.natCast_mul _ n).symm : _ = (((i * n + j) * n : Nat) : Int))) ?_
          refine w_move (by constructor) ?_
          refine y_add rfl rfl ?_
          refine w_move (by constructor) ?_
          refine w_move (by constructor) ?_
          refine w_move (by constructor) ?_
          refine w_fac rfl und34 rfl kn24 nz24 (by decide) rfl (by constructor) ?_
          refine w_iac rfl rfl und24 kn23 (by exact sz23.symm) ?_ rfl ?_
          · exact ⟨by omega, by omega⟩
          refine w_iac rfl rfl und23 kn22 (by exact sz22.symm) ?_ rfl ?_
          · exact ⟨by omega, by omega⟩
          refine w_iac rfl rfl und22 kn5 (by exact sz5.symm) ?_ rfl ?_
          · exact ⟨by omega, by omega⟩
          first | refine w_ldc rfl kn5 (by constructor) (by exact sz5.symm) (by exact ag5.symm) ?_ | refine w_ldp rfl kn5 rfl (by constructor) (by exact sz5.symm) (by exact ag5.symm) ?_
          refine w_conv rfl und5 und2 (by exact w64t hv0.T8 _ _ _) ?_
          refine w_iao rfl rfl und27 kn2 ?_ ?_
          · exact ⟨by omega, by show _ < ((n ^ 3 : Nat) : Int); omega⟩
          first | refine w_stw rfl (by constructor) kn2 rfl (by exact trivial) (sx) (by exact sz2.symm) ?_ | refine w_sti rfl rfl kn2 rfl (by exact trivial) (by exact sz2.symm) ?_ | refine w_store rfl (HV.eq (by constructor)) kn2 rfl (by exact trivial) (sx) (by exact sz2.symm) (put_in (by first | exact put_mat | exact put_tab | exact put_alg0 | exact put_pr0 | exact put_pr1 | exact put_pr2 | exact put_tn4 | exact put_alg1 | exact put_alg2 | exact put_alg3 | exact put_alg3i | exact put_alg2ij | exact put_alg2ijk | exact put_mat2 | exact put_tab2 | exact put_tab3)) ?_ | refine w_store rfl (HV.eq (by constructor)) kn2 rfl (by exact trivial) (by exact trivial) (by exact sz2.symm) rfl ?_
          exact hRR
        apply lr tokTB (by kernel_rfl)
        · intro RR hRR
          refine w_move (by constructor) ?_
          refine y_add rfl rfl ?_
          refine w_assign (by constructor) ?_
          exact hRR
        refine ⟨k + 1, ρ0, ?_, (by omega), (by dsimp only; omega)⟩
        exact ⟨⟨m_calg, ⟨rfl, rfl, rfl, rfl, rfl⟩, (mi), ⟨rfl, rfl, rfl, rfl, rfl⟩, (mi), (mi), (mi), trivial⟩, ⟨⟨rfl, (sx), (by exact mt_tn rfl)⟩, ⟨rfl, (sx), (by exact mt_tn ⟨rfl, rfl, rfl, rfl⟩)⟩, ⟨rfl, (sx), (by exact mt_vec (fun z _ => by show upd (cutF (prQ n T) ((i * n + j) * n + k)) ((i * n + j) * n + k) (T i j k) z = _; rw [← hq]; exact upd_cut _ _ z))⟩, trivial⟩, ⟨⟨(fun h => by first | exact ⟨rfl, rfl⟩ | exact absurd h (by decide)), (fun h => by first | exact ⟨rfl, rfl⟩ | exact absurd h (by decide)), (fun h => by first | exact ⟨rfl, rfl⟩ | exact absurd h (by decide)), trivial⟩, ⟨(fun h => by first | exact ⟨rfl, rfl⟩ | exact absurd h (by decide)), (fun h => by first | exact ⟨rfl, rfl⟩ | exact absurd h (by decide)), (fun h => by first | exact ⟨rfl, rfl⟩ | exact absurd h (by decide)), trivial⟩, ⟨(fun h => by first | exact ⟨rfl, rfl⟩ | exact absurd h (by decide)), (fun h => by first | exact ⟨rfl, rfl⟩ | exact absurd h (by decide)), (fun h => by first | exact ⟨rfl, rfl⟩ | exact absurd h (by decide)), trivial⟩, trivial⟩⟩
      · try simp only [hcs] at hc34
        have ge_k : n = k := by omega
        subst ge_k
        refine snd_exit ?_
        apply lr tokTB (by kernel_rfl)
        · intro RR hRR
          refine w_move (by constructor) ?_
          refine y_add rfl rfl ?_
          refine w_assign (by constructor) ?_
          exact hRR
        refine ⟨j + 1, ρ0, ?_, (by omega), (by dsimp only; omega)⟩
        exact ⟨⟨m_calg, ⟨rfl, rfl, rfl, rfl, rfl⟩, (mi), ⟨rfl, rfl, rfl, rfl, rfl⟩, (mi), (mi), trivial⟩, ⟨⟨rfl, (sx), (by exact mt_tn rfl)⟩, ⟨rfl, (sx), (by exact mt_tn ⟨rfl, rfl, rfl, rfl⟩)⟩, ⟨rfl, (sx), (by exact mt_vec (fun z _ => by rw [show (i * n + (j + 1)) * n = (i * n + j) * n + n by rw [← Nat.add_assoc, Nat.succ_mul]]))⟩, trivial⟩, ⟨⟨(fun h => by first | exact ⟨rfl, rfl⟩ | exact absurd h (by decide)), (fun h => by first | exact ⟨rfl, rfl⟩ | exact absurd h (by decide)), (fun h => by first | exact ⟨rfl, rfl⟩ | exact absurd h (by decide)), trivial⟩, ⟨(fun h => by first | exact ⟨rfl, rfl⟩ | exact absurd h (by decide)), (fun h => by first | exact ⟨rfl, rfl⟩ | exact absurd h (by decide)), (fun h => by first | exact ⟨rfl, rfl⟩ | exact absurd h (by decide)), trivial⟩, ⟨(fun h => by first | exact ⟨rfl, rfl⟩ | exact absurd h (by decide)), (fun h => by first | exact ⟨rfl, rfl⟩ | exact absurd h (by decide)), (fun h => by first | exact ⟨rfl, rfl⟩ | exact absurd h (by decide)), trivial⟩, trivial⟩⟩
    · try simp only [hcs] at hc29
      have ge_j : n = j := by omega
      subst ge_j
      refine snd_exit ?_
      apply lr tokTB (by kernel_rfl)
      · intro RR hRR
        refine w_move (by constructor) ?_
        refine y_add rfl rfl ?_
        refine w_assign (by constructor) ?_
        exact hRR
      refine ⟨i + 1, ρ0, ?_, (by omega), (by dsimp only; omega)⟩
      exact ⟨⟨m_calg, ⟨rfl, rfl, rfl, rfl, rfl⟩, (mi), ⟨rfl, rfl, rfl, rfl, rfl⟩, (mi), trivial⟩, ⟨⟨rfl, (sx), (by exact mt_tn rfl)⟩, ⟨rfl, (sx), (by exact mt_tn ⟨rfl, rfl, rfl, rfl⟩)⟩, ⟨rfl, (sx), (by exact mt_vec (fun z _ => by rw [show (i + 1) * n * n = (i * n + n) * n by rw [Nat.succ_mul]]))⟩, trivial⟩, ⟨⟨(fun h => by first | exact ⟨rfl, rfl⟩ | exact absurd h (by decide)), (fun h => by first | exact ⟨rfl, rfl⟩ | exact absurd h (by decide)), (fun h => by first | exact ⟨rfl, rfl⟩ | exact absurd h (by decide)), trivial⟩, ⟨(fun h => by first | exact ⟨rfl, rfl⟩ | exact absurd h (by decide)), (fun h => by first | exact ⟨rfl, rfl⟩ | exact absurd h (by decide)), (fun h => by first | exact ⟨rfl, rfl⟩ | exact absurd h (by decide)), trivial⟩, ⟨(fun h => by first | exact ⟨rfl, rfl⟩ | exact absurd h (by decide)), (fun h => by first | exact ⟨rfl, rfl⟩ | exact absurd h (by decide)), (fun h => by first | exact ⟨rfl, rfl⟩ | exact absurd h (by decide)), trivial⟩, trivial⟩⟩
  · try simp only [hcs] at hc24
    have ge_i : n = i := by omega
    subst ge_i
    refine snd_exit ?_
    apply sr tokTB (by kernel_rfl)
    · intro RR hRR
      refine w_ldp rfl kn29 rfl (by constructor) (by exact sz29.symm) (by exact ag29.symm) ?_
      refine w_stw rfl (by constructor) kn29 rfl (by exact trivial) (sx) (by exact sz29.symm) ?_
      refine w_assign (by constructor) ?_
      exact hRR
    refine snd_ret ?_
    show retQ TB _ _ _ _ _ _
    exact rt_tnu (T := TB) (k := 905) rfl kn29 rfl sz29.symm ag29.symm mt_tn_own (fun V => rfl) rfl rfl
theorem c_sProductTensor_no {p n : Int} {T : Nat → Nat → Nat → Int} {fo : Nat → Int} (hT : RB T) (hf : RV fo) (hz : ¬ VZ p n T fo 0 (fun _ _ => 0)) : ACalls Try.prog TB 20 [algA p n T fo] (.tup 2 (pairA (tnA 0 0 0 0 .nilsl) (.int .i64 1))) [] := by
  refine acalls_of tokTB Try.func20 rfl rfl (Nat.le_of_ble_eq_true rfl) ?_
  apply sr tokTB (by kernel_rfl)
  · intro RR hRR
    refine w_boxc (HV.eq (by constructor)) (by exact trivial) ?_
    refine w_alloc kn29 rfl zr29 ?_
    refine w_assign (by constructor) ?_
    exact hRR
  refine snd_seq ?_
  apply sr tokTB (by kernel_rfl)
  · intro RR hRR
    refine w_ldc rfl kn34 (by constructor) (by exact sz34.symm) (by exact ag34.symm) ?_
    refine y_call rfl (ec (ec exn)) (c_l01Code0_no hT hf hz) ?_
    refine w_assign (by constructor) ?_
    exact hRR
  apply sr tokTB (by kernel_rfl)
  · intro RR hRR
    refine w_move (by constructor) ?_
    refine w_neq rfl rfl ?_
    exact hRR
  refine snd_cond_true rfl ?_
  apply sr tokTB (by kernel_rfl)
  · intro RR hRR
    refine w_bld_s kn29 zr29 und29 rfl (by exact ⟨rfl, kn2, sz2, rfl, kn2, sz2, rfl, kn2, sz2, rfl, kn2, sz2, rfl, kn27, sz27, trivial⟩) trivial rfl ?_
    refine w_move (by constructor) ?_
    refine w_stw rfl (by constructor) kn29 rfl (by exact trivial) (sx) (by exact sz29.symm) ?_
    refine w_assign (by constructor) ?_
    exact hRR
  refine snd_ret ?_
  show retQ TB _ _ _ _ _ _
  exact rt_ct (T := TB) rfl kn29 rfl sz29.symm ag29.symm (fun V => mt_tng rfl rfl rfl rfl rfl) (fun V => rfl)
theorem c_iProductTensor_ok {p : Int} {n : Nat} {T : Nat → Nat → Nat → Int} {fo : Nat → Int} (hv0 : VN p n T fo) : ACalls Try.prog TB 21 [algA p (n : Int) T fo] (.tup 2 (pairA (tnA p (n : Int) 2 1 (.own 0 0 (n ^ (2 + 1)) 2)) (.int .i64 0))) [(0, .one (Z64 (n ^ (2 + 1))) (C64 (n ^ (2 + 1)) (prQ n T)))] := by
  have hp8 := hv0.p0
  have hn6 := hv0.n6
  have hn0 := hv0.n0
  have hn : 1 ≤ n ∧ n ≤ 6 := by omega
  refine acalls_of tokTB Try.func21 rfl rfl (Nat.le_of_ble_eq_true rfl) ?_
  apply sr tokTB (by kernel_rfl)
  · intro RR hRR
    refine w_boxc (HV.eq (by constructor)) (by exact trivial) ?_
    refine w_alloc kn29 rfl zr29 ?_
    refine w_assign (by constructor) ?_
    exact hRR
  refine snd_seq ?_
  apply sr tokTB (by kernel_rfl)
  · intro RR hRR
    refine w_ldc rfl kn34 (by constructor) (by exact sz34.symm) (by exact ag34.symm) ?_
    refine y_call rfl (ec (ec exn)) (c_valid0_ok hv0) ?_
    refine w_assign (by constructor) ?_
    exact hRR
  apply sr tokTB (by kernel_rfl)
  · intro RR hRR
    refine w_move (by constructor) ?_
    refine w_neq rfl rfl ?_
    exact hRR
  refine snd_cond_false rfl ?_
  refine snd_skip ?_
  apply sr tokTB (by kernel_rfl)
  · intro RR hRR
    refine w_fac rfl und34 rfl kn2 nz2 (by decide) rfl (by constructor) ?_
    refine w_ldc rfl kn2 (by constructor) (by exact sz2.symm) (by exact ag2.symm) ?_
    refine w_fac rfl und34 rfl kn2 nz2 (by decide) rfl (by constructor) ?_
    refine w_ldc rfl kn2 (by constructor) (by exact sz2.symm) (by exact ag2.symm) ?_
    refine w_mkf1 (by constructor) ?_
    refine w_call rfl (exc (by exact rfl) (exc (by exact rfl) (exc (by exact rfl) (exc (by exact rfl) (exc (exp_closed (closed_cap1 (a := .cptr (algA p (n : Int) T fo)) closed_calg)) exn))))) (c_tensor (a := 2) (b := 1) (g := 56) (nc := 1) (caps := cap1 (.cptr (algA p (n : Int) T fo))) (Q := (prQ n T)) hp8 hn (by omega) (closed_cap1 (a := .cptr (algA p (n : Int) T fo)) closed_calg) (fun x => hv0.hT _ _ _) (fun x hx => c_ProductTensor1 hv0 rfl rfl rfl)) (.inl ⟨nr_pair (nr_tn trivial) trivial, ⟨fun _ => trivial, trivial⟩⟩) rfl (by constructor) rfl ?_
    refine w_ext rfl (by decide) (by constructor) ?_
    refine w_ext rfl (by decide) (by constructor) ?_
    refine w_stw rfl (by constructor) kn29 rfl (by exact trivial) (sx) (by exact sz29.symm) ?_
    refine w_assign (by constructor) ?_
    exact hRR
  refine snd_ret ?_
  show retQ TB _ _ _ _ _ _
  exact rt_tnu (T := TB) (k := 17000) rfl kn29 rfl sz29.symm ag29.symm (fun V h1 h2 => mt_tng rfl rfl rfl rfl ⟨h1, rfl, rfl, h2⟩) (fun V => rfl) rfl rfl
theorem c_iProductTensor_no {p n : Int} {T : Nat → Nat → Nat → Int} {fo : Nat → Int} (hT : RB T) (hf : RV fo) (hz : ¬ VZ p n T fo 0 (fun _ _ => 0)) : ACalls Try.prog TB 21 [algA p n T fo] (.tup 2 (pairA (tnA 0 0 0 0 .nilsl) (.int .i64 1))) [] := by
  refine acalls_of tokTB Try.func21 rfl rfl (Nat.le_of_ble_eq_true rfl) ?_
  apply sr tokTB (by kernel_rfl)
  · intro RR hRR
    refine w_boxc (HV.eq (by constructor)) (by exact trivial) ?_
    refine w_alloc kn29 rfl zr29 ?_
    refine w_assign (by constructor) ?_
    exact hRR
  refine snd_seq ?_
  apply sr tokTB (by kernel_rfl)
  · intro RR hRR
    refine w_ldc rfl kn34 (by constructor) (by exact sz34.symm) (by exact ag34.symm) ?_
    refine y_call rfl (ec (ec exn)) (c_valid0_no hT hf hz) ?_
    refine w_assign (by constructor) ?_
    exact hRR
  apply sr tokTB (by kernel_rfl)
  · intro RR hRR
    refine w_move (by constructor) ?_
    refine w_neq rfl rfl ?_
    exact hRR
  refine snd_cond_true rfl ?_
  apply sr tokTB (by kernel_rfl)
  · intro RR hRR
    refine w_bld_s kn29 zr29 und29 rfl (by exact ⟨rfl, kn2, sz2, rfl, kn2, sz2, rfl, kn2, sz2, rfl, kn2, sz2, rfl, kn27, sz27, trivial⟩) trivial rfl ?_
    refine w_move (by constructor) ?_
    refine w_stw rfl (by constructor) kn29 rfl (by exact trivial) (sx) (by exact sz29.symm) ?_
    refine w_assign (by constructor) ?_
    exact hRR
  refine snd_ret ?_
  show retQ TB _ _ _ _ _ _
  exact rt_ct (T := TB) rfl kn29 rfl sz29.symm ag29.symm (fun V => mt_tng rfl rfl rfl rfl rfl) (fun V => rfl)
end Go.Am

set_option linter.unusedVariables false
set_option linter.unusedSimpArgs false
set_option maxRecDepth 4000
namespace Go.Am
attribute [local irreducible] retQ retQp
open Go.Proofs
theorem c_eqTensor {p n i o : Int} {N : Nat} {F : Nat → Int} {G : Nat → Int} (hN : N ≤ 1000) (h : ∀ j, j < N → F j = G j) : ACalls Try.prog TB 17 [tnA p n i o (rowA N F), tnA p n i o (rowA N G)] (.bool true) [] := by
  refine acalls_of tokTB Try.func17 rfl rfl (Nat.le_of_ble_eq_true rfl) ?_
  apply sr tokTB (by kernel_rfl)
  · intro RR hRR
    refine w_boxc (HV.eq (by constructor)) (by exact trivial) ?_
    refine w_boxc (HV.eq (by constructor)) (by exact trivial) ?_
    refine w_assign (by constructor) ?_
    exact hRR
  refine snd_seq ?_
  apply sr tokTB (by kernel_rfl)
  · intro RR hRR
    refine w_fac rfl und29 rfl kn2 nz2 (by decide) rfl (by constructor) ?_
    refine w_ldc rfl kn2 (by constructor) (by exact sz2.symm) (by exact ag2.symm) ?_
    refine w_fac rfl und29 rfl kn2 nz2 (by decide) rfl (by constructor) ?_
    refine w_ldc rfl kn2 (by constructor) (by exact sz2.symm) (by exact ag2.symm) ?_
    refine w_neq rfl rfl ?_
    exact hRR
  refine snd_cond_false (by exact congrArg AV.bool (decide_eq_false (fun h => h rfl))) ?_
  refine snd_skip ?_
  refine snd_seq ?_
  apply sr tokTB (by kernel_rfl)
  · intro RR hRR
    refine w_fac rfl und29 rfl kn2 nz2 (by decide) rfl (by constructor) ?_
    refine w_ldc rfl kn2 (by constructor) (by exact sz2.symm) (by exact ag2.symm) ?_
    refine w_fac rfl und29 rfl kn2 nz2 (by decide) rfl (by constructor) ?_
    refine w_ldc rfl kn2 (by constructor) (by exact sz2.symm) (by exact ag2.symm) ?_
    refine w_neq rfl rfl ?_
    exact hRR
  refine snd_cond_false (by exact congrArg AV.bool (decide_eq_false (fun h => h rfl))) ?_
  refine snd_skip ?_
  refine snd_seq ?_
  apply sr tokTB (by kernel_rfl)
  · intro RR hRR
    refine w_fac rfl und29 rfl kn2 nz2 (by decide) rfl (by constructor) ?_
    refine w_ldc rfl kn2 (by constructor) (by exact sz2.symm) (by exact ag2.symm) ?_
    refine w_fac rfl und29 rfl kn2 nz2 (by decide) rfl (by constructor) ?_
    refine w_ldc rfl kn2 (by constructor) (by exact sz2.symm) (by exact ag2.symm) ?_
    refine w_neq rfl rfl ?_
    exact hRR
  refine snd_cond_false (by exact congrArg AV.bool (decide_eq_false (fun h => h rfl))) ?_
  refine snd_skip ?_
  refine snd_seq ?_
  apply sr tokTB (by kernel_rfl)
  · intro RR hRR
    refine w_fac rfl und29 rfl kn2 nz2 (by decide) rfl (by constructor) ?_
    refine w_ldc rfl kn2 (by constructor) (by exact sz2.symm) (by exact ag2.symm) ?_
    refine w_fac rfl und29 rfl kn2 nz2 (by decide) rfl (by constructor) ?_
    refine w_ldc rfl kn2 (by constructor) (by exact sz2.symm) (by exact ag2.symm) ?_
    refine w_neq rfl rfl ?_
    exact hRR
  refine snd_cond_false (by exact congrArg AV.bool (decide_eq_false (fun h => h rfl))) ?_
  refine snd_skip ?_
  refine snd_seq ?_
  apply sr tokTB (by kernel_rfl)
  · intro RR hRR
    refine w_fac rfl und29 rfl kn27 nz27 (by decide) rfl (by constructor) ?_
    refine w_ldc rfl kn27 (by constructor) (by exact sz27.symm) (by exact ag27.symm) ?_
    refine w_fac rfl und29 rfl kn27 nz27 (by decide) rfl (by constructor) ?_
    refine w_ldc rfl kn27 (by constructor) (by exact sz27.symm) (by exact ag27.symm) ?_
    refine y_call rfl (ec (ec exn)) (c_eqInt64S hN h) ?_
    refine w_not rfl ?_
    exact hRR
  refine snd_cond_false (by exact rfl) ?_
  refine snd_skip ?_
  apply sr tokTB (by kernel_rfl)
  · intro RR hRR
    refine w_assign (by constructor) ?_
    exact hRR
  refine snd_ret ?_
  exact rt (T := TB) (fun V => rfl)
theorem c_heldTensor {p n i o : Int} {N : Nat} {F : Nat → Int} {k : Int} (hN : N ≤ 1000) (hk : 0 ≤ k ∧ k ≤ 1000000) (h : ∀ j, j < N → F j = k + (j : Nat)) : ACalls Try.prog TB 19 [tnA p n i o (rowA N F), .int .i64 k] (.int .i64 (k + N)) [] := by
  refine acalls_of tokTB Try.func19 rfl rfl (Nat.le_of_ble_eq_true rfl) ?_
  apply sr tokTB (by kernel_rfl)
  · intro RR hRR
    refine w_boxc (HV.eq (by constructor)) (by exact trivial) ?_
    refine w_assign (by constructor) ?_
    exact hRR
  apply sr tokTB (by kernel_rfl)
  · intro RR hRR
    refine w_fac rfl und29 rfl kn27 nz27 (by decide) rfl (by constructor) ?_
    refine w_ldc rfl kn27 (by constructor) (by exact sz27.symm) (by exact ag27.symm) ?_
    refine w_move (by constructor) ?_
    refine y_call rfl (ec (ec exn)) (c_heldInt64S hN hk h) ?_
    refine w_assign (by constructor) ?_
    exact hRR
  refine snd_seq ?_
  apply sr tokTB (by kernel_rfl)
  · intro RR hRR
    refine w_move (by constructor) ?_
    refine w_lss rfl rfl ?_
    exact hRR
  refine snd_cond_false (by exact congrArg AV.bool (decide_eq_false (by omega))) ?_
  refine snd_skip ?_
  apply sr tokTB (by kernel_rfl)
  · intro RR hRR
    refine w_move (by constructor) ?_
    refine w_assign (by constructor) ?_
    exact hRR
  refine snd_ret ?_
  exact rt (T := TB) (fun V => rfl)
theorem c_markTensor {p n i o : Int} {N : Nat} {F : Nat → Int} {k : Int} (hN : N ≤ 1000) (hk : 0 ≤ k ∧ k ≤ 1000000) : MCalls Try.prog TB 18 [0] [tnA p n i o (.own 0 0 N 2), .int .i64 k] [(0, .one (Z64 N) (C64 N F))] (.int .i64 (k + N)) [(0, .one (Z64 N) (C64 N (fun j => k + (j : Nat))))] := by
  refine mcalls_of tokTB Try.func18 rfl rfl (Nat.le_of_ble_eq_true rfl) ⟨rfl, trivial⟩ ?_
  apply srp tokTB (by kernel_rfl)
  · intro RR hRR
    refine w_boxc (HV.eq (by constructor)) (by exact trivial) ?_
    refine w_assign (by constructor) ?_
    exact hRR
  apply srDp tokTB (ops1 := [_, _, _]) (ops2 := [_]) (by kernel_rfl) rfl rfl
  · intro RR hRR
    refine w_fac rfl und29 rfl kn27 nz27 (by decide) rfl (by constructor) ?_
    refine w_ldc rfl kn27 (by constructor) (by exact sz27.symm) (by exact ag27.symm) ?_
    refine w_move (by constructor) ?_
    exact hRR
  · exact mut_mid1 tokTB (c_markInt64S (m := N) (f := F) (k := k) hN hk) (args := [.tmp 7]) (k := 0) (i := 0) rfl rfl ⟨trivial, trivial⟩ trivial (fun _ => trivial) (fun _ => trivial) rfl
  · intro RR hRR
    refine w_assign (by constructor) ?_
    exact hRR
  apply srp tokTB (by kernel_rfl)
  · intro RR hRR
    refine w_move (by constructor) ?_
    refine w_assign (by constructor) ?_
    exact hRR
  refine snp_ret ?_
  exact rtp (ρ := ρ0) ⟨⟨m_int rfl, trivial⟩, ⟨⟨rfl, ⟨rfl, fun _ => trivial⟩, mt_vec (fun z hz => rfl)⟩, trivial⟩, ⟨⟨fun _ => ⟨rfl, rfl⟩, trivial⟩, trivial⟩⟩ ⟨⟨fun _ => rfl, rfl⟩, trivial⟩
theorem c_markNilTensor {p n i o k : Int} : ACalls Try.prog TB 18 [tnA p n i o (.nilsl), .int .i64 k] (.int .i64 k) [] := by
  refine acalls_of tokTB Try.func18 rfl rfl (Nat.le_of_ble_eq_true rfl) ?_
  apply sr tokTB (by kernel_rfl)
  · intro RR hRR
    refine w_boxc (HV.eq (by constructor)) (by exact trivial) ?_
    refine w_assign (by constructor) ?_
    exact hRR
  apply sr tokTB (by kernel_rfl)
  · intro RR hRR
    refine w_fac rfl und29 rfl kn27 nz27 (by decide) rfl (by constructor) ?_
    refine w_ldc rfl kn27 (by constructor) (by exact sz27.symm) (by exact ag27.symm) ?_
    refine w_move (by constructor) ?_
    refine y_call rfl (ec (ec exn)) (c_markNilInt64S (k := k)) ?_
    refine w_assign (by constructor) ?_
    exact hRR
  apply sr tokTB (by kernel_rfl)
  · intro RR hRR
    refine w_move (by constructor) ?_
    refine w_assign (by constructor) ?_
    exact hRR
  refine snd_ret ?_
  exact rt (T := TB) (fun V => rfl)
theorem lProductTensor_ok {p : Int} {n : Nat} {T : Nat → Nat → Nat → Int} {fo : Nat → Int} (hv0 : VN p n T fo) : ACalls Try.prog TB 4 [algA p (n : Int) T fo] (.bool true) [] := by
  refine acalls_of tokTB Try.func4 rfl rfl (Nat.le_of_ble_eq_true rfl) ?_
  apply sr tokTB (by kernel_rfl)
  · intro RR hRR
    refine w_boxc (HV.eq (by constructor)) (by exact trivial) ?_
    refine w_assign (by constructor) ?_
    exact hRR
  apply sr tokTB (by kernel_rfl)
  · intro RR hRR
    refine w_ldc rfl kn26 (by constructor) (by exact sz26.symm) (by exact ag26.symm) ?_
    refine y_call rfl (ec exn) (c_toAlgebra) ?_
    refine w_call rfl (ec exn) (c_sProductTensor_ok hv0) (.inl ⟨nr_pair (nr_tn trivial) trivial, ⟨fun _ => trivial, trivial⟩⟩) rfl (by constructor) rfl ?_
    refine w_move (by constructor) ?_
    refine w_ext rfl (by decide) (by constructor) ?_
    refine w_ext rfl (by decide) (by constructor) ?_
    refine w_alloc kn29 rfl zr29 ?_
    refine w_stw rfl (by constructor) kn29 rfl (by exact trivial) (sx) (by exact sz29.symm) ?_
    refine w_assign (by constructor) ?_
    exact hRR
  apply sr tokTB (by kernel_rfl)
  · intro RR hRR
    refine w_ldc rfl kn26 (by constructor) (by exact sz26.symm) (by exact ag26.symm) ?_
    refine y_call rfl (ec exn) (c_toAlgebra) ?_
    refine w_call rfl (ec exn) (c_iProductTensor_ok hv0) (.inl ⟨nr_pair (nr_tn trivial) trivial, ⟨fun _ => trivial, trivial⟩⟩) rfl (by constructor) rfl ?_
    refine w_move (by constructor) ?_
    refine w_ext rfl (by decide) (by constructor) ?_
    refine w_ext rfl (by decide) (by constructor) ?_
    refine w_alloc kn29 rfl zr29 ?_
    refine w_stw rfl (by constructor) kn29 rfl (by exact trivial) (sx) (by exact sz29.symm) ?_
    refine w_assign (by constructor) ?_
    exact hRR
  refine snd_seq ?_
  apply srG (env' := (31, .bool (!true || decide ((0 : Int) ≠ 0))) :: (30, .any) :: (29, .any) :: (28, .any) :: (27, _) :: (26, _) :: (25, _) :: (24, _) :: (23, _) :: _) tokTB (by kernel_rfl)
  · intro RR hRR
    refine w_ldp rfl kn29 rfl (by constructor) (by exact sz29.symm) (by exact ag29.symm) ?_
    refine w_ldp rfl kn29 rfl (by constructor) (by exact sz29.symm) (by exact ag29.symm) ?_
    refine y_call rfl rfl ((c_eqTensor (N := n ^ (2 + 1)) (F := (prQ n T)) (G := (cutF (prQ n T) (n * n * n))) (by have := (pow216 (n := n) (i := 3) (by have := hv0.n6; have := hv0.n0; omega) (by omega)).2; have e : n ^ (2 + 1) = n ^ 3 := rfl; omega) (fun j hj => (if_pos (by rw [show n * n * n = n ^ (2 + 1) by rw [Nat.pow_succ, Nat.pow_succ, Nat.pow_one]]; exact hj) : cutF (prQ n T) (n * n * n) j = prQ n T j).symm)).mt ⟨mt_tn0 rfl, mt_tn0 rfl, trivial⟩) ?_
    refine w_not rfl ?_
    refine w_move (by constructor) ?_
    refine w_g rfl rfl (fun hg4 => ?_) (fun hg4 => ?_)
    · skip
      refine w_move (by constructor) ?_
      refine w_g_on rfl rfl hg4 ?_
      refine w_move (by constructor) ?_
      refine w_g_on rfl rfl hg4 ?_
      refine w_neq rfl rfl ?_
      refine w_pick_0 rfl hg4 (by constructor) ?_
      try simp only [Int.toNat_natCast] at hg4
      exact hRR _ (EL.cons (.inr (by first | rfl | (simp only [hg4, els]; done) | (simp only [hg4, els]; rfl) | simp [hg4])) (EL.cons (.inl rfl) (EL.cons (.inl rfl) (EL.cons (.inl rfl) (EL.cons (.inr rfl) (EL.cons (.inr rfl) (EL.cons (.inr rfl) (EL.cons (.inr rfl) (EL.cons (.inr rfl) (EL.refl _))))))))))
    · have hg4 := eq_true_of_ne_false hg4
      refine w_g_off rfl rfl (by rw [hg4]; decide) ?_
      refine w_g_off rfl rfl (by rw [hg4]; decide) ?_
      refine w_pick_1 rfl hg4 (by constructor) ?_
      try simp only [Int.toNat_natCast] at hg4
      exact hRR _ (EL.cons (.inr (by first | rfl | (simp only [hg4, els]; done) | (simp only [hg4, els]; rfl) | simp [hg4])) (EL.cons (.inl rfl) (EL.cons (.inl rfl) (EL.cons (.inl rfl) (EL.cons (.inr rfl) (EL.cons (.inr rfl) (EL.cons (.inr rfl) (EL.cons (.inr rfl) (EL.cons (.inr rfl) (EL.refl _))))))))))
  refine snd_cond _ rfl (fun hc31 => ?_) (fun hc31 => ?_)
  · skip
    exact absurd hc31 (by simp)
  · skip
    refine snd_skip ?_
    apply sr tokTB (by kernel_rfl)
    · intro RR hRR
      refine w_assign (by constructor) ?_
      exact hRR
    refine snd_emb (ρ := (fun k i => bif Nat.beq k 0 then (21000, i) else (k, i))) (env2 := [(1, .cptr (algA p (n : Int) T fo)), (3, .cptr (tnA p (n : Int) 2 1 (rowA (n ^ (2 + 1)) (cutF (prQ n T) (n * n * n))))), (4, .int .i64 0), (5, .cptr (tnA p (n : Int) 2 1 (.own 0 0 (n ^ (2 + 1)) 2))), (7, .int .i64 1)]) (ol2 := [(0, .one (Z64 (n ^ (2 + 1))) (C64 (n ^ (2 + 1)) (prQ n T)))]) ?_ ?_
    · exact ⟨⟨m_calg, ⟨⟨ne_fst rfl, trivial⟩, mt_tng rfl rfl rfl rfl (mt_fz ⟨ne_fst rfl, trivial⟩ rfl (fun _ _ => rfl))⟩, m_int rfl, ⟨⟨ne_fst rfl, trivial⟩, mt_tng rfl rfl rfl rfl ⟨rfl, rfl, rfl, rfl⟩⟩, m_int rfl, trivial⟩, ⟨⟨rfl, ⟨rfl, fun _ => trivial⟩, mt_vec (fun _ _ => rfl)⟩, trivial⟩, ⟨⟨fun _ => ⟨rfl, rfl⟩, trivial⟩, trivial⟩⟩
    apply srD tokTB (ops1 := [_, _]) (ops2 := [_]) (by kernel_rfl) rfl rfl
    · intro RR hRR
      refine w_ldc rfl kn29 (by constructor) (by exact sz29.symm) (by exact ag29.symm) ?_
      refine w_move (by constructor) ?_
      exact hRR
    · exact mut_tn tokTB (c_markTensor (N := n ^ (2 + 1)) (F := (prQ n T)) (k := 1) (by have := (pow216 (n := n) (i := 3) (by have := hv0.n6; have := hv0.n0; omega) (by omega)).2; have e : n ^ (2 + 1) = n ^ 3 := rfl; omega) (by omega)) rfl ⟨trivial, trivial⟩ trivial (ol := [])
    · intro RR hRR
      refine w_assign (by constructor) ?_
      exact hRR
    apply sr tokTB (by kernel_rfl)
    · intro RR hRR
      refine w_assign (by constructor) ?_
      exact hRR
    apply sr tokTB (by kernel_rfl)
    · intro RR hRR
      refine w_ldc rfl kn29 (by constructor) (by exact sz29.symm) (by exact ag29.symm) ?_
      refine w_move (by constructor) ?_
      refine y_call rfl rfl ((c_heldTensor (N := n ^ (2 + 1)) (F := fun j => 1 + (j : Nat)) (k := 1) (by have := (pow216 (n := n) (i := 3) (by have := hv0.n6; have := hv0.n0; omega) (by omega)).2; have e : n ^ (2 + 1) = n ^ 3 := rfl; omega) (by omega) (fun j _ => rfl)).mt ⟨mt_tn0 rfl, mt_int0, trivial⟩) ?_
      refine w_assign (by constructor) ?_
      exact hRR
    refine snd_seq ?_
    apply sr tokTB (by kernel_rfl)
    · intro RR hRR
      refine w_move (by constructor) ?_
      refine w_lss rfl rfl ?_
      exact hRR
    refine snd_cond_false (by exact congrArg AV.bool (decide_eq_false (by omega))) ?_
    refine snd_skip ?_
    refine snd_seq ?_
    apply sr tokTB (by kernel_rfl)
    · intro RR hRR
      refine w_move (by constructor) ?_
      refine w_move (by constructor) ?_
      refine w_neq rfl rfl ?_
      exact hRR
    refine snd_cond_false (by exact congrArg AV.bool (decide_eq_false (by simp))) ?_
    refine snd_skip ?_
    apply sr tokTB (by kernel_rfl)
    · intro RR hRR
      refine w_ldc rfl kn26 (by constructor) (by exact sz26.symm) (by exact ag26.symm) ?_
      refine y_call rfl (ec exn) (c_toAlgebra) ?_
      refine w_call rfl (ec exn) (c_iProductTensor_ok hv0) (.inl ⟨nr_pair (nr_tn trivial) trivial, ⟨fun _ => trivial, trivial⟩⟩) rfl (by constructor) rfl ?_
      refine w_move (by constructor) ?_
      refine w_ext rfl (by decide) (by constructor) ?_
      refine w_ext rfl (by decide) (by constructor) ?_
      refine w_alloc kn29 rfl zr29 ?_
      refine w_stw rfl (by constructor) kn29 rfl (by exact trivial) (sx) (by exact sz29.symm) ?_
      refine w_assign (by constructor) ?_
      exact hRR
    refine snd_seq ?_
    apply srG (env' := (57, .bool (!true || decide ((0 : Int) ≠ 0))) :: (56, .any) :: (55, .any) :: (54, .any) :: (53, _) :: (52, _) :: (51, _) :: (50, _) :: (49, _) :: _) tokTB (by kernel_rfl)
    · intro RR hRR
      refine w_ldp rfl kn29 rfl (by constructor) (by exact sz29.symm) (by exact ag29.symm) ?_
      refine w_ldc rfl kn29 (by constructor) (by exact sz29.symm) (by exact ag29.symm) ?_
      refine y_call rfl rfl ((c_eqTensor (N := n ^ (2 + 1)) (F := (prQ n T)) (G := (cutF (prQ n T) (n * n * n))) (by have := (pow216 (n := n) (i := 3) (by have := hv0.n6; have := hv0.n0; omega) (by omega)).2; have e : n ^ (2 + 1) = n ^ 3 := rfl; omega) (fun j hj => (if_pos (by rw [show n * n * n = n ^ (2 + 1) by rw [Nat.pow_succ, Nat.pow_succ, Nat.pow_one]]; exact hj) : cutF (prQ n T) (n * n * n) j = prQ n T j).symm)).mt ⟨mt_tn0 rfl, mt_expc (closed_tn (fun _ => trivial)) (by simp), trivial⟩) ?_
      refine w_not rfl ?_
      refine w_move (by constructor) ?_
      refine w_g rfl rfl (fun hg4 => ?_) (fun hg4 => ?_)
      · skip
        refine w_move (by constructor) ?_
        refine w_g_on rfl rfl hg4 ?_
        refine w_move (by constructor) ?_
        refine w_g_on rfl rfl hg4 ?_
        refine w_neq rfl rfl ?_
        refine w_pick_0 rfl hg4 (by constructor) ?_
        try simp only [Int.toNat_natCast] at hg4
        exact hRR _ (EL.cons (.inr (by first | rfl | (simp only [hg4, els]; done) | (simp only [hg4, els]; rfl) | simp [hg4])) (EL.cons (.inl rfl) (EL.cons (.inl rfl) (EL.cons (.inl rfl) (EL.cons (.inr rfl) (EL.cons (.inr rfl) (EL.cons (.inr rfl) (EL.cons (.inr rfl) (EL.cons (.inr rfl) (EL.refl _))))))))))
      · have hg4 := eq_true_of_ne_false hg4
        refine w_g_off rfl rfl (by rw [hg4]; decide) ?_
        refine w_g_off rfl rfl (by rw [hg4]; decide) ?_
        refine w_pick_1 rfl hg4 (by constructor) ?_
        try simp only [Int.toNat_natCast] at hg4
        exact hRR _ (EL.cons (.inr (by first | rfl | (simp only [hg4, els]; done) | (simp only [hg4, els]; rfl) | simp [hg4])) (EL.cons (.inl rfl) (EL.cons (.inl rfl) (EL.cons (.inl rfl) (EL.cons (.inr rfl) (EL.cons (.inr rfl) (EL.cons (.inr rfl) (EL.cons (.inr rfl) (EL.cons (.inr rfl) (EL.refl _))))))))))
    refine snd_cond _ rfl (fun hc57 => ?_) (fun hc57 => ?_)
    · skip
      exact absurd hc57 (by simp)
    · skip
      refine snd_skip ?_
      apply sr tokTB (by kernel_rfl)
      · intro RR hRR
        refine w_assign (by constructor) ?_
        exact hRR
      apply sr tokTB (by kernel_rfl)
      · intro RR hRR
        refine w_ldc rfl kn29 (by constructor) (by exact sz29.symm) (by exact ag29.symm) ?_
        refine w_move (by constructor) ?_
        refine y_call rfl rfl ((c_heldTensor (N := n ^ (2 + 1)) (F := fun j => 1 + (j : Nat)) (k := 1) (by have := (pow216 (n := n) (i := 3) (by have := hv0.n6; have := hv0.n0; omega) (by omega)).2; have e : n ^ (2 + 1) = n ^ 3 := rfl; omega) (by omega) (fun j _ => rfl)).mt ⟨mt_tn0 rfl, mt_int0, trivial⟩) ?_
        refine w_assign (by constructor) ?_
        exact hRR
      refine snd_seq ?_
      apply sr tokTB (by kernel_rfl)
      · intro RR hRR
        refine w_move (by constructor) ?_
        refine w_lss rfl rfl ?_
        exact hRR
      refine snd_cond_false (by exact congrArg AV.bool (decide_eq_false (by omega))) ?_
      refine snd_skip ?_
      refine snd_seq ?_
      apply sr tokTB (by kernel_rfl)
      · intro RR hRR
        refine w_move (by constructor) ?_
        refine w_move (by constructor) ?_
        refine w_neq rfl rfl ?_
        exact hRR
      refine snd_cond_false (by exact congrArg AV.bool (decide_eq_false (by simp))) ?_
      refine snd_skip ?_
      apply sr tokTB (by kernel_rfl)
      · intro RR hRR
        refine w_assign (by constructor) ?_
        exact hRR
      refine snd_ret ?_
      exact rt (T := TB) (fun V => rfl)
theorem lProductTensor_no {p n : Int} {T : Nat → Nat → Nat → Int} {fo : Nat → Int} (hT : RB T) (hf : RV fo) (hz : ¬ VZ p n T fo 0 (fun _ _ => 0)) : ACalls Try.prog TB 4 [algA p n T fo] (.bool true) [] := by
  refine acalls_of tokTB Try.func4 rfl rfl (Nat.le_of_ble_eq_true rfl) ?_
  apply sr tokTB (by kernel_rfl)
  · intro RR hRR
    refine w_boxc (HV.eq (by constructor)) (by exact trivial) ?_
    refine w_assign (by constructor) ?_
    exact hRR
  apply sr tokTB (by kernel_rfl)
  · intro RR hRR
    refine w_ldc rfl kn26 (by constructor) (by exact sz26.symm) (by exact ag26.symm) ?_
    refine y_call rfl (ec exn) (c_toAlgebra) ?_
    refine w_call0 rfl (ec exn) (c_sProductTensor_no hT hf hz) (by exact nr_pair (nr_tn trivial) trivial) (fun _ => by exact shift_pair shift_tn rfl) ?_
    refine w_move (by constructor) ?_
    refine w_ext rfl (by decide) (by constructor) ?_
    refine w_ext rfl (by decide) (by constructor) ?_
    refine w_alloc kn29 rfl zr29 ?_
    refine w_stw rfl (by constructor) kn29 rfl (by exact trivial) (sx) (by exact sz29.symm) ?_
    refine w_assign (by constructor) ?_
    exact hRR
  apply sr tokTB (by kernel_rfl)
  · intro RR hRR
    refine w_ldc rfl kn26 (by constructor) (by exact sz26.symm) (by exact ag26.symm) ?_
    refine y_call rfl (ec exn) (c_toAlgebra) ?_
    refine w_call0 rfl (ec exn) (c_iProductTensor_no hT hf hz) (by exact nr_pair (nr_tn trivial) trivial) (fun _ => by exact shift_pair shift_tn rfl) ?_
    refine w_move (by constructor) ?_
    refine w_ext rfl (by decide) (by constructor) ?_
    refine w_ext rfl (by decide) (by constructor) ?_
    refine w_alloc kn29 rfl zr29 ?_
    refine w_stw rfl (by constructor) kn29 rfl (by exact trivial) (sx) (by exact sz29.symm) ?_
    refine w_assign (by constructor) ?_
    exact hRR
  refine snd_seq ?_
  apply srG (env' := (31, .bool (!true || decide ((1 : Int) ≠ 1))) :: (30, .any) :: (29, .any) :: (28, .any) :: (27, _) :: (26, _) :: (25, _) :: (24, _) :: (23, _) :: _) tokTB (by kernel_rfl)
  · intro RR hRR
    refine w_ldp rfl kn29 rfl (by constructor) (by exact sz29.symm) (by exact ag29.symm) ?_
    refine w_ldp rfl kn29 rfl (by constructor) (by exact sz29.symm) (by exact ag29.symm) ?_
    refine y_call rfl rfl ((c_eqTensor (N := 0) (F := fun _ => 0) (G := fun _ => 0) (by omega) (fun j h => absurd h (by omega))).mt ⟨mt_tnn, mt_tnn, trivial⟩) ?_
    refine w_not rfl ?_
    refine w_move (by constructor) ?_
    refine w_g rfl rfl (fun hg4 => ?_) (fun hg4 => ?_)
    · skip
      refine w_move (by constructor) ?_
      refine w_g_on rfl rfl hg4 ?_
      refine w_move (by constructor) ?_
      refine w_g_on rfl rfl hg4 ?_
      refine w_neq rfl rfl ?_
      refine w_pick_0 rfl hg4 (by constructor) ?_
      try simp only [Int.toNat_natCast] at hg4
      exact hRR _ (EL.cons (.inr (by first | rfl | (simp only [hg4, els]; done) | (simp only [hg4, els]; rfl) | simp [hg4])) (EL.cons (.inl rfl) (EL.cons (.inl rfl) (EL.cons (.inl rfl) (EL.cons (.inr rfl) (EL.cons (.inr rfl) (EL.cons (.inr rfl) (EL.cons (.inr rfl) (EL.cons (.inr rfl) (EL.refl _))))))))))
    · have hg4 := eq_true_of_ne_false hg4
      refine w_g_off rfl rfl (by rw [hg4]; decide) ?_
      refine w_g_off rfl rfl (by rw [hg4]; decide) ?_
      refine w_pick_1 rfl hg4 (by constructor) ?_
      try simp only [Int.toNat_natCast] at hg4
      exact hRR _ (EL.cons (.inr (by first | rfl | (simp only [hg4, els]; done) | (simp only [hg4, els]; rfl) | simp [hg4])) (EL.cons (.inl rfl) (EL.cons (.inl rfl) (EL.cons (.inl rfl) (EL.cons (.inr rfl) (EL.cons (.inr rfl) (EL.cons (.inr rfl) (EL.cons (.inr rfl) (EL.cons (.inr rfl) (EL.refl _))))))))))
  refine snd_cond _ rfl (fun hc31 => ?_) (fun hc31 => ?_)
  · skip
    exact absurd hc31 (by simp)
  · skip
    refine snd_skip ?_
    apply sr tokTB (by kernel_rfl)
    · intro RR hRR
      refine w_assign (by constructor) ?_
      exact hRR
    apply sr tokTB (by kernel_rfl)
    · intro RR hRR
      refine w_ldp rfl kn29 rfl (by constructor) (by exact sz29.symm) (by exact ag29.symm) ?_
      refine w_move (by constructor) ?_
      refine y_call rfl rfl ((c_markNilTensor (p := 0) (n := 0) (i := 0) (o := 0) (k := 1)).mt ⟨mt_tnl, mt_int0, trivial⟩) ?_
      refine w_assign (by constructor) ?_
      exact hRR
    apply sr tokTB (by kernel_rfl)
    · intro RR hRR
      refine w_assign (by constructor) ?_
      exact hRR
    apply sr tokTB (by kernel_rfl)
    · intro RR hRR
      refine w_ldp rfl kn29 rfl (by constructor) (by exact sz29.symm) (by exact ag29.symm) ?_
      refine w_move (by constructor) ?_
      refine y_call rfl rfl ((c_heldTensor (N := 0) (F := fun _ => 0) (k := 1) (by omega) (by omega) (fun j h => absurd h (by omega))).mt ⟨mt_tnn, mt_int0, trivial⟩) ?_
      refine w_assign (by constructor) ?_
      exact hRR
    refine snd_seq ?_
    apply sr tokTB (by kernel_rfl)
    · intro RR hRR
      refine w_move (by constructor) ?_
      refine w_lss rfl rfl ?_
      exact hRR
    refine snd_cond_false (by exact congrArg AV.bool (decide_eq_false (by omega))) ?_
    refine snd_skip ?_
    refine snd_seq ?_
    apply sr tokTB (by kernel_rfl)
    · intro RR hRR
      refine w_move (by constructor) ?_
      refine w_move (by constructor) ?_
      refine w_neq rfl rfl ?_
      exact hRR
    refine snd_cond_false (by exact congrArg AV.bool (decide_eq_false (by simp))) ?_
    refine snd_skip ?_
    apply sr tokTB (by kernel_rfl)
    · intro RR hRR
      refine w_ldc rfl kn26 (by constructor) (by exact sz26.symm) (by exact ag26.symm) ?_
      refine y_call rfl (ec exn) (c_toAlgebra) ?_
      refine w_call0 rfl (ec exn) (c_iProductTensor_no hT hf hz) (by exact nr_pair (nr_tn trivial) trivial) (fun _ => by exact shift_pair shift_tn rfl) ?_
      refine w_move (by constructor) ?_
      refine w_ext rfl (by decide) (by constructor) ?_
      refine w_ext rfl (by decide) (by constructor) ?_
      refine w_alloc kn29 rfl zr29 ?_
      refine w_stw rfl (by constructor) kn29 rfl (by exact trivial) (sx) (by exact sz29.symm) ?_
      refine w_assign (by constructor) ?_
      exact hRR
    refine snd_seq ?_
    apply srG (env' := (57, .bool (!true || decide ((1 : Int) ≠ 1))) :: (56, .any) :: (55, .any) :: (54, .any) :: (53, _) :: (52, _) :: (51, _) :: (50, _) :: (49, _) :: _) tokTB (by kernel_rfl)
    · intro RR hRR
      refine w_ldp rfl kn29 rfl (by constructor) (by exact sz29.symm) (by exact ag29.symm) ?_
      refine w_ldp rfl kn29 rfl (by constructor) (by exact sz29.symm) (by exact ag29.symm) ?_
      refine y_call rfl rfl ((c_eqTensor (N := 0) (F := fun _ => 0) (G := fun _ => 0) (by omega) (fun j h => absurd h (by omega))).mt ⟨mt_tnn, mt_tnn, trivial⟩) ?_
      refine w_not rfl ?_
      refine w_move (by constructor) ?_
      refine w_g rfl rfl (fun hg4 => ?_) (fun hg4 => ?_)
      · skip
        refine w_move (by constructor) ?_
        refine w_g_on rfl rfl hg4 ?_
        refine w_move (by constructor) ?_
        refine w_g_on rfl rfl hg4 ?_
        refine w_neq rfl rfl ?_
        refine w_pick_0 rfl hg4 (by constructor) ?_
        try simp only [Int.toNat_natCast] at hg4
        exact hRR _ (EL.cons (.inr (by first | rfl | (simp only [hg4, els]; done) | (simp only [hg4, els]; rfl) | simp [hg4])) (EL.cons (.inl rfl) (EL.cons (.inl rfl) (EL.cons (.inl rfl) (EL.cons (.inr rfl) (EL.cons (.inr rfl) (EL.cons (.inr rfl) (EL.cons (.inr rfl) (EL.cons (.inr rfl) (EL.refl _))))))))))
      · have hg4 := eq_true_of_ne_false hg4
        refine w_g_off rfl rfl (by rw [hg4]; decide) ?_
        refine w_g_off rfl rfl (by rw [hg4]; decide) ?_
        refine w_pick_1 rfl hg4 (by constructor) ?_
        try simp only [Int.toNat_natCast] at hg4
        exact hRR _ (EL.cons (.inr (by first | rfl | (simp only [hg4, els]; done) | (simp only [hg4, els]; rfl) | simp [hg4])) (EL.cons (.inl rfl) (EL.cons (.inl rfl) (EL.cons (.inl rfl) (EL.cons (.inr rfl) (EL.cons (.inr rfl) (EL.cons (.inr rfl) (EL.cons (.inr rfl) (EL.cons (.inr rfl) (EL.refl _))))))))))
    refine snd_cond _ rfl (fun hc57 => ?_) (fun hc57 => ?_)
    · skip
      exact absurd hc57 (by simp)
    · skip
      refine snd_skip ?_
      apply sr tokTB (by kernel_rfl)
      · intro RR hRR
        refine w_assign (by constructor) ?_
        exact hRR
      apply sr tokTB (by kernel_rfl)
      · intro RR hRR
        refine w_ldp rfl kn29 rfl (by constructor) (by exact sz29.symm) (by exact ag29.symm) ?_
        refine w_move (by constructor) ?_
        refine y_call rfl rfl ((c_heldTensor (N := 0) (F := fun _ => 0) (k := 1) (by omega) (by omega) (fun j h => absurd h (by omega))).mt ⟨mt_tnn, mt_int0, trivial⟩) ?_
        refine w_assign (by constructor) ?_
        exact hRR
      refine snd_seq ?_
      apply sr tokTB (by kernel_rfl)
      · intro RR hRR
        refine w_move (by constructor) ?_
        refine w_lss rfl rfl ?_
        exact hRR
      refine snd_cond_false (by exact congrArg AV.bool (decide_eq_false (by omega))) ?_
      refine snd_skip ?_
      refine snd_seq ?_
      apply sr tokTB (by kernel_rfl)
      · intro RR hRR
        refine w_move (by constructor) ?_
        refine w_move (by constructor) ?_
        refine w_neq rfl rfl ?_
        exact hRR
      refine snd_cond_false (by exact congrArg AV.bool (decide_eq_false (by simp))) ?_
      refine snd_skip ?_
      apply sr tokTB (by kernel_rfl)
      · intro RR hRR
        refine w_assign (by constructor) ?_
        exact hRR
      refine snd_ret ?_
      exact rt (T := TB) (fun V => rfl)
theorem law_ProductTensor {p n : Int} {T : Nat → Nat → Nat → Int} {fo : Nat → Int} (hT : RB T) (hf : RV fo) : ACalls Try.prog TB 4 [algA p n T fo] (.bool true) [] := by
  by_cases hz : VZ p n T fo 0 (fun _ _ => 0)
  · have h1 := VZ_0.1 hz
    obtain ⟨hv0, hn⟩ := VN_of hT hf h1
    obtain ⟨m, rfl⟩ : ∃ m : Nat, n = (m : Int) := ⟨n.toNat, hn⟩
    have hv0 : VN p m T fo := hv0
    have hp0 : 0 < p := by have := hv0.p0; omega
    exact lProductTensor_ok hv0
  · exact lProductTensor_no hT hf hz
end Go.Am

