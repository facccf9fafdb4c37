/- Part 5 of what the law stands on: abstract values, their walk, contracts of functions. My own work. Conditions: none. -/
import Derived.Test.YtkindgdblmgbjaaPart4
set_option linter.unusedVariables false
set_option linter.unusedSimpArgs false
set_option maxRecDepth 4000
namespace Go.Am
attribute [local irreducible] retQ retQp
open Go.Proofs
theorem c_valid1_ok {p : Int} {n : Nat} {T : Nat → Nat → Nat → Int} {fo : Nat → Int} (hv0 : VN p n T fo) {v : Nat → Int} (hv : VV p n v) : ACalls Try.prog TB 17 [algA p (n : Int) T fo, vlA 1 (vs1 v)] (.int .i64 0) [] := by
  have hp : p ≤ 256 := by have := hv0.p0; omega
  have h := c_valid hv0.rb hv0.rv (M := 1) (by omega) (vs1_B8 (hv.B8 hp)) (p := p) (n := (n : Int)) (T := T) (fo := fo)
  rwa [cZ_ok (VZ_1.2 ⟨hv0.va, hv.sm⟩)] at h
theorem c_valid1_no {p n : Int} {T : Nat → Nat → Nat → Int} {fo : Nat → Int} (hT : RB T) (hf : RV fo) {v : Nat → Int} (hv : B8 v) (hz : ¬ VZ p n T fo 1 (vs1 v)) : ACalls Try.prog TB 17 [algA p n T fo, vlA 1 (vs1 v)] (.int .i64 1) [] := by
  have h := c_valid hT hf (M := 1) (by omega) (vs1_B8 hv) (p := p) (n := n) (T := T) (fo := fo)
  rwa [cZ_no hz] at h
theorem c_l01Code1_ok {p : Int} {n : Nat} {T : Nat → Nat → Nat → Int} {fo : Nat → Int} (hv0 : VN p n T fo) {v : Nat → Int} (hv : VV p n v) : ACalls Try.prog TB 11 [algA p (n : Int) T fo, vlA 1 (vs1 v)] (.int .i64 0) [] := by
  have hp : p ≤ 256 := by have := hv0.p0; omega
  have h := c_l01Code hv0.rb hv0.rv (M := 1) (by omega) (vs1_B8 (hv.B8 hp)) (p := p) (n := (n : Int)) (T := T) (fo := fo)
  rwa [cZ_ok (VZ_1.2 ⟨hv0.va, hv.sm⟩)] at h
theorem c_l01Code1_no {p n : Int} {T : Nat → Nat → Nat → Int} {fo : Nat → Int} (hT : RB T) (hf : RV fo) {v : Nat → Int} (hv : B8 v) (hz : ¬ VZ p n T fo 1 (vs1 v)) : ACalls Try.prog TB 11 [algA p n T fo, vlA 1 (vs1 v)] (.int .i64 1) [] := by
  have h := c_l01Code hT hf (M := 1) (by omega) (vs1_B8 hv) (p := p) (n := n) (T := T) (fo := fo)
  rwa [cZ_no hz] at h
end Go.Am

set_option linter.unusedVariables false
set_option linter.unusedSimpArgs false
set_option maxRecDepth 4000
namespace Go.Am
attribute [local irreducible] retQ retQp
open Go.Proofs
theorem c_eqInt64S {m : Nat} {f g : Nat → Int} (hm : m ≤ 1000) (h : ∀ j, j < m → f j = g j) : ACalls Try.prog TB 8 [rowA m f, rowA m g] (.bool true) [] := by
  refine acalls_of tokTB Try.func8 rfl rfl (Nat.le_of_ble_eq_true rfl) ?_
  apply sr tokTB (by kernel_rfl)
  · intro RR hRR
    refine w_assign (by constructor) ?_
    exact hRR
  refine snd_seq ?_
  apply sr tokTB (by kernel_rfl)
  · intro RR hRR
    refine w_move (by constructor) ?_
    refine w_len_r rfl rfl und27 ?_
    refine w_move (by constructor) ?_
    refine w_len_r rfl rfl und27 ?_
    refine w_neq rfl rfl ?_
    exact hRR
  refine snd_cond_false (by exact congrArg AV.bool (decide_eq_false (by simp))) ?_
  refine snd_skip ?_
  refine snd_seq ?_
  apply sr tokTB (by kernel_rfl)
  · intro RR hRR
    refine w_assign (by constructor) ?_
    exact hRR
  refine snd_block ?_
  refine snd_loop (S := Nat) (fun i => ([(0, rowA m f), (1, rowA m g), (5, .int .i64 (i : Int))], [])) (fun i => i ≤ m) (fun i => m - i) (0) ρ0 ?_ ?_ ?_
  · exact ⟨⟨(by first | exact mt_row (V := _) (fun _ _ => rfl) | exact mt_fz (by exact trivial) rfl (fun _ _ => rfl)), (by first | exact mt_row (V := _) (fun _ _ => rfl) | exact mt_fz (by exact trivial) rfl (fun _ _ => rfl)), (mi), trivial⟩, trivial, trivial⟩
  · exact Nat.zero_le _
  intro i hi0
  refine sq (env2 := [(0, rowA m f), (1, rowA m g), (5, .int .i64 (i : Int))]) (ol2 := []) rfl rfl ?_
  refine snd_seq ?_
  apply sr tokTB (by kernel_rfl)
  · intro RR hRR
    refine w_move (by constructor) ?_
    refine w_move (by constructor) ?_
    refine w_len_r rfl rfl und27 ?_
    refine w_lss rfl rfl ?_
    exact hRR
  refine snd_cond _ rfl (fun hc14 => ?_) (fun hc14 => ?_)
  · try simp only [hcs] at hc14
    have lt_i : i < m := by omega
    refine snd_skip ?_
    refine snd_seq ?_
    refine snd_block ?_
    apply sd tokTB mixed (by kernel_rfl) (by kernel_rfl)
    · intro RR hRR
      refine w_move (by constructor) ?_
      refine w_move (by constructor) ?_
      refine w_iar rfl rfl und27 kn2 (by exact sz2.symm) ?_ rfl ?_
      · exact ⟨by omega, by omega⟩
      first | refine w_ldc rfl kn2 (by constructor) (by exact sz2.symm) (by exact ag2.symm) ?_ | refine w_ldp rfl kn2 rfl (by constructor) (by exact sz2.symm) (by exact ag2.symm) ?_
      refine w_move (by constructor) ?_
      refine w_move (by constructor) ?_
      refine w_iar rfl rfl und27 kn2 (by exact sz2.symm) ?_ rfl ?_
      · exact ⟨by omega, by omega⟩
      first | refine w_ldc rfl kn2 (by constructor) (by exact sz2.symm) (by exact ag2.symm) ?_ | refine w_ldp rfl kn2 rfl (by constructor) (by exact sz2.symm) (by exact ag2.symm) ?_
      refine w_neq rfl rfl ?_
      exact hRR
    refine snd_cond _ rfl (fun hc25 => ?_) (fun hc25 => ?_)
    · skip
      exact absurd (h i (by omega)) (of_decide_eq_true hc25)
    · skip
      refine snd_skip ?_
      apply lr tokTB (by kernel_rfl)
      · intro RR hRR
        refine w_move (by constructor) ?_
        refine y_add rfl rfl ?_
        refine w_assign (by constructor) ?_
        exact hRR
      refine ⟨i + 1, ρ0, ?_, (by omega), (by dsimp only; omega)⟩
      exact ⟨⟨(by first | exact mt_row (V := _) (fun _ _ => rfl) | exact mt_fz (by exact trivial) rfl (fun _ _ => rfl)), (by first | exact mt_row (V := _) (fun _ _ => rfl) | exact mt_fz (by exact trivial) rfl (fun _ _ => rfl)), (mi), trivial⟩, trivial, trivial⟩
  · try simp only [hcs] at hc14
    have ge_i : m = i := by omega
    subst ge_i
    refine snd_exit ?_
    apply sr tokTB (by kernel_rfl)
    · intro RR hRR
      refine w_assign (by constructor) ?_
      exact hRR
    refine snd_ret ?_
    exact rt (T := TB) (fun V => rfl)
theorem c_markInt64S {m : Nat} {f : Nat → Int} {k : Int} (hm : m ≤ 1000) (hk : 0 ≤ k ∧ k ≤ 1000000) : MCalls Try.prog TB 9 [0] [.own 0 0 m 2, .int .i64 k] [(0, .one (Z64 m) (C64 m f))] (.int .i64 (k + m)) [(0, .one (Z64 m) (C64 m (fun j => k + (j : Nat))))] := by
  refine mcalls_of tokTB Try.func9 rfl rfl (Nat.le_of_ble_eq_true rfl) ⟨rfl, trivial⟩ ?_
  apply srp tokTB (by kernel_rfl)
  · intro RR hRR
    refine w_assign (by constructor) ?_
    exact hRR
  refine snp_seq ?_
  apply srp tokTB (by kernel_rfl)
  · intro RR hRR
    refine w_assign (by constructor) ?_
    exact hRR
  refine snp_block ?_
  refine snp_loop (S := Nat) (fun i => ([(0, .own 0 0 m 2), (1, .int .i64 (k + (i : Nat))), (5, .int .i64 (i : Int))], [(0, .one (Z64 m) (C64 m (mixF (fun j => k + (j : Nat)) f i)))])) (fun i => i ≤ m) (fun i => m - i) (0) ρ0 ?_ ?_ ?_
  · exact ⟨⟨⟨(by first | exact ⟨rfl, rfl, rfl, rfl⟩ | exact ⟨rfl, by omega, rfl, rfl⟩), (mi), (mi), trivial⟩, ⟨⟨rfl, (sx), (by exact mt_vec (fun z _ => by simp [mixF]))⟩, trivial⟩, ⟨⟨(fun h => by first | exact ⟨rfl, rfl⟩ | exact absurd h (by decide)), trivial⟩, trivial⟩⟩, ⟨⟨fun _ => rfl, rfl⟩, trivial⟩⟩
  · exact Nat.zero_le _
  intro i hi0
  refine sqp (env2 := [(0, .own 0 0 m 2), (1, .int .i64 (k + (i : Nat))), (5, .int .i64 (i : Int))]) (ol2 := [(0, .one (Z64 m) (C64 m (mixF (fun j => k + (j : Nat)) f i)))]) rfl rfl ?_
  refine snp_seq ?_
  apply srp tokTB (by kernel_rfl)
  · intro RR hRR
    refine w_move (by constructor) ?_
    refine w_move (by constructor) ?_
    refine w_len_o rfl rfl und27 ?_
    refine w_lss rfl rfl ?_
    exact hRR
  refine snp_cond _ rfl (fun hc9 => ?_) (fun hc9 => ?_)
  · try simp only [hcs] at hc9
    have lt_i : i < m := by omega
    refine snp_skip ?_
    refine snp_seq ?_
    refine snp_block ?_
    apply srp tokTB (by kernel_rfl)
    · intro RR hRR
      refine w_move (by constructor) ?_
      refine w_move (by constructor) ?_
      refine w_move (by constructor) ?_
      refine w_iao rfl rfl und27 kn2 ?_ ?_
      · exact ⟨by omega, by omega⟩
      first | refine w_stw rfl (by constructor) kn2 rfl (by exact trivial) (sx) (by exact sz2.symm) ?_ | refine w_sti rfl rfl kn2 rfl (by exact trivial) (by exact sz2.symm) ?_ | refine w_store rfl (HV.eq (by constructor)) kn2 rfl (by exact trivial) (sx) (by exact sz2.symm) (put_in (by first | exact put_mat | exact put_tab | exact put_alg0 | exact put_pr0 | exact put_pr1 | exact put_pr2 | exact put_tn4 | exact put_alg1 | exact put_alg2 | exact put_alg3 | exact put_alg3i | exact put_alg2ij | exact put_alg2ijk | exact put_mat2 | exact put_tab2 | exact put_tab3)) ?_ | refine w_store rfl (HV.eq (by constructor)) kn2 rfl (by exact trivial) (by exact trivial) (by exact sz2.symm) rfl ?_
      exact hRR
    apply lrp tokTB (by kernel_rfl)
    · intro RR hRR
      refine w_move (by constructor) ?_
      refine w_add rfl rfl (by exact w64 (by omega) (by omega)) ?_
      refine w_assign (by constructor) ?_
      exact hRR
    apply lrp tokTB (by kernel_rfl)
    · intro RR hRR
      refine w_move (by constructor) ?_
      refine y_add rfl rfl ?_
      refine w_assign (by constructor) ?_
      exact hRR
    refine ⟨i + 1, ρ0, ?_, (by omega), (by dsimp only; omega)⟩
    exact ⟨⟨⟨(by first | exact ⟨rfl, rfl, rfl, rfl⟩ | exact ⟨rfl, by omega, rfl, rfl⟩), (mi), (mi), trivial⟩, ⟨⟨rfl, (sx), (by exact mt_vec (fun z _ => upd_mix _ _ i z))⟩, trivial⟩, ⟨⟨(fun h => by first | exact ⟨rfl, rfl⟩ | exact absurd h (by decide)), trivial⟩, trivial⟩⟩, ⟨⟨fun _ => rfl, rfl⟩, trivial⟩⟩
  · try simp only [hcs] at hc9
    have ge_i : m = i := by omega
    subst ge_i
    refine snp_exit ?_
    apply srp tokTB (by kernel_rfl)
    · intro RR hRR
      refine w_move (by constructor) ?_
      refine w_assign (by constructor) ?_
      exact hRR
    refine snp_ret ?_
    exact rtp (ρ := ρ0) ⟨⟨m_int rfl, trivial⟩, ⟨⟨rfl, ⟨rfl, fun _ => trivial⟩, mt_vec (fun z hz => by simp [mixF, hz])⟩, trivial⟩, ⟨⟨fun _ => ⟨rfl, rfl⟩, trivial⟩, trivial⟩⟩ ⟨⟨fun _ => rfl, rfl⟩, trivial⟩
theorem c_heldInt64S {m : Nat} {f : Nat → Int} {k : Int} (hm : m ≤ 1000) (hk : 0 ≤ k ∧ k ≤ 1000000) (h : ∀ j, j < m → f j = k + (j : Nat)) : ACalls Try.prog TB 10 [rowA m f, .int .i64 k] (.int .i64 (k + m)) [] := by
  refine acalls_of tokTB Try.func10 rfl rfl (Nat.le_of_ble_eq_true rfl) ?_
  apply sr tokTB (by kernel_rfl)
  · intro RR hRR
    refine w_assign (by constructor) ?_
    exact hRR
  refine snd_seq ?_
  apply sr tokTB (by kernel_rfl)
  · intro RR hRR
    refine w_assign (by constructor) ?_
    exact hRR
  refine snd_block ?_
  refine snd_loop (S := Nat) (fun i => ([(0, rowA m f), (1, .int .i64 (k + (i : Nat))), (5, .int .i64 (i : Int))], [])) (fun i => i ≤ m) (fun i => m - i) (0) ρ0 ?_ ?_ ?_
  · exact ⟨⟨(by first | exact mt_row (V := _) (fun _ _ => rfl) | exact mt_fz (by exact trivial) rfl (fun _ _ => rfl)), (mi), (mi), trivial⟩, trivial, trivial⟩
  · exact Nat.zero_le _
  intro i hi0
  refine sq (env2 := [(0, rowA m f), (1, .int .i64 (k + (i : Nat))), (5, .int .i64 (i : Int))]) (ol2 := []) rfl rfl ?_
  refine snd_seq ?_
  apply sr tokTB (by kernel_rfl)
  · intro RR hRR
    refine w_move (by constructor) ?_
    refine w_move (by constructor) ?_
    refine w_len_r rfl rfl und27 ?_
    refine w_lss rfl rfl ?_
    exact hRR
  refine snd_cond _ rfl (fun hc9 => ?_) (fun hc9 => ?_)
  · try simp only [hcs] at hc9
    have lt_i : i < m := by omega
    refine snd_skip ?_
    refine snd_seq ?_
    refine snd_block ?_
    refine snd_seq ?_
    apply sr tokTB (by kernel_rfl)
    · intro RR hRR
      refine w_move (by constructor) ?_
      refine w_move (by constructor) ?_
      refine w_iar rfl rfl und27 kn2 (by exact sz2.symm) ?_ rfl ?_
      · exact ⟨by omega, by omega⟩
      first | refine w_ldc rfl kn2 (by constructor) (by exact sz2.symm) (by exact ag2.symm) ?_ | refine w_ldp rfl kn2 rfl (by constructor) (by exact sz2.symm) (by exact ag2.symm) ?_
      refine w_move (by constructor) ?_
      refine w_neq rfl rfl ?_
      exact hRR
    refine snd_cond _ rfl (fun hc17 => ?_) (fun hc17 => ?_)
    · skip
      exact absurd (h i (by omega)) (of_decide_eq_true hc17)
    · skip
      refine snd_skip ?_
      apply lr tokTB (by kernel_rfl)
      · intro RR hRR
        refine w_move (by constructor) ?_
        refine w_add rfl rfl (by exact w64 (by omega) (by omega)) ?_
        refine w_assign (by constructor) ?_
        exact hRR
      apply lr tokTB (by kernel_rfl)
      · intro RR hRR
        refine w_move (by constructor) ?_
        refine y_add rfl rfl ?_
        refine w_assign (by constructor) ?_
        exact hRR
      refine ⟨i + 1, ρ0, ?_, (by omega), (by dsimp only; omega)⟩
      exact ⟨⟨(by first | exact mt_row (V := _) (fun _ _ => rfl) | exact mt_fz (by exact trivial) rfl (fun _ _ => rfl)), (mi), (mi), trivial⟩, trivial, trivial⟩
  · try simp only [hcs] at hc9
    have ge_i : m = i := by omega
    subst ge_i
    refine snd_exit ?_
    apply sr tokTB (by kernel_rfl)
    · intro RR hRR
      refine w_move (by constructor) ?_
      refine w_assign (by constructor) ?_
      exact hRR
    refine snd_ret ?_
    exact rt (T := TB) (fun V => rfl)
theorem c_markNilInt64S {k : Int} : ACalls Try.prog TB 9 [.nilsl, .int .i64 k] (.int .i64 k) [] := by
  refine acalls_of tokTB Try.func9 rfl rfl (Nat.le_of_ble_eq_true rfl) ?_
  apply sr tokTB (by kernel_rfl)
  · intro RR hRR
    refine w_assign (by constructor) ?_
    exact hRR
  refine snd_seq ?_
  apply sr tokTB (by kernel_rfl)
  · intro RR hRR
    refine w_assign (by constructor) ?_
    exact hRR
  refine snd_block ?_
  refine snd_loop (S := Nat) (fun i => ([(0, .nilsl), (1, .int .i64 k), (5, .int .i64 (i : Int))], [])) (fun i => i ≤ 0) (fun i => 0 - i) (0) ρ0 ?_ ?_ ?_
  · exact ⟨⟨rfl, (mi), (mi), trivial⟩, trivial, trivial⟩
  · exact Nat.zero_le _
  intro i hi0
  refine sq (env2 := [(0, .nilsl), (1, .int .i64 k), (5, .int .i64 (i : Int))]) (ol2 := []) rfl rfl ?_
  refine snd_seq ?_
  apply sr tokTB (by kernel_rfl)
  · intro RR hRR
    refine w_move (by constructor) ?_
    refine w_move (by constructor) ?_
    refine w_len_n rfl rfl und27 ?_
    refine w_lss rfl rfl ?_
    exact hRR
  refine snd_cond _ rfl (fun hc9 => ?_) (fun hc9 => ?_)
  · try simp only [hcs] at hc9
    have lt_i : i < 0 := by omega
    omega
  · try simp only [hcs] at hc9
    have ge_i : 0 = i := by omega
    subst ge_i
    refine snd_exit ?_
    apply sr tokTB (by kernel_rfl)
    · intro RR hRR
      refine w_move (by constructor) ?_
      refine w_assign (by constructor) ?_
      exact hRR
    refine snd_ret ?_
    exact rt (T := TB) (fun V => rfl)
end Go.Am

set_option linter.unusedVariables false
set_option linter.unusedSimpArgs false
set_option maxRecDepth 4000
namespace Go.Am
attribute [local irreducible] retQ retQp
open Go.Proofs
theorem c_sMinimalPolynomial_ok {p : Int} {n : Nat} {T : Nat → Nat → Nat → Int} {fo : Nat → Int} (hv0 : VN p n T fo) {v : Nat → Int} (hv : VV p n v) {D : Nat} (hD : MPd p n T v D) : ACalls Try.prog TB 4 [algA p (n : Int) T fo, vecA v] (.tup 2 (pairA (.own 0 0 (D + 1) 2) (.int .i64 0))) [(0, .one (Z64 (D + 1)) (C64 (D + 1) (fun j => if j < D then (- (echGo p (D + 1) (mpS p n T v) n).O j D) % p else 1)))] := by
  have hp8 := hv0.p0
  have hn6 := hv0.n6
  have hn0 := hv0.n0
  have hd1 := hD.d1
  have hdn := hD.dn
  have hT8 := hv0.T8
  have hPV := fun k => pw_VV hv0 v k
  have hPB : ∀ k, B8 (pw p n T v k) := fun k => B8_of (by omega) (hPV k).b
  have hvB : B8 v := B8_of (by omega) hv.b
  have hSB := mpS_Bp hv0 v
  have hIB := mpI_Bp hv0 v
  have hEB : ∀ i, i < D → 0 ≤ (echGo p (D + 1) (mpS p n T v) n).O i D ∧ (echGo p (D + 1) (mpS p n T v) n).O i D < p := fun i hi => ech_Bp hv0.hp (fun i _ => hSB i) (by have := hD.sy.1; omega) D
  refine acalls_of tokTB Try.func4 rfl rfl (Nat.le_of_ble_eq_true rfl) ?_
  apply sr tokTB (by kernel_rfl)
  · intro RR hRR
    refine w_boxc (HV.eq (by constructor)) (by exact trivial) ?_
    refine w_boxc (HV.eq (by constructor)) (by exact trivial) ?_
    refine w_assign (by constructor) ?_
    refine w_assign (by constructor) ?_
    exact hRR
  refine snd_seq ?_
  apply sr tokTB (by kernel_rfl)
  · intro RR hRR
    refine w_ldc rfl kn32 (by constructor) (by exact sz32.symm) (by exact ag32.symm) ?_
    refine w_ldc rfl kn30 (by constructor) (by exact sz30.symm) (by exact ag30.symm) ?_
    refine w_bsl1 und39 kn30 (by rw [sz30]; rfl) rfl (by constructor) (by first | exact trivial | exact cel_cap2) (by exact sz30.symm) (by first | exact trivial | exact ssh_vec | exact ⟨rfl, fun _ => trivial⟩) ?_
    refine y_call rfl (exc exp_alg (exc (ex_l1 zr30 rfl) exn)) (c_l01Code1_ok hv0 hv) ?_
    refine w_assign (by constructor) ?_
    exact hRR
  apply sr tokTB (by kernel_rfl)
  · intro RR hRR
    refine w_move (by constructor) ?_
    refine w_neq rfl rfl ?_
    exact hRR
  refine snd_cond_false rfl ?_
  refine snd_skip ?_
  apply sr tokTB (by kernel_rfl)
  · intro RR hRR
    refine w_bsl und39 kn30 (by rw [sz30]; rfl) rfl trivial trivial rfl ?_
    refine w_ldc rfl kn32 (by constructor) (by exact sz32.symm) (by exact ag32.symm) ?_
    refine y_call rfl (ec exn) (c_l01Unit hv0) ?_
    refine w_alloc kn30 rfl zr30 ?_
    refine w_assign (by constructor) ?_
    refine w_stw rfl (by constructor) kn30 rfl (by exact trivial) (sx) (by exact sz30.symm) ?_
    exact hRR
  apply sr tokTB (by kernel_rfl)
  · intro RR hRR
    refine w_assign (by constructor) ?_
    exact hRR
  refine snd_block ?_
  refine snd_loop (S := Nat) (fun k => ([(2, .cptr (algA p (n : Int) T fo)), (3, .cptr (vecA v)), (7, .own 907 0 k 30), (8, .ptr 8 0 [] 0 (vecA (fun _ => 0))), (9, .int .i64 (k : Int))], [(907, .one (.arr (k) (fun _ => TB.zero 30)) (.arr (k) (fun r => vecA (pw p n T v r)))), (8, .one (vecA (fun _ => 0)) (vecA (pw p n T v k)))])) (fun k => k ≤ D) (fun k => D - k) (0) (fun k i => bif Nat.beq k 907 then (25, i) else (k, i)) ?_ ?_ ?_
  · exact ⟨⟨m_calg, (m_cvec (fun _ _ => rfl)), (by first | exact ⟨rfl, rfl, rfl, rfl⟩ | exact ⟨rfl, by omega, rfl, rfl⟩), ⟨rfl, rfl, rfl, rfl, rfl⟩, (mi), trivial⟩, ⟨⟨rfl, (sx), (by exact ⟨rfl, fun j hj => absurd hj (by omega)⟩)⟩, ⟨rfl, (sx), (by exact mt_vec (fun _ _ => rfl))⟩, trivial⟩, ⟨⟨(fun h => by first | exact ⟨rfl, rfl⟩ | exact absurd h (by decide)), (fun h => by first | exact ⟨rfl, rfl⟩ | exact absurd h (by decide)), trivial⟩, ⟨(fun h => by first | exact ⟨rfl, rfl⟩ | exact absurd h (by decide)), (fun h => by first | exact ⟨rfl, rfl⟩ | exact absurd h (by decide)), trivial⟩, trivial⟩⟩
  · exact Nat.zero_le _
  intro k hi0
  refine sq (env2 := [(2, .cptr (algA p (n : Int) T fo)), (3, .cptr (vecA v)), (7, .own 907 0 k 30), (8, .ptr 8 0 [] 0 (vecA (fun _ => 0))), (9, .int .i64 (k : Int))]) (ol2 := [(907, .one (.arr (k) (fun _ => TB.zero 30)) (.arr (k) (fun r => vecA (pw p n T v r)))), (8, .one (vecA (fun _ => 0)) (vecA (pw p n T v k)))]) rfl rfl ?_
  refine snd_seq ?_
  refine snd_block ?_
  apply sr tokTB (by kernel_rfl)
  · intro RR hRR
    refine w_bsl und41 kn27 (by rw [sz27]; rfl) rfl trivial trivial rfl ?_
    refine w_assign (by constructor) ?_
    exact hRR
  refine snd_seq ?_
  apply sr tokTB (by kernel_rfl)
  · intro RR hRR
    refine w_assign (by constructor) ?_
    exact hRR
  refine snd_block ?_
  refine snd_loop (S := Nat) (fun x => ([(2, .cptr (algA p (n : Int) T fo)), (3, .cptr (vecA v)), (7, .own 907 0 k 30), (8, .ptr 8 0 [] 0 (vecA (fun _ => 0))), (9, .int .i64 (k : Int)), (10, .own 905 0 x 27), (11, .int .i64 (x : Int))], [(905, .one (ZR (x)) (CO 1 (x) (fun _ => k + 1) 2)), (1, .many (famF (x) (fun _ => k + 1) (mpS p n T v))), (907, .one (.arr (k) (fun _ => TB.zero 30)) (.arr (k) (fun r => vecA (pw p n T v r)))), (8, .one (vecA (fun _ => 0)) (vecA (pw p n T v k)))])) (fun x => x ≤ n) (fun x => n - x) (0) (ρL [(905, 30), (907, 907), (8, 8)] 1 0 912) ?_ ?_ ?_
  · exact emb_famL (by decide) rfl rfl rfl rfl (fun j hj => absurd hj (by omega)) (fun h => absurd h (by omega)) (fun h => absurd h (by omega)) (fun r hr => absurd hr (by omega)) ⟨⟨_, rfl, ⟨rfl, fun _ => (sx)⟩, fun V => ⟨rfl, fun _ _ => mt_vec (fun _ _ => rfl)⟩⟩, ⟨_, rfl, (sx), fun V => mt_vec (fun _ _ => rfl)⟩, trivial⟩ ⟨m_calg, (m_cvec (fun _ _ => rfl)), (by first | exact ⟨rfl, rfl, rfl, rfl⟩ | exact ⟨rfl, by omega, rfl, rfl⟩), ⟨rfl, rfl, rfl, rfl, rfl⟩, (mi), (by first | exact ⟨rfl, rfl, rfl, rfl⟩ | exact ⟨rfl, by omega, rfl, rfl⟩), (mi), trivial⟩
  · exact Nat.zero_le _
  intro x hi2
  refine sq (env2 := [(2, .cptr (algA p (n : Int) T fo)), (3, .cptr (vecA v)), (7, .own 907 0 k 30), (8, .ptr 8 0 [] 0 (vecA (fun _ => 0))), (9, .int .i64 (k : Int)), (10, .own 905 0 x 27), (11, .int .i64 (x : Int))]) (ol2 := [(905, .one (ZR (x)) (CO 1 (x) (fun _ => k + 1) 2)), (1, .many (famF (x) (fun _ => k + 1) (mpS p n T v))), (907, .one (.arr (k) (fun _ => TB.zero 30)) (.arr (k) (fun r => vecA (pw p n T v r)))), (8, .one (vecA (fun _ => 0)) (vecA (pw p n T v k)))]) rfl rfl ?_
  refine snd_seq ?_
  apply sr tokTB (by kernel_rfl)
  · intro RR hRR
    refine w_move (by constructor) ?_
    refine w_fac rfl und32 rfl kn2 nz2 (by decide) rfl (by constructor) ?_
    refine w_ldc rfl kn2 (by constructor) (by exact sz2.symm) (by exact ag2.symm) ?_
    refine w_lss rfl rfl ?_
    exact hRR
  refine snd_cond _ rfl (fun hc34 => ?_) (fun hc34 => ?_)
  · try simp only [hcs] at hc34
    have lt_x : x < n := by omega
    refine snd_skip ?_
    refine snd_seq ?_
    refine snd_block ?_
    apply sr tokTB (by kernel_rfl)
    · intro RR hRR
      refine w_bsl und27 kn2 (by rw [sz2]; rfl) rfl trivial trivial rfl ?_
      refine w_assign (by constructor) ?_
      exact hRR
    refine snd_seq ?_
    apply sr tokTB (by kernel_rfl)
    · intro RR hRR
      refine w_assign (by constructor) ?_
      exact hRR
    refine snd_block ?_
    refine snd_loop (S := Nat) (fun i => ([(2, .cptr (algA p (n : Int) T fo)), (3, .cptr (vecA v)), (7, .own 907 0 k 30), (8, .ptr 8 0 [] 0 (vecA (fun _ => 0))), (9, .int .i64 (k : Int)), (10, .own 905 0 x 27), (11, .int .i64 (x : Int)), (12, .own 909 0 i 2), (13, .int .i64 (i : Int))], [(905, .one (ZR (x)) (CO 1 (x) (fun _ => k + 1) 2)), (1, .many (famF (x) (fun _ => k + 1) (mpS p n T v))), (907, .one (.arr (k) (fun _ => TB.zero 30)) (.arr (k) (fun r => vecA (pw p n T v r)))), (8, .one (vecA (fun _ => 0)) (vecA (pw p n T v k))), (909, .one (Z64 (i)) (C64 (i) (mpS p n T v x)))])) (fun i => i ≤ k) (fun i => k - i) (0) (ρL [(905, 905), (907, 907), (8, 8), (909, 37)] 1 x 912) ?_ ?_ ?_
    · exact emb_famL (by decide) rfl rfl rfl rfl (fun j hj hne => rfl) (fun h => absurd h (by omega)) (fun h => absurd h (by omega)) (fun r hr hne => ⟨_, famF_at (w := (fun _ => k + 1)) (F := (mpS p n T v)) (by omega), fun V => mt_vec (fun _ _ => rfl)⟩) ⟨⟨_, rfl, ⟨rfl, fun _ => (sx)⟩, fun V => ⟨rfl, fun _ _ => mt_vec (fun _ _ => rfl)⟩⟩, ⟨_, rfl, (sx), fun V => mt_vec (fun _ _ => rfl)⟩, ⟨_, rfl, ⟨rfl, fun _ => trivial⟩, fun V => mt_arr0⟩, trivial⟩ ⟨m_calg, (m_cvec (fun _ _ => rfl)), (by first | exact ⟨rfl, rfl, rfl, rfl⟩ | exact ⟨rfl, by omega, rfl, rfl⟩), ⟨rfl, rfl, rfl, rfl, rfl⟩, (mi), (by first | exact ⟨rfl, rfl, rfl, rfl⟩ | exact ⟨rfl, by omega, rfl, rfl⟩), (mi), (by first | exact ⟨rfl, rfl, rfl, rfl⟩ | exact ⟨rfl, by omega, rfl, rfl⟩), (mi), trivial⟩
    · exact Nat.zero_le _
    intro i hi4
    refine sq (env2 := [(2, .cptr (algA p (n : Int) T fo)), (3, .cptr (vecA v)), (7, .own 907 0 k 30), (8, .ptr 8 0 [] 0 (vecA (fun _ => 0))), (9, .int .i64 (k : Int)), (10, .own 905 0 x 27), (11, .int .i64 (x : Int)), (12, .own 909 0 i 2), (13, .int .i64 (i : Int))]) (ol2 := [(905, .one (ZR (x)) (CO 1 (x) (fun _ => k + 1) 2)), (1, .many (famF (x) (fun _ => k + 1) (mpS p n T v))), (907, .one (.arr (k) (fun _ => TB.zero 30)) (.arr (k) (fun r => vecA (pw p n T v r)))), (8, .one (vecA (fun _ => 0)) (vecA (pw p n T v k))), (909, .one (Z64 (i)) (C64 (i) (mpS p n T v x)))]) rfl rfl ?_
    refine snd_seq ?_
    apply sr tokTB (by kernel_rfl)
    · intro RR hRR
      refine w_move (by constructor) ?_
      refine w_move (by constructor) ?_
      refine w_len_o rfl rfl und39 ?_
      refine w_lss rfl rfl ?_
      exact hRR
    refine snd_cond _ rfl (fun hc41 => ?_) (fun hc41 => ?_)
    · try simp only [hcs] at hc41
      have lt_i : i < k := by omega
      refine snd_skip ?_
      refine snd_seq ?_
      refine snd_block ?_
      apply lr tokTB (by kernel_rfl)
      · intro RR hRR
        refine w_move (by constructor) ?_
        refine w_move (by constructor) ?_
        refine w_move (by constructor) ?_
        refine w_move (by constructor) ?_
        refine w_iao rfl rfl und39 kn30 ?_ ?_
        · exact ⟨by omega, by omega⟩
        first | refine w_iac rfl rfl und30 kn5 (by exact sz5.symm) ?_ rfl ?_ | refine w_iap rfl rfl und30 kn5 rfl (by exact sz5.symm) rfl ?_ ?_
        · exact ⟨by omega, by omega⟩
        first | refine w_ldc rfl kn5 (by constructor) (by exact sz5.symm) (by exact ag5.symm) ?_ | refine w_ldp rfl kn5 rfl (by constructor) (by exact sz5.symm) (by exact ag5.symm) ?_
        refine w_conv rfl und5 und2 (by exact w64b (hPB i) _) ?_
        refine w_bsl1 und27 kn2 (by rw [sz2]; rfl) rfl (by constructor) (by first | exact trivial | exact cel_cap2) (by exact sz2.symm) (by first | exact trivial | exact ssh_vec | exact ⟨rfl, fun _ => trivial⟩) ?_
        refine w_app_o und27 rfl rfl kn2 rfl rfl (fun C h => ⟨rfl, rfl, rfl, h⟩) (by rw [by2]; omega) (by omega) rfl ?_
        refine w_assign (by constructor) ?_
        exact hRR
      apply lr tokTB (by kernel_rfl)
      · intro RR hRR
        refine w_move (by constructor) ?_
        refine y_add rfl rfl ?_
        refine w_assign (by constructor) ?_
        exact hRR
      refine ⟨i + 1, (ρL [(905, 905), (907, 907), (8, 8), (909, 53)] 1 x 912), ?_, (by omega), (by dsimp only; omega)⟩
      exact emb_famL (by decide) rfl rfl rfl rfl (fun j hj hne => rfl) (fun h => absurd h (by omega)) (fun h => absurd h (by omega)) (fun r hr hne => ⟨_, famF_at (w := (fun _ => k + 1)) (F := (mpS p n T v)) (by omega), fun V => mt_vec (fun _ _ => rfl)⟩) ⟨⟨_, rfl, ⟨rfl, fun _ => (sx)⟩, fun V => ⟨rfl, fun _ _ => mt_vec (fun _ _ => rfl)⟩⟩, ⟨_, rfl, (sx), fun V => mt_vec (fun _ _ => rfl)⟩, ⟨_, rfl, ⟨rfl, fun _ => trivial⟩, fun V => mt_app (fun _ _ => rfl) rfl⟩, trivial⟩ ⟨m_calg, (m_cvec (fun _ _ => rfl)), (by first | exact ⟨rfl, rfl, rfl, rfl⟩ | exact ⟨rfl, by omega, rfl, rfl⟩), ⟨rfl, rfl, rfl, rfl, rfl⟩, (mi), (by first | exact ⟨rfl, rfl, rfl, rfl⟩ | exact ⟨rfl, by omega, rfl, rfl⟩), (mi), (by first | exact ⟨rfl, rfl, rfl, rfl⟩ | exact ⟨rfl, by omega, rfl, rfl⟩), (mi), trivial⟩
    · try simp only [hcs] at hc41
      have ge_i : k = i := by omega
      subst ge_i
      refine snd_exit ?_
      apply lr tokTB (by kernel_rfl)
      · intro RR hRR
        refine w_move (by constructor) ?_
        refine w_move (by constructor) ?_
        refine w_move (by constructor) ?_
        refine w_iap rfl rfl und30 kn5 rfl (by exact sz5.symm) rfl ?_ ?_
        · exact ⟨by omega, by omega⟩
        first | refine w_ldc rfl kn5 (by constructor) (by exact sz5.symm) (by exact ag5.symm) ?_ | refine w_ldp rfl kn5 rfl (by constructor) (by exact sz5.symm) (by exact ag5.symm) ?_
        refine w_conv rfl und5 und2 (by exact w64b (hPB k) _) ?_
        refine w_bsl1 und27 kn2 (by rw [sz2]; rfl) rfl (by constructor) (by first | exact trivial | exact cel_cap2) (by exact sz2.symm) (by first | exact trivial | exact ssh_vec | exact ⟨rfl, fun _ => trivial⟩) ?_
        refine w_app_o und27 rfl rfl kn2 rfl rfl (fun C h => ⟨rfl, rfl, rfl, h⟩) (by rw [by2]; omega) (by omega) rfl ?_
        refine w_bsl1 und41 kn27 (by rw [sz27]; rfl) rfl (by constructor) (by first | exact trivial | exact cel_cap2) (by exact sz27.symm) (by first | exact trivial | exact ssh_vec | exact ⟨rfl, fun _ => trivial⟩) ?_
        refine w_app_o und41 rfl rfl kn27 rfl rfl (fun C h => ⟨rfl, rfl, rfl, h⟩) (by rw [by27]; omega) (by omega) rfl ?_
        refine w_assign (by constructor) ?_
        exact hRR
      apply lr tokTB (by kernel_rfl)
      · intro RR hRR
        refine w_move (by constructor) ?_
        refine y_add rfl rfl ?_
        refine w_assign (by constructor) ?_
        exact hRR
      refine ⟨x + 1, (ρL [(905, 63), (907, 907), (8, 8)] 1 x 61), ?_, (by omega), (by dsimp only; omega)⟩
      exact emb_famL (by decide) rfl rfl rfl rfl (fun j hj hne => appF_lt (by omega)) (fun h => (appF_ge (Nat.le_refl _) (by omega)).trans (by rw [Nat.sub_self]; rfl)) (fun h => ⟨_, rfl, fun V => by exact mt_app (fun _ _ => rfl) rfl⟩) (fun r hr hne => ⟨_, famF_at (w := (fun _ => k + 1)) (F := (mpS p n T v)) (by omega), fun V => mt_vec (fun _ _ => rfl)⟩) ⟨⟨_, rfl, ⟨rfl, fun _ => (sx)⟩, fun V => ⟨rfl, fun _ _ => mt_vec (fun _ _ => rfl)⟩⟩, ⟨_, rfl, (sx), fun V => mt_vec (fun _ _ => rfl)⟩, trivial⟩ ⟨m_calg, (m_cvec (fun _ _ => rfl)), (by first | exact ⟨rfl, rfl, rfl, rfl⟩ | exact ⟨rfl, by omega, rfl, rfl⟩), ⟨rfl, rfl, rfl, rfl, rfl⟩, (mi), (by first | exact ⟨rfl, rfl, rfl, rfl⟩ | exact ⟨rfl, by omega, rfl, rfl⟩), (mi), trivial⟩
  · try simp only [hcs] at hc34
    have ge_x : n = x := by omega
    subst ge_x
    refine snd_exit ?_
    refine snd_seq ?_
    apply sr tokTB (by kernel_rfl)
    · intro RR hRR
      refine w_move (by constructor) ?_
      refine w_gtr rfl rfl ?_
      exact hRR
    refine snd_cond _ rfl (fun hc65 => ?_) (fun hc65 => ?_)
    · try simp only [hcs] at hc65
      rcases Nat.lt_or_ge k D with lt_k | ge_k
      · skip
        apply sr tokTB (by kernel_rfl)
        · intro RR hRR
          refine w_fac rfl und32 rfl kn2 nz2 (by decide) rfl (by constructor) ?_
          refine w_ldc rfl kn2 (by constructor) (by exact sz2.symm) (by exact ag2.symm) ?_
          refine w_move (by constructor) ?_
          refine y_call rfl rfl ((c_l01Solve_no (n := k) (N := n) (S := (mpS p n T v)) hv0.hp (by omega) hn0 (by omega) hSB (hD.sn k lt_k)).mt ⟨rfl, mt_fam0 (w := (fun _ => k + 1)) (F := (mpS p n T v)) rfl (fun r hr => famF_at (w := (fun _ => k + 1)) hr) (fun _ _ => rfl) (fun _ _ _ _ => rfl), trivial⟩) ?_
          refine w_move (by constructor) ?_
          refine w_ext rfl (by decide) (by constructor) ?_
          refine w_ext rfl (by decide) (by constructor) ?_
          refine w_assign (by constructor) ?_
          refine w_assign (by constructor) ?_
          exact hRR
        apply sr tokTB (by kernel_rfl)
        · intro RR hRR
          refine w_move (by constructor) ?_
          exact hRR
        refine snd_cond_false rfl ?_
        refine snd_skip ?_
        apply sr tokTB (by kernel_rfl)
        · intro RR hRR
          refine w_move (by constructor) ?_
          refine w_ldp rfl kn30 rfl (by constructor) (by exact sz30.symm) (by exact ag30.symm) ?_
          refine w_bsl1 und39 kn30 (by rw [sz30]; rfl) rfl (by constructor) (by first | exact trivial | exact cel_cap2) (by exact sz30.symm) (by first | exact trivial | exact ssh_vec | exact ⟨rfl, fun _ => trivial⟩) ?_
          refine w_app_o und39 rfl rfl kn30 rfl rfl (fun C h => ⟨rfl, rfl, rfl, h⟩) (by rw [by30]; omega) (by omega) rfl ?_
          refine w_assign (by constructor) ?_
          exact hRR
        apply lr tokTB (by kernel_rfl)
        · intro RR hRR
          refine w_ldc rfl kn32 (by constructor) (by exact sz32.symm) (by exact ag32.symm) ?_
          refine w_ldp rfl kn30 rfl (by constructor) (by exact sz30.symm) (by exact ag30.symm) ?_
          refine w_ldc rfl kn30 (by constructor) (by exact sz30.symm) (by exact ag30.symm) ?_
          refine y_call rfl (ec (ec (ec exn))) (c_l01Times (u := pw p n T v k) (v := v) (by omega) (by omega) hn6 hT8 (hPB k) hvB) ?_
          refine w_stw rfl (by constructor) kn30 rfl (by exact trivial) (sx) (by exact sz30.symm) ?_
          exact hRR
        apply lr tokTB (by kernel_rfl)
        · intro RR hRR
          refine w_move (by constructor) ?_
          refine y_add rfl rfl ?_
          refine w_assign (by constructor) ?_
          exact hRR
        refine ⟨k + 1, (fun k i => bif Nat.beq k 907 then (98, i) else (k, i)), ?_, (by omega), (by dsimp only; omega)⟩
        exact ⟨⟨m_calg, (m_cvec (fun _ _ => rfl)), (by first | exact ⟨rfl, rfl, rfl, rfl⟩ | exact ⟨rfl, by omega, rfl, rfl⟩), ⟨rfl, rfl, rfl, rfl, rfl⟩, (mi), trivial⟩, ⟨⟨rfl, (sx), (by exact mt_app' rfl (fun _ _ => mt_vec (fun _ _ => rfl)) (mt_vec (fun _ _ => rfl)))⟩, ⟨rfl, (sx), (by exact mt_vec (fun _ _ => rfl))⟩, trivial⟩, ⟨⟨(fun h => by first | exact ⟨rfl, rfl⟩ | exact absurd h (by decide)), (fun h => by first | exact ⟨rfl, rfl⟩ | exact absurd h (by decide)), trivial⟩, ⟨(fun h => by first | exact ⟨rfl, rfl⟩ | exact absurd h (by decide)), (fun h => by first | exact ⟨rfl, rfl⟩ | exact absurd h (by decide)), trivial⟩, trivial⟩⟩
      · skip
        have hDk : D = k := by omega
        subst hDk
        apply sr tokTB (by kernel_rfl)
        · intro RR hRR
          refine w_fac rfl und32 rfl kn2 nz2 (by decide) rfl (by constructor) ?_
          refine w_ldc rfl kn2 (by constructor) (by exact sz2.symm) (by exact ag2.symm) ?_
          refine w_move (by constructor) ?_
          refine w_call rfl rfl ((c_l01Solve_ok (n := D) (N := n) (S := (mpS p n T v)) hv0.hp (by omega) hn0 (by omega) hSB hD.sy).mt ⟨rfl, mt_fam0 (w := (fun _ => D + 1)) (F := (mpS p n T v)) rfl (fun r hr => famF_at (w := (fun _ => D + 1)) hr) (fun _ _ => rfl) (fun _ _ _ _ => rfl), trivial⟩) (.inl ⟨nr_pair trivial trivial, ⟨fun _ => trivial, trivial⟩⟩) rfl (by constructor) rfl ?_
          refine w_move (by constructor) ?_
          refine w_ext rfl (by decide) (by constructor) ?_
          refine w_ext rfl (by decide) (by constructor) ?_
          refine w_assign (by constructor) ?_
          refine w_assign (by constructor) ?_
          exact hRR
        apply sr tokTB (by kernel_rfl)
        · intro RR hRR
          refine w_move (by constructor) ?_
          exact hRR
        refine snd_cond_true rfl ?_
        apply sr tokTB (by kernel_rfl)
        · intro RR hRR
          refine w_bsl und27 kn2 (by rw [sz2]; rfl) rfl trivial trivial rfl ?_
          refine w_assign (by constructor) ?_
          exact hRR
        refine snd_seq ?_
        apply sr tokTB (by kernel_rfl)
        · intro RR hRR
          refine w_assign (by constructor) ?_
          exact hRR
        refine snd_block ?_
        refine snd_loop (S := Nat) (fun i => ([(2, .cptr (algA p (n : Int) T fo)), (14, .own 71000 0 D 2), (16, .own 916 0 i 2), (17, .int .i64 (i : Int))], [(71000, .one (Z64 D) (C64 D (fun a => (echGo p (D + 1) (mpS p n T v) n).O a D))), (916, .one (Z64 i) (C64 i (fun j => if j < D then (- (echGo p (D + 1) (mpS p n T v) n).O j D) % p else 1)))])) (fun i => i ≤ D) (fun i => D - i) (0) (fun k i => bif Nat.beq k 916 then (74, i) else (k, i)) ?_ ?_ ?_
        · exact ⟨⟨m_calg, (by first | exact ⟨rfl, rfl, rfl, rfl⟩ | exact ⟨rfl, by omega, rfl, rfl⟩), (by first | exact ⟨rfl, rfl, rfl, rfl⟩ | exact ⟨rfl, by omega, rfl, rfl⟩), (mi), trivial⟩, ⟨⟨rfl, (sx), (by first | exact mt_vec (fun _ _ => rfl) | exact mt_mat (fun _ _ _ _ => rfl) | exact mt_tab (fun _ _ _ _ _ _ => rfl) | exact mt_arr0 | exact mt_app (fun _ _ => rfl) rfl | exact ⟨rfl, fun _ _ => mt_row (fun _ _ => rfl)⟩ | exact Mt_closed (V := _) closed_alg (fun _ _ _ => trivial) (by simp))⟩, ⟨rfl, (sx), (by exact mt_arr0)⟩, trivial⟩, ⟨⟨(fun h => by first | exact ⟨rfl, rfl⟩ | exact absurd h (by decide)), (fun h => by first | exact ⟨rfl, rfl⟩ | exact absurd h (by decide)), trivial⟩, ⟨(fun h => by first | exact ⟨rfl, rfl⟩ | exact absurd h (by decide)), (fun h => by first | exact ⟨rfl, rfl⟩ | exact absurd h (by decide)), trivial⟩, trivial⟩⟩
        · exact Nat.zero_le _
        intro i hi6
        refine sq (env2 := [(2, .cptr (algA p (n : Int) T fo)), (14, .own 71000 0 D 2), (16, .own 916 0 i 2), (17, .int .i64 (i : Int))]) (ol2 := [(71000, .one (Z64 D) (C64 D (fun a => (echGo p (D + 1) (mpS p n T v) n).O a D))), (916, .one (Z64 i) (C64 i (fun j => if j < D then (- (echGo p (D + 1) (mpS p n T v) n).O j D) % p else 1)))]) rfl rfl ?_
        refine snd_seq ?_
        apply sr tokTB (by kernel_rfl)
        · intro RR hRR
          refine w_move (by constructor) ?_
          refine w_move (by constructor) ?_
          refine w_len_o rfl rfl und27 ?_
          refine w_lss rfl rfl ?_
          exact hRR
        refine snd_cond _ rfl (fun hc78 => ?_) (fun hc78 => ?_)
        · try simp only [hcs] at hc78
          have lt_i : i < D := by omega
          have hE := hEB i (by omega)
          refine snd_skip ?_
          refine snd_seq ?_
          refine snd_block ?_
          apply ld tokTB mixed (by kernel_rfl) (by kernel_rfl)
          · intro RR hRR
            refine w_move (by constructor) ?_
            refine w_fac rfl und32 rfl kn2 nz2 (by decide) rfl (by constructor) ?_
            refine w_ldc rfl kn2 (by constructor) (by exact sz2.symm) (by exact ag2.symm) ?_
            refine w_move (by constructor) ?_
            refine w_move (by constructor) ?_
            refine w_iao rfl rfl und27 kn2 ?_ ?_
            · exact ⟨by omega, by omega⟩
            first | refine w_ldc rfl kn2 (by constructor) (by exact sz2.symm) (by exact ag2.symm) ?_ | refine w_ldp rfl kn2 rfl (by constructor) (by exact sz2.symm) (by exact ag2.symm) ?_
            refine w_neg rfl (by exact (w64 (n := 0 - (echGo p (D + 1) (mpS p n T v) n).O i D) (by omega) (by omega)).trans (show (0 : Int) - (echGo p (D + 1) (mpS p n T v) n).O i D = - (echGo p (D + 1) (mpS p n T v) n).O i D by omega)) ?_
            refine y_call rfl (ec (ec exn)) (c_l01Mod (x := - (echGo p (D + 1) (mpS p n T v) n).O i D) (by omega) (by omega)) ?_
            refine w_bsl1 und27 kn2 (by rw [sz2]; rfl) rfl (by constructor) (by first | exact trivial | exact cel_cap2) (by exact sz2.symm) (by first | exact trivial | exact ssh_vec | exact ⟨rfl, fun _ => trivial⟩) ?_
            refine w_app_o und27 rfl rfl kn2 rfl rfl (fun C h => ⟨rfl, rfl, rfl, h⟩) (by rw [by2]; omega) (by omega) rfl ?_
            refine w_assign (by constructor) ?_
            exact hRR
          apply lr tokTB (by kernel_rfl)
          · intro RR hRR
            refine w_move (by constructor) ?_
            refine y_add rfl rfl ?_
            refine w_assign (by constructor) ?_
            exact hRR
          refine ⟨i + 1, (fun k i => bif Nat.beq k 916 then (91, i) else (k, i)), ?_, (by omega), (by dsimp only; omega)⟩
          exact ⟨⟨m_calg, (by first | exact ⟨rfl, rfl, rfl, rfl⟩ | exact ⟨rfl, by omega, rfl, rfl⟩), (by first | exact ⟨rfl, rfl, rfl, rfl⟩ | exact ⟨rfl, by omega, rfl, rfl⟩), (mi), trivial⟩, ⟨⟨rfl, (sx), (by first | exact mt_vec (fun _ _ => rfl) | exact mt_mat (fun _ _ _ _ => rfl) | exact mt_tab (fun _ _ _ _ _ _ => rfl) | exact mt_arr0 | exact mt_app (fun _ _ => rfl) rfl | exact ⟨rfl, fun _ _ => mt_row (fun _ _ => rfl)⟩ | exact Mt_closed (V := _) closed_alg (fun _ _ _ => trivial) (by simp))⟩, ⟨rfl, (sx), (by exact mt_app (fun _ _ => rfl) (congrArg (AV.int .i64) (if_pos lt_i).symm))⟩, trivial⟩, ⟨⟨(fun h => by first | exact ⟨rfl, rfl⟩ | exact absurd h (by decide)), (fun h => by first | exact ⟨rfl, rfl⟩ | exact absurd h (by decide)), trivial⟩, ⟨(fun h => by first | exact ⟨rfl, rfl⟩ | exact absurd h (by decide)), (fun h => by first | exact ⟨rfl, rfl⟩ | exact absurd h (by decide)), trivial⟩, trivial⟩⟩
        · try simp only [hcs] at hc78
          have ge_i : D = i := by omega
          subst ge_i
          refine snd_exit ?_
          apply sr tokTB (by kernel_rfl)
          · intro RR hRR
            refine w_move (by constructor) ?_
            refine w_bsl1 und27 kn2 (by rw [sz2]; rfl) rfl (by constructor) (by first | exact trivial | exact cel_cap2) (by exact sz2.symm) (by first | exact trivial | exact ssh_vec | exact ⟨rfl, fun _ => trivial⟩) ?_
            refine w_app_o und27 rfl rfl kn2 rfl rfl (fun C h => ⟨rfl, rfl, rfl, h⟩) (by rw [by2]; omega) (by omega) rfl ?_
            refine w_assign (by constructor) ?_
            refine w_assign (by constructor) ?_
            exact hRR
          refine snd_ret ?_
          show retQ TB _ _ _ _ _ _
          show retQ TB _ _ _ _ _ _
          exact rt_own_u rfl (fun V => rfl) rfl rfl (fun _ => trivial) (fun V i hi => by rcases Nat.lt_or_ge i D with h | h; (rw [appF_lt h]; exact rfl); (obtain rfl : i = D := (by omega); rw [appF_ge (Nat.le_refl _) (by omega), Nat.sub_self]; exact congrArg (AV.int .i64) (if_neg (Nat.lt_irrefl _)).symm))
    · try simp only [hcs] at hc65
      have lt_k : k < D := by omega
      refine snd_skip ?_
      apply sr tokTB (by kernel_rfl)
      · intro RR hRR
        refine w_move (by constructor) ?_
        refine w_ldp rfl kn30 rfl (by constructor) (by exact sz30.symm) (by exact ag30.symm) ?_
        refine w_bsl1 und39 kn30 (by rw [sz30]; rfl) rfl (by constructor) (by first | exact trivial | exact cel_cap2) (by exact sz30.symm) (by first | exact trivial | exact ssh_vec | exact ⟨rfl, fun _ => trivial⟩) ?_
        refine w_app_o und39 rfl rfl kn30 rfl rfl (fun C h => ⟨rfl, rfl, rfl, h⟩) (by rw [by30]; omega) (by omega) rfl ?_
        refine w_assign (by constructor) ?_
        exact hRR
      apply lr tokTB (by kernel_rfl)
      · intro RR hRR
        refine w_ldc rfl kn32 (by constructor) (by exact sz32.symm) (by exact ag32.symm) ?_
        refine w_ldp rfl kn30 rfl (by constructor) (by exact sz30.symm) (by exact ag30.symm) ?_
        refine w_ldc rfl kn30 (by constructor) (by exact sz30.symm) (by exact ag30.symm) ?_
        refine y_call rfl (ec (ec (ec exn))) (c_l01Times (u := pw p n T v k) (v := v) (by omega) (by omega) hn6 hT8 (hPB k) hvB) ?_
        refine w_stw rfl (by constructor) kn30 rfl (by exact trivial) (sx) (by exact sz30.symm) ?_
        exact hRR
      apply lr tokTB (by kernel_rfl)
      · intro RR hRR
        refine w_move (by constructor) ?_
        refine y_add rfl rfl ?_
        refine w_assign (by constructor) ?_
        exact hRR
      refine ⟨k + 1, (fun k i => bif Nat.beq k 907 then (98, i) else (k, i)), ?_, (by omega), (by dsimp only; omega)⟩
      exact ⟨⟨m_calg, (m_cvec (fun _ _ => rfl)), (by first | exact ⟨rfl, rfl, rfl, rfl⟩ | exact ⟨rfl, by omega, rfl, rfl⟩), ⟨rfl, rfl, rfl, rfl, rfl⟩, (mi), trivial⟩, ⟨⟨rfl, (sx), (by exact mt_app' rfl (fun _ _ => mt_vec (fun _ _ => rfl)) (mt_vec (fun _ _ => rfl)))⟩, ⟨rfl, (sx), (by exact mt_vec (fun _ _ => rfl))⟩, trivial⟩, ⟨⟨(fun h => by first | exact ⟨rfl, rfl⟩ | exact absurd h (by decide)), (fun h => by first | exact ⟨rfl, rfl⟩ | exact absurd h (by decide)), trivial⟩, ⟨(fun h => by first | exact ⟨rfl, rfl⟩ | exact absurd h (by decide)), (fun h => by first | exact ⟨rfl, rfl⟩ | exact absurd h (by decide)), trivial⟩, trivial⟩⟩
theorem c_sMinimalPolynomial_no {p n : Int} {T : Nat → Nat → Nat → Int} {fo : Nat → Int} (hT : RB T) (hf : RV fo) {v : Nat → Int} (hv : B8 v) (hz : ¬ VZ p n T fo 1 (vs1 v)) : ACalls Try.prog TB 4 [algA p n T fo, vecA v] (.tup 2 (pairA .nilsl (.int .i64 1))) [] := by
  refine acalls_of tokTB Try.func4 rfl rfl (Nat.le_of_ble_eq_true rfl) ?_
  apply sr tokTB (by kernel_rfl)
  · intro RR hRR
    refine w_boxc (HV.eq (by constructor)) (by exact trivial) ?_
    refine w_boxc (HV.eq (by constructor)) (by exact trivial) ?_
    refine w_assign (by constructor) ?_
    refine w_assign (by constructor) ?_
    exact hRR
  refine snd_seq ?_
  apply sr tokTB (by kernel_rfl)
  · intro RR hRR
    refine w_ldc rfl kn32 (by constructor) (by exact sz32.symm) (by exact ag32.symm) ?_
    refine w_ldc rfl kn30 (by constructor) (by exact sz30.symm) (by exact ag30.symm) ?_
    refine w_bsl1 und39 kn30 (by rw [sz30]; rfl) rfl (by constructor) (by first | exact trivial | exact cel_cap2) (by exact sz30.symm) (by first | exact trivial | exact ssh_vec | exact ⟨rfl, fun _ => trivial⟩) ?_
    refine y_call rfl (exc exp_alg (exc (ex_l1 zr30 rfl) exn)) (c_l01Code1_no hT hf hv hz) ?_
    refine w_assign (by constructor) ?_
    exact hRR
  apply sr tokTB (by kernel_rfl)
  · intro RR hRR
    refine w_move (by constructor) ?_
    refine w_neq rfl rfl ?_
    exact hRR
  refine snd_cond_true rfl ?_
  apply sr tokTB (by kernel_rfl)
  · intro RR hRR
    refine w_move (by constructor) ?_
    refine w_assign (by constructor) ?_
    refine w_assign (by constructor) ?_
    exact hRR
  refine snd_ret ?_
  exact rt_tt (T := TB) (fun V => rfl) (fun V => rfl)
theorem c_iMinimalPolynomial_ok {p : Int} {n : Nat} {T : Nat → Nat → Nat → Int} {fo : Nat → Int} (hv0 : VN p n T fo) {v : Nat → Int} (hv : VV p n v) {D : Nat} (hD : MPd p n T v D) : ACalls Try.prog TB 7 [algA p (n : Int) T fo, vecA v] (.tup 2 (pairA (.own 0 0 (D + 1) 2) (.int .i64 0))) [(0, .one (Z64 (D + 1)) (C64 (D + 1) (fun j => if j < D then (- (echGo p (D + 1) (mpS p n T v) n).O j D) % p else 1)))] := by
  have hp8 := hv0.p0
  have hn6 := hv0.n6
  have hn0 := hv0.n0
  have hd1 := hD.d1
  have hdn := hD.dn
  have hT8 := hv0.T8
  have hPV := fun k => pw_VV hv0 v k
  have hPB : ∀ k, B8 (pw p n T v k) := fun k => B8_of (by omega) (hPV k).b
  have hvB : B8 v := B8_of (by omega) hv.b
  have hSB := mpS_Bp hv0 v
  have hIB := mpI_Bp hv0 v
  refine acalls_of tokTB Try.func7 rfl rfl (Nat.le_of_ble_eq_true rfl) ?_
  apply sr tokTB (by kernel_rfl)
  · intro RR hRR
    refine w_boxc (HV.eq (by constructor)) (by exact trivial) ?_
    refine w_boxc (HV.eq (by constructor)) (by exact trivial) ?_
    refine w_assign (by constructor) ?_
    refine w_assign (by constructor) ?_
    exact hRR
  refine snd_seq ?_
  apply sr tokTB (by kernel_rfl)
  · intro RR hRR
    refine w_ldc rfl kn32 (by constructor) (by exact sz32.symm) (by exact ag32.symm) ?_
    refine w_ldc rfl kn30 (by constructor) (by exact sz30.symm) (by exact ag30.symm) ?_
    refine w_bsl1 und39 kn30 (by rw [sz30]; rfl) rfl (by constructor) (by first | exact trivial | exact cel_cap2) (by exact sz30.symm) (by first | exact trivial | exact ssh_vec | exact ⟨rfl, fun _ => trivial⟩) ?_
    refine y_call rfl (exc exp_alg (exc (ex_l1 zr30 rfl) exn)) (c_valid1_ok hv0 hv) ?_
    refine w_assign (by constructor) ?_
    exact hRR
  apply sr tokTB (by kernel_rfl)
  · intro RR hRR
    refine w_move (by constructor) ?_
    refine w_neq rfl rfl ?_
    exact hRR
  refine snd_cond_false rfl ?_
  refine snd_skip ?_
  apply sr tokTB (by kernel_rfl)
  · intro RR hRR
    refine y_call rfl (ec exn) (c_unit hv0) ?_
    refine w_bsl1 und39 kn30 (by rw [sz30]; rfl) rfl (by constructor) (by first | exact trivial | exact cel_cap2) (by exact sz30.symm) (by first | exact trivial | exact ssh_vec | exact ⟨rfl, fun _ => trivial⟩) ?_
    refine w_assign (by constructor) ?_
    exact hRR
  refine snd_block ?_
  refine snd_loop (S := Nat) (fun k => ([(2, .cptr (algA p (n : Int) T fo)), (3, .cptr (vecA v)), (7, .own 907 0 (k + 1) 30)], [(907, .one (.arr (k + 1) (fun _ => TB.zero 30)) (.arr (k + 1) (fun r => vecA (pw p n T v r))))])) (fun k => k < D) (fun k => D - k) (0) (fun k i => bif Nat.beq k 907 then (24, i) else (k, i)) ?_ ?_ ?_
  · exact ⟨⟨m_calg, (m_cvec (fun _ _ => rfl)), (by first | exact ⟨rfl, rfl, rfl, rfl⟩ | exact ⟨rfl, by omega, rfl, rfl⟩), trivial⟩, ⟨⟨rfl, (sx), (by exact ⟨rfl, fun j hj => by obtain rfl : j = 0 := (by omega); exact mt_vec (fun _ _ => rfl)⟩)⟩, trivial⟩, ⟨⟨(fun h => by first | exact ⟨rfl, rfl⟩ | exact absurd h (by decide)), trivial⟩, trivial⟩⟩
  · exact hd1
  intro k hi0
  refine sq (env2 := [(2, .cptr (algA p (n : Int) T fo)), (3, .cptr (vecA v)), (7, .own 907 0 (k + 1) 30)]) (ol2 := [(907, .one (.arr (k + 1) (fun _ => TB.zero 30)) (.arr (k + 1) (fun r => vecA (pw p n T v r))))]) rfl rfl ?_
  refine snd_block ?_
  apply sdX tokTB mixed [6] (by kernel_rfl) (by kernel_rfl)
  · intro RR hRR
    show WOps _ _ _ _ _ _ _
    refine w_move (by constructor) ?_
    refine w_move (by constructor) ?_
    refine w_len_o rfl rfl und39 ?_
    refine w_sub rfl rfl (by exact (w64 (by omega) (by omega)).trans (show ((k + 1 : Nat) : Int) - 1 = (k : Int) by omega)) ?_
    refine w_iao rfl rfl und39 kn30 ?_ ?_
    · exact ⟨by omega, by omega⟩
    first | refine w_ldc rfl kn30 (by constructor) (by exact sz30.symm) (by exact ag30.symm) ?_ | refine w_ldp rfl kn30 rfl (by constructor) (by exact sz30.symm) (by exact ag30.symm) ?_
    show LoadC Try.prog TB _ _ _
    refine wx_ldc rfl kn30 (by constructor) (by exact sz30.symm) (by exact ag30.symm) ?_
    show WOps _ _ _ _ _ _ _
    refine y_call rfl (ec (ec (ec exn))) (c_times (u := pw p n T v k) (v := v) (by omega) (by omega) hn6 hT8 (hPB k) hvB) ?_
    refine w_alloc kn30 rfl zr30 ?_
    refine w_stw rfl (by constructor) kn30 rfl (by exact trivial) (sx) (by exact sz30.symm) ?_
    exact hRR
  apply sr tokTB (by kernel_rfl)
  · intro RR hRR
    refine w_bsl und41 kn27 (by rw [sz27]; rfl) rfl trivial trivial rfl ?_
    refine w_assign (by constructor) ?_
    exact hRR
  refine snd_seq ?_
  apply sr tokTB (by kernel_rfl)
  · intro RR hRR
    refine y_call rfl (ec exn) (c_n) ?_
    refine w_move (by constructor) ?_
    exact hRR
  refine snd_block ?_
  refine snd_loop (S := Nat) (fun x => ([(2, .cptr (algA p (n : Int) T fo)), (3, .cptr (vecA v)), (7, .own 907 0 (k + 1) 30), (8, .ptr 8 0 [] 0 (vecA (fun _ => 0))), (9, .own 905 0 x 27), (34, .int .i64 (n : Int)), (35, .int .i64 (x : Int))], [(905, .one (ZR (x)) (CO 1 (x) (fun _ => k + 1 + 1) 2)), (1, .many (famF (x) (fun _ => k + 1 + 1) (mpI p n T v (k + 1)))), (907, .one (.arr (k + 1) (fun _ => TB.zero 30)) (.arr (k + 1) (fun r => vecA (pw p n T v r)))), (8, .one (vecA (fun _ => 0)) (vecA (pw p n T v (k + 1))))])) (fun x => x ≤ n) (fun x => n - x) (0) (ρL [(905, 33), (907, 907), (8, 8)] 1 0 912) ?_ ?_ ?_
  · exact emb_famL (by decide) rfl rfl rfl rfl (fun j hj => absurd hj (by omega)) (fun h => absurd h (by omega)) (fun h => absurd h (by omega)) (fun r hr => absurd hr (by omega)) ⟨⟨_, rfl, ⟨rfl, fun _ => (sx)⟩, fun V => ⟨rfl, fun _ _ => mt_vec (fun _ _ => rfl)⟩⟩, ⟨_, rfl, (sx), fun V => mt_vec (fun _ _ => rfl)⟩, trivial⟩ ⟨m_calg, (m_cvec (fun _ _ => rfl)), (by first | exact ⟨rfl, rfl, rfl, rfl⟩ | exact ⟨rfl, by omega, rfl, rfl⟩), ⟨rfl, rfl, rfl, rfl, rfl⟩, (by first | exact ⟨rfl, rfl, rfl, rfl⟩ | exact ⟨rfl, by omega, rfl, rfl⟩), (mi), (mi), trivial⟩
  · exact Nat.zero_le _
  intro x hi2
  refine sq (env2 := [(2, .cptr (algA p (n : Int) T fo)), (3, .cptr (vecA v)), (7, .own 907 0 (k + 1) 30), (8, .ptr 8 0 [] 0 (vecA (fun _ => 0))), (9, .own 905 0 x 27), (34, .int .i64 (n : Int)), (35, .int .i64 (x : Int))]) (ol2 := [(905, .one (ZR (x)) (CO 1 (x) (fun _ => k + 1 + 1) 2)), (1, .many (famF (x) (fun _ => k + 1 + 1) (mpI p n T v (k + 1)))), (907, .one (.arr (k + 1) (fun _ => TB.zero 30)) (.arr (k + 1) (fun r => vecA (pw p n T v r)))), (8, .one (vecA (fun _ => 0)) (vecA (pw p n T v (k + 1))))]) rfl rfl ?_
  apply sr tokTB (by kernel_rfl)
  · intro RR hRR
    refine w_lss rfl rfl ?_
    exact hRR
  refine snd_seq ?_
  refine snd_cond _ rfl (fun hc36 => ?_) (fun hc36 => ?_)
  · try simp only [hcs] at hc36
    have lt_x : x < n := by omega
    refine snd_skip ?_
    refine snd_seq ?_
    refine snd_block ?_
    apply sr tokTB (by kernel_rfl)
    · intro RR hRR
      refine w_move (by constructor) ?_
      refine w_assign (by constructor) ?_
      exact hRR
    apply sr tokTB (by kernel_rfl)
    · intro RR hRR
      refine w_bsl und27 kn2 (by rw [sz2]; rfl) rfl trivial trivial rfl ?_
      refine w_assign (by constructor) ?_
      exact hRR
    refine snd_seq ?_
    apply sr tokTB (by kernel_rfl)
    · intro RR hRR
      refine w_move (by constructor) ?_
      refine w_len_o rfl rfl und39 ?_
      refine w_move (by constructor) ?_
      exact hRR
    refine snd_block ?_
    refine snd_loop (S := Nat) (fun i => ([(2, .cptr (algA p (n : Int) T fo)), (3, .cptr (vecA v)), (7, .own 907 0 (k + 1) 30), (8, .ptr 8 0 [] 0 (vecA (fun _ => 0))), (9, .own 905 0 x 27), (10, .int .i64 (x : Int)), (11, .own 909 0 i 2), (34, .int .i64 (n : Int)), (35, .int .i64 (x : Int)), (39, .own 907 0 (k + 1) 30), (40, .int .i64 (((k + 1) : Nat) : Int)), (41, .int .i64 (i : Int))], [(905, .one (ZR (x)) (CO 1 (x) (fun _ => k + 1 + 1) 2)), (1, .many (famF (x) (fun _ => k + 1 + 1) (mpI p n T v (k + 1)))), (907, .one (.arr (k + 1) (fun _ => TB.zero 30)) (.arr (k + 1) (fun r => vecA (pw p n T v r)))), (8, .one (vecA (fun _ => 0)) (vecA (pw p n T v (k + 1)))), (909, .one (Z64 (i)) (C64 (i) ((mpI p n T v (k + 1)) x)))])) (fun i => i ≤ (k + 1)) (fun i => (k + 1) - i) (0) (ρL [(905, 905), (907, 907), (8, 8), (909, 38)] 1 x 912) ?_ ?_ ?_
    · exact emb_famL (by decide) rfl rfl rfl rfl (fun j hj hne => rfl) (fun h => absurd h (by omega)) (fun h => absurd h (by omega)) (fun r hr hne => ⟨_, famF_at (w := (fun _ => k + 1 + 1)) (F := (mpI p n T v (k + 1))) (by omega), fun V => mt_vec (fun _ _ => rfl)⟩) ⟨⟨_, rfl, ⟨rfl, fun _ => (sx)⟩, fun V => ⟨rfl, fun _ _ => mt_vec (fun _ _ => rfl)⟩⟩, ⟨_, rfl, (sx), fun V => mt_vec (fun _ _ => rfl)⟩, ⟨_, rfl, ⟨rfl, fun _ => trivial⟩, fun V => mt_arr0⟩, trivial⟩ ⟨m_calg, (m_cvec (fun _ _ => rfl)), (by first | exact ⟨rfl, rfl, rfl, rfl⟩ | exact ⟨rfl, by omega, rfl, rfl⟩), ⟨rfl, rfl, rfl, rfl, rfl⟩, (by first | exact ⟨rfl, rfl, rfl, rfl⟩ | exact ⟨rfl, by omega, rfl, rfl⟩), (mi), (by first | exact ⟨rfl, rfl, rfl, rfl⟩ | exact ⟨rfl, by omega, rfl, rfl⟩), (mi), (mi), (by first | exact ⟨rfl, rfl, rfl, rfl⟩ | exact ⟨rfl, by omega, rfl, rfl⟩), (mi), (mi), trivial⟩
    · exact Nat.zero_le _
    intro i hi4
    refine sq (env2 := [(2, .cptr (algA p (n : Int) T fo)), (3, .cptr (vecA v)), (7, .own 907 0 (k + 1) 30), (8, .ptr 8 0 [] 0 (vecA (fun _ => 0))), (9, .own 905 0 x 27), (10, .int .i64 (x : Int)), (11, .own 909 0 i 2), (34, .int .i64 (n : Int)), (35, .int .i64 (x : Int)), (39, .own 907 0 (k + 1) 30), (40, .int .i64 (((k + 1) : Nat) : Int)), (41, .int .i64 (i : Int))]) (ol2 := [(905, .one (ZR (x)) (CO 1 (x) (fun _ => k + 1 + 1) 2)), (1, .many (famF (x) (fun _ => k + 1 + 1) (mpI p n T v (k + 1)))), (907, .one (.arr (k + 1) (fun _ => TB.zero 30)) (.arr (k + 1) (fun r => vecA (pw p n T v r)))), (8, .one (vecA (fun _ => 0)) (vecA (pw p n T v (k + 1)))), (909, .one (Z64 (i)) (C64 (i) ((mpI p n T v (k + 1)) x)))]) rfl rfl ?_
    apply sr tokTB (by kernel_rfl)
    · intro RR hRR
      refine w_lss rfl rfl ?_
      exact hRR
    refine snd_seq ?_
    refine snd_cond _ rfl (fun hc42 => ?_) (fun hc42 => ?_)
    · try simp only [hcs] at hc42
      have lt_i : i < (k + 1) := by omega
      refine snd_skip ?_
      refine snd_seq ?_
      refine snd_block ?_
      apply sr tokTB (by kernel_rfl)
      · intro RR hRR
        refine w_iao rfl rfl und39 kn30 ?_ ?_
        · exact ⟨by omega, by omega⟩
        first | refine w_ldc rfl kn30 (by constructor) (by exact sz30.symm) (by exact ag30.symm) ?_ | refine w_ldp rfl kn30 rfl (by constructor) (by exact sz30.symm) (by exact ag30.symm) ?_
        refine w_alloc kn30 rfl zr30 ?_
        refine w_stw rfl (by constructor) kn30 rfl (by exact trivial) (sx) (by exact sz30.symm) ?_
        exact hRR
      apply lr tokTB (by kernel_rfl)
      · intro RR hRR
        refine w_move (by constructor) ?_
        refine w_move (by constructor) ?_
        refine w_iap rfl rfl und30 kn5 rfl (by exact sz5.symm) rfl ?_ ?_
        · exact ⟨by omega, by omega⟩
        first | refine w_ldc rfl kn5 (by constructor) (by exact sz5.symm) (by exact ag5.symm) ?_ | refine w_ldp rfl kn5 rfl (by constructor) (by exact sz5.symm) (by exact ag5.symm) ?_
        refine w_conv rfl und5 und2 (by exact w64b (hPB i) _) ?_
        refine w_bsl1 und27 kn2 (by rw [sz2]; rfl) rfl (by constructor) (by first | exact trivial | exact cel_cap2) (by exact sz2.symm) (by first | exact trivial | exact ssh_vec | exact ⟨rfl, fun _ => trivial⟩) ?_
        refine w_app_o und27 rfl rfl kn2 rfl rfl (fun C h => ⟨rfl, rfl, rfl, h⟩) (by rw [by2]; omega) (by omega) rfl ?_
        refine w_assign (by constructor) ?_
        exact hRR
      apply lr tokTB (by kernel_rfl)
      · intro RR hRR
        refine y_add rfl rfl ?_
        refine w_move (by constructor) ?_
        exact hRR
      refine ⟨i + 1, (ρL [(905, 905), (907, 907), (8, 8), (909, 51)] 1 x 912), ?_, (by omega), (by dsimp only; omega)⟩
      exact emb_famL (by decide) rfl rfl rfl rfl (fun j hj hne => rfl) (fun h => absurd h (by omega)) (fun h => absurd h (by omega)) (fun r hr hne => ⟨_, famF_at (w := (fun _ => k + 1 + 1)) (F := (mpI p n T v (k + 1))) (by omega), fun V => mt_vec (fun _ _ => rfl)⟩) ⟨⟨_, rfl, ⟨rfl, fun _ => (sx)⟩, fun V => ⟨rfl, fun _ _ => mt_vec (fun _ _ => rfl)⟩⟩, ⟨_, rfl, (sx), fun V => mt_vec (fun _ _ => rfl)⟩, ⟨_, rfl, ⟨rfl, fun _ => trivial⟩, fun V => by exact mt_app (fun _ _ => rfl) (congrArg (AV.int .i64) (if_pos lt_i).symm)⟩, trivial⟩ ⟨m_calg, (m_cvec (fun _ _ => rfl)), (by first | exact ⟨rfl, rfl, rfl, rfl⟩ | exact ⟨rfl, by omega, rfl, rfl⟩), ⟨rfl, rfl, rfl, rfl, rfl⟩, (by first | exact ⟨rfl, rfl, rfl, rfl⟩ | exact ⟨rfl, by omega, rfl, rfl⟩), (mi), (by first | exact ⟨rfl, rfl, rfl, rfl⟩ | exact ⟨rfl, by omega, rfl, rfl⟩), (mi), (mi), (by first | exact ⟨rfl, rfl, rfl, rfl⟩ | exact ⟨rfl, by omega, rfl, rfl⟩), (mi), (mi), trivial⟩
    · try simp only [hcs] at hc42
      have ge_i : (k + 1) = i := by omega
      subst ge_i
      refine snd_exit ?_
      apply ldX tokTB mixed [] (by kernel_rfl) (by kernel_rfl)
      · intro RR hRR
        show WOps _ _ _ _ _ _ _
        refine w_move (by constructor) ?_
        refine w_move (by constructor) ?_
        refine w_move (by constructor) ?_
        refine w_iap rfl rfl und30 kn5 rfl (by exact sz5.symm) rfl ?_ ?_
        · exact ⟨by omega, by omega⟩
        first | refine w_ldc rfl kn5 (by constructor) (by exact sz5.symm) (by exact ag5.symm) ?_ | refine w_ldp rfl kn5 rfl (by constructor) (by exact sz5.symm) (by exact ag5.symm) ?_
        refine w_conv rfl und5 und2 (by exact w64b (hPB (k + 1)) _) ?_
        refine w_neg rfl (by have := hPB (k + 1) x; exact (w64 (n := 0 - pw p n T v (k + 1) x) (by omega) (by omega)).trans (show (0 : Int) - pw p n T v (k + 1) x = - pw p n T v (k + 1) x by omega)) ?_
        refine w_fac rfl und32 rfl kn2 nz2 (by decide) rfl (by constructor) ?_
        refine w_ldc rfl kn2 (by constructor) (by exact sz2.symm) (by exact ag2.symm) ?_
        refine y_call rfl (ec (ec exn)) (c_rest (x := - pw p n T v (k + 1) x) (by omega) (by omega)) ?_
        refine w_bsl1 und27 kn2 (by rw [sz2]; rfl) rfl (by constructor) (by first | exact trivial | exact cel_cap2) (by exact sz2.symm) (by first | exact trivial | exact ssh_vec | exact ⟨rfl, fun _ => trivial⟩) ?_
        refine w_app_o und27 rfl rfl kn2 rfl rfl (fun C h => ⟨rfl, rfl, rfl, h⟩) (by rw [by2]; omega) (by omega) rfl ?_
        refine w_bsl1 und41 kn27 (by rw [sz27]; rfl) rfl (by constructor) (by first | exact trivial | exact cel_cap2) (by exact sz27.symm) (by first | exact trivial | exact ssh_vec | exact ⟨rfl, fun _ => trivial⟩) ?_
        refine w_app_o und41 rfl rfl kn27 rfl rfl (fun C h => ⟨rfl, rfl, rfl, h⟩) (by rw [by27]; omega) (by omega) rfl ?_
        refine w_assign (by constructor) ?_
        exact hRR
      apply lr tokTB (by kernel_rfl)
      · intro RR hRR
        refine y_add rfl rfl ?_
        refine w_move (by constructor) ?_
        exact hRR
      refine ⟨x + 1, (ρL [(905, 66), (907, 907), (8, 8)] 1 x 64), ?_, (by omega), (by dsimp only; omega)⟩
      exact emb_famL (by decide) rfl rfl rfl rfl (fun j hj hne => appF_lt (by omega)) (fun h => (appF_ge (Nat.le_refl _) (by omega)).trans (by rw [Nat.sub_self]; rfl)) (fun h => ⟨_, rfl, fun V => by exact mt_app (fun _ _ => rfl) (congrArg (AV.int .i64) (if_neg (Nat.lt_irrefl _)).symm)⟩) (fun r hr hne => ⟨_, famF_at (w := (fun _ => k + 1 + 1)) (F := (mpI p n T v (k + 1))) (by omega), fun V => mt_vec (fun _ _ => rfl)⟩) ⟨⟨_, rfl, ⟨rfl, fun _ => (sx)⟩, fun V => ⟨rfl, fun _ _ => mt_vec (fun _ _ => rfl)⟩⟩, ⟨_, rfl, (sx), fun V => mt_vec (fun _ _ => rfl)⟩, trivial⟩ ⟨m_calg, (m_cvec (fun _ _ => rfl)), (by first | exact ⟨rfl, rfl, rfl, rfl⟩ | exact ⟨rfl, by omega, rfl, rfl⟩), ⟨rfl, rfl, rfl, rfl, rfl⟩, (by first | exact ⟨rfl, rfl, rfl, rfl⟩ | exact ⟨rfl, by omega, rfl, rfl⟩), (mi), (mi), trivial⟩
  · try simp only [hcs] at hc36
    have ge_x : n = x := by omega
    subst ge_x
    refine snd_exit ?_
    refine snd_seq ?_
    rcases Nat.lt_or_ge (k + 1) D with lt_k | ge_k
    · skip
      apply sr tokTB (by kernel_rfl)
      · intro RR hRR
        refine w_move (by constructor) ?_
        refine w_move (by constructor) ?_
        refine w_len_o rfl rfl und39 ?_
        refine w_fac rfl und32 rfl kn2 nz2 (by decide) rfl (by constructor) ?_
        refine w_ldc rfl kn2 (by constructor) (by exact sz2.symm) (by exact ag2.symm) ?_
        refine y_call rfl rfl ((c_solve_no (n := k + 1) (N := n) (S := (mpI p n T v (k + 1))) hv0.hp (by omega) (by omega) (hIB (k + 1)) (hD.i_n (k + 1) lt_k)).mt ⟨mt_fam0 (w := (fun _ => k + 1 + 1)) (F := (mpI p n T v (k + 1))) rfl (fun r hr => famF_at (w := (fun _ => k + 1 + 1)) hr) (fun _ _ => rfl) (fun _ _ _ _ => rfl), mt_int0, mt_int0, trivial⟩) ?_
        refine w_move (by constructor) ?_
        refine w_ext rfl (by decide) (by constructor) ?_
        refine w_ext rfl (by decide) (by constructor) ?_
        refine w_assign (by constructor) ?_
        refine w_assign (by constructor) ?_
        exact hRR
      apply sr tokTB (by kernel_rfl)
      · intro RR hRR
        refine w_move (by constructor) ?_
        exact hRR
      refine snd_cond_false rfl ?_
      refine snd_skip ?_
      apply lr tokTB (by kernel_rfl)
      · intro RR hRR
        refine w_move (by constructor) ?_
        refine w_ldp rfl kn30 rfl (by constructor) (by exact sz30.symm) (by exact ag30.symm) ?_
        refine w_bsl1 und39 kn30 (by rw [sz30]; rfl) rfl (by constructor) (by first | exact trivial | exact cel_cap2) (by exact sz30.symm) (by first | exact trivial | exact ssh_vec | exact ⟨rfl, fun _ => trivial⟩) ?_
        refine w_app_o und39 rfl rfl kn30 rfl rfl (fun C h => ⟨rfl, rfl, rfl, h⟩) (by rw [by30]; omega) (by omega) rfl ?_
        refine w_assign (by constructor) ?_
        exact hRR
      refine ⟨k + 1, (fun k i => bif Nat.beq k 907 then (84, i) else (k, i)), ?_, (by omega), (by dsimp only; omega)⟩
      exact ⟨⟨m_calg, (m_cvec (fun _ _ => rfl)), (by first | exact ⟨rfl, rfl, rfl, rfl⟩ | exact ⟨rfl, by omega, rfl, rfl⟩), trivial⟩, ⟨⟨rfl, (sx), (by exact mt_app' rfl (fun _ _ => mt_vec (fun _ _ => rfl)) (mt_vec (fun _ _ => rfl)))⟩, trivial⟩, ⟨⟨(fun h => by first | exact ⟨rfl, rfl⟩ | exact absurd h (by decide)), trivial⟩, trivial⟩⟩
    · skip
      have hDk : D = k + 1 := by omega
      apply sr tokTB (by kernel_rfl)
      · intro RR hRR
        refine w_move (by constructor) ?_
        refine w_move (by constructor) ?_
        refine w_len_o rfl rfl und39 ?_
        refine w_fac rfl und32 rfl kn2 nz2 (by decide) rfl (by constructor) ?_
        refine w_ldc rfl kn2 (by constructor) (by exact sz2.symm) (by exact ag2.symm) ?_
        refine w_call rfl rfl ((c_solve_ok (n := k + 1) (N := n) (S := (mpI p n T v (k + 1))) hv0.hp (by omega) (by omega) (hIB (k + 1)) (hDk ▸ hD.iy)).mt ⟨mt_fam0 (w := (fun _ => k + 1 + 1)) (F := (mpI p n T v (k + 1))) rfl (fun r hr => famF_at (w := (fun _ => k + 1 + 1)) hr) (fun _ _ => rfl) (fun _ _ _ _ => rfl), mt_int0, mt_int0, trivial⟩) (.inl ⟨nr_pair trivial trivial, ⟨fun _ => trivial, trivial⟩⟩) rfl (by constructor) rfl ?_
        refine w_move (by constructor) ?_
        refine w_ext rfl (by decide) (by constructor) ?_
        refine w_ext rfl (by decide) (by constructor) ?_
        refine w_assign (by constructor) ?_
        refine w_assign (by constructor) ?_
        exact hRR
      apply sr tokTB (by kernel_rfl)
      · intro RR hRR
        refine w_move (by constructor) ?_
        exact hRR
      refine snd_cond_true rfl ?_
      apply sr tokTB (by kernel_rfl)
      · intro RR hRR
        refine w_move (by constructor) ?_
        refine w_bsl1 und27 kn2 (by rw [sz2]; rfl) rfl (by constructor) (by first | exact trivial | exact cel_cap2) (by exact sz2.symm) (by first | exact trivial | exact ssh_vec | exact ⟨rfl, fun _ => trivial⟩) ?_
        refine w_app_o und27 rfl rfl kn2 rfl rfl (fun C h => ⟨rfl, rfl, rfl, h⟩) (by rw [by2]; omega) (by omega) rfl ?_
        refine w_assign (by constructor) ?_
        refine w_assign (by constructor) ?_
        exact hRR
      refine snd_ret ?_
      show retQ TB _ _ _ _ _ _
      subst hDk
      show retQ TB _ _ _ _ _ _
      exact rt_own_u rfl (fun V => rfl) rfl rfl (fun _ => trivial) (fun V i hi => by rcases Nat.lt_or_ge i (k + 1) with h | h; (rw [appF_lt h]; exact congrArg (AV.int .i64) ((hD.out i h).trans (if_pos h).symm)); (obtain rfl : i = k + 1 := (by omega); rw [appF_ge (Nat.le_refl _) (by omega), Nat.sub_self]; exact congrArg (AV.int .i64) (if_neg (Nat.lt_irrefl _)).symm))
theorem c_iMinimalPolynomial_no {p n : Int} {T : Nat → Nat → Nat → Int} {fo : Nat → Int} (hT : RB T) (hf : RV fo) {v : Nat → Int} (hv : B8 v) (hz : ¬ VZ p n T fo 1 (vs1 v)) : ACalls Try.prog TB 7 [algA p n T fo, vecA v] (.tup 2 (pairA .nilsl (.int .i64 1))) [] := by
  refine acalls_of tokTB Try.func7 rfl rfl (Nat.le_of_ble_eq_true rfl) ?_
  apply sr tokTB (by kernel_rfl)
  · intro RR hRR
    refine w_boxc (HV.eq (by constructor)) (by exact trivial) ?_
    refine w_boxc (HV.eq (by constructor)) (by exact trivial) ?_
    refine w_assign (by constructor) ?_
    refine w_assign (by constructor) ?_
    exact hRR
  refine snd_seq ?_
  apply sr tokTB (by kernel_rfl)
  · intro RR hRR
    refine w_ldc rfl kn32 (by constructor) (by exact sz32.symm) (by exact ag32.symm) ?_
    refine w_ldc rfl kn30 (by constructor) (by exact sz30.symm) (by exact ag30.symm) ?_
    refine w_bsl1 und39 kn30 (by rw [sz30]; rfl) rfl (by constructor) (by first | exact trivial | exact cel_cap2) (by exact sz30.symm) (by first | exact trivial | exact ssh_vec | exact ⟨rfl, fun _ => trivial⟩) ?_
    refine y_call rfl (exc exp_alg (exc (ex_l1 zr30 rfl) exn)) (c_valid1_no hT hf hv hz) ?_
    refine w_assign (by constructor) ?_
    exact hRR
  apply sr tokTB (by kernel_rfl)
  · intro RR hRR
    refine w_move (by constructor) ?_
    refine w_neq rfl rfl ?_
    exact hRR
  refine snd_cond_true rfl ?_
  apply sr tokTB (by kernel_rfl)
  · intro RR hRR
    refine w_move (by constructor) ?_
    refine w_assign (by constructor) ?_
    refine w_assign (by constructor) ?_
    exact hRR
  refine snd_ret ?_
  exact rt_tt (T := TB) (fun V => rfl) (fun V => rfl)
end Go.Am

set_option linter.unusedVariables false
set_option linter.unusedSimpArgs false
set_option maxRecDepth 4000
namespace Go.Am
attribute [local irreducible] retQ retQp
open Go.Proofs
theorem lMinimalPolynomial_ok {p : Int} {n : Nat} {T : Nat → Nat → Nat → Int} {fo : Nat → Int} (hv0 : VN p n T fo) {v : Nat → Int} (hv : VV p n v) {D : Nat} (hD : MPd p n T v D) : ACalls Try.prog TB 3 [algA p (n : Int) T fo, vecA v] (.bool true) [] := by
  refine acalls_of tokTB Try.func3 rfl rfl (Nat.le_of_ble_eq_true rfl) ?_
  apply sr tokTB (by kernel_rfl)
  · intro RR hRR
    refine w_boxc (HV.eq (by constructor)) (by exact trivial) ?_
    refine w_boxc (HV.eq (by constructor)) (by exact trivial) ?_
    refine w_assign (by constructor) ?_
    exact hRR
  apply sd tokTB mixed (by kernel_rfl) (by kernel_rfl)
  · intro RR hRR
    refine w_ldc rfl kn26 (by constructor) (by exact sz26.symm) (by exact ag26.symm) ?_
    refine y_call rfl (ec exn) (c_toAlgebra) ?_
    refine w_ldc rfl kn22 (by constructor) (by exact sz22.symm) (by exact ag22.symm) ?_
    refine y_call rfl (ec exn) (c_toVector) ?_
    refine w_call rfl (ec (ec exn)) (c_sMinimalPolynomial_ok hv0 hv hD) (.inl ⟨nr_pair trivial trivial, ⟨fun _ => trivial, trivial⟩⟩) rfl (by constructor) rfl ?_
    refine w_move (by constructor) ?_
    refine w_ext rfl (by decide) (by constructor) ?_
    refine w_ext rfl (by decide) (by constructor) ?_
    refine w_assign (by constructor) ?_
    refine w_assign (by constructor) ?_
    exact hRR
  apply sd tokTB mixed (by kernel_rfl) (by kernel_rfl)
  · intro RR hRR
    refine w_ldc rfl kn26 (by constructor) (by exact sz26.symm) (by exact ag26.symm) ?_
    refine y_call rfl (ec exn) (c_toAlgebra) ?_
    refine w_ldc rfl kn22 (by constructor) (by exact sz22.symm) (by exact ag22.symm) ?_
    refine y_call rfl (ec exn) (c_toVector) ?_
    refine w_call rfl (ec (ec exn)) (c_iMinimalPolynomial_ok hv0 hv hD) (.inl ⟨nr_pair trivial trivial, ⟨fun _ => trivial, trivial⟩⟩) rfl (by constructor) rfl ?_
    refine w_move (by constructor) ?_
    refine w_ext rfl (by decide) (by constructor) ?_
    refine w_ext rfl (by decide) (by constructor) ?_
    refine w_assign (by constructor) ?_
    refine w_assign (by constructor) ?_
    exact hRR
  refine snd_seq ?_
  apply srG (env' := (37, .bool (!true || decide ((0 : Int) ≠ 0))) :: (36, .any) :: (35, .any) :: (34, .any) :: (33, _) :: (32, _) :: (31, _) :: (30, _) :: (29, _) :: _) tokTB (by kernel_rfl)
  · intro RR hRR
    refine w_move (by constructor) ?_
    refine w_move (by constructor) ?_
    refine y_call rfl rfl ((c_eqInt64S (m := (D + 1)) (f := (fun j => if j < D then (- (echGo p (D + 1) (mpS p n T v) n).O j D) % p else 1)) (g := (fun j => if j < D then (- (echGo p (D + 1) (mpS p n T v) n).O j D) % p else 1)) (by have := hD.dn; have := hv0.n6; omega) (fun _ _ => rfl)).mt ⟨mt_row0 rfl, mt_row0 rfl, trivial⟩) ?_
    refine w_not rfl ?_
    refine w_move (by constructor) ?_
    refine w_g rfl rfl (fun hg4 => ?_) (fun hg4 => ?_)
    · skip
      refine w_move (by constructor) ?_
      refine w_g_on rfl rfl hg4 ?_
      refine w_move (by constructor) ?_
      refine w_g_on rfl rfl hg4 ?_
      refine w_neq rfl rfl ?_
      refine w_pick_0 rfl hg4 (by constructor) ?_
      try simp only [Int.toNat_natCast] at hg4
      exact hRR _ (EL.cons (.inr (by first | rfl | (simp only [hg4, els]; done) | (simp only [hg4, els]; rfl) | simp [hg4])) (EL.cons (.inl rfl) (EL.cons (.inl rfl) (EL.cons (.inl rfl) (EL.cons (.inr rfl) (EL.cons (.inr rfl) (EL.cons (.inr rfl) (EL.cons (.inr rfl) (EL.cons (.inr rfl) (EL.refl _))))))))))
    · have hg4 := eq_true_of_ne_false hg4
      refine w_g_off rfl rfl (by rw [hg4]; decide) ?_
      refine w_g_off rfl rfl (by rw [hg4]; decide) ?_
      refine w_pick_1 rfl hg4 (by constructor) ?_
      try simp only [Int.toNat_natCast] at hg4
      exact hRR _ (EL.cons (.inr (by first | rfl | (simp only [hg4, els]; done) | (simp only [hg4, els]; rfl) | simp [hg4])) (EL.cons (.inl rfl) (EL.cons (.inl rfl) (EL.cons (.inl rfl) (EL.cons (.inr rfl) (EL.cons (.inr rfl) (EL.cons (.inr rfl) (EL.cons (.inr rfl) (EL.cons (.inr rfl) (EL.refl _))))))))))
  refine snd_cond _ rfl (fun hc37 => ?_) (fun hc37 => ?_)
  · skip
    exact absurd hc37 (by simp)
  · skip
    refine snd_skip ?_
    apply sr tokTB (by kernel_rfl)
    · intro RR hRR
      refine w_assign (by constructor) ?_
      exact hRR
    apply srD tokTB (ops1 := [_, _]) (ops2 := [_]) (by kernel_rfl) rfl rfl
    · intro RR hRR
      refine w_move (by constructor) ?_
      refine w_move (by constructor) ?_
      exact hRR
    · exact mut_mid1 tokTB (c_markInt64S (m := (D + 1)) (f := (fun j => if j < D then (- (echGo p (D + 1) (mpS p n T v) n).O j D) % p else 1)) (k := 1) (by have := hD.dn; have := hv0.n6; omega) (by omega)) (args := [.tmp 39]) (k := 27000) (i := 0) rfl rfl ⟨trivial, trivial⟩ trivial (fun _ => trivial) (fun _ => trivial) rfl
    · intro RR hRR
      refine w_assign (by constructor) ?_
      exact hRR
    apply sr tokTB (by kernel_rfl)
    · intro RR hRR
      refine w_assign (by constructor) ?_
      exact hRR
    apply sr tokTB (by kernel_rfl)
    · intro RR hRR
      refine w_move (by constructor) ?_
      refine w_move (by constructor) ?_
      refine y_call rfl rfl ((c_heldInt64S (m := (D + 1)) (f := fun j => 1 + (j : Nat)) (k := 1) (by have := hD.dn; have := hv0.n6; omega) (by omega) (fun j _ => rfl)).mt ⟨mt_row0 rfl, mt_int0, trivial⟩) ?_
      refine w_assign (by constructor) ?_
      exact hRR
    refine snd_seq ?_
    apply sr tokTB (by kernel_rfl)
    · intro RR hRR
      refine w_move (by constructor) ?_
      refine w_lss rfl rfl ?_
      exact hRR
    refine snd_cond_false (by exact congrArg AV.bool (decide_eq_false (by omega))) ?_
    refine snd_skip ?_
    refine snd_seq ?_
    apply sr tokTB (by kernel_rfl)
    · intro RR hRR
      refine w_move (by constructor) ?_
      refine w_move (by constructor) ?_
      refine w_neq rfl rfl ?_
      exact hRR
    refine snd_cond_false (by exact congrArg AV.bool (decide_eq_false (by simp))) ?_
    refine snd_skip ?_
    apply sd tokTB mixed (by kernel_rfl) (by kernel_rfl)
    · intro RR hRR
      refine w_ldc rfl kn26 (by constructor) (by exact sz26.symm) (by exact ag26.symm) ?_
      refine y_call rfl (ec exn) (c_toAlgebra) ?_
      refine w_ldc rfl kn22 (by constructor) (by exact sz22.symm) (by exact ag22.symm) ?_
      refine y_call rfl (ec exn) (c_toVector) ?_
      refine w_call rfl (ec (ec exn)) (c_iMinimalPolynomial_ok hv0 hv hD) (.inl ⟨nr_pair trivial trivial, ⟨fun _ => trivial, trivial⟩⟩) rfl (by constructor) rfl ?_
      refine w_move (by constructor) ?_
      refine w_ext rfl (by decide) (by constructor) ?_
      refine w_ext rfl (by decide) (by constructor) ?_
      refine w_assign (by constructor) ?_
      refine w_assign (by constructor) ?_
      exact hRR
    refine snd_seq ?_
    apply srG (env' := (65, .bool (!true || decide ((0 : Int) ≠ 0))) :: (64, .any) :: (63, .any) :: (62, .any) :: (61, _) :: (60, _) :: (59, _) :: (58, _) :: (57, _) :: _) tokTB (by kernel_rfl)
    · intro RR hRR
      refine w_move (by constructor) ?_
      refine w_move (by constructor) ?_
      refine y_call rfl rfl ((c_eqInt64S (m := (D + 1)) (f := (fun j => if j < D then (- (echGo p (D + 1) (mpS p n T v) n).O j D) % p else 1)) (g := (fun j => if j < D then (- (echGo p (D + 1) (mpS p n T v) n).O j D) % p else 1)) (by have := hD.dn; have := hv0.n6; omega) (fun _ _ => rfl)).mt ⟨mt_row0 rfl, mt_row0 rfl, trivial⟩) ?_
      refine w_not rfl ?_
      refine w_move (by constructor) ?_
      refine w_g rfl rfl (fun hg4 => ?_) (fun hg4 => ?_)
      · skip
        refine w_move (by constructor) ?_
        refine w_g_on rfl rfl hg4 ?_
        refine w_move (by constructor) ?_
        refine w_g_on rfl rfl hg4 ?_
        refine w_neq rfl rfl ?_
        refine w_pick_0 rfl hg4 (by constructor) ?_
        try simp only [Int.toNat_natCast] at hg4
        exact hRR _ (EL.cons (.inr (by first | rfl | (simp only [hg4, els]; done) | (simp only [hg4, els]; rfl) | simp [hg4])) (EL.cons (.inl rfl) (EL.cons (.inl rfl) (EL.cons (.inl rfl) (EL.cons (.inr rfl) (EL.cons (.inr rfl) (EL.cons (.inr rfl) (EL.cons (.inr rfl) (EL.cons (.inr rfl) (EL.refl _))))))))))
      · have hg4 := eq_true_of_ne_false hg4
        refine w_g_off rfl rfl (by rw [hg4]; decide) ?_
        refine w_g_off rfl rfl (by rw [hg4]; decide) ?_
        refine w_pick_1 rfl hg4 (by constructor) ?_
        try simp only [Int.toNat_natCast] at hg4
        exact hRR _ (EL.cons (.inr (by first | rfl | (simp only [hg4, els]; done) | (simp only [hg4, els]; rfl) | simp [hg4])) (EL.cons (.inl rfl) (EL.cons (.inl rfl) (EL.cons (.inl rfl) (EL.cons (.inr rfl) (EL.cons (.inr rfl) (EL.cons (.inr rfl) (EL.cons (.inr rfl) (EL.cons (.inr rfl) (EL.refl _))))))))))
    refine snd_cond _ rfl (fun hc65 => ?_) (fun hc65 => ?_)
    · skip
      exact absurd hc65 (by simp)
    · skip
      refine snd_skip ?_
      apply sr tokTB (by kernel_rfl)
      · intro RR hRR
        refine w_assign (by constructor) ?_
        exact hRR
      apply sr tokTB (by kernel_rfl)
      · intro RR hRR
        refine w_move (by constructor) ?_
        refine w_move (by constructor) ?_
        refine y_call rfl rfl ((c_heldInt64S (m := (D + 1)) (f := fun j => 1 + (j : Nat)) (k := 1) (by have := hD.dn; have := hv0.n6; omega) (by omega) (fun j _ => rfl)).mt ⟨mt_row0 rfl, mt_int0, trivial⟩) ?_
        refine w_assign (by constructor) ?_
        exact hRR
      refine snd_seq ?_
      apply sr tokTB (by kernel_rfl)
      · intro RR hRR
        refine w_move (by constructor) ?_
        refine w_lss rfl rfl ?_
        exact hRR
      refine snd_cond_false (by exact congrArg AV.bool (decide_eq_false (by omega))) ?_
      refine snd_skip ?_
      refine snd_seq ?_
      apply sr tokTB (by kernel_rfl)
      · intro RR hRR
        refine w_move (by constructor) ?_
        refine w_move (by constructor) ?_
        refine w_neq rfl rfl ?_
        exact hRR
      refine snd_cond_false (by exact congrArg AV.bool (decide_eq_false (by simp))) ?_
      refine snd_skip ?_
      apply sr tokTB (by kernel_rfl)
      · intro RR hRR
        refine w_assign (by constructor) ?_
        exact hRR
      refine snd_ret ?_
      exact rt (T := TB) (fun V => rfl)
theorem lMinimalPolynomial_no {p n : Int} {T : Nat → Nat → Nat → Int} {fo : Nat → Int} (hT : RB T) (hf : RV fo) {v : Nat → Int} (hv : B8 v) (hz : ¬ VZ p n T fo 1 (vs1 v)) : ACalls Try.prog TB 3 [algA p n T fo, vecA v] (.bool true) [] := by
  refine acalls_of tokTB Try.func3 rfl rfl (Nat.le_of_ble_eq_true rfl) ?_
  apply sr tokTB (by kernel_rfl)
  · intro RR hRR
    refine w_boxc (HV.eq (by constructor)) (by exact trivial) ?_
    refine w_boxc (HV.eq (by constructor)) (by exact trivial) ?_
    refine w_assign (by constructor) ?_
    exact hRR
  apply sd tokTB mixed (by kernel_rfl) (by kernel_rfl)
  · intro RR hRR
    refine w_ldc rfl kn26 (by constructor) (by exact sz26.symm) (by exact ag26.symm) ?_
    refine y_call rfl (ec exn) (c_toAlgebra) ?_
    refine w_ldc rfl kn22 (by constructor) (by exact sz22.symm) (by exact ag22.symm) ?_
    refine y_call rfl (ec exn) (c_toVector) ?_
    refine y_call rfl (ec (ec exn)) (c_sMinimalPolynomial_no hT hf hv hz) ?_
    refine w_move (by constructor) ?_
    refine w_ext rfl (by decide) (by constructor) ?_
    refine w_ext rfl (by decide) (by constructor) ?_
    refine w_assign (by constructor) ?_
    refine w_assign (by constructor) ?_
    exact hRR
  apply sd tokTB mixed (by kernel_rfl) (by kernel_rfl)
  · intro RR hRR
    refine w_ldc rfl kn26 (by constructor) (by exact sz26.symm) (by exact ag26.symm) ?_
    refine y_call rfl (ec exn) (c_toAlgebra) ?_
    refine w_ldc rfl kn22 (by constructor) (by exact sz22.symm) (by exact ag22.symm) ?_
    refine y_call rfl (ec exn) (c_toVector) ?_
    refine y_call rfl (ec (ec exn)) (c_iMinimalPolynomial_no hT hf hv hz) ?_
    refine w_move (by constructor) ?_
    refine w_ext rfl (by decide) (by constructor) ?_
    refine w_ext rfl (by decide) (by constructor) ?_
    refine w_assign (by constructor) ?_
    refine w_assign (by constructor) ?_
    exact hRR
  refine snd_seq ?_
  apply srG (env' := (37, .bool (!true || decide ((1 : Int) ≠ 1))) :: (36, .any) :: (35, .any) :: (34, .any) :: (33, _) :: (32, _) :: (31, _) :: (30, _) :: (29, _) :: _) tokTB (by kernel_rfl)
  · intro RR hRR
    refine w_move (by constructor) ?_
    refine w_move (by constructor) ?_
    refine y_call rfl rfl ((c_eqInt64S (m := 0) (f := (fun _ => 0)) (g := (fun _ => 0)) (by omega) (fun i h => absurd h (by omega))).mt ⟨mt_nil0, mt_nil0, trivial⟩) ?_
    refine w_not rfl ?_
    refine w_move (by constructor) ?_
    refine w_g rfl rfl (fun hg4 => ?_) (fun hg4 => ?_)
    · skip
      refine w_move (by constructor) ?_
      refine w_g_on rfl rfl hg4 ?_
      refine w_move (by constructor) ?_
      refine w_g_on rfl rfl hg4 ?_
      refine w_neq rfl rfl ?_
      refine w_pick_0 rfl hg4 (by constructor) ?_
      try simp only [Int.toNat_natCast] at hg4
      exact hRR _ (EL.cons (.inr (by first | rfl | (simp only [hg4, els]; done) | (simp only [hg4, els]; rfl) | simp [hg4])) (EL.cons (.inl rfl) (EL.cons (.inl rfl) (EL.cons (.inl rfl) (EL.cons (.inr rfl) (EL.cons (.inr rfl) (EL.cons (.inr rfl) (EL.cons (.inr rfl) (EL.cons (.inr rfl) (EL.refl _))))))))))
    · have hg4 := eq_true_of_ne_false hg4
      refine w_g_off rfl rfl (by rw [hg4]; decide) ?_
      refine w_g_off rfl rfl (by rw [hg4]; decide) ?_
      refine w_pick_1 rfl hg4 (by constructor) ?_
      try simp only [Int.toNat_natCast] at hg4
      exact hRR _ (EL.cons (.inr (by first | rfl | (simp only [hg4, els]; done) | (simp only [hg4, els]; rfl) | simp [hg4])) (EL.cons (.inl rfl) (EL.cons (.inl rfl) (EL.cons (.inl rfl) (EL.cons (.inr rfl) (EL.cons (.inr rfl) (EL.cons (.inr rfl) (EL.cons (.inr rfl) (EL.cons (.inr rfl) (EL.refl _))))))))))
  refine snd_cond _ rfl (fun hc37 => ?_) (fun hc37 => ?_)
  · skip
    exact absurd hc37 (by simp)
  · skip
    refine snd_skip ?_
    apply sr tokTB (by kernel_rfl)
    · intro RR hRR
      refine w_assign (by constructor) ?_
      exact hRR
    apply sr tokTB (by kernel_rfl)
    · intro RR hRR
      refine w_move (by constructor) ?_
      refine w_move (by constructor) ?_
      refine y_call rfl (ec (ec exn)) (c_markNilInt64S (k := 1)) ?_
      refine w_assign (by constructor) ?_
      exact hRR
    apply sr tokTB (by kernel_rfl)
    · intro RR hRR
      refine w_assign (by constructor) ?_
      exact hRR
    apply sr tokTB (by kernel_rfl)
    · intro RR hRR
      refine w_move (by constructor) ?_
      refine w_move (by constructor) ?_
      refine y_call rfl rfl ((c_heldInt64S (m := 0) (f := (fun _ => 0)) (k := 1) (by omega) (by omega) (fun i h => absurd h (by omega))).mt ⟨mt_nil0, mt_int0, trivial⟩) ?_
      refine w_assign (by constructor) ?_
      exact hRR
    refine snd_seq ?_
    apply sr tokTB (by kernel_rfl)
    · intro RR hRR
      refine w_move (by constructor) ?_
      refine w_lss rfl rfl ?_
      exact hRR
    refine snd_cond_false (by exact congrArg AV.bool (decide_eq_false (by omega))) ?_
    refine snd_skip ?_
    refine snd_seq ?_
    apply sr tokTB (by kernel_rfl)
    · intro RR hRR
      refine w_move (by constructor) ?_
      refine w_move (by constructor) ?_
      refine w_neq rfl rfl ?_
      exact hRR
    refine snd_cond_false (by exact congrArg AV.bool (decide_eq_false (by simp))) ?_
    refine snd_skip ?_
    apply sd tokTB mixed (by kernel_rfl) (by kernel_rfl)
    · intro RR hRR
      refine w_ldc rfl kn26 (by constructor) (by exact sz26.symm) (by exact ag26.symm) ?_
      refine y_call rfl (ec exn) (c_toAlgebra) ?_
      refine w_ldc rfl kn22 (by constructor) (by exact sz22.symm) (by exact ag22.symm) ?_
      refine y_call rfl (ec exn) (c_toVector) ?_
      refine y_call rfl (ec (ec exn)) (c_iMinimalPolynomial_no hT hf hv hz) ?_
      refine w_move (by constructor) ?_
      refine w_ext rfl (by decide) (by constructor) ?_
      refine w_ext rfl (by decide) (by constructor) ?_
      refine w_assign (by constructor) ?_
      refine w_assign (by constructor) ?_
      exact hRR
    refine snd_seq ?_
    apply srG (env' := (65, .bool (!true || decide ((1 : Int) ≠ 1))) :: (64, .any) :: (63, .any) :: (62, .any) :: (61, _) :: (60, _) :: (59, _) :: (58, _) :: (57, _) :: _) tokTB (by kernel_rfl)
    · intro RR hRR
      refine w_move (by constructor) ?_
      refine w_move (by constructor) ?_
      refine y_call rfl rfl ((c_eqInt64S (m := 0) (f := (fun _ => 0)) (g := (fun _ => 0)) (by omega) (fun i h => absurd h (by omega))).mt ⟨mt_nil0, mt_nil0, trivial⟩) ?_
      refine w_not rfl ?_
      refine w_move (by constructor) ?_
      refine w_g rfl rfl (fun hg4 => ?_) (fun hg4 => ?_)
      · skip
        refine w_move (by constructor) ?_
        refine w_g_on rfl rfl hg4 ?_
        refine w_move (by constructor) ?_
        refine w_g_on rfl rfl hg4 ?_
        refine w_neq rfl rfl ?_
        refine w_pick_0 rfl hg4 (by constructor) ?_
        try simp only [Int.toNat_natCast] at hg4
        exact hRR _ (EL.cons (.inr (by first | rfl | (simp only [hg4, els]; done) | (simp only [hg4, els]; rfl) | simp [hg4])) (EL.cons (.inl rfl) (EL.cons (.inl rfl) (EL.cons (.inl rfl) (EL.cons (.inr rfl) (EL.cons (.inr rfl) (EL.cons (.inr rfl) (EL.cons (.inr rfl) (EL.cons (.inr rfl) (EL.refl _))))))))))
      · have hg4 := eq_true_of_ne_false hg4
        refine w_g_off rfl rfl (by rw [hg4]; decide) ?_
        refine w_g_off rfl rfl (by rw [hg4]; decide) ?_
        refine w_pick_1 rfl hg4 (by constructor) ?_
        try simp only [Int.toNat_natCast] at hg4
        exact hRR _ (EL.cons (.inr (by first | rfl | (simp only [hg4, els]; done) | (simp only [hg4, els]; rfl) | simp [hg4])) (EL.cons (.inl rfl) (EL.cons (.inl rfl) (EL.cons (.inl rfl) (EL.cons (.inr rfl) (EL.cons (.inr rfl) (EL.cons (.inr rfl) (EL.cons (.inr rfl) (EL.cons (.inr rfl) (EL.refl _))))))))))
    refine snd_cond _ rfl (fun hc65 => ?_) (fun hc65 => ?_)
    · skip
      exact absurd hc65 (by simp)
    · skip
      refine snd_skip ?_
      apply sr tokTB (by kernel_rfl)
      · intro RR hRR
        refine w_assign (by constructor) ?_
        exact hRR
      apply sr tokTB (by kernel_rfl)
      · intro RR hRR
        refine w_move (by constructor) ?_
        refine w_move (by constructor) ?_
        refine y_call rfl rfl ((c_heldInt64S (m := 0) (f := (fun _ => 0)) (k := 1) (by omega) (by omega) (fun i h => absurd h (by omega))).mt ⟨mt_nil0, mt_int0, trivial⟩) ?_
        refine w_assign (by constructor) ?_
        exact hRR
      refine snd_seq ?_
      apply sr tokTB (by kernel_rfl)
      · intro RR hRR
        refine w_move (by constructor) ?_
        refine w_lss rfl rfl ?_
        exact hRR
      refine snd_cond_false (by exact congrArg AV.bool (decide_eq_false (by omega))) ?_
      refine snd_skip ?_
      refine snd_seq ?_
      apply sr tokTB (by kernel_rfl)
      · intro RR hRR
        refine w_move (by constructor) ?_
        refine w_move (by constructor) ?_
        refine w_neq rfl rfl ?_
        exact hRR
      refine snd_cond_false (by exact congrArg AV.bool (decide_eq_false (by simp))) ?_
      refine snd_skip ?_
      apply sr tokTB (by kernel_rfl)
      · intro RR hRR
        refine w_assign (by constructor) ?_
        exact hRR
      refine snd_ret ?_
      exact rt (T := TB) (fun V => rfl)
theorem law_MinimalPolynomial {p n : Int} {T : Nat → Nat → Nat → Int} {fo : Nat → Int} {v : Nat → Int} (hT : RB T) (hf : RV fo) (hv : RV v) : ACalls Try.prog TB 3 [algA p n T fo, vecA v] (.bool true) [] := by
  by_cases hz : VZ p n T fo 1 (vs1 v)
  · obtain ⟨h1, h2⟩ := VZ_1.1 hz
    obtain ⟨hv0, hn⟩ := VN_of hT hf h1
    obtain ⟨m, rfl⟩ : ∃ m : Nat, n = (m : Int) := ⟨n.toNat, hn⟩
    have hv0 : VN p m T fo := hv0
    have hp0 : 0 < p := by have := hv0.p0; omega
    have hvV := (VV_of hp0 hv0.n6 hv h2)
    obtain ⟨D, hD⟩ := mp_ex hv0 hvV
    exact lMinimalPolynomial_ok hv0 hvV hD
  · exact lMinimalPolynomial_no hT hf hv.b hz
end Go.Am

