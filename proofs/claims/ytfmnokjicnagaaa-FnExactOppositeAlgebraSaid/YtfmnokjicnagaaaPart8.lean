/- Part 8 of what the law stands on: abstract values, their walk, contracts of functions. My own work. Conditions: none. -/
import Derived.Test.YtfmnokjicnagaaaPart4
import Derived.Test.YtfmnokjicnagaaaPart3
import Derived.Test.YtfmnokjicnagaaaPart7
set_option linter.unusedVariables false
set_option linter.unusedSimpArgs false
set_option maxRecDepth 4000
namespace Go.Am
attribute [local irreducible] retQ
open Go.Proofs
theorem c_valid0_ok {p : Int} {n : Nat} {T : Nat → Nat → Nat → Int} {fo : Nat → Int} (hv0 : VN p n T fo) : ACalls Try.prog TB 57 [algA p (n : Int) T fo, .nilsl] (.int .i64 0) [] := by
  have hp : p ≤ 256 := by have := hv0.p0; omega
  have h := c_valid0 hv0.rb hv0.rv (p := p) (n := (n : Int)) (T := T) (fo := fo)
  rwa [cZ_ok (VZ_0.2 hv0.va)] at h
theorem c_valid0_no {p n : Int} {T : Nat → Nat → Nat → Int} {fo : Nat → Int} (hT : RB T) (hf : RV fo) (hz : ¬ VZ p n T fo 0 (fun _ _ => 0)) : ACalls Try.prog TB 57 [algA p n T fo, .nilsl] (.int .i64 1) [] := by
  have h := c_valid0 hT hf (p := p) (n := n) (T := T) (fo := fo)
  rwa [cZ_no hz] at h
theorem c_valid1_ok {p : Int} {n : Nat} {T : Nat → Nat → Nat → Int} {fo : Nat → Int} (hv0 : VN p n T fo) {v : Nat → Int} (hv : VV p n v) : ACalls Try.prog TB 57 [algA p (n : Int) T fo, vlA 1 (vs1 v)] (.int .i64 0) [] := by
  have hp : p ≤ 256 := by have := hv0.p0; omega
  have h := c_valid hv0.rb hv0.rv (M := 1) (by omega) (vs1_B8 (hv.B8 hp)) (p := p) (n := (n : Int)) (T := T) (fo := fo)
  rwa [cZ_ok (VZ_1.2 ⟨hv0.va, hv.sm⟩)] at h
theorem c_valid1_no {p n : Int} {T : Nat → Nat → Nat → Int} {fo : Nat → Int} (hT : RB T) (hf : RV fo) {v : Nat → Int} (hv : B8 v) (hz : ¬ VZ p n T fo 1 (vs1 v)) : ACalls Try.prog TB 57 [algA p n T fo, vlA 1 (vs1 v)] (.int .i64 1) [] := by
  have h := c_valid hT hf (M := 1) (by omega) (vs1_B8 hv) (p := p) (n := n) (T := T) (fo := fo)
  rwa [cZ_no hz] at h
theorem c_valid2_ok {p : Int} {n : Nat} {T : Nat → Nat → Nat → Int} {fo : Nat → Int} (hv0 : VN p n T fo) {v : Nat → Int} (hv : VV p n v) {w : Nat → Int} (hw : VV p n w) : ACalls Try.prog TB 57 [algA p (n : Int) T fo, vlA 2 (vs2 v w)] (.int .i64 0) [] := by
  have hp : p ≤ 256 := by have := hv0.p0; omega
  have h := c_valid hv0.rb hv0.rv (M := 2) (by omega) (vs2_B8 (hv.B8 hp) (hw.B8 hp)) (p := p) (n := (n : Int)) (T := T) (fo := fo)
  rwa [cZ_ok (VZ_2.2 ⟨hv0.va, hv.sm, hw.sm⟩)] at h
theorem c_valid2_no {p n : Int} {T : Nat → Nat → Nat → Int} {fo : Nat → Int} (hT : RB T) (hf : RV fo) {v : Nat → Int} (hv : B8 v) {w : Nat → Int} (hw : B8 w) (hz : ¬ VZ p n T fo 2 (vs2 v w)) : ACalls Try.prog TB 57 [algA p n T fo, vlA 2 (vs2 v w)] (.int .i64 1) [] := by
  have h := c_valid hT hf (M := 2) (by omega) (vs2_B8 hv hw) (p := p) (n := n) (T := T) (fo := fo)
  rwa [cZ_no hz] at h
theorem c_l01Code0_ok {p : Int} {n : Nat} {T : Nat → Nat → Nat → Int} {fo : Nat → Int} (hv0 : VN p n T fo) : ACalls Try.prog TB 54 [algA p (n : Int) T fo, .nilsl] (.int .i64 0) [] := by
  have hp : p ≤ 256 := by have := hv0.p0; omega
  have h := c_l01Code0 hv0.rb hv0.rv (p := p) (n := (n : Int)) (T := T) (fo := fo)
  rwa [cZ_ok (VZ_0.2 hv0.va)] at h
theorem c_l01Code0_no {p n : Int} {T : Nat → Nat → Nat → Int} {fo : Nat → Int} (hT : RB T) (hf : RV fo) (hz : ¬ VZ p n T fo 0 (fun _ _ => 0)) : ACalls Try.prog TB 54 [algA p n T fo, .nilsl] (.int .i64 1) [] := by
  have h := c_l01Code0 hT hf (p := p) (n := n) (T := T) (fo := fo)
  rwa [cZ_no hz] at h
theorem c_l01Code1_ok {p : Int} {n : Nat} {T : Nat → Nat → Nat → Int} {fo : Nat → Int} (hv0 : VN p n T fo) {v : Nat → Int} (hv : VV p n v) : ACalls Try.prog TB 54 [algA p (n : Int) T fo, vlA 1 (vs1 v)] (.int .i64 0) [] := by
  have hp : p ≤ 256 := by have := hv0.p0; omega
  have h := c_l01Code hv0.rb hv0.rv (M := 1) (by omega) (vs1_B8 (hv.B8 hp)) (p := p) (n := (n : Int)) (T := T) (fo := fo)
  rwa [cZ_ok (VZ_1.2 ⟨hv0.va, hv.sm⟩)] at h
theorem c_l01Code1_no {p n : Int} {T : Nat → Nat → Nat → Int} {fo : Nat → Int} (hT : RB T) (hf : RV fo) {v : Nat → Int} (hv : B8 v) (hz : ¬ VZ p n T fo 1 (vs1 v)) : ACalls Try.prog TB 54 [algA p n T fo, vlA 1 (vs1 v)] (.int .i64 1) [] := by
  have h := c_l01Code hT hf (M := 1) (by omega) (vs1_B8 hv) (p := p) (n := n) (T := T) (fo := fo)
  rwa [cZ_no hz] at h
theorem c_l01Code2_ok {p : Int} {n : Nat} {T : Nat → Nat → Nat → Int} {fo : Nat → Int} (hv0 : VN p n T fo) {v : Nat → Int} (hv : VV p n v) {w : Nat → Int} (hw : VV p n w) : ACalls Try.prog TB 54 [algA p (n : Int) T fo, vlA 2 (vs2 v w)] (.int .i64 0) [] := by
  have hp : p ≤ 256 := by have := hv0.p0; omega
  have h := c_l01Code hv0.rb hv0.rv (M := 2) (by omega) (vs2_B8 (hv.B8 hp) (hw.B8 hp)) (p := p) (n := (n : Int)) (T := T) (fo := fo)
  rwa [cZ_ok (VZ_2.2 ⟨hv0.va, hv.sm, hw.sm⟩)] at h
theorem c_l01Code2_no {p n : Int} {T : Nat → Nat → Nat → Int} {fo : Nat → Int} (hT : RB T) (hf : RV fo) {v : Nat → Int} (hv : B8 v) {w : Nat → Int} (hw : B8 w) (hz : ¬ VZ p n T fo 2 (vs2 v w)) : ACalls Try.prog TB 54 [algA p n T fo, vlA 2 (vs2 v w)] (.int .i64 1) [] := by
  have h := c_l01Code hT hf (M := 2) (by omega) (vs2_B8 hv hw) (p := p) (n := n) (T := T) (fo := fo)
  rwa [cZ_no hz] at h

end Go.Am
set_option linter.unusedVariables false
set_option linter.unusedSimpArgs false
set_option maxRecDepth 4000
namespace Go.Am
attribute [local irreducible] retQ
open Go.Proofs
theorem c_eqVector {u v : Nat → Int} : ACalls Try.prog TB 23 [vecA u, vecA v] (.bool (decide (eqN 6 u v))) [] := by
  refine acalls_of tokTB Try.func23 rfl rfl (Nat.le_of_ble_eq_true rfl) ?_
  apply sr tokTB (by kernel_rfl)
  · intro RR hRR
    refine w_boxc (HV.eq (by constructor)) (by exact trivial) ?_
    refine w_boxc (HV.eq (by constructor)) (by exact trivial) ?_
    refine w_assign (by constructor) ?_
    exact hRR
  refine snd_seq ?_
  apply sr tokTB (by kernel_rfl)
  · intro RR hRR
    refine w_assign (by constructor) ?_
    exact hRR
  refine snd_block ?_
  refine snd_loop (S := Nat) (fun i => ([(2, .cptr (vecA u)), (3, .cptr (vecA v)), (5, .int .i64 (i : Int))], [])) (fun i => i ≤ 6 ∧ (∀ a, a < i → u a = v a)) (fun i => 6 - i) (0) ρ0 ?_ ?_ ?_
  · exact ⟨⟨(m_cvec (fun _ _ => rfl)), (m_cvec (fun _ _ => rfl)), (by first | exact m_int rfl | exact m_int (by omega) | exact m_int (by simp; done) | (exact m_int (by simp; omega))), trivial⟩, trivial, trivial⟩
  · exact ⟨Nat.zero_le _, fun j hj => absurd hj (Nat.not_lt_zero _)⟩
  intro i hi0
  refine sq (env2 := [(2, .cptr (vecA u)), (3, .cptr (vecA v)), (5, .int .i64 (i : Int))]) (ol2 := []) rfl rfl ?_
  obtain ⟨le_i, inv_i⟩ := hi0
  refine snd_seq ?_
  apply sr tokTB (by kernel_rfl)
  · intro RR hRR
    refine w_move (by constructor) ?_
    refine w_lss rfl rfl ?_
    exact hRR
  refine snd_cond _ rfl (fun hc7 => ?_) (fun hc7 => ?_)
  · try simp only [hcs] at hc7
    have lt_i : i < 6 := by omega
    refine snd_skip ?_
    refine snd_seq ?_
    refine snd_block ?_
    apply sd tokTB mixed (by kernel_rfl) (by kernel_rfl)
    · intro RR hRR
      refine w_move (by constructor) ?_
      refine w_iac rfl rfl und29 kn5 (by exact sz5.symm) ?_ rfl ?_
      · exact ⟨by omega, by omega⟩
      first | refine w_ldc rfl kn5 (by constructor) (by exact sz5.symm) (by exact ag5.symm) ?_ | refine w_ldp rfl kn5 rfl (by constructor) (by exact sz5.symm) (by exact ag5.symm) ?_
      refine w_move (by constructor) ?_
      refine w_iac rfl rfl und29 kn5 (by exact sz5.symm) ?_ rfl ?_
      · exact ⟨by omega, by omega⟩
      first | refine w_ldc rfl kn5 (by constructor) (by exact sz5.symm) (by exact ag5.symm) ?_ | refine w_ldp rfl kn5 rfl (by constructor) (by exact sz5.symm) (by exact ag5.symm) ?_
      refine w_neq rfl rfl ?_
      exact hRR
    refine snd_cond _ rfl (fun hc16 => ?_) (fun hc16 => ?_)
    · skip
      apply sr tokTB (by kernel_rfl)
      · intro RR hRR
        refine w_assign (by constructor) ?_
        exact hRR
      refine snd_ret ?_
      exact rt (T := TB) (fun V => m_bool (by symm; rw [decide_eq_false_iff_not]; intro h; exact of_decide_eq_true hc16 (h i (by omega))))
    · skip
      refine snd_skip ?_
      apply lr tokTB (by kernel_rfl)
      · intro RR hRR
        refine w_move (by constructor) ?_
        refine y_add rfl rfl ?_
        refine w_assign (by constructor) ?_
        exact hRR
      refine ⟨i + 1, ρ0, ?_, ⟨by omega, all_step inv_i (Classical.not_not.1 (of_decide_eq_false hc16))⟩, (by dsimp only; omega)⟩
      exact ⟨⟨(m_cvec (fun _ _ => rfl)), (m_cvec (fun _ _ => rfl)), (by first | exact m_int rfl | exact m_int (by omega) | exact m_int (by simp; done) | (exact m_int (by simp; omega))), trivial⟩, trivial, trivial⟩
  · try simp only [hcs] at hc7
    have ge_i : 6 = i := by omega
    subst ge_i
    refine snd_exit ?_
    apply sr tokTB (by kernel_rfl)
    · intro RR hRR
      refine w_assign (by constructor) ?_
      exact hRR
    refine snd_ret ?_
    exact rt (T := TB) (fun V => m_bool (by symm; rw [decide_eq_true_eq]; exact inv_i))
end Go.Am
set_option linter.unusedVariables false
set_option linter.unusedSimpArgs false
set_option maxRecDepth 4000
namespace Go.Am
attribute [local irreducible] retQ retQp
open Go.Proofs
theorem c_eqByteA6 {v : Nat → Int} : ACalls Try.prog TB 132 [vecA v, vecA v] (.bool true) [] := by
  refine acalls_of tokTB Try.func132 rfl rfl (Nat.le_of_ble_eq_true rfl) ?_
  apply sr tokTB (by kernel_rfl)
  · intro RR hRR
    refine w_boxc (HV.eq (by constructor)) (by exact trivial) ?_
    refine w_boxc (HV.eq (by constructor)) (by exact trivial) ?_
    refine w_assign (by constructor) ?_
    exact hRR
  refine snd_seq ?_
  apply sr tokTB (by kernel_rfl)
  · intro RR hRR
    refine w_assign (by constructor) ?_
    exact hRR
  refine snd_block ?_
  refine snd_loop (S := Nat) (fun i => ([(2, .cptr (vecA v)), (3, .cptr (vecA v)), (5, .int .i64 (i : Int))], [])) (fun i => i ≤ 6) (fun i => 6 - i) (0) ρ0 ?_ ?_ ?_
  · exact ⟨⟨(m_cvec (fun _ _ => rfl)), (m_cvec (fun _ _ => rfl)), (by first | exact m_int rfl | exact m_int (by omega) | exact m_int (by simp; done) | (exact m_int (by simp; omega))), trivial⟩, trivial, trivial⟩
  · exact Nat.zero_le _
  intro i hi0
  refine sq (env2 := [(2, .cptr (vecA v)), (3, .cptr (vecA v)), (5, .int .i64 (i : Int))]) (ol2 := []) rfl rfl ?_
  refine snd_seq ?_
  apply sr tokTB (by kernel_rfl)
  · intro RR hRR
    refine w_move (by constructor) ?_
    refine w_lss rfl rfl ?_
    exact hRR
  refine snd_cond _ rfl (fun hc7 => ?_) (fun hc7 => ?_)
  · try simp only [hcs] at hc7
    have lt_i : i < 6 := by omega
    refine snd_skip ?_
    refine snd_seq ?_
    refine snd_block ?_
    apply sd tokTB mixed (by kernel_rfl) (by kernel_rfl)
    · intro RR hRR
      refine w_move (by constructor) ?_
      refine w_iac rfl rfl und22 kn5 (by exact sz5.symm) ?_ rfl ?_
      · exact ⟨by omega, by omega⟩
      first | refine w_ldc rfl kn5 (by constructor) (by exact sz5.symm) (by exact ag5.symm) ?_ | refine w_ldp rfl kn5 rfl (by constructor) (by exact sz5.symm) (by exact ag5.symm) ?_
      refine w_move (by constructor) ?_
      refine w_iac rfl rfl und22 kn5 (by exact sz5.symm) ?_ rfl ?_
      · exact ⟨by omega, by omega⟩
      first | refine w_ldc rfl kn5 (by constructor) (by exact sz5.symm) (by exact ag5.symm) ?_ | refine w_ldp rfl kn5 rfl (by constructor) (by exact sz5.symm) (by exact ag5.symm) ?_
      refine w_neq rfl rfl ?_
      exact hRR
    refine snd_cond_false (by exact congrArg AV.bool (decide_eq_false (by simp))) ?_
    refine snd_skip ?_
    apply lr tokTB (by kernel_rfl)
    · intro RR hRR
      refine w_move (by constructor) ?_
      refine y_add rfl rfl ?_
      refine w_assign (by constructor) ?_
      exact hRR
    refine ⟨i + 1, ρ0, ?_, (by omega), (by dsimp only; omega)⟩
    exact ⟨⟨(m_cvec (fun _ _ => rfl)), (m_cvec (fun _ _ => rfl)), (by first | exact m_int rfl | exact m_int (by omega) | exact m_int (by simp; done) | (exact m_int (by simp; omega))), trivial⟩, trivial, trivial⟩
  · try simp only [hcs] at hc7
    have ge_i : 6 = i := by omega
    subst ge_i
    refine snd_exit ?_
    apply sr tokTB (by kernel_rfl)
    · intro RR hRR
      refine w_assign (by constructor) ?_
      exact hRR
    refine snd_ret ?_
    exact rt (T := TB) (fun V => rfl)
theorem c_eqByteA6A6 {M : Nat → Nat → Int} : ACalls Try.prog TB 106 [matA M, matA M] (.bool true) [] := by
  refine acalls_of tokTB Try.func106 rfl rfl (Nat.le_of_ble_eq_true rfl) ?_
  apply sr tokTB (by kernel_rfl)
  · intro RR hRR
    refine w_boxc (HV.eq (by constructor)) (by exact trivial) ?_
    refine w_boxc (HV.eq (by constructor)) (by exact trivial) ?_
    refine w_assign (by constructor) ?_
    exact hRR
  refine snd_seq ?_
  apply sr tokTB (by kernel_rfl)
  · intro RR hRR
    refine w_assign (by constructor) ?_
    exact hRR
  refine snd_block ?_
  refine snd_loop (S := Nat) (fun i => ([(2, .cptr (matA M)), (3, .cptr (matA M)), (5, .int .i64 (i : Int))], [])) (fun i => i ≤ 6) (fun i => 6 - i) (0) ρ0 ?_ ?_ ?_
  · exact ⟨⟨(by exact Mt_closed (V := _) (by first | exact fun _ _ => trivial | exact fun _ _ _ => trivial) (fun _ _ _ => trivial) (by simp)), (by exact Mt_closed (V := _) (by first | exact fun _ _ => trivial | exact fun _ _ _ => trivial) (fun _ _ _ => trivial) (by simp)), (by first | exact m_int rfl | exact m_int (by omega) | exact m_int (by simp; done) | (exact m_int (by simp; omega))), trivial⟩, trivial, trivial⟩
  · exact Nat.zero_le _
  intro i hi0
  refine sq (env2 := [(2, .cptr (matA M)), (3, .cptr (matA M)), (5, .int .i64 (i : Int))]) (ol2 := []) rfl rfl ?_
  refine snd_seq ?_
  apply sr tokTB (by kernel_rfl)
  · intro RR hRR
    refine w_move (by constructor) ?_
    refine w_lss rfl rfl ?_
    exact hRR
  refine snd_cond _ rfl (fun hc7 => ?_) (fun hc7 => ?_)
  · try simp only [hcs] at hc7
    have lt_i : i < 6 := by omega
    refine snd_skip ?_
    refine snd_seq ?_
    refine snd_block ?_
    apply sd tokTB mixed (by kernel_rfl) (by kernel_rfl)
    · intro RR hRR
      refine w_move (by constructor) ?_
      refine w_iac rfl rfl und23 kn22 (by exact sz22.symm) ?_ rfl ?_
      · exact ⟨by omega, by omega⟩
      refine w_ldc rfl kn22 (by constructor) (by exact sz22.symm) (by exact ag22.symm) ?_
      refine w_move (by constructor) ?_
      refine w_iac rfl rfl und23 kn22 (by exact sz22.symm) ?_ rfl ?_
      · exact ⟨by omega, by omega⟩
      refine w_ldc rfl kn22 (by constructor) (by exact sz22.symm) (by exact ag22.symm) ?_
      refine y_call rfl (ec (ec exn)) (c_eqByteA6 (v := M i)) ?_
      refine w_not rfl ?_
      exact hRR
    refine snd_cond_false (by exact rfl) ?_
    refine snd_skip ?_
    apply lr tokTB (by kernel_rfl)
    · intro RR hRR
      refine w_move (by constructor) ?_
      refine y_add rfl rfl ?_
      refine w_assign (by constructor) ?_
      exact hRR
    refine ⟨i + 1, ρ0, ?_, (by omega), (by dsimp only; omega)⟩
    exact ⟨⟨(by exact Mt_closed (V := _) (by first | exact fun _ _ => trivial | exact fun _ _ _ => trivial) (fun _ _ _ => trivial) (by simp)), (by exact Mt_closed (V := _) (by first | exact fun _ _ => trivial | exact fun _ _ _ => trivial) (fun _ _ _ => trivial) (by simp)), (by first | exact m_int rfl | exact m_int (by omega) | exact m_int (by simp; done) | (exact m_int (by simp; omega))), trivial⟩, trivial, trivial⟩
  · try simp only [hcs] at hc7
    have ge_i : 6 = i := by omega
    subst ge_i
    refine snd_exit ?_
    apply sr tokTB (by kernel_rfl)
    · intro RR hRR
      refine w_assign (by constructor) ?_
      exact hRR
    refine snd_ret ?_
    exact rt (T := TB) (fun V => rfl)
theorem c_eqByteA6A6A6 {T : T3} : ACalls Try.prog TB 67 [tabA T, tabA T] (.bool true) [] := by
  refine acalls_of tokTB Try.func67 rfl rfl (Nat.le_of_ble_eq_true rfl) ?_
  apply sr tokTB (by kernel_rfl)
  · intro RR hRR
    refine w_boxc (HV.eq (by constructor)) (by exact trivial) ?_
    refine w_boxc (HV.eq (by constructor)) (by exact trivial) ?_
    refine w_assign (by constructor) ?_
    exact hRR
  refine snd_seq ?_
  apply sr tokTB (by kernel_rfl)
  · intro RR hRR
    refine w_assign (by constructor) ?_
    exact hRR
  refine snd_block ?_
  refine snd_loop (S := Nat) (fun i => ([(2, .cptr (tabA T)), (3, .cptr (tabA T)), (5, .int .i64 (i : Int))], [])) (fun i => i ≤ 6) (fun i => 6 - i) (0) ρ0 ?_ ?_ ?_
  · exact ⟨⟨(by exact Mt_closed (V := _) (by first | exact fun _ _ => trivial | exact fun _ _ _ => trivial) (fun _ _ _ => trivial) (by simp)), (by exact Mt_closed (V := _) (by first | exact fun _ _ => trivial | exact fun _ _ _ => trivial) (fun _ _ _ => trivial) (by simp)), (by first | exact m_int rfl | exact m_int (by omega) | exact m_int (by simp; done) | (exact m_int (by simp; omega))), trivial⟩, trivial, trivial⟩
  · exact Nat.zero_le _
  intro i hi0
  refine sq (env2 := [(2, .cptr (tabA T)), (3, .cptr (tabA T)), (5, .int .i64 (i : Int))]) (ol2 := []) rfl rfl ?_
  refine snd_seq ?_
  apply sr tokTB (by kernel_rfl)
  · intro RR hRR
    refine w_move (by constructor) ?_
    refine w_lss rfl rfl ?_
    exact hRR
  refine snd_cond _ rfl (fun hc7 => ?_) (fun hc7 => ?_)
  · try simp only [hcs] at hc7
    have lt_i : i < 6 := by omega
    refine snd_skip ?_
    refine snd_seq ?_
    refine snd_block ?_
    apply sd tokTB mixed (by kernel_rfl) (by kernel_rfl)
    · intro RR hRR
      refine w_move (by constructor) ?_
      refine w_iac rfl rfl und24 kn23 (by exact sz23.symm) ?_ rfl ?_
      · exact ⟨by omega, by omega⟩
      refine w_ldc rfl kn23 (by constructor) (by exact sz23.symm) (by exact ag23.symm) ?_
      refine w_move (by constructor) ?_
      refine w_iac rfl rfl und24 kn23 (by exact sz23.symm) ?_ rfl ?_
      · exact ⟨by omega, by omega⟩
      refine w_ldc rfl kn23 (by constructor) (by exact sz23.symm) (by exact ag23.symm) ?_
      refine y_call rfl (ec (ec exn)) (c_eqByteA6A6 (M := T i)) ?_
      refine w_not rfl ?_
      exact hRR
    refine snd_cond_false (by exact rfl) ?_
    refine snd_skip ?_
    apply lr tokTB (by kernel_rfl)
    · intro RR hRR
      refine w_move (by constructor) ?_
      refine y_add rfl rfl ?_
      refine w_assign (by constructor) ?_
      exact hRR
    refine ⟨i + 1, ρ0, ?_, (by omega), (by dsimp only; omega)⟩
    exact ⟨⟨(by exact Mt_closed (V := _) (by first | exact fun _ _ => trivial | exact fun _ _ _ => trivial) (fun _ _ _ => trivial) (by simp)), (by exact Mt_closed (V := _) (by first | exact fun _ _ => trivial | exact fun _ _ _ => trivial) (fun _ _ _ => trivial) (by simp)), (by first | exact m_int rfl | exact m_int (by omega) | exact m_int (by simp; done) | (exact m_int (by simp; omega))), trivial⟩, trivial, trivial⟩
  · try simp only [hcs] at hc7
    have ge_i : 6 = i := by omega
    subst ge_i
    refine snd_exit ?_
    apply sr tokTB (by kernel_rfl)
    · intro RR hRR
      refine w_assign (by constructor) ?_
      exact hRR
    refine snd_ret ?_
    exact rt (T := TB) (fun V => rfl)
theorem c_eqAlgebra {p n : Int} {T : Nat → Nat → Nat → Int} {fo : Nat → Int} : ACalls Try.prog TB 28 [algA p n T fo, algA p n T fo] (.bool true) [] := by
  refine acalls_of tokTB Try.func28 rfl rfl (Nat.le_of_ble_eq_true rfl) ?_
  apply sr tokTB (by kernel_rfl)
  · intro RR hRR
    refine w_boxc (HV.eq (by constructor)) (by exact trivial) ?_
    refine w_boxc (HV.eq (by constructor)) (by exact trivial) ?_
    refine w_assign (by constructor) ?_
    exact hRR
  refine snd_seq ?_
  apply sr tokTB (by kernel_rfl)
  · intro RR hRR
    refine w_fac rfl und31 rfl kn2 nz2 (by decide) rfl (by constructor) ?_
    refine w_ldc rfl kn2 (by constructor) (by exact sz2.symm) (by exact ag2.symm) ?_
    refine w_fac rfl und31 rfl kn2 nz2 (by decide) rfl (by constructor) ?_
    refine w_ldc rfl kn2 (by constructor) (by exact sz2.symm) (by exact ag2.symm) ?_
    refine w_neq rfl rfl ?_
    exact hRR
  refine snd_cond_false (by exact congrArg AV.bool (decide_eq_false (by simp))) ?_
  refine snd_skip ?_
  refine snd_seq ?_
  apply sr tokTB (by kernel_rfl)
  · intro RR hRR
    refine w_fac rfl und31 rfl kn2 nz2 (by decide) rfl (by constructor) ?_
    refine w_ldc rfl kn2 (by constructor) (by exact sz2.symm) (by exact ag2.symm) ?_
    refine w_fac rfl und31 rfl kn2 nz2 (by decide) rfl (by constructor) ?_
    refine w_ldc rfl kn2 (by constructor) (by exact sz2.symm) (by exact ag2.symm) ?_
    refine w_neq rfl rfl ?_
    exact hRR
  refine snd_cond_false (by exact congrArg AV.bool (decide_eq_false (by simp))) ?_
  refine snd_skip ?_
  refine snd_seq ?_
  apply sr tokTB (by kernel_rfl)
  · intro RR hRR
    refine w_fac rfl und31 rfl kn24 nz24 (by decide) rfl (by constructor) ?_
    refine w_ldc rfl kn24 (by constructor) (by exact sz24.symm) (by exact ag24.symm) ?_
    refine w_fac rfl und31 rfl kn24 nz24 (by decide) rfl (by constructor) ?_
    refine w_ldc rfl kn24 (by constructor) (by exact sz24.symm) (by exact ag24.symm) ?_
    refine y_call rfl (ec (ec exn)) (c_eqByteA6A6A6 (T := T)) ?_
    refine w_not rfl ?_
    exact hRR
  refine snd_cond_false (by exact rfl) ?_
  refine snd_skip ?_
  refine snd_seq ?_
  apply sr tokTB (by kernel_rfl)
  · intro RR hRR
    refine w_fac rfl und31 rfl kn29 nz29 (by decide) rfl (by constructor) ?_
    refine w_ldc rfl kn29 (by constructor) (by exact sz29.symm) (by exact ag29.symm) ?_
    refine w_fac rfl und31 rfl kn29 nz29 (by decide) rfl (by constructor) ?_
    refine w_ldc rfl kn29 (by constructor) (by exact sz29.symm) (by exact ag29.symm) ?_
    refine y_call rfl (ec (ec exn)) (((show decide (eqN 6 fo fo) = true from decide_eq_true (fun i _ => rfl)) ▸ c_eqVector (u := fo) (v := fo))) ?_
    refine w_not rfl ?_
    exact hRR
  refine snd_cond_false (by exact rfl) ?_
  refine snd_skip ?_
  apply sr tokTB (by kernel_rfl)
  · intro RR hRR
    refine w_assign (by constructor) ?_
    exact hRR
  refine snd_ret ?_
  exact rt (T := TB) (fun V => rfl)
theorem c_sOppositeAlgebra_ok {p : Int} {n : Nat} {T : Nat → Nat → Nat → Int} {fo : Nat → Int} (hv0 : VN p n T fo) : ACalls Try.prog TB 26 [algA p (n : Int) T fo] (.tup 2 (pairA (algA p (n : Int) (fun a b => T b a) fo) (.int .i64 0))) [] := by
  refine acalls_of tokTB Try.func26 rfl rfl (Nat.le_of_ble_eq_true rfl) ?_
  apply sr tokTB (by kernel_rfl)
  · intro RR hRR
    refine w_boxc (HV.eq (by constructor)) (by exact trivial) ?_
    refine w_alloc kn31 rfl zr31 ?_
    refine w_assign (by constructor) ?_
    exact hRR
  refine snd_seq ?_
  apply sr tokTB (by kernel_rfl)
  · intro RR hRR
    refine w_ldc rfl kn31 (by constructor) (by exact sz31.symm) (by exact ag31.symm) ?_
    refine y_call rfl (exc exp_alg (exc (by exact rfl) exn)) (c_l01Code0_ok hv0 ) ?_
    refine w_assign (by constructor) ?_
    exact hRR
  apply sr tokTB (by kernel_rfl)
  · intro RR hRR
    refine w_move (by constructor) ?_
    refine w_neq rfl rfl ?_
    exact hRR
  refine snd_cond_false rfl ?_
  refine snd_skip ?_
  apply sr tokTB (by kernel_rfl)
  · intro RR hRR
    refine w_ldc rfl kn31 (by constructor) (by exact sz31.symm) (by exact ag31.symm) ?_
    refine w_alloc kn31 rfl zr31 ?_
    refine w_stw rfl (by constructor) kn31 rfl (by exact trivial) (by first | exact trivial | exact ssh_vec | exact ssh_alg | exact ssh_tab | exact ssh_mat | exact ⟨rfl, fun _ => trivial⟩ | exact ⟨rfl, fun _ => by rw [zr29]; exact ssh_vec⟩) (by exact sz31.symm) ?_
    exact hRR
  refine snd_seq ?_
  apply sr tokTB (by kernel_rfl)
  · intro RR hRR
    refine w_assign (by constructor) ?_
    exact hRR
  refine snd_block ?_
  refine snd_loop (S := Nat) (fun i => ([(1, .cptr (algA p (n : Int) T fo)), (2, .ptr 2 0 [] 0 (algA 0 0 (fun _ _ _ => 0) (fun _ => 0))), (5, .ptr 5 0 [] 0 (algA 0 0 (fun _ _ _ => 0) (fun _ => 0))), (6, .int .i64 (i : Int))], [(2, .one (algA 0 0 (fun _ _ _ => 0) (fun _ => 0)) (algA 0 0 (fun _ _ _ => 0) (fun _ => 0))), (5, .one (algA 0 0 (fun _ _ _ => 0) (fun _ => 0)) (algA p (n : Int) (opT T (i) (0)) fo))])) (fun i => i ≤ 6) (fun i => 6 - i) (0) ρ0 ?_ ?_ ?_
  · exact ⟨⟨m_calg, ⟨rfl, rfl, rfl, rfl, rfl⟩, ⟨rfl, rfl, rfl, rfl, rfl⟩, (by first | exact m_int rfl | exact m_int (by omega) | exact m_int (by simp; done) | (exact m_int (by simp; omega))), trivial⟩, ⟨⟨rfl, (by first | exact trivial | exact ssh_vec | exact ssh_alg | exact ssh_tab | exact ssh_mat | exact ⟨rfl, fun _ => trivial⟩ | exact ⟨rfl, fun _ => by rw [zr29]; exact ssh_vec⟩), (by first | exact mt_vec (fun _ _ => rfl) | exact mt_mat (fun _ _ _ _ => rfl) | exact mt_tab (fun _ _ _ _ _ _ => rfl) | exact mt_arr0 | exact mt_app (fun _ _ => rfl) rfl | exact ⟨rfl, fun _ _ => mt_row (fun _ _ => rfl)⟩ | exact Mt_closed (V := _) closed_alg (fun _ _ _ => trivial) (by simp))⟩, ⟨rfl, (by first | exact trivial | exact ssh_vec | exact ssh_alg | exact ssh_tab | exact ssh_mat | exact ⟨rfl, fun _ => trivial⟩ | exact ⟨rfl, fun _ => by rw [zr29]; exact ssh_vec⟩), (by exact mt_alg rfl rfl (fun a b k _ _ _ => opT_00.symm) (fun _ _ => rfl))⟩, trivial⟩, ⟨⟨(fun h => by first | exact ⟨rfl, rfl⟩ | exact absurd h (by decide)), (fun h => by first | exact ⟨rfl, rfl⟩ | exact absurd h (by decide)), trivial⟩, ⟨(fun h => by first | exact ⟨rfl, rfl⟩ | exact absurd h (by decide)), (fun h => by first | exact ⟨rfl, rfl⟩ | exact absurd h (by decide)), trivial⟩, trivial⟩⟩
  · exact Nat.zero_le _
  intro i hi0
  refine sq (env2 := [(1, .cptr (algA p (n : Int) T fo)), (2, .ptr 2 0 [] 0 (algA 0 0 (fun _ _ _ => 0) (fun _ => 0))), (5, .ptr 5 0 [] 0 (algA 0 0 (fun _ _ _ => 0) (fun _ => 0))), (6, .int .i64 (i : Int))]) (ol2 := [(2, .one (algA 0 0 (fun _ _ _ => 0) (fun _ => 0)) (algA 0 0 (fun _ _ _ => 0) (fun _ => 0))), (5, .one (algA 0 0 (fun _ _ _ => 0) (fun _ => 0)) (algA p (n : Int) (opT T (i) (0)) fo))]) rfl rfl ?_
  refine snd_seq ?_
  apply sr tokTB (by kernel_rfl)
  · intro RR hRR
    refine w_move (by constructor) ?_
    refine w_lss rfl rfl ?_
    exact hRR
  refine snd_cond _ rfl (fun hc16 => ?_) (fun hc16 => ?_)
  · try simp only [hcs] at hc16
    have lt_i : i < 6 := by omega
    refine snd_skip ?_
    refine snd_seq ?_
    refine snd_block ?_
    apply sr tokTB (by kernel_rfl)
    · intro RR hRR
      refine w_assign (by constructor) ?_
      exact hRR
    refine snd_block ?_
    refine snd_loop (S := Nat) (fun j => ([(1, .cptr (algA p (n : Int) T fo)), (2, .ptr 2 0 [] 0 (algA 0 0 (fun _ _ _ => 0) (fun _ => 0))), (5, .ptr 5 0 [] 0 (algA 0 0 (fun _ _ _ => 0) (fun _ => 0))), (6, .int .i64 (i : Int)), (7, .int .i64 (j : Int))], [(2, .one (algA 0 0 (fun _ _ _ => 0) (fun _ => 0)) (algA 0 0 (fun _ _ _ => 0) (fun _ => 0))), (5, .one (algA 0 0 (fun _ _ _ => 0) (fun _ => 0)) (algA p (n : Int) (opT T (i) (j)) fo))])) (fun j => j ≤ 6) (fun j => 6 - j) (0) ρ0 ?_ ?_ ?_
    · exact ⟨⟨m_calg, ⟨rfl, rfl, rfl, rfl, rfl⟩, ⟨rfl, rfl, rfl, rfl, rfl⟩, (by first | exact m_int rfl | exact m_int (by omega) | exact m_int (by simp; done) | (exact m_int (by simp; omega))), (by first | exact m_int rfl | exact m_int (by omega) | exact m_int (by simp; done) | (exact m_int (by simp; omega))), trivial⟩, ⟨⟨rfl, (by first | exact trivial | exact ssh_vec | exact ssh_alg | exact ssh_tab | exact ssh_mat | exact ⟨rfl, fun _ => trivial⟩ | exact ⟨rfl, fun _ => by rw [zr29]; exact ssh_vec⟩), (by first | exact mt_vec (fun _ _ => rfl) | exact mt_mat (fun _ _ _ _ => rfl) | exact mt_tab (fun _ _ _ _ _ _ => rfl) | exact mt_arr0 | exact mt_app (fun _ _ => rfl) rfl | exact ⟨rfl, fun _ _ => mt_row (fun _ _ => rfl)⟩ | exact Mt_closed (V := _) closed_alg (fun _ _ _ => trivial) (by simp))⟩, ⟨rfl, (by first | exact trivial | exact ssh_vec | exact ssh_alg | exact ssh_tab | exact ssh_mat | exact ⟨rfl, fun _ => trivial⟩ | exact ⟨rfl, fun _ => by rw [zr29]; exact ssh_vec⟩), (by exact mt_alg rfl rfl (fun _ _ _ _ _ _ => rfl) (fun _ _ => rfl))⟩, trivial⟩, ⟨⟨(fun h => by first | exact ⟨rfl, rfl⟩ | exact absurd h (by decide)), (fun h => by first | exact ⟨rfl, rfl⟩ | exact absurd h (by decide)), trivial⟩, ⟨(fun h => by first | exact ⟨rfl, rfl⟩ | exact absurd h (by decide)), (fun h => by first | exact ⟨rfl, rfl⟩ | exact absurd h (by decide)), trivial⟩, trivial⟩⟩
    · exact Nat.zero_le _
    intro j hi2
    refine sq (env2 := [(1, .cptr (algA p (n : Int) T fo)), (2, .ptr 2 0 [] 0 (algA 0 0 (fun _ _ _ => 0) (fun _ => 0))), (5, .ptr 5 0 [] 0 (algA 0 0 (fun _ _ _ => 0) (fun _ => 0))), (6, .int .i64 (i : Int)), (7, .int .i64 (j : Int))]) (ol2 := [(2, .one (algA 0 0 (fun _ _ _ => 0) (fun _ => 0)) (algA 0 0 (fun _ _ _ => 0) (fun _ => 0))), (5, .one (algA 0 0 (fun _ _ _ => 0) (fun _ => 0)) (algA p (n : Int) (opT T (i) (j)) fo))]) rfl rfl ?_
    refine snd_seq ?_
    apply sr tokTB (by kernel_rfl)
    · intro RR hRR
      refine w_move (by constructor) ?_
      refine w_lss rfl rfl ?_
      exact hRR
    refine snd_cond _ rfl (fun hc20 => ?_) (fun hc20 => ?_)
    · try simp only [hcs] at hc20
      have lt_j : j < 6 := by omega
      refine snd_skip ?_
      refine snd_seq ?_
      refine snd_block ?_
      apply ld tokTB mixed (by kernel_rfl) (by kernel_rfl)
      · intro RR hRR
        refine w_move (by constructor) ?_
        refine w_move (by constructor) ?_
        refine w_move (by constructor) ?_
        refine w_move (by constructor) ?_
        refine w_fac rfl und31 rfl kn24 nz24 (by decide) rfl (by constructor) ?_
        refine w_iac rfl rfl und24 kn23 (by exact sz23.symm) ?_ rfl ?_
        · exact ⟨by omega, by omega⟩
        refine w_iac rfl rfl und23 kn22 (by exact sz22.symm) ?_ rfl ?_
        · exact ⟨by omega, by omega⟩
        refine w_ldc rfl kn22 (by constructor) (by exact sz22.symm) (by exact ag22.symm) ?_
        refine w_fap rfl und31 rfl kn24 nz24 rfl (by decide) rfl ?_
        first | refine w_iac rfl rfl und24 kn23 (by exact sz23.symm) ?_ rfl ?_ | refine w_iap rfl rfl und24 kn23 rfl (by exact sz23.symm) rfl ?_ ?_
        · exact ⟨by omega, by omega⟩
        first | refine w_iac rfl rfl und23 kn22 (by exact sz22.symm) ?_ rfl ?_ | refine w_iap rfl rfl und23 kn22 rfl (by exact sz22.symm) rfl ?_ ?_
        · exact ⟨by omega, by omega⟩
        first | refine w_stw rfl (by constructor) kn22 rfl (by exact trivial) (by first | exact trivial | exact ssh_vec | exact ssh_alg | exact ssh_tab | exact ssh_mat | exact ⟨rfl, fun _ => trivial⟩ | exact ⟨rfl, fun _ => by rw [zr29]; exact ssh_vec⟩) (by exact sz22.symm) ?_ | refine w_sti rfl rfl kn22 rfl (by exact trivial) (by exact sz22.symm) ?_ | refine w_store rfl (HV.eq (by constructor)) kn22 rfl (by exact trivial) (by first | exact trivial | exact ssh_vec | exact ssh_alg | exact ssh_tab | exact ssh_mat | exact ⟨rfl, fun _ => trivial⟩ | exact ⟨rfl, fun _ => by rw [zr29]; exact ssh_vec⟩) (by exact sz22.symm) (put_in (by first | exact put_mat | exact put_tab | exact put_alg0 | exact put_alg1 | exact put_alg2 | exact put_alg3 | exact put_alg3i | exact put_alg2ij | exact put_alg2ijk | exact put_mat2 | exact put_tab2 | exact put_tab3)) ?_ | refine w_store rfl (HV.eq (by constructor)) kn22 rfl (by exact trivial) (by exact trivial) (by exact sz22.symm) rfl ?_
        exact hRR
      apply lr tokTB (by kernel_rfl)
      · intro RR hRR
        refine w_move (by constructor) ?_
        refine y_add rfl rfl ?_
        refine w_assign (by constructor) ?_
        exact hRR
      refine ⟨j + 1, ρ0, ?_, (by omega), (by dsimp only; omega)⟩
      exact ⟨⟨m_calg, ⟨rfl, rfl, rfl, rfl, rfl⟩, ⟨rfl, rfl, rfl, rfl, rfl⟩, (by first | exact m_int rfl | exact m_int (by omega) | exact m_int (by simp; done) | (exact m_int (by simp; omega))), (by first | exact m_int rfl | exact m_int (by omega) | exact m_int (by simp; done) | (exact m_int (by simp; omega))), trivial⟩, ⟨⟨rfl, (by first | exact trivial | exact ssh_vec | exact ssh_alg | exact ssh_tab | exact ssh_mat | exact ⟨rfl, fun _ => trivial⟩ | exact ⟨rfl, fun _ => by rw [zr29]; exact ssh_vec⟩), (by first | exact mt_vec (fun _ _ => rfl) | exact mt_mat (fun _ _ _ _ => rfl) | exact mt_tab (fun _ _ _ _ _ _ => rfl) | exact mt_arr0 | exact mt_app (fun _ _ => rfl) rfl | exact ⟨rfl, fun _ _ => mt_row (fun _ _ => rfl)⟩ | exact Mt_closed (V := _) closed_alg (fun _ _ _ => trivial) (by simp))⟩, ⟨rfl, (by first | exact trivial | exact ssh_vec | exact ssh_alg | exact ssh_tab | exact ssh_mat | exact ⟨rfl, fun _ => trivial⟩ | exact ⟨rfl, fun _ => by rw [zr29]; exact ssh_vec⟩), (by exact mt_op1 (fun _ _ => rfl))⟩, trivial⟩, ⟨⟨(fun h => by first | exact ⟨rfl, rfl⟩ | exact absurd h (by decide)), (fun h => by first | exact ⟨rfl, rfl⟩ | exact absurd h (by decide)), trivial⟩, ⟨(fun h => by first | exact ⟨rfl, rfl⟩ | exact absurd h (by decide)), (fun h => by first | exact ⟨rfl, rfl⟩ | exact absurd h (by decide)), trivial⟩, trivial⟩⟩
    · try simp only [hcs] at hc20
      have ge_j : 6 = j := by omega
      subst ge_j
      refine snd_exit ?_
      apply lr tokTB (by kernel_rfl)
      · intro RR hRR
        refine w_move (by constructor) ?_
        refine y_add rfl rfl ?_
        refine w_assign (by constructor) ?_
        exact hRR
      refine ⟨i + 1, ρ0, ?_, (by omega), (by dsimp only; omega)⟩
      exact ⟨⟨m_calg, ⟨rfl, rfl, rfl, rfl, rfl⟩, ⟨rfl, rfl, rfl, rfl, rfl⟩, (by first | exact m_int rfl | exact m_int (by omega) | exact m_int (by simp; done) | (exact m_int (by simp; omega))), trivial⟩, ⟨⟨rfl, (by first | exact trivial | exact ssh_vec | exact ssh_alg | exact ssh_tab | exact ssh_mat | exact ⟨rfl, fun _ => trivial⟩ | exact ⟨rfl, fun _ => by rw [zr29]; exact ssh_vec⟩), (by first | exact mt_vec (fun _ _ => rfl) | exact mt_mat (fun _ _ _ _ => rfl) | exact mt_tab (fun _ _ _ _ _ _ => rfl) | exact mt_arr0 | exact mt_app (fun _ _ => rfl) rfl | exact ⟨rfl, fun _ _ => mt_row (fun _ _ => rfl)⟩ | exact Mt_closed (V := _) closed_alg (fun _ _ _ => trivial) (by simp))⟩, ⟨rfl, (by first | exact trivial | exact ssh_vec | exact ssh_alg | exact ssh_tab | exact ssh_mat | exact ⟨rfl, fun _ => trivial⟩ | exact ⟨rfl, fun _ => by rw [zr29]; exact ssh_vec⟩), (by exact mt_alg rfl rfl (fun a b k _ hb _ => opT_6 hb) (fun _ _ => rfl))⟩, trivial⟩, ⟨⟨(fun h => by first | exact ⟨rfl, rfl⟩ | exact absurd h (by decide)), (fun h => by first | exact ⟨rfl, rfl⟩ | exact absurd h (by decide)), trivial⟩, ⟨(fun h => by first | exact ⟨rfl, rfl⟩ | exact absurd h (by decide)), (fun h => by first | exact ⟨rfl, rfl⟩ | exact absurd h (by decide)), trivial⟩, trivial⟩⟩
  · try simp only [hcs] at hc16
    have ge_i : 6 = i := by omega
    subst ge_i
    refine snd_exit ?_
    apply sr tokTB (by kernel_rfl)
    · intro RR hRR
      refine w_ldp rfl kn31 rfl (by constructor) (by exact sz31.symm) (by exact ag31.symm) ?_
      refine w_stw rfl (by constructor) kn31 rfl (by exact trivial) (by first | exact trivial | exact ssh_vec | exact ssh_alg | exact ssh_tab | exact ssh_mat | exact ⟨rfl, fun _ => trivial⟩ | exact ⟨rfl, fun _ => by rw [zr29]; exact ssh_vec⟩) (by exact sz31.symm) ?_
      refine w_assign (by constructor) ?_
      exact hRR
    refine snd_ret ?_
    show retQ TB _ _ _ _ _ _
    exact rt_ct (T := TB) rfl kn31 rfl (by exact sz31.symm) (by exact ag31.symm) (fun V => mt_alg rfl rfl (fun a b k ha _ _ => opT_60 ha) (fun _ _ => rfl)) (fun V => rfl)
theorem c_sOppositeAlgebra_no {p n : Int} {T : Nat → Nat → Nat → Int} {fo : Nat → Int} (hT : RB T) (hf : RV fo) (hz : ¬ VZ p n T fo 0 (fun _ _ => 0)) : ACalls Try.prog TB 26 [algA p n T fo] (.tup 2 (pairA (algA 0 0 (fun _ _ _ => 0) (fun _ => 0)) (.int .i64 1))) [] := by
  refine acalls_of tokTB Try.func26 rfl rfl (Nat.le_of_ble_eq_true rfl) ?_
  apply sr tokTB (by kernel_rfl)
  · intro RR hRR
    refine w_boxc (HV.eq (by constructor)) (by exact trivial) ?_
    refine w_alloc kn31 rfl zr31 ?_
    refine w_assign (by constructor) ?_
    exact hRR
  refine snd_seq ?_
  apply sr tokTB (by kernel_rfl)
  · intro RR hRR
    refine w_ldc rfl kn31 (by constructor) (by exact sz31.symm) (by exact ag31.symm) ?_
    refine y_call rfl (exc exp_alg (exc (by exact rfl) exn)) (c_l01Code0_no hT hf  hz) ?_
    refine w_assign (by constructor) ?_
    exact hRR
  apply sr tokTB (by kernel_rfl)
  · intro RR hRR
    refine w_move (by constructor) ?_
    refine w_neq rfl rfl ?_
    exact hRR
  refine snd_cond_true rfl ?_
  apply sr tokTB (by kernel_rfl)
  · intro RR hRR
    refine w_bld_s kn31 zr31 und31 rfl (by exact ⟨rfl, kn2, sz2, rfl, kn2, sz2, rfl, kn24, sz24, rfl, kn29, sz29, trivial⟩) trivial rfl ?_
    refine w_move (by constructor) ?_
    refine w_stw rfl (by constructor) kn31 rfl (by exact trivial) (by first | exact trivial | exact ssh_vec | exact ssh_alg | exact ssh_tab | exact ssh_mat | exact ⟨rfl, fun _ => trivial⟩ | exact ⟨rfl, fun _ => by rw [zr29]; exact ssh_vec⟩) (by exact sz31.symm) ?_
    refine w_assign (by constructor) ?_
    exact hRR
  refine snd_ret ?_
  show retQ TB _ _ _ _ _ _
  exact rt_ct (T := TB) rfl kn31 rfl (by exact sz31.symm) (by exact ag31.symm) (fun V => m_alg) (fun V => rfl)
theorem c_iOppositeAlgebra_ok {p : Int} {n : Nat} {T : Nat → Nat → Nat → Int} {fo : Nat → Int} (hv0 : VN p n T fo) : ACalls Try.prog TB 27 [algA p (n : Int) T fo] (.tup 2 (pairA (algA p (n : Int) (fun a b => T b a) fo) (.int .i64 0))) [] := by
  refine acalls_of tokTB Try.func27 rfl rfl (Nat.le_of_ble_eq_true rfl) ?_
  apply sr tokTB (by kernel_rfl)
  · intro RR hRR
    refine w_boxc (HV.eq (by constructor)) (by exact trivial) ?_
    refine w_alloc kn31 rfl zr31 ?_
    refine w_assign (by constructor) ?_
    exact hRR
  refine snd_seq ?_
  apply sr tokTB (by kernel_rfl)
  · intro RR hRR
    refine w_ldc rfl kn31 (by constructor) (by exact sz31.symm) (by exact ag31.symm) ?_
    refine y_call rfl (exc exp_alg (exc (by exact rfl) exn)) (c_valid0_ok hv0 ) ?_
    refine w_assign (by constructor) ?_
    exact hRR
  apply sr tokTB (by kernel_rfl)
  · intro RR hRR
    refine w_move (by constructor) ?_
    refine w_neq rfl rfl ?_
    exact hRR
  refine snd_cond_false rfl ?_
  refine snd_skip ?_
  apply sr tokTB (by kernel_rfl)
  · intro RR hRR
    refine w_ldc rfl kn31 (by constructor) (by exact sz31.symm) (by exact ag31.symm) ?_
    refine w_alloc kn31 rfl zr31 ?_
    refine w_stw rfl (by constructor) kn31 rfl (by exact trivial) (by first | exact trivial | exact ssh_vec | exact ssh_alg | exact ssh_tab | exact ssh_mat | exact ⟨rfl, fun _ => trivial⟩ | exact ⟨rfl, fun _ => by rw [zr29]; exact ssh_vec⟩) (by exact sz31.symm) ?_
    exact hRR
  refine snd_seq ?_
  apply sr tokTB (by kernel_rfl)
  · intro RR hRR
    refine w_move (by constructor) ?_
    exact hRR
  refine snd_block ?_
  refine snd_loop (S := Nat) (fun i => ([(1, .cptr (algA p (n : Int) T fo)), (2, .ptr 2 0 [] 0 (algA 0 0 (fun _ _ _ => 0) (fun _ => 0))), (5, .ptr 5 0 [] 0 (algA 0 0 (fun _ _ _ => 0) (fun _ => 0))), (15, .int .i64 (i : Int))], [(2, .one (algA 0 0 (fun _ _ _ => 0) (fun _ => 0)) (algA 0 0 (fun _ _ _ => 0) (fun _ => 0))), (5, .one (algA 0 0 (fun _ _ _ => 0) (fun _ => 0)) (algA p (n : Int) (opT T (i) (0)) fo))])) (fun i => i ≤ 6) (fun i => 6 - i) (0) ρ0 ?_ ?_ ?_
  · exact ⟨⟨m_calg, ⟨rfl, rfl, rfl, rfl, rfl⟩, ⟨rfl, rfl, rfl, rfl, rfl⟩, (by first | exact m_int rfl | exact m_int (by omega) | exact m_int (by simp; done) | (exact m_int (by simp; omega))), trivial⟩, ⟨⟨rfl, (by first | exact trivial | exact ssh_vec | exact ssh_alg | exact ssh_tab | exact ssh_mat | exact ⟨rfl, fun _ => trivial⟩ | exact ⟨rfl, fun _ => by rw [zr29]; exact ssh_vec⟩), (by first | exact mt_vec (fun _ _ => rfl) | exact mt_mat (fun _ _ _ _ => rfl) | exact mt_tab (fun _ _ _ _ _ _ => rfl) | exact mt_arr0 | exact mt_app (fun _ _ => rfl) rfl | exact ⟨rfl, fun _ _ => mt_row (fun _ _ => rfl)⟩ | exact Mt_closed (V := _) closed_alg (fun _ _ _ => trivial) (by simp))⟩, ⟨rfl, (by first | exact trivial | exact ssh_vec | exact ssh_alg | exact ssh_tab | exact ssh_mat | exact ⟨rfl, fun _ => trivial⟩ | exact ⟨rfl, fun _ => by rw [zr29]; exact ssh_vec⟩), (by exact mt_alg rfl rfl (fun a b k _ _ _ => opT_00.symm) (fun _ _ => rfl))⟩, trivial⟩, ⟨⟨(fun h => by first | exact ⟨rfl, rfl⟩ | exact absurd h (by decide)), (fun h => by first | exact ⟨rfl, rfl⟩ | exact absurd h (by decide)), trivial⟩, ⟨(fun h => by first | exact ⟨rfl, rfl⟩ | exact absurd h (by decide)), (fun h => by first | exact ⟨rfl, rfl⟩ | exact absurd h (by decide)), trivial⟩, trivial⟩⟩
  · exact Nat.zero_le _
  intro i hi0
  refine sq (env2 := [(1, .cptr (algA p (n : Int) T fo)), (2, .ptr 2 0 [] 0 (algA 0 0 (fun _ _ _ => 0) (fun _ => 0))), (5, .ptr 5 0 [] 0 (algA 0 0 (fun _ _ _ => 0) (fun _ => 0))), (15, .int .i64 (i : Int))]) (ol2 := [(2, .one (algA 0 0 (fun _ _ _ => 0) (fun _ => 0)) (algA 0 0 (fun _ _ _ => 0) (fun _ => 0))), (5, .one (algA 0 0 (fun _ _ _ => 0) (fun _ => 0)) (algA p (n : Int) (opT T (i) (0)) fo))]) rfl rfl ?_
  apply sr tokTB (by kernel_rfl)
  · intro RR hRR
    refine w_lss rfl rfl ?_
    exact hRR
  refine snd_seq ?_
  refine snd_cond _ rfl (fun hc16 => ?_) (fun hc16 => ?_)
  · try simp only [hcs] at hc16
    have lt_i : i < 6 := by omega
    refine snd_skip ?_
    refine snd_seq ?_
    refine snd_block ?_
    apply sr tokTB (by kernel_rfl)
    · intro RR hRR
      refine w_move (by constructor) ?_
      refine w_assign (by constructor) ?_
      exact hRR
    apply sr tokTB (by kernel_rfl)
    · intro RR hRR
      refine w_move (by constructor) ?_
      exact hRR
    refine snd_block ?_
    refine snd_loop (S := Nat) (fun j => ([(1, .cptr (algA p (n : Int) T fo)), (2, .ptr 2 0 [] 0 (algA 0 0 (fun _ _ _ => 0) (fun _ => 0))), (5, .ptr 5 0 [] 0 (algA 0 0 (fun _ _ _ => 0) (fun _ => 0))), (6, .int .i64 (i : Int)), (15, .int .i64 (i : Int)), (18, .int .i64 (j : Int))], [(2, .one (algA 0 0 (fun _ _ _ => 0) (fun _ => 0)) (algA 0 0 (fun _ _ _ => 0) (fun _ => 0))), (5, .one (algA 0 0 (fun _ _ _ => 0) (fun _ => 0)) (algA p (n : Int) (opT T (i) (j)) fo))])) (fun j => j ≤ 6) (fun j => 6 - j) (0) ρ0 ?_ ?_ ?_
    · exact ⟨⟨m_calg, ⟨rfl, rfl, rfl, rfl, rfl⟩, ⟨rfl, rfl, rfl, rfl, rfl⟩, (by first | exact m_int rfl | exact m_int (by omega) | exact m_int (by simp; done) | (exact m_int (by simp; omega))), (by first | exact m_int rfl | exact m_int (by omega) | exact m_int (by simp; done) | (exact m_int (by simp; omega))), (by first | exact m_int rfl | exact m_int (by omega) | exact m_int (by simp; done) | (exact m_int (by simp; omega))), trivial⟩, ⟨⟨rfl, (by first | exact trivial | exact ssh_vec | exact ssh_alg | exact ssh_tab | exact ssh_mat | exact ⟨rfl, fun _ => trivial⟩ | exact ⟨rfl, fun _ => by rw [zr29]; exact ssh_vec⟩), (by first | exact mt_vec (fun _ _ => rfl) | exact mt_mat (fun _ _ _ _ => rfl) | exact mt_tab (fun _ _ _ _ _ _ => rfl) | exact mt_arr0 | exact mt_app (fun _ _ => rfl) rfl | exact ⟨rfl, fun _ _ => mt_row (fun _ _ => rfl)⟩ | exact Mt_closed (V := _) closed_alg (fun _ _ _ => trivial) (by simp))⟩, ⟨rfl, (by first | exact trivial | exact ssh_vec | exact ssh_alg | exact ssh_tab | exact ssh_mat | exact ⟨rfl, fun _ => trivial⟩ | exact ⟨rfl, fun _ => by rw [zr29]; exact ssh_vec⟩), (by exact mt_alg rfl rfl (fun _ _ _ _ _ _ => rfl) (fun _ _ => rfl))⟩, trivial⟩, ⟨⟨(fun h => by first | exact ⟨rfl, rfl⟩ | exact absurd h (by decide)), (fun h => by first | exact ⟨rfl, rfl⟩ | exact absurd h (by decide)), trivial⟩, ⟨(fun h => by first | exact ⟨rfl, rfl⟩ | exact absurd h (by decide)), (fun h => by first | exact ⟨rfl, rfl⟩ | exact absurd h (by decide)), trivial⟩, trivial⟩⟩
    · exact Nat.zero_le _
    intro j hi2
    refine sq (env2 := [(1, .cptr (algA p (n : Int) T fo)), (2, .ptr 2 0 [] 0 (algA 0 0 (fun _ _ _ => 0) (fun _ => 0))), (5, .ptr 5 0 [] 0 (algA 0 0 (fun _ _ _ => 0) (fun _ => 0))), (6, .int .i64 (i : Int)), (15, .int .i64 (i : Int)), (18, .int .i64 (j : Int))]) (ol2 := [(2, .one (algA 0 0 (fun _ _ _ => 0) (fun _ => 0)) (algA 0 0 (fun _ _ _ => 0) (fun _ => 0))), (5, .one (algA 0 0 (fun _ _ _ => 0) (fun _ => 0)) (algA p (n : Int) (opT T (i) (j)) fo))]) rfl rfl ?_
    apply sr tokTB (by kernel_rfl)
    · intro RR hRR
      refine w_lss rfl rfl ?_
      exact hRR
    refine snd_seq ?_
    refine snd_cond _ rfl (fun hc19 => ?_) (fun hc19 => ?_)
    · try simp only [hcs] at hc19
      have lt_j : j < 6 := by omega
      refine snd_skip ?_
      refine snd_seq ?_
      refine snd_block ?_
      apply sr tokTB (by kernel_rfl)
      · intro RR hRR
        refine w_move (by constructor) ?_
        refine w_assign (by constructor) ?_
        exact hRR
      apply ld tokTB mixed (by kernel_rfl) (by kernel_rfl)
      · intro RR hRR
        refine w_move (by constructor) ?_
        refine w_move (by constructor) ?_
        refine w_move (by constructor) ?_
        refine w_move (by constructor) ?_
        refine w_fac rfl und31 rfl kn24 nz24 (by decide) rfl (by constructor) ?_
        refine w_iac rfl rfl und24 kn23 (by exact sz23.symm) ?_ rfl ?_
        · exact ⟨by omega, by omega⟩
        refine w_iac rfl rfl und23 kn22 (by exact sz22.symm) ?_ rfl ?_
        · exact ⟨by omega, by omega⟩
        refine w_ldc rfl kn22 (by constructor) (by exact sz22.symm) (by exact ag22.symm) ?_
        refine w_fap rfl und31 rfl kn24 nz24 rfl (by decide) rfl ?_
        first | refine w_iac rfl rfl und24 kn23 (by exact sz23.symm) ?_ rfl ?_ | refine w_iap rfl rfl und24 kn23 rfl (by exact sz23.symm) rfl ?_ ?_
        · exact ⟨by omega, by omega⟩
        first | refine w_iac rfl rfl und23 kn22 (by exact sz22.symm) ?_ rfl ?_ | refine w_iap rfl rfl und23 kn22 rfl (by exact sz22.symm) rfl ?_ ?_
        · exact ⟨by omega, by omega⟩
        first | refine w_stw rfl (by constructor) kn22 rfl (by exact trivial) (by first | exact trivial | exact ssh_vec | exact ssh_alg | exact ssh_tab | exact ssh_mat | exact ⟨rfl, fun _ => trivial⟩ | exact ⟨rfl, fun _ => by rw [zr29]; exact ssh_vec⟩) (by exact sz22.symm) ?_ | refine w_sti rfl rfl kn22 rfl (by exact trivial) (by exact sz22.symm) ?_ | refine w_store rfl (HV.eq (by constructor)) kn22 rfl (by exact trivial) (by first | exact trivial | exact ssh_vec | exact ssh_alg | exact ssh_tab | exact ssh_mat | exact ⟨rfl, fun _ => trivial⟩ | exact ⟨rfl, fun _ => by rw [zr29]; exact ssh_vec⟩) (by exact sz22.symm) (put_in (by first | exact put_mat | exact put_tab | exact put_alg0 | exact put_alg1 | exact put_alg2 | exact put_alg3 | exact put_alg3i | exact put_alg2ij | exact put_alg2ijk | exact put_mat2 | exact put_tab2 | exact put_tab3)) ?_ | refine w_store rfl (HV.eq (by constructor)) kn22 rfl (by exact trivial) (by exact trivial) (by exact sz22.symm) rfl ?_
        exact hRR
      apply lr tokTB (by kernel_rfl)
      · intro RR hRR
        refine y_add rfl rfl ?_
        refine w_move (by constructor) ?_
        exact hRR
      refine ⟨j + 1, ρ0, ?_, (by omega), (by dsimp only; omega)⟩
      exact ⟨⟨m_calg, ⟨rfl, rfl, rfl, rfl, rfl⟩, ⟨rfl, rfl, rfl, rfl, rfl⟩, (by first | exact m_int rfl | exact m_int (by omega) | exact m_int (by simp; done) | (exact m_int (by simp; omega))), (by first | exact m_int rfl | exact m_int (by omega) | exact m_int (by simp; done) | (exact m_int (by simp; omega))), (by first | exact m_int rfl | exact m_int (by omega) | exact m_int (by simp; done) | (exact m_int (by simp; omega))), trivial⟩, ⟨⟨rfl, (by first | exact trivial | exact ssh_vec | exact ssh_alg | exact ssh_tab | exact ssh_mat | exact ⟨rfl, fun _ => trivial⟩ | exact ⟨rfl, fun _ => by rw [zr29]; exact ssh_vec⟩), (by first | exact mt_vec (fun _ _ => rfl) | exact mt_mat (fun _ _ _ _ => rfl) | exact mt_tab (fun _ _ _ _ _ _ => rfl) | exact mt_arr0 | exact mt_app (fun _ _ => rfl) rfl | exact ⟨rfl, fun _ _ => mt_row (fun _ _ => rfl)⟩ | exact Mt_closed (V := _) closed_alg (fun _ _ _ => trivial) (by simp))⟩, ⟨rfl, (by first | exact trivial | exact ssh_vec | exact ssh_alg | exact ssh_tab | exact ssh_mat | exact ⟨rfl, fun _ => trivial⟩ | exact ⟨rfl, fun _ => by rw [zr29]; exact ssh_vec⟩), (by exact mt_op1 (fun _ _ => rfl))⟩, trivial⟩, ⟨⟨(fun h => by first | exact ⟨rfl, rfl⟩ | exact absurd h (by decide)), (fun h => by first | exact ⟨rfl, rfl⟩ | exact absurd h (by decide)), trivial⟩, ⟨(fun h => by first | exact ⟨rfl, rfl⟩ | exact absurd h (by decide)), (fun h => by first | exact ⟨rfl, rfl⟩ | exact absurd h (by decide)), trivial⟩, trivial⟩⟩
    · try simp only [hcs] at hc19
      have ge_j : 6 = j := by omega
      subst ge_j
      refine snd_exit ?_
      apply lr tokTB (by kernel_rfl)
      · intro RR hRR
        refine y_add rfl rfl ?_
        refine w_move (by constructor) ?_
        exact hRR
      refine ⟨i + 1, ρ0, ?_, (by omega), (by dsimp only; omega)⟩
      exact ⟨⟨m_calg, ⟨rfl, rfl, rfl, rfl, rfl⟩, ⟨rfl, rfl, rfl, rfl, rfl⟩, (by first | exact m_int rfl | exact m_int (by omega) | exact m_int (by simp; done) | (exact m_int (by simp; omega))), trivial⟩, ⟨⟨rfl, (by first | exact trivial | exact ssh_vec | exact ssh_alg | exact ssh_tab | exact ssh_mat | exact ⟨rfl, fun _ => trivial⟩ | exact ⟨rfl, fun _ => by rw [zr29]; exact ssh_vec⟩), (by first | exact mt_vec (fun _ _ => rfl) | exact mt_mat (fun _ _ _ _ => rfl) | exact mt_tab (fun _ _ _ _ _ _ => rfl) | exact mt_arr0 | exact mt_app (fun _ _ => rfl) rfl | exact ⟨rfl, fun _ _ => mt_row (fun _ _ => rfl)⟩ | exact Mt_closed (V := _) closed_alg (fun _ _ _ => trivial) (by simp))⟩, ⟨rfl, (by first | exact trivial | exact ssh_vec | exact ssh_alg | exact ssh_tab | exact ssh_mat | exact ⟨rfl, fun _ => trivial⟩ | exact ⟨rfl, fun _ => by rw [zr29]; exact ssh_vec⟩), (by exact mt_alg rfl rfl (fun a b k _ hb _ => opT_6 hb) (fun _ _ => rfl))⟩, trivial⟩, ⟨⟨(fun h => by first | exact ⟨rfl, rfl⟩ | exact absurd h (by decide)), (fun h => by first | exact ⟨rfl, rfl⟩ | exact absurd h (by decide)), trivial⟩, ⟨(fun h => by first | exact ⟨rfl, rfl⟩ | exact absurd h (by decide)), (fun h => by first | exact ⟨rfl, rfl⟩ | exact absurd h (by decide)), trivial⟩, trivial⟩⟩
  · try simp only [hcs] at hc16
    have ge_i : 6 = i := by omega
    subst ge_i
    refine snd_exit ?_
    apply sr tokTB (by kernel_rfl)
    · intro RR hRR
      refine w_ldp rfl kn31 rfl (by constructor) (by exact sz31.symm) (by exact ag31.symm) ?_
      refine w_stw rfl (by constructor) kn31 rfl (by exact trivial) (by first | exact trivial | exact ssh_vec | exact ssh_alg | exact ssh_tab | exact ssh_mat | exact ⟨rfl, fun _ => trivial⟩ | exact ⟨rfl, fun _ => by rw [zr29]; exact ssh_vec⟩) (by exact sz31.symm) ?_
      refine w_assign (by constructor) ?_
      exact hRR
    refine snd_ret ?_
    show retQ TB _ _ _ _ _ _
    exact rt_ct (T := TB) rfl kn31 rfl (by exact sz31.symm) (by exact ag31.symm) (fun V => mt_alg rfl rfl (fun a b k ha _ _ => opT_60 ha) (fun _ _ => rfl)) (fun V => rfl)
theorem c_iOppositeAlgebra_no {p n : Int} {T : Nat → Nat → Nat → Int} {fo : Nat → Int} (hT : RB T) (hf : RV fo) (hz : ¬ VZ p n T fo 0 (fun _ _ => 0)) : ACalls Try.prog TB 27 [algA p n T fo] (.tup 2 (pairA (algA 0 0 (fun _ _ _ => 0) (fun _ => 0)) (.int .i64 1))) [] := by
  refine acalls_of tokTB Try.func27 rfl rfl (Nat.le_of_ble_eq_true rfl) ?_
  apply sr tokTB (by kernel_rfl)
  · intro RR hRR
    refine w_boxc (HV.eq (by constructor)) (by exact trivial) ?_
    refine w_alloc kn31 rfl zr31 ?_
    refine w_assign (by constructor) ?_
    exact hRR
  refine snd_seq ?_
  apply sr tokTB (by kernel_rfl)
  · intro RR hRR
    refine w_ldc rfl kn31 (by constructor) (by exact sz31.symm) (by exact ag31.symm) ?_
    refine y_call rfl (exc exp_alg (exc (by exact rfl) exn)) (c_valid0_no hT hf  hz) ?_
    refine w_assign (by constructor) ?_
    exact hRR
  apply sr tokTB (by kernel_rfl)
  · intro RR hRR
    refine w_move (by constructor) ?_
    refine w_neq rfl rfl ?_
    exact hRR
  refine snd_cond_true rfl ?_
  apply sr tokTB (by kernel_rfl)
  · intro RR hRR
    refine w_bld_s kn31 zr31 und31 rfl (by exact ⟨rfl, kn2, sz2, rfl, kn2, sz2, rfl, kn24, sz24, rfl, kn29, sz29, trivial⟩) trivial rfl ?_
    refine w_move (by constructor) ?_
    refine w_stw rfl (by constructor) kn31 rfl (by exact trivial) (by first | exact trivial | exact ssh_vec | exact ssh_alg | exact ssh_tab | exact ssh_mat | exact ⟨rfl, fun _ => trivial⟩ | exact ⟨rfl, fun _ => by rw [zr29]; exact ssh_vec⟩) (by exact sz31.symm) ?_
    refine w_assign (by constructor) ?_
    exact hRR
  refine snd_ret ?_
  show retQ TB _ _ _ _ _ _
  exact rt_ct (T := TB) rfl kn31 rfl (by exact sz31.symm) (by exact ag31.symm) (fun V => m_alg) (fun V => rfl)
theorem lOppositeAlgebra_ok {p : Int} {n : Nat} {T : Nat → Nat → Nat → Int} {fo : Nat → Int} (hv0 : VN p n T fo) : ACalls Try.prog TB 7 [algA p (n : Int) T fo] (.bool true) [] := by
  refine acalls_of tokTB Try.func7 rfl rfl (Nat.le_of_ble_eq_true rfl) ?_
  apply sr tokTB (by kernel_rfl)
  · intro RR hRR
    refine w_boxc (HV.eq (by constructor)) (by exact trivial) ?_
    refine w_assign (by constructor) ?_
    exact hRR
  apply sr tokTB (by kernel_rfl)
  · intro RR hRR
    refine w_ldc rfl kn26 (by constructor) (by exact sz26.symm) (by exact ag26.symm) ?_
    refine y_call rfl (ec exn) (c_toAlgebra) ?_
    refine y_call rfl (ec exn) (c_sOppositeAlgebra_ok hv0 ) ?_
    refine w_move (by constructor) ?_
    refine w_ext rfl (by decide) (by constructor) ?_
    refine w_ext rfl (by decide) (by constructor) ?_
    refine w_alloc kn31 rfl zr31 ?_
    refine w_stw rfl (by constructor) kn31 rfl (by exact trivial) (by first | exact trivial | exact ssh_vec | exact ssh_alg | exact ssh_tab | exact ssh_mat | exact ⟨rfl, fun _ => trivial⟩ | exact ⟨rfl, fun _ => by rw [zr29]; exact ssh_vec⟩) (by exact sz31.symm) ?_
    refine w_assign (by constructor) ?_
    exact hRR
  apply sr tokTB (by kernel_rfl)
  · intro RR hRR
    refine w_ldc rfl kn26 (by constructor) (by exact sz26.symm) (by exact ag26.symm) ?_
    refine y_call rfl (ec exn) (c_toAlgebra) ?_
    refine y_call rfl (ec exn) (c_iOppositeAlgebra_ok hv0 ) ?_
    refine w_move (by constructor) ?_
    refine w_ext rfl (by decide) (by constructor) ?_
    refine w_ext rfl (by decide) (by constructor) ?_
    refine w_alloc kn31 rfl zr31 ?_
    refine w_stw rfl (by constructor) kn31 rfl (by exact trivial) (by first | exact trivial | exact ssh_vec | exact ssh_alg | exact ssh_tab | exact ssh_mat | exact ⟨rfl, fun _ => trivial⟩ | exact ⟨rfl, fun _ => by rw [zr29]; exact ssh_vec⟩) (by exact sz31.symm) ?_
    refine w_assign (by constructor) ?_
    exact hRR
  refine snd_seq ?_
  apply srG (env' := (27, .bool (!true || decide ((0 : Int) ≠ 0))) :: (26, .any) :: (25, .any) :: (24, .any) :: (23, _) :: (22, _) :: (21, _) :: (20, _) :: (19, _) :: _) tokTB (by kernel_rfl)
  · intro RR hRR
    refine w_ldp rfl kn31 rfl (by constructor) (by exact sz31.symm) (by exact ag31.symm) ?_
    refine w_ldp rfl kn31 rfl (by constructor) (by exact sz31.symm) (by exact ag31.symm) ?_
    refine y_call rfl (ec (ec exn)) (c_eqAlgebra) ?_
    refine w_not rfl ?_
    refine w_move (by constructor) ?_
    refine w_g rfl rfl (fun hg4 => ?_) (fun hg4 => ?_)
    · skip
      refine w_move (by constructor) ?_
      refine w_g_on rfl rfl hg4 ?_
      refine w_move (by constructor) ?_
      refine w_g_on rfl rfl hg4 ?_
      refine w_neq rfl rfl ?_
      refine w_pick_0 rfl hg4 (by constructor) ?_
      try simp only [Int.toNat_natCast] at hg4
      exact hRR _ (EL.cons (.inr (by first | rfl | (simp only [hg4, els]; done) | (simp only [hg4, els]; rfl) | simp [hg4])) (EL.cons (.inl rfl) (EL.cons (.inl rfl) (EL.cons (.inl rfl) (EL.cons (.inr rfl) (EL.cons (.inr rfl) (EL.cons (.inr rfl) (EL.cons (.inr rfl) (EL.cons (.inr rfl) (EL.refl _))))))))))
    · have hg4 := eq_true_of_ne_false hg4
      refine w_g_off rfl rfl (by rw [hg4]; decide) ?_
      refine w_g_off rfl rfl (by rw [hg4]; decide) ?_
      refine w_pick_1 rfl hg4 (by constructor) ?_
      try simp only [Int.toNat_natCast] at hg4
      exact hRR _ (EL.cons (.inr (by first | rfl | (simp only [hg4, els]; done) | (simp only [hg4, els]; rfl) | simp [hg4])) (EL.cons (.inl rfl) (EL.cons (.inl rfl) (EL.cons (.inl rfl) (EL.cons (.inr rfl) (EL.cons (.inr rfl) (EL.cons (.inr rfl) (EL.cons (.inr rfl) (EL.cons (.inr rfl) (EL.refl _))))))))))
  refine snd_cond _ rfl (fun hc27 => ?_) (fun hc27 => ?_)
  · skip
    exact absurd hc27 (by simp [eqN])
  · skip
    refine snd_skip ?_
    apply sr tokTB (by kernel_rfl)
    · intro RR hRR
      refine w_assign (by constructor) ?_
      exact hRR
    refine snd_ret ?_
    exact rt (T := TB) (fun V => by first | exact m_bool rfl | exact m_int rfl)
theorem lOppositeAlgebra_no {p n : Int} {T : Nat → Nat → Nat → Int} {fo : Nat → Int} (hT : RB T) (hf : RV fo) (hz : ¬ VZ p n T fo 0 (fun _ _ => 0)) : ACalls Try.prog TB 7 [algA p n T fo] (.bool true) [] := by
  refine acalls_of tokTB Try.func7 rfl rfl (Nat.le_of_ble_eq_true rfl) ?_
  apply sr tokTB (by kernel_rfl)
  · intro RR hRR
    refine w_boxc (HV.eq (by constructor)) (by exact trivial) ?_
    refine w_assign (by constructor) ?_
    exact hRR
  apply sr tokTB (by kernel_rfl)
  · intro RR hRR
    refine w_ldc rfl kn26 (by constructor) (by exact sz26.symm) (by exact ag26.symm) ?_
    refine y_call rfl (ec exn) (c_toAlgebra) ?_
    refine y_call rfl (ec exn) (c_sOppositeAlgebra_no hT hf  hz) ?_
    refine w_move (by constructor) ?_
    refine w_ext rfl (by decide) (by constructor) ?_
    refine w_ext rfl (by decide) (by constructor) ?_
    refine w_alloc kn31 rfl zr31 ?_
    refine w_stw rfl (by constructor) kn31 rfl (by exact trivial) (by first | exact trivial | exact ssh_vec | exact ssh_alg | exact ssh_tab | exact ssh_mat | exact ⟨rfl, fun _ => trivial⟩ | exact ⟨rfl, fun _ => by rw [zr29]; exact ssh_vec⟩) (by exact sz31.symm) ?_
    refine w_assign (by constructor) ?_
    exact hRR
  apply sr tokTB (by kernel_rfl)
  · intro RR hRR
    refine w_ldc rfl kn26 (by constructor) (by exact sz26.symm) (by exact ag26.symm) ?_
    refine y_call rfl (ec exn) (c_toAlgebra) ?_
    refine y_call rfl (ec exn) (c_iOppositeAlgebra_no hT hf  hz) ?_
    refine w_move (by constructor) ?_
    refine w_ext rfl (by decide) (by constructor) ?_
    refine w_ext rfl (by decide) (by constructor) ?_
    refine w_alloc kn31 rfl zr31 ?_
    refine w_stw rfl (by constructor) kn31 rfl (by exact trivial) (by first | exact trivial | exact ssh_vec | exact ssh_alg | exact ssh_tab | exact ssh_mat | exact ⟨rfl, fun _ => trivial⟩ | exact ⟨rfl, fun _ => by rw [zr29]; exact ssh_vec⟩) (by exact sz31.symm) ?_
    refine w_assign (by constructor) ?_
    exact hRR
  refine snd_seq ?_
  apply srG (env' := (27, .bool (!true || decide ((1 : Int) ≠ 1))) :: (26, .any) :: (25, .any) :: (24, .any) :: (23, _) :: (22, _) :: (21, _) :: (20, _) :: (19, _) :: _) tokTB (by kernel_rfl)
  · intro RR hRR
    refine w_ldp rfl kn31 rfl (by constructor) (by exact sz31.symm) (by exact ag31.symm) ?_
    refine w_ldp rfl kn31 rfl (by constructor) (by exact sz31.symm) (by exact ag31.symm) ?_
    refine y_call rfl (ec (ec exn)) (c_eqAlgebra) ?_
    refine w_not rfl ?_
    refine w_move (by constructor) ?_
    refine w_g rfl rfl (fun hg4 => ?_) (fun hg4 => ?_)
    · skip
      refine w_move (by constructor) ?_
      refine w_g_on rfl rfl hg4 ?_
      refine w_move (by constructor) ?_
      refine w_g_on rfl rfl hg4 ?_
      refine w_neq rfl rfl ?_
      refine w_pick_0 rfl hg4 (by constructor) ?_
      try simp only [Int.toNat_natCast] at hg4
      exact hRR _ (EL.cons (.inr (by first | rfl | (simp only [hg4, els]; done) | (simp only [hg4, els]; rfl) | simp [hg4])) (EL.cons (.inl rfl) (EL.cons (.inl rfl) (EL.cons (.inl rfl) (EL.cons (.inr rfl) (EL.cons (.inr rfl) (EL.cons (.inr rfl) (EL.cons (.inr rfl) (EL.cons (.inr rfl) (EL.refl _))))))))))
    · have hg4 := eq_true_of_ne_false hg4
      refine w_g_off rfl rfl (by rw [hg4]; decide) ?_
      refine w_g_off rfl rfl (by rw [hg4]; decide) ?_
      refine w_pick_1 rfl hg4 (by constructor) ?_
      try simp only [Int.toNat_natCast] at hg4
      exact hRR _ (EL.cons (.inr (by first | rfl | (simp only [hg4, els]; done) | (simp only [hg4, els]; rfl) | simp [hg4])) (EL.cons (.inl rfl) (EL.cons (.inl rfl) (EL.cons (.inl rfl) (EL.cons (.inr rfl) (EL.cons (.inr rfl) (EL.cons (.inr rfl) (EL.cons (.inr rfl) (EL.cons (.inr rfl) (EL.refl _))))))))))
  refine snd_cond _ rfl (fun hc27 => ?_) (fun hc27 => ?_)
  · skip
    exact absurd hc27 (by simp [eqN])
  · skip
    refine snd_skip ?_
    apply sr tokTB (by kernel_rfl)
    · intro RR hRR
      refine w_assign (by constructor) ?_
      exact hRR
    refine snd_ret ?_
    exact rt (T := TB) (fun V => by first | exact m_bool rfl | exact m_int rfl)
theorem law_OppositeAlgebra {p n : Int} {T : Nat → Nat → Nat → Int} {fo : Nat → Int} (hT : RB T) (hf : RV fo) : ACalls Try.prog TB 7 [algA p n T fo] (.bool true) [] := by
  by_cases hz : VZ p n T fo 0 (fun _ _ => 0)
  · have h1 := VZ_0.1 hz
    obtain ⟨hv0, hn⟩ := VN_of hT hf h1
    obtain ⟨m, rfl⟩ : ∃ m : Nat, n = (m : Int) := ⟨n.toNat, hn⟩
    have hv0 : VN p m T fo := hv0
    have hp0 : 0 < p := by have := hv0.p0; omega
    exact lOppositeAlgebra_ok hv0
  · exact lOppositeAlgebra_no hT hf hz
end Go.Am
