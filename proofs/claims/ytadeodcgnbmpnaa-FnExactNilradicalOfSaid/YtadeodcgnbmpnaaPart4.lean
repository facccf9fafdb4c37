/- Part 4 of what the law stands on: abstract values, their walk, contracts of functions. My own work. Conditions: none. -/
import Derived.Test.YtadeodcgnbmpnaaPart3
set_option linter.unusedVariables false
set_option linter.unusedSimpArgs false
set_option maxRecDepth 4000
namespace Go.Am
attribute [local irreducible] retQ retQp
open Go.Proofs
theorem c_CloneR {n m : Nat} {R : Nat → Nat → Int} (h0 : 0 < n) (hn : n ≤ 1000000) : ACalls Try.prog TB 141 [rowsA n m R] (.own 0 0 n 57) (HRR n m R) := by
  refine acalls_of tokTB Try.func141 rfl rfl (Nat.le_of_ble_eq_true rfl) ?_
  apply sr tokTB (by kernel_rfl)
  · intro RR hRR
    refine w_assign (by constructor) ?_
    exact hRR
  refine snd_seq ?_
  apply sr tokTB (by kernel_rfl)
  · intro RR hRR
    refine w_move (by constructor) ?_
    refine w_reqn rfl rfl (by omega) und52 ?_
    exact hRR
  refine snd_cond_false rfl ?_
  refine snd_skip ?_
  apply sr tokTB (by kernel_rfl)
  · intro RR hRR
    refine w_bsl und52 kn57 (by rw [sz57]; rfl) rfl trivial trivial rfl ?_
    refine w_move (by constructor) ?_
    refine w_app_o und52 rfl rfl kn57 rfl rfl (fun C h => ⟨by omega, fun _ => trivial, h⟩) (by rw [by57]; omega) (by omega) rfl ?_
    refine w_assign (by constructor) ?_
    exact hRR
  refine snd_ret ?_
  show retQ TB _ _ _ _ _ _
  exact rt_own rfl rfl (by omega) (fun _ => trivial) (fun V i hi => by rw [appF_ge (Nat.zero_le _) (by omega)]; exact mt_row (fun _ _ => rfl))
theorem c_IndexFunc2 {n m : Nat} {R : Nat → Nat → Int} {g nc : Nat} {caps : Nat → AV} {P : Nat → Bool} (hm : n ≤ 1000000) (hcaps : (AV.fn g nc caps).closed) (hf : ∀ i, i < n → ACalls Try.prog TB g (rowA m (R i) :: capL nc caps) (.bool (P i)) []) : ACalls Try.prog TB 142 [rowsA n m R, .fn g nc caps] (.int .i64 (idxF P n)) [] := by
  refine acalls_of tokTB Try.func142 rfl rfl (Nat.le_of_ble_eq_true rfl) ?_
  apply sr tokTB (by kernel_rfl)
  · intro RR hRR
    refine w_assign (by constructor) ?_
    exact hRR
  refine snd_seq ?_
  apply sr tokTB (by kernel_rfl)
  · intro RR hRR
    refine w_move (by constructor) ?_
    refine w_len_r rfl rfl und52 ?_
    refine w_move (by constructor) ?_
    exact hRR
  refine snd_block ?_
  refine snd_loop (S := Nat) (fun i => ([(0, rowsA n m R), (1, .fn g nc caps), (7, .int .i64 (n : Int)), (8, .int .i64 (i : Int))], [])) (fun i => i ≤ n ∧ ∀ j, j < i → P j = false) (fun i => n - i) (0) ρ0 ?_ ?_ ?_
  · exact ⟨⟨(mt_rows (V := _) (fun _ _ _ _ => rfl)), (Mt_closed (V := _) (by assumption) (fun _ _ _ => trivial) (by simp)), (by first | exact m_int rfl | exact m_int (by omega) | exact m_int (by simp; done) | (exact m_int (by simp; omega))), (by first | exact m_int rfl | exact m_int (by omega) | exact m_int (by simp; done) | (exact m_int (by simp; omega))), trivial⟩, trivial, trivial⟩
  · exact ⟨Nat.zero_le _, fun j hj => by omega⟩
  intro i hi0
  refine sq (env2 := [(0, rowsA n m R), (1, .fn g nc caps), (7, .int .i64 (n : Int)), (8, .int .i64 (i : Int))]) (ol2 := []) rfl rfl ?_
  obtain ⟨hi1, hi2⟩ := hi0
  apply sr tokTB (by kernel_rfl)
  · intro RR hRR
    refine w_lss rfl rfl ?_
    exact hRR
  refine snd_seq ?_
  refine snd_cond _ rfl (fun hc9 => ?_) (fun hc9 => ?_)
  · try simp only [hcs] at hc9
    refine snd_skip ?_
    refine snd_seq ?_
    refine snd_block ?_
    apply sr tokTB (by kernel_rfl)
    · intro RR hRR
      refine w_move (by constructor) ?_
      refine w_assign (by constructor) ?_
      exact hRR
    apply sr tokTB (by kernel_rfl)
    · intro RR hRR
      refine w_move (by constructor) ?_
      refine w_move (by constructor) ?_
      refine w_move (by constructor) ?_
      refine w_iar rfl rfl und52 kn57 (by exact sz57.symm) ?_ rfl ?_
      · exact ⟨by omega, by omega⟩
      first | refine w_ldc rfl kn57 (by constructor) (by exact sz57.symm) (by exact ag57.symm) ?_ | refine w_ldp rfl kn57 rfl (by constructor) (by exact sz57.symm) (by exact ag57.symm) ?_
      refine y_call rfl (exc (by exact rfl) (exp_capL hcaps)) (hf i (by omega)) ?_
      exact hRR
    refine snd_cond _ rfl (fun hc16 => ?_) (fun hc16 => ?_)
    · skip
      apply sr tokTB (by kernel_rfl)
      · intro RR hRR
        refine w_move (by constructor) ?_
        refine w_assign (by constructor) ?_
        exact hRR
      refine snd_ret ?_
      exact rt (T := TB) (fun V => m_int (idx_at (by omega) (by exact hc16) hi2).symm)
    · skip
      refine snd_skip ?_
      apply lr tokTB (by kernel_rfl)
      · intro RR hRR
        refine y_add rfl rfl ?_
        refine w_move (by constructor) ?_
        exact hRR
      refine ⟨i + 1, ρ0, ?_, ⟨by omega, all_step hi2 (by exact hc16)⟩, (by dsimp only; omega)⟩
      exact ⟨⟨(mt_rows (V := _) (fun _ _ _ _ => rfl)), (Mt_closed (V := _) (by assumption) (fun _ _ _ => trivial) (by simp)), (by first | exact m_int rfl | exact m_int (by omega) | exact m_int (by simp; done) | (exact m_int (by simp; omega))), (by first | exact m_int rfl | exact m_int (by omega) | exact m_int (by simp; done) | (exact m_int (by simp; omega))), trivial⟩, trivial, trivial⟩
  · try simp only [hcs] at hc9
    refine snd_exit ?_
    apply sr tokTB (by kernel_rfl)
    · intro RR hRR
      refine w_assign (by constructor) ?_
      exact hRR
    refine snd_ret ?_
    exact rt (T := TB) (fun V => m_int (idx_none (fun j hj => hi2 j (by omega))).symm)
theorem c_reduce1 {m c : Nat} {f : Nat → Int} (hc : c < m) : ACalls Try.prog TB 143 [rowA m f, .cptr (.int .i64 (c : Int))] (.bool (decide (f c ≠ 0))) [] := by
  refine acalls_of tokTB Try.func143 rfl rfl (Nat.le_of_ble_eq_true rfl) ?_
  apply sr tokTB (by kernel_rfl)
  · intro RR hRR
    refine w_assign (by constructor) ?_
    exact hRR
  apply sr tokTB (by kernel_rfl)
  · intro RR hRR
    refine w_move (by constructor) ?_
    refine w_ldc rfl kn3 (by constructor) (by exact sz3.symm) (by exact ag3.symm) ?_
    refine w_iar rfl rfl und57 kn2 (by exact sz2.symm) ?_ rfl ?_
    · exact ⟨by omega, by omega⟩
    first | refine w_ldc rfl kn2 (by constructor) (by exact sz2.symm) (by exact ag2.symm) ?_ | refine w_ldp rfl kn2 rfl (by constructor) (by exact sz2.symm) (by exact ag2.symm) ?_
    refine w_neq rfl rfl ?_
    refine w_assign (by constructor) ?_
    exact hRR
  refine snd_ret ?_
  exact rt (T := TB) (fun V => by first | exact m_bool rfl | exact m_int rfl)
theorem c_reduce {n m : Nat} {R : Nat → Nat → Int} {p : Int} (hp : primeB p = true) (hn : n ≤ 1000) (hm : m ≤ 1000) (hR : ∀ i, B8 (R i)) : ACalls Try.prog TB 105 [rowsA n m R, .int .i64 p] (.own 0 0 (redGo p n R m).no 57) (HRR (redGo p n R m).no m (redGo p n R m).O) := by
  have hpb := primeB_bd hp
  refine acalls_of tokTB Try.func105 rfl rfl (Nat.le_of_ble_eq_true rfl) ?_
  apply sr tokTB (by kernel_rfl)
  · intro RR hRR
    refine w_assign (by constructor) ?_
    exact hRR
  apply sr tokTB (by kernel_rfl)
  · intro RR hRR
    refine w_bsl und52 kn57 (by rw [sz57]; rfl) rfl trivial trivial rfl ?_
    refine w_assign (by constructor) ?_
    exact hRR
  refine snd_seq ?_
  apply sr tokTB (by kernel_rfl)
  · intro RR hRR
    refine w_move (by constructor) ?_
    refine w_len_r rfl rfl und52 ?_
    refine w_eql rfl rfl ?_
    exact hRR
  refine snd_cond _ rfl (fun hc17 => ?_) (fun hc17 => ?_)
  · try simp only [hcs] at hc17
    have hn0 : n = 0 := by omega
    have hno : (redGo p n R m).no = 0 := by have := (red_counts p n R m).2.2; omega
    apply sr tokTB (by kernel_rfl)
    · intro RR hRR
      refine w_move (by constructor) ?_
      refine w_assign (by constructor) ?_
      exact hRR
    refine snd_ret ?_
    show retQ TB _ _ _ _ _ _
    exact rt_own rfl rfl hno.symm (fun _ => trivial) (fun V i hi => by omega)
  · try simp only [hcs] at hc17
    refine snd_skip ?_
    apply sr tokTB (by kernel_rfl)
    · intro RR hRR
      refine w_move (by constructor) ?_
      refine w_call rfl (ec exn) (c_CloneR (m := m) (R := R) (by omega) (by omega)) (.inr ⟨closed_rows, trivial⟩) rfl (by constructor) rfl ?_
      refine w_assign (by constructor) ?_
      exact hRR
    refine snd_seq ?_
    apply sr tokTB (by kernel_rfl)
    · intro RR hRR
      refine w_move (by constructor) ?_
      refine w_iar rfl rfl und52 kn57 (by exact sz57.symm) ?_ rfl ?_
      · exact ⟨by omega, by omega⟩
      first | refine w_ldc rfl kn57 (by constructor) (by exact sz57.symm) (by exact ag57.symm) ?_ | refine w_ldp rfl kn57 rfl (by constructor) (by exact sz57.symm) (by exact ag57.symm) ?_
      first | refine w_len_r rfl rfl und57 ?_ | refine w_len_o rfl rfl und57 ?_ | refine w_len_n rfl rfl und57 ?_
      refine w_move (by constructor) ?_
      exact hRR
    refine snd_block ?_
    refine snd_loop (S := Nat) (fun c => ([(1, .int .i64 p), (24, .int .i64 (m : Int)), (25, .int .i64 (c : Int)), (5, .own 905 0 ((redGo p n R c).no) 57), (6, .own 906 0 ((redGo p n R c).nl) 57)], [(905, .one (ZR ((redGo p n R c).no)) (CR ((redGo p n R c).no) m ((redGo p n R c).O))), (906, .one (ZR ((redGo p n R c).nl)) (CR ((redGo p n R c).nl) m ((redGo p n R c).L)))])) (fun c => c ≤ m) (fun c => m - c) (0) (fun k i => bif Nat.beq k 906 then (21000, i) else bif Nat.beq k 905 then (14, i) else (k, i)) ?_ ?_ ?_
    · exact ⟨⟨(by first | exact m_int rfl | exact m_int (by omega) | exact m_int (by simp; done) | (exact m_int (by simp; omega))), (by first | exact m_int rfl | exact m_int (by omega) | exact m_int (by simp; done) | (exact m_int (by simp; omega))), (by first | exact m_int rfl | exact m_int (by omega) | exact m_int (by simp; done) | (exact m_int (by simp; omega))), (by first | exact ⟨rfl, rfl, rfl, rfl⟩ | exact ⟨rfl, by omega, rfl, rfl⟩), (by first | exact ⟨rfl, rfl, rfl, rfl⟩ | exact ⟨rfl, by omega, rfl, rfl⟩), trivial⟩, ⟨⟨rfl, (by first | exact trivial | exact ssh_vec | exact ssh_alg | exact ssh_pr | exact ssh_tab | exact ssh_mat | exact ⟨rfl, fun _ => trivial⟩ | exact ⟨rfl, fun _ => by rw [zr30]; exact ssh_vec⟩), (by exact mt_arr0)⟩, ⟨rfl, (by first | exact trivial | exact ssh_vec | exact ssh_alg | exact ssh_pr | exact ssh_tab | exact ssh_mat | exact ⟨rfl, fun _ => trivial⟩ | exact ⟨rfl, fun _ => by rw [zr30]; exact ssh_vec⟩), (by exact ⟨rfl, fun _ _ => mt_row (fun _ _ => rfl)⟩)⟩, trivial⟩, ⟨⟨(fun h => by first | exact ⟨rfl, rfl⟩ | exact absurd h (by decide)), (fun h => by first | exact ⟨rfl, rfl⟩ | exact absurd h (by decide)), trivial⟩, ⟨(fun h => by first | exact ⟨rfl, rfl⟩ | exact absurd h (by decide)), (fun h => by first | exact ⟨rfl, rfl⟩ | exact absurd h (by decide)), trivial⟩, trivial⟩⟩
    · exact Nat.zero_le _
    intro c hi0
    refine sq (env2 := [(1, .int .i64 p), (24, .int .i64 (m : Int)), (25, .int .i64 (c : Int)), (5, .own 905 0 ((redGo p n R c).no) 57), (6, .own 906 0 ((redGo p n R c).nl) 57)]) (ol2 := [(905, .one (ZR ((redGo p n R c).no)) (CR ((redGo p n R c).no) m ((redGo p n R c).O))), (906, .one (ZR ((redGo p n R c).nl)) (CR ((redGo p n R c).nl) m ((redGo p n R c).L)))]) rfl rfl ?_
    apply sr tokTB (by kernel_rfl)
    · intro RR hRR
      refine w_lss rfl rfl ?_
      exact hRR
    refine snd_seq ?_
    refine snd_cond _ rfl (fun hc26 => ?_) (fun hc26 => ?_)
    · try simp only [hcs] at hc26
      refine snd_skip ?_
      refine snd_seq ?_
      refine snd_block ?_
      apply sr tokTB (by kernel_rfl)
      · intro RR hRR
        refine w_move (by constructor) ?_
        refine w_alloc kn3 rfl zr3 ?_
        refine w_stw rfl (by constructor) kn3 rfl (by exact trivial) (by first | exact trivial | exact ssh_vec | exact ssh_alg | exact ssh_pr | exact ssh_tab | exact ssh_mat | exact ⟨rfl, fun _ => trivial⟩ | exact ⟨rfl, fun _ => by rw [zr30]; exact ssh_vec⟩) (by exact sz3.symm) ?_
        exact hRR
      obtain ⟨ix, hix⟩ : ∃ ix, ix = idxF (fun i => decide ((redGo p n R c).L i c ≠ 0)) (redGo p n R c).nl := ⟨_, rfl⟩
      have hcn0 := red_counts p n R c
      apply sr tokTB (by kernel_rfl)
      · intro RR hRR
        refine w_move (by constructor) ?_
        refine w_mkf1 (by constructor) ?_
        refine y_call rfl (exc (by exact rfl) (exc (by refine congrArg (AV.fn _ 1) (funext fun i => ?_); match i with | 0 => rfl | n + 1 => rfl) exn)) (hix ▸ c_IndexFunc2 (P := fun i => decide ((redGo p n R c).L i c ≠ 0)) (g := 143) (nc := 1) (caps := cap1 (.cptr (.int .i64 (c : Int)))) (by omega) (fun i => by match i with | 0 => exact trivial | n + 1 => exact trivial) (fun i _ => c_reduce1 (by omega))) ?_
        refine w_assign (by constructor) ?_
        exact hRR
      refine snd_seq ?_
      apply sr tokTB (by kernel_rfl)
      · intro RR hRR
        refine w_move (by constructor) ?_
        refine w_lss rfl rfl ?_
        exact hRR
      refine snd_cond _ rfl (fun hc32 => ?_) (fun hc32 => ?_)
      · try simp only [hcs] at hc32
        have hnx := red_miss (p := p) (n := n) (R := R) (c := c) (by rw [← hix]; exact hc32)
        refine snd_exit ?_
        apply lr tokTB (by kernel_rfl)
        · intro RR hRR
          refine y_add rfl rfl ?_
          refine w_move (by constructor) ?_
          exact hRR
        refine ⟨c + 1, ρ0, ?_, (by omega), (by dsimp only; omega)⟩
        dsimp only
        rw [hnx]
        exact ⟨⟨(by first | exact m_int rfl | exact m_int (by omega) | exact m_int (by simp; done) | (exact m_int (by simp; omega))), (by first | exact m_int rfl | exact m_int (by omega) | exact m_int (by simp; done) | (exact m_int (by simp; omega))), (by first | exact m_int rfl | exact m_int (by omega) | exact m_int (by simp; done) | (exact m_int (by simp; omega))), (by first | exact ⟨rfl, rfl, rfl, rfl⟩ | exact ⟨rfl, by omega, rfl, rfl⟩), (by first | exact ⟨rfl, rfl, rfl, rfl⟩ | exact ⟨rfl, by omega, rfl, rfl⟩), trivial⟩, ⟨⟨rfl, (by first | exact trivial | exact ssh_vec | exact ssh_alg | exact ssh_pr | exact ssh_tab | exact ssh_mat | exact ⟨rfl, fun _ => trivial⟩ | exact ⟨rfl, fun _ => by rw [zr30]; exact ssh_vec⟩), (by exact ⟨rfl, fun _ _ => mt_row (fun _ _ => rfl)⟩)⟩, ⟨rfl, (by first | exact trivial | exact ssh_vec | exact ssh_alg | exact ssh_pr | exact ssh_tab | exact ssh_mat | exact ⟨rfl, fun _ => trivial⟩ | exact ⟨rfl, fun _ => by rw [zr30]; exact ssh_vec⟩), (by exact ⟨rfl, fun _ _ => mt_row (fun _ _ => rfl)⟩)⟩, trivial⟩, ⟨⟨(fun h => by first | exact ⟨rfl, rfl⟩ | exact absurd h (by decide)), (fun h => by first | exact ⟨rfl, rfl⟩ | exact absurd h (by decide)), trivial⟩, ⟨(fun h => by first | exact ⟨rfl, rfl⟩ | exact absurd h (by decide)), (fun h => by first | exact ⟨rfl, rfl⟩ | exact absurd h (by decide)), trivial⟩, trivial⟩⟩
      · try simp only [hcs] at hc32
        obtain ⟨k, hk, hPk, hek⟩ : ∃ k : Nat, k < (redGo p n R c).nl ∧ (redGo p n R c).L k c ≠ 0 ∧ ix = (k : Int) := by
          rcases idx_cases (fun i => decide ((redGo p n R c).L i c ≠ 0)) (redGo p n R c).nl with ⟨k, hk, hPk, _, he⟩ | ⟨_, he⟩
          · exact ⟨k, hk, by simpa using hPk, hix.trans he⟩
          · rw [hix, he] at hc32; omega
        have hnx := red_hit (p := p) (n := n) (R := R) (c := c) (k := k) (hix.symm.trans hek)
        clear hix
        subst hek
        have hLk := (red_B8 (p := p) (n := n) (by omega) (by omega) hR c).1 k c
        have hiv := invF_bd (p := p) hLk.1 (by omega)
        have hB := red_B8 (p := p) (n := n) (by omega) (by omega) hR c
        have hpB : B8 (scaledF p ((redGo p n R c).L k) (invF p ((redGo p n R c).L k c))) := scaledF_B8 (by omega) (by omega) _ _
        have hcn := red_counts p n R c
        refine snd_skip ?_
        apply sd tokTB mixed (by kernel_rfl) (by kernel_rfl)
        · intro RR hRR
          refine w_move (by constructor) ?_
          refine w_move (by constructor) ?_
          refine w_iao rfl rfl und52 kn57 ?_ ?_
          · exact ⟨by omega, by omega⟩
          first | refine w_ldc rfl kn57 (by constructor) (by exact sz57.symm) (by exact ag57.symm) ?_ | refine w_ldp rfl kn57 rfl (by constructor) (by exact sz57.symm) (by exact ag57.symm) ?_
          refine w_move (by constructor) ?_
          refine w_move (by constructor) ?_
          refine w_iao rfl rfl und52 kn57 ?_ ?_
          · exact ⟨by omega, by omega⟩
          first | refine w_ldc rfl kn57 (by constructor) (by exact sz57.symm) (by exact ag57.symm) ?_ | refine w_ldp rfl kn57 rfl (by constructor) (by exact sz57.symm) (by exact ag57.symm) ?_
          refine w_ldp rfl kn3 rfl (by constructor) (by exact sz3.symm) (by exact ag3.symm) ?_
          first | refine w_iar rfl rfl und57 kn2 (by exact sz2.symm) ?_ rfl ?_ | refine w_iao rfl rfl und57 kn2 ?_ ?_
          · exact ⟨by omega, by omega⟩
          first | refine w_ldc rfl kn2 (by constructor) (by exact sz2.symm) (by exact ag2.symm) ?_ | refine w_ldp rfl kn2 rfl (by constructor) (by exact sz2.symm) (by exact ag2.symm) ?_
          refine w_move (by constructor) ?_
          refine y_call rfl (ec (ec exn)) (c_inverseI (x := (redGo p n R c).L k c) hLk (by omega) (by omega)) ?_
          refine w_move (by constructor) ?_
          refine w_call rfl (ec (ec (ec exn))) (c_scaled (f := (redGo p n R c).L k) (k := invF p ((redGo p n R c).L k c)) (by omega) (by omega) (by omega) (hB.1 k) (by omega)) (.inl ⟨trivial, ⟨fun _ => trivial, trivial⟩⟩) rfl (by constructor) rfl ?_
          refine w_assign (by constructor) ?_
          exact hRR
        apply srD tokTB (ops1 := [_, _, _, _]) (ops2 := [_]) (by kernel_rfl) rfl rfl
        · intro RR hRR
          refine w_move (by constructor) ?_
          refine w_move (by constructor) ?_
          refine w_move (by constructor) ?_
          refine w_add rfl rfl (by exact w64 (by omega) (by omega)) ?_
          exact hRR
        · exact del_mid tokTB (fun args w => by simp [callFunc, Try.func146]; rfl) del_low kn57 sz57 (a := k) (key := 52) rfl rfl rfl rfl hk rfl
        · intro RR hRR
          refine w_assign (by constructor) ?_
          exact hRR
        refine snd_seq ?_
        apply sr tokTB (by kernel_rfl)
        · intro RR hRR
          refine w_move (by constructor) ?_
          first | refine w_len_r rfl rfl und52 ?_ | refine w_len_o rfl rfl und52 ?_ | refine w_len_n rfl rfl und52 ?_
          refine w_move (by constructor) ?_
          exact hRR
        refine snd_block ?_
        refine snd_loop (S := Nat) (fun i => ([(1, .int .i64 p), (24, .int .i64 (m : Int)), (25, .int .i64 (c : Int)), (5, .own 905 0 ((redGo p n R c).no) 57), (6, .own 906 0 ((redGo p n R c).nl - 1) 57), (7, .ptr 7 0 [] 0 (.int .i64 0)), (9, rowA m (scaledF p ((redGo p n R c).L k) (invF p ((redGo p n R c).L k c)))), (53, .own 906 0 ((redGo p n R c).nl - 1) 57), (54, .int .i64 (((redGo p n R c).nl - 1 : Nat) : Int)), (55, .int .i64 (i : Int))], [(905, .one (ZR ((redGo p n R c).no)) (CR ((redGo p n R c).no) m ((redGo p n R c).O))), (906, .one (ZR ((redGo p n R c).nl - 1)) (CR ((redGo p n R c).nl - 1) m (mixG (fun a => lessF p ((cutR (redGo p n R c).L k) a) (scaledF p ((redGo p n R c).L k) (invF p ((redGo p n R c).L k c))) ((cutR (redGo p n R c).L k) a c)) (cutR (redGo p n R c).L k) i))), (7, .one (.int .i64 0) (.int .i64 (c : Int)))])) (fun i => i ≤ (redGo p n R c).nl - 1) (fun i => (redGo p n R c).nl - 1 - i) (0) (fun k i => bif Nat.beq k 906 then (52, i) else (k, i)) ?_ ?_ ?_
        · exact ⟨⟨(by first | exact m_int rfl | exact m_int (by omega) | exact m_int (by simp; done) | (exact m_int (by simp; omega))), (by first | exact m_int rfl | exact m_int (by omega) | exact m_int (by simp; done) | (exact m_int (by simp; omega))), (by first | exact m_int rfl | exact m_int (by omega) | exact m_int (by simp; done) | (exact m_int (by simp; omega))), (by first | exact ⟨rfl, rfl, rfl, rfl⟩ | exact ⟨rfl, by omega, rfl, rfl⟩), (by first | exact ⟨rfl, rfl, rfl, rfl⟩ | exact ⟨rfl, by omega, rfl, rfl⟩), ⟨rfl, rfl, rfl, rfl, rfl⟩, (by exact mt_fz (by exact ⟨(ne_fst rfl), (ne_fst rfl), (ne_fst rfl), trivial⟩) rfl (fun _ _ => rfl)), (by first | exact ⟨rfl, rfl, rfl, rfl⟩ | exact ⟨rfl, by omega, rfl, rfl⟩), (by first | exact m_int rfl | exact m_int (by omega) | exact m_int (by simp; done) | (exact m_int (by simp; omega))), (by first | exact m_int rfl | exact m_int (by omega) | exact m_int (by simp; done) | (exact m_int (by simp; omega))), trivial⟩, ⟨⟨rfl, (by first | exact trivial | exact ssh_vec | exact ssh_alg | exact ssh_pr | exact ssh_tab | exact ssh_mat | exact ⟨rfl, fun _ => trivial⟩ | exact ⟨rfl, fun _ => by rw [zr30]; exact ssh_vec⟩), (by exact ⟨rfl, fun _ _ => mt_row (fun _ _ => rfl)⟩)⟩, ⟨rfl, (by first | exact trivial | exact ssh_vec | exact ssh_alg | exact ssh_pr | exact ssh_tab | exact ssh_mat | exact ⟨rfl, fun _ => trivial⟩ | exact ⟨rfl, fun _ => by rw [zr30]; exact ssh_vec⟩), (by exact ⟨rfl, fun a _ => by rw [cutR_map]; exact mt_row (fun _ _ => by simp [mixG])⟩)⟩, ⟨rfl, (by first | exact trivial | exact ssh_vec | exact ssh_alg | exact ssh_pr | exact ssh_tab | exact ssh_mat | exact ⟨rfl, fun _ => trivial⟩ | exact ⟨rfl, fun _ => by rw [zr30]; exact ssh_vec⟩), (by exact rfl)⟩, trivial⟩, ⟨⟨(fun h => by first | exact ⟨rfl, rfl⟩ | exact absurd h (by decide)), (fun h => by first | exact ⟨rfl, rfl⟩ | exact absurd h (by decide)), (fun h => by first | exact ⟨rfl, rfl⟩ | exact absurd h (by decide)), trivial⟩, ⟨(fun h => by first | exact ⟨rfl, rfl⟩ | exact absurd h (by decide)), (fun h => by first | exact ⟨rfl, rfl⟩ | exact absurd h (by decide)), (fun h => by first | exact ⟨rfl, rfl⟩ | exact absurd h (by decide)), trivial⟩, ⟨(fun h => by first | exact ⟨rfl, rfl⟩ | exact absurd h (by decide)), (fun h => by first | exact ⟨rfl, rfl⟩ | exact absurd h (by decide)), (fun h => by first | exact ⟨rfl, rfl⟩ | exact absurd h (by decide)), trivial⟩, trivial⟩⟩
        · exact Nat.zero_le _
        intro i hi2
        refine sq (env2 := [(1, .int .i64 p), (24, .int .i64 (m : Int)), (25, .int .i64 (c : Int)), (5, .own 905 0 ((redGo p n R c).no) 57), (6, .own 906 0 ((redGo p n R c).nl - 1) 57), (7, .ptr 7 0 [] 0 (.int .i64 0)), (9, rowA m (scaledF p ((redGo p n R c).L k) (invF p ((redGo p n R c).L k c)))), (53, .own 906 0 ((redGo p n R c).nl - 1) 57), (54, .int .i64 (((redGo p n R c).nl - 1 : Nat) : Int)), (55, .int .i64 (i : Int))]) (ol2 := [(905, .one (ZR ((redGo p n R c).no)) (CR ((redGo p n R c).no) m ((redGo p n R c).O))), (906, .one (ZR ((redGo p n R c).nl - 1)) (CR ((redGo p n R c).nl - 1) m (mixG (fun a => lessF p ((cutR (redGo p n R c).L k) a) (scaledF p ((redGo p n R c).L k) (invF p ((redGo p n R c).L k c))) ((cutR (redGo p n R c).L k) a c)) (cutR (redGo p n R c).L k) i))), (7, .one (.int .i64 0) (.int .i64 (c : Int)))]) rfl rfl ?_
        apply sr tokTB (by kernel_rfl)
        · intro RR hRR
          refine w_lss rfl rfl ?_
          exact hRR
        refine snd_seq ?_
        refine snd_cond _ rfl (fun hc56 => ?_) (fun hc56 => ?_)
        · try simp only [hcs] at hc56
          refine snd_skip ?_
          refine snd_seq ?_
          refine snd_block ?_
          apply sr tokTB (by kernel_rfl)
          · intro RR hRR
            refine w_move (by constructor) ?_
            refine w_iao rfl rfl und52 kn57 ?_ ?_
            · exact ⟨by omega, by omega⟩
            first | refine w_ldc rfl kn57 (by constructor) (by exact sz57.symm) (by exact ag57.symm) ?_ | refine w_ldp rfl kn57 rfl (by constructor) (by exact sz57.symm) (by exact ag57.symm) ?_
            refine w_assign (by constructor) ?_
            refine w_assign (by constructor) ?_
            exact hRR
          apply lr tokTB (by kernel_rfl)
          · intro RR hRR
            refine w_move (by constructor) ?_
            refine w_move (by constructor) ?_
            refine w_move (by constructor) ?_
            refine w_move (by constructor) ?_
            refine w_move (by constructor) ?_
            refine w_ldp rfl kn3 rfl (by constructor) (by exact sz3.symm) (by exact ag3.symm) ?_
            first | refine w_iar rfl rfl und57 kn2 (by exact sz2.symm) ?_ rfl ?_ | refine w_iao rfl rfl und57 kn2 ?_ ?_
            · exact ⟨by omega, by omega⟩
            first | refine w_ldc rfl kn2 (by constructor) (by exact sz2.symm) (by exact ag2.symm) ?_ | refine w_ldp rfl kn2 rfl (by constructor) (by exact sz2.symm) (by exact ag2.symm) ?_
            refine w_move (by constructor) ?_
            refine w_call rfl (ec (ec (ec (ec exn)))) (c_lessTimes (f := mixG (fun a => lessF p ((cutR (redGo p n R c).L k) a) (scaledF p ((redGo p n R c).L k) (invF p ((redGo p n R c).L k c))) ((cutR (redGo p n R c).L k) a c)) (cutR (redGo p n R c).L k) i i) (g := (scaledF p ((redGo p n R c).L k) (invF p ((redGo p n R c).L k c)))) (k := mixG (fun a => lessF p ((cutR (redGo p n R c).L k) a) (scaledF p ((redGo p n R c).L k) (invF p ((redGo p n R c).L k c))) ((cutR (redGo p n R c).L k) a c)) (cutR (redGo p n R c).L k) i i c) (by omega) (by omega) (by omega) (mixG_B8 (fun _ => lessF_B8 (by omega) (by omega) _ _ _) (cutR_B8 hB.1 k) i i) hpB (mixG_B8 (fun _ => lessF_B8 (by omega) (by omega) _ _ _) (cutR_B8 hB.1 k) i i c)) (.inl ⟨trivial, ⟨fun _ => trivial, trivial⟩⟩) rfl (by constructor) rfl ?_
            refine w_iao rfl rfl und52 kn57 ?_ ?_
            · exact ⟨by omega, by omega⟩
            first | refine w_stw rfl (by constructor) kn57 rfl (by exact trivial) (by first | exact trivial | exact ssh_vec | exact ssh_alg | exact ssh_pr | exact ssh_tab | exact ssh_mat | exact ⟨rfl, fun _ => trivial⟩ | exact ⟨rfl, fun _ => by rw [zr30]; exact ssh_vec⟩) (by exact sz57.symm) ?_ | refine w_sti rfl rfl kn57 rfl (by exact trivial) (by exact sz57.symm) ?_ | refine w_store rfl (HV.eq (by constructor)) kn57 rfl (by exact trivial) (by first | exact trivial | exact ssh_vec | exact ssh_alg | exact ssh_pr | exact ssh_tab | exact ssh_mat | exact ⟨rfl, fun _ => trivial⟩ | exact ⟨rfl, fun _ => by rw [zr30]; exact ssh_vec⟩) (by exact sz57.symm) (put_in (by first | exact put_mat | exact put_tab | exact put_alg0 | exact put_pr0 | exact put_pr1 | exact put_pr2 | exact put_alg1 | exact put_alg2 | exact put_alg3 | exact put_alg3i | exact put_alg2ij | exact put_alg2ijk | exact put_mat2 | exact put_tab2 | exact put_tab3)) ?_ | refine w_store rfl (HV.eq (by constructor)) kn57 rfl (by exact trivial) (by exact trivial) (by exact sz57.symm) rfl ?_
            exact hRR
          apply lr tokTB (by kernel_rfl)
          · intro RR hRR
            refine y_add rfl rfl ?_
            refine w_move (by constructor) ?_
            exact hRR
          refine ⟨i + 1, ρ0, ?_, (by omega), (by dsimp only; omega)⟩
          exact ⟨⟨(by first | exact m_int rfl | exact m_int (by omega) | exact m_int (by simp; done) | (exact m_int (by simp; omega))), (by first | exact m_int rfl | exact m_int (by omega) | exact m_int (by simp; done) | (exact m_int (by simp; omega))), (by first | exact m_int rfl | exact m_int (by omega) | exact m_int (by simp; done) | (exact m_int (by simp; omega))), (by first | exact ⟨rfl, rfl, rfl, rfl⟩ | exact ⟨rfl, by omega, rfl, rfl⟩), (by first | exact ⟨rfl, rfl, rfl, rfl⟩ | exact ⟨rfl, by omega, rfl, rfl⟩), ⟨rfl, rfl, rfl, rfl, rfl⟩, (by first | exact mt_row (V := _) (fun _ _ => rfl) | exact mt_fz (by exact ⟨(ne_fst rfl), (ne_fst rfl), (ne_fst rfl), trivial⟩) rfl (fun _ _ => rfl)), (by first | exact ⟨rfl, rfl, rfl, rfl⟩ | exact ⟨rfl, by omega, rfl, rfl⟩), (by first | exact m_int rfl | exact m_int (by omega) | exact m_int (by simp; done) | (exact m_int (by simp; omega))), (by first | exact m_int rfl | exact m_int (by omega) | exact m_int (by simp; done) | (exact m_int (by simp; omega))), trivial⟩, ⟨⟨rfl, (by first | exact trivial | exact ssh_vec | exact ssh_alg | exact ssh_pr | exact ssh_tab | exact ssh_mat | exact ⟨rfl, fun _ => trivial⟩ | exact ⟨rfl, fun _ => by rw [zr30]; exact ssh_vec⟩), (by exact ⟨rfl, fun _ _ => mt_row (fun _ _ => rfl)⟩)⟩, ⟨rfl, (by first | exact trivial | exact ssh_vec | exact ssh_alg | exact ssh_pr | exact ssh_tab | exact ssh_mat | exact ⟨rfl, fun _ => trivial⟩ | exact ⟨rfl, fun _ => by rw [zr30]; exact ssh_vec⟩), (by exact mt_put (fun a ha hne => mt_row (fun j _ => by (by_cases h : a < i) <;> simp [mixG, h, show (a < i + 1) = (a < i) by (apply propext; omega)])) (mt_fz (by exact ⟨(ne_fst rfl), (ne_fst rfl), (ne_fst rfl), trivial⟩) rfl (fun j _ => congrArg (AV.int .i64) (by simp [mixG]))))⟩, ⟨rfl, (by first | exact trivial | exact ssh_vec | exact ssh_alg | exact ssh_pr | exact ssh_tab | exact ssh_mat | exact ⟨rfl, fun _ => trivial⟩ | exact ⟨rfl, fun _ => by rw [zr30]; exact ssh_vec⟩), (by exact rfl)⟩, trivial⟩, ⟨⟨(fun h => by first | exact ⟨rfl, rfl⟩ | exact absurd h (by decide)), (fun h => by first | exact ⟨rfl, rfl⟩ | exact absurd h (by decide)), (fun h => by first | exact ⟨rfl, rfl⟩ | exact absurd h (by decide)), trivial⟩, ⟨(fun h => by first | exact ⟨rfl, rfl⟩ | exact absurd h (by decide)), (fun h => by first | exact ⟨rfl, rfl⟩ | exact absurd h (by decide)), (fun h => by first | exact ⟨rfl, rfl⟩ | exact absurd h (by decide)), trivial⟩, ⟨(fun h => by first | exact ⟨rfl, rfl⟩ | exact absurd h (by decide)), (fun h => by first | exact ⟨rfl, rfl⟩ | exact absurd h (by decide)), (fun h => by first | exact ⟨rfl, rfl⟩ | exact absurd h (by decide)), trivial⟩, trivial⟩⟩
        · try simp only [hcs] at hc56
          have hin : (redGo p n R c).nl - 1 = i := by omega
          refine snd_exit ?_
          refine snd_seq ?_
          apply sr tokTB (by kernel_rfl)
          · intro RR hRR
            refine w_move (by constructor) ?_
            refine w_len_o rfl rfl und52 ?_
            refine w_move (by constructor) ?_
            exact hRR
          refine snd_block ?_
          refine snd_loop (S := Nat) (fun i => ([(1, .int .i64 p), (24, .int .i64 (m : Int)), (25, .int .i64 (c : Int)), (5, .own 905 0 ((redGo p n R c).no) 57), (6, .own 906 0 ((redGo p n R c).nl - 1) 57), (7, .ptr 7 0 [] 0 (.int .i64 0)), (9, rowA m (scaledF p ((redGo p n R c).L k) (invF p ((redGo p n R c).L k c)))), (72, .own 905 0 ((redGo p n R c).no) 57), (73, .int .i64 (((redGo p n R c).no : Nat) : Int)), (74, .int .i64 (i : Int))], [(905, .one (ZR ((redGo p n R c).no)) (CR ((redGo p n R c).no) m (mixG (fun a => lessF p ((redGo p n R c).O a) (scaledF p ((redGo p n R c).L k) (invF p ((redGo p n R c).L k c))) ((redGo p n R c).O a c)) (redGo p n R c).O i))), (906, .one (ZR ((redGo p n R c).nl - 1)) (CR ((redGo p n R c).nl - 1) m ((fun a => lessF p ((cutR (redGo p n R c).L k) a) (scaledF p ((redGo p n R c).L k) (invF p ((redGo p n R c).L k c))) ((cutR (redGo p n R c).L k) a c))))), (7, .one (.int .i64 0) (.int .i64 (c : Int)))])) (fun i => i ≤ (redGo p n R c).no) (fun i => (redGo p n R c).no - i) (0) ρ0 ?_ ?_ ?_
          · exact ⟨⟨(by first | exact m_int rfl | exact m_int (by omega) | exact m_int (by simp; done) | (exact m_int (by simp; omega))), (by first | exact m_int rfl | exact m_int (by omega) | exact m_int (by simp; done) | (exact m_int (by simp; omega))), (by first | exact m_int rfl | exact m_int (by omega) | exact m_int (by simp; done) | (exact m_int (by simp; omega))), (by first | exact ⟨rfl, rfl, rfl, rfl⟩ | exact ⟨rfl, by omega, rfl, rfl⟩), (by first | exact ⟨rfl, rfl, rfl, rfl⟩ | exact ⟨rfl, by omega, rfl, rfl⟩), ⟨rfl, rfl, rfl, rfl, rfl⟩, (by first | exact mt_row (V := _) (fun _ _ => rfl) | exact mt_fz (by exact ⟨(ne_fst rfl), (ne_fst rfl), (ne_fst rfl), trivial⟩) rfl (fun _ _ => rfl)), (by first | exact ⟨rfl, rfl, rfl, rfl⟩ | exact ⟨rfl, by omega, rfl, rfl⟩), (by first | exact m_int rfl | exact m_int (by omega) | exact m_int (by simp; done) | (exact m_int (by simp; omega))), (by first | exact m_int rfl | exact m_int (by omega) | exact m_int (by simp; done) | (exact m_int (by simp; omega))), trivial⟩, ⟨⟨rfl, (by first | exact trivial | exact ssh_vec | exact ssh_alg | exact ssh_pr | exact ssh_tab | exact ssh_mat | exact ⟨rfl, fun _ => trivial⟩ | exact ⟨rfl, fun _ => by rw [zr30]; exact ssh_vec⟩), (by exact ⟨rfl, fun a _ => mt_row (fun _ _ => by simp [mixG])⟩)⟩, ⟨rfl, (by first | exact trivial | exact ssh_vec | exact ssh_alg | exact ssh_pr | exact ssh_tab | exact ssh_mat | exact ⟨rfl, fun _ => trivial⟩ | exact ⟨rfl, fun _ => by rw [zr30]; exact ssh_vec⟩), (by exact ⟨rfl, fun a ha => mt_row (fun _ _ => by rw [mixG_lt _ _ (by omega)])⟩)⟩, ⟨rfl, (by first | exact trivial | exact ssh_vec | exact ssh_alg | exact ssh_pr | exact ssh_tab | exact ssh_mat | exact ⟨rfl, fun _ => trivial⟩ | exact ⟨rfl, fun _ => by rw [zr30]; exact ssh_vec⟩), (by exact rfl)⟩, trivial⟩, ⟨⟨(fun h => by first | exact ⟨rfl, rfl⟩ | exact absurd h (by decide)), (fun h => by first | exact ⟨rfl, rfl⟩ | exact absurd h (by decide)), (fun h => by first | exact ⟨rfl, rfl⟩ | exact absurd h (by decide)), trivial⟩, ⟨(fun h => by first | exact ⟨rfl, rfl⟩ | exact absurd h (by decide)), (fun h => by first | exact ⟨rfl, rfl⟩ | exact absurd h (by decide)), (fun h => by first | exact ⟨rfl, rfl⟩ | exact absurd h (by decide)), trivial⟩, ⟨(fun h => by first | exact ⟨rfl, rfl⟩ | exact absurd h (by decide)), (fun h => by first | exact ⟨rfl, rfl⟩ | exact absurd h (by decide)), (fun h => by first | exact ⟨rfl, rfl⟩ | exact absurd h (by decide)), trivial⟩, trivial⟩⟩
          · exact Nat.zero_le _
          intro i hi4
          refine sq (env2 := [(1, .int .i64 p), (24, .int .i64 (m : Int)), (25, .int .i64 (c : Int)), (5, .own 905 0 ((redGo p n R c).no) 57), (6, .own 906 0 ((redGo p n R c).nl - 1) 57), (7, .ptr 7 0 [] 0 (.int .i64 0)), (9, rowA m (scaledF p ((redGo p n R c).L k) (invF p ((redGo p n R c).L k c)))), (72, .own 905 0 ((redGo p n R c).no) 57), (73, .int .i64 (((redGo p n R c).no : Nat) : Int)), (74, .int .i64 (i : Int))]) (ol2 := [(905, .one (ZR ((redGo p n R c).no)) (CR ((redGo p n R c).no) m (mixG (fun a => lessF p ((redGo p n R c).O a) (scaledF p ((redGo p n R c).L k) (invF p ((redGo p n R c).L k c))) ((redGo p n R c).O a c)) (redGo p n R c).O i))), (906, .one (ZR ((redGo p n R c).nl - 1)) (CR ((redGo p n R c).nl - 1) m ((fun a => lessF p ((cutR (redGo p n R c).L k) a) (scaledF p ((redGo p n R c).L k) (invF p ((redGo p n R c).L k c))) ((cutR (redGo p n R c).L k) a c))))), (7, .one (.int .i64 0) (.int .i64 (c : Int)))]) rfl rfl ?_
          apply sr tokTB (by kernel_rfl)
          · intro RR hRR
            refine w_lss rfl rfl ?_
            exact hRR
          refine snd_seq ?_
          refine snd_cond _ rfl (fun hc75 => ?_) (fun hc75 => ?_)
          · try simp only [hcs] at hc75
            refine snd_skip ?_
            refine snd_seq ?_
            refine snd_block ?_
            apply sr tokTB (by kernel_rfl)
            · intro RR hRR
              refine w_move (by constructor) ?_
              refine w_iao rfl rfl und52 kn57 ?_ ?_
              · exact ⟨by omega, by omega⟩
              first | refine w_ldc rfl kn57 (by constructor) (by exact sz57.symm) (by exact ag57.symm) ?_ | refine w_ldp rfl kn57 rfl (by constructor) (by exact sz57.symm) (by exact ag57.symm) ?_
              refine w_assign (by constructor) ?_
              refine w_assign (by constructor) ?_
              exact hRR
            apply lr tokTB (by kernel_rfl)
            · intro RR hRR
              refine w_move (by constructor) ?_
              refine w_move (by constructor) ?_
              refine w_move (by constructor) ?_
              refine w_move (by constructor) ?_
              refine w_move (by constructor) ?_
              refine w_ldp rfl kn3 rfl (by constructor) (by exact sz3.symm) (by exact ag3.symm) ?_
              first | refine w_iar rfl rfl und57 kn2 (by exact sz2.symm) ?_ rfl ?_ | refine w_iao rfl rfl und57 kn2 ?_ ?_
              · exact ⟨by omega, by omega⟩
              first | refine w_ldc rfl kn2 (by constructor) (by exact sz2.symm) (by exact ag2.symm) ?_ | refine w_ldp rfl kn2 rfl (by constructor) (by exact sz2.symm) (by exact ag2.symm) ?_
              refine w_move (by constructor) ?_
              refine w_call rfl (ec (ec (ec (ec exn)))) (c_lessTimes (f := mixG (fun a => lessF p ((redGo p n R c).O a) (scaledF p ((redGo p n R c).L k) (invF p ((redGo p n R c).L k c))) ((redGo p n R c).O a c)) (redGo p n R c).O i i) (g := (scaledF p ((redGo p n R c).L k) (invF p ((redGo p n R c).L k c)))) (k := mixG (fun a => lessF p ((redGo p n R c).O a) (scaledF p ((redGo p n R c).L k) (invF p ((redGo p n R c).L k c))) ((redGo p n R c).O a c)) (redGo p n R c).O i i c) (by omega) (by omega) (by omega) (mixG_B8 (fun _ => lessF_B8 (by omega) (by omega) _ _ _) hB.2 i i) hpB (mixG_B8 (fun _ => lessF_B8 (by omega) (by omega) _ _ _) hB.2 i i c)) (.inl ⟨trivial, ⟨fun _ => trivial, trivial⟩⟩) rfl (by constructor) rfl ?_
              refine w_iao rfl rfl und52 kn57 ?_ ?_
              · exact ⟨by omega, by omega⟩
              first | refine w_stw rfl (by constructor) kn57 rfl (by exact trivial) (by first | exact trivial | exact ssh_vec | exact ssh_alg | exact ssh_pr | exact ssh_tab | exact ssh_mat | exact ⟨rfl, fun _ => trivial⟩ | exact ⟨rfl, fun _ => by rw [zr30]; exact ssh_vec⟩) (by exact sz57.symm) ?_ | refine w_sti rfl rfl kn57 rfl (by exact trivial) (by exact sz57.symm) ?_ | refine w_store rfl (HV.eq (by constructor)) kn57 rfl (by exact trivial) (by first | exact trivial | exact ssh_vec | exact ssh_alg | exact ssh_pr | exact ssh_tab | exact ssh_mat | exact ⟨rfl, fun _ => trivial⟩ | exact ⟨rfl, fun _ => by rw [zr30]; exact ssh_vec⟩) (by exact sz57.symm) (put_in (by first | exact put_mat | exact put_tab | exact put_alg0 | exact put_pr0 | exact put_pr1 | exact put_pr2 | exact put_alg1 | exact put_alg2 | exact put_alg3 | exact put_alg3i | exact put_alg2ij | exact put_alg2ijk | exact put_mat2 | exact put_tab2 | exact put_tab3)) ?_ | refine w_store rfl (HV.eq (by constructor)) kn57 rfl (by exact trivial) (by exact trivial) (by exact sz57.symm) rfl ?_
              exact hRR
            apply lr tokTB (by kernel_rfl)
            · intro RR hRR
              refine y_add rfl rfl ?_
              refine w_move (by constructor) ?_
              exact hRR
            refine ⟨i + 1, ρ0, ?_, (by omega), (by dsimp only; omega)⟩
            exact ⟨⟨(by first | exact m_int rfl | exact m_int (by omega) | exact m_int (by simp; done) | (exact m_int (by simp; omega))), (by first | exact m_int rfl | exact m_int (by omega) | exact m_int (by simp; done) | (exact m_int (by simp; omega))), (by first | exact m_int rfl | exact m_int (by omega) | exact m_int (by simp; done) | (exact m_int (by simp; omega))), (by first | exact ⟨rfl, rfl, rfl, rfl⟩ | exact ⟨rfl, by omega, rfl, rfl⟩), (by first | exact ⟨rfl, rfl, rfl, rfl⟩ | exact ⟨rfl, by omega, rfl, rfl⟩), ⟨rfl, rfl, rfl, rfl, rfl⟩, (by first | exact mt_row (V := _) (fun _ _ => rfl) | exact mt_fz (by exact ⟨(ne_fst rfl), (ne_fst rfl), (ne_fst rfl), trivial⟩) rfl (fun _ _ => rfl)), (by first | exact ⟨rfl, rfl, rfl, rfl⟩ | exact ⟨rfl, by omega, rfl, rfl⟩), (by first | exact m_int rfl | exact m_int (by omega) | exact m_int (by simp; done) | (exact m_int (by simp; omega))), (by first | exact m_int rfl | exact m_int (by omega) | exact m_int (by simp; done) | (exact m_int (by simp; omega))), trivial⟩, ⟨⟨rfl, (by first | exact trivial | exact ssh_vec | exact ssh_alg | exact ssh_pr | exact ssh_tab | exact ssh_mat | exact ⟨rfl, fun _ => trivial⟩ | exact ⟨rfl, fun _ => by rw [zr30]; exact ssh_vec⟩), (by exact mt_put (fun a ha hne => mt_row (fun j _ => by (by_cases h : a < i) <;> simp [mixG, h, show (a < i + 1) = (a < i) by (apply propext; omega)])) (mt_fz (by exact ⟨(ne_fst rfl), (ne_fst rfl), (ne_fst rfl), trivial⟩) rfl (fun j _ => congrArg (AV.int .i64) (by simp [mixG]))))⟩, ⟨rfl, (by first | exact trivial | exact ssh_vec | exact ssh_alg | exact ssh_pr | exact ssh_tab | exact ssh_mat | exact ⟨rfl, fun _ => trivial⟩ | exact ⟨rfl, fun _ => by rw [zr30]; exact ssh_vec⟩), (by exact ⟨rfl, fun _ _ => mt_row (fun _ _ => rfl)⟩)⟩, ⟨rfl, (by first | exact trivial | exact ssh_vec | exact ssh_alg | exact ssh_pr | exact ssh_tab | exact ssh_mat | exact ⟨rfl, fun _ => trivial⟩ | exact ⟨rfl, fun _ => by rw [zr30]; exact ssh_vec⟩), (by exact rfl)⟩, trivial⟩, ⟨⟨(fun h => by first | exact ⟨rfl, rfl⟩ | exact absurd h (by decide)), (fun h => by first | exact ⟨rfl, rfl⟩ | exact absurd h (by decide)), (fun h => by first | exact ⟨rfl, rfl⟩ | exact absurd h (by decide)), trivial⟩, ⟨(fun h => by first | exact ⟨rfl, rfl⟩ | exact absurd h (by decide)), (fun h => by first | exact ⟨rfl, rfl⟩ | exact absurd h (by decide)), (fun h => by first | exact ⟨rfl, rfl⟩ | exact absurd h (by decide)), trivial⟩, ⟨(fun h => by first | exact ⟨rfl, rfl⟩ | exact absurd h (by decide)), (fun h => by first | exact ⟨rfl, rfl⟩ | exact absurd h (by decide)), (fun h => by first | exact ⟨rfl, rfl⟩ | exact absurd h (by decide)), trivial⟩, trivial⟩⟩
          · try simp only [hcs] at hc75
            have hio : (redGo p n R c).no = i := by omega
            refine snd_exit ?_
            apply lr tokTB (by kernel_rfl)
            · intro RR hRR
              refine w_move (by constructor) ?_
              refine w_move (by constructor) ?_
              refine w_bsl1 und52 kn57 (by rw [sz57]; rfl) rfl (by constructor) (by first | exact trivial | exact cel_cap2) (by exact sz57.symm) (by first | exact trivial | exact ssh_vec | exact ⟨rfl, fun _ => trivial⟩) ?_
              refine w_app_o und52 rfl rfl kn57 rfl rfl (fun C h => ⟨rfl, rfl, rfl, h⟩) (by rw [by57]; omega) (by omega) rfl ?_
              refine w_assign (by constructor) ?_
              exact hRR
            apply lr tokTB (by kernel_rfl)
            · intro RR hRR
              refine y_add rfl rfl ?_
              refine w_move (by constructor) ?_
              exact hRR
            refine ⟨c + 1, (fun k i => bif Nat.beq k 905 then (94, i) else (k, i)), ?_, (by omega), (by dsimp only; omega)⟩
            dsimp only
            rw [hnx]
            exact ⟨⟨(by first | exact m_int rfl | exact m_int (by omega) | exact m_int (by simp; done) | (exact m_int (by simp; omega))), (by first | exact m_int rfl | exact m_int (by omega) | exact m_int (by simp; done) | (exact m_int (by simp; omega))), (by first | exact m_int rfl | exact m_int (by omega) | exact m_int (by simp; done) | (exact m_int (by simp; omega))), (by first | exact ⟨rfl, rfl, rfl, rfl⟩ | exact ⟨rfl, by omega, rfl, rfl⟩), (by first | exact ⟨rfl, rfl, rfl, rfl⟩ | exact ⟨rfl, by omega, rfl, rfl⟩), trivial⟩, ⟨⟨rfl, (by first | exact trivial | exact ssh_vec | exact ssh_alg | exact ssh_pr | exact ssh_tab | exact ssh_mat | exact ⟨rfl, fun _ => trivial⟩ | exact ⟨rfl, fun _ => by rw [zr30]; exact ssh_vec⟩), (by exact mt_app (fun a ha => mt_row (fun j _ => by simp [redHit, mixG, ← hio, ha, Nat.ne_of_lt ha])) (mt_row (fun _ _ => by simp [redHit])))⟩, ⟨rfl, (by first | exact trivial | exact ssh_vec | exact ssh_alg | exact ssh_pr | exact ssh_tab | exact ssh_mat | exact ⟨rfl, fun _ => trivial⟩ | exact ⟨rfl, fun _ => by rw [zr30]; exact ssh_vec⟩), (by exact ⟨rfl, fun _ _ => mt_row (fun _ _ => rfl)⟩)⟩, trivial⟩, ⟨⟨(fun h => by first | exact ⟨rfl, rfl⟩ | exact absurd h (by decide)), (fun h => by first | exact ⟨rfl, rfl⟩ | exact absurd h (by decide)), trivial⟩, ⟨(fun h => by first | exact ⟨rfl, rfl⟩ | exact absurd h (by decide)), (fun h => by first | exact ⟨rfl, rfl⟩ | exact absurd h (by decide)), trivial⟩, trivial⟩⟩
    · try simp only [hcs] at hc26
      have hcm : m = c := by omega
      subst hcm
      refine snd_exit ?_
      apply sr tokTB (by kernel_rfl)
      · intro RR hRR
        refine w_move (by constructor) ?_
        refine w_assign (by constructor) ?_
        exact hRR
      refine snd_ret ?_
      show retQ TB _ _ _ _ _ _
      exact rt_own rfl rfl rfl (fun _ => trivial) (fun V i hi => mt_row (fun _ _ => rfl))
end Go.Am

