/- Part 4 of what the law stands on: abstract values, their walk, contracts of functions. My own work. Conditions: none. -/
import Derived.Test.YtndlghhhkgjohaaPart3
set_option linter.unusedVariables false
set_option linter.unusedSimpArgs false
set_option maxRecDepth 4000
namespace Go.Am
attribute [local irreducible] retQ retQp
open Go.Proofs
theorem c_l01Echelon {n m : Nat} {R : Nat → Nat → Int} {p : Int} (hp : primeB p = true) (hn : n ≤ 1000) (hm : m ≤ 1000) (hm0 : 0 < m) (hR : ∀ i, Bp p (R i)) : ACalls Try.prog TB 110 [.int .i64 p, rowsA n m R] (.own 0 0 (echGo p m R n).no 62) (HRR (echGo p m R n).no m (echGo p m R n).O) := by
  have hpb := primeB_bd hp
  refine acalls_of tokTB Try.func110 rfl rfl (Nat.le_of_ble_eq_true rfl) ?_
  apply sr tokTB (by kernel_rfl)
  · intro RR hRR
    refine w_assign (by constructor) ?_
    exact hRR
  apply sr tokTB (by kernel_rfl)
  · intro RR hRR
    refine w_bsl und35 kn62 (by rw [sz62]; rfl) rfl trivial trivial rfl ?_
    refine w_assign (by constructor) ?_
    exact hRR
  refine snd_seq ?_
  apply sr tokTB (by kernel_rfl)
  · intro RR hRR
    refine w_assign (by constructor) ?_
    exact hRR
  refine snd_block ?_
  refine snd_loop (S := Nat) (fun i => ([(0, .int .i64 p), (1, rowsA n m R), (5, .own 905 0 ((echGo p m R i).no) 62), (6, .int .i64 (i : Int))], [(905, .one (ZR ((echGo p m R i).no)) (CR ((echGo p m R i).no) m ((echGo p m R i).O)))])) (fun i => i ≤ n) (fun i => n - i) (0) (fun k i => bif Nat.beq k 905 then (16, i) else (k, i)) ?_ ?_ ?_
  · exact ⟨⟨(mi), (mt_rows (V := _) (fun _ _ _ _ => rfl)), (by first | exact ⟨rfl, rfl, rfl, rfl⟩ | exact ⟨rfl, by omega, rfl, rfl⟩), (mi), trivial⟩, ⟨⟨rfl, (sx), (by exact mt_arr0)⟩, trivial⟩, ⟨⟨(fun h => by first | exact ⟨rfl, rfl⟩ | exact absurd h (by decide)), trivial⟩, trivial⟩⟩
  · exact Nat.zero_le _
  intro i hi0
  refine sq (env2 := [(0, .int .i64 p), (1, rowsA n m R), (5, .own 905 0 ((echGo p m R i).no) 62), (6, .int .i64 (i : Int))]) (ol2 := [(905, .one (ZR ((echGo p m R i).no)) (CR ((echGo p m R i).no) m ((echGo p m R i).O)))]) rfl rfl ?_
  refine snd_seq ?_
  apply sr tokTB (by kernel_rfl)
  · intro RR hRR
    refine w_move (by constructor) ?_
    refine w_move (by constructor) ?_
    refine w_len_r rfl rfl und35 ?_
    refine w_lss rfl rfl ?_
    exact hRR
  refine snd_cond _ rfl (fun hc20 => ?_) (fun hc20 => ?_)
  · try simp only [hcs] at hc20
    have hil : i < n := by omega
    obtain ⟨⟨l, hrr⟩, _⟩ := ech_ok (m := m) (R := R) hp i (fun b _ => hR b)
    have hcn := ech_count p m R i
    have hRB : B8 (R i) := B8_of (by omega) (hR i)
    have hby := byGo_Bp (p := p) (m := m) (O := (echGo p m R i).O) (by omega) (hR i)
    have hOB : ∀ k, k < (echGo p m R i).no → B8 ((echGo p m R i).O k) := fun k hk => B8_of (by omega) (hrr.bp k hk)
    refine snd_skip ?_
    refine snd_seq ?_
    refine snd_block ?_
    apply sr tokTB (by kernel_rfl)
    · intro RR hRR
      refine w_move (by constructor) ?_
      refine w_move (by constructor) ?_
      refine w_iar rfl rfl und35 kn62 (by exact sz62.symm) ?_ rfl ?_
      · exact ⟨by omega, by omega⟩
      first | refine w_ldc rfl kn62 (by constructor) (by exact sz62.symm) (by exact ag62.symm) ?_ | refine w_ldp rfl kn62 rfl (by constructor) (by exact sz62.symm) (by exact ag62.symm) ?_
      refine w_call rfl (ec exn) (c_l01Own (m := m) (f := R i) hm0 (by omega)) (.inl ⟨trivial, ⟨fun _ => trivial, trivial⟩⟩) rfl (by constructor) rfl ?_
      refine w_assign (by constructor) ?_
      exact hRR
    refine snd_seq ?_
    apply sr tokTB (by kernel_rfl)
    · intro RR hRR
      refine w_assign (by constructor) ?_
      exact hRR
    refine snd_block ?_
    refine snd_loop (S := Nat) (fun k => ([(0, .int .i64 p), (1, rowsA n m R), (5, .own 905 0 ((echGo p m R i).no) 62), (6, .int .i64 (i : Int)), (7, .own 907 0 m 2), (8, .int .i64 (k : Int))], [(905, .one (ZR ((echGo p m R i).no)) (CR ((echGo p m R i).no) m ((echGo p m R i).O))), (907, .one (Z64 m) (C64 m ((byGo p m (echGo p m R i).O (R i)) k)))])) (fun k => k ≤ (echGo p m R i).no) (fun k => (echGo p m R i).no - k) (0) (fun k i => bif Nat.beq k 907 then (28000, i) else (k, i)) ?_ ?_ ?_
    · exact ⟨⟨(mi), (mt_rows (V := _) (fun _ _ _ _ => rfl)), (by first | exact ⟨rfl, rfl, rfl, rfl⟩ | exact ⟨rfl, by omega, rfl, rfl⟩), (mi), (by first | exact ⟨rfl, rfl, rfl, rfl⟩ | exact ⟨rfl, by omega, rfl, rfl⟩), (mi), trivial⟩, ⟨⟨rfl, (sx), (by exact ⟨rfl, fun _ _ => mt_row (fun _ _ => rfl)⟩)⟩, ⟨rfl, (sx), (by exact mt_vec (fun _ _ => rfl))⟩, trivial⟩, ⟨⟨(fun h => by first | exact ⟨rfl, rfl⟩ | exact absurd h (by decide)), (fun h => by first | exact ⟨rfl, rfl⟩ | exact absurd h (by decide)), trivial⟩, ⟨(fun h => by first | exact ⟨rfl, rfl⟩ | exact absurd h (by decide)), (fun h => by first | exact ⟨rfl, rfl⟩ | exact absurd h (by decide)), trivial⟩, trivial⟩⟩
    · exact Nat.zero_le _
    intro k hi2
    refine sq (env2 := [(0, .int .i64 p), (1, rowsA n m R), (5, .own 905 0 ((echGo p m R i).no) 62), (6, .int .i64 (i : Int)), (7, .own 907 0 m 2), (8, .int .i64 (k : Int))]) (ol2 := [(905, .one (ZR ((echGo p m R i).no)) (CR ((echGo p m R i).no) m ((echGo p m R i).O))), (907, .one (Z64 m) (C64 m ((byGo p m (echGo p m R i).O (R i)) k)))]) rfl rfl ?_
    refine snd_seq ?_
    apply sr tokTB (by kernel_rfl)
    · intro RR hRR
      refine w_move (by constructor) ?_
      refine w_move (by constructor) ?_
      refine w_len_o rfl rfl und35 ?_
      refine w_lss rfl rfl ?_
      exact hRR
    refine snd_cond _ rfl (fun hc31 => ?_) (fun hc31 => ?_)
    · try simp only [hcs] at hc31
      have hk : k < (echGo p m R i).no := by omega
      have hld := hrr.lead k hk
      refine snd_skip ?_
      refine snd_seq ?_
      refine snd_block ?_
      apply sr tokTB (by kernel_rfl)
      · intro RR hRR
        refine w_move (by constructor) ?_
        refine w_move (by constructor) ?_
        refine w_iao rfl rfl und35 kn62 ?_ ?_
        · exact ⟨by omega, by omega⟩
        first | refine w_ldc rfl kn62 (by constructor) (by exact sz62.symm) (by exact ag62.symm) ?_ | refine w_ldp rfl kn62 rfl (by constructor) (by exact sz62.symm) (by exact ag62.symm) ?_
        refine y_call rfl (ec exn) (c_l01Lead (m := m) (f := (echGo p m R i).O k) (by omega)) ?_
        refine w_assign (by constructor) ?_
        exact hRR
      apply ld tokTB mixed (by kernel_rfl) (by kernel_rfl)
      · intro RR hRR
        refine w_move (by constructor) ?_
        refine w_move (by constructor) ?_
        refine w_move (by constructor) ?_
        refine w_move (by constructor) ?_
        refine w_iao rfl rfl und35 kn62 ?_ ?_
        · exact ⟨by omega, by omega⟩
        first | refine w_ldc rfl kn62 (by constructor) (by exact sz62.symm) (by exact ag62.symm) ?_ | refine w_ldp rfl kn62 rfl (by constructor) (by exact sz62.symm) (by exact ag62.symm) ?_
        refine w_move (by constructor) ?_
        refine w_move (by constructor) ?_
        refine w_iao rfl rfl und62 kn2 ?_ ?_
        · exact idx_in hld
        first | refine w_ldc rfl kn2 (by constructor) (by exact sz2.symm) (by exact ag2.symm) ?_ | refine w_ldp rfl kn2 rfl (by constructor) (by exact sz2.symm) (by exact ag2.symm) ?_
        refine w_call rfl (ec (ec (ec (ec exn)))) (c_l01Less (m := m) (f := (byGo p m (echGo p m R i).O (R i)) k) (g := (echGo p m R i).O k) (by omega) (by omega) (by omega) (B8_of (by omega) (hby k)) (hOB k hk) (B8_of (by omega) (hby k) _)) (.inl ⟨trivial, ⟨fun _ => trivial, trivial⟩⟩) rfl (by constructor) rfl ?_
        refine w_assign (by constructor) ?_
        exact hRR
      apply lr tokTB (by kernel_rfl)
      · intro RR hRR
        refine w_move (by constructor) ?_
        refine y_add rfl rfl ?_
        refine w_assign (by constructor) ?_
        exact hRR
      refine ⟨k + 1, (fun k i => bif Nat.beq k 907 then (50000, i) else (k, i)), ?_, (by omega), (by dsimp only; omega)⟩
      exact ⟨⟨(mi), (mt_rows (V := _) (fun _ _ _ _ => rfl)), (by first | exact ⟨rfl, rfl, rfl, rfl⟩ | exact ⟨rfl, by omega, rfl, rfl⟩), (mi), (by first | exact ⟨rfl, rfl, rfl, rfl⟩ | exact ⟨rfl, by omega, rfl, rfl⟩), (mi), trivial⟩, ⟨⟨rfl, (sx), (by exact ⟨rfl, fun _ _ => mt_row (fun _ _ => rfl)⟩)⟩, ⟨rfl, (sx), (by exact mt_vec (fun _ _ => rfl))⟩, trivial⟩, ⟨⟨(fun h => by first | exact ⟨rfl, rfl⟩ | exact absurd h (by decide)), (fun h => by first | exact ⟨rfl, rfl⟩ | exact absurd h (by decide)), trivial⟩, ⟨(fun h => by first | exact ⟨rfl, rfl⟩ | exact absurd h (by decide)), (fun h => by first | exact ⟨rfl, rfl⟩ | exact absurd h (by decide)), trivial⟩, trivial⟩⟩
    · try simp only [hcs] at hc31
      have hkn : k = (echGo p m R i).no := by omega
      subst hkn
      refine snd_exit ?_
      obtain ⟨ix, hix⟩ : ∃ ix, ix = idxF (fun j => decide ((byGo p m (echGo p m R i).O (R i) (echGo p m R i).no) j ≠ 0)) m := ⟨_, rfl⟩
      apply sr tokTB (by kernel_rfl)
      · intro RR hRR
        refine w_move (by constructor) ?_
        refine y_call rfl (ec exn) (hix ▸ c_l01Lead (m := m) (f := (byGo p m (echGo p m R i).O (R i) (echGo p m R i).no)) (by omega)) ?_
        refine w_assign (by constructor) ?_
        exact hRR
      refine snd_seq ?_
      apply sr tokTB (by kernel_rfl)
      · intro RR hRR
        refine w_move (by constructor) ?_
        refine w_lss rfl rfl ?_
        exact hRR
      refine snd_cond _ rfl (fun hc53 => ?_) (fun hc53 => ?_)
      · try simp only [hcs] at hc53
        have hnx := ech_miss (p := p) (m := m) (R := R) (i := i) (by rw [← hix]; exact hc53)
        refine snd_exit ?_
        apply lr tokTB (by kernel_rfl)
        · intro RR hRR
          refine w_move (by constructor) ?_
          refine y_add rfl rfl ?_
          refine w_assign (by constructor) ?_
          exact hRR
        refine ⟨i + 1, ρ0, ?_, (by omega), (by dsimp only; omega)⟩
        dsimp only
        rw [hnx]
        exact ⟨⟨(mi), (mt_rows (V := _) (fun _ _ _ _ => rfl)), (by first | exact ⟨rfl, rfl, rfl, rfl⟩ | exact ⟨rfl, by omega, rfl, rfl⟩), (mi), trivial⟩, ⟨⟨rfl, (sx), (by exact ⟨rfl, fun _ _ => mt_row (fun _ _ => rfl)⟩)⟩, trivial⟩, ⟨⟨(fun h => by first | exact ⟨rfl, rfl⟩ | exact absurd h (by decide)), trivial⟩, trivial⟩⟩
      · try simp only [hcs] at hc53
        have hnx := ech_hit (p := p) (m := m) (R := R) (i := i) (by rw [← hix]; omega)
        obtain ⟨a, ha, hfa, hfz, hek⟩ : ∃ a : Nat, a < m ∧ (byGo p m (echGo p m R i).O (R i) (echGo p m R i).no) a ≠ 0 ∧ (∀ j, j < a → (byGo p m (echGo p m R i).O (R i) (echGo p m R i).no) j = 0) ∧ ix = (a : Int) := by
          rcases idx_cases (fun j => decide ((byGo p m (echGo p m R i).O (R i) (echGo p m R i).no) j ≠ 0)) m with ⟨a, ha, hP, hb, he⟩ | ⟨_, he⟩
          · exact ⟨a, ha, by simpa using hP, fun j hj => by simpa using hb j hj, hix.trans he⟩
          · rw [hix, he] at hc53; omega
        clear hix
        subst hek
        have hOwB := hby (echGo p m R i).no
        have hOz := byGo_zero (by omega) hrr (hR i) (echGo p m R i).no (Nat.le_refl _)
        obtain ⟨_, _, hla, hp0, hp1, hp2⟩ := echHit_inv hp hrr hOwB hOz ha hfa hfz
        have hfa2 : 0 < (byGo p m (echGo p m R i).O (R i) (echGo p m R i).no) a ∧ (byGo p m (echGo p m R i).O (R i) (echGo p m R i).no) a < p := by have := hOwB a; omega
        have hiv := invF_bd (p := p) (x := (byGo p m (echGo p m R i).O (R i) (echGo p m R i).no) a) (by omega) (by omega)
        have hO8 : B8 (byGo p m (echGo p m R i).O (R i) (echGo p m R i).no) := B8_of (by omega) hOwB
        have hW8 : B8 (scaledF p (byGo p m (echGo p m R i).O (R i) (echGo p m R i).no) (invF p ((byGo p m (echGo p m R i).O (R i) (echGo p m R i).no) a))) := scaledF_B8 (by omega) (by omega) _ _
        refine snd_skip ?_
        apply sr tokTB (by kernel_rfl)
        · intro RR hRR
          refine w_move (by constructor) ?_
          refine w_move (by constructor) ?_
          refine w_move (by constructor) ?_
          refine w_iao rfl rfl und62 kn2 ?_ ?_
          · exact ⟨by omega, by omega⟩
          first | refine w_ldc rfl kn2 (by constructor) (by exact sz2.symm) (by exact ag2.symm) ?_ | refine w_ldp rfl kn2 rfl (by constructor) (by exact sz2.symm) (by exact ag2.symm) ?_
          refine y_call rfl (ec (ec exn)) (c_l01Inverse (p := p) (x := (byGo p m (echGo p m R i).O (R i) (echGo p m R i).no) a) hp hfa2.1 hfa2.2) ?_
          refine w_assign (by constructor) ?_
          exact hRR
        refine snd_seq ?_
        apply sr tokTB (by kernel_rfl)
        · intro RR hRR
          refine w_assign (by constructor) ?_
          exact hRR
        refine snd_block ?_
        refine snd_loop (S := Nat) (fun k => ([(0, .int .i64 p), (1, rowsA n m R), (5, .own 905 0 ((echGo p m R i).no) 62), (6, .int .i64 (i : Int)), (7, .own 907 0 m 2), (10, .int .i64 (a : Int)), (11, .int .i64 (invF p ((byGo p m (echGo p m R i).O (R i) (echGo p m R i).no) a))), (12, .int .i64 (k : Int))], [(905, .one (ZR ((echGo p m R i).no)) (CR ((echGo p m R i).no) m ((echGo p m R i).O))), (907, .one (Z64 m) (C64 m (mixF (scaledF p (byGo p m (echGo p m R i).O (R i) (echGo p m R i).no) (invF p ((byGo p m (echGo p m R i).O (R i) (echGo p m R i).no) a))) (byGo p m (echGo p m R i).O (R i) (echGo p m R i).no) k)))])) (fun k => k ≤ m) (fun k => m - k) (0) ρ0 ?_ ?_ ?_
        · exact ⟨⟨(mi), (mt_rows (V := _) (fun _ _ _ _ => rfl)), (by first | exact ⟨rfl, rfl, rfl, rfl⟩ | exact ⟨rfl, by omega, rfl, rfl⟩), (mi), (by first | exact ⟨rfl, rfl, rfl, rfl⟩ | exact ⟨rfl, by omega, rfl, rfl⟩), (mi), (mi), (mi), trivial⟩, ⟨⟨rfl, (sx), (by exact ⟨rfl, fun _ _ => mt_row (fun _ _ => rfl)⟩)⟩, ⟨rfl, (sx), (by exact mt_vec (fun _ _ => by simp [mixF]))⟩, trivial⟩, ⟨⟨(fun h => by first | exact ⟨rfl, rfl⟩ | exact absurd h (by decide)), (fun h => by first | exact ⟨rfl, rfl⟩ | exact absurd h (by decide)), trivial⟩, ⟨(fun h => by first | exact ⟨rfl, rfl⟩ | exact absurd h (by decide)), (fun h => by first | exact ⟨rfl, rfl⟩ | exact absurd h (by decide)), trivial⟩, trivial⟩⟩
        · exact Nat.zero_le _
        intro k hi4
        refine sq (env2 := [(0, .int .i64 p), (1, rowsA n m R), (5, .own 905 0 ((echGo p m R i).no) 62), (6, .int .i64 (i : Int)), (7, .own 907 0 m 2), (10, .int .i64 (a : Int)), (11, .int .i64 (invF p ((byGo p m (echGo p m R i).O (R i) (echGo p m R i).no) a))), (12, .int .i64 (k : Int))]) (ol2 := [(905, .one (ZR ((echGo p m R i).no)) (CR ((echGo p m R i).no) m ((echGo p m R i).O))), (907, .one (Z64 m) (C64 m (mixF (scaledF p (byGo p m (echGo p m R i).O (R i) (echGo p m R i).no) (invF p ((byGo p m (echGo p m R i).O (R i) (echGo p m R i).no) a))) (byGo p m (echGo p m R i).O (R i) (echGo p m R i).no) k)))]) rfl rfl ?_
        refine snd_seq ?_
        apply sr tokTB (by kernel_rfl)
        · intro RR hRR
          refine w_move (by constructor) ?_
          refine w_move (by constructor) ?_
          refine w_len_o rfl rfl und62 ?_
          refine w_lss rfl rfl ?_
          exact hRR
        refine snd_cond _ rfl (fun hc63 => ?_) (fun hc63 => ?_)
        · try simp only [hcs] at hc63
          refine snd_skip ?_
          refine snd_seq ?_
          refine snd_block ?_
          apply lr tokTB (by kernel_rfl)
          · intro RR hRR
            refine w_move (by constructor) ?_
            refine w_move (by constructor) ?_
            refine w_move (by constructor) ?_
            refine w_move (by constructor) ?_
            refine w_iao rfl rfl und62 kn2 ?_ ?_
            · exact ⟨by omega, by omega⟩
            first | refine w_ldc rfl kn2 (by constructor) (by exact sz2.symm) (by exact ag2.symm) ?_ | refine w_ldp rfl kn2 rfl (by constructor) (by exact sz2.symm) (by exact ag2.symm) ?_
            refine w_move (by constructor) ?_
            refine w_mul rfl rfl (by exact w_mk hO8 (by omega) k) ?_
            refine w_move (by constructor) ?_
            refine w_rem rfl rfl (by first | assumption | omega) ?_
            refine w_iao rfl rfl und62 kn2 ?_ ?_
            · exact ⟨by omega, by omega⟩
            first | refine w_stw rfl (by constructor) kn2 rfl (by exact trivial) (sx) (by exact sz2.symm) ?_ | refine w_sti rfl rfl kn2 rfl (by exact trivial) (by exact sz2.symm) ?_ | refine w_store rfl (HV.eq (by constructor)) kn2 rfl (by exact trivial) (sx) (by exact sz2.symm) (put_in (by first | exact put_mat | exact put_tab | exact put_alg0 | exact put_pr0 | exact put_pr1 | exact put_pr2 | exact put_tn4 | exact put_grp0 | exact put_grp1 | exact put_alg1 | exact put_alg2 | exact put_alg3 | exact put_alg3i | exact put_alg2ij | exact put_alg2ijk | exact put_mat2 | exact put_tab2 | exact put_tab3)) ?_ | refine w_store rfl (HV.eq (by constructor)) kn2 rfl (by exact trivial) (by exact trivial) (by exact sz2.symm) rfl ?_
            exact hRR
          apply lr tokTB (by kernel_rfl)
          · intro RR hRR
            refine w_move (by constructor) ?_
            refine y_add rfl rfl ?_
            refine w_assign (by constructor) ?_
            exact hRR
          refine ⟨k + 1, ρ0, ?_, (by omega), (by dsimp only; omega)⟩
          exact ⟨⟨(mi), (mt_rows (V := _) (fun _ _ _ _ => rfl)), (by first | exact ⟨rfl, rfl, rfl, rfl⟩ | exact ⟨rfl, by omega, rfl, rfl⟩), (mi), (by first | exact ⟨rfl, rfl, rfl, rfl⟩ | exact ⟨rfl, by omega, rfl, rfl⟩), (mi), (mi), (mi), trivial⟩, ⟨⟨rfl, (sx), (by exact ⟨rfl, fun _ _ => mt_row (fun _ _ => rfl)⟩)⟩, ⟨rfl, (sx), (by exact mt_vec (fun z _ => by rw [scaled_tmod hO8 (by omega) k]; exact upd_mix _ _ k z))⟩, trivial⟩, ⟨⟨(fun h => by first | exact ⟨rfl, rfl⟩ | exact absurd h (by decide)), (fun h => by first | exact ⟨rfl, rfl⟩ | exact absurd h (by decide)), trivial⟩, ⟨(fun h => by first | exact ⟨rfl, rfl⟩ | exact absurd h (by decide)), (fun h => by first | exact ⟨rfl, rfl⟩ | exact absurd h (by decide)), trivial⟩, trivial⟩⟩
        · try simp only [hcs] at hc63
          have hkm : m = k := by omega
          subst hkm
          refine snd_exit ?_
          apply sr tokTB (by kernel_rfl)
          · intro RR hRR
            refine w_bsl und35 kn62 (by rw [sz62]; rfl) rfl trivial trivial rfl ?_
            refine w_assign (by constructor) ?_
            refine w_assign (by constructor) ?_
            exact hRR
          refine snd_seq ?_
          apply sr tokTB (by kernel_rfl)
          · intro RR hRR
            refine w_assign (by constructor) ?_
            exact hRR
          refine snd_block ?_
          refine snd_loop (S := Nat) (fun k => ([(0, .int .i64 p), (1, rowsA n m R), (5, .own 905 0 ((echGo p m R i).no) 62), (6, .int .i64 (i : Int)), (7, rowA m (scaledF p (byGo p m (echGo p m R i).O (R i) (echGo p m R i).no) (invF p ((byGo p m (echGo p m R i).O (R i) (echGo p m R i).no) a)))), (10, .int .i64 (a : Int)), (13, .own 913 0 (cntN (posN m (echGo p m R i).O (echGo p m R i).no a) k) 62), (14, .bool (decide ((posN m (echGo p m R i).O (echGo p m R i).no a) < k))), (15, .int .i64 (k : Int))], [(905, .one (ZR ((echGo p m R i).no)) (CR ((echGo p m R i).no) m ((echGo p m R i).O))), (913, .one (ZR (cntN (posN m (echGo p m R i).O (echGo p m R i).no a) k)) (CR (cntN (posN m (echGo p m R i).O (echGo p m R i).no a) k) m (insG (posN m (echGo p m R i).O (echGo p m R i).no a) (scaledF p (byGo p m (echGo p m R i).O (R i) (echGo p m R i).no) (invF p ((byGo p m (echGo p m R i).O (R i) (echGo p m R i).no) a))) (restF p (echGo p m R i).O (scaledF p (byGo p m (echGo p m R i).O (R i) (echGo p m R i).no) (invF p ((byGo p m (echGo p m R i).O (R i) (echGo p m R i).no) a))) a))))])) (fun k => k ≤ (echGo p m R i).no) (fun k => (echGo p m R i).no - k) (0) (fun k i => bif Nat.beq k 913 then (77, i) else (k, i)) ?_ ?_ ?_
          · exact ⟨⟨(mi), (mt_rows (V := _) (fun _ _ _ _ => rfl)), (by first | exact ⟨rfl, rfl, rfl, rfl⟩ | exact ⟨rfl, by omega, rfl, rfl⟩), (mi), (by exact mt_fz (by exact ⟨(ne_fst rfl), (ne_fst rfl), trivial⟩) rfl (fun j hj => congrArg (AV.int .i64) (by simp [mixF, hj]))), (mi), (by first | exact ⟨rfl, rfl, rfl, rfl⟩ | exact ⟨rfl, by omega, rfl, rfl⟩), (by exact m_bool (by simp)), (mi), trivial⟩, ⟨⟨rfl, (sx), (by exact ⟨rfl, fun _ _ => mt_row (fun _ _ => rfl)⟩)⟩, ⟨rfl, (sx), (by exact mt_arr0)⟩, trivial⟩, ⟨⟨(fun h => by first | exact ⟨rfl, rfl⟩ | exact absurd h (by decide)), (fun h => by first | exact ⟨rfl, rfl⟩ | exact absurd h (by decide)), trivial⟩, ⟨(fun h => by first | exact ⟨rfl, rfl⟩ | exact absurd h (by decide)), (fun h => by first | exact ⟨rfl, rfl⟩ | exact absurd h (by decide)), trivial⟩, trivial⟩⟩
          · exact Nat.zero_le _
          intro k hi6
          refine sq (env2 := [(0, .int .i64 p), (1, rowsA n m R), (5, .own 905 0 ((echGo p m R i).no) 62), (6, .int .i64 (i : Int)), (7, rowA m (scaledF p (byGo p m (echGo p m R i).O (R i) (echGo p m R i).no) (invF p ((byGo p m (echGo p m R i).O (R i) (echGo p m R i).no) a)))), (10, .int .i64 (a : Int)), (13, .own 913 0 (cntN (posN m (echGo p m R i).O (echGo p m R i).no a) k) 62), (14, .bool (decide ((posN m (echGo p m R i).O (echGo p m R i).no a) < k))), (15, .int .i64 (k : Int))]) (ol2 := [(905, .one (ZR ((echGo p m R i).no)) (CR ((echGo p m R i).no) m ((echGo p m R i).O))), (913, .one (ZR (cntN (posN m (echGo p m R i).O (echGo p m R i).no a) k)) (CR (cntN (posN m (echGo p m R i).O (echGo p m R i).no a) k) m (insG (posN m (echGo p m R i).O (echGo p m R i).no a) (scaledF p (byGo p m (echGo p m R i).O (R i) (echGo p m R i).no) (invF p ((byGo p m (echGo p m R i).O (R i) (echGo p m R i).no) a))) (restF p (echGo p m R i).O (scaledF p (byGo p m (echGo p m R i).O (R i) (echGo p m R i).no) (invF p ((byGo p m (echGo p m R i).O (R i) (echGo p m R i).no) a))) a))))]) rfl rfl ?_
          have hcb := cntN_le (posN m (echGo p m R i).O (echGo p m R i).no a) k
          refine snd_seq ?_
          apply sr tokTB (by kernel_rfl)
          · intro RR hRR
            refine w_move (by constructor) ?_
            refine w_move (by constructor) ?_
            refine w_len_o rfl rfl und35 ?_
            refine w_lss rfl rfl ?_
            exact hRR
          refine snd_cond _ rfl (fun hc81 => ?_) (fun hc81 => ?_)
          · try simp only [hcs] at hc81
            have hk : k < (echGo p m R i).no := by omega
            have hld := hrr.lead k hk
            have hidx : idxF (fun i_1 => decide ((echGo p m R i).O k i_1 ≠ 0)) m = ((l k : Nat) : Int) := lead_idx hld
            refine snd_skip ?_
            refine snd_seq ?_
            refine snd_block ?_
            refine snd_seq ?_
            apply srG (env' := (94, .bool (!(decide ((posN m (echGo p m R i).O (echGo p m R i).no a) < k)) && decide ((a : Int) < idxF (fun i_1 => decide ((echGo p m R i).O k i_1 ≠ 0)) m))) :: (93, .any) :: (92, .any) :: (91, .any) :: (90, .any) :: (89, .any) :: (88, .any) :: (87, .any) :: (86, _) :: (85, _) :: (84, _) :: _) tokTB (by kernel_rfl)
            · intro RR hRR
              refine w_move (by constructor) ?_
              refine w_not rfl ?_
              refine w_move (by constructor) ?_
              refine w_g rfl rfl (fun hg2 => ?_) (fun hg2 => ?_)
              · skip
                refine w_move (by constructor) ?_
                refine w_g_on rfl rfl hg2 ?_
                refine w_move (by constructor) ?_
                refine w_g_on rfl rfl hg2 ?_
                first | refine w_iar rfl rfl und35 kn62 (by exact sz62.symm) ?_ rfl ?_ | refine w_iao rfl rfl und35 kn62 ?_ ?_
                · exact ⟨by omega, by omega⟩
                refine w_g_on rfl rfl hg2 ?_
                first | refine w_ldc rfl kn62 (by constructor) (by exact sz62.symm) (by exact ag62.symm) ?_ | refine w_ldp rfl kn62 rfl (by constructor) (by exact sz62.symm) (by exact ag62.symm) ?_
                refine w_g_on rfl rfl hg2 ?_
                refine y_call rfl (ec exn) (c_l01Lead (m := m) (f := (echGo p m R i).O k) (by omega)) ?_
                refine w_g_on rfl rfl hg2 ?_
                refine w_move (by constructor) ?_
                refine w_g_on rfl rfl hg2 ?_
                refine w_gtr rfl rfl ?_
                refine w_pick_1 rfl hg2 (by constructor) ?_
                try simp only [Int.toNat_natCast] at hg2
                exact hRR _ (EL.cons (.inr (by first | rfl | (simp only [hg2, els]; done) | (simp only [hg2, els]; rfl) | (simp [hg2]; done) | (clear hRR; simp_all; done))) (EL.cons (.inl rfl) (EL.cons (.inl rfl) (EL.cons (.inl rfl) (EL.cons (.inl rfl) (EL.cons (.inl rfl) (EL.cons (.inl rfl) (EL.cons (.inl rfl) (EL.cons (.inr rfl) (EL.cons (.inr rfl) (EL.cons (.inr rfl) (EL.refl _))))))))))))
              · have hg2 := eq_false_of_ne_true hg2
                refine w_g_off rfl rfl (by rw [hg2]; decide) ?_
                refine w_g_off rfl rfl (by rw [hg2]; decide) ?_
                refine w_g_off rfl rfl (by rw [hg2]; decide) ?_
                refine w_g_off rfl rfl (by rw [hg2]; decide) ?_
                refine w_g_off rfl rfl (by rw [hg2]; decide) ?_
                refine w_g_off rfl rfl (by rw [hg2]; decide) ?_
                refine w_pick_0 rfl hg2 (by constructor) ?_
                try simp only [Int.toNat_natCast] at hg2
                exact hRR _ (EL.cons (.inr (by first | rfl | (simp only [hg2, els]; done) | (simp only [hg2, els]; rfl) | (simp [hg2]; done) | (clear hRR; simp_all; done))) (EL.cons (.inl rfl) (EL.cons (.inl rfl) (EL.cons (.inl rfl) (EL.cons (.inl rfl) (EL.cons (.inl rfl) (EL.cons (.inl rfl) (EL.cons (.inl rfl) (EL.cons (.inr rfl) (EL.cons (.inr rfl) (EL.cons (.inr rfl) (EL.refl _))))))))))))
            refine snd_cond _ rfl (fun hc94 => ?_) (fun hc94 => ?_)
            · skip
              rw [Bool.and_eq_true, Bool.not_eq_true', decide_eq_false_iff_not, decide_eq_true_eq, hidx] at hc94
              have hkp : k = (posN m (echGo p m R i).O (echGo p m R i).no a) := by
                rcases Nat.lt_or_ge k (posN m (echGo p m R i).O (echGo p m R i).no a) with h1 | h1
                · have := hp1 k h1; omega
                · omega
              have hck : cntN (posN m (echGo p m R i).O (echGo p m R i).no a) k = k := cntN_ge hc94.1
              have hcnt : cntN (posN m (echGo p m R i).O (echGo p m R i).no a) k + 1 + 1 = cntN (posN m (echGo p m R i).O (echGo p m R i).no a) (k + 1) := by rw [hck, cntN_lt (by omega)]
              apply sr tokTB (by kernel_rfl)
              · intro RR hRR
                refine w_move (by constructor) ?_
                refine w_move (by constructor) ?_
                refine w_bsl1 und35 kn62 (by rw [sz62]; rfl) rfl (by constructor) (by first | exact trivial | exact cel_cap2) (by exact sz62.symm) (by first | exact trivial | exact ssh_vec | exact ⟨rfl, fun _ => trivial⟩) ?_
                refine w_app_o und35 rfl rfl kn62 rfl rfl (fun C h => ⟨rfl, rfl, rfl, h⟩) (by rw [by62]; omega) (by omega) rfl ?_
                refine w_assign (by constructor) ?_
                exact hRR
              apply lr tokTB (by kernel_rfl)
              · intro RR hRR
                refine w_assign (by constructor) ?_
                exact hRR
              apply ld tokTB mixed (by kernel_rfl) (by kernel_rfl)
              · intro RR hRR
                refine w_move (by constructor) ?_
                refine w_move (by constructor) ?_
                refine w_move (by constructor) ?_
                refine w_move (by constructor) ?_
                refine w_iao rfl rfl und35 kn62 ?_ ?_
                · exact ⟨by omega, by omega⟩
                first | refine w_ldc rfl kn62 (by constructor) (by exact sz62.symm) (by exact ag62.symm) ?_ | refine w_ldp rfl kn62 rfl (by constructor) (by exact sz62.symm) (by exact ag62.symm) ?_
                refine w_move (by constructor) ?_
                refine w_move (by constructor) ?_
                refine w_move (by constructor) ?_
                refine w_iao rfl rfl und35 kn62 ?_ ?_
                · exact ⟨by omega, by omega⟩
                first | refine w_ldc rfl kn62 (by constructor) (by exact sz62.symm) (by exact ag62.symm) ?_ | refine w_ldp rfl kn62 rfl (by constructor) (by exact sz62.symm) (by exact ag62.symm) ?_
                refine w_move (by constructor) ?_
                first | refine w_iar rfl rfl und62 kn2 (by exact sz2.symm) ?_ rfl ?_ | refine w_iao rfl rfl und62 kn2 ?_ ?_
                · exact ⟨by omega, by omega⟩
                first | refine w_ldc rfl kn2 (by constructor) (by exact sz2.symm) (by exact ag2.symm) ?_ | refine w_ldp rfl kn2 rfl (by constructor) (by exact sz2.symm) (by exact ag2.symm) ?_
                refine w_call rfl (ec (ec (ec (ec exn)))) (c_l01Less (m := m) (f := (echGo p m R i).O k) (g := (scaledF p (byGo p m (echGo p m R i).O (R i) (echGo p m R i).no) (invF p ((byGo p m (echGo p m R i).O (R i) (echGo p m R i).no) a)))) (k := (echGo p m R i).O k a) (by omega) (by omega) (by omega) (hOB k hk) hW8 (hOB k hk a)) (.inl ⟨trivial, ⟨fun _ => trivial, trivial⟩⟩) rfl (by constructor) rfl ?_
                refine w_bsl1 und35 kn62 (by rw [sz62]; rfl) rfl (by constructor) (by first | exact trivial | exact cel_cap2) (by exact sz62.symm) (by first | exact trivial | exact ssh_vec | exact ⟨rfl, fun _ => trivial⟩) ?_
                refine w_app_o und35 rfl rfl kn62 rfl rfl (fun C h => ⟨rfl, rfl, rfl, h⟩) (by rw [by62]; omega) (by omega) rfl ?_
                refine w_assign (by constructor) ?_
                exact hRR
              apply lr tokTB (by kernel_rfl)
              · intro RR hRR
                refine w_move (by constructor) ?_
                refine y_add rfl rfl ?_
                refine w_assign (by constructor) ?_
                exact hRR
              refine ⟨k + 1, (fun k i => bif Nat.beq k 913 then (115, i) else (k, i)), ?_, (by omega), (by dsimp only; omega)⟩
              exact ⟨⟨(mi), (mt_rows (V := _) (fun _ _ _ _ => rfl)), (by first | exact ⟨rfl, rfl, rfl, rfl⟩ | exact ⟨rfl, by omega, rfl, rfl⟩), (mi), (by first | exact mt_row (V := _) (fun _ _ => rfl) | exact mt_fz (by exact ⟨(ne_fst rfl), (ne_fst rfl), trivial⟩) rfl (fun _ _ => rfl)), (mi), (by exact ⟨rfl, hcnt, rfl, rfl⟩), (by exact m_bool (by simp [hkp])), (mi), trivial⟩, ⟨⟨rfl, (sx), (by exact ⟨rfl, fun _ _ => mt_row (fun _ _ => rfl)⟩)⟩, ⟨(by exact congrArg (fun n => AV.arr n (fun _ => AV.nilsl)) hcnt), (sx), (by exact mt_app' hcnt (fun j hj => by rcases Nat.lt_or_ge j (cntN (posN m (echGo p m R i).O (echGo p m R i).no a) k) with h | h; (rw [appF_lt h]; exact mt_row (fun _ _ => rfl)); (rw [appF_ge h hj, show j - cntN (posN m (echGo p m R i).O (echGo p m R i).no a) k = 0 by omega]; exact mt_row (fun z _ => by rw [show j = _ from (show j = k by omega).trans hkp, insG_eq]))) (mt_fz (by exact ⟨(ne_fst rfl), (ne_fst rfl), trivial⟩) rfl (fun j _ => congrArg (AV.int .i64) (by rw [hck, insG_gt _ _ (by omega)]; rfl))))⟩, trivial⟩, ⟨⟨(fun h => by first | exact ⟨rfl, rfl⟩ | exact absurd h (by decide)), (fun h => by first | exact ⟨rfl, rfl⟩ | exact absurd h (by decide)), trivial⟩, ⟨(fun h => by first | exact ⟨rfl, rfl⟩ | exact absurd h (by decide)), (fun h => by first | exact ⟨rfl, rfl⟩ | exact absurd h (by decide)), trivial⟩, trivial⟩⟩
            · skip
              have hkne : k ≠ (posN m (echGo p m R i).O (echGo p m R i).no a) := by
                intro he
                have h1 := hp2 k (by omega) hk
                rw [hidx, decide_eq_false (show ¬ (posN m (echGo p m R i).O (echGo p m R i).no a) < k by omega), decide_eq_true (show (a : Int) < (l k : Nat) by omega)] at hc94
                cases hc94
              have hcnt : cntN (posN m (echGo p m R i).O (echGo p m R i).no a) k + 1 = cntN (posN m (echGo p m R i).O (echGo p m R i).no a) (k + 1) := by
                by_cases h1 : (posN m (echGo p m R i).O (echGo p m R i).no a) < k
                · rw [cntN_lt h1, cntN_lt (by omega)]
                · rw [cntN_ge h1, cntN_ge (by omega)]
              have hins : insG (posN m (echGo p m R i).O (echGo p m R i).no a) (scaledF p (byGo p m (echGo p m R i).O (R i) (echGo p m R i).no) (invF p ((byGo p m (echGo p m R i).O (R i) (echGo p m R i).no) a))) (restF p (echGo p m R i).O (scaledF p (byGo p m (echGo p m R i).O (R i) (echGo p m R i).no) (invF p ((byGo p m (echGo p m R i).O (R i) (echGo p m R i).no) a))) a) (cntN (posN m (echGo p m R i).O (echGo p m R i).no a) k) = (restF p (echGo p m R i).O (scaledF p (byGo p m (echGo p m R i).O (R i) (echGo p m R i).no) (invF p ((byGo p m (echGo p m R i).O (R i) (echGo p m R i).no) a))) a) k := by
                by_cases h1 : (posN m (echGo p m R i).O (echGo p m R i).no a) < k
                · rw [cntN_lt h1, insG_gt _ _ (by omega)]
                · rw [cntN_ge h1, insG_lt _ _ (by omega)]
              refine snd_skip ?_
              apply ld tokTB mixed (by kernel_rfl) (by kernel_rfl)
              · intro RR hRR
                refine w_move (by constructor) ?_
                refine w_move (by constructor) ?_
                refine w_move (by constructor) ?_
                refine w_move (by constructor) ?_
                refine w_iao rfl rfl und35 kn62 ?_ ?_
                · exact ⟨by omega, by omega⟩
                first | refine w_ldc rfl kn62 (by constructor) (by exact sz62.symm) (by exact ag62.symm) ?_ | refine w_ldp rfl kn62 rfl (by constructor) (by exact sz62.symm) (by exact ag62.symm) ?_
                refine w_move (by constructor) ?_
                refine w_move (by constructor) ?_
                refine w_move (by constructor) ?_
                refine w_iao rfl rfl und35 kn62 ?_ ?_
                · exact ⟨by omega, by omega⟩
                first | refine w_ldc rfl kn62 (by constructor) (by exact sz62.symm) (by exact ag62.symm) ?_ | refine w_ldp rfl kn62 rfl (by constructor) (by exact sz62.symm) (by exact ag62.symm) ?_
                refine w_move (by constructor) ?_
                first | refine w_iar rfl rfl und62 kn2 (by exact sz2.symm) ?_ rfl ?_ | refine w_iao rfl rfl und62 kn2 ?_ ?_
                · exact ⟨by omega, by omega⟩
                first | refine w_ldc rfl kn2 (by constructor) (by exact sz2.symm) (by exact ag2.symm) ?_ | refine w_ldp rfl kn2 rfl (by constructor) (by exact sz2.symm) (by exact ag2.symm) ?_
                refine w_call rfl (ec (ec (ec (ec exn)))) (c_l01Less (m := m) (f := (echGo p m R i).O k) (g := (scaledF p (byGo p m (echGo p m R i).O (R i) (echGo p m R i).no) (invF p ((byGo p m (echGo p m R i).O (R i) (echGo p m R i).no) a)))) (k := (echGo p m R i).O k a) (by omega) (by omega) (by omega) (hOB k hk) hW8 (hOB k hk a)) (.inl ⟨trivial, ⟨fun _ => trivial, trivial⟩⟩) rfl (by constructor) rfl ?_
                refine w_bsl1 und35 kn62 (by rw [sz62]; rfl) rfl (by constructor) (by first | exact trivial | exact cel_cap2) (by exact sz62.symm) (by first | exact trivial | exact ssh_vec | exact ⟨rfl, fun _ => trivial⟩) ?_
                refine w_app_o und35 rfl rfl kn62 rfl rfl (fun C h => ⟨rfl, rfl, rfl, h⟩) (by rw [by62]; omega) (by omega) rfl ?_
                refine w_assign (by constructor) ?_
                exact hRR
              apply lr tokTB (by kernel_rfl)
              · intro RR hRR
                refine w_move (by constructor) ?_
                refine y_add rfl rfl ?_
                refine w_assign (by constructor) ?_
                exact hRR
              refine ⟨k + 1, (fun k i => bif Nat.beq k 913 then (115, i) else (k, i)), ?_, (by omega), (by dsimp only; omega)⟩
              exact ⟨⟨(mi), (mt_rows (V := _) (fun _ _ _ _ => rfl)), (by first | exact ⟨rfl, rfl, rfl, rfl⟩ | exact ⟨rfl, by omega, rfl, rfl⟩), (mi), (by first | exact mt_row (V := _) (fun _ _ => rfl) | exact mt_fz (by exact ⟨(ne_fst rfl), (ne_fst rfl), trivial⟩) rfl (fun _ _ => rfl)), (mi), (by exact ⟨rfl, hcnt, rfl, rfl⟩), (by exact m_bool (by rw [Bool.eq_iff_iff, decide_eq_true_eq, decide_eq_true_eq]; omega)), (mi), trivial⟩, ⟨⟨rfl, (sx), (by exact ⟨rfl, fun _ _ => mt_row (fun _ _ => rfl)⟩)⟩, ⟨(by exact congrArg (fun n => AV.arr n (fun _ => AV.nilsl)) hcnt), (sx), (by exact mt_app' hcnt (fun j hj => mt_row (fun _ _ => rfl)) (mt_fz (by exact ⟨(ne_fst rfl), (ne_fst rfl), trivial⟩) rfl (fun j _ => congrArg (AV.int .i64) (by rw [hins]; rfl))))⟩, trivial⟩, ⟨⟨(fun h => by first | exact ⟨rfl, rfl⟩ | exact absurd h (by decide)), (fun h => by first | exact ⟨rfl, rfl⟩ | exact absurd h (by decide)), trivial⟩, ⟨(fun h => by first | exact ⟨rfl, rfl⟩ | exact absurd h (by decide)), (fun h => by first | exact ⟨rfl, rfl⟩ | exact absurd h (by decide)), trivial⟩, trivial⟩⟩
          · try simp only [hcs] at hc81
            have hkn : k = (echGo p m R i).no := by omega
            subst hkn
            refine snd_exit ?_
            refine snd_seq ?_
            apply sr tokTB (by kernel_rfl)
            · intro RR hRR
              refine w_move (by constructor) ?_
              refine w_not rfl ?_
              exact hRR
            refine snd_cond _ rfl (fun hc117 => ?_) (fun hc117 => ?_)
            · skip
              have hpn : (posN m (echGo p m R i).O (echGo p m R i).no a) = (echGo p m R i).no := by have := of_decide_eq_false (Bool.not_eq_true' _ ▸ hc117); omega
              have hck : cntN (posN m (echGo p m R i).O (echGo p m R i).no a) (echGo p m R i).no = (echGo p m R i).no := cntN_ge (by omega)
              have hcnt : cntN (posN m (echGo p m R i).O (echGo p m R i).no a) (echGo p m R i).no + 1 = (echGo p m R i).no + 1 := by rw [hck]
              apply lr tokTB (by kernel_rfl)
              · intro RR hRR
                refine w_move (by constructor) ?_
                refine w_move (by constructor) ?_
                refine w_bsl1 und35 kn62 (by rw [sz62]; rfl) rfl (by constructor) (by first | exact trivial | exact cel_cap2) (by exact sz62.symm) (by first | exact trivial | exact ssh_vec | exact ⟨rfl, fun _ => trivial⟩) ?_
                refine w_app_o und35 rfl rfl kn62 rfl rfl (fun C h => ⟨rfl, rfl, rfl, h⟩) (by rw [by62]; omega) (by omega) rfl ?_
                refine w_assign (by constructor) ?_
                exact hRR
              apply lr tokTB (by kernel_rfl)
              · intro RR hRR
                refine w_move (by constructor) ?_
                refine w_assign (by constructor) ?_
                exact hRR
              apply lr tokTB (by kernel_rfl)
              · intro RR hRR
                refine w_move (by constructor) ?_
                refine y_add rfl rfl ?_
                refine w_assign (by constructor) ?_
                exact hRR
              refine ⟨i + 1, (fun k i => bif Nat.beq k 905 then (121, i) else (k, i)), ?_, (by omega), (by dsimp only; omega)⟩
              dsimp only
              rw [hnx]
              exact ⟨⟨(mi), (mt_rows (V := _) (fun _ _ _ _ => rfl)), (by exact ⟨rfl, hcnt, rfl, rfl⟩), (mi), trivial⟩, ⟨⟨(by exact congrArg (fun n => AV.arr n (fun _ => AV.nilsl)) hcnt), (sx), (by exact mt_app' hcnt (fun j hj => mt_row (fun _ _ => by simp only [echHit, ownF, hla])) (mt_row (fun z _ => by simp only [echHit, ownF, hla]; rw [insG_at _ _ (hck.trans hpn.symm)])))⟩, trivial⟩, ⟨⟨(fun h => by first | exact ⟨rfl, rfl⟩ | exact absurd h (by decide)), trivial⟩, trivial⟩⟩
            · skip
              have hpn : (posN m (echGo p m R i).O (echGo p m R i).no a) < (echGo p m R i).no := of_decide_eq_true (Bool.not_eq_false' _ ▸ hc117)
              have hcnt : cntN (posN m (echGo p m R i).O (echGo p m R i).no a) (echGo p m R i).no = (echGo p m R i).no + 1 := cntN_lt hpn
              refine snd_skip ?_
              apply lr tokTB (by kernel_rfl)
              · intro RR hRR
                refine w_move (by constructor) ?_
                refine w_assign (by constructor) ?_
                exact hRR
              apply lr tokTB (by kernel_rfl)
              · intro RR hRR
                refine w_move (by constructor) ?_
                refine y_add rfl rfl ?_
                refine w_assign (by constructor) ?_
                exact hRR
              refine ⟨i + 1, (fun k i => bif Nat.beq k 905 then (913, i) else (k, i)), ?_, (by omega), (by dsimp only; omega)⟩
              dsimp only
              rw [hnx]
              exact ⟨⟨(mi), (mt_rows (V := _) (fun _ _ _ _ => rfl)), (by exact ⟨rfl, hcnt, rfl, rfl⟩), (mi), trivial⟩, ⟨⟨(by exact congrArg (fun n => AV.arr n (fun _ => AV.nilsl)) hcnt), (sx), (by exact ⟨hcnt, fun _ _ => mt_row (fun _ _ => by simp only [echHit, ownF, hla])⟩)⟩, trivial⟩, ⟨⟨(fun h => by first | exact ⟨rfl, rfl⟩ | exact absurd h (by decide)), trivial⟩, trivial⟩⟩
  · try simp only [hcs] at hc20
    have hin : n = i := by omega
    subst hin
    refine snd_exit ?_
    apply sr tokTB (by kernel_rfl)
    · intro RR hRR
      refine w_move (by constructor) ?_
      refine w_assign (by constructor) ?_
      exact hRR
    refine snd_ret ?_
    show retQ TB _ _ _ _ _ _
    exact rt_own rfl rfl rfl (fun _ => trivial) (fun V i hi => mt_row (fun _ _ => rfl))
end Go.Am

set_option linter.unusedVariables false
set_option linter.unusedSimpArgs false
set_option maxRecDepth 4000
namespace Go.Am
attribute [local irreducible] retQ retQp
open Go.Proofs
theorem c_behind1 {p : Int} {n : Nat} {T : Nat → Nat → Nat → Int} {fo v w : Nat → Int} (hp : 0 < p) (hp2 : p < 256) (hn : n ≤ 6) (hT : B8T T) (hv : B8 v) (hw : B8 w) : ACalls Try.prog TB 93 [vecA v, .cptr (.cptr (algA p (n : Int) T fo)), .cptr (vecA w)] (vecA (timesF p n T v w)) [] := by
  refine acalls_of tokTB Try.func93 rfl rfl (Nat.le_of_ble_eq_true rfl) ?_
  apply sr tokTB (by kernel_rfl)
  · intro RR hRR
    refine w_boxc (HV.eq (by constructor)) (by exact trivial) ?_
    refine w_alloc kn25 rfl zr25 ?_
    exact hRR
  apply sr tokTB (by kernel_rfl)
  · intro RR hRR
    refine w_ldc rfl kn97 (by constructor) (by exact sz97.symm) (by exact ag97.symm) ?_
    refine w_ldc rfl kn25 (by constructor) (by exact sz25.symm) (by exact ag25.symm) ?_
    refine w_ldc rfl kn25 (by constructor) (by exact sz25.symm) (by exact ag25.symm) ?_
    refine y_call rfl (ec (ec (ec exn))) (c_times (u := v) (v := w) hp hp2 hn hT hv hw) ?_
    refine w_stw rfl (by constructor) kn25 rfl (by exact trivial) (sx) (by exact sz25.symm) ?_
    exact hRR
  refine snd_ret ?_
  exact rt_c (T := TB) rfl kn25 rfl sz25.symm ag25.symm (fun V => m_vec (fun j hj => rfl))
theorem c_ahead1 {p : Int} {n : Nat} {T : Nat → Nat → Nat → Int} {fo v w : Nat → Int} (hp : 0 < p) (hp2 : p < 256) (hn : n ≤ 6) (hT : B8T T) (hv : B8 v) (hw : B8 w) : ACalls Try.prog TB 95 [vecA v, .cptr (.cptr (algA p (n : Int) T fo)), .cptr (vecA w)] (vecA (timesF p n T w v)) [] := by
  refine acalls_of tokTB Try.func95 rfl rfl (Nat.le_of_ble_eq_true rfl) ?_
  apply sr tokTB (by kernel_rfl)
  · intro RR hRR
    refine w_boxc (HV.eq (by constructor)) (by exact trivial) ?_
    refine w_alloc kn25 rfl zr25 ?_
    exact hRR
  apply sr tokTB (by kernel_rfl)
  · intro RR hRR
    refine w_ldc rfl kn97 (by constructor) (by exact sz97.symm) (by exact ag97.symm) ?_
    refine w_ldc rfl kn25 (by constructor) (by exact sz25.symm) (by exact ag25.symm) ?_
    refine w_ldc rfl kn25 (by constructor) (by exact sz25.symm) (by exact ag25.symm) ?_
    refine y_call rfl (ec (ec (ec exn))) (c_times (u := w) (v := v) hp hp2 hn hT hw hv) ?_
    refine w_stw rfl (by constructor) kn25 rfl (by exact trivial) (sx) (by exact sz25.symm) ?_
    exact hRR
  refine snd_ret ?_
  exact rt_c (T := TB) rfl kn25 rfl sz25.symm ag25.symm (fun V => m_vec (fun j hj => rfl))
theorem c_behind {p n : Int} {T : Nat → Nat → Nat → Int} {fo w : Nat → Int} : ACalls Try.prog TB 85 [.cptr (algA p n T fo), vecA w] (.fn 93 2 (cap2 (.cptr (.cptr (algA p n T fo))) (.cptr (vecA w)))) [] := by
  refine acalls_of tokTB Try.func85 rfl rfl (Nat.le_of_ble_eq_true rfl) ?_
  apply sr tokTB (by kernel_rfl)
  · intro RR hRR
    refine w_boxc (HV.eq (by constructor)) (by exact trivial) ?_
    refine w_boxc (HV.eq (by constructor)) (by exact trivial) ?_
    refine w_assign (by constructor) ?_
    exact hRR
  apply sr tokTB (by kernel_rfl)
  · intro RR hRR
    refine w_mkf2 (by constructor) (by constructor) ?_
    refine w_assign (by constructor) ?_
    exact hRR
  refine snd_ret ?_
  exact rt (T := TB) (fun V => Mt_closed (v := .fn _ 2 (cap2 (.cptr (.cptr (algA p n T fo))) (.cptr (vecA w)))) (closed_cap2 closed_calg (closed_vec (n := 6) (k := .u8) (f := w))) (fun _ _ _ => trivial) (by simp))
theorem c_ahead {p n : Int} {T : Nat → Nat → Nat → Int} {fo w : Nat → Int} : ACalls Try.prog TB 86 [.cptr (algA p n T fo), vecA w] (.fn 95 2 (cap2 (.cptr (.cptr (algA p n T fo))) (.cptr (vecA w)))) [] := by
  refine acalls_of tokTB Try.func86 rfl rfl (Nat.le_of_ble_eq_true rfl) ?_
  apply sr tokTB (by kernel_rfl)
  · intro RR hRR
    refine w_boxc (HV.eq (by constructor)) (by exact trivial) ?_
    refine w_boxc (HV.eq (by constructor)) (by exact trivial) ?_
    refine w_assign (by constructor) ?_
    exact hRR
  apply sr tokTB (by kernel_rfl)
  · intro RR hRR
    refine w_mkf2 (by constructor) (by constructor) ?_
    refine w_assign (by constructor) ?_
    exact hRR
  refine snd_ret ?_
  exact rt (T := TB) (fun V => Mt_closed (v := .fn _ 2 (cap2 (.cptr (.cptr (algA p n T fo))) (.cptr (vecA w)))) (closed_cap2 closed_calg (closed_vec (n := 6) (k := .u8) (f := w))) (fun _ _ _ => trivial) (by simp))
theorem c_vector {m : Nat} {f : Nat → Int} (hm : m ≤ 6) (hf : B8 f) : ACalls Try.prog TB 98 [rowA m f] (vecA (cutF f m)) [] := by
  refine acalls_of tokTB Try.func98 rfl rfl (Nat.le_of_ble_eq_true rfl) ?_
  apply sr tokTB (by kernel_rfl)
  · intro RR hRR
    refine w_alloc kn25 rfl zr25 ?_
    exact hRR
  apply sr tokTB (by kernel_rfl)
  · intro RR hRR
    refine w_bld_a kn25 zr25 und25 kn5 (fun _ => (by exact sz5.symm)) trivial rfl (by exact sz5.symm) ?_
    refine w_alloc kn25 rfl zr25 ?_
    refine w_stw rfl (by constructor) kn25 rfl (by exact trivial) (sx) (by exact sz25.symm) ?_
    exact hRR
  refine snd_seq ?_
  apply sr tokTB (by kernel_rfl)
  · intro RR hRR
    refine w_move (by constructor) ?_
    refine w_len_r rfl rfl und62 ?_
    refine w_move (by constructor) ?_
    exact hRR
  refine snd_block ?_
  refine snd_loop (S := Nat) (fun i => ([(2, .ptr 2 0 [] 0 (vecA (fun _ => 0))), (3, .ptr 3 0 [] 0 (vecA (fun _ => 0))), (7, rowA m f), (8, .int .i64 (m : Int)), (9, .int .i64 (i : Int))], [(2, .one (vecA (fun _ => 0)) (vecA (fun _ => 0))), (3, .one (vecA (fun _ => 0)) (vecA (cutF f i)))])) (fun i => i ≤ m) (fun i => m - i) (0) ρ0 ?_ ?_ ?_
  · exact ⟨⟨⟨rfl, rfl, rfl, rfl, rfl⟩, ⟨rfl, rfl, rfl, rfl, rfl⟩, (by first | exact mt_row (V := _) (fun _ _ => rfl) | exact mt_fz (by exact ⟨(ne_fst rfl), (ne_fst rfl), trivial⟩) rfl (fun _ _ => rfl)), (mi), (mi), trivial⟩, ⟨⟨rfl, (sx), (by exact mt_vec (fun _ _ => rfl))⟩, ⟨rfl, (sx), (by exact mt_vec (fun _ _ => rfl))⟩, trivial⟩, ⟨⟨(fun h => by first | exact ⟨rfl, rfl⟩ | exact absurd h (by decide)), (fun h => by first | exact ⟨rfl, rfl⟩ | exact absurd h (by decide)), trivial⟩, ⟨(fun h => by first | exact ⟨rfl, rfl⟩ | exact absurd h (by decide)), (fun h => by first | exact ⟨rfl, rfl⟩ | exact absurd h (by decide)), trivial⟩, trivial⟩⟩
  · exact Nat.zero_le _
  intro i hi0
  refine sq (env2 := [(2, .ptr 2 0 [] 0 (vecA (fun _ => 0))), (3, .ptr 3 0 [] 0 (vecA (fun _ => 0))), (7, rowA m f), (8, .int .i64 (m : Int)), (9, .int .i64 (i : Int))]) (ol2 := [(2, .one (vecA (fun _ => 0)) (vecA (fun _ => 0))), (3, .one (vecA (fun _ => 0)) (vecA (cutF f i)))]) rfl rfl ?_
  apply sr tokTB (by kernel_rfl)
  · intro RR hRR
    refine w_lss rfl rfl ?_
    exact hRR
  refine snd_seq ?_
  refine snd_cond _ rfl (fun hc10 => ?_) (fun hc10 => ?_)
  · try simp only [hcs] at hc10
    refine snd_skip ?_
    refine snd_seq ?_
    refine snd_block ?_
    apply sr tokTB (by kernel_rfl)
    · intro RR hRR
      refine w_move (by constructor) ?_
      refine w_iar rfl rfl und62 kn2 (by exact sz2.symm) ?_ rfl ?_
      · exact ⟨by omega, by omega⟩
      first | refine w_ldc rfl kn2 (by constructor) (by exact sz2.symm) (by exact ag2.symm) ?_ | refine w_ldp rfl kn2 rfl (by constructor) (by exact sz2.symm) (by exact ag2.symm) ?_
      refine w_assign (by constructor) ?_
      refine w_assign (by constructor) ?_
      exact hRR
    apply lr tokTB (by kernel_rfl)
    · intro RR hRR
      refine w_move (by constructor) ?_
      refine w_move (by constructor) ?_
      refine w_conv rfl und2 und5 (by exact w8b hf i) ?_
      refine w_iap rfl rfl und25 kn5 rfl (by exact sz5.symm) rfl ?_ ?_
      · exact ⟨by omega, by omega⟩
      first | refine w_stw rfl (by constructor) kn5 rfl (by exact trivial) (sx) (by exact sz5.symm) ?_ | refine w_sti rfl rfl kn5 rfl (by exact trivial) (by exact sz5.symm) ?_ | refine w_store rfl (HV.eq (by constructor)) kn5 rfl (by exact trivial) (sx) (by exact sz5.symm) (put_in (by first | exact put_mat | exact put_tab | exact put_alg0 | exact put_pr0 | exact put_pr1 | exact put_pr2 | exact put_tn4 | exact put_grp0 | exact put_grp1 | exact put_alg1 | exact put_alg2 | exact put_alg3 | exact put_alg3i | exact put_alg2ij | exact put_alg2ijk | exact put_mat2 | exact put_tab2 | exact put_tab3)) ?_ | refine w_store rfl (HV.eq (by constructor)) kn5 rfl (by exact trivial) (by exact trivial) (by exact sz5.symm) rfl ?_
      exact hRR
    apply lr tokTB (by kernel_rfl)
    · intro RR hRR
      refine y_add rfl rfl ?_
      refine w_move (by constructor) ?_
      exact hRR
    refine ⟨i + 1, ρ0, ?_, (by omega), (by dsimp only; omega)⟩
    exact ⟨⟨⟨rfl, rfl, rfl, rfl, rfl⟩, ⟨rfl, rfl, rfl, rfl, rfl⟩, (by first | exact mt_row (V := _) (fun _ _ => rfl) | exact mt_fz (by exact ⟨(ne_fst rfl), (ne_fst rfl), trivial⟩) rfl (fun _ _ => rfl)), (mi), (mi), trivial⟩, ⟨⟨rfl, (sx), (by exact mt_vec (fun _ _ => rfl))⟩, ⟨rfl, (sx), (by exact mt_vec (fun z _ => upd_cut _ i z))⟩, trivial⟩, ⟨⟨(fun h => by first | exact ⟨rfl, rfl⟩ | exact absurd h (by decide)), (fun h => by first | exact ⟨rfl, rfl⟩ | exact absurd h (by decide)), trivial⟩, ⟨(fun h => by first | exact ⟨rfl, rfl⟩ | exact absurd h (by decide)), (fun h => by first | exact ⟨rfl, rfl⟩ | exact absurd h (by decide)), trivial⟩, trivial⟩⟩
  · try simp only [hcs] at hc10
    have him : m = i := by omega
    subst him
    refine snd_exit ?_
    apply sr tokTB (by kernel_rfl)
    · intro RR hRR
      refine w_ldp rfl kn25 rfl (by constructor) (by exact sz25.symm) (by exact ag25.symm) ?_
      refine w_stw rfl (by constructor) kn25 rfl (by exact trivial) (sx) (by exact sz25.symm) ?_
      exact hRR
    refine snd_ret ?_
    exact rt_c (T := TB) rfl kn25 rfl sz25.symm ag25.symm (fun V => m_vec (fun j hj => rfl))
theorem c_vectorN : ACalls Try.prog TB 98 [.nilsl] (vecA (fun _ => 0)) [] := by
  refine acalls_of tokTB Try.func98 rfl rfl (Nat.le_of_ble_eq_true rfl) ?_
  apply sr tokTB (by kernel_rfl)
  · intro RR hRR
    refine w_alloc kn25 rfl zr25 ?_
    exact hRR
  apply sr tokTB (by kernel_rfl)
  · intro RR hRR
    refine w_bld_a kn25 zr25 und25 kn5 (fun _ => (by exact sz5.symm)) trivial rfl (by exact sz5.symm) ?_
    refine w_alloc kn25 rfl zr25 ?_
    refine w_stw rfl (by constructor) kn25 rfl (by exact trivial) (sx) (by exact sz25.symm) ?_
    exact hRR
  refine snd_seq ?_
  apply sr tokTB (by kernel_rfl)
  · intro RR hRR
    refine w_move (by constructor) ?_
    refine w_len_n rfl rfl und62 ?_
    refine w_move (by constructor) ?_
    exact hRR
  refine snd_block ?_
  refine snd_loop (S := Nat) (fun i => ([(2, .ptr 2 0 [] 0 (vecA (fun _ => 0))), (3, .ptr 3 0 [] 0 (vecA (fun _ => 0))), (7, .nilsl), (8, .int .i64 0), (9, .int .i64 (i : Int))], [(2, .one (vecA (fun _ => 0)) (vecA (fun _ => 0))), (3, .one (vecA (fun _ => 0)) (vecA (fun _ => 0)))])) (fun i => i ≤ 0) (fun i => 0 - i) (0) ρ0 ?_ ?_ ?_
  · exact ⟨⟨⟨rfl, rfl, rfl, rfl, rfl⟩, ⟨rfl, rfl, rfl, rfl, rfl⟩, rfl, (mi), (mi), trivial⟩, ⟨⟨rfl, (sx), (by exact mt_vec (fun _ _ => rfl))⟩, ⟨rfl, (sx), (by exact mt_vec (fun _ _ => rfl))⟩, trivial⟩, ⟨⟨(fun h => by first | exact ⟨rfl, rfl⟩ | exact absurd h (by decide)), (fun h => by first | exact ⟨rfl, rfl⟩ | exact absurd h (by decide)), trivial⟩, ⟨(fun h => by first | exact ⟨rfl, rfl⟩ | exact absurd h (by decide)), (fun h => by first | exact ⟨rfl, rfl⟩ | exact absurd h (by decide)), trivial⟩, trivial⟩⟩
  · exact Nat.zero_le _
  intro i hi0
  refine sq (env2 := [(2, .ptr 2 0 [] 0 (vecA (fun _ => 0))), (3, .ptr 3 0 [] 0 (vecA (fun _ => 0))), (7, .nilsl), (8, .int .i64 0), (9, .int .i64 (i : Int))]) (ol2 := [(2, .one (vecA (fun _ => 0)) (vecA (fun _ => 0))), (3, .one (vecA (fun _ => 0)) (vecA (fun _ => 0)))]) rfl rfl ?_
  apply sr tokTB (by kernel_rfl)
  · intro RR hRR
    refine w_lss rfl rfl ?_
    exact hRR
  refine snd_seq ?_
  refine snd_cond_false (by exact congrArg AV.bool (decide_eq_false (by omega))) ?_
  refine snd_exit ?_
  apply sr tokTB (by kernel_rfl)
  · intro RR hRR
    refine w_ldp rfl kn25 rfl (by constructor) (by exact sz25.symm) (by exact ag25.symm) ?_
    refine w_stw rfl (by constructor) kn25 rfl (by exact trivial) (sx) (by exact sz25.symm) ?_
    exact hRR
  refine snd_ret ?_
  exact rt_c (T := TB) rfl kn25 rfl sz25.symm ag25.symm (fun V => m_vec (fun j hj => rfl))
end Go.Am

set_option linter.unusedVariables false
set_option linter.unusedSimpArgs false
set_option maxRecDepth 4000
namespace Go.Am
attribute [local irreducible] retQ retQp
open Go.Proofs
theorem c_solve_ok {N n : Nat} {S : Nat → Nat → Int} {p : Int} (hp : primeB p = true) (hN : N ≤ 1000) (hn : n ≤ 900) (hS : ∀ i, Bp p (S i)) (hcon : conP n (redGo p N S (n + 1)).no (redGo p N S (n + 1)).O) : ACalls Try.prog TB 97 [rowsA N (n + 1) S, .int .i64 (n : Int), .int .i64 p] (.tup 2 (pairA (.own 0 0 n 2) (.bool true))) (HR n (solGo n (redGo p N S (n + 1)).O (redGo p N S (n + 1)).no)) := by
  have hpb := primeB_bd hp
  obtain ⟨⟨l, hrr⟩, _⟩ := red_ok (m := n + 1) (n := N) (R := S) hp (fun i _ => hS i)
  have hcn := red_counts p N S (n + 1)
  have hS8 : ∀ i, B8 (S i) := fun i => B8_of (by omega) (hS i)
  have hld : ∀ i, i < (redGo p N S (n + 1)).no → Lead (n + 1) ((redGo p N S (n + 1)).O i) (l i) := hrr.lead
  refine acalls_of tokTB Try.func97 rfl rfl (Nat.le_of_ble_eq_true rfl) ?_
  apply sr tokTB (by kernel_rfl)
  · intro RR hRR
    refine w_assign (by constructor) ?_
    refine w_assign (by constructor) ?_
    exact hRR
  apply sr tokTB (by kernel_rfl)
  · intro RR hRR
    refine w_move (by constructor) ?_
    refine w_mks und62 rfl rfl kn2 rfl (by omega) (by rw [by2]; omega) (by omega) rfl ?_
    refine w_assign (by constructor) ?_
    exact hRR
  refine snd_seq ?_
  apply sr tokTB (by kernel_rfl)
  · intro RR hRR
    refine w_move (by constructor) ?_
    refine w_move (by constructor) ?_
    refine w_call rfl (ec (ec exn)) (c_reduce (n := N) (m := n + 1) (R := S) hp (by omega) (by omega) hS8) (.inr ⟨closed_rows, trivial, trivial⟩) rfl (by constructor) rfl ?_
    refine w_len_o rfl rfl und35 ?_
    refine w_move (by constructor) ?_
    exact hRR
  refine snd_block ?_
  refine snd_loop (S := Nat) (fun i => ([(0, rowsA N (n + 1) S), (1, .int .i64 (n : Int)), (8, .own 908 0 n 2), (16, .own 916 0 ((redGo p N S (n + 1)).no) 62), (17, .int .i64 (((redGo p N S (n + 1)).no : Nat) : Int)), (18, .int .i64 (i : Int))], [(908, .one (Z64 n) (C64 n (solGo n (redGo p N S (n + 1)).O i))), (916, .one (ZR ((redGo p N S (n + 1)).no)) (CR ((redGo p N S (n + 1)).no) (n + 1) ((redGo p N S (n + 1)).O)))])) (fun i => i ≤ (redGo p N S (n + 1)).no ∧ conP n i (redGo p N S (n + 1)).O) (fun i => (redGo p N S (n + 1)).no - i) (0) (fun k i => bif Nat.beq k 916 then (17000, i) else bif Nat.beq k 908 then (13, i) else (k, i)) ?_ ?_ ?_
  · exact ⟨⟨(mt_rows (V := _) (fun _ _ _ _ => rfl)), (mi), (by first | exact ⟨rfl, rfl, rfl, rfl⟩ | exact ⟨rfl, by omega, rfl, rfl⟩), (by first | exact ⟨rfl, rfl, rfl, rfl⟩ | exact ⟨rfl, by omega, rfl, rfl⟩), (mi), (mi), trivial⟩, ⟨⟨rfl, (sx), (by exact mt_vec (fun _ _ => rfl))⟩, ⟨rfl, (sx), (by exact ⟨rfl, fun _ _ => mt_row (fun _ _ => rfl)⟩)⟩, trivial⟩, ⟨⟨(fun h => by first | exact ⟨rfl, rfl⟩ | exact absurd h (by decide)), (fun h => by first | exact ⟨rfl, rfl⟩ | exact absurd h (by decide)), trivial⟩, ⟨(fun h => by first | exact ⟨rfl, rfl⟩ | exact absurd h (by decide)), (fun h => by first | exact ⟨rfl, rfl⟩ | exact absurd h (by decide)), trivial⟩, trivial⟩⟩
  · exact ⟨Nat.zero_le _, fun j hj => absurd hj (Nat.not_lt_zero _)⟩
  intro i hi0
  refine sq (env2 := [(0, rowsA N (n + 1) S), (1, .int .i64 (n : Int)), (8, .own 908 0 n 2), (16, .own 916 0 ((redGo p N S (n + 1)).no) 62), (17, .int .i64 (((redGo p N S (n + 1)).no : Nat) : Int)), (18, .int .i64 (i : Int))]) (ol2 := [(908, .one (Z64 n) (C64 n (solGo n (redGo p N S (n + 1)).O i))), (916, .one (ZR ((redGo p N S (n + 1)).no)) (CR ((redGo p N S (n + 1)).no) (n + 1) ((redGo p N S (n + 1)).O)))]) rfl rfl ?_
  obtain ⟨hi1, hi2⟩ := hi0
  apply sr tokTB (by kernel_rfl)
  · intro RR hRR
    refine w_lss rfl rfl ?_
    exact hRR
  refine snd_seq ?_
  refine snd_cond _ rfl (fun hc19 => ?_) (fun hc19 => ?_)
  · try simp only [hcs] at hc19
    have hil : i < (redGo p N S (n + 1)).no := by omega
    have hcn2 := hcon i hil
    refine snd_skip ?_
    refine snd_seq ?_
    refine snd_block ?_
    apply sr tokTB (by kernel_rfl)
    · intro RR hRR
      refine w_iao rfl rfl und35 kn62 ?_ ?_
      · exact ⟨by omega, by omega⟩
      first | refine w_ldc rfl kn62 (by constructor) (by exact sz62.symm) (by exact ag62.symm) ?_ | refine w_ldp rfl kn62 rfl (by constructor) (by exact sz62.symm) (by exact ag62.symm) ?_
      refine w_assign (by constructor) ?_
      exact hRR
    apply sr tokTB (by kernel_rfl)
    · intro RR hRR
      refine w_move (by constructor) ?_
      refine y_call rfl (ec exn) (c_leader (m := n + 1) (f := (redGo p N S (n + 1)).O i) (by omega)) ?_
      refine w_assign (by constructor) ?_
      exact hRR
    refine snd_seq ?_
    apply sr tokTB (by kernel_rfl)
    · intro RR hRR
      refine w_move (by constructor) ?_
      refine w_move (by constructor) ?_
      refine w_eql rfl rfl ?_
      exact hRR
    refine snd_cond_false (by exact congrArg AV.bool (decide_eq_false (by rw [lead_idx' (hld i hil)]; omega))) ?_
    refine snd_skip ?_
    apply lr tokTB (by kernel_rfl)
    · intro RR hRR
      refine w_move (by constructor) ?_
      refine w_move (by constructor) ?_
      refine w_move (by constructor) ?_
      refine w_move (by constructor) ?_
      first | refine w_iar rfl rfl und62 kn2 (by exact sz2.symm) ?_ rfl ?_ | refine w_iao rfl rfl und62 kn2 ?_ ?_
      · exact ⟨by omega, by omega⟩
      first | refine w_ldc rfl kn2 (by constructor) (by exact sz2.symm) (by exact ag2.symm) ?_ | refine w_ldp rfl kn2 rfl (by constructor) (by exact sz2.symm) (by exact ag2.symm) ?_
      refine w_iao rfl rfl und62 kn2 ?_ ?_
      · exact ⟨by rw [lead_idx' (hld i hil)]; omega, by rw [lead_idx' (hld i hil)]; have := hcn2; omega⟩
      first | refine w_stw rfl (by constructor) kn2 rfl (by exact trivial) (sx) (by exact sz2.symm) ?_ | refine w_sti rfl rfl kn2 rfl (by exact trivial) (by exact sz2.symm) ?_ | refine w_store rfl (HV.eq (by constructor)) kn2 rfl (by exact trivial) (sx) (by exact sz2.symm) (put_in (by first | exact put_mat | exact put_tab | exact put_alg0 | exact put_pr0 | exact put_pr1 | exact put_pr2 | exact put_tn4 | exact put_grp0 | exact put_grp1 | exact put_alg1 | exact put_alg2 | exact put_alg3 | exact put_alg3i | exact put_alg2ij | exact put_alg2ijk | exact put_mat2 | exact put_tab2 | exact put_tab3)) ?_ | refine w_store rfl (HV.eq (by constructor)) kn2 rfl (by exact trivial) (by exact trivial) (by exact sz2.symm) rfl ?_
      exact hRR
    apply lr tokTB (by kernel_rfl)
    · intro RR hRR
      refine y_add rfl rfl ?_
      refine w_move (by constructor) ?_
      exact hRR
    refine ⟨i + 1, ρ0, ?_, ⟨by omega, all_step hi2 hcn2⟩, (by dsimp only; omega)⟩
    exact ⟨⟨(mt_rows (V := _) (fun _ _ _ _ => rfl)), (mi), (by first | exact ⟨rfl, rfl, rfl, rfl⟩ | exact ⟨rfl, by omega, rfl, rfl⟩), (by first | exact ⟨rfl, rfl, rfl, rfl⟩ | exact ⟨rfl, by omega, rfl, rfl⟩), (mi), (mi), trivial⟩, ⟨⟨rfl, (sx), (by exact mt_vec (fun z _ => by show upd _ (idxF (fun i_1 => decide ((redGo p N S (n + 1)).O i i_1 ≠ 0)) (n + 1)).toNat _ z = _; rw [lead_idx' (hld i hil)]; rfl))⟩, ⟨rfl, (sx), (by exact ⟨rfl, fun _ _ => mt_row (fun _ _ => rfl)⟩)⟩, trivial⟩, ⟨⟨(fun h => by first | exact ⟨rfl, rfl⟩ | exact absurd h (by decide)), (fun h => by first | exact ⟨rfl, rfl⟩ | exact absurd h (by decide)), trivial⟩, ⟨(fun h => by first | exact ⟨rfl, rfl⟩ | exact absurd h (by decide)), (fun h => by first | exact ⟨rfl, rfl⟩ | exact absurd h (by decide)), trivial⟩, trivial⟩⟩
  · try simp only [hcs] at hc19
    have hio : (redGo p N S (n + 1)).no = i := by omega
    refine snd_exit ?_
    apply sr tokTB (by kernel_rfl)
    · intro RR hRR
      refine w_move (by constructor) ?_
      refine w_assign (by constructor) ?_
      refine w_assign (by constructor) ?_
      exact hRR
    refine snd_ret ?_
    show retQ TB _ _ _ _ _ _
    exact rt_own_t (T := TB) rfl rfl rfl rfl (fun _ => trivial) (fun V j hj => congrArg (AV.int .i64) (by rw [← hio]))
theorem c_solve_no {N n : Nat} {S : Nat → Nat → Int} {p : Int} (hp : primeB p = true) (hN : N ≤ 1000) (hn : n ≤ 900) (hS : ∀ i, Bp p (S i)) (hcon : ¬ conP n (redGo p N S (n + 1)).no (redGo p N S (n + 1)).O) : ACalls Try.prog TB 97 [rowsA N (n + 1) S, .int .i64 (n : Int), .int .i64 p] (.tup 2 (pairA .nilsl (.bool false))) [] := by
  have hpb := primeB_bd hp
  obtain ⟨⟨l, hrr⟩, _⟩ := red_ok (m := n + 1) (n := N) (R := S) hp (fun i _ => hS i)
  have hcn := red_counts p N S (n + 1)
  have hS8 : ∀ i, B8 (S i) := fun i => B8_of (by omega) (hS i)
  have hld : ∀ i, i < (redGo p N S (n + 1)).no → Lead (n + 1) ((redGo p N S (n + 1)).O i) (l i) := hrr.lead
  refine acalls_of tokTB Try.func97 rfl rfl (Nat.le_of_ble_eq_true rfl) ?_
  apply sr tokTB (by kernel_rfl)
  · intro RR hRR
    refine w_assign (by constructor) ?_
    refine w_assign (by constructor) ?_
    exact hRR
  apply sr tokTB (by kernel_rfl)
  · intro RR hRR
    refine w_move (by constructor) ?_
    refine w_mks und62 rfl rfl kn2 rfl (by omega) (by rw [by2]; omega) (by omega) rfl ?_
    refine w_assign (by constructor) ?_
    exact hRR
  refine snd_seq ?_
  apply sr tokTB (by kernel_rfl)
  · intro RR hRR
    refine w_move (by constructor) ?_
    refine w_move (by constructor) ?_
    refine w_call rfl (ec (ec exn)) (c_reduce (n := N) (m := n + 1) (R := S) hp (by omega) (by omega) hS8) (.inr ⟨closed_rows, trivial, trivial⟩) rfl (by constructor) rfl ?_
    refine w_len_o rfl rfl und35 ?_
    refine w_move (by constructor) ?_
    exact hRR
  refine snd_block ?_
  refine snd_loop (S := Nat) (fun i => ([(0, rowsA N (n + 1) S), (1, .int .i64 (n : Int)), (8, .own 908 0 n 2), (16, .own 916 0 ((redGo p N S (n + 1)).no) 62), (17, .int .i64 (((redGo p N S (n + 1)).no : Nat) : Int)), (18, .int .i64 (i : Int))], [(908, .one (Z64 n) (C64 n (solGo n (redGo p N S (n + 1)).O i))), (916, .one (ZR ((redGo p N S (n + 1)).no)) (CR ((redGo p N S (n + 1)).no) (n + 1) ((redGo p N S (n + 1)).O)))])) (fun i => i ≤ (redGo p N S (n + 1)).no ∧ conP n i (redGo p N S (n + 1)).O) (fun i => (redGo p N S (n + 1)).no - i) (0) (fun k i => bif Nat.beq k 916 then (17000, i) else bif Nat.beq k 908 then (13, i) else (k, i)) ?_ ?_ ?_
  · exact ⟨⟨(mt_rows (V := _) (fun _ _ _ _ => rfl)), (mi), (by first | exact ⟨rfl, rfl, rfl, rfl⟩ | exact ⟨rfl, by omega, rfl, rfl⟩), (by first | exact ⟨rfl, rfl, rfl, rfl⟩ | exact ⟨rfl, by omega, rfl, rfl⟩), (mi), (mi), trivial⟩, ⟨⟨rfl, (sx), (by exact mt_vec (fun _ _ => rfl))⟩, ⟨rfl, (sx), (by exact ⟨rfl, fun _ _ => mt_row (fun _ _ => rfl)⟩)⟩, trivial⟩, ⟨⟨(fun h => by first | exact ⟨rfl, rfl⟩ | exact absurd h (by decide)), (fun h => by first | exact ⟨rfl, rfl⟩ | exact absurd h (by decide)), trivial⟩, ⟨(fun h => by first | exact ⟨rfl, rfl⟩ | exact absurd h (by decide)), (fun h => by first | exact ⟨rfl, rfl⟩ | exact absurd h (by decide)), trivial⟩, trivial⟩⟩
  · exact ⟨Nat.zero_le _, fun j hj => absurd hj (Nat.not_lt_zero _)⟩
  intro i hi0
  refine sq (env2 := [(0, rowsA N (n + 1) S), (1, .int .i64 (n : Int)), (8, .own 908 0 n 2), (16, .own 916 0 ((redGo p N S (n + 1)).no) 62), (17, .int .i64 (((redGo p N S (n + 1)).no : Nat) : Int)), (18, .int .i64 (i : Int))]) (ol2 := [(908, .one (Z64 n) (C64 n (solGo n (redGo p N S (n + 1)).O i))), (916, .one (ZR ((redGo p N S (n + 1)).no)) (CR ((redGo p N S (n + 1)).no) (n + 1) ((redGo p N S (n + 1)).O)))]) rfl rfl ?_
  obtain ⟨hi1, hi2⟩ := hi0
  apply sr tokTB (by kernel_rfl)
  · intro RR hRR
    refine w_lss rfl rfl ?_
    exact hRR
  refine snd_seq ?_
  refine snd_cond _ rfl (fun hc19 => ?_) (fun hc19 => ?_)
  · try simp only [hcs] at hc19
    have hil : i < (redGo p N S (n + 1)).no := by omega
    refine snd_skip ?_
    refine snd_seq ?_
    refine snd_block ?_
    apply sr tokTB (by kernel_rfl)
    · intro RR hRR
      refine w_iao rfl rfl und35 kn62 ?_ ?_
      · exact ⟨by omega, by omega⟩
      first | refine w_ldc rfl kn62 (by constructor) (by exact sz62.symm) (by exact ag62.symm) ?_ | refine w_ldp rfl kn62 rfl (by constructor) (by exact sz62.symm) (by exact ag62.symm) ?_
      refine w_assign (by constructor) ?_
      exact hRR
    apply sr tokTB (by kernel_rfl)
    · intro RR hRR
      refine w_move (by constructor) ?_
      refine y_call rfl (ec exn) (c_leader (m := n + 1) (f := (redGo p N S (n + 1)).O i) (by omega)) ?_
      refine w_assign (by constructor) ?_
      exact hRR
    refine snd_seq ?_
    apply sr tokTB (by kernel_rfl)
    · intro RR hRR
      refine w_move (by constructor) ?_
      refine w_move (by constructor) ?_
      refine w_eql rfl rfl ?_
      exact hRR
    refine snd_cond _ rfl (fun hc26 => ?_) (fun hc26 => ?_)
    · skip
      apply sr tokTB (by kernel_rfl)
      · intro RR hRR
        refine w_assign (by constructor) ?_
        refine w_assign (by constructor) ?_
        exact hRR
      refine snd_ret ?_
      exact rt_tt (T := TB) (fun V => rfl) (fun V => rfl)
    · skip
      have hcn2 : leadN (n + 1) ((redGo p N S (n + 1)).O i) < n := by
        have h1 := of_decide_eq_false hc26
        rw [lead_idx' (hld i hil)] at h1
        have h2 := (hld i hil).1
        rw [← leadN_of (hld i hil)] at h2
        omega
      refine snd_skip ?_
      apply lr tokTB (by kernel_rfl)
      · intro RR hRR
        refine w_move (by constructor) ?_
        refine w_move (by constructor) ?_
        refine w_move (by constructor) ?_
        refine w_move (by constructor) ?_
        first | refine w_iar rfl rfl und62 kn2 (by exact sz2.symm) ?_ rfl ?_ | refine w_iao rfl rfl und62 kn2 ?_ ?_
        · exact ⟨by omega, by omega⟩
        first | refine w_ldc rfl kn2 (by constructor) (by exact sz2.symm) (by exact ag2.symm) ?_ | refine w_ldp rfl kn2 rfl (by constructor) (by exact sz2.symm) (by exact ag2.symm) ?_
        refine w_iao rfl rfl und62 kn2 ?_ ?_
        · exact ⟨by rw [lead_idx' (hld i hil)]; omega, by rw [lead_idx' (hld i hil)]; have := hcn2; omega⟩
        first | refine w_stw rfl (by constructor) kn2 rfl (by exact trivial) (sx) (by exact sz2.symm) ?_ | refine w_sti rfl rfl kn2 rfl (by exact trivial) (by exact sz2.symm) ?_ | refine w_store rfl (HV.eq (by constructor)) kn2 rfl (by exact trivial) (sx) (by exact sz2.symm) (put_in (by first | exact put_mat | exact put_tab | exact put_alg0 | exact put_pr0 | exact put_pr1 | exact put_pr2 | exact put_tn4 | exact put_grp0 | exact put_grp1 | exact put_alg1 | exact put_alg2 | exact put_alg3 | exact put_alg3i | exact put_alg2ij | exact put_alg2ijk | exact put_mat2 | exact put_tab2 | exact put_tab3)) ?_ | refine w_store rfl (HV.eq (by constructor)) kn2 rfl (by exact trivial) (by exact trivial) (by exact sz2.symm) rfl ?_
        exact hRR
      apply lr tokTB (by kernel_rfl)
      · intro RR hRR
        refine y_add rfl rfl ?_
        refine w_move (by constructor) ?_
        exact hRR
      refine ⟨i + 1, ρ0, ?_, ⟨by omega, all_step hi2 hcn2⟩, (by dsimp only; omega)⟩
      exact ⟨⟨(mt_rows (V := _) (fun _ _ _ _ => rfl)), (mi), (by first | exact ⟨rfl, rfl, rfl, rfl⟩ | exact ⟨rfl, by omega, rfl, rfl⟩), (by first | exact ⟨rfl, rfl, rfl, rfl⟩ | exact ⟨rfl, by omega, rfl, rfl⟩), (mi), (mi), trivial⟩, ⟨⟨rfl, (sx), (by exact mt_vec (fun z _ => by show upd _ (idxF (fun i_1 => decide ((redGo p N S (n + 1)).O i i_1 ≠ 0)) (n + 1)).toNat _ z = _; rw [lead_idx' (hld i hil)]; rfl))⟩, ⟨rfl, (sx), (by exact ⟨rfl, fun _ _ => mt_row (fun _ _ => rfl)⟩)⟩, trivial⟩, ⟨⟨(fun h => by first | exact ⟨rfl, rfl⟩ | exact absurd h (by decide)), (fun h => by first | exact ⟨rfl, rfl⟩ | exact absurd h (by decide)), trivial⟩, ⟨(fun h => by first | exact ⟨rfl, rfl⟩ | exact absurd h (by decide)), (fun h => by first | exact ⟨rfl, rfl⟩ | exact absurd h (by decide)), trivial⟩, trivial⟩⟩
  · try simp only [hcs] at hc19
    exact absurd (fun j hj => hi2 j (by omega)) hcon
end Go.Am

set_option linter.unusedVariables false
set_option linter.unusedSimpArgs false
set_option maxRecDepth 4000
namespace Go.Am
attribute [local irreducible] retQ retQp
open Go.Proofs
theorem c_l01Solve_ok {N n : Nat} {S : Nat → Nat → Int} {p : Int} (hp : primeB p = true) (hN : N ≤ 1000) (hN0 : 0 < N) (hn : n ≤ 900) (hS : ∀ i, Bp p (S i)) (hcon : oneP n (echGo p (n + 1) S N).no (echGo p (n + 1) S N).O) : ACalls Try.prog TB 90 [.int .i64 p, rowsA N (n + 1) S] (.tup 2 (pairA (.own 0 0 n 2) (.bool true))) (HR n (fun a => (echGo p (n + 1) S N).O a n)) := by
  have hpb := primeB_bd hp
  obtain ⟨⟨l, hrr⟩, _⟩ := ech_ok (m := n + 1) (R := S) hp N (fun i _ => hS i)
  have hcn := ech_count p (n + 1) S N
  have hld : ∀ i, i < (echGo p (n + 1) S N).no → Lead (n + 1) ((echGo p (n + 1) S N).O i) (l i) := hrr.lead
  refine acalls_of tokTB Try.func90 rfl rfl (Nat.le_of_ble_eq_true rfl) ?_
  apply sr tokTB (by kernel_rfl)
  · intro RR hRR
    refine w_assign (by constructor) ?_
    refine w_assign (by constructor) ?_
    exact hRR
  refine snd_seq ?_
  apply sr tokTB (by kernel_rfl)
  · intro RR hRR
    refine w_move (by constructor) ?_
    refine w_len_r rfl rfl und35 ?_
    refine w_eql rfl rfl ?_
    exact hRR
  refine snd_cond_false (by exact congrArg AV.bool (decide_eq_false (by omega))) ?_
  refine snd_skip ?_
  apply sd tokTB mixed (by kernel_rfl) (by kernel_rfl)
  · intro RR hRR
    refine w_move (by constructor) ?_
    refine w_iar rfl rfl und35 kn62 (by exact sz62.symm) ?_ rfl ?_
    · exact ⟨by omega, by omega⟩
    first | refine w_ldc rfl kn62 (by constructor) (by exact sz62.symm) (by exact ag62.symm) ?_ | refine w_ldp rfl kn62 rfl (by constructor) (by exact sz62.symm) (by exact ag62.symm) ?_
    first | refine w_len_r rfl rfl und62 ?_ | refine w_len_o rfl rfl und62 ?_ | refine w_len_n rfl rfl und62 ?_
    refine w_sub rfl rfl (by exact (w64 (by omega) (by omega)).trans (show ((n + 1 : Nat) : Int) - 1 = (n : Int) by omega)) ?_
    refine w_move (by constructor) ?_
    refine w_move (by constructor) ?_
    refine w_call rfl (ec (ec exn)) (c_l01Echelon (n := N) (m := n + 1) (R := S) hp (by omega) (by omega) (by omega) hS) (.inr ⟨trivial, closed_rows, trivial⟩) rfl (by constructor) rfl ?_
    refine w_assign (by constructor) ?_
    refine w_assign (by constructor) ?_
    exact hRR
  refine snd_seq ?_
  apply sr tokTB (by kernel_rfl)
  · intro RR hRR
    refine w_move (by constructor) ?_
    refine w_len_o rfl rfl und35 ?_
    refine w_move (by constructor) ?_
    refine w_neq rfl rfl ?_
    exact hRR
  refine snd_cond_false (by exact congrArg AV.bool (decide_eq_false (by have := hcon.1; omega))) ?_
  refine snd_skip ?_
  apply sr tokTB (by kernel_rfl)
  · intro RR hRR
    refine w_bsl und62 kn2 (by rw [sz2]; rfl) rfl trivial trivial rfl ?_
    refine w_assign (by constructor) ?_
    exact hRR
  refine snd_seq ?_
  apply sr tokTB (by kernel_rfl)
  · intro RR hRR
    refine w_assign (by constructor) ?_
    exact hRR
  refine snd_block ?_
  refine snd_loop (S := Nat) (fun i => ([(6, .int .i64 (n : Int)), (7, .own 907 0 ((echGo p (n + 1) S N).no) 62), (8, .own 908 0 i 2), (9, .int .i64 (i : Int))], [(907, .one (ZR ((echGo p (n + 1) S N).no)) (CR ((echGo p (n + 1) S N).no) (n + 1) ((echGo p (n + 1) S N).O))), (908, .one (Z64 i) (C64 i (fun a => (echGo p (n + 1) S N).O a n)))])) (fun i => i ≤ n ∧ ∀ a, a < i → leadN (n + 1) ((echGo p (n + 1) S N).O a) = a) (fun i => n - i) (0) (fun k i => bif Nat.beq k 908 then (25, i) else bif Nat.beq k 907 then (21000, i) else (k, i)) ?_ ?_ ?_
  · exact ⟨⟨(mi), (by first | exact ⟨rfl, rfl, rfl, rfl⟩ | exact ⟨rfl, by omega, rfl, rfl⟩), (by first | exact ⟨rfl, rfl, rfl, rfl⟩ | exact ⟨rfl, by omega, rfl, rfl⟩), (mi), trivial⟩, ⟨⟨rfl, (sx), (by exact ⟨rfl, fun _ _ => mt_row (fun _ _ => rfl)⟩)⟩, ⟨rfl, (sx), (by exact mt_arr0)⟩, trivial⟩, ⟨⟨(fun h => by first | exact ⟨rfl, rfl⟩ | exact absurd h (by decide)), (fun h => by first | exact ⟨rfl, rfl⟩ | exact absurd h (by decide)), trivial⟩, ⟨(fun h => by first | exact ⟨rfl, rfl⟩ | exact absurd h (by decide)), (fun h => by first | exact ⟨rfl, rfl⟩ | exact absurd h (by decide)), trivial⟩, trivial⟩⟩
  · exact ⟨Nat.zero_le _, fun j hj => absurd hj (Nat.not_lt_zero _)⟩
  intro i hi0
  refine sq (env2 := [(6, .int .i64 (n : Int)), (7, .own 907 0 ((echGo p (n + 1) S N).no) 62), (8, .own 908 0 i 2), (9, .int .i64 (i : Int))]) (ol2 := [(907, .one (ZR ((echGo p (n + 1) S N).no)) (CR ((echGo p (n + 1) S N).no) (n + 1) ((echGo p (n + 1) S N).O))), (908, .one (Z64 i) (C64 i (fun a => (echGo p (n + 1) S N).O a n)))]) rfl rfl ?_
  obtain ⟨hi1, hi2⟩ := hi0
  refine snd_seq ?_
  apply sr tokTB (by kernel_rfl)
  · intro RR hRR
    refine w_move (by constructor) ?_
    refine w_move (by constructor) ?_
    refine w_lss rfl rfl ?_
    exact hRR
  refine snd_cond _ rfl (fun hc28 => ?_) (fun hc28 => ?_)
  · try simp only [hcs] at hc28
    have hil : i < (echGo p (n + 1) S N).no := by have := hcon.1; omega
    have hcn2 := hcon.2 i (by omega)
    refine snd_skip ?_
    refine snd_seq ?_
    refine snd_block ?_
    refine snd_seq ?_
    apply sr tokTB (by kernel_rfl)
    · intro RR hRR
      refine w_move (by constructor) ?_
      refine w_move (by constructor) ?_
      refine w_iao rfl rfl und35 kn62 ?_ ?_
      · exact ⟨by omega, by omega⟩
      first | refine w_ldc rfl kn62 (by constructor) (by exact sz62.symm) (by exact ag62.symm) ?_ | refine w_ldp rfl kn62 rfl (by constructor) (by exact sz62.symm) (by exact ag62.symm) ?_
      refine y_call rfl (ec exn) (c_l01Lead (m := n + 1) (f := (echGo p (n + 1) S N).O i) (by omega)) ?_
      refine w_move (by constructor) ?_
      refine w_neq rfl rfl ?_
      exact hRR
    refine snd_cond_false (by exact congrArg AV.bool (decide_eq_false (by rw [lead_idx' (hld i hil)]; omega))) ?_
    refine snd_skip ?_
    apply lr tokTB (by kernel_rfl)
    · intro RR hRR
      refine w_move (by constructor) ?_
      refine w_move (by constructor) ?_
      refine w_move (by constructor) ?_
      refine w_iao rfl rfl und35 kn62 ?_ ?_
      · exact ⟨by omega, by omega⟩
      first | refine w_ldc rfl kn62 (by constructor) (by exact sz62.symm) (by exact ag62.symm) ?_ | refine w_ldp rfl kn62 rfl (by constructor) (by exact sz62.symm) (by exact ag62.symm) ?_
      refine w_move (by constructor) ?_
      first | refine w_iar rfl rfl und62 kn2 (by exact sz2.symm) ?_ rfl ?_ | refine w_iao rfl rfl und62 kn2 ?_ ?_
      · exact ⟨by omega, by omega⟩
      first | refine w_ldc rfl kn2 (by constructor) (by exact sz2.symm) (by exact ag2.symm) ?_ | refine w_ldp rfl kn2 rfl (by constructor) (by exact sz2.symm) (by exact ag2.symm) ?_
      refine w_bsl1 und62 kn2 (by rw [sz2]; rfl) rfl (by constructor) (by first | exact trivial | exact cel_cap2) (by exact sz2.symm) (by first | exact trivial | exact ssh_vec | exact ⟨rfl, fun _ => trivial⟩) ?_
      refine w_app_o und62 rfl rfl kn2 rfl rfl (fun C h => ⟨rfl, rfl, rfl, h⟩) (by rw [by2]; omega) (by omega) rfl ?_
      refine w_assign (by constructor) ?_
      exact hRR
    apply lr tokTB (by kernel_rfl)
    · intro RR hRR
      refine w_move (by constructor) ?_
      refine y_add rfl rfl ?_
      refine w_assign (by constructor) ?_
      exact hRR
    refine ⟨i + 1, (fun k i => bif Nat.beq k 908 then (47, i) else (k, i)), ?_, ⟨by omega, all_step hi2 hcn2⟩, (by dsimp only; omega)⟩
    exact ⟨⟨(mi), (by first | exact ⟨rfl, rfl, rfl, rfl⟩ | exact ⟨rfl, by omega, rfl, rfl⟩), (by first | exact ⟨rfl, rfl, rfl, rfl⟩ | exact ⟨rfl, by omega, rfl, rfl⟩), (mi), trivial⟩, ⟨⟨rfl, (sx), (by exact ⟨rfl, fun _ _ => mt_row (fun _ _ => rfl)⟩)⟩, ⟨rfl, (sx), (by exact mt_app (fun _ _ => rfl) rfl)⟩, trivial⟩, ⟨⟨(fun h => by first | exact ⟨rfl, rfl⟩ | exact absurd h (by decide)), (fun h => by first | exact ⟨rfl, rfl⟩ | exact absurd h (by decide)), trivial⟩, ⟨(fun h => by first | exact ⟨rfl, rfl⟩ | exact absurd h (by decide)), (fun h => by first | exact ⟨rfl, rfl⟩ | exact absurd h (by decide)), trivial⟩, trivial⟩⟩
  · try simp only [hcs] at hc28
    have hio : n = i := by omega
    subst hio
    refine snd_exit ?_
    apply sr tokTB (by kernel_rfl)
    · intro RR hRR
      refine w_move (by constructor) ?_
      refine w_assign (by constructor) ?_
      refine w_assign (by constructor) ?_
      exact hRR
    refine snd_ret ?_
    show retQ TB _ _ _ _ _ _
    exact rt_own_t (T := TB) rfl rfl rfl rfl (fun _ => trivial) (fun V j hj => rfl)
theorem c_l01Solve_no {N n : Nat} {S : Nat → Nat → Int} {p : Int} (hp : primeB p = true) (hN : N ≤ 1000) (hN0 : 0 < N) (hn : n ≤ 900) (hS : ∀ i, Bp p (S i)) (hcon : ¬ oneP n (echGo p (n + 1) S N).no (echGo p (n + 1) S N).O) : ACalls Try.prog TB 90 [.int .i64 p, rowsA N (n + 1) S] (.tup 2 (pairA .nilsl (.bool false))) [] := by
  have hpb := primeB_bd hp
  obtain ⟨⟨l, hrr⟩, _⟩ := ech_ok (m := n + 1) (R := S) hp N (fun i _ => hS i)
  have hcn := ech_count p (n + 1) S N
  have hld : ∀ i, i < (echGo p (n + 1) S N).no → Lead (n + 1) ((echGo p (n + 1) S N).O i) (l i) := hrr.lead
  refine acalls_of tokTB Try.func90 rfl rfl (Nat.le_of_ble_eq_true rfl) ?_
  apply sr tokTB (by kernel_rfl)
  · intro RR hRR
    refine w_assign (by constructor) ?_
    refine w_assign (by constructor) ?_
    exact hRR
  refine snd_seq ?_
  apply sr tokTB (by kernel_rfl)
  · intro RR hRR
    refine w_move (by constructor) ?_
    refine w_len_r rfl rfl und35 ?_
    refine w_eql rfl rfl ?_
    exact hRR
  refine snd_cond_false (by exact congrArg AV.bool (decide_eq_false (by omega))) ?_
  refine snd_skip ?_
  apply sd tokTB mixed (by kernel_rfl) (by kernel_rfl)
  · intro RR hRR
    refine w_move (by constructor) ?_
    refine w_iar rfl rfl und35 kn62 (by exact sz62.symm) ?_ rfl ?_
    · exact ⟨by omega, by omega⟩
    first | refine w_ldc rfl kn62 (by constructor) (by exact sz62.symm) (by exact ag62.symm) ?_ | refine w_ldp rfl kn62 rfl (by constructor) (by exact sz62.symm) (by exact ag62.symm) ?_
    first | refine w_len_r rfl rfl und62 ?_ | refine w_len_o rfl rfl und62 ?_ | refine w_len_n rfl rfl und62 ?_
    refine w_sub rfl rfl (by exact (w64 (by omega) (by omega)).trans (show ((n + 1 : Nat) : Int) - 1 = (n : Int) by omega)) ?_
    refine w_move (by constructor) ?_
    refine w_move (by constructor) ?_
    refine w_call rfl (ec (ec exn)) (c_l01Echelon (n := N) (m := n + 1) (R := S) hp (by omega) (by omega) (by omega) hS) (.inr ⟨trivial, closed_rows, trivial⟩) rfl (by constructor) rfl ?_
    refine w_assign (by constructor) ?_
    refine w_assign (by constructor) ?_
    exact hRR
  refine snd_seq ?_
  apply sr tokTB (by kernel_rfl)
  · intro RR hRR
    refine w_move (by constructor) ?_
    refine w_len_o rfl rfl und35 ?_
    refine w_move (by constructor) ?_
    refine w_neq rfl rfl ?_
    exact hRR
  refine snd_cond _ rfl (fun hc24 => ?_) (fun hc24 => ?_)
  · try simp only [hcs] at hc24
    apply sr tokTB (by kernel_rfl)
    · intro RR hRR
      refine w_assign (by constructor) ?_
      refine w_assign (by constructor) ?_
      exact hRR
    refine snd_ret ?_
    exact rt_tt (T := TB) (fun V => rfl) (fun V => rfl)
  · try simp only [hcs] at hc24
    have hno : (echGo p (n + 1) S N).no = n := by omega
    refine snd_skip ?_
    apply sr tokTB (by kernel_rfl)
    · intro RR hRR
      refine w_bsl und62 kn2 (by rw [sz2]; rfl) rfl trivial trivial rfl ?_
      refine w_assign (by constructor) ?_
      exact hRR
    refine snd_seq ?_
    apply sr tokTB (by kernel_rfl)
    · intro RR hRR
      refine w_assign (by constructor) ?_
      exact hRR
    refine snd_block ?_
    refine snd_loop (S := Nat) (fun i => ([(6, .int .i64 (n : Int)), (7, .own 907 0 ((echGo p (n + 1) S N).no) 62), (8, .own 908 0 i 2), (9, .int .i64 (i : Int))], [(907, .one (ZR ((echGo p (n + 1) S N).no)) (CR ((echGo p (n + 1) S N).no) (n + 1) ((echGo p (n + 1) S N).O))), (908, .one (Z64 i) (C64 i (fun a => (echGo p (n + 1) S N).O a n)))])) (fun i => i ≤ n ∧ ∀ a, a < i → leadN (n + 1) ((echGo p (n + 1) S N).O a) = a) (fun i => n - i) (0) (fun k i => bif Nat.beq k 908 then (25, i) else bif Nat.beq k 907 then (21000, i) else (k, i)) ?_ ?_ ?_
    · exact ⟨⟨(mi), (by first | exact ⟨rfl, rfl, rfl, rfl⟩ | exact ⟨rfl, by omega, rfl, rfl⟩), (by first | exact ⟨rfl, rfl, rfl, rfl⟩ | exact ⟨rfl, by omega, rfl, rfl⟩), (mi), trivial⟩, ⟨⟨rfl, (sx), (by exact ⟨rfl, fun _ _ => mt_row (fun _ _ => rfl)⟩)⟩, ⟨rfl, (sx), (by exact mt_arr0)⟩, trivial⟩, ⟨⟨(fun h => by first | exact ⟨rfl, rfl⟩ | exact absurd h (by decide)), (fun h => by first | exact ⟨rfl, rfl⟩ | exact absurd h (by decide)), trivial⟩, ⟨(fun h => by first | exact ⟨rfl, rfl⟩ | exact absurd h (by decide)), (fun h => by first | exact ⟨rfl, rfl⟩ | exact absurd h (by decide)), trivial⟩, trivial⟩⟩
    · exact ⟨Nat.zero_le _, fun j hj => absurd hj (Nat.not_lt_zero _)⟩
    intro i hi0
    refine sq (env2 := [(6, .int .i64 (n : Int)), (7, .own 907 0 ((echGo p (n + 1) S N).no) 62), (8, .own 908 0 i 2), (9, .int .i64 (i : Int))]) (ol2 := [(907, .one (ZR ((echGo p (n + 1) S N).no)) (CR ((echGo p (n + 1) S N).no) (n + 1) ((echGo p (n + 1) S N).O))), (908, .one (Z64 i) (C64 i (fun a => (echGo p (n + 1) S N).O a n)))]) rfl rfl ?_
    obtain ⟨hi1, hi2⟩ := hi0
    refine snd_seq ?_
    apply sr tokTB (by kernel_rfl)
    · intro RR hRR
      refine w_move (by constructor) ?_
      refine w_move (by constructor) ?_
      refine w_lss rfl rfl ?_
      exact hRR
    refine snd_cond _ rfl (fun hc28 => ?_) (fun hc28 => ?_)
    · try simp only [hcs] at hc28
      have hil : i < (echGo p (n + 1) S N).no := by omega
      refine snd_skip ?_
      refine snd_seq ?_
      refine snd_block ?_
      refine snd_seq ?_
      apply sr tokTB (by kernel_rfl)
      · intro RR hRR
        refine w_move (by constructor) ?_
        refine w_move (by constructor) ?_
        refine w_iao rfl rfl und35 kn62 ?_ ?_
        · exact ⟨by omega, by omega⟩
        first | refine w_ldc rfl kn62 (by constructor) (by exact sz62.symm) (by exact ag62.symm) ?_ | refine w_ldp rfl kn62 rfl (by constructor) (by exact sz62.symm) (by exact ag62.symm) ?_
        refine y_call rfl (ec exn) (c_l01Lead (m := n + 1) (f := (echGo p (n + 1) S N).O i) (by omega)) ?_
        refine w_move (by constructor) ?_
        refine w_neq rfl rfl ?_
        exact hRR
      refine snd_cond _ rfl (fun hc37 => ?_) (fun hc37 => ?_)
      · skip
        apply sr tokTB (by kernel_rfl)
        · intro RR hRR
          refine w_assign (by constructor) ?_
          refine w_assign (by constructor) ?_
          exact hRR
        refine snd_ret ?_
        exact rt_tt (T := TB) (fun V => rfl) (fun V => rfl)
      · skip
        have hcn2 : leadN (n + 1) ((echGo p (n + 1) S N).O i) = i := by
          have h1 := Classical.not_not.1 (of_decide_eq_false hc37)
          rw [lead_idx' (hld i hil)] at h1
          omega
        refine snd_skip ?_
        apply lr tokTB (by kernel_rfl)
        · intro RR hRR
          refine w_move (by constructor) ?_
          refine w_move (by constructor) ?_
          refine w_move (by constructor) ?_
          refine w_iao rfl rfl und35 kn62 ?_ ?_
          · exact ⟨by omega, by omega⟩
          first | refine w_ldc rfl kn62 (by constructor) (by exact sz62.symm) (by exact ag62.symm) ?_ | refine w_ldp rfl kn62 rfl (by constructor) (by exact sz62.symm) (by exact ag62.symm) ?_
          refine w_move (by constructor) ?_
          first | refine w_iar rfl rfl und62 kn2 (by exact sz2.symm) ?_ rfl ?_ | refine w_iao rfl rfl und62 kn2 ?_ ?_
          · exact ⟨by omega, by omega⟩
          first | refine w_ldc rfl kn2 (by constructor) (by exact sz2.symm) (by exact ag2.symm) ?_ | refine w_ldp rfl kn2 rfl (by constructor) (by exact sz2.symm) (by exact ag2.symm) ?_
          refine w_bsl1 und62 kn2 (by rw [sz2]; rfl) rfl (by constructor) (by first | exact trivial | exact cel_cap2) (by exact sz2.symm) (by first | exact trivial | exact ssh_vec | exact ⟨rfl, fun _ => trivial⟩) ?_
          refine w_app_o und62 rfl rfl kn2 rfl rfl (fun C h => ⟨rfl, rfl, rfl, h⟩) (by rw [by2]; omega) (by omega) rfl ?_
          refine w_assign (by constructor) ?_
          exact hRR
        apply lr tokTB (by kernel_rfl)
        · intro RR hRR
          refine w_move (by constructor) ?_
          refine y_add rfl rfl ?_
          refine w_assign (by constructor) ?_
          exact hRR
        refine ⟨i + 1, (fun k i => bif Nat.beq k 908 then (47, i) else (k, i)), ?_, ⟨by omega, all_step hi2 hcn2⟩, (by dsimp only; omega)⟩
        exact ⟨⟨(mi), (by first | exact ⟨rfl, rfl, rfl, rfl⟩ | exact ⟨rfl, by omega, rfl, rfl⟩), (by first | exact ⟨rfl, rfl, rfl, rfl⟩ | exact ⟨rfl, by omega, rfl, rfl⟩), (mi), trivial⟩, ⟨⟨rfl, (sx), (by exact ⟨rfl, fun _ _ => mt_row (fun _ _ => rfl)⟩)⟩, ⟨rfl, (sx), (by exact mt_app (fun _ _ => rfl) rfl)⟩, trivial⟩, ⟨⟨(fun h => by first | exact ⟨rfl, rfl⟩ | exact absurd h (by decide)), (fun h => by first | exact ⟨rfl, rfl⟩ | exact absurd h (by decide)), trivial⟩, ⟨(fun h => by first | exact ⟨rfl, rfl⟩ | exact absurd h (by decide)), (fun h => by first | exact ⟨rfl, rfl⟩ | exact absurd h (by decide)), trivial⟩, trivial⟩⟩
    · try simp only [hcs] at hc28
      exact absurd ⟨hno, fun j hj => hi2 j (by omega)⟩ hcon
end Go.Am

set_option linter.unusedVariables false
set_option linter.unusedSimpArgs false
set_option maxRecDepth 4000
namespace Go.Am
attribute [local irreducible] retQ retQp
open Go.Proofs
theorem c_l01Find_no {p : Int} {n : Nat} {T : Nat → Nat → Nat → Int} {fo : Nat → Int} (hp : primeB p = true) (hn0 : 0 < n) (hn : n ≤ 6) (hTp : BpT p T) (hone : ¬ oneP n (echGo p (n + 1) (unitS n T) (n * n)).no (echGo p (n + 1) (unitS n T) (n * n)).O) : ACalls Try.prog TB 83 [algA p (n : Int) T fo] (.tup 2 (pairA (vecA (findV p n T)) (.bool (decide (okS p n T))))) [] := by
  have hpb := primeB_bd hp
  have hT := B8T_of (by omega) hTp
  have hnn0 : 0 < n * n := Nat.mul_pos hn0 hn0
  refine acalls_of tokTB Try.func83 rfl rfl (Nat.le_of_ble_eq_true rfl) ?_
  apply sr tokTB (by kernel_rfl)
  · intro RR hRR
    refine w_boxc (HV.eq (by constructor)) (by exact trivial) ?_
    refine w_alloc kn25 rfl zr25 ?_
    refine w_assign (by constructor) ?_
    exact hRR
  apply sr tokTB (by kernel_rfl)
  · intro RR hRR
    refine w_bsl und35 kn62 (by rw [sz62]; rfl) rfl trivial trivial rfl ?_
    refine w_assign (by constructor) ?_
    exact hRR
  refine snd_seq ?_
  apply sr tokTB (by kernel_rfl)
  · intro RR hRR
    refine w_assign (by constructor) ?_
    exact hRR
  refine snd_block ?_
  refine snd_loop (S := Nat) (fun i => ([(1, .cptr (algA p (n : Int) T fo)), (2, .ptr 2 0 [] 0 (vecA (fun _ => 0))), (4, .own 904 0 (i * n) 62), (5, .int .i64 (i : Int))], [(2, .one (vecA (fun _ => 0)) (vecA (fun _ => 0))), (904, .one (ZR (i * n)) (CR (i * n) (n + 1) (unitS n T)))])) (fun i => i ≤ n) (fun i => n - i) (0) (fun k i => bif Nat.beq k 904 then (14, i) else (k, i)) ?_ ?_ ?_
  · exact ⟨⟨m_calg, ⟨rfl, rfl, rfl, rfl, rfl⟩, (by exact ⟨rfl, by omega, rfl, rfl⟩), (mi), trivial⟩, ⟨⟨rfl, (sx), (by exact mt_vec (fun _ _ => rfl))⟩, ⟨(by exact congrArg (fun n => AV.arr n (fun _ => AV.nilsl)) (Nat.zero_mul n).symm), (sx), (by exact ⟨by omega, fun _ h => absurd h (by omega)⟩)⟩, trivial⟩, ⟨⟨(fun h => by first | exact ⟨rfl, rfl⟩ | exact absurd h (by decide)), (fun h => by first | exact ⟨rfl, rfl⟩ | exact absurd h (by decide)), trivial⟩, ⟨(fun h => by first | exact ⟨rfl, rfl⟩ | exact absurd h (by decide)), (fun h => by first | exact ⟨rfl, rfl⟩ | exact absurd h (by decide)), trivial⟩, trivial⟩⟩
  · exact Nat.zero_le _
  intro i hi0
  refine sq (env2 := [(1, .cptr (algA p (n : Int) T fo)), (2, .ptr 2 0 [] 0 (vecA (fun _ => 0))), (4, .own 904 0 (i * n) 62), (5, .int .i64 (i : Int))]) (ol2 := [(2, .one (vecA (fun _ => 0)) (vecA (fun _ => 0))), (904, .one (ZR (i * n)) (CR (i * n) (n + 1) (unitS n T)))]) rfl rfl ?_
  refine snd_seq ?_
  apply sr tokTB (by kernel_rfl)
  · intro RR hRR
    refine w_move (by constructor) ?_
    refine w_fac rfl und27 rfl kn2 nz2 (by decide) rfl (by constructor) ?_
    refine w_ldc rfl kn2 (by constructor) (by exact sz2.symm) (by exact ag2.symm) ?_
    refine w_lss rfl rfl ?_
    exact hRR
  refine snd_cond _ rfl (fun hc18 => ?_) (fun hc18 => ?_)
  · try simp only [hcs] at hc18
    have hin : i < n := by omega
    have hnn : (i + 1) * n = i * n + n := by rw [Nat.add_mul]; omega
    have hle : i * n + n ≤ 6 * 6 := by rw [← hnn]; exact Nat.mul_le_mul (by omega) (by omega)
    refine snd_skip ?_
    refine snd_seq ?_
    refine snd_block ?_
    apply sr tokTB (by kernel_rfl)
    · intro RR hRR
      refine w_assign (by constructor) ?_
      exact hRR
    refine snd_block ?_
    refine snd_loop (S := Nat) (fun k => ([(1, .cptr (algA p (n : Int) T fo)), (2, .ptr 2 0 [] 0 (vecA (fun _ => 0))), (4, .own 904 0 (i * n + k) 62), (5, .int .i64 (i : Int)), (6, .int .i64 (k : Int))], [(2, .one (vecA (fun _ => 0)) (vecA (fun _ => 0))), (904, .one (ZR (i * n + k)) (CR (i * n + k) (n + 1) (unitS n T)))])) (fun k => k ≤ n) (fun k => n - k) (0) ρ0 ?_ ?_ ?_
    · exact ⟨⟨m_calg, ⟨rfl, rfl, rfl, rfl, rfl⟩, (by first | exact ⟨rfl, rfl, rfl, rfl⟩ | exact ⟨rfl, by omega, rfl, rfl⟩), (mi), (mi), trivial⟩, ⟨⟨rfl, (sx), (by exact mt_vec (fun _ _ => rfl))⟩, ⟨rfl, (sx), (by exact ⟨rfl, fun _ _ => mt_row (fun _ _ => rfl)⟩)⟩, trivial⟩, ⟨⟨(fun h => by first | exact ⟨rfl, rfl⟩ | exact absurd h (by decide)), (fun h => by first | exact ⟨rfl, rfl⟩ | exact absurd h (by decide)), trivial⟩, ⟨(fun h => by first | exact ⟨rfl, rfl⟩ | exact absurd h (by decide)), (fun h => by first | exact ⟨rfl, rfl⟩ | exact absurd h (by decide)), trivial⟩, trivial⟩⟩
    · exact Nat.zero_le _
    intro k hi2
    refine sq (env2 := [(1, .cptr (algA p (n : Int) T fo)), (2, .ptr 2 0 [] 0 (vecA (fun _ => 0))), (4, .own 904 0 (i * n + k) 62), (5, .int .i64 (i : Int)), (6, .int .i64 (k : Int))]) (ol2 := [(2, .one (vecA (fun _ => 0)) (vecA (fun _ => 0))), (904, .one (ZR (i * n + k)) (CR (i * n + k) (n + 1) (unitS n T)))]) rfl rfl ?_
    refine snd_seq ?_
    apply sr tokTB (by kernel_rfl)
    · intro RR hRR
      refine w_move (by constructor) ?_
      refine w_fac rfl und27 rfl kn2 nz2 (by decide) rfl (by constructor) ?_
      refine w_ldc rfl kn2 (by constructor) (by exact sz2.symm) (by exact ag2.symm) ?_
      refine w_lss rfl rfl ?_
      exact hRR
    refine snd_cond _ rfl (fun hc24 => ?_) (fun hc24 => ?_)
    · try simp only [hcs] at hc24
      refine snd_skip ?_
      refine snd_seq ?_
      refine snd_block ?_
      apply sr tokTB (by kernel_rfl)
      · intro RR hRR
        refine w_bsl und62 kn2 (by rw [sz2]; rfl) rfl trivial trivial rfl ?_
        refine w_assign (by constructor) ?_
        exact hRR
      refine snd_seq ?_
      apply sr tokTB (by kernel_rfl)
      · intro RR hRR
        refine w_assign (by constructor) ?_
        exact hRR
      refine snd_block ?_
      refine snd_loop (S := Nat) (fun j => ([(1, .cptr (algA p (n : Int) T fo)), (2, .ptr 2 0 [] 0 (vecA (fun _ => 0))), (4, .own 904 0 (i * n + k) 62), (5, .int .i64 (i : Int)), (6, .int .i64 (k : Int)), (7, .own 907 0 j 2), (8, .int .i64 (j : Int))], [(2, .one (vecA (fun _ => 0)) (vecA (fun _ => 0))), (904, .one (ZR (i * n + k)) (CR (i * n + k) (n + 1) (unitS n T))), (907, .one (Z64 j) (C64 j (fun b => T b i k)))])) (fun j => j ≤ n) (fun j => n - j) (0) (fun k i => bif Nat.beq k 907 then (27, i) else (k, i)) ?_ ?_ ?_
      · exact ⟨⟨m_calg, ⟨rfl, rfl, rfl, rfl, rfl⟩, (by first | exact ⟨rfl, rfl, rfl, rfl⟩ | exact ⟨rfl, by omega, rfl, rfl⟩), (mi), (mi), (by first | exact ⟨rfl, rfl, rfl, rfl⟩ | exact ⟨rfl, by omega, rfl, rfl⟩), (mi), trivial⟩, ⟨⟨rfl, (sx), (by exact mt_vec (fun _ _ => rfl))⟩, ⟨rfl, (sx), (by exact ⟨rfl, fun _ _ => mt_row (fun _ _ => rfl)⟩)⟩, ⟨rfl, (sx), (by exact mt_arr0)⟩, trivial⟩, ⟨⟨(fun h => by first | exact ⟨rfl, rfl⟩ | exact absurd h (by decide)), (fun h => by first | exact ⟨rfl, rfl⟩ | exact absurd h (by decide)), (fun h => by first | exact ⟨rfl, rfl⟩ | exact absurd h (by decide)), trivial⟩, ⟨(fun h => by first | exact ⟨rfl, rfl⟩ | exact absurd h (by decide)), (fun h => by first | exact ⟨rfl, rfl⟩ | exact absurd h (by decide)), (fun h => by first | exact ⟨rfl, rfl⟩ | exact absurd h (by decide)), trivial⟩, ⟨(fun h => by first | exact ⟨rfl, rfl⟩ | exact absurd h (by decide)), (fun h => by first | exact ⟨rfl, rfl⟩ | exact absurd h (by decide)), (fun h => by first | exact ⟨rfl, rfl⟩ | exact absurd h (by decide)), trivial⟩, trivial⟩⟩
      · exact Nat.zero_le _
      intro j hi4
      refine sq (env2 := [(1, .cptr (algA p (n : Int) T fo)), (2, .ptr 2 0 [] 0 (vecA (fun _ => 0))), (4, .own 904 0 (i * n + k) 62), (5, .int .i64 (i : Int)), (6, .int .i64 (k : Int)), (7, .own 907 0 j 2), (8, .int .i64 (j : Int))]) (ol2 := [(2, .one (vecA (fun _ => 0)) (vecA (fun _ => 0))), (904, .one (ZR (i * n + k)) (CR (i * n + k) (n + 1) (unitS n T))), (907, .one (Z64 j) (C64 j (fun b => T b i k)))]) rfl rfl ?_
      refine snd_seq ?_
      apply sr tokTB (by kernel_rfl)
      · intro RR hRR
        refine w_move (by constructor) ?_
        refine w_fac rfl und27 rfl kn2 nz2 (by decide) rfl (by constructor) ?_
        refine w_ldc rfl kn2 (by constructor) (by exact sz2.symm) (by exact ag2.symm) ?_
        refine w_lss rfl rfl ?_
        exact hRR
      refine snd_cond _ rfl (fun hc31 => ?_) (fun hc31 => ?_)
      · try simp only [hcs] at hc31
        refine snd_skip ?_
        refine snd_seq ?_
        refine snd_block ?_
        apply lr tokTB (by kernel_rfl)
        · intro RR hRR
          refine w_move (by constructor) ?_
          refine w_move (by constructor) ?_
          refine w_move (by constructor) ?_
          refine w_move (by constructor) ?_
          refine w_fac rfl und27 rfl kn24 nz24 (by decide) rfl (by constructor) ?_
          refine w_iac rfl rfl und24 kn23 (by exact sz23.symm) ?_ rfl ?_
          · exact ⟨by omega, by omega⟩
          refine w_iac rfl rfl und23 kn22 (by exact sz22.symm) ?_ rfl ?_
          · exact ⟨by omega, by omega⟩
          refine w_iac rfl rfl und22 kn5 (by exact sz5.symm) ?_ rfl ?_
          · exact ⟨by omega, by omega⟩
          first | refine w_ldc rfl kn5 (by constructor) (by exact sz5.symm) (by exact ag5.symm) ?_ | refine w_ldp rfl kn5 rfl (by constructor) (by exact sz5.symm) (by exact ag5.symm) ?_
          refine w_conv rfl und5 und2 (by exact w64t hT _ _ _) ?_
          refine w_bsl1 und62 kn2 (by rw [sz2]; rfl) rfl (by constructor) (by first | exact trivial | exact cel_cap2) (by exact sz2.symm) (by first | exact trivial | exact ssh_vec | exact ⟨rfl, fun _ => trivial⟩) ?_
          refine w_app_o und62 rfl rfl kn2 rfl rfl (fun C h => ⟨rfl, rfl, rfl, h⟩) (by rw [by2]; omega) (by omega) rfl ?_
          refine w_assign (by constructor) ?_
          exact hRR
        apply lr tokTB (by kernel_rfl)
        · intro RR hRR
          refine w_move (by constructor) ?_
          refine y_add rfl rfl ?_
          refine w_assign (by constructor) ?_
          exact hRR
        refine ⟨j + 1, (fun k i => bif Nat.beq k 907 then (45, i) else (k, i)), ?_, (by omega), (by dsimp only; omega)⟩
        exact ⟨⟨m_calg, ⟨rfl, rfl, rfl, rfl, rfl⟩, (by first | exact ⟨rfl, rfl, rfl, rfl⟩ | exact ⟨rfl, by omega, rfl, rfl⟩), (mi), (mi), (by first | exact ⟨rfl, rfl, rfl, rfl⟩ | exact ⟨rfl, by omega, rfl, rfl⟩), (mi), trivial⟩, ⟨⟨rfl, (sx), (by exact mt_vec (fun _ _ => rfl))⟩, ⟨rfl, (sx), (by exact ⟨rfl, fun _ _ => mt_row (fun _ _ => rfl)⟩)⟩, ⟨rfl, (sx), (by exact mt_app (fun _ _ => rfl) rfl)⟩, trivial⟩, ⟨⟨(fun h => by first | exact ⟨rfl, rfl⟩ | exact absurd h (by decide)), (fun h => by first | exact ⟨rfl, rfl⟩ | exact absurd h (by decide)), (fun h => by first | exact ⟨rfl, rfl⟩ | exact absurd h (by decide)), trivial⟩, ⟨(fun h => by first | exact ⟨rfl, rfl⟩ | exact absurd h (by decide)), (fun h => by first | exact ⟨rfl, rfl⟩ | exact absurd h (by decide)), (fun h => by first | exact ⟨rfl, rfl⟩ | exact absurd h (by decide)), trivial⟩, ⟨(fun h => by first | exact ⟨rfl, rfl⟩ | exact absurd h (by decide)), (fun h => by first | exact ⟨rfl, rfl⟩ | exact absurd h (by decide)), (fun h => by first | exact ⟨rfl, rfl⟩ | exact absurd h (by decide)), trivial⟩, trivial⟩⟩
      · try simp only [hcs] at hc31
        have hjo : n = j := by omega
        subst hjo
        refine snd_exit ?_
        refine snd_seq ?_
        apply sr tokTB (by kernel_rfl)
        · intro RR hRR
          refine w_move (by constructor) ?_
          refine w_move (by constructor) ?_
          refine w_eql rfl rfl ?_
          exact hRR
        refine snd_cond _ rfl (fun hc48 => ?_) (fun hc48 => ?_)
        · try simp only [hcs] at hc48
          have hik : i = k := by omega
          apply lr tokTB (by kernel_rfl)
          · intro RR hRR
            refine w_move (by constructor) ?_
            refine w_bsl1 und62 kn2 (by rw [sz2]; rfl) rfl (by constructor) (by first | exact trivial | exact cel_cap2) (by exact sz2.symm) (by first | exact trivial | exact ssh_vec | exact ⟨rfl, fun _ => trivial⟩) ?_
            refine w_app_o und62 rfl rfl kn2 rfl rfl (fun C h => ⟨rfl, rfl, rfl, h⟩) (by rw [by2]; omega) (by omega) rfl ?_
            refine w_assign (by constructor) ?_
            exact hRR
          apply lr tokTB (by kernel_rfl)
          · intro RR hRR
            refine w_move (by constructor) ?_
            refine w_move (by constructor) ?_
            refine w_bsl1 und35 kn62 (by rw [sz62]; rfl) rfl (by constructor) (by first | exact trivial | exact cel_cap2) (by exact sz62.symm) (by first | exact trivial | exact ssh_vec | exact ⟨rfl, fun _ => trivial⟩) ?_
            refine w_app_o und35 rfl rfl kn62 rfl rfl (fun C h => ⟨rfl, rfl, rfl, h⟩) (by rw [by62]; omega) (by omega) rfl ?_
            refine w_assign (by constructor) ?_
            exact hRR
          apply lr tokTB (by kernel_rfl)
          · intro RR hRR
            refine w_move (by constructor) ?_
            refine y_add rfl rfl ?_
            refine w_assign (by constructor) ?_
            exact hRR
          refine ⟨k + 1, (fun k i => bif Nat.beq k 904 then (58, i) else (k, i)), ?_, (by omega), (by dsimp only; omega)⟩
          exact ⟨⟨m_calg, ⟨rfl, rfl, rfl, rfl, rfl⟩, (by exact ⟨rfl, rfl, rfl, rfl⟩), (mi), (mi), trivial⟩, ⟨⟨rfl, (sx), (by exact mt_vec (fun _ _ => rfl))⟩, ⟨(by exact rfl), (sx), (by exact mt_app' (by omega) (fun _ _ => mt_row (fun _ _ => rfl)) (mt_fz (by exact ⟨(ne_fst rfl), (ne_fst rfl), trivial⟩) rfl (fun j hj => by rcases Nat.lt_or_ge j n with h | h; (rw [appF_lt h]; exact congrArg (AV.int .i64) (unitS_lt (by omega) h).symm); (rw [appF_ge h hj, show j - n = 0 by omega]; exact congrArg (AV.int .i64) (by rw [show j = n by omega, unitS_n (by omega)]; simp [hik])))))⟩, trivial⟩, ⟨⟨(fun h => by first | exact ⟨rfl, rfl⟩ | exact absurd h (by decide)), (fun h => by first | exact ⟨rfl, rfl⟩ | exact absurd h (by decide)), trivial⟩, ⟨(fun h => by first | exact ⟨rfl, rfl⟩ | exact absurd h (by decide)), (fun h => by first | exact ⟨rfl, rfl⟩ | exact absurd h (by decide)), trivial⟩, trivial⟩⟩
        · try simp only [hcs] at hc48
          have hik : ¬ i = k := by omega
          apply lr tokTB (by kernel_rfl)
          · intro RR hRR
            refine w_move (by constructor) ?_
            refine w_bsl1 und62 kn2 (by rw [sz2]; rfl) rfl (by constructor) (by first | exact trivial | exact cel_cap2) (by exact sz2.symm) (by first | exact trivial | exact ssh_vec | exact ⟨rfl, fun _ => trivial⟩) ?_
            refine w_app_o und62 rfl rfl kn2 rfl rfl (fun C h => ⟨rfl, rfl, rfl, h⟩) (by rw [by2]; omega) (by omega) rfl ?_
            refine w_assign (by constructor) ?_
            exact hRR
          apply lr tokTB (by kernel_rfl)
          · intro RR hRR
            refine w_move (by constructor) ?_
            refine w_move (by constructor) ?_
            refine w_bsl1 und35 kn62 (by rw [sz62]; rfl) rfl (by constructor) (by first | exact trivial | exact cel_cap2) (by exact sz62.symm) (by first | exact trivial | exact ssh_vec | exact ⟨rfl, fun _ => trivial⟩) ?_
            refine w_app_o und35 rfl rfl kn62 rfl rfl (fun C h => ⟨rfl, rfl, rfl, h⟩) (by rw [by62]; omega) (by omega) rfl ?_
            refine w_assign (by constructor) ?_
            exact hRR
          apply lr tokTB (by kernel_rfl)
          · intro RR hRR
            refine w_move (by constructor) ?_
            refine y_add rfl rfl ?_
            refine w_assign (by constructor) ?_
            exact hRR
          refine ⟨k + 1, (fun k i => bif Nat.beq k 904 then (58, i) else (k, i)), ?_, (by omega), (by dsimp only; omega)⟩
          exact ⟨⟨m_calg, ⟨rfl, rfl, rfl, rfl, rfl⟩, (by exact ⟨rfl, rfl, rfl, rfl⟩), (mi), (mi), trivial⟩, ⟨⟨rfl, (sx), (by exact mt_vec (fun _ _ => rfl))⟩, ⟨(by exact rfl), (sx), (by exact mt_app' (by omega) (fun _ _ => mt_row (fun _ _ => rfl)) (mt_fz (by exact ⟨(ne_fst rfl), (ne_fst rfl), trivial⟩) rfl (fun j hj => by rcases Nat.lt_or_ge j n with h | h; (rw [appF_lt h]; exact congrArg (AV.int .i64) (unitS_lt (by omega) h).symm); (rw [appF_ge h hj, show j - n = 0 by omega]; exact congrArg (AV.int .i64) (by rw [show j = n by omega, unitS_n (by omega)]; simp [hik])))))⟩, trivial⟩, ⟨⟨(fun h => by first | exact ⟨rfl, rfl⟩ | exact absurd h (by decide)), (fun h => by first | exact ⟨rfl, rfl⟩ | exact absurd h (by decide)), trivial⟩, ⟨(fun h => by first | exact ⟨rfl, rfl⟩ | exact absurd h (by decide)), (fun h => by first | exact ⟨rfl, rfl⟩ | exact absurd h (by decide)), trivial⟩, trivial⟩⟩
    · try simp only [hcs] at hc24
      have hko : n = k := by omega
      subst hko
      refine snd_exit ?_
      apply lr tokTB (by kernel_rfl)
      · intro RR hRR
        refine w_move (by constructor) ?_
        refine y_add rfl rfl ?_
        refine w_assign (by constructor) ?_
        exact hRR
      refine ⟨i + 1, ρ0, ?_, (by omega), (by dsimp only; omega)⟩
      exact ⟨⟨m_calg, ⟨rfl, rfl, rfl, rfl, rfl⟩, (by exact ⟨rfl, hnn.symm, rfl, rfl⟩), (mi), trivial⟩, ⟨⟨rfl, (sx), (by exact mt_vec (fun _ _ => rfl))⟩, ⟨(by exact congrArg (fun n => AV.arr n (fun _ => AV.nilsl)) hnn.symm), (sx), (by exact ⟨hnn.symm, fun _ _ => mt_row (fun _ _ => rfl)⟩)⟩, trivial⟩, ⟨⟨(fun h => by first | exact ⟨rfl, rfl⟩ | exact absurd h (by decide)), (fun h => by first | exact ⟨rfl, rfl⟩ | exact absurd h (by decide)), trivial⟩, ⟨(fun h => by first | exact ⟨rfl, rfl⟩ | exact absurd h (by decide)), (fun h => by first | exact ⟨rfl, rfl⟩ | exact absurd h (by decide)), trivial⟩, trivial⟩⟩
  · try simp only [hcs] at hc18
    have hio : n = i := by omega
    subst hio
    refine snd_exit ?_
    have hle : n * n ≤ 6 * 6 := Nat.mul_le_mul (by omega) (by omega)
    apply sr tokTB (by kernel_rfl)
    · intro RR hRR
      refine w_fac rfl und27 rfl kn2 nz2 (by decide) rfl (by constructor) ?_
      refine w_ldc rfl kn2 (by constructor) (by exact sz2.symm) (by exact ag2.symm) ?_
      refine w_move (by constructor) ?_
      refine y_call rfl (ec (ec exn)) (c_l01Solve_no (N := n * n) (n := n) (S := unitS n T) hp (by omega) (by omega) (by omega) (fun r => unitS_Bp (by omega) hTp r) hone) ?_
      refine w_move (by constructor) ?_
      refine w_ext rfl (by decide) (by constructor) ?_
      refine w_ext rfl (by decide) (by constructor) ?_
      refine w_assign (by constructor) ?_
      refine w_assign (by constructor) ?_
      exact hRR
    refine snd_seq ?_
    apply sr tokTB (by kernel_rfl)
    · intro RR hRR
      refine w_move (by constructor) ?_
      refine w_not rfl ?_
      exact hRR
    refine snd_cond_true rfl ?_
    apply sr tokTB (by kernel_rfl)
    · intro RR hRR
      refine w_bld_a kn25 zr25 und25 kn5 (fun _ => (by exact sz5.symm)) trivial rfl (by exact sz5.symm) ?_
      refine w_stw rfl (by constructor) kn25 rfl (by exact trivial) (sx) (by exact sz25.symm) ?_
      refine w_assign (by constructor) ?_
      exact hRR
    refine snd_ret ?_
    show retQ TB _ _ _ _ _ _
    exact rt_ct (T := TB) rfl kn25 rfl (by exact sz25.symm) (by exact ag25.symm) (fun V => mt_vec (fun z _ => by rw [findV, if_neg (fun h => hone h.1)])) (fun V => congrArg AV.bool (by rw [decide_eq_false (fun h => hone h.1)]))
theorem c_l01Find_ok {p : Int} {n : Nat} {T : Nat → Nat → Nat → Int} {fo : Nat → Int} (hp : primeB p = true) (hn0 : 0 < n) (hn : n ≤ 6) (hTp : BpT p T) (hone : oneP n (echGo p (n + 1) (unitS n T) (n * n)).no (echGo p (n + 1) (unitS n T) (n * n)).O) : ACalls Try.prog TB 83 [algA p (n : Int) T fo] (.tup 2 (pairA (vecA (findV p n T)) (.bool (decide (okS p n T))))) [] := by
  have hpb := primeB_bd hp
  have hT := B8T_of (by omega) hTp
  have hnn0 : 0 < n * n := Nat.mul_pos hn0 hn0
  obtain ⟨⟨l, hrr⟩, _⟩ := ech_ok (m := n + 1) (R := unitS n T) hp (n * n) (fun r _ => unitS_Bp (by omega) hTp r)
  have hOB : B8 (cutF (fun a => (echGo p (n + 1) (unitS n T) (n * n)).O a n) n) := fun a => by unfold cutF; dsimp only; split; (have := hrr.bp a (by have := hone.1; omega) n; omega); omega
  refine acalls_of tokTB Try.func83 rfl rfl (Nat.le_of_ble_eq_true rfl) ?_
  apply sr tokTB (by kernel_rfl)
  · intro RR hRR
    refine w_boxc (HV.eq (by constructor)) (by exact trivial) ?_
    refine w_alloc kn25 rfl zr25 ?_
    refine w_assign (by constructor) ?_
    exact hRR
  apply sr tokTB (by kernel_rfl)
  · intro RR hRR
    refine w_bsl und35 kn62 (by rw [sz62]; rfl) rfl trivial trivial rfl ?_
    refine w_assign (by constructor) ?_
    exact hRR
  refine snd_seq ?_
  apply sr tokTB (by kernel_rfl)
  · intro RR hRR
    refine w_assign (by constructor) ?_
    exact hRR
  refine snd_block ?_
  refine snd_loop (S := Nat) (fun i => ([(1, .cptr (algA p (n : Int) T fo)), (2, .ptr 2 0 [] 0 (vecA (fun _ => 0))), (4, .own 904 0 (i * n) 62), (5, .int .i64 (i : Int))], [(2, .one (vecA (fun _ => 0)) (vecA (fun _ => 0))), (904, .one (ZR (i * n)) (CR (i * n) (n + 1) (unitS n T)))])) (fun i => i ≤ n) (fun i => n - i) (0) (fun k i => bif Nat.beq k 904 then (14, i) else (k, i)) ?_ ?_ ?_
  · exact ⟨⟨m_calg, ⟨rfl, rfl, rfl, rfl, rfl⟩, (by exact ⟨rfl, by omega, rfl, rfl⟩), (mi), trivial⟩, ⟨⟨rfl, (sx), (by exact mt_vec (fun _ _ => rfl))⟩, ⟨(by exact congrArg (fun n => AV.arr n (fun _ => AV.nilsl)) (Nat.zero_mul n).symm), (sx), (by exact ⟨by omega, fun _ h => absurd h (by omega)⟩)⟩, trivial⟩, ⟨⟨(fun h => by first | exact ⟨rfl, rfl⟩ | exact absurd h (by decide)), (fun h => by first | exact ⟨rfl, rfl⟩ | exact absurd h (by decide)), trivial⟩, ⟨(fun h => by first | exact ⟨rfl, rfl⟩ | exact absurd h (by decide)), (fun h => by first | exact ⟨rfl, rfl⟩ | exact absurd h (by decide)), trivial⟩, trivial⟩⟩
  · exact Nat.zero_le _
  intro i hi0
  refine sq (env2 := [(1, .cptr (algA p (n : Int) T fo)), (2, .ptr 2 0 [] 0 (vecA (fun _ => 0))), (4, .own 904 0 (i * n) 62), (5, .int .i64 (i : Int))]) (ol2 := [(2, .one (vecA (fun _ => 0)) (vecA (fun _ => 0))), (904, .one (ZR (i * n)) (CR (i * n) (n + 1) (unitS n T)))]) rfl rfl ?_
  refine snd_seq ?_
  apply sr tokTB (by kernel_rfl)
  · intro RR hRR
    refine w_move (by constructor) ?_
    refine w_fac rfl und27 rfl kn2 nz2 (by decide) rfl (by constructor) ?_
    refine w_ldc rfl kn2 (by constructor) (by exact sz2.symm) (by exact ag2.symm) ?_
    refine w_lss rfl rfl ?_
    exact hRR
  refine snd_cond _ rfl (fun hc18 => ?_) (fun hc18 => ?_)
  · try simp only [hcs] at hc18
    have hin : i < n := by omega
    have hnn : (i + 1) * n = i * n + n := by rw [Nat.add_mul]; omega
    have hle : i * n + n ≤ 6 * 6 := by rw [← hnn]; exact Nat.mul_le_mul (by omega) (by omega)
    refine snd_skip ?_
    refine snd_seq ?_
    refine snd_block ?_
    apply sr tokTB (by kernel_rfl)
    · intro RR hRR
      refine w_assign (by constructor) ?_
      exact hRR
    refine snd_block ?_
    refine snd_loop (S := Nat) (fun k => ([(1, .cptr (algA p (n : Int) T fo)), (2, .ptr 2 0 [] 0 (vecA (fun _ => 0))), (4, .own 904 0 (i * n + k) 62), (5, .int .i64 (i : Int)), (6, .int .i64 (k : Int))], [(2, .one (vecA (fun _ => 0)) (vecA (fun _ => 0))), (904, .one (ZR (i * n + k)) (CR (i * n + k) (n + 1) (unitS n T)))])) (fun k => k ≤ n) (fun k => n - k) (0) ρ0 ?_ ?_ ?_
    · exact ⟨⟨m_calg, ⟨rfl, rfl, rfl, rfl, rfl⟩, (by first | exact ⟨rfl, rfl, rfl, rfl⟩ | exact ⟨rfl, by omega, rfl, rfl⟩), (mi), (mi), trivial⟩, ⟨⟨rfl, (sx), (by exact mt_vec (fun _ _ => rfl))⟩, ⟨rfl, (sx), (by exact ⟨rfl, fun _ _ => mt_row (fun _ _ => rfl)⟩)⟩, trivial⟩, ⟨⟨(fun h => by first | exact ⟨rfl, rfl⟩ | exact absurd h (by decide)), (fun h => by first | exact ⟨rfl, rfl⟩ | exact absurd h (by decide)), trivial⟩, ⟨(fun h => by first | exact ⟨rfl, rfl⟩ | exact absurd h (by decide)), (fun h => by first | exact ⟨rfl, rfl⟩ | exact absurd h (by decide)), trivial⟩, trivial⟩⟩
    · exact Nat.zero_le _
    intro k hi2
    refine sq (env2 := [(1, .cptr (algA p (n : Int) T fo)), (2, .ptr 2 0 [] 0 (vecA (fun _ => 0))), (4, .own 904 0 (i * n + k) 62), (5, .int .i64 (i : Int)), (6, .int .i64 (k : Int))]) (ol2 := [(2, .one (vecA (fun _ => 0)) (vecA (fun _ => 0))), (904, .one (ZR (i * n + k)) (CR (i * n + k) (n + 1) (unitS n T)))]) rfl rfl ?_
    refine snd_seq ?_
    apply sr tokTB (by kernel_rfl)
    · intro RR hRR
      refine w_move (by constructor) ?_
      refine w_fac rfl und27 rfl kn2 nz2 (by decide) rfl (by constructor) ?_
      refine w_ldc rfl kn2 (by constructor) (by exact sz2.symm) (by exact ag2.symm) ?_
      refine w_lss rfl rfl ?_
      exact hRR
    refine snd_cond _ rfl (fun hc24 => ?_) (fun hc24 => ?_)
    · try simp only [hcs] at hc24
      refine snd_skip ?_
      refine snd_seq ?_
      refine snd_block ?_
      apply sr tokTB (by kernel_rfl)
      · intro RR hRR
        refine w_bsl und62 kn2 (by rw [sz2]; rfl) rfl trivial trivial rfl ?_
        refine w_assign (by constructor) ?_
        exact hRR
      refine snd_seq ?_
      apply sr tokTB (by kernel_rfl)
      · intro RR hRR
        refine w_assign (by constructor) ?_
        exact hRR
      refine snd_block ?_
      refine snd_loop (S := Nat) (fun j => ([(1, .cptr (algA p (n : Int) T fo)), (2, .ptr 2 0 [] 0 (vecA (fun _ => 0))), (4, .own 904 0 (i * n + k) 62), (5, .int .i64 (i : Int)), (6, .int .i64 (k : Int)), (7, .own 907 0 j 2), (8, .int .i64 (j : Int))], [(2, .one (vecA (fun _ => 0)) (vecA (fun _ => 0))), (904, .one (ZR (i * n + k)) (CR (i * n + k) (n + 1) (unitS n T))), (907, .one (Z64 j) (C64 j (fun b => T b i k)))])) (fun j => j ≤ n) (fun j => n - j) (0) (fun k i => bif Nat.beq k 907 then (27, i) else (k, i)) ?_ ?_ ?_
      · exact ⟨⟨m_calg, ⟨rfl, rfl, rfl, rfl, rfl⟩, (by first | exact ⟨rfl, rfl, rfl, rfl⟩ | exact ⟨rfl, by omega, rfl, rfl⟩), (mi), (mi), (by first | exact ⟨rfl, rfl, rfl, rfl⟩ | exact ⟨rfl, by omega, rfl, rfl⟩), (mi), trivial⟩, ⟨⟨rfl, (sx), (by exact mt_vec (fun _ _ => rfl))⟩, ⟨rfl, (sx), (by exact ⟨rfl, fun _ _ => mt_row (fun _ _ => rfl)⟩)⟩, ⟨rfl, (sx), (by exact mt_arr0)⟩, trivial⟩, ⟨⟨(fun h => by first | exact ⟨rfl, rfl⟩ | exact absurd h (by decide)), (fun h => by first | exact ⟨rfl, rfl⟩ | exact absurd h (by decide)), (fun h => by first | exact ⟨rfl, rfl⟩ | exact absurd h (by decide)), trivial⟩, ⟨(fun h => by first | exact ⟨rfl, rfl⟩ | exact absurd h (by decide)), (fun h => by first | exact ⟨rfl, rfl⟩ | exact absurd h (by decide)), (fun h => by first | exact ⟨rfl, rfl⟩ | exact absurd h (by decide)), trivial⟩, ⟨(fun h => by first | exact ⟨rfl, rfl⟩ | exact absurd h (by decide)), (fun h => by first | exact ⟨rfl, rfl⟩ | exact absurd h (by decide)), (fun h => by first | exact ⟨rfl, rfl⟩ | exact absurd h (by decide)), trivial⟩, trivial⟩⟩
      · exact Nat.zero_le _
      intro j hi4
      refine sq (env2 := [(1, .cptr (algA p (n : Int) T fo)), (2, .ptr 2 0 [] 0 (vecA (fun _ => 0))), (4, .own 904 0 (i * n + k) 62), (5, .int .i64 (i : Int)), (6, .int .i64 (k : Int)), (7, .own 907 0 j 2), (8, .int .i64 (j : Int))]) (ol2 := [(2, .one (vecA (fun _ => 0)) (vecA (fun _ => 0))), (904, .one (ZR (i * n + k)) (CR (i * n + k) (n + 1) (unitS n T))), (907, .one (Z64 j) (C64 j (fun b => T b i k)))]) rfl rfl ?_
      refine snd_seq ?_
      apply sr tokTB (by kernel_rfl)
      · intro RR hRR
        refine w_move (by constructor) ?_
        refine w_fac rfl und27 rfl kn2 nz2 (by decide) rfl (by constructor) ?_
        refine w_ldc rfl kn2 (by constructor) (by exact sz2.symm) (by exact ag2.symm) ?_
        refine w_lss rfl rfl ?_
        exact hRR
      refine snd_cond _ rfl (fun hc31 => ?_) (fun hc31 => ?_)
      · try simp only [hcs] at hc31
        refine snd_skip ?_
        refine snd_seq ?_
        refine snd_block ?_
        apply lr tokTB (by kernel_rfl)
        · intro RR hRR
          refine w_move (by constructor) ?_
          refine w_move (by constructor) ?_
          refine w_move (by constructor) ?_
          refine w_move (by constructor) ?_
          refine w_fac rfl und27 rfl kn24 nz24 (by decide) rfl (by constructor) ?_
          refine w_iac rfl rfl und24 kn23 (by exact sz23.symm) ?_ rfl ?_
          · exact ⟨by omega, by omega⟩
          refine w_iac rfl rfl und23 kn22 (by exact sz22.symm) ?_ rfl ?_
          · exact ⟨by omega, by omega⟩
          refine w_iac rfl rfl und22 kn5 (by exact sz5.symm) ?_ rfl ?_
          · exact ⟨by omega, by omega⟩
          first | refine w_ldc rfl kn5 (by constructor) (by exact sz5.symm) (by exact ag5.symm) ?_ | refine w_ldp rfl kn5 rfl (by constructor) (by exact sz5.symm) (by exact ag5.symm) ?_
          refine w_conv rfl und5 und2 (by exact w64t hT _ _ _) ?_
          refine w_bsl1 und62 kn2 (by rw [sz2]; rfl) rfl (by constructor) (by first | exact trivial | exact cel_cap2) (by exact sz2.symm) (by first | exact trivial | exact ssh_vec | exact ⟨rfl, fun _ => trivial⟩) ?_
          refine w_app_o und62 rfl rfl kn2 rfl rfl (fun C h => ⟨rfl, rfl, rfl, h⟩) (by rw [by2]; omega) (by omega) rfl ?_
          refine w_assign (by constructor) ?_
          exact hRR
        apply lr tokTB (by kernel_rfl)
        · intro RR hRR
          refine w_move (by constructor) ?_
          refine y_add rfl rfl ?_
          refine w_assign (by constructor) ?_
          exact hRR
        refine ⟨j + 1, (fun k i => bif Nat.beq k 907 then (45, i) else (k, i)), ?_, (by omega), (by dsimp only; omega)⟩
        exact ⟨⟨m_calg, ⟨rfl, rfl, rfl, rfl, rfl⟩, (by first | exact ⟨rfl, rfl, rfl, rfl⟩ | exact ⟨rfl, by omega, rfl, rfl⟩), (mi), (mi), (by first | exact ⟨rfl, rfl, rfl, rfl⟩ | exact ⟨rfl, by omega, rfl, rfl⟩), (mi), trivial⟩, ⟨⟨rfl, (sx), (by exact mt_vec (fun _ _ => rfl))⟩, ⟨rfl, (sx), (by exact ⟨rfl, fun _ _ => mt_row (fun _ _ => rfl)⟩)⟩, ⟨rfl, (sx), (by exact mt_app (fun _ _ => rfl) rfl)⟩, trivial⟩, ⟨⟨(fun h => by first | exact ⟨rfl, rfl⟩ | exact absurd h (by decide)), (fun h => by first | exact ⟨rfl, rfl⟩ | exact absurd h (by decide)), (fun h => by first | exact ⟨rfl, rfl⟩ | exact absurd h (by decide)), trivial⟩, ⟨(fun h => by first | exact ⟨rfl, rfl⟩ | exact absurd h (by decide)), (fun h => by first | exact ⟨rfl, rfl⟩ | exact absurd h (by decide)), (fun h => by first | exact ⟨rfl, rfl⟩ | exact absurd h (by decide)), trivial⟩, ⟨(fun h => by first | exact ⟨rfl, rfl⟩ | exact absurd h (by decide)), (fun h => by first | exact ⟨rfl, rfl⟩ | exact absurd h (by decide)), (fun h => by first | exact ⟨rfl, rfl⟩ | exact absurd h (by decide)), trivial⟩, trivial⟩⟩
      · try simp only [hcs] at hc31
        have hjo : n = j := by omega
        subst hjo
        refine snd_exit ?_
        refine snd_seq ?_
        apply sr tokTB (by kernel_rfl)
        · intro RR hRR
          refine w_move (by constructor) ?_
          refine w_move (by constructor) ?_
          refine w_eql rfl rfl ?_
          exact hRR
        refine snd_cond _ rfl (fun hc48 => ?_) (fun hc48 => ?_)
        · try simp only [hcs] at hc48
          have hik : i = k := by omega
          apply lr tokTB (by kernel_rfl)
          · intro RR hRR
            refine w_move (by constructor) ?_
            refine w_bsl1 und62 kn2 (by rw [sz2]; rfl) rfl (by constructor) (by first | exact trivial | exact cel_cap2) (by exact sz2.symm) (by first | exact trivial | exact ssh_vec | exact ⟨rfl, fun _ => trivial⟩) ?_
            refine w_app_o und62 rfl rfl kn2 rfl rfl (fun C h => ⟨rfl, rfl, rfl, h⟩) (by rw [by2]; omega) (by omega) rfl ?_
            refine w_assign (by constructor) ?_
            exact hRR
          apply lr tokTB (by kernel_rfl)
          · intro RR hRR
            refine w_move (by constructor) ?_
            refine w_move (by constructor) ?_
            refine w_bsl1 und35 kn62 (by rw [sz62]; rfl) rfl (by constructor) (by first | exact trivial | exact cel_cap2) (by exact sz62.symm) (by first | exact trivial | exact ssh_vec | exact ⟨rfl, fun _ => trivial⟩) ?_
            refine w_app_o und35 rfl rfl kn62 rfl rfl (fun C h => ⟨rfl, rfl, rfl, h⟩) (by rw [by62]; omega) (by omega) rfl ?_
            refine w_assign (by constructor) ?_
            exact hRR
          apply lr tokTB (by kernel_rfl)
          · intro RR hRR
            refine w_move (by constructor) ?_
            refine y_add rfl rfl ?_
            refine w_assign (by constructor) ?_
            exact hRR
          refine ⟨k + 1, (fun k i => bif Nat.beq k 904 then (58, i) else (k, i)), ?_, (by omega), (by dsimp only; omega)⟩
          exact ⟨⟨m_calg, ⟨rfl, rfl, rfl, rfl, rfl⟩, (by exact ⟨rfl, rfl, rfl, rfl⟩), (mi), (mi), trivial⟩, ⟨⟨rfl, (sx), (by exact mt_vec (fun _ _ => rfl))⟩, ⟨(by exact rfl), (sx), (by exact mt_app' (by omega) (fun _ _ => mt_row (fun _ _ => rfl)) (mt_fz (by exact ⟨(ne_fst rfl), (ne_fst rfl), trivial⟩) rfl (fun j hj => by rcases Nat.lt_or_ge j n with h | h; (rw [appF_lt h]; exact congrArg (AV.int .i64) (unitS_lt (by omega) h).symm); (rw [appF_ge h hj, show j - n = 0 by omega]; exact congrArg (AV.int .i64) (by rw [show j = n by omega, unitS_n (by omega)]; simp [hik])))))⟩, trivial⟩, ⟨⟨(fun h => by first | exact ⟨rfl, rfl⟩ | exact absurd h (by decide)), (fun h => by first | exact ⟨rfl, rfl⟩ | exact absurd h (by decide)), trivial⟩, ⟨(fun h => by first | exact ⟨rfl, rfl⟩ | exact absurd h (by decide)), (fun h => by first | exact ⟨rfl, rfl⟩ | exact absurd h (by decide)), trivial⟩, trivial⟩⟩
        · try simp only [hcs] at hc48
          have hik : ¬ i = k := by omega
          apply lr tokTB (by kernel_rfl)
          · intro RR hRR
            refine w_move (by constructor) ?_
            refine w_bsl1 und62 kn2 (by rw [sz2]; rfl) rfl (by constructor) (by first | exact trivial | exact cel_cap2) (by exact sz2.symm) (by first | exact trivial | exact ssh_vec | exact ⟨rfl, fun _ => trivial⟩) ?_
            refine w_app_o und62 rfl rfl kn2 rfl rfl (fun C h => ⟨rfl, rfl, rfl, h⟩) (by rw [by2]; omega) (by omega) rfl ?_
            refine w_assign (by constructor) ?_
            exact hRR
          apply lr tokTB (by kernel_rfl)
          · intro RR hRR
            refine w_move (by constructor) ?_
            refine w_move (by constructor) ?_
            refine w_bsl1 und35 kn62 (by rw [sz62]; rfl) rfl (by constructor) (by first | exact trivial | exact cel_cap2) (by exact sz62.symm) (by first | exact trivial | exact ssh_vec | exact ⟨rfl, fun _ => trivial⟩) ?_
            refine w_app_o und35 rfl rfl kn62 rfl rfl (fun C h => ⟨rfl, rfl, rfl, h⟩) (by rw [by62]; omega) (by omega) rfl ?_
            refine w_assign (by constructor) ?_
            exact hRR
          apply lr tokTB (by kernel_rfl)
          · intro RR hRR
            refine w_move (by constructor) ?_
            refine y_add rfl rfl ?_
            refine w_assign (by constructor) ?_
            exact hRR
          refine ⟨k + 1, (fun k i => bif Nat.beq k 904 then (58, i) else (k, i)), ?_, (by omega), (by dsimp only; omega)⟩
          exact ⟨⟨m_calg, ⟨rfl, rfl, rfl, rfl, rfl⟩, (by exact ⟨rfl, rfl, rfl, rfl⟩), (mi), (mi), trivial⟩, ⟨⟨rfl, (sx), (by exact mt_vec (fun _ _ => rfl))⟩, ⟨(by exact rfl), (sx), (by exact mt_app' (by omega) (fun _ _ => mt_row (fun _ _ => rfl)) (mt_fz (by exact ⟨(ne_fst rfl), (ne_fst rfl), trivial⟩) rfl (fun j hj => by rcases Nat.lt_or_ge j n with h | h; (rw [appF_lt h]; exact congrArg (AV.int .i64) (unitS_lt (by omega) h).symm); (rw [appF_ge h hj, show j - n = 0 by omega]; exact congrArg (AV.int .i64) (by rw [show j = n by omega, unitS_n (by omega)]; simp [hik])))))⟩, trivial⟩, ⟨⟨(fun h => by first | exact ⟨rfl, rfl⟩ | exact absurd h (by decide)), (fun h => by first | exact ⟨rfl, rfl⟩ | exact absurd h (by decide)), trivial⟩, ⟨(fun h => by first | exact ⟨rfl, rfl⟩ | exact absurd h (by decide)), (fun h => by first | exact ⟨rfl, rfl⟩ | exact absurd h (by decide)), trivial⟩, trivial⟩⟩
    · try simp only [hcs] at hc24
      have hko : n = k := by omega
      subst hko
      refine snd_exit ?_
      apply lr tokTB (by kernel_rfl)
      · intro RR hRR
        refine w_move (by constructor) ?_
        refine y_add rfl rfl ?_
        refine w_assign (by constructor) ?_
        exact hRR
      refine ⟨i + 1, ρ0, ?_, (by omega), (by dsimp only; omega)⟩
      exact ⟨⟨m_calg, ⟨rfl, rfl, rfl, rfl, rfl⟩, (by exact ⟨rfl, hnn.symm, rfl, rfl⟩), (mi), trivial⟩, ⟨⟨rfl, (sx), (by exact mt_vec (fun _ _ => rfl))⟩, ⟨(by exact congrArg (fun n => AV.arr n (fun _ => AV.nilsl)) hnn.symm), (sx), (by exact ⟨hnn.symm, fun _ _ => mt_row (fun _ _ => rfl)⟩)⟩, trivial⟩, ⟨⟨(fun h => by first | exact ⟨rfl, rfl⟩ | exact absurd h (by decide)), (fun h => by first | exact ⟨rfl, rfl⟩ | exact absurd h (by decide)), trivial⟩, ⟨(fun h => by first | exact ⟨rfl, rfl⟩ | exact absurd h (by decide)), (fun h => by first | exact ⟨rfl, rfl⟩ | exact absurd h (by decide)), trivial⟩, trivial⟩⟩
  · try simp only [hcs] at hc18
    have hio : n = i := by omega
    subst hio
    refine snd_exit ?_
    have hle : n * n ≤ 6 * 6 := Nat.mul_le_mul (by omega) (by omega)
    apply sr tokTB (by kernel_rfl)
    · intro RR hRR
      refine w_fac rfl und27 rfl kn2 nz2 (by decide) rfl (by constructor) ?_
      refine w_ldc rfl kn2 (by constructor) (by exact sz2.symm) (by exact ag2.symm) ?_
      refine w_move (by constructor) ?_
      refine w_call rfl (ec (ec exn)) (c_l01Solve_ok (N := n * n) (n := n) (S := unitS n T) hp (by omega) (by omega) (by omega) (fun r => unitS_Bp (by omega) hTp r) hone) (.inl ⟨nr_pair trivial trivial, ⟨fun _ => trivial, trivial⟩⟩) rfl (by constructor) rfl ?_
      refine w_move (by constructor) ?_
      refine w_ext rfl (by decide) (by constructor) ?_
      refine w_ext rfl (by decide) (by constructor) ?_
      refine w_assign (by constructor) ?_
      refine w_assign (by constructor) ?_
      exact hRR
    refine snd_seq ?_
    apply sr tokTB (by kernel_rfl)
    · intro RR hRR
      refine w_move (by constructor) ?_
      refine w_not rfl ?_
      exact hRR
    refine snd_cond_false rfl ?_
    refine snd_skip ?_
    apply sr tokTB (by kernel_rfl)
    · intro RR hRR
      refine w_bld_a kn25 zr25 und25 kn5 (fun _ => (by exact sz5.symm)) trivial rfl (by exact sz5.symm) ?_
      refine w_alloc kn25 rfl zr25 ?_
      refine w_stw rfl (by constructor) kn25 rfl (by exact trivial) (sx) (by exact sz25.symm) ?_
      exact hRR
    refine snd_seq ?_
    apply sr tokTB (by kernel_rfl)
    · intro RR hRR
      refine w_assign (by constructor) ?_
      exact hRR
    refine snd_block ?_
    refine snd_loop (S := Nat) (fun i => ([(1, .cptr (algA p (n : Int) T fo)), (2, .ptr 2 0 [] 0 (vecA (fun _ => 0))), (9, .own 909 0 n 2), (11, .ptr 11 0 [] 0 (vecA (fun _ => 0))), (12, .int .i64 (i : Int))], [(2, .one (vecA (fun _ => 0)) (vecA (fun _ => 0))), (909, .one (Z64 n) (C64 n (fun a => (echGo p (n + 1) (unitS n T) (n * n)).O a n))), (11, .one (vecA (fun _ => 0)) (vecA (cutF (fun a => (echGo p (n + 1) (unitS n T) (n * n)).O a n) i)))])) (fun i => i ≤ n) (fun i => n - i) (0) (fun k i => bif Nat.beq k 909 then (64000, i) else (k, i)) ?_ ?_ ?_
    · exact ⟨⟨m_calg, ⟨rfl, rfl, rfl, rfl, rfl⟩, (by first | exact ⟨rfl, rfl, rfl, rfl⟩ | exact ⟨rfl, by omega, rfl, rfl⟩), ⟨rfl, rfl, rfl, rfl, rfl⟩, (mi), trivial⟩, ⟨⟨rfl, (sx), (by exact mt_vec (fun _ _ => rfl))⟩, ⟨rfl, (sx), (by exact mt_vec (fun _ _ => rfl))⟩, ⟨rfl, (sx), (by exact mt_vec (fun _ _ => rfl))⟩, trivial⟩, ⟨⟨(fun h => by first | exact ⟨rfl, rfl⟩ | exact absurd h (by decide)), (fun h => by first | exact ⟨rfl, rfl⟩ | exact absurd h (by decide)), (fun h => by first | exact ⟨rfl, rfl⟩ | exact absurd h (by decide)), trivial⟩, ⟨(fun h => by first | exact ⟨rfl, rfl⟩ | exact absurd h (by decide)), (fun h => by first | exact ⟨rfl, rfl⟩ | exact absurd h (by decide)), (fun h => by first | exact ⟨rfl, rfl⟩ | exact absurd h (by decide)), trivial⟩, ⟨(fun h => by first | exact ⟨rfl, rfl⟩ | exact absurd h (by decide)), (fun h => by first | exact ⟨rfl, rfl⟩ | exact absurd h (by decide)), (fun h => by first | exact ⟨rfl, rfl⟩ | exact absurd h (by decide)), trivial⟩, trivial⟩⟩
    · exact Nat.zero_le _
    intro i hi6
    refine sq (env2 := [(1, .cptr (algA p (n : Int) T fo)), (2, .ptr 2 0 [] 0 (vecA (fun _ => 0))), (9, .own 909 0 n 2), (11, .ptr 11 0 [] 0 (vecA (fun _ => 0))), (12, .int .i64 (i : Int))]) (ol2 := [(2, .one (vecA (fun _ => 0)) (vecA (fun _ => 0))), (909, .one (Z64 n) (C64 n (fun a => (echGo p (n + 1) (unitS n T) (n * n)).O a n))), (11, .one (vecA (fun _ => 0)) (vecA (cutF (fun a => (echGo p (n + 1) (unitS n T) (n * n)).O a n) i)))]) rfl rfl ?_
    refine snd_seq ?_
    apply sr tokTB (by kernel_rfl)
    · intro RR hRR
      refine w_move (by constructor) ?_
      refine w_move (by constructor) ?_
      refine w_len_o rfl rfl und62 ?_
      refine w_lss rfl rfl ?_
      exact hRR
    refine snd_cond _ rfl (fun hc73 => ?_) (fun hc73 => ?_)
    · try simp only [hcs] at hc73
      refine snd_skip ?_
      refine snd_seq ?_
      refine snd_block ?_
      apply lr tokTB (by kernel_rfl)
      · intro RR hRR
        refine w_move (by constructor) ?_
        refine w_move (by constructor) ?_
        refine w_move (by constructor) ?_
        refine w_iao rfl rfl und62 kn2 ?_ ?_
        · exact ⟨by omega, by omega⟩
        first | refine w_ldc rfl kn2 (by constructor) (by exact sz2.symm) (by exact ag2.symm) ?_ | refine w_ldp rfl kn2 rfl (by constructor) (by exact sz2.symm) (by exact ag2.symm) ?_
        refine w_conv rfl und2 und5 (by exact w8 (by exact (hrr.bp i (by have := hone.1; omega) n).1) (by have := (hrr.bp i (by have := hone.1; omega) n).2; exact Int.lt_of_lt_of_le this (by omega))) ?_
        refine w_iap rfl rfl und25 kn5 rfl (by exact sz5.symm) rfl ?_ ?_
        · exact ⟨by omega, by omega⟩
        first | refine w_stw rfl (by constructor) kn5 rfl (by exact trivial) (sx) (by exact sz5.symm) ?_ | refine w_sti rfl rfl kn5 rfl (by exact trivial) (by exact sz5.symm) ?_ | refine w_store rfl (HV.eq (by constructor)) kn5 rfl (by exact trivial) (sx) (by exact sz5.symm) (put_in (by first | exact put_mat | exact put_tab | exact put_alg0 | exact put_pr0 | exact put_pr1 | exact put_pr2 | exact put_tn4 | exact put_grp0 | exact put_grp1 | exact put_alg1 | exact put_alg2 | exact put_alg3 | exact put_alg3i | exact put_alg2ij | exact put_alg2ijk | exact put_mat2 | exact put_tab2 | exact put_tab3)) ?_ | refine w_store rfl (HV.eq (by constructor)) kn5 rfl (by exact trivial) (by exact trivial) (by exact sz5.symm) rfl ?_
        exact hRR
      apply lr tokTB (by kernel_rfl)
      · intro RR hRR
        refine w_move (by constructor) ?_
        refine y_add rfl rfl ?_
        refine w_assign (by constructor) ?_
        exact hRR
      refine ⟨i + 1, ρ0, ?_, (by omega), (by dsimp only; omega)⟩
      exact ⟨⟨m_calg, ⟨rfl, rfl, rfl, rfl, rfl⟩, (by first | exact ⟨rfl, rfl, rfl, rfl⟩ | exact ⟨rfl, by omega, rfl, rfl⟩), ⟨rfl, rfl, rfl, rfl, rfl⟩, (mi), trivial⟩, ⟨⟨rfl, (sx), (by exact mt_vec (fun _ _ => rfl))⟩, ⟨rfl, (sx), (by exact mt_vec (fun _ _ => rfl))⟩, ⟨rfl, (sx), (by exact mt_vec (fun z _ => upd_cut _ i z))⟩, trivial⟩, ⟨⟨(fun h => by first | exact ⟨rfl, rfl⟩ | exact absurd h (by decide)), (fun h => by first | exact ⟨rfl, rfl⟩ | exact absurd h (by decide)), (fun h => by first | exact ⟨rfl, rfl⟩ | exact absurd h (by decide)), trivial⟩, ⟨(fun h => by first | exact ⟨rfl, rfl⟩ | exact absurd h (by decide)), (fun h => by first | exact ⟨rfl, rfl⟩ | exact absurd h (by decide)), (fun h => by first | exact ⟨rfl, rfl⟩ | exact absurd h (by decide)), trivial⟩, ⟨(fun h => by first | exact ⟨rfl, rfl⟩ | exact absurd h (by decide)), (fun h => by first | exact ⟨rfl, rfl⟩ | exact absurd h (by decide)), (fun h => by first | exact ⟨rfl, rfl⟩ | exact absurd h (by decide)), trivial⟩, trivial⟩⟩
    · try simp only [hcs] at hc73
      have hio : n = i := by omega
      subst hio
      refine snd_exit ?_
      refine snd_seq ?_
      apply sr tokTB (by kernel_rfl)
      · intro RR hRR
        refine w_assign (by constructor) ?_
        exact hRR
      refine snd_block ?_
      refine snd_loop (S := Nat) (fun i => ([(1, .cptr (algA p (n : Int) T fo)), (2, .ptr 2 0 [] 0 (vecA (fun _ => 0))), (11, .ptr 11 0 [] 0 (vecA (fun _ => 0))), (13, .int .i64 (i : Int))], [(2, .one (vecA (fun _ => 0)) (vecA (fun _ => 0))), (11, .one (vecA (fun _ => 0)) (vecA (uS p n T)))])) (fun i => i ≤ n ∧ ∀ a, a < i → eqN 6 (timesF p n T (eF a) (uS p n T)) (eF a)) (fun i => n - i) (0) ρ0 ?_ ?_ ?_
      · exact ⟨⟨m_calg, ⟨rfl, rfl, rfl, rfl, rfl⟩, ⟨rfl, rfl, rfl, rfl, rfl⟩, (mi), trivial⟩, ⟨⟨rfl, (sx), (by exact mt_vec (fun _ _ => rfl))⟩, ⟨rfl, (sx), (by exact mt_vec (fun _ _ => rfl))⟩, trivial⟩, ⟨⟨(fun h => by first | exact ⟨rfl, rfl⟩ | exact absurd h (by decide)), (fun h => by first | exact ⟨rfl, rfl⟩ | exact absurd h (by decide)), trivial⟩, ⟨(fun h => by first | exact ⟨rfl, rfl⟩ | exact absurd h (by decide)), (fun h => by first | exact ⟨rfl, rfl⟩ | exact absurd h (by decide)), trivial⟩, trivial⟩⟩
      · exact ⟨Nat.zero_le _, fun j hj => absurd hj (Nat.not_lt_zero _)⟩
      intro i hi8
      refine sq (env2 := [(1, .cptr (algA p (n : Int) T fo)), (2, .ptr 2 0 [] 0 (vecA (fun _ => 0))), (11, .ptr 11 0 [] 0 (vecA (fun _ => 0))), (13, .int .i64 (i : Int))]) (ol2 := [(2, .one (vecA (fun _ => 0)) (vecA (fun _ => 0))), (11, .one (vecA (fun _ => 0)) (vecA (uS p n T)))]) rfl rfl ?_
      obtain ⟨hi1, hi2⟩ := hi8
      refine snd_seq ?_
      apply sr tokTB (by kernel_rfl)
      · intro RR hRR
        refine w_move (by constructor) ?_
        refine w_fac rfl und27 rfl kn2 nz2 (by decide) rfl (by constructor) ?_
        refine w_ldc rfl kn2 (by constructor) (by exact sz2.symm) (by exact ag2.symm) ?_
        refine w_lss rfl rfl ?_
        exact hRR
      refine snd_cond _ rfl (fun hc86 => ?_) (fun hc86 => ?_)
      · try simp only [hcs] at hc86
        refine snd_skip ?_
        refine snd_seq ?_
        refine snd_block ?_
        apply sd tokTB mixed (by kernel_rfl) (by kernel_rfl)
        · intro RR hRR
          refine w_ldc rfl kn27 (by constructor) (by exact sz27.symm) (by exact ag27.symm) ?_
          refine w_move (by constructor) ?_
          refine y_call rfl (ec exn) (c_l01Basis (by omega)) ?_
          refine w_ldp rfl kn25 rfl (by constructor) (by exact sz25.symm) (by exact ag25.symm) ?_
          refine y_call rfl (ec (ec (ec exn))) (c_l01Times (u := eF i) (v := uS p n T) (by omega) (by omega) hn hT (eF_B8 i) hOB) ?_
          refine w_move (by constructor) ?_
          refine y_call rfl (ec exn) (c_l01Basis (by omega)) ?_
          refine w_aneq rfl rfl und25 und5 ?_
          exact hRR
        refine snd_cond _ rfl (fun hc96 => ?_) (fun hc96 => ?_)
        · skip
          apply sr tokTB (by kernel_rfl)
          · intro RR hRR
            refine w_bld_a kn25 zr25 und25 kn5 (fun _ => (by exact sz5.symm)) trivial rfl (by exact sz5.symm) ?_
            refine w_stw rfl (by constructor) kn25 rfl (by exact trivial) (sx) (by exact sz25.symm) ?_
            refine w_assign (by constructor) ?_
            exact hRR
          refine snd_ret ?_
          show retQ TB _ _ _ _ _ _
          exact rt_ct (T := TB) rfl kn25 rfl (by exact sz25.symm) (by exact ag25.symm) (fun V => mt_vec (fun z _ => by rw [findV, if_neg (fun h => of_decide_eq_true (p := ¬ eqN 6 _ _) hc96 (h.2 i (by omega)))])) (fun V => congrArg AV.bool (by rw [decide_eq_false (fun h => of_decide_eq_true (p := ¬ eqN 6 _ _) hc96 (h.2 i (by omega)))]))
        · skip
          refine snd_skip ?_
          apply lr tokTB (by kernel_rfl)
          · intro RR hRR
            refine w_move (by constructor) ?_
            refine y_add rfl rfl ?_
            refine w_assign (by constructor) ?_
            exact hRR
          refine ⟨i + 1, ρ0, ?_, ⟨by omega, all_step hi2 (Classical.not_not.1 (of_decide_eq_false (p := ¬ eqN 6 _ _) hc96))⟩, (by dsimp only; omega)⟩
          exact ⟨⟨m_calg, ⟨rfl, rfl, rfl, rfl, rfl⟩, ⟨rfl, rfl, rfl, rfl, rfl⟩, (mi), trivial⟩, ⟨⟨rfl, (sx), (by exact mt_vec (fun _ _ => rfl))⟩, ⟨rfl, (sx), (by exact mt_vec (fun _ _ => rfl))⟩, trivial⟩, ⟨⟨(fun h => by first | exact ⟨rfl, rfl⟩ | exact absurd h (by decide)), (fun h => by first | exact ⟨rfl, rfl⟩ | exact absurd h (by decide)), trivial⟩, ⟨(fun h => by first | exact ⟨rfl, rfl⟩ | exact absurd h (by decide)), (fun h => by first | exact ⟨rfl, rfl⟩ | exact absurd h (by decide)), trivial⟩, trivial⟩⟩
      · try simp only [hcs] at hc86
        refine snd_exit ?_
        apply sr tokTB (by kernel_rfl)
        · intro RR hRR
          refine w_ldp rfl kn25 rfl (by constructor) (by exact sz25.symm) (by exact ag25.symm) ?_
          refine w_stw rfl (by constructor) kn25 rfl (by exact trivial) (sx) (by exact sz25.symm) ?_
          refine w_assign (by constructor) ?_
          exact hRR
        refine snd_ret ?_
        show retQ TB _ _ _ _ _ _
        exact rt_ct (T := TB) rfl kn25 rfl (by exact sz25.symm) (by exact ag25.symm) (fun V => mt_vec (fun z _ => by rw [findV, if_pos ⟨hone, fun a ha => hi2 a (by omega)⟩])) (fun V => congrArg AV.bool (by rw [decide_eq_true ⟨hone, fun a ha => hi2 a (by omega)⟩]))
end Go.Am

set_option linter.unusedVariables false
set_option linter.unusedSimpArgs false
set_option maxRecDepth 4000
namespace Go.Am
attribute [local irreducible] retQ retQp
open Go.Proofs
theorem c_equations {M n : Nat} {G NC : Nat → Nat} {CP : Nat → Nat → AV} {Fv : Nat → Nat → Nat → Int} {p : Int} {T : Nat → Nat → Nat → Int} {fo : Nat → Int} (hM : M ≤ 100) (hn0 : 0 < n) (hn : n ≤ 6) (hcl : ∀ x, (AV.fn (G x) (NC x) (CP x)).closed) (hB : ∀ x i, x < M → B8 (Fv x i)) (hf : ∀ x, x < M → ∀ i, i < n → ACalls Try.prog TB (G x) (vecA (eF i) :: capL (NC x) (CP x)) (vecA (Fv x i)) []) : ACalls Try.prog TB 96 [.cptr (algA p (n : Int) T fo), .ro M (fun x => .fn (G x) (NC x) (CP x))] (.own 0 0 (M * n) 62) [(0, .one (ZR (M * n)) (CO 1 (M * n) (fun _ => n) 2)), (1, .many (famF (M * n) (fun _ => n) (eqR n Fv)))] := by
  refine acalls_of tokTB Try.func96 rfl rfl (Nat.le_of_ble_eq_true rfl) ?_
  apply sr tokTB (by kernel_rfl)
  · intro RR hRR
    refine w_assign (by constructor) ?_
    exact hRR
  apply sr tokTB (by kernel_rfl)
  · intro RR hRR
    refine w_bsl und35 kn62 (by rw [sz62]; rfl) rfl trivial trivial rfl ?_
    refine w_assign (by constructor) ?_
    exact hRR
  refine snd_seq ?_
  apply sr tokTB (by kernel_rfl)
  · intro RR hRR
    refine w_move (by constructor) ?_
    refine w_len_r rfl rfl und107 ?_
    refine w_move (by constructor) ?_
    exact hRR
  refine snd_block ?_
  refine snd_loop (S := Nat) (fun x => ([(5, .own 905 0 (x * n) 62), (0, .cptr (algA p (n : Int) T fo)), (12, .ro M (fun x => .fn (G x) (NC x) (CP x))), (13, .int .i64 (M : Int)), (14, .int .i64 (x : Int))], [(905, .one (ZR (x * n)) (CO 1 (x * n) (fun _ => n) 2)), (1, .many (famF (x * n) (fun _ => n) (eqR n Fv)))])) (fun x => x ≤ M) (fun x => M - x) (0) (ρP 905 1 11 912 0) ?_ ?_ ?_
  · exact emb_fam (by decide) (by decide) (by decide) (by decide) (by rw [Nat.zero_mul]; rfl) (fun j hj => absurd hj (by omega)) (fun h => absurd h (by omega)) (fun h => absurd h (by omega)) (fun r hr => absurd hr (by omega)) ⟨(by exact ⟨rfl, (Nat.zero_mul n).symm, rfl, rfl⟩), m_calg, (by exact Mt_closed (V := _) (v := .ro M (fun x => .fn (G x) (NC x) (CP x))) (fun x => hcl x) (fun _ _ _ => trivial) (by simp)), (mi), (mi), trivial⟩
  · exact Nat.zero_le _
  intro x hi0
  refine sq (env2 := [(5, .own 905 0 (x * n) 62), (0, .cptr (algA p (n : Int) T fo)), (12, .ro M (fun x => .fn (G x) (NC x) (CP x))), (13, .int .i64 (M : Int)), (14, .int .i64 (x : Int))]) (ol2 := [(905, .one (ZR (x * n)) (CO 1 (x * n) (fun _ => n) 2)), (1, .many (famF (x * n) (fun _ => n) (eqR n Fv)))]) rfl rfl ?_
  apply sr tokTB (by kernel_rfl)
  · intro RR hRR
    refine w_lss rfl rfl ?_
    exact hRR
  refine snd_seq ?_
  refine snd_cond _ rfl (fun hc15 => ?_) (fun hc15 => ?_)
  · try simp only [hcs] at hc15
    have hx : x < M := by omega
    have hxn : (x + 1) * n = x * n + n := by rw [Nat.add_mul]; omega
    have hle : x * n + n ≤ 100 * 6 := by rw [← hxn]; exact Nat.mul_le_mul (by omega) (by omega)
    refine snd_skip ?_
    refine snd_seq ?_
    refine snd_block ?_
    apply sr tokTB (by kernel_rfl)
    · intro RR hRR
      refine w_iar rfl rfl und107 kn108 (by exact sz108.symm) ?_ rfl ?_
      · exact ⟨by omega, by omega⟩
      first | refine w_ldc rfl kn108 (by constructor) (by exact sz108.symm) (by exact ag108.symm) ?_ | refine w_ldp rfl kn108 rfl (by constructor) (by exact sz108.symm) (by exact ag108.symm) ?_
      refine w_assign (by constructor) ?_
      exact hRR
    apply sr tokTB (by kernel_rfl)
    · intro RR hRR
      refine w_move (by constructor) ?_
      refine y_call rfl (ec exn) (c_n) ?_
      refine w_move (by constructor) ?_
      exact hRR
    refine snd_block ?_
    refine snd_loop (S := Nat) (fun k => ([(5, .own 905 0 (x * n + k) 62), (0, .cptr (algA p (n : Int) T fo)), (12, .ro M (fun x => .fn (G x) (NC x) (CP x))), (13, .int .i64 (M : Int)), (14, .int .i64 (x : Int)), (7, .fn (G x) (NC x) (CP x)), (19, .int .i64 (n : Int)), (20, .int .i64 (k : Int))], [(905, .one (ZR (x * n + k)) (CO 1 (x * n + k) (fun _ => n) 2)), (1, .many (famF (x * n + k) (fun _ => n) (eqR n Fv)))])) (fun k => k ≤ n) (fun k => n - k) (0) (ρP 905 1 905 912 (x * n)) ?_ ?_ ?_
    · exact emb_fam (by decide) (by decide) (by decide) (by decide) rfl (fun j hj hne => rfl) (fun h => absurd h (by omega)) (fun h => absurd h (by omega)) (fun r hr hne => fam_beside [] (by decide) r (by omega)) ⟨(by first | exact ⟨rfl, rfl, rfl, rfl⟩ | exact ⟨rfl, by omega, rfl, rfl⟩), m_calg, (by exact Mt_closed (V := _) (v := .ro M (fun x => .fn (G x) (NC x) (CP x))) (fun x => hcl x) (fun _ _ _ => trivial) (by simp)), (mi), (mi), (by exact Mt_closed (V := _) (v := .fn (G x) (NC x) (CP x)) (hcl x) (fun _ _ _ => trivial) (by simp)), (mi), (mi), trivial⟩
    · exact Nat.zero_le _
    intro k hi2
    refine sq (env2 := [(5, .own 905 0 (x * n + k) 62), (0, .cptr (algA p (n : Int) T fo)), (12, .ro M (fun x => .fn (G x) (NC x) (CP x))), (13, .int .i64 (M : Int)), (14, .int .i64 (x : Int)), (7, .fn (G x) (NC x) (CP x)), (19, .int .i64 (n : Int)), (20, .int .i64 (k : Int))]) (ol2 := [(905, .one (ZR (x * n + k)) (CO 1 (x * n + k) (fun _ => n) 2)), (1, .many (famF (x * n + k) (fun _ => n) (eqR n Fv)))]) rfl rfl ?_
    apply sr tokTB (by kernel_rfl)
    · intro RR hRR
      refine w_lss rfl rfl ?_
      exact hRR
    refine snd_seq ?_
    refine snd_cond _ rfl (fun hc21 => ?_) (fun hc21 => ?_)
    · try simp only [hcs] at hc21
      refine snd_skip ?_
      refine snd_seq ?_
      refine snd_block ?_
      apply sr tokTB (by kernel_rfl)
      · intro RR hRR
        refine w_move (by constructor) ?_
        refine w_assign (by constructor) ?_
        exact hRR
      apply sr tokTB (by kernel_rfl)
      · intro RR hRR
        refine w_bsl und62 kn2 (by rw [sz2]; rfl) rfl trivial trivial rfl ?_
        refine w_assign (by constructor) ?_
        exact hRR
      refine snd_seq ?_
      apply sr tokTB (by kernel_rfl)
      · intro RR hRR
        refine w_move (by constructor) ?_
        refine y_call rfl (ec exn) (c_n) ?_
        refine w_move (by constructor) ?_
        exact hRR
      refine snd_block ?_
      refine snd_loop (S := Nat) (fun i => ([(5, .own 905 0 (x * n + k) 62), (0, .cptr (algA p (n : Int) T fo)), (12, .ro M (fun x => .fn (G x) (NC x) (CP x))), (13, .int .i64 (M : Int)), (14, .int .i64 (x : Int)), (7, .fn (G x) (NC x) (CP x)), (8, .int .i64 (k : Int)), (9, .own 909 0 i 2), (19, .int .i64 (n : Int)), (20, .int .i64 (k : Int)), (25, .int .i64 (n : Int)), (26, .int .i64 (i : Int))], [(905, .one (ZR (x * n + k)) (CO 1 (x * n + k) (fun _ => n) 2)), (1, .many (famF (x * n + k) (fun _ => n) (eqR n Fv))), (909, .one (Z64 i) (C64 i (fun a => Fv x a k)))])) (fun i => i ≤ n) (fun i => n - i) (0) (ρQ 905 1 905 912 (x * n + k) 909 23) ?_ ?_ ?_
      · exact emb_fam1 (by decide) (by decide) (by decide) (by decide) (by decide) (by decide) (by decide) (by decide) (by decide) rfl (fun j hj hne => rfl) (fun h => absurd h (by omega)) (fun h => absurd h (by omega)) (fun r hr hne => famF_at (c := x * n + k) (w := fun _ => n) (F := eqR n Fv) (by omega)) ⟨_, rfl, ⟨rfl, fun _ => trivial⟩, fun V => mt_arr0⟩ ⟨(by first | exact ⟨rfl, rfl, rfl, rfl⟩ | exact ⟨rfl, by omega, rfl, rfl⟩), m_calg, (by exact Mt_closed (V := _) (v := .ro M (fun x => .fn (G x) (NC x) (CP x))) (fun x => hcl x) (fun _ _ _ => trivial) (by simp)), (mi), (mi), (by exact Mt_closed (V := _) (v := .fn (G x) (NC x) (CP x)) (hcl x) (fun _ _ _ => trivial) (by simp)), (mi), (by first | exact ⟨rfl, rfl, rfl, rfl⟩ | exact ⟨rfl, by omega, rfl, rfl⟩), (mi), (mi), (mi), (mi), trivial⟩
      · exact Nat.zero_le _
      intro i hi4
      refine sq (env2 := [(5, .own 905 0 (x * n + k) 62), (0, .cptr (algA p (n : Int) T fo)), (12, .ro M (fun x => .fn (G x) (NC x) (CP x))), (13, .int .i64 (M : Int)), (14, .int .i64 (x : Int)), (7, .fn (G x) (NC x) (CP x)), (8, .int .i64 (k : Int)), (9, .own 909 0 i 2), (19, .int .i64 (n : Int)), (20, .int .i64 (k : Int)), (25, .int .i64 (n : Int)), (26, .int .i64 (i : Int))]) (ol2 := [(905, .one (ZR (x * n + k)) (CO 1 (x * n + k) (fun _ => n) 2)), (1, .many (famF (x * n + k) (fun _ => n) (eqR n Fv))), (909, .one (Z64 i) (C64 i (fun a => Fv x a k)))]) rfl rfl ?_
      apply sr tokTB (by kernel_rfl)
      · intro RR hRR
        refine w_lss rfl rfl ?_
        exact hRR
      refine snd_seq ?_
      refine snd_cond _ rfl (fun hc27 => ?_) (fun hc27 => ?_)
      · try simp only [hcs] at hc27
        refine snd_skip ?_
        refine snd_seq ?_
        refine snd_block ?_
        apply sr tokTB (by kernel_rfl)
        · intro RR hRR
          refine w_move (by constructor) ?_
          refine w_assign (by constructor) ?_
          exact hRR
        apply lr tokTB (by kernel_rfl)
        · intro RR hRR
          refine w_move (by constructor) ?_
          refine w_move (by constructor) ?_
          refine w_move (by constructor) ?_
          refine y_call rfl (ec exn) (c_basis (by omega)) ?_
          refine y_call rfl (exc (by exact rfl) (exp_capL (hcl x))) (hf x hx i (by omega)) ?_
          refine w_move (by constructor) ?_
          refine w_ixa rfl rfl und25 kn5 (by exact sz5.symm) ?_ (by constructor) (by exact ag5.symm) ?_
          · exact ⟨by omega, by omega⟩
          refine w_conv rfl und5 und2 (by exact w64b (hB x i hx) _) ?_
          refine w_bsl1 und62 kn2 (by rw [sz2]; rfl) rfl (by constructor) (by first | exact trivial | exact cel_cap2) (by exact sz2.symm) (by first | exact trivial | exact ssh_vec | exact ⟨rfl, fun _ => trivial⟩) ?_
          refine w_app_o und62 rfl rfl kn2 rfl rfl (fun C h => ⟨rfl, rfl, rfl, h⟩) (by rw [by2]; omega) (by omega) rfl ?_
          refine w_assign (by constructor) ?_
          exact hRR
        apply lr tokTB (by kernel_rfl)
        · intro RR hRR
          refine y_add rfl rfl ?_
          refine w_move (by constructor) ?_
          exact hRR
        refine ⟨i + 1, (ρQ 905 1 905 912 (x * n + k) 909 38), ?_, (by omega), (by dsimp only; omega)⟩
        exact emb_fam1 (by decide) (by decide) (by decide) (by decide) (by decide) (by decide) (by decide) (by decide) (by decide) rfl (fun j hj hne => rfl) (fun h => absurd h (by omega)) (fun h => absurd h (by omega)) (fun r hr hne => famF_at (c := x * n + k) (w := fun _ => n) (F := eqR n Fv) (by omega)) ⟨_, rfl, ⟨rfl, fun _ => trivial⟩, fun V => mt_app (fun _ _ => rfl) rfl⟩ ⟨(by first | exact ⟨rfl, rfl, rfl, rfl⟩ | exact ⟨rfl, by omega, rfl, rfl⟩), m_calg, (by exact Mt_closed (V := _) (v := .ro M (fun x => .fn (G x) (NC x) (CP x))) (fun x => hcl x) (fun _ _ _ => trivial) (by simp)), (mi), (mi), (by exact Mt_closed (V := _) (v := .fn (G x) (NC x) (CP x)) (hcl x) (fun _ _ _ => trivial) (by simp)), (mi), (by first | exact ⟨rfl, rfl, rfl, rfl⟩ | exact ⟨rfl, by omega, rfl, rfl⟩), (mi), (mi), (mi), (mi), trivial⟩
      · try simp only [hcs] at hc27
        have hin : n = i := by omega
        subst hin
        refine snd_exit ?_
        apply lr tokTB (by kernel_rfl)
        · intro RR hRR
          refine w_move (by constructor) ?_
          refine w_move (by constructor) ?_
          refine w_bsl1 und35 kn62 (by rw [sz62]; rfl) rfl (by constructor) (by first | exact trivial | exact cel_cap2) (by exact sz62.symm) (by first | exact trivial | exact ssh_vec | exact ⟨rfl, fun _ => trivial⟩) ?_
          refine w_app_o und35 rfl rfl kn62 rfl rfl (fun C h => ⟨rfl, rfl, rfl, h⟩) (by rw [by62]; omega) (by omega) rfl ?_
          refine w_assign (by constructor) ?_
          exact hRR
        apply lr tokTB (by kernel_rfl)
        · intro RR hRR
          refine y_add rfl rfl ?_
          refine w_move (by constructor) ?_
          exact hRR
        refine ⟨k + 1, (ρP 905 1 43 909 (x * n + k)), ?_, (by omega), (by dsimp only; omega)⟩
        exact emb_fam (by decide) (by decide) (by decide) (by decide) rfl (fun j hj hne => appF_lt (by omega)) (fun h => (appF_ge (Nat.le_refl _) (by omega)).trans (by rw [Nat.sub_self]; rfl)) (fun h => ⟨_, rfl, fun V => mt_vec (fun j hj => (eqR_at (by omega)).symm)⟩) (fun r hr hne => famF_at (c := x * n + k) (w := fun _ => n) (F := eqR n Fv) (by omega)) ⟨(by first | exact ⟨rfl, rfl, rfl, rfl⟩ | exact ⟨rfl, by omega, rfl, rfl⟩), m_calg, (by exact Mt_closed (V := _) (v := .ro M (fun x => .fn (G x) (NC x) (CP x))) (fun x => hcl x) (fun _ _ _ => trivial) (by simp)), (mi), (mi), (by exact Mt_closed (V := _) (v := .fn (G x) (NC x) (CP x)) (hcl x) (fun _ _ _ => trivial) (by simp)), (mi), (mi), trivial⟩
    · try simp only [hcs] at hc21
      have hkn : n = k := by omega
      subst hkn
      refine snd_exit ?_
      apply lr tokTB (by kernel_rfl)
      · intro RR hRR
        refine y_add rfl rfl ?_
        refine w_move (by constructor) ?_
        exact hRR
      refine ⟨x + 1, (ρP 905 1 905 912 ((x + 1) * n)), ?_, (by omega), (by dsimp only; omega)⟩
      exact emb_fam (by decide) (by decide) (by decide) (by decide) (by rw [hxn]; rfl) (fun j hj hne => rfl) (fun h => absurd h (by omega)) (fun h => absurd h (by omega)) (fun r hr hne => fam_beside [] (by decide) r (by omega)) ⟨(by exact ⟨rfl, hxn.symm, rfl, rfl⟩), m_calg, (by exact Mt_closed (V := _) (v := .ro M (fun x => .fn (G x) (NC x) (CP x))) (fun x => hcl x) (fun _ _ _ => trivial) (by simp)), (mi), (mi), trivial⟩
  · try simp only [hcs] at hc15
    have hxM : M = x := by omega
    subst hxM
    refine snd_exit ?_
    apply sr tokTB (by kernel_rfl)
    · intro RR hRR
      refine w_move (by constructor) ?_
      refine w_assign (by constructor) ?_
      exact hRR
    refine snd_ret ?_
    show retQ TB _ _ _ _ _ _
    exact rt_fam (T := TB) (a := 905) rfl (by decide) rfl rfl (fun r hr => famF_at (c := M * n) (w := fun _ => n) (F := eqR n Fv) hr)
end Go.Am

set_option linter.unusedVariables false
set_option linter.unusedSimpArgs false
set_option maxRecDepth 4000
namespace Go.Am
attribute [local irreducible] retQ retQp
open Go.Proofs
theorem c_solved_ok {M n : Nat} {G NC : Nat → Nat} {CP : Nat → Nat → AV} {Fv : Nat → Nat → Nat → Int} {W : Nat → Nat → Int} {p : Int} {T : Nat → Nat → Nat → Int} {fo : Nat → Int} (hp : primeB p = true) (hM0 : 0 < M) (hM : M ≤ 100) (hn0 : 0 < n) (hn : n ≤ 6) (hcl : ∀ x, (AV.fn (G x) (NC x) (CP x)).closed) (hFp : ∀ x i, Bp p (Fv x i)) (hWp : ∀ x, Bp p (W x)) (hf : ∀ x, x < M → ∀ i, i < n → ACalls Try.prog TB (G x) (vecA (eF i) :: capL (NC x) (CP x)) (vecA (Fv x i)) []) (hcon : conP n (redGo p (M * n) (sysR n Fv W) (n + 1)).no (redGo p (M * n) (sysR n Fv W) (n + 1)).O) : ACalls Try.prog TB 87 [.cptr (algA p (n : Int) T fo), .ro M (fun x => vecA (W x)), .ro M (fun x => .fn (G x) (NC x) (CP x))] (.tup 2 (pairA (vecA (cutF (solGo n (redGo p (M * n) (sysR n Fv W) (n + 1)).O (redGo p (M * n) (sysR n Fv W) (n + 1)).no) n)) (.bool true))) [] := by
  have hpb := primeB_bd hp
  have hB : ∀ x i, x < M → B8 (Fv x i) := fun x i _ => B8_of (by omega) (hFp x i)
  have hle : M * n ≤ 100 * 6 := Nat.mul_le_mul hM hn
  have hle1 : 0 < M * n := Nat.mul_pos hM0 hn0
  have hS : ∀ r, Bp p (sysR n Fv W r) := fun r => sysR_Bp hFp hWp r
  have hO8 : ∀ i, i < (redGo p (M * n) (sysR n Fv W) (n + 1)).no → B8 ((redGo p (M * n) (sysR n Fv W) (n + 1)).O i) := by obtain ⟨⟨l, hrr⟩, _⟩ := red_ok (m := n + 1) (n := M * n) (R := sysR n Fv W) hp (fun i _ => hS i); exact fun i hi => B8_of (by omega) (hrr.bp i hi)
  refine acalls_of tokTB Try.func87 rfl rfl (Nat.le_of_ble_eq_true rfl) ?_
  apply sr tokTB (by kernel_rfl)
  · intro RR hRR
    refine w_alloc kn25 rfl zr25 ?_
    refine w_assign (by constructor) ?_
    exact hRR
  apply sr tokTB (by kernel_rfl)
  · intro RR hRR
    refine w_move (by constructor) ?_
    refine w_move (by constructor) ?_
    refine w_call rfl (ec (ec exn)) (c_equations hM hn0 hn hcl hB hf) (.inl ⟨trivial, ⟨fun _ => trivial, fun i sh c h => (by obtain ⟨_, _, rfl⟩ := famF_some h; exact fun _ => trivial), trivial⟩⟩) rfl (by constructor) rfl ?_
    refine w_assign (by constructor) ?_
    exact hRR
  refine snd_seq ?_
  apply sr tokTB (by kernel_rfl)
  · intro RR hRR
    refine w_move (by constructor) ?_
    refine w_len_o rfl rfl und35 ?_
    refine w_move (by constructor) ?_
    exact hRR
  refine snd_block ?_
  refine snd_loop (S := Nat) (fun i => ([(0, .cptr (algA p (n : Int) T fo)), (1, .ro M (fun x => vecA (W x))), (6, .ptr 6 0 [] 0 (vecA (fun _ => 0))), (8, .own 905 0 (M * n) 62), (16, .int .i64 ((M * n : Nat) : Int)), (17, .int .i64 (i : Int))], [(905, .one (ZR (M * n)) (CO 15001 (M * n) (fun r => if r < i then n + 1 else n) 2)), (15001, .many (famF (M * n) (fun r => if r < i then n + 1 else n) (mixG (sysR n Fv W) (eqR n Fv) i))), (6, .one (vecA (fun _ => 0)) (vecA (fun _ => 0)))])) (fun i => i ≤ (M * n)) (fun i => (M * n) - i) (0) (ρQ 905 15001 15000 912 (M * n) 6 6) ?_ ?_ ?_
  · exact emb_fam1 (by decide) (by decide) (by decide) (by decide) (by decide) (by decide) (by decide) (by decide) (by decide) rfl (fun j hj hne => by show AV.own (15000 + 1) j n _ = _; simp) (fun h => absurd h (by omega)) (fun h => absurd h (by omega)) (fun r hr hne => by show (match famF (M * n) (fun _ => n) (eqR n Fv) r with | some (sh, c) => some (sh, Am.shift 15000 c) | none => none) = _; rw [famF_at hr]; simp [mixG, shift]) ⟨_, rfl, ssh_vec, fun V => mt_vec (fun _ _ => rfl)⟩ ⟨m_calg, (by exact Mt_closed (V := _) (v := .ro M (fun x => vecA (W x))) (fun _ _ => trivial) (fun _ _ _ => trivial) (by simp)), ⟨rfl, rfl, rfl, rfl, rfl⟩, (by first | exact ⟨rfl, rfl, rfl, rfl⟩ | exact ⟨rfl, by omega, rfl, rfl⟩), (mi), (mi), trivial⟩
  · exact Nat.zero_le _
  intro i hi0
  refine sq (env2 := [(0, .cptr (algA p (n : Int) T fo)), (1, .ro M (fun x => vecA (W x))), (6, .ptr 6 0 [] 0 (vecA (fun _ => 0))), (8, .own 905 0 (M * n) 62), (16, .int .i64 ((M * n : Nat) : Int)), (17, .int .i64 (i : Int))]) (ol2 := [(905, .one (ZR (M * n)) (CO 15001 (M * n) (fun r => if r < i then n + 1 else n) 2)), (15001, .many (famF (M * n) (fun r => if r < i then n + 1 else n) (mixG (sysR n Fv W) (eqR n Fv) i))), (6, .one (vecA (fun _ => 0)) (vecA (fun _ => 0)))]) rfl rfl ?_
  apply sr tokTB (by kernel_rfl)
  · intro RR hRR
    refine w_lss rfl rfl ?_
    exact hRR
  refine snd_seq ?_
  refine snd_cond _ rfl (fun hc18 => ?_) (fun hc18 => ?_)
  · try simp only [hcs] at hc18
    have hin : i < M * n := by omega
    have hq : i / n < M := (Nat.div_lt_iff_lt_mul hn0).2 hin
    have hr : i % n < n := Nat.mod_lt _ hn0
    have hwid : ∀ j, j ≠ i → (if j < i + 1 then n + 1 else n) = (if j < i then n + 1 else n) := fun j hj => by by_cases h : j < i; rw [if_pos h, if_pos (by omega)]; rw [if_neg h, if_neg (by omega)]
    have hwi : (if i < i then n + 1 else n) = n := if_neg (Nat.lt_irrefl i)
    have hwi1 : (if i < i + 1 then n + 1 else n) = n + 1 := if_pos (Nat.lt_succ_self i)
    have hmix : ∀ j, j ≠ i → mixG (sysR n Fv W) (eqR n Fv) (i + 1) j = mixG (sysR n Fv W) (eqR n Fv) i j := fun j hj => by by_cases h : j < i; rw [mixG_lt _ _ h, mixG_lt _ _ (by omega)]; rw [mixG_ge _ _ (by omega), mixG_ge _ _ (by omega)]
    have hmixi : mixG (sysR n Fv W) (eqR n Fv) i i = eqR n Fv i := mixG_self _ _ _
    have hmixi1 : mixG (sysR n Fv W) (eqR n Fv) (i + 1) i = sysR n Fv W i := mixG_lt _ _ (Nat.lt_succ_self i)
    refine snd_skip ?_
    refine snd_seq ?_
    refine snd_block ?_
    apply sr tokTB (by kernel_rfl)
    · intro RR hRR
      refine w_move (by constructor) ?_
      refine w_assign (by constructor) ?_
      exact hRR
    apply ld tokTB mixed (by kernel_rfl) (by kernel_rfl)
    · intro RR hRR
      refine w_move (by constructor) ?_
      refine w_move (by constructor) ?_
      refine w_move (by constructor) ?_
      refine w_move (by constructor) ?_
      refine w_iao rfl rfl und35 kn62 ?_ ?_
      · exact ⟨by omega, by omega⟩
      first | refine w_ldc rfl kn62 (by constructor) (by exact sz62.symm) (by exact ag62.symm) ?_ | refine w_ldp rfl kn62 rfl (by constructor) (by exact sz62.symm) (by exact ag62.symm) ?_
      refine w_move (by constructor) ?_
      refine w_move (by constructor) ?_
      refine w_move (by constructor) ?_
      refine y_call rfl (ec exn) (c_n) ?_
      refine w_quoN rfl rfl (by omega) (by omega) ?_
      refine w_move (by constructor) ?_
      refine w_move (by constructor) ?_
      refine y_call rfl (ec exn) (c_n) ?_
      refine w_remN rfl rfl (by omega) ?_
      refine w_iar rfl rfl und47 kn25 (by exact sz25.symm) ?_ rfl ?_
      · exact ⟨Int.natCast_nonneg _, Int.ofNat_lt.2 hq⟩
      first | refine w_iac rfl rfl und25 kn5 (by exact sz5.symm) ?_ rfl ?_ | refine w_iap rfl rfl und25 kn5 rfl (by exact sz5.symm) rfl ?_ ?_
      · exact ⟨Int.natCast_nonneg _, by omega⟩
      first | refine w_ldc rfl kn5 (by constructor) (by exact sz5.symm) (by exact ag5.symm) ?_ | refine w_ldp rfl kn5 rfl (by constructor) (by exact sz5.symm) (by exact ag5.symm) ?_
      refine w_conv rfl und5 und2 (by exact w64b (B8_of (by omega) (hWp _)) _) ?_
      refine w_bsl1 und62 kn2 (by rw [sz2]; rfl) rfl (by constructor) (by first | exact trivial | exact cel_cap2) (by exact sz2.symm) (by first | exact trivial | exact ssh_vec | exact ⟨rfl, fun _ => trivial⟩) ?_
      refine w_app_o (k := 15001) (i := i) (n := n) (m := 1) (f := fun j => .int .i64 (eqR n Fv i j)) und62 (by show AV.own 15001 i (if i < i then n + 1 else n) _ = _; rw [hwi]) rfl kn2 rfl (by show famF (M * n) (fun r => if r < i then n + 1 else n) (mixG (sysR n Fv W) (eqR n Fv) i) i = _; rw [famF_at hin, hwi, hmixi]; rfl) (fun C h => ⟨rfl, rfl, rfl, h⟩) (by rw [by2]; omega) (by omega) rfl ?_
      refine w_iao rfl rfl und35 kn62 ?_ ?_
      · exact ⟨by omega, by omega⟩
      first | refine w_stw rfl (by constructor) kn62 rfl (by exact trivial) (sx) (by exact sz62.symm) ?_ | refine w_sti rfl rfl kn62 rfl (by exact trivial) (by exact sz62.symm) ?_ | refine w_store rfl (HV.eq (by constructor)) kn62 rfl (by exact trivial) (sx) (by exact sz62.symm) (put_in (by first | exact put_mat | exact put_tab | exact put_alg0 | exact put_pr0 | exact put_pr1 | exact put_pr2 | exact put_tn4 | exact put_grp0 | exact put_grp1 | exact put_alg1 | exact put_alg2 | exact put_alg3 | exact put_alg3i | exact put_alg2ij | exact put_alg2ijk | exact put_mat2 | exact put_tab2 | exact put_tab3)) ?_ | refine w_store rfl (HV.eq (by constructor)) kn62 rfl (by exact trivial) (by exact trivial) (by exact sz62.symm) rfl ?_
      exact hRR
    apply lr tokTB (by kernel_rfl)
    · intro RR hRR
      refine y_add rfl rfl ?_
      refine w_move (by constructor) ?_
      exact hRR
    refine ⟨i + 1, (ρQ 905 15001 905 40 i 6 6), ?_, (by omega), (by dsimp only; omega)⟩
    exact emb_fam1 (by decide) (by decide) (by decide) (by decide) (by decide) (by decide) (by decide) (by decide) (by decide) rfl (fun j hj hne => by show (bif Nat.beq j i then _ else AV.own 15001 j (if j < i then n + 1 else n) _) = _; rw [beq_ff hne]; simp only [cond_false, hwid j hne]) (fun h => by show (bif Nat.beq i i then _ else _) = _; rw [Nat.beq_refl]; simp [put, hwi, hwi1]) (fun h => by refine ⟨_, (by show _ = some (Z64 (if i < i + 1 then n + 1 else n), _); rw [hwi1]; exact rfl), fun V => ?_⟩; show Mt V (C64 (if i < i + 1 then n + 1 else n) _) _; rw [hwi1]; exact mt_app (fun j hj => congrArg (AV.int .i64) (by rw [hmixi1, sysR_lt hj])) (congrArg (AV.int .i64) (by rw [hmixi1, sysR_n]; rfl))) (fun r hr hne => by show (bif Nat.beq r i then none else famF (M * n) (fun r => if r < i then n + 1 else n) (mixG (sysR n Fv W) (eqR n Fv) i) r) = _; rw [beq_ff hne]; simp only [cond_false]; rw [famF_at hr]; simp only [hwid r hne, hmix r hne]) ⟨_, rfl, ssh_vec, fun V => mt_vec (fun _ _ => rfl)⟩ ⟨m_calg, (by exact Mt_closed (V := _) (v := .ro M (fun x => vecA (W x))) (fun _ _ => trivial) (fun _ _ _ => trivial) (by simp)), ⟨rfl, rfl, rfl, rfl, rfl⟩, (by first | exact ⟨rfl, rfl, rfl, rfl⟩ | exact ⟨rfl, by omega, rfl, rfl⟩), (mi), (mi), trivial⟩
  · try simp only [hcs] at hc18
    have hiN : M * n = i := by omega
    refine snd_exit ?_
    refine snd_emb (ρ := ρ0) (env2 := [(0, .cptr (algA p (n : Int) T fo)), (6, .ptr 6 0 [] 0 (vecA (fun _ => 0))), (8, rowsA (M * n) (n + 1) (sysR n Fv W))]) (ol2 := [(6, .one (vecA (fun _ => 0)) (vecA (fun _ => 0)))]) ?_ ?_
    · exact ⟨⟨m_calg, ⟨rfl, rfl, rfl, rfl, rfl⟩, mt_fam_fz (w := fun r => if r < i then n + 1 else n) (F := mixG (sysR n Fv W) (eqR n Fv) i) ⟨ne_fst rfl, trivial⟩ (fun r => ⟨ne_fst rfl, trivial⟩) rfl (fun r hr => famF_at (w := fun r => if r < i then n + 1 else n) (F := mixG (sysR n Fv W) (eqR n Fv) i) hr) (fun r hr => if_pos (by omega)) (fun r hr j hj => by rw [mixG_lt _ _ (by omega)]), trivial⟩, ⟨⟨rfl, ssh_vec, mt_vec (fun _ _ => rfl)⟩, trivial⟩, ⟨⟨fun _ => ⟨rfl, rfl⟩, trivial⟩, trivial⟩⟩
    apply sd tokTB mixed (by kernel_rfl) (by kernel_rfl)
    · intro RR hRR
      refine w_move (by constructor) ?_
      refine w_move (by constructor) ?_
      refine y_call rfl (ec exn) (c_n) ?_
      refine w_move (by constructor) ?_
      refine w_nilc rfl ?_
      refine w_fac rfl und27 rfl kn2 nz2 (by decide) rfl (by constructor) ?_
      refine w_ldc rfl kn2 (by constructor) (by exact sz2.symm) (by exact ag2.symm) ?_
      refine w_call rfl (ec (ec (ec exn))) (c_solve_ok (S := sysR n Fv W) hp (by omega) (by omega) hS hcon) (.inr ⟨closed_rows, trivial, trivial, trivial⟩) rfl (by constructor) rfl ?_
      refine w_move (by constructor) ?_
      refine w_ext rfl (by decide) (by constructor) ?_
      refine w_ext rfl (by decide) (by constructor) ?_
      refine w_assign (by constructor) ?_
      refine w_assign (by constructor) ?_
      exact hRR
    apply sr tokTB (by kernel_rfl)
    · intro RR hRR
      refine w_move (by constructor) ?_
      refine y_call rfl (ec exn) (c_vector (m := n) (f := solGo n (redGo p (M * n) (sysR n Fv W) (n + 1)).O (redGo p (M * n) (sysR n Fv W) (n + 1)).no) (by omega) (by exact solGo_B8 hO8 _ (Nat.le_refl _))) ?_
      refine w_move (by constructor) ?_
      refine w_stw rfl (by constructor) kn25 rfl (by exact trivial) (sx) (by exact sz25.symm) ?_
      refine w_assign (by constructor) ?_
      exact hRR
    refine snd_ret ?_
    show retQ TB _ _ _ _ _ _
    exact rt_ct (T := TB) rfl kn25 rfl sz25.symm ag25.symm (fun V => mt_vec (fun _ _ => rfl)) (fun V => rfl)
theorem c_solved_no {M n : Nat} {G NC : Nat → Nat} {CP : Nat → Nat → AV} {Fv : Nat → Nat → Nat → Int} {W : Nat → Nat → Int} {p : Int} {T : Nat → Nat → Nat → Int} {fo : Nat → Int} (hp : primeB p = true) (hM0 : 0 < M) (hM : M ≤ 100) (hn0 : 0 < n) (hn : n ≤ 6) (hcl : ∀ x, (AV.fn (G x) (NC x) (CP x)).closed) (hFp : ∀ x i, Bp p (Fv x i)) (hWp : ∀ x, Bp p (W x)) (hf : ∀ x, x < M → ∀ i, i < n → ACalls Try.prog TB (G x) (vecA (eF i) :: capL (NC x) (CP x)) (vecA (Fv x i)) []) (hcon : ¬ conP n (redGo p (M * n) (sysR n Fv W) (n + 1)).no (redGo p (M * n) (sysR n Fv W) (n + 1)).O) : ACalls Try.prog TB 87 [.cptr (algA p (n : Int) T fo), .ro M (fun x => vecA (W x)), .ro M (fun x => .fn (G x) (NC x) (CP x))] (.tup 2 (pairA (vecA (fun _ => 0)) (.bool false))) [] := by
  have hpb := primeB_bd hp
  have hB : ∀ x i, x < M → B8 (Fv x i) := fun x i _ => B8_of (by omega) (hFp x i)
  have hle : M * n ≤ 100 * 6 := Nat.mul_le_mul hM hn
  have hle1 : 0 < M * n := Nat.mul_pos hM0 hn0
  have hS : ∀ r, Bp p (sysR n Fv W r) := fun r => sysR_Bp hFp hWp r
  refine acalls_of tokTB Try.func87 rfl rfl (Nat.le_of_ble_eq_true rfl) ?_
  apply sr tokTB (by kernel_rfl)
  · intro RR hRR
    refine w_alloc kn25 rfl zr25 ?_
    refine w_assign (by constructor) ?_
    exact hRR
  apply sr tokTB (by kernel_rfl)
  · intro RR hRR
    refine w_move (by constructor) ?_
    refine w_move (by constructor) ?_
    refine w_call rfl (ec (ec exn)) (c_equations hM hn0 hn hcl hB hf) (.inl ⟨trivial, ⟨fun _ => trivial, fun i sh c h => (by obtain ⟨_, _, rfl⟩ := famF_some h; exact fun _ => trivial), trivial⟩⟩) rfl (by constructor) rfl ?_
    refine w_assign (by constructor) ?_
    exact hRR
  refine snd_seq ?_
  apply sr tokTB (by kernel_rfl)
  · intro RR hRR
    refine w_move (by constructor) ?_
    refine w_len_o rfl rfl und35 ?_
    refine w_move (by constructor) ?_
    exact hRR
  refine snd_block ?_
  refine snd_loop (S := Nat) (fun i => ([(0, .cptr (algA p (n : Int) T fo)), (1, .ro M (fun x => vecA (W x))), (6, .ptr 6 0 [] 0 (vecA (fun _ => 0))), (8, .own 905 0 (M * n) 62), (16, .int .i64 ((M * n : Nat) : Int)), (17, .int .i64 (i : Int))], [(905, .one (ZR (M * n)) (CO 15001 (M * n) (fun r => if r < i then n + 1 else n) 2)), (15001, .many (famF (M * n) (fun r => if r < i then n + 1 else n) (mixG (sysR n Fv W) (eqR n Fv) i))), (6, .one (vecA (fun _ => 0)) (vecA (fun _ => 0)))])) (fun i => i ≤ (M * n)) (fun i => (M * n) - i) (0) (ρQ 905 15001 15000 912 (M * n) 6 6) ?_ ?_ ?_
  · exact emb_fam1 (by decide) (by decide) (by decide) (by decide) (by decide) (by decide) (by decide) (by decide) (by decide) rfl (fun j hj hne => by show AV.own (15000 + 1) j n _ = _; simp) (fun h => absurd h (by omega)) (fun h => absurd h (by omega)) (fun r hr hne => by show (match famF (M * n) (fun _ => n) (eqR n Fv) r with | some (sh, c) => some (sh, Am.shift 15000 c) | none => none) = _; rw [famF_at hr]; simp [mixG, shift]) ⟨_, rfl, ssh_vec, fun V => mt_vec (fun _ _ => rfl)⟩ ⟨m_calg, (by exact Mt_closed (V := _) (v := .ro M (fun x => vecA (W x))) (fun _ _ => trivial) (fun _ _ _ => trivial) (by simp)), ⟨rfl, rfl, rfl, rfl, rfl⟩, (by first | exact ⟨rfl, rfl, rfl, rfl⟩ | exact ⟨rfl, by omega, rfl, rfl⟩), (mi), (mi), trivial⟩
  · exact Nat.zero_le _
  intro i hi0
  refine sq (env2 := [(0, .cptr (algA p (n : Int) T fo)), (1, .ro M (fun x => vecA (W x))), (6, .ptr 6 0 [] 0 (vecA (fun _ => 0))), (8, .own 905 0 (M * n) 62), (16, .int .i64 ((M * n : Nat) : Int)), (17, .int .i64 (i : Int))]) (ol2 := [(905, .one (ZR (M * n)) (CO 15001 (M * n) (fun r => if r < i then n + 1 else n) 2)), (15001, .many (famF (M * n) (fun r => if r < i then n + 1 else n) (mixG (sysR n Fv W) (eqR n Fv) i))), (6, .one (vecA (fun _ => 0)) (vecA (fun _ => 0)))]) rfl rfl ?_
  apply sr tokTB (by kernel_rfl)
  · intro RR hRR
    refine w_lss rfl rfl ?_
    exact hRR
  refine snd_seq ?_
  refine snd_cond _ rfl (fun hc18 => ?_) (fun hc18 => ?_)
  · try simp only [hcs] at hc18
    have hin : i < M * n := by omega
    have hq : i / n < M := (Nat.div_lt_iff_lt_mul hn0).2 hin
    have hr : i % n < n := Nat.mod_lt _ hn0
    have hwid : ∀ j, j ≠ i → (if j < i + 1 then n + 1 else n) = (if j < i then n + 1 else n) := fun j hj => by by_cases h : j < i; rw [if_pos h, if_pos (by omega)]; rw [if_neg h, if_neg (by omega)]
    have hwi : (if i < i then n + 1 else n) = n := if_neg (Nat.lt_irrefl i)
    have hwi1 : (if i < i + 1 then n + 1 else n) = n + 1 := if_pos (Nat.lt_succ_self i)
    have hmix : ∀ j, j ≠ i → mixG (sysR n Fv W) (eqR n Fv) (i + 1) j = mixG (sysR n Fv W) (eqR n Fv) i j := fun j hj => by by_cases h : j < i; rw [mixG_lt _ _ h, mixG_lt _ _ (by omega)]; rw [mixG_ge _ _ (by omega), mixG_ge _ _ (by omega)]
    have hmixi : mixG (sysR n Fv W) (eqR n Fv) i i = eqR n Fv i := mixG_self _ _ _
    have hmixi1 : mixG (sysR n Fv W) (eqR n Fv) (i + 1) i = sysR n Fv W i := mixG_lt _ _ (Nat.lt_succ_self i)
    refine snd_skip ?_
    refine snd_seq ?_
    refine snd_block ?_
    apply sr tokTB (by kernel_rfl)
    · intro RR hRR
      refine w_move (by constructor) ?_
      refine w_assign (by constructor) ?_
      exact hRR
    apply ld tokTB mixed (by kernel_rfl) (by kernel_rfl)
    · intro RR hRR
      refine w_move (by constructor) ?_
      refine w_move (by constructor) ?_
      refine w_move (by constructor) ?_
      refine w_move (by constructor) ?_
      refine w_iao rfl rfl und35 kn62 ?_ ?_
      · exact ⟨by omega, by omega⟩
      first | refine w_ldc rfl kn62 (by constructor) (by exact sz62.symm) (by exact ag62.symm) ?_ | refine w_ldp rfl kn62 rfl (by constructor) (by exact sz62.symm) (by exact ag62.symm) ?_
      refine w_move (by constructor) ?_
      refine w_move (by constructor) ?_
      refine w_move (by constructor) ?_
      refine y_call rfl (ec exn) (c_n) ?_
      refine w_quoN rfl rfl (by omega) (by omega) ?_
      refine w_move (by constructor) ?_
      refine w_move (by constructor) ?_
      refine y_call rfl (ec exn) (c_n) ?_
      refine w_remN rfl rfl (by omega) ?_
      refine w_iar rfl rfl und47 kn25 (by exact sz25.symm) ?_ rfl ?_
      · exact ⟨Int.natCast_nonneg _, Int.ofNat_lt.2 hq⟩
      first | refine w_iac rfl rfl und25 kn5 (by exact sz5.symm) ?_ rfl ?_ | refine w_iap rfl rfl und25 kn5 rfl (by exact sz5.symm) rfl ?_ ?_
      · exact ⟨Int.natCast_nonneg _, by omega⟩
      first | refine w_ldc rfl kn5 (by constructor) (by exact sz5.symm) (by exact ag5.symm) ?_ | refine w_ldp rfl kn5 rfl (by constructor) (by exact sz5.symm) (by exact ag5.symm) ?_
      refine w_conv rfl und5 und2 (by exact w64b (B8_of (by omega) (hWp _)) _) ?_
      refine w_bsl1 und62 kn2 (by rw [sz2]; rfl) rfl (by constructor) (by first | exact trivial | exact cel_cap2) (by exact sz2.symm) (by first | exact trivial | exact ssh_vec | exact ⟨rfl, fun _ => trivial⟩) ?_
      refine w_app_o (k := 15001) (i := i) (n := n) (m := 1) (f := fun j => .int .i64 (eqR n Fv i j)) und62 (by show AV.own 15001 i (if i < i then n + 1 else n) _ = _; rw [hwi]) rfl kn2 rfl (by show famF (M * n) (fun r => if r < i then n + 1 else n) (mixG (sysR n Fv W) (eqR n Fv) i) i = _; rw [famF_at hin, hwi, hmixi]; rfl) (fun C h => ⟨rfl, rfl, rfl, h⟩) (by rw [by2]; omega) (by omega) rfl ?_
      refine w_iao rfl rfl und35 kn62 ?_ ?_
      · exact ⟨by omega, by omega⟩
      first | refine w_stw rfl (by constructor) kn62 rfl (by exact trivial) (sx) (by exact sz62.symm) ?_ | refine w_sti rfl rfl kn62 rfl (by exact trivial) (by exact sz62.symm) ?_ | refine w_store rfl (HV.eq (by constructor)) kn62 rfl (by exact trivial) (sx) (by exact sz62.symm) (put_in (by first | exact put_mat | exact put_tab | exact put_alg0 | exact put_pr0 | exact put_pr1 | exact put_pr2 | exact put_tn4 | exact put_grp0 | exact put_grp1 | exact put_alg1 | exact put_alg2 | exact put_alg3 | exact put_alg3i | exact put_alg2ij | exact put_alg2ijk | exact put_mat2 | exact put_tab2 | exact put_tab3)) ?_ | refine w_store rfl (HV.eq (by constructor)) kn62 rfl (by exact trivial) (by exact trivial) (by exact sz62.symm) rfl ?_
      exact hRR
    apply lr tokTB (by kernel_rfl)
    · intro RR hRR
      refine y_add rfl rfl ?_
      refine w_move (by constructor) ?_
      exact hRR
    refine ⟨i + 1, (ρQ 905 15001 905 40 i 6 6), ?_, (by omega), (by dsimp only; omega)⟩
    exact emb_fam1 (by decide) (by decide) (by decide) (by decide) (by decide) (by decide) (by decide) (by decide) (by decide) rfl (fun j hj hne => by show (bif Nat.beq j i then _ else AV.own 15001 j (if j < i then n + 1 else n) _) = _; rw [beq_ff hne]; simp only [cond_false, hwid j hne]) (fun h => by show (bif Nat.beq i i then _ else _) = _; rw [Nat.beq_refl]; simp [put, hwi, hwi1]) (fun h => by refine ⟨_, (by show _ = some (Z64 (if i < i + 1 then n + 1 else n), _); rw [hwi1]; exact rfl), fun V => ?_⟩; show Mt V (C64 (if i < i + 1 then n + 1 else n) _) _; rw [hwi1]; exact mt_app (fun j hj => congrArg (AV.int .i64) (by rw [hmixi1, sysR_lt hj])) (congrArg (AV.int .i64) (by rw [hmixi1, sysR_n]; rfl))) (fun r hr hne => by show (bif Nat.beq r i then none else famF (M * n) (fun r => if r < i then n + 1 else n) (mixG (sysR n Fv W) (eqR n Fv) i) r) = _; rw [beq_ff hne]; simp only [cond_false]; rw [famF_at hr]; simp only [hwid r hne, hmix r hne]) ⟨_, rfl, ssh_vec, fun V => mt_vec (fun _ _ => rfl)⟩ ⟨m_calg, (by exact Mt_closed (V := _) (v := .ro M (fun x => vecA (W x))) (fun _ _ => trivial) (fun _ _ _ => trivial) (by simp)), ⟨rfl, rfl, rfl, rfl, rfl⟩, (by first | exact ⟨rfl, rfl, rfl, rfl⟩ | exact ⟨rfl, by omega, rfl, rfl⟩), (mi), (mi), trivial⟩
  · try simp only [hcs] at hc18
    have hiN : M * n = i := by omega
    refine snd_exit ?_
    refine snd_emb (ρ := ρ0) (env2 := [(0, .cptr (algA p (n : Int) T fo)), (6, .ptr 6 0 [] 0 (vecA (fun _ => 0))), (8, rowsA (M * n) (n + 1) (sysR n Fv W))]) (ol2 := [(6, .one (vecA (fun _ => 0)) (vecA (fun _ => 0)))]) ?_ ?_
    · exact ⟨⟨m_calg, ⟨rfl, rfl, rfl, rfl, rfl⟩, mt_fam_fz (w := fun r => if r < i then n + 1 else n) (F := mixG (sysR n Fv W) (eqR n Fv) i) ⟨ne_fst rfl, trivial⟩ (fun r => ⟨ne_fst rfl, trivial⟩) rfl (fun r hr => famF_at (w := fun r => if r < i then n + 1 else n) (F := mixG (sysR n Fv W) (eqR n Fv) i) hr) (fun r hr => if_pos (by omega)) (fun r hr j hj => by rw [mixG_lt _ _ (by omega)]), trivial⟩, ⟨⟨rfl, ssh_vec, mt_vec (fun _ _ => rfl)⟩, trivial⟩, ⟨⟨fun _ => ⟨rfl, rfl⟩, trivial⟩, trivial⟩⟩
    apply sd tokTB mixed (by kernel_rfl) (by kernel_rfl)
    · intro RR hRR
      refine w_move (by constructor) ?_
      refine w_move (by constructor) ?_
      refine y_call rfl (ec exn) (c_n) ?_
      refine w_move (by constructor) ?_
      refine w_nilc rfl ?_
      refine w_fac rfl und27 rfl kn2 nz2 (by decide) rfl (by constructor) ?_
      refine w_ldc rfl kn2 (by constructor) (by exact sz2.symm) (by exact ag2.symm) ?_
      refine y_call rfl (ec (ec (ec exn))) (c_solve_no (S := sysR n Fv W) hp (by omega) (by omega) hS hcon) ?_
      refine w_move (by constructor) ?_
      refine w_ext rfl (by decide) (by constructor) ?_
      refine w_ext rfl (by decide) (by constructor) ?_
      refine w_assign (by constructor) ?_
      refine w_assign (by constructor) ?_
      exact hRR
    apply sr tokTB (by kernel_rfl)
    · intro RR hRR
      refine w_move (by constructor) ?_
      refine y_call rfl (ec exn) (c_vectorN) ?_
      refine w_move (by constructor) ?_
      refine w_stw rfl (by constructor) kn25 rfl (by exact trivial) (sx) (by exact sz25.symm) ?_
      refine w_assign (by constructor) ?_
      exact hRR
    refine snd_ret ?_
    show retQ TB _ _ _ _ _ _
    exact rt_ct (T := TB) rfl kn25 rfl sz25.symm ag25.symm (fun V => mt_vec (fun _ _ => rfl)) (fun V => rfl)
end Go.Am

set_option linter.unusedVariables false
set_option linter.unusedSimpArgs false
set_option maxRecDepth 4000
namespace Go.Am
attribute [local irreducible] retQ retQp
open Go.Proofs
noncomputable instance (n no : Nat) (O : Nat → Nat → Int) : Decidable (conP n no O) := Classical.propDecidable _
theorem c_solved {M n : Nat} {G NC : Nat → Nat} {CP : Nat → Nat → AV} {Fv : Nat → Nat → Nat → Int} {W : Nat → Nat → Int} {p : Int} {T : Nat → Nat → Nat → Int} {fo : Nat → Int} (hp : primeB p = true) (hM0 : 0 < M) (hM : M ≤ 100) (hn0 : 0 < n) (hn : n ≤ 6) (hcl : ∀ x, (AV.fn (G x) (NC x) (CP x)).closed) (hFp : ∀ x i, Bp p (Fv x i)) (hWp : ∀ x, Bp p (W x)) (hf : ∀ x, x < M → ∀ i, i < n → ACalls Try.prog TB (G x) (vecA (eF i) :: capL (NC x) (CP x)) (vecA (Fv x i)) []) : ACalls Try.prog TB 87 [.cptr (algA p (n : Int) T fo), .ro M (fun x => vecA (W x)), .ro M (fun x => .fn (G x) (NC x) (CP x))] (.tup 2 (pairA (vecA (if conP n (redGo p (M * n) (sysR n Fv W) (n + 1)).no (redGo p (M * n) (sysR n Fv W) (n + 1)).O then cutF (solGo n (redGo p (M * n) (sysR n Fv W) (n + 1)).O (redGo p (M * n) (sysR n Fv W) (n + 1)).no) n else fun _ => 0)) (.bool (decide (conP n (redGo p (M * n) (sysR n Fv W) (n + 1)).no (redGo p (M * n) (sysR n Fv W) (n + 1)).O))))) [] := by
  by_cases h : conP n (redGo p (M * n) (sysR n Fv W) (n + 1)).no (redGo p (M * n) (sysR n Fv W) (n + 1)).O
  · rw [if_pos h, decide_eq_true h]; exact c_solved_ok hp hM0 hM hn0 hn hcl hFp hWp hf h
  · rw [if_neg h, decide_eq_false h]; exact c_solved_no hp hM0 hM hn0 hn hcl hFp hWp hf h
def uG (x : Nat) : Nat := if x % 2 = 0 then 93 else 95
def uC (p : Int) (n : Nat) (T : Nat → Nat → Nat → Int) (fo : Nat → Int) (x : Nat) : Nat → AV := cap2 (.cptr (.cptr (algA p (n : Int) T fo))) (.cptr (vecA (eF (x / 2))))
theorem uE0 {p : Int} {n : Nat} {T : Nat → Nat → Nat → Int} {fo : Nat → Int} {i : Nat} : AV.fn (uG (2 * i)) 2 (uC p n T fo (2 * i)) = .fn 93 2 (cap2 (.cptr (.cptr (algA p (n : Int) T fo))) (.cptr (vecA (eF i)))) := by
  unfold uG uC; rw [if_pos (by omega), show 2 * i / 2 = i by omega]
theorem uE1 {p : Int} {n : Nat} {T : Nat → Nat → Nat → Int} {fo : Nat → Int} {i : Nat} : AV.fn (uG (2 * i + 1)) 2 (uC p n T fo (2 * i + 1)) = .fn 95 2 (cap2 (.cptr (.cptr (algA p (n : Int) T fo))) (.cptr (vecA (eF i)))) := by
  unfold uG uC; rw [if_neg (by omega), show (2 * i + 1) / 2 = i by omega]
theorem uCl {p : Int} {n : Nat} {T : Nat → Nat → Nat → Int} {fo : Nat → Int} (x : Nat) : (AV.fn (uG x) 2 (uC p n T fo x)).closed := closed_cap2 closed_calg (closed_vec (n := 6))
theorem mtCl {V : Vw} {g : Nat} {a b : AV} (ha : a.closed) (hb : b.closed) : Mt V (.fn g 2 (cap2 a b)) (.fn g 2 (cap2 a b)) := Mt_closed (closed_cap2 ha hb) (fun _ _ _ => trivial) (by simp)
theorem uHf {p : Int} {n : Nat} {T : Nat → Nat → Nat → Int} {fo : Nat → Int} (hp : 0 < p) (hp2 : p < 256) (hn : n ≤ 6) (hT : B8T T) : ∀ x, x < 2 * n → ∀ i, i < n → ACalls Try.prog TB (uG x) (vecA (eF i) :: capL 2 (uC p n T fo x)) (vecA (uM p n T x i)) [] := by
  intro x _ i _
  unfold uG uM
  by_cases h : x % 2 = 0
  · simp only [h, if_true]; exact c_behind1 hp hp2 hn hT (eF_B8 _) (eF_B8 _)
  · simp only [h, if_false]; exact c_ahead1 hp hp2 hn hT (eF_B8 _) (eF_B8 _)
theorem c_findUnit {p : Int} {n : Nat} {T : Nat → Nat → Nat → Int} {fo : Nat → Int} (hp : primeB p = true) (hn0 : 0 < n) (hn : n ≤ 6) (hT : BpT p T) : ACalls Try.prog TB 78 [.cptr (algA p (n : Int) T fo)] (.tup 2 (pairA (vecA (uF p n T)) (.bool (decide (uOk p n T))))) [] := by
  have hpb := primeB_bd hp
  refine acalls_of tokTB Try.func78 rfl rfl (Nat.le_of_ble_eq_true rfl) ?_
  apply sr tokTB (by kernel_rfl)
  · intro RR hRR
    refine w_alloc kn25 rfl zr25 ?_
    refine w_assign (by constructor) ?_
    exact hRR
  apply sr tokTB (by kernel_rfl)
  · intro RR hRR
    refine w_bsl und107 kn108 (by rw [sz108]; rfl) rfl trivial trivial rfl ?_
    refine w_bsl und47 kn25 (by rw [sz25]; rfl) rfl trivial trivial rfl ?_
    refine w_assign (by constructor) ?_
    refine w_assign (by constructor) ?_
    exact hRR
  refine snd_seq ?_
  apply sr tokTB (by kernel_rfl)
  · intro RR hRR
    refine w_move (by constructor) ?_
    refine y_call rfl (ec exn) (c_n) ?_
    refine w_move (by constructor) ?_
    exact hRR
  refine snd_block ?_
  refine snd_loop (S := Nat) (fun i => ([(0, .cptr (algA p (n : Int) T fo)), (2, .ptr 2 0 [] 0 (vecA (fun _ => 0))), (4, .own 904 0 (2 * i) 108), (5, .own 905 0 (2 * i) 25), (10, .int .i64 (n : Int)), (11, .int .i64 (i : Int))], [(2, .one (vecA (fun _ => 0)) (vecA (fun _ => 0))), (904, .one (.arr (2 * i) (fun _ => TB.zero 108)) (.arr (2 * i) (fun x => .fn (uG x) 2 (uC p n T fo x)))), (905, .one (.arr (2 * i) (fun _ => TB.zero 25)) (.arr (2 * i) (fun x => vecA (eF (x / 2)))))])) (fun i => i ≤ n) (fun i => n - i) (0) (fun k i => bif Nat.beq k 905 then (8, i) else bif Nat.beq k 904 then (7, i) else (k, i)) ?_ ?_ ?_
  · exact ⟨⟨m_calg, ⟨rfl, rfl, rfl, rfl, rfl⟩, (by first | exact ⟨rfl, rfl, rfl, rfl⟩ | exact ⟨rfl, by omega, rfl, rfl⟩), (by first | exact ⟨rfl, rfl, rfl, rfl⟩ | exact ⟨rfl, by omega, rfl, rfl⟩), (mi), (mi), trivial⟩, ⟨⟨rfl, (sx), (by first | exact mt_vec (fun _ _ => rfl) | exact mt_mat (fun _ _ _ _ => rfl) | exact mt_tab (fun _ _ _ _ _ _ => rfl) | exact mt_arr0 | exact mt_app (fun _ _ => rfl) rfl | exact ⟨rfl, fun _ _ => mt_row (fun _ _ => rfl)⟩ | exact Mt_closed (V := _) closed_alg (fun _ _ _ => trivial) (by simp))⟩, ⟨rfl, (sx), (by first | exact mt_vec (fun _ _ => rfl) | exact mt_mat (fun _ _ _ _ => rfl) | exact mt_tab (fun _ _ _ _ _ _ => rfl) | exact mt_arr0 | exact mt_app (fun _ _ => rfl) rfl | exact ⟨rfl, fun _ _ => mt_row (fun _ _ => rfl)⟩ | exact Mt_closed (V := _) closed_alg (fun _ _ _ => trivial) (by simp))⟩, ⟨rfl, (sx), (by first | exact mt_vec (fun _ _ => rfl) | exact mt_mat (fun _ _ _ _ => rfl) | exact mt_tab (fun _ _ _ _ _ _ => rfl) | exact mt_arr0 | exact mt_app (fun _ _ => rfl) rfl | exact ⟨rfl, fun _ _ => mt_row (fun _ _ => rfl)⟩ | exact Mt_closed (V := _) closed_alg (fun _ _ _ => trivial) (by simp))⟩, trivial⟩, ⟨⟨(fun h => by first | exact ⟨rfl, rfl⟩ | exact absurd h (by decide)), (fun h => by first | exact ⟨rfl, rfl⟩ | exact absurd h (by decide)), (fun h => by first | exact ⟨rfl, rfl⟩ | exact absurd h (by decide)), trivial⟩, ⟨(fun h => by first | exact ⟨rfl, rfl⟩ | exact absurd h (by decide)), (fun h => by first | exact ⟨rfl, rfl⟩ | exact absurd h (by decide)), (fun h => by first | exact ⟨rfl, rfl⟩ | exact absurd h (by decide)), trivial⟩, ⟨(fun h => by first | exact ⟨rfl, rfl⟩ | exact absurd h (by decide)), (fun h => by first | exact ⟨rfl, rfl⟩ | exact absurd h (by decide)), (fun h => by first | exact ⟨rfl, rfl⟩ | exact absurd h (by decide)), trivial⟩, trivial⟩⟩
  · exact Nat.zero_le _
  intro i hi0
  refine sq (env2 := [(0, .cptr (algA p (n : Int) T fo)), (2, .ptr 2 0 [] 0 (vecA (fun _ => 0))), (4, .own 904 0 (2 * i) 108), (5, .own 905 0 (2 * i) 25), (10, .int .i64 (n : Int)), (11, .int .i64 (i : Int))]) (ol2 := [(2, .one (vecA (fun _ => 0)) (vecA (fun _ => 0))), (904, .one (.arr (2 * i) (fun _ => TB.zero 108)) (.arr (2 * i) (fun x => .fn (uG x) 2 (uC p n T fo x)))), (905, .one (.arr (2 * i) (fun _ => TB.zero 25)) (.arr (2 * i) (fun x => vecA (eF (x / 2)))))]) rfl rfl ?_
  apply sr tokTB (by kernel_rfl)
  · intro RR hRR
    refine w_lss rfl rfl ?_
    exact hRR
  refine snd_seq ?_
  refine snd_cond _ rfl (fun hc12 => ?_) (fun hc12 => ?_)
  · try simp only [hcs] at hc12
    have lt_i : i < n := by omega
    refine snd_skip ?_
    refine snd_seq ?_
    refine snd_block ?_
    apply sr tokTB (by kernel_rfl)
    · intro RR hRR
      refine w_move (by constructor) ?_
      refine w_assign (by constructor) ?_
      exact hRR
    apply sr tokTB (by kernel_rfl)
    · intro RR hRR
      refine w_move (by constructor) ?_
      refine w_move (by constructor) ?_
      refine w_move (by constructor) ?_
      refine y_call rfl (ec exn) (c_basis (by omega)) ?_
      refine w_callc rfl (ec (ec exn)) (c_behind) (by exact closed_cap2 closed_calg (closed_vec (n := 6))) (by exact ⟨closed_calg, closed_vec (n := 6), trivial⟩) ?_
      refine w_move (by constructor) ?_
      refine w_move (by constructor) ?_
      refine y_call rfl (ec exn) (c_basis (by omega)) ?_
      refine w_callc rfl (ec (ec exn)) (c_ahead) (by exact closed_cap2 closed_calg (closed_vec (n := 6))) (by exact ⟨closed_calg, closed_vec (n := 6), trivial⟩) ?_
      refine w_bsl2 und107 kn108 (by rw [sz108]; rfl) rfl (by constructor) (by constructor) (by first | exact trivial | exact cel_cap2) (by first | exact trivial | exact cel_cap2) (by exact sz108.symm) (by exact sz108.symm) (by first | exact trivial | exact ssh_vec | exact ⟨rfl, fun _ => trivial⟩) (by first | exact trivial | exact ssh_vec | exact ⟨rfl, fun _ => trivial⟩) ?_
      refine w_app_o und107 rfl rfl kn108 rfl rfl (fun C h => ⟨rfl, rfl, rfl, h⟩) (by rw [by108]; omega) (by omega) rfl ?_
      refine w_assign (by constructor) ?_
      exact hRR
    apply lr tokTB (by kernel_rfl)
    · intro RR hRR
      refine w_move (by constructor) ?_
      refine w_move (by constructor) ?_
      refine y_call rfl (ec exn) (c_basis (by omega)) ?_
      refine w_move (by constructor) ?_
      refine y_call rfl (ec exn) (c_basis (by omega)) ?_
      refine w_bsl2 und47 kn25 (by rw [sz25]; rfl) rfl (by constructor) (by constructor) (by first | exact trivial | exact cel_cap2) (by first | exact trivial | exact cel_cap2) (by exact sz25.symm) (by exact sz25.symm) (by first | exact trivial | exact ssh_vec | exact ⟨rfl, fun _ => trivial⟩) (by first | exact trivial | exact ssh_vec | exact ⟨rfl, fun _ => trivial⟩) ?_
      refine w_app_o und47 rfl rfl kn25 rfl rfl (fun C h => ⟨rfl, rfl, rfl, h⟩) (by rw [by25]; omega) (by omega) rfl ?_
      refine w_assign (by constructor) ?_
      exact hRR
    apply lr tokTB (by kernel_rfl)
    · intro RR hRR
      refine y_add rfl rfl ?_
      refine w_move (by constructor) ?_
      exact hRR
    refine ⟨i + 1, (fun k i => bif Nat.beq k 905 then (31, i) else bif Nat.beq k 904 then (24, i) else (k, i)), ?_, (by omega), (by dsimp only; omega)⟩
    exact ⟨⟨m_calg, ⟨rfl, rfl, rfl, rfl, rfl⟩, (by first | exact ⟨rfl, rfl, rfl, rfl⟩ | exact ⟨rfl, by omega, rfl, rfl⟩), (by first | exact ⟨rfl, rfl, rfl, rfl⟩ | exact ⟨rfl, by omega, rfl, rfl⟩), (mi), (mi), trivial⟩, ⟨⟨rfl, (sx), (by first | exact mt_vec (fun _ _ => rfl) | exact mt_mat (fun _ _ _ _ => rfl) | exact mt_tab (fun _ _ _ _ _ _ => rfl) | exact mt_arr0 | exact mt_app (fun _ _ => rfl) rfl | exact ⟨rfl, fun _ _ => mt_row (fun _ _ => rfl)⟩ | exact Mt_closed (V := _) closed_alg (fun _ _ _ => trivial) (by simp))⟩, ⟨(by exact congrArg (fun q => AV.arr q _) (show 2 * i + 2 = 2 * (i + 1) by omega)), (sx), (by exact mt_app2 (by omega) (fun j hj => Mt_closed (uCl j) (fun _ _ _ => trivial) (by simp)) (by rw [uE0]; exact mtCl closed_calg (closed_vec (n := 6))) (by rw [uE1]; exact mtCl closed_calg (closed_vec (n := 6))))⟩, ⟨(by exact congrArg (fun q => AV.arr q _) (show 2 * i + 2 = 2 * (i + 1) by omega)), (sx), (by exact mt_app2 (by omega) (fun j hj => mt_vec (fun _ _ => rfl)) (by rw [show 2 * i / 2 = i by omega]; exact mt_vec (fun _ _ => rfl)) (by rw [show (2 * i + 1) / 2 = i by omega]; exact mt_vec (fun _ _ => rfl)))⟩, trivial⟩, ⟨⟨(fun h => by first | exact ⟨rfl, rfl⟩ | exact absurd h (by decide)), (fun h => by first | exact ⟨rfl, rfl⟩ | exact absurd h (by decide)), (fun h => by first | exact ⟨rfl, rfl⟩ | exact absurd h (by decide)), trivial⟩, ⟨(fun h => by first | exact ⟨rfl, rfl⟩ | exact absurd h (by decide)), (fun h => by first | exact ⟨rfl, rfl⟩ | exact absurd h (by decide)), (fun h => by first | exact ⟨rfl, rfl⟩ | exact absurd h (by decide)), trivial⟩, ⟨(fun h => by first | exact ⟨rfl, rfl⟩ | exact absurd h (by decide)), (fun h => by first | exact ⟨rfl, rfl⟩ | exact absurd h (by decide)), (fun h => by first | exact ⟨rfl, rfl⟩ | exact absurd h (by decide)), trivial⟩, trivial⟩⟩
  · try simp only [hcs] at hc12
    have ge_i : n = i := by omega
    subst ge_i
    refine snd_exit ?_
    refine snd_emb (ρ := ρ0) (env2 := [(0, .cptr (algA p (n : Int) T fo)), (2, .ptr 2 0 [] 0 (vecA (fun _ => 0))), (4, .ro (2 * n) (fun x => .fn (uG x) 2 (uC p n T fo x))), (5, .ro (2 * n) (fun x => vecA (eF (x / 2))))]) (ol2 := [(2, .one (vecA (fun _ => 0)) (vecA (fun _ => 0)))]) ?_ ?_
    · exact ⟨⟨m_calg, ⟨rfl, rfl, rfl, rfl, rfl⟩, mt_fz ⟨ne_fst rfl, trivial⟩ rfl (fun j hj => Mt_closed (uCl j) (fun _ _ _ => trivial) (by simp)), mt_fz ⟨ne_fst rfl, trivial⟩ rfl (fun j hj => mt_vec (fun _ _ => rfl)), trivial⟩, ⟨⟨rfl, ssh_vec, mt_vec (fun _ _ => rfl)⟩, trivial⟩, ⟨⟨fun _ => ⟨rfl, rfl⟩, trivial⟩, trivial⟩⟩
    apply sr tokTB (by kernel_rfl)
    · intro RR hRR
      refine w_move (by constructor) ?_
      refine w_move (by constructor) ?_
      refine w_move (by constructor) ?_
      refine w_call0 rfl (exc exp_calg (exc (exp_closed (fun _ _ => trivial)) (exc (exp_closed (v := .ro (2 * n) (fun x => .fn (uG x) 2 (uC p n T fo x))) (fun x => uCl x)) exn))) (c_solved (M := 2 * n) (n := n) (G := uG) (NC := fun _ => 2) (CP := uC p n T fo) (Fv := uM p n T) (W := uW) (p := p) (T := T) (fo := fo) hp (by omega) (by omega) hn0 hn uCl (fun x i => uM_Bp (by omega) x i) (fun x => eF_Bp (by omega) _) (uHf (by omega) (by omega) hn (B8T_of (by omega) hT))) (by exact nr_pair (fun _ => trivial) trivial) (fun _ => by exact shift_pair rfl rfl) ?_
      refine w_ext rfl (by decide) (by constructor) ?_
      refine w_ext rfl (by decide) (by constructor) ?_
      refine w_stw rfl (by constructor) kn25 rfl (by exact trivial) (sx) (by exact sz25.symm) ?_
      refine w_assign (by constructor) ?_
      exact hRR
    refine snd_ret ?_
    show retQ TB _ _ _ _ _ _
    exact rt_ct (T := TB) rfl kn25 rfl sz25.symm ag25.symm (fun V => mt_vec (fun _ _ => rfl)) (fun V => congrArg AV.bool rfl)
end Go.Am

set_option linter.unusedVariables false
set_option linter.unusedSimpArgs false
set_option maxRecDepth 4000
namespace Go.Am
attribute [local irreducible] retQ retQp
open Go.Proofs
theorem c_l01Find {p : Int} {n : Nat} {T : Nat → Nat → Nat → Int} {fo : Nat → Int} (hp : primeB p = true) (hn0 : 0 < n) (hn : n ≤ 6) (hT : BpT p T) : ACalls Try.prog TB 83 [algA p (n : Int) T fo] (.tup 2 (pairA (vecA (uF p n T)) (.bool (decide (uOk p n T))))) [] := by
  have h : ACalls Try.prog TB 83 [algA p (n : Int) T fo] (.tup 2 (pairA (vecA (findV p n T)) (.bool (decide (okS p n T))))) [] := by
    by_cases h : oneP n (echGo p (n + 1) (unitS n T) (n * n)).no (echGo p (n + 1) (unitS n T) (n * n)).O
    · exact c_l01Find_ok hp hn0 hn hT h
    · exact c_l01Find_no hp hn0 hn hT h
  obtain ⟨h1, h2⟩ := okS_iff hp hn0 hn hT
  rw [show findV p n T = uF p n T from funext h2] at h
  rw [show decide (okS p n T) = decide (uOk p n T) from decide_eq_decide.2 h1] at h
  exact h
theorem c_l01Unit {p : Int} {n : Nat} {T : Nat → Nat → Nat → Int} {fo : Nat → Int} (hv : VN p n T fo) : ACalls Try.prog TB 75 [algA p (n : Int) T fo] (vecA (uF p n T)) [] := by
  refine acalls_of tokTB Try.func75 rfl rfl (Nat.le_of_ble_eq_true rfl) ?_
  apply sr tokTB (by kernel_rfl)
  · intro RR hRR
    refine w_boxc (HV.eq (by constructor)) (by exact trivial) ?_
    refine w_alloc kn25 rfl zr25 ?_
    exact hRR
  apply sr tokTB (by kernel_rfl)
  · intro RR hRR
    refine w_ldc rfl kn27 (by constructor) (by exact sz27.symm) (by exact ag27.symm) ?_
    refine y_call rfl (ec exn) (c_l01Find hv.hp hv.n0 hv.n6 hv.hT) ?_
    refine w_move (by constructor) ?_
    refine w_ext rfl (by decide) (by constructor) ?_
    refine w_ext rfl (by decide) (by constructor) ?_
    refine w_alloc kn25 rfl zr25 ?_
    refine w_stw rfl (by constructor) kn25 rfl (by exact trivial) (sx) (by exact sz25.symm) ?_
    refine w_assign (by constructor) ?_
    exact hRR
  apply sr tokTB (by kernel_rfl)
  · intro RR hRR
    refine w_ldp rfl kn25 rfl (by constructor) (by exact sz25.symm) (by exact ag25.symm) ?_
    refine w_stw rfl (by constructor) kn25 rfl (by exact trivial) (sx) (by exact sz25.symm) ?_
    exact hRR
  refine snd_ret ?_
  exact rt_c (T := TB) rfl kn25 rfl sz25.symm ag25.symm (fun V => m_vec (fun j hj => rfl))
theorem c_unit {p : Int} {n : Nat} {T : Nat → Nat → Nat → Int} {fo : Nat → Int} (hv : VN p n T fo) : ACalls Try.prog TB 61 [.cptr (algA p (n : Int) T fo)] (vecA (uF p n T)) [] := by
  refine acalls_of tokTB Try.func61 rfl rfl (Nat.le_of_ble_eq_true rfl) ?_
  apply sr tokTB (by kernel_rfl)
  · intro RR hRR
    refine w_alloc kn25 rfl zr25 ?_
    exact hRR
  apply sr tokTB (by kernel_rfl)
  · intro RR hRR
    refine w_move (by constructor) ?_
    refine y_call rfl (ec exn) (c_findUnit hv.hp hv.n0 hv.n6 hv.hT) ?_
    refine w_move (by constructor) ?_
    refine w_ext rfl (by decide) (by constructor) ?_
    refine w_ext rfl (by decide) (by constructor) ?_
    refine w_alloc kn25 rfl zr25 ?_
    refine w_stw rfl (by constructor) kn25 rfl (by exact trivial) (sx) (by exact sz25.symm) ?_
    refine w_assign (by constructor) ?_
    exact hRR
  apply sr tokTB (by kernel_rfl)
  · intro RR hRR
    refine w_ldp rfl kn25 rfl (by constructor) (by exact sz25.symm) (by exact ag25.symm) ?_
    refine w_stw rfl (by constructor) kn25 rfl (by exact trivial) (sx) (by exact sz25.symm) ?_
    exact hRR
  refine snd_ret ?_
  exact rt_c (T := TB) rfl kn25 rfl sz25.symm ag25.symm (fun V => m_vec (fun j hj => rfl))
end Go.Am

set_option linter.unusedVariables false
set_option linter.unusedSimpArgs false
set_option maxRecDepth 4000
namespace Go.Am
attribute [local irreducible] retQ retQp
open Go.Proofs
theorem c_eqVector {u v : Nat → Int} : ACalls Try.prog TB 19 [vecA u, vecA v] (.bool (decide (eqN 6 u v))) [] := by
  refine acalls_of tokTB Try.func19 rfl rfl (Nat.le_of_ble_eq_true rfl) ?_
  apply sr tokTB (by kernel_rfl)
  · intro RR hRR
    refine w_boxc (HV.eq (by constructor)) (by exact trivial) ?_
    refine w_boxc (HV.eq (by constructor)) (by exact trivial) ?_
    refine w_assign (by constructor) ?_
    exact hRR
  refine snd_seq ?_
  apply sr tokTB (by kernel_rfl)
  · intro RR hRR
    refine w_assign (by constructor) ?_
    exact hRR
  refine snd_block ?_
  refine snd_loop (S := Nat) (fun i => ([(2, .cptr (vecA u)), (3, .cptr (vecA v)), (5, .int .i64 (i : Int))], [])) (fun i => i ≤ 6 ∧ (∀ a, a < i → u a = v a)) (fun i => 6 - i) (0) ρ0 ?_ ?_ ?_
  · exact ⟨⟨(m_cvec (fun _ _ => rfl)), (m_cvec (fun _ _ => rfl)), (mi), trivial⟩, trivial, trivial⟩
  · exact ⟨Nat.zero_le _, fun j hj => absurd hj (Nat.not_lt_zero _)⟩
  intro i hi0
  refine sq (env2 := [(2, .cptr (vecA u)), (3, .cptr (vecA v)), (5, .int .i64 (i : Int))]) (ol2 := []) rfl rfl ?_
  obtain ⟨le_i, inv_i⟩ := hi0
  refine snd_seq ?_
  apply sr tokTB (by kernel_rfl)
  · intro RR hRR
    refine w_move (by constructor) ?_
    refine w_lss rfl rfl ?_
    exact hRR
  refine snd_cond _ rfl (fun hc7 => ?_) (fun hc7 => ?_)
  · try simp only [hcs] at hc7
    have lt_i : i < 6 := by omega
    refine snd_skip ?_
    refine snd_seq ?_
    refine snd_block ?_
    apply sd tokTB mixed (by kernel_rfl) (by kernel_rfl)
    · intro RR hRR
      refine w_move (by constructor) ?_
      refine w_iac rfl rfl und25 kn5 (by exact sz5.symm) ?_ rfl ?_
      · exact ⟨by omega, by omega⟩
      first | refine w_ldc rfl kn5 (by constructor) (by exact sz5.symm) (by exact ag5.symm) ?_ | refine w_ldp rfl kn5 rfl (by constructor) (by exact sz5.symm) (by exact ag5.symm) ?_
      refine w_move (by constructor) ?_
      refine w_iac rfl rfl und25 kn5 (by exact sz5.symm) ?_ rfl ?_
      · exact ⟨by omega, by omega⟩
      first | refine w_ldc rfl kn5 (by constructor) (by exact sz5.symm) (by exact ag5.symm) ?_ | refine w_ldp rfl kn5 rfl (by constructor) (by exact sz5.symm) (by exact ag5.symm) ?_
      refine w_neq rfl rfl ?_
      exact hRR
    refine snd_cond _ rfl (fun hc16 => ?_) (fun hc16 => ?_)
    · skip
      apply sr tokTB (by kernel_rfl)
      · intro RR hRR
        refine w_assign (by constructor) ?_
        exact hRR
      refine snd_ret ?_
      exact rt (T := TB) (fun V => m_bool (by symm; rw [decide_eq_false_iff_not]; intro h; exact of_decide_eq_true hc16 (h i (by omega))))
    · skip
      refine snd_skip ?_
      apply lr tokTB (by kernel_rfl)
      · intro RR hRR
        refine w_move (by constructor) ?_
        refine y_add rfl rfl ?_
        refine w_assign (by constructor) ?_
        exact hRR
      refine ⟨i + 1, ρ0, ?_, ⟨by omega, all_step inv_i (Classical.not_not.1 (of_decide_eq_false hc16))⟩, (by dsimp only; omega)⟩
      exact ⟨⟨(m_cvec (fun _ _ => rfl)), (m_cvec (fun _ _ => rfl)), (mi), trivial⟩, trivial, trivial⟩
  · try simp only [hcs] at hc7
    have ge_i : 6 = i := by omega
    subst ge_i
    refine snd_exit ?_
    apply sr tokTB (by kernel_rfl)
    · intro RR hRR
      refine w_assign (by constructor) ?_
      exact hRR
    refine snd_ret ?_
    exact rt (T := TB) (fun V => m_bool (by symm; rw [decide_eq_true_eq]; exact inv_i))
end Go.Am

set_option linter.unusedVariables false
set_option linter.unusedSimpArgs false
set_option maxRecDepth 4000
namespace Go.Am
attribute [local irreducible] retQ retQp
open Go.Proofs
theorem c_eqByteA6 {v : Nat → Int} : ACalls Try.prog TB 82 [vecA v, vecA v] (.bool true) [] := by
  refine acalls_of tokTB Try.func82 rfl rfl (Nat.le_of_ble_eq_true rfl) ?_
  apply sr tokTB (by kernel_rfl)
  · intro RR hRR
    refine w_boxc (HV.eq (by constructor)) (by exact trivial) ?_
    refine w_boxc (HV.eq (by constructor)) (by exact trivial) ?_
    refine w_assign (by constructor) ?_
    exact hRR
  refine snd_seq ?_
  apply sr tokTB (by kernel_rfl)
  · intro RR hRR
    refine w_assign (by constructor) ?_
    exact hRR
  refine snd_block ?_
  refine snd_loop (S := Nat) (fun i => ([(2, .cptr (vecA v)), (3, .cptr (vecA v)), (5, .int .i64 (i : Int))], [])) (fun i => i ≤ 6) (fun i => 6 - i) (0) ρ0 ?_ ?_ ?_
  · exact ⟨⟨(m_cvec (fun _ _ => rfl)), (m_cvec (fun _ _ => rfl)), (mi), trivial⟩, trivial, trivial⟩
  · exact Nat.zero_le _
  intro i hi0
  refine sq (env2 := [(2, .cptr (vecA v)), (3, .cptr (vecA v)), (5, .int .i64 (i : Int))]) (ol2 := []) rfl rfl ?_
  refine snd_seq ?_
  apply sr tokTB (by kernel_rfl)
  · intro RR hRR
    refine w_move (by constructor) ?_
    refine w_lss rfl rfl ?_
    exact hRR
  refine snd_cond _ rfl (fun hc7 => ?_) (fun hc7 => ?_)
  · try simp only [hcs] at hc7
    have lt_i : i < 6 := by omega
    refine snd_skip ?_
    refine snd_seq ?_
    refine snd_block ?_
    apply sd tokTB mixed (by kernel_rfl) (by kernel_rfl)
    · intro RR hRR
      refine w_move (by constructor) ?_
      refine w_iac rfl rfl und22 kn5 (by exact sz5.symm) ?_ rfl ?_
      · exact ⟨by omega, by omega⟩
      first | refine w_ldc rfl kn5 (by constructor) (by exact sz5.symm) (by exact ag5.symm) ?_ | refine w_ldp rfl kn5 rfl (by constructor) (by exact sz5.symm) (by exact ag5.symm) ?_
      refine w_move (by constructor) ?_
      refine w_iac rfl rfl und22 kn5 (by exact sz5.symm) ?_ rfl ?_
      · exact ⟨by omega, by omega⟩
      first | refine w_ldc rfl kn5 (by constructor) (by exact sz5.symm) (by exact ag5.symm) ?_ | refine w_ldp rfl kn5 rfl (by constructor) (by exact sz5.symm) (by exact ag5.symm) ?_
      refine w_neq rfl rfl ?_
      exact hRR
    refine snd_cond_false (by exact congrArg AV.bool (decide_eq_false (by simp))) ?_
    refine snd_skip ?_
    apply lr tokTB (by kernel_rfl)
    · intro RR hRR
      refine w_move (by constructor) ?_
      refine y_add rfl rfl ?_
      refine w_assign (by constructor) ?_
      exact hRR
    refine ⟨i + 1, ρ0, ?_, (by omega), (by dsimp only; omega)⟩
    exact ⟨⟨(m_cvec (fun _ _ => rfl)), (m_cvec (fun _ _ => rfl)), (mi), trivial⟩, trivial, trivial⟩
  · try simp only [hcs] at hc7
    have ge_i : 6 = i := by omega
    subst ge_i
    refine snd_exit ?_
    apply sr tokTB (by kernel_rfl)
    · intro RR hRR
      refine w_assign (by constructor) ?_
      exact hRR
    refine snd_ret ?_
    exact rt (T := TB) (fun V => rfl)
theorem c_eqByteA6A6 {M : Nat → Nat → Int} : ACalls Try.prog TB 73 [matA M, matA M] (.bool true) [] := by
  refine acalls_of tokTB Try.func73 rfl rfl (Nat.le_of_ble_eq_true rfl) ?_
  apply sr tokTB (by kernel_rfl)
  · intro RR hRR
    refine w_boxc (HV.eq (by constructor)) (by exact trivial) ?_
    refine w_boxc (HV.eq (by constructor)) (by exact trivial) ?_
    refine w_assign (by constructor) ?_
    exact hRR
  refine snd_seq ?_
  apply sr tokTB (by kernel_rfl)
  · intro RR hRR
    refine w_assign (by constructor) ?_
    exact hRR
  refine snd_block ?_
  refine snd_loop (S := Nat) (fun i => ([(2, .cptr (matA M)), (3, .cptr (matA M)), (5, .int .i64 (i : Int))], [])) (fun i => i ≤ 6) (fun i => 6 - i) (0) ρ0 ?_ ?_ ?_
  · exact ⟨⟨(by exact Mt_closed (V := _) (by first | exact fun _ _ => trivial | exact fun _ _ _ => trivial) (fun _ _ _ => trivial) (by simp)), (by exact Mt_closed (V := _) (by first | exact fun _ _ => trivial | exact fun _ _ _ => trivial) (fun _ _ _ => trivial) (by simp)), (mi), trivial⟩, trivial, trivial⟩
  · exact Nat.zero_le _
  intro i hi0
  refine sq (env2 := [(2, .cptr (matA M)), (3, .cptr (matA M)), (5, .int .i64 (i : Int))]) (ol2 := []) rfl rfl ?_
  refine snd_seq ?_
  apply sr tokTB (by kernel_rfl)
  · intro RR hRR
    refine w_move (by constructor) ?_
    refine w_lss rfl rfl ?_
    exact hRR
  refine snd_cond _ rfl (fun hc7 => ?_) (fun hc7 => ?_)
  · try simp only [hcs] at hc7
    have lt_i : i < 6 := by omega
    refine snd_skip ?_
    refine snd_seq ?_
    refine snd_block ?_
    apply sd tokTB mixed (by kernel_rfl) (by kernel_rfl)
    · intro RR hRR
      refine w_move (by constructor) ?_
      refine w_iac rfl rfl und23 kn22 (by exact sz22.symm) ?_ rfl ?_
      · exact ⟨by omega, by omega⟩
      refine w_ldc rfl kn22 (by constructor) (by exact sz22.symm) (by exact ag22.symm) ?_
      refine w_move (by constructor) ?_
      refine w_iac rfl rfl und23 kn22 (by exact sz22.symm) ?_ rfl ?_
      · exact ⟨by omega, by omega⟩
      refine w_ldc rfl kn22 (by constructor) (by exact sz22.symm) (by exact ag22.symm) ?_
      refine y_call rfl (ec (ec exn)) (c_eqByteA6 (v := M i)) ?_
      refine w_not rfl ?_
      exact hRR
    refine snd_cond_false (by exact rfl) ?_
    refine snd_skip ?_
    apply lr tokTB (by kernel_rfl)
    · intro RR hRR
      refine w_move (by constructor) ?_
      refine y_add rfl rfl ?_
      refine w_assign (by constructor) ?_
      exact hRR
    refine ⟨i + 1, ρ0, ?_, (by omega), (by dsimp only; omega)⟩
    exact ⟨⟨(by exact Mt_closed (V := _) (by first | exact fun _ _ => trivial | exact fun _ _ _ => trivial) (fun _ _ _ => trivial) (by simp)), (by exact Mt_closed (V := _) (by first | exact fun _ _ => trivial | exact fun _ _ _ => trivial) (fun _ _ _ => trivial) (by simp)), (mi), trivial⟩, trivial, trivial⟩
  · try simp only [hcs] at hc7
    have ge_i : 6 = i := by omega
    subst ge_i
    refine snd_exit ?_
    apply sr tokTB (by kernel_rfl)
    · intro RR hRR
      refine w_assign (by constructor) ?_
      exact hRR
    refine snd_ret ?_
    exact rt (T := TB) (fun V => rfl)
theorem c_eqByteA6A6A6 {T : T3} : ACalls Try.prog TB 50 [tabA T, tabA T] (.bool true) [] := by
  refine acalls_of tokTB Try.func50 rfl rfl (Nat.le_of_ble_eq_true rfl) ?_
  apply sr tokTB (by kernel_rfl)
  · intro RR hRR
    refine w_boxc (HV.eq (by constructor)) (by exact trivial) ?_
    refine w_boxc (HV.eq (by constructor)) (by exact trivial) ?_
    refine w_assign (by constructor) ?_
    exact hRR
  refine snd_seq ?_
  apply sr tokTB (by kernel_rfl)
  · intro RR hRR
    refine w_assign (by constructor) ?_
    exact hRR
  refine snd_block ?_
  refine snd_loop (S := Nat) (fun i => ([(2, .cptr (tabA T)), (3, .cptr (tabA T)), (5, .int .i64 (i : Int))], [])) (fun i => i ≤ 6) (fun i => 6 - i) (0) ρ0 ?_ ?_ ?_
  · exact ⟨⟨(by exact Mt_closed (V := _) (by first | exact fun _ _ => trivial | exact fun _ _ _ => trivial) (fun _ _ _ => trivial) (by simp)), (by exact Mt_closed (V := _) (by first | exact fun _ _ => trivial | exact fun _ _ _ => trivial) (fun _ _ _ => trivial) (by simp)), (mi), trivial⟩, trivial, trivial⟩
  · exact Nat.zero_le _
  intro i hi0
  refine sq (env2 := [(2, .cptr (tabA T)), (3, .cptr (tabA T)), (5, .int .i64 (i : Int))]) (ol2 := []) rfl rfl ?_
  refine snd_seq ?_
  apply sr tokTB (by kernel_rfl)
  · intro RR hRR
    refine w_move (by constructor) ?_
    refine w_lss rfl rfl ?_
    exact hRR
  refine snd_cond _ rfl (fun hc7 => ?_) (fun hc7 => ?_)
  · try simp only [hcs] at hc7
    have lt_i : i < 6 := by omega
    refine snd_skip ?_
    refine snd_seq ?_
    refine snd_block ?_
    apply sd tokTB mixed (by kernel_rfl) (by kernel_rfl)
    · intro RR hRR
      refine w_move (by constructor) ?_
      refine w_iac rfl rfl und24 kn23 (by exact sz23.symm) ?_ rfl ?_
      · exact ⟨by omega, by omega⟩
      refine w_ldc rfl kn23 (by constructor) (by exact sz23.symm) (by exact ag23.symm) ?_
      refine w_move (by constructor) ?_
      refine w_iac rfl rfl und24 kn23 (by exact sz23.symm) ?_ rfl ?_
      · exact ⟨by omega, by omega⟩
      refine w_ldc rfl kn23 (by constructor) (by exact sz23.symm) (by exact ag23.symm) ?_
      refine y_call rfl (ec (ec exn)) (c_eqByteA6A6 (M := T i)) ?_
      refine w_not rfl ?_
      exact hRR
    refine snd_cond_false (by exact rfl) ?_
    refine snd_skip ?_
    apply lr tokTB (by kernel_rfl)
    · intro RR hRR
      refine w_move (by constructor) ?_
      refine y_add rfl rfl ?_
      refine w_assign (by constructor) ?_
      exact hRR
    refine ⟨i + 1, ρ0, ?_, (by omega), (by dsimp only; omega)⟩
    exact ⟨⟨(by exact Mt_closed (V := _) (by first | exact fun _ _ => trivial | exact fun _ _ _ => trivial) (fun _ _ _ => trivial) (by simp)), (by exact Mt_closed (V := _) (by first | exact fun _ _ => trivial | exact fun _ _ _ => trivial) (fun _ _ _ => trivial) (by simp)), (mi), trivial⟩, trivial, trivial⟩
  · try simp only [hcs] at hc7
    have ge_i : 6 = i := by omega
    subst ge_i
    refine snd_exit ?_
    apply sr tokTB (by kernel_rfl)
    · intro RR hRR
      refine w_assign (by constructor) ?_
      exact hRR
    refine snd_ret ?_
    exact rt (T := TB) (fun V => rfl)
theorem c_eqAlgebra {p n : Int} {T : Nat → Nat → Nat → Int} {fo : Nat → Int} : ACalls Try.prog TB 27 [algA p n T fo, algA p n T fo] (.bool true) [] := by
  refine acalls_of tokTB Try.func27 rfl rfl (Nat.le_of_ble_eq_true rfl) ?_
  apply sr tokTB (by kernel_rfl)
  · intro RR hRR
    refine w_boxc (HV.eq (by constructor)) (by exact trivial) ?_
    refine w_boxc (HV.eq (by constructor)) (by exact trivial) ?_
    refine w_assign (by constructor) ?_
    exact hRR
  refine snd_seq ?_
  apply sr tokTB (by kernel_rfl)
  · intro RR hRR
    refine w_fac rfl und27 rfl kn2 nz2 (by decide) rfl (by constructor) ?_
    refine w_ldc rfl kn2 (by constructor) (by exact sz2.symm) (by exact ag2.symm) ?_
    refine w_fac rfl und27 rfl kn2 nz2 (by decide) rfl (by constructor) ?_
    refine w_ldc rfl kn2 (by constructor) (by exact sz2.symm) (by exact ag2.symm) ?_
    refine w_neq rfl rfl ?_
    exact hRR
  refine snd_cond_false (by exact congrArg AV.bool (decide_eq_false (by simp))) ?_
  refine snd_skip ?_
  refine snd_seq ?_
  apply sr tokTB (by kernel_rfl)
  · intro RR hRR
    refine w_fac rfl und27 rfl kn2 nz2 (by decide) rfl (by constructor) ?_
    refine w_ldc rfl kn2 (by constructor) (by exact sz2.symm) (by exact ag2.symm) ?_
    refine w_fac rfl und27 rfl kn2 nz2 (by decide) rfl (by constructor) ?_
    refine w_ldc rfl kn2 (by constructor) (by exact sz2.symm) (by exact ag2.symm) ?_
    refine w_neq rfl rfl ?_
    exact hRR
  refine snd_cond_false (by exact congrArg AV.bool (decide_eq_false (by simp))) ?_
  refine snd_skip ?_
  refine snd_seq ?_
  apply sr tokTB (by kernel_rfl)
  · intro RR hRR
    refine w_fac rfl und27 rfl kn24 nz24 (by decide) rfl (by constructor) ?_
    refine w_ldc rfl kn24 (by constructor) (by exact sz24.symm) (by exact ag24.symm) ?_
    refine w_fac rfl und27 rfl kn24 nz24 (by decide) rfl (by constructor) ?_
    refine w_ldc rfl kn24 (by constructor) (by exact sz24.symm) (by exact ag24.symm) ?_
    refine y_call rfl (ec (ec exn)) (c_eqByteA6A6A6 (T := T)) ?_
    refine w_not rfl ?_
    exact hRR
  refine snd_cond_false (by exact rfl) ?_
  refine snd_skip ?_
  refine snd_seq ?_
  apply sr tokTB (by kernel_rfl)
  · intro RR hRR
    refine w_fac rfl und27 rfl kn25 nz25 (by decide) rfl (by constructor) ?_
    refine w_ldc rfl kn25 (by constructor) (by exact sz25.symm) (by exact ag25.symm) ?_
    refine w_fac rfl und27 rfl kn25 nz25 (by decide) rfl (by constructor) ?_
    refine w_ldc rfl kn25 (by constructor) (by exact sz25.symm) (by exact ag25.symm) ?_
    refine y_call rfl (ec (ec exn)) (((show decide (eqN 6 fo fo) = true from decide_eq_true (fun i _ => rfl)) ▸ c_eqVector (u := fo) (v := fo))) ?_
    refine w_not rfl ?_
    exact hRR
  refine snd_cond_false (by exact rfl) ?_
  refine snd_skip ?_
  apply sr tokTB (by kernel_rfl)
  · intro RR hRR
    refine w_assign (by constructor) ?_
    exact hRR
  refine snd_ret ?_
  exact rt (T := TB) (fun V => rfl)
end Go.Am

set_option linter.unusedVariables false
set_option linter.unusedSimpArgs false
set_option maxRecDepth 4000
namespace Go.Am
attribute [local irreducible] retQ retQp
open Go.Proofs
theorem zr29 : TB.zero 29 = dskA 0 0 (fun _ _ _ => 0) (fun _ => 0) (fun _ => 0) (fun _ => 0) ByteArray.empty := by
  refine congrArg (AV.sct 4) (funext fun i => ?_)
  match i with
  | 0 =>
    refine congrArg (AV.sct 4) (funext fun i => ?_)
    match i with
    | 0 => rfl
    | 1 => rfl
    | 2 => rfl
    | 3 => rfl
    | n + 4 => rfl
  | 1 => rfl
  | 2 => rfl
  | 3 => rfl
  | n + 4 => rfl
theorem c_pairP {i j : Nat} (hi : i < 6) : ACalls Try.prog TB 57 [.int .i64 (i : Int), .int .i64 (j : Int)] (.int .i64 (prP i j)) [] := by
  refine acalls_of tokTB Try.func57 rfl rfl (Nat.le_of_ble_eq_true rfl) ?_
  apply sr tokTB (by kernel_rfl)
  · intro RR hRR
    refine w_assign (by constructor) ?_
    exact hRR
  refine snd_seq ?_
  apply sr tokTB (by kernel_rfl)
  · intro RR hRR
    refine w_move (by constructor) ?_
    refine w_move (by constructor) ?_
    refine w_neq rfl rfl ?_
    exact hRR
  refine snd_cond _ rfl (fun hc7 => ?_) (fun hc7 => ?_)
  · try simp only [hcs] at hc7
    apply sr tokTB (by kernel_rfl)
    · intro RR hRR
      refine w_assign (by constructor) ?_
      exact hRR
    refine snd_ret ?_
    exact rt (T := TB) (fun V => m_int (by unfold prP; rw [if_neg (by omega)]))
  · try simp only [hcs] at hc7
    refine snd_skip ?_
    apply sr tokTB (by kernel_rfl)
    · intro RR hRR
      refine w_move (by constructor) ?_
      refine w_assign (by constructor) ?_
      exact hRR
    refine snd_ret ?_
    exact rt (T := TB) (fun V => m_int (by unfold prP; rw [if_pos (by omega)]))
theorem c_built {n : Nat} {p : Int} {fo : Nat → Int} {g : Nat} {P : Nat → Nat → Int} (hn : n ≤ 6) (hP : ∀ i j, i < n → j < n → P i j < 6) (hf : ∀ i j, i < n → j < n → ACalls Try.prog TB g [.int .i64 (i : Int), .int .i64 (j : Int)] (.int .i64 (P i j)) []) : ACalls Try.prog TB 54 [.int .i64 p, .int .i64 (n : Int), vecA fo, .fn g 0 (fun _ => .any)] (algA p (n : Int) (bltT n P (n) (0)) fo) [] := by
  have hcl : (AV.fn g 0 (fun _ => .any)).closed := fun _ => trivial
  refine acalls_of tokTB Try.func54 rfl rfl (Nat.le_of_ble_eq_true rfl) ?_
  apply sr tokTB (by kernel_rfl)
  · intro RR hRR
    refine w_boxc (HV.eq (by constructor)) (by exact trivial) ?_
    refine w_alloc kn27 rfl zr27 ?_
    exact hRR
  apply sr tokTB (by kernel_rfl)
  · intro RR hRR
    refine w_move (by constructor) ?_
    refine w_move (by constructor) ?_
    refine w_ldc rfl kn25 (by constructor) (by exact sz25.symm) (by exact ag25.symm) ?_
    refine w_bld_s kn27 zr27 und27 rfl (by exact ⟨rfl, kn2, sz2, rfl, kn2, sz2, rfl, kn24, sz24, rfl, kn25, sz25, trivial⟩) (by exact ⟨⟨by decide, trivial, rfl⟩, ⟨by decide, trivial, rfl⟩, ⟨by decide, trivial, rfl⟩, trivial⟩) (c := algF p (n : Int) (fun _ _ _ => 0) fo) (funext fun i => by match i with | 0 => rfl | 1 => rfl | 2 => rfl | 3 => rfl | i + 4 => rfl) ?_
    refine w_alloc kn27 rfl zr27 ?_
    refine w_stw rfl (by constructor) kn27 rfl (by exact trivial) (sx) (by exact sz27.symm) ?_
    exact hRR
  refine snd_seq ?_
  apply sr tokTB (by kernel_rfl)
  · intro RR hRR
    refine w_move (by constructor) ?_
    refine w_move (by constructor) ?_
    exact hRR
  refine snd_block ?_
  refine snd_loop (S := Nat) (fun i => ([(1, .int .i64 (n : Int)), (3, .fn g 0 (fun _ => .any)), (8, .ptr 8 0 [] 0 (algA 0 0 (fun _ _ _ => 0) (fun _ => 0))), (9, .ptr 9 0 [] 0 (algA 0 0 (fun _ _ _ => 0) (fun _ => 0))), (17, .int .i64 (n : Int)), (18, .int .i64 (i : Int))], [(8, .one (algA 0 0 (fun _ _ _ => 0) (fun _ => 0)) (algA 0 0 (fun _ _ _ => 0) (fun _ => 0))), (9, .one (algA 0 0 (fun _ _ _ => 0) (fun _ => 0)) (algA p (n : Int) (bltT n P (i) (0)) fo))])) (fun i => i ≤ n) (fun i => n - i) (0) ρ0 ?_ ?_ ?_
  · exact ⟨⟨(mi), (Mt_closed (V := _) (by assumption) (fun _ _ _ => trivial) (by simp)), ⟨rfl, rfl, rfl, rfl, rfl⟩, ⟨rfl, rfl, rfl, rfl, rfl⟩, (mi), (mi), trivial⟩, ⟨⟨rfl, (sx), (by first | exact mt_vec (fun _ _ => rfl) | exact mt_mat (fun _ _ _ _ => rfl) | exact mt_tab (fun _ _ _ _ _ _ => rfl) | exact mt_arr0 | exact mt_app (fun _ _ => rfl) rfl | exact ⟨rfl, fun _ _ => mt_row (fun _ _ => rfl)⟩ | exact Mt_closed (V := _) closed_alg (fun _ _ _ => trivial) (by simp))⟩, ⟨rfl, (sx), (by exact mt_alg rfl rfl (fun a b c _ _ _ => blt_0.symm) (fun _ _ => rfl))⟩, trivial⟩, ⟨⟨(fun h => by first | exact ⟨rfl, rfl⟩ | exact absurd h (by decide)), (fun h => by first | exact ⟨rfl, rfl⟩ | exact absurd h (by decide)), trivial⟩, ⟨(fun h => by first | exact ⟨rfl, rfl⟩ | exact absurd h (by decide)), (fun h => by first | exact ⟨rfl, rfl⟩ | exact absurd h (by decide)), trivial⟩, trivial⟩⟩
  · exact Nat.zero_le _
  intro i hi0
  refine sq (env2 := [(1, .int .i64 (n : Int)), (3, .fn g 0 (fun _ => .any)), (8, .ptr 8 0 [] 0 (algA 0 0 (fun _ _ _ => 0) (fun _ => 0))), (9, .ptr 9 0 [] 0 (algA 0 0 (fun _ _ _ => 0) (fun _ => 0))), (17, .int .i64 (n : Int)), (18, .int .i64 (i : Int))]) (ol2 := [(8, .one (algA 0 0 (fun _ _ _ => 0) (fun _ => 0)) (algA 0 0 (fun _ _ _ => 0) (fun _ => 0))), (9, .one (algA 0 0 (fun _ _ _ => 0) (fun _ => 0)) (algA p (n : Int) (bltT n P (i) (0)) fo))]) rfl rfl ?_
  apply sr tokTB (by kernel_rfl)
  · intro RR hRR
    refine w_lss rfl rfl ?_
    exact hRR
  refine snd_seq ?_
  refine snd_cond _ rfl (fun hc19 => ?_) (fun hc19 => ?_)
  · try simp only [hcs] at hc19
    have lt_i : i < n := by omega
    refine snd_skip ?_
    refine snd_seq ?_
    refine snd_block ?_
    apply sr tokTB (by kernel_rfl)
    · intro RR hRR
      refine w_move (by constructor) ?_
      refine w_assign (by constructor) ?_
      exact hRR
    apply sr tokTB (by kernel_rfl)
    · intro RR hRR
      refine w_move (by constructor) ?_
      refine w_move (by constructor) ?_
      exact hRR
    refine snd_block ?_
    refine snd_loop (S := Nat) (fun j => ([(1, .int .i64 (n : Int)), (3, .fn g 0 (fun _ => .any)), (8, .ptr 8 0 [] 0 (algA 0 0 (fun _ _ _ => 0) (fun _ => 0))), (9, .ptr 9 0 [] 0 (algA 0 0 (fun _ _ _ => 0) (fun _ => 0))), (10, .int .i64 (i : Int)), (17, .int .i64 (n : Int)), (18, .int .i64 (i : Int)), (21, .int .i64 (n : Int)), (22, .int .i64 (j : Int))], [(8, .one (algA 0 0 (fun _ _ _ => 0) (fun _ => 0)) (algA 0 0 (fun _ _ _ => 0) (fun _ => 0))), (9, .one (algA 0 0 (fun _ _ _ => 0) (fun _ => 0)) (algA p (n : Int) (bltT n P (i) (j)) fo))])) (fun j => j ≤ n) (fun j => n - j) (0) ρ0 ?_ ?_ ?_
    · exact ⟨⟨(mi), (Mt_closed (V := _) (by assumption) (fun _ _ _ => trivial) (by simp)), ⟨rfl, rfl, rfl, rfl, rfl⟩, ⟨rfl, rfl, rfl, rfl, rfl⟩, (mi), (mi), (mi), (mi), (mi), trivial⟩, ⟨⟨rfl, (sx), (by first | exact mt_vec (fun _ _ => rfl) | exact mt_mat (fun _ _ _ _ => rfl) | exact mt_tab (fun _ _ _ _ _ _ => rfl) | exact mt_arr0 | exact mt_app (fun _ _ => rfl) rfl | exact ⟨rfl, fun _ _ => mt_row (fun _ _ => rfl)⟩ | exact Mt_closed (V := _) closed_alg (fun _ _ _ => trivial) (by simp))⟩, ⟨rfl, (sx), (by exact mt_alg rfl rfl (fun _ _ _ _ _ _ => rfl) (fun _ _ => rfl))⟩, trivial⟩, ⟨⟨(fun h => by first | exact ⟨rfl, rfl⟩ | exact absurd h (by decide)), (fun h => by first | exact ⟨rfl, rfl⟩ | exact absurd h (by decide)), trivial⟩, ⟨(fun h => by first | exact ⟨rfl, rfl⟩ | exact absurd h (by decide)), (fun h => by first | exact ⟨rfl, rfl⟩ | exact absurd h (by decide)), trivial⟩, trivial⟩⟩
    · exact Nat.zero_le _
    intro j hi2
    refine sq (env2 := [(1, .int .i64 (n : Int)), (3, .fn g 0 (fun _ => .any)), (8, .ptr 8 0 [] 0 (algA 0 0 (fun _ _ _ => 0) (fun _ => 0))), (9, .ptr 9 0 [] 0 (algA 0 0 (fun _ _ _ => 0) (fun _ => 0))), (10, .int .i64 (i : Int)), (17, .int .i64 (n : Int)), (18, .int .i64 (i : Int)), (21, .int .i64 (n : Int)), (22, .int .i64 (j : Int))]) (ol2 := [(8, .one (algA 0 0 (fun _ _ _ => 0) (fun _ => 0)) (algA 0 0 (fun _ _ _ => 0) (fun _ => 0))), (9, .one (algA 0 0 (fun _ _ _ => 0) (fun _ => 0)) (algA p (n : Int) (bltT n P (i) (j)) fo))]) rfl rfl ?_
    apply sr tokTB (by kernel_rfl)
    · intro RR hRR
      refine w_lss rfl rfl ?_
      exact hRR
    refine snd_seq ?_
    refine snd_cond _ rfl (fun hc23 => ?_) (fun hc23 => ?_)
    · try simp only [hcs] at hc23
      have lt_j : j < n := by omega
      refine snd_skip ?_
      refine snd_seq ?_
      refine snd_block ?_
      apply sr tokTB (by kernel_rfl)
      · intro RR hRR
        refine w_move (by constructor) ?_
        refine w_assign (by constructor) ?_
        exact hRR
      apply sr tokTB (by kernel_rfl)
      · intro RR hRR
        refine w_move (by constructor) ?_
        refine w_move (by constructor) ?_
        refine w_move (by constructor) ?_
        refine y_call rfl rfl (hf i j (by omega) (by omega)) ?_
        refine w_assign (by constructor) ?_
        exact hRR
      apply sr tokTB (by kernel_rfl)
      · intro RR hRR
        refine w_move (by constructor) ?_
        refine w_geq rfl rfl ?_
        exact hRR
      refine snd_cond _ rfl (fun hc30 => ?_) (fun hc30 => ?_)
      · try simp only [hcs] at hc30
        apply lr tokTB (by kernel_rfl)
        · intro RR hRR
          refine w_move (by constructor) ?_
          refine w_move (by constructor) ?_
          refine w_move (by constructor) ?_
          refine w_fap rfl und27 rfl kn24 nz24 rfl (by decide) rfl ?_
          first | refine w_iac rfl rfl und24 kn23 (by exact sz23.symm) ?_ rfl ?_ | refine w_iap rfl rfl und24 kn23 rfl (by exact sz23.symm) rfl ?_ ?_
          · exact ⟨by omega, by omega⟩
          first | refine w_iac rfl rfl und23 kn22 (by exact sz22.symm) ?_ rfl ?_ | refine w_iap rfl rfl und23 kn22 rfl (by exact sz22.symm) rfl ?_ ?_
          · exact ⟨by omega, by omega⟩
          first | refine w_iac rfl rfl und22 kn5 (by exact sz5.symm) ?_ rfl ?_ | refine w_iap rfl rfl und22 kn5 rfl (by exact sz5.symm) rfl ?_ ?_
          · exact ⟨hc30, hP i j lt_i lt_j⟩
          first | refine w_stw rfl (by constructor) kn5 rfl (by exact trivial) (sx) (by exact sz5.symm) ?_ | refine w_sti rfl rfl kn5 rfl (by exact trivial) (by exact sz5.symm) ?_ | refine w_store rfl (HV.eq (by constructor)) kn5 rfl (by exact trivial) (sx) (by exact sz5.symm) (put_in (by first | exact put_mat | exact put_tab | exact put_alg0 | exact put_pr0 | exact put_pr1 | exact put_pr2 | exact put_tn4 | exact put_grp0 | exact put_grp1 | exact put_alg1 | exact put_alg2 | exact put_alg3 | exact put_alg3i | exact put_alg2ij | exact put_alg2ijk | exact put_mat2 | exact put_tab2 | exact put_tab3)) ?_ | refine w_store rfl (HV.eq (by constructor)) kn5 rfl (by exact trivial) (by exact trivial) (by exact sz5.symm) rfl ?_
          exact hRR
        apply lr tokTB (by kernel_rfl)
        · intro RR hRR
          refine y_add rfl rfl ?_
          refine w_move (by constructor) ?_
          exact hRR
        refine ⟨j + 1, ρ0, ?_, (by omega), (by dsimp only; omega)⟩
        exact ⟨⟨(mi), (Mt_closed (V := _) (by assumption) (fun _ _ _ => trivial) (by simp)), ⟨rfl, rfl, rfl, rfl, rfl⟩, ⟨rfl, rfl, rfl, rfl, rfl⟩, (mi), (mi), (mi), (mi), (mi), trivial⟩, ⟨⟨rfl, (sx), (by first | exact mt_vec (fun _ _ => rfl) | exact mt_mat (fun _ _ _ _ => rfl) | exact mt_tab (fun _ _ _ _ _ _ => rfl) | exact mt_arr0 | exact mt_app (fun _ _ => rfl) rfl | exact ⟨rfl, fun _ _ => mt_row (fun _ _ => rfl)⟩ | exact Mt_closed (V := _) closed_alg (fun _ _ _ => trivial) (by simp))⟩, ⟨rfl, (sx), (by exact mt_alg rfl rfl (fun a b c _ _ _ => blt_t lt_j (by omega)) (fun _ _ => rfl))⟩, trivial⟩, ⟨⟨(fun h => by first | exact ⟨rfl, rfl⟩ | exact absurd h (by decide)), (fun h => by first | exact ⟨rfl, rfl⟩ | exact absurd h (by decide)), trivial⟩, ⟨(fun h => by first | exact ⟨rfl, rfl⟩ | exact absurd h (by decide)), (fun h => by first | exact ⟨rfl, rfl⟩ | exact absurd h (by decide)), trivial⟩, trivial⟩⟩
      · try simp only [hcs] at hc30
        refine snd_skip ?_
        apply lr tokTB (by kernel_rfl)
        · intro RR hRR
          refine y_add rfl rfl ?_
          refine w_move (by constructor) ?_
          exact hRR
        refine ⟨j + 1, ρ0, ?_, (by omega), (by dsimp only; omega)⟩
        exact ⟨⟨(mi), (Mt_closed (V := _) (by assumption) (fun _ _ _ => trivial) (by simp)), ⟨rfl, rfl, rfl, rfl, rfl⟩, ⟨rfl, rfl, rfl, rfl, rfl⟩, (mi), (mi), (mi), (mi), (mi), trivial⟩, ⟨⟨rfl, (sx), (by first | exact mt_vec (fun _ _ => rfl) | exact mt_mat (fun _ _ _ _ => rfl) | exact mt_tab (fun _ _ _ _ _ _ => rfl) | exact mt_arr0 | exact mt_app (fun _ _ => rfl) rfl | exact ⟨rfl, fun _ _ => mt_row (fun _ _ => rfl)⟩ | exact Mt_closed (V := _) closed_alg (fun _ _ _ => trivial) (by simp))⟩, ⟨rfl, (sx), (by exact mt_alg rfl rfl (fun a b c _ _ _ => blt_f (by omega)) (fun _ _ => rfl))⟩, trivial⟩, ⟨⟨(fun h => by first | exact ⟨rfl, rfl⟩ | exact absurd h (by decide)), (fun h => by first | exact ⟨rfl, rfl⟩ | exact absurd h (by decide)), trivial⟩, ⟨(fun h => by first | exact ⟨rfl, rfl⟩ | exact absurd h (by decide)), (fun h => by first | exact ⟨rfl, rfl⟩ | exact absurd h (by decide)), trivial⟩, trivial⟩⟩
    · try simp only [hcs] at hc23
      have ge_j : n = j := by omega
      subst ge_j
      refine snd_exit ?_
      apply lr tokTB (by kernel_rfl)
      · intro RR hRR
        refine y_add rfl rfl ?_
        refine w_move (by constructor) ?_
        exact hRR
      refine ⟨i + 1, ρ0, ?_, (by omega), (by dsimp only; omega)⟩
      exact ⟨⟨(mi), (Mt_closed (V := _) (by assumption) (fun _ _ _ => trivial) (by simp)), ⟨rfl, rfl, rfl, rfl, rfl⟩, ⟨rfl, rfl, rfl, rfl, rfl⟩, (mi), (mi), trivial⟩, ⟨⟨rfl, (sx), (by first | exact mt_vec (fun _ _ => rfl) | exact mt_mat (fun _ _ _ _ => rfl) | exact mt_tab (fun _ _ _ _ _ _ => rfl) | exact mt_arr0 | exact mt_app (fun _ _ => rfl) rfl | exact ⟨rfl, fun _ _ => mt_row (fun _ _ => rfl)⟩ | exact Mt_closed (V := _) closed_alg (fun _ _ _ => trivial) (by simp))⟩, ⟨rfl, (sx), (by exact mt_alg rfl rfl (fun a b c _ _ _ => blt_j) (fun _ _ => rfl))⟩, trivial⟩, ⟨⟨(fun h => by first | exact ⟨rfl, rfl⟩ | exact absurd h (by decide)), (fun h => by first | exact ⟨rfl, rfl⟩ | exact absurd h (by decide)), trivial⟩, ⟨(fun h => by first | exact ⟨rfl, rfl⟩ | exact absurd h (by decide)), (fun h => by first | exact ⟨rfl, rfl⟩ | exact absurd h (by decide)), trivial⟩, trivial⟩⟩
  · try simp only [hcs] at hc19
    have ge_i : n = i := by omega
    subst ge_i
    refine snd_exit ?_
    apply sr tokTB (by kernel_rfl)
    · intro RR hRR
      refine w_ldp rfl kn27 rfl (by constructor) (by exact sz27.symm) (by exact ag27.symm) ?_
      refine w_stw rfl (by constructor) kn27 rfl (by exact trivial) (sx) (by exact sz27.symm) ?_
      exact hRR
    refine snd_ret ?_
    exact rt_c (T := TB) rfl kn27 rfl sz27.symm ag27.symm (fun V => mt_alg rfl rfl (fun _ _ _ _ _ _ => rfl) (fun _ _ => rfl))
theorem c_NamedPair : ACalls Try.prog TB 29 [.strg (⟨#[112, 97, 105, 114]⟩ : ByteArray), .int .i64 5] (.tup 2 (pairA (algA 5 ((2 : Nat) : Int) pT pfF) (.int .i64 0))) [] := by
  refine acalls_of tokTB Try.func29 rfl rfl (Nat.le_of_ble_eq_true rfl) ?_
  apply sr tokTB (by kernel_rfl)
  · intro RR hRR
    refine w_alloc kn27 rfl zr27 ?_
    refine w_assign (by constructor) ?_
    exact hRR
  refine snd_seq ?_
  apply sr tokTB (by kernel_rfl)
  · intro RR hRR
    refine w_move (by constructor) ?_
    refine y_call rfl (ec exn) (c_isPrime) ?_
    refine w_not rfl ?_
    exact hRR
  refine snd_cond_false (by exact congrArg AV.bool (by decide)) ?_
  refine snd_skip ?_
  refine snd_seq ?_
  apply sr tokTB (by kernel_rfl)
  · intro RR hRR
    refine w_move (by constructor) ?_
    exact hRR
  refine snd_block ?_
  apply sr tokTB (by kernel_rfl)
  · intro RR hRR
    refine w_seql rfl rfl und9 ?_
    refine w_assign (by constructor) ?_
    exact hRR
  refine snd_cond_false (by exact congrArg AV.bool (strq (by decide))) ?_
  apply sr tokTB (by kernel_rfl)
  · intro RR hRR
    refine w_seql rfl rfl und9 ?_
    refine w_assign (by constructor) ?_
    exact hRR
  refine snd_cond_false (by exact congrArg AV.bool (strq (by decide))) ?_
  apply sr tokTB (by kernel_rfl)
  · intro RR hRR
    refine w_seql rfl rfl und9 ?_
    refine w_assign (by constructor) ?_
    exact hRR
  refine snd_cond_true (by exact congrArg AV.bool (strq (by decide))) ?_
  apply sr tokTB (by kernel_rfl)
  · intro RR hRR
    refine w_move (by constructor) ?_
    refine w_bld_a kn25 zr25 und25 kn5 (fun _ => (by exact sz5.symm)) (by exact ⟨⟨by decide, trivial, sz5.symm⟩, ⟨by decide, trivial, sz5.symm⟩, trivial⟩) (c := fun i => .int .u8 (pfF i)) (funext fun z => by match z with | 0 => rfl | 1 => rfl | z + 2 => exact (congrArg (AV.int .u8) (if_neg (by omega) : pfF (z + 2) = 0)).symm) (by exact sz5.symm) ?_
    refine y_call rfl rfl (c_built (n := 2) (p := 5) (fo := pfF) (g := 57) (P := prP) (by omega) (fun i j hi hj => by unfold prP; split <;> omega) (fun i j hi hj => c_pairP (by omega))) ?_
    refine w_stw rfl (by constructor) kn27 rfl (by exact trivial) (sx) (by exact sz27.symm) ?_
    refine w_assign (by constructor) ?_
    exact hRR
  refine snd_ret ?_
  show retQ TB _ _ _ _ _ _
  first | exact rt_ct (T := TB) rfl kn27 rfl (by exact sz27.symm) (by exact ag27.symm) (fun V => mt_alg rfl rfl (fun a b c _ _ _ => (pT_blt a b c)) (fun _ _ => rfl)) (fun V => rfl) | exact rt_ct (T := TB) rfl kn27 rfl (by exact sz27.symm) (by exact ag27.symm) (fun V => mt_alg rfl rfl (fun a b c _ _ _ => (pT_blt a b c).symm) (fun _ _ => rfl)) (fun V => rfl)
theorem c_l01NamedPair : ACalls Try.prog TB 51 [.strg (⟨#[112, 97, 105, 114]⟩ : ByteArray), .int .i64 5] (.tup 2 (pairA (algA 5 ((2 : Nat) : Int) pT pfF) (.bool true))) [] := by
  refine acalls_of tokTB Try.func51 rfl rfl (Nat.le_of_ble_eq_true rfl) ?_
  apply sr tokTB (by kernel_rfl)
  · intro RR hRR
    refine w_alloc kn27 rfl zr27 ?_
    refine w_assign (by constructor) ?_
    exact hRR
  apply sr tokTB (by kernel_rfl)
  · intro RR hRR
    refine w_move (by constructor) ?_
    refine w_bld_s kn27 zr27 und27 rfl (by exact ⟨rfl, kn2, sz2, rfl, kn2, sz2, rfl, kn24, sz24, rfl, kn25, sz25, trivial⟩) (by exact ⟨⟨by decide, trivial, rfl⟩, trivial⟩) (c := algF 5 0 (fun _ _ _ => 0) (fun _ => 0)) (funext fun i => by match i with | 0 => rfl | 1 => rfl | 2 => rfl | 3 => rfl | i + 4 => rfl) ?_
    refine w_alloc kn27 rfl zr27 ?_
    refine w_stw rfl (by constructor) kn27 rfl (by exact trivial) (sx) (by exact sz27.symm) ?_
    exact hRR
  refine snd_seq ?_
  apply sr tokTB (by kernel_rfl)
  · intro RR hRR
    refine w_move (by constructor) ?_
    exact hRR
  refine snd_block ?_
  apply sr tokTB (by kernel_rfl)
  · intro RR hRR
    refine w_seql rfl rfl und9 ?_
    refine w_assign (by constructor) ?_
    exact hRR
  refine snd_cond_false (by exact congrArg AV.bool (strq (by decide))) ?_
  apply sr tokTB (by kernel_rfl)
  · intro RR hRR
    refine w_seql rfl rfl und9 ?_
    refine w_assign (by constructor) ?_
    exact hRR
  refine snd_cond_false (by exact congrArg AV.bool (strq (by decide))) ?_
  apply sr tokTB (by kernel_rfl)
  · intro RR hRR
    refine w_seql rfl rfl und9 ?_
    refine w_assign (by constructor) ?_
    exact hRR
  refine snd_cond_true (by exact congrArg AV.bool (strq (by decide))) ?_
  apply sr tokTB (by kernel_rfl)
  · intro RR hRR
    refine w_fap rfl und27 rfl kn2 nz2 rfl (by decide) rfl ?_
    first | refine w_stw rfl (by constructor) kn2 rfl (by exact trivial) (sx) (by exact sz2.symm) ?_ | refine w_sti rfl rfl kn2 rfl (by exact trivial) (by exact sz2.symm) ?_ | refine w_store rfl (HV.eq (by constructor)) kn2 rfl (by exact trivial) (sx) (by exact sz2.symm) (put_in (by first | exact put_mat | exact put_tab | exact put_alg0 | exact put_pr0 | exact put_pr1 | exact put_pr2 | exact put_tn4 | exact put_grp0 | exact put_grp1 | exact put_alg1 | exact put_alg2 | exact put_alg3 | exact put_alg3i | exact put_alg2ij | exact put_alg2ijk | exact put_mat2 | exact put_tab2 | exact put_tab3)) ?_ | refine w_store rfl (HV.eq (by constructor)) kn2 rfl (by exact trivial) (by exact trivial) (by exact sz2.symm) rfl ?_
    exact hRR
  apply sr tokTB (by kernel_rfl)
  · intro RR hRR
    refine w_bld_a kn25 zr25 und25 kn5 (fun _ => (by exact sz5.symm)) (by exact ⟨⟨by decide, trivial, sz5.symm⟩, ⟨by decide, trivial, sz5.symm⟩, trivial⟩) (c := fun i => .int .u8 (pfF i)) (funext fun z => by match z with | 0 => rfl | 1 => rfl | z + 2 => exact (congrArg (AV.int .u8) (if_neg (by omega) : pfF (z + 2) = 0)).symm) (by exact sz5.symm) ?_
    refine w_fap rfl und27 rfl kn25 nz25 rfl (by decide) rfl ?_
    first | refine w_stw rfl (by constructor) kn25 rfl (by exact trivial) (sx) (by exact sz25.symm) ?_ | refine w_sti rfl rfl kn25 rfl (by exact trivial) (by exact sz25.symm) ?_ | refine w_store rfl (HV.eq (by constructor)) kn25 rfl (by exact trivial) (sx) (by exact sz25.symm) (put_in (by first | exact put_mat | exact put_tab | exact put_alg0 | exact put_pr0 | exact put_pr1 | exact put_pr2 | exact put_tn4 | exact put_grp0 | exact put_grp1 | exact put_alg1 | exact put_alg2 | exact put_alg3 | exact put_alg3i | exact put_alg2ij | exact put_alg2ijk | exact put_mat2 | exact put_tab2 | exact put_tab3)) ?_ | refine w_store rfl (HV.eq (by constructor)) kn25 rfl (by exact trivial) (by exact trivial) (by exact sz25.symm) rfl ?_
    exact hRR
  apply sr tokTB (by kernel_rfl)
  · intro RR hRR
    refine w_fap rfl und27 rfl kn24 nz24 rfl (by decide) rfl ?_
    first | refine w_iac rfl rfl und24 kn23 (by exact sz23.symm) ?_ rfl ?_ | refine w_iap rfl rfl und24 kn23 rfl (by exact sz23.symm) rfl ?_ ?_
    · exact ⟨by omega, by omega⟩
    first | refine w_iac rfl rfl und23 kn22 (by exact sz22.symm) ?_ rfl ?_ | refine w_iap rfl rfl und23 kn22 rfl (by exact sz22.symm) rfl ?_ ?_
    · exact ⟨by omega, by omega⟩
    first | refine w_iac rfl rfl und22 kn5 (by exact sz5.symm) ?_ rfl ?_ | refine w_iap rfl rfl und22 kn5 rfl (by exact sz5.symm) rfl ?_ ?_
    · exact ⟨by omega, by omega⟩
    first | refine w_stw rfl (by constructor) kn5 rfl (by exact trivial) (sx) (by exact sz5.symm) ?_ | refine w_sti rfl rfl kn5 rfl (by exact trivial) (by exact sz5.symm) ?_ | refine w_store rfl (HV.eq (by constructor)) kn5 rfl (by exact trivial) (sx) (by exact sz5.symm) (put_in (by first | exact put_mat | exact put_tab | exact put_alg0 | exact put_pr0 | exact put_pr1 | exact put_pr2 | exact put_tn4 | exact put_grp0 | exact put_grp1 | exact put_alg1 | exact put_alg2 | exact put_alg3 | exact put_alg3i | exact put_alg2ij | exact put_alg2ijk | exact put_mat2 | exact put_tab2 | exact put_tab3)) ?_ | refine w_store rfl (HV.eq (by constructor)) kn5 rfl (by exact trivial) (by exact trivial) (by exact sz5.symm) rfl ?_
    exact hRR
  apply lr tokTB (by kernel_rfl)
  · intro RR hRR
    refine w_fap rfl und27 rfl kn24 nz24 rfl (by decide) rfl ?_
    first | refine w_iac rfl rfl und24 kn23 (by exact sz23.symm) ?_ rfl ?_ | refine w_iap rfl rfl und24 kn23 rfl (by exact sz23.symm) rfl ?_ ?_
    · exact ⟨by omega, by omega⟩
    first | refine w_iac rfl rfl und23 kn22 (by exact sz22.symm) ?_ rfl ?_ | refine w_iap rfl rfl und23 kn22 rfl (by exact sz22.symm) rfl ?_ ?_
    · exact ⟨by omega, by omega⟩
    first | refine w_iac rfl rfl und22 kn5 (by exact sz5.symm) ?_ rfl ?_ | refine w_iap rfl rfl und22 kn5 rfl (by exact sz5.symm) rfl ?_ ?_
    · exact ⟨by omega, by omega⟩
    first | refine w_stw rfl (by constructor) kn5 rfl (by exact trivial) (sx) (by exact sz5.symm) ?_ | refine w_sti rfl rfl kn5 rfl (by exact trivial) (by exact sz5.symm) ?_ | refine w_store rfl (HV.eq (by constructor)) kn5 rfl (by exact trivial) (sx) (by exact sz5.symm) (put_in (by first | exact put_mat | exact put_tab | exact put_alg0 | exact put_pr0 | exact put_pr1 | exact put_pr2 | exact put_tn4 | exact put_grp0 | exact put_grp1 | exact put_alg1 | exact put_alg2 | exact put_alg3 | exact put_alg3i | exact put_alg2ij | exact put_alg2ijk | exact put_mat2 | exact put_tab2 | exact put_tab3)) ?_ | refine w_store rfl (HV.eq (by constructor)) kn5 rfl (by exact trivial) (by exact trivial) (by exact sz5.symm) rfl ?_
    exact hRR
  apply sr tokTB (by kernel_rfl)
  · intro RR hRR
    refine w_ldp rfl kn27 rfl (by constructor) (by exact sz27.symm) (by exact ag27.symm) ?_
    refine w_stw rfl (by constructor) kn27 rfl (by exact trivial) (sx) (by exact sz27.symm) ?_
    refine w_assign (by constructor) ?_
    exact hRR
  refine snd_ret ?_
  show retQ TB _ _ _ _ _ _
  exact rt_ct (T := TB) rfl kn27 rfl (by exact sz27.symm) (by exact ag27.symm) (fun V => mt_alg rfl rfl (fun a b c _ _ _ => pT_set a b c) (fun _ _ => rfl)) (fun V => rfl)
theorem c_fresh {p : Int} {n : Nat} {T : Nat → Nat → Nat → Int} {fo : Nat → Int} (hv0 : VN p n T fo) : ACalls Try.prog TB 30 [algA p (n : Int) T fo] (dskA p (n : Int) T fo (uF p n T) (fun _ => 0) ByteArray.empty) [] := by
  refine acalls_of tokTB Try.func30 rfl rfl (Nat.le_of_ble_eq_true rfl) ?_
  apply sr tokTB (by kernel_rfl)
  · intro RR hRR
    refine w_boxc (HV.eq (by constructor)) (by exact trivial) ?_
    refine w_alloc kn29 rfl zr29 ?_
    exact hRR
  apply sd tokTB mixed (by kernel_rfl) (by kernel_rfl)
  · intro RR hRR
    refine w_ldc rfl kn27 (by constructor) (by exact sz27.symm) (by exact ag27.symm) ?_
    refine y_call rfl (ec exn) (c_unit hv0) ?_
    refine w_bld_s kn29 zr29 und29 rfl (by exact ⟨rfl, kn27, sz27, rfl, kn25, sz25, rfl, kn25, sz25, rfl, kn9, sz9, trivial⟩) (by exact ⟨⟨by decide, trivial, rfl⟩, ⟨by decide, trivial, rfl⟩, trivial⟩) (c := dskF (algA p (n : Int) T fo) (vecA (uF p n T)) (vecA (fun _ => 0)) ByteArray.empty) (funext fun i => by match i with | 0 => rfl | 1 => rfl | 2 => rfl | 3 => rfl | i + 4 => rfl) ?_
    refine w_stw rfl (by constructor) kn29 rfl (by exact trivial) (sx) (by exact sz29.symm) ?_
    exact hRR
  refine snd_ret ?_
  exact rt_c (T := TB) rfl kn29 rfl sz29.symm ag29.symm (fun V => m_dsk)
theorem c_l11Fresh {p : Int} {n : Nat} {T : Nat → Nat → Nat → Int} {fo : Nat → Int} (hv0 : VN p n T fo) : ACalls Try.prog TB 52 [algA p (n : Int) T fo] (dskA p (n : Int) T fo (uF p n T) (fun _ => 0) ByteArray.empty) [] := by
  refine acalls_of tokTB Try.func52 rfl rfl (Nat.le_of_ble_eq_true rfl) ?_
  apply sr tokTB (by kernel_rfl)
  · intro RR hRR
    refine w_boxc (HV.eq (by constructor)) (by exact trivial) ?_
    refine w_alloc kn29 rfl zr29 ?_
    exact hRR
  apply sd tokTB mixed (by kernel_rfl) (by kernel_rfl)
  · intro RR hRR
    refine w_ldc rfl kn27 (by constructor) (by exact sz27.symm) (by exact ag27.symm) ?_
    refine w_ldc rfl kn27 (by constructor) (by exact sz27.symm) (by exact ag27.symm) ?_
    refine y_call rfl (ec exn) (c_l01Unit hv0) ?_
    refine w_bld_s kn29 zr29 und29 rfl (by exact ⟨rfl, kn27, sz27, rfl, kn25, sz25, rfl, kn25, sz25, rfl, kn9, sz9, trivial⟩) (by exact ⟨⟨by decide, trivial, rfl⟩, ⟨by decide, trivial, rfl⟩, trivial⟩) (c := dskF (algA p (n : Int) T fo) (vecA (uF p n T)) (vecA (fun _ => 0)) ByteArray.empty) (funext fun i => by match i with | 0 => rfl | 1 => rfl | 2 => rfl | 3 => rfl | i + 4 => rfl) ?_
    refine w_stw rfl (by constructor) kn29 rfl (by exact trivial) (sx) (by exact sz29.symm) ?_
    exact hRR
  refine snd_ret ?_
  exact rt_c (T := TB) rfl kn29 rfl sz29.symm ag29.symm (fun V => m_dsk)
theorem c_iNewDesk : ACalls Try.prog TB 9 [] (dskA 5 ((2 : Nat) : Int) pT pfF (uF 5 2 pT) (fun _ => 0) ByteArray.empty) [] := by
  refine acalls_of tokTB Try.func9 rfl rfl (Nat.le_of_ble_eq_true rfl) ?_
  apply sr tokTB (by kernel_rfl)
  · intro RR hRR
    refine w_alloc kn29 rfl zr29 ?_
    exact hRR
  apply sr tokTB (by kernel_rfl)
  · intro RR hRR
    refine y_call rfl (ec (ec exn)) (c_NamedPair) ?_
    refine w_move (by constructor) ?_
    refine w_ext rfl (by decide) (by constructor) ?_
    refine w_ext rfl (by decide) (by constructor) ?_
    refine w_alloc kn27 rfl zr27 ?_
    refine w_stw rfl (by constructor) kn27 rfl (by exact trivial) (sx) (by exact sz27.symm) ?_
    refine w_assign (by constructor) ?_
    exact hRR
  apply sr tokTB (by kernel_rfl)
  · intro RR hRR
    refine w_ldp rfl kn27 rfl (by constructor) (by exact sz27.symm) (by exact ag27.symm) ?_
    refine w_call0 rfl (ec exn) (c_fresh pair_VN) nr_dsk (fun _ => shift_dsk) ?_
    refine w_stw rfl (by constructor) kn29 rfl (by exact trivial) (sx) (by exact sz29.symm) ?_
    exact hRR
  refine snd_ret ?_
  exact rt_c (T := TB) rfl kn29 rfl sz29.symm ag29.symm (fun V => m_dsk)
theorem c_l11New : ACalls Try.prog TB 28 [] (dskA 5 ((2 : Nat) : Int) pT pfF (uF 5 2 pT) (fun _ => 0) ByteArray.empty) [] := by
  refine acalls_of tokTB Try.func28 rfl rfl (Nat.le_of_ble_eq_true rfl) ?_
  apply sr tokTB (by kernel_rfl)
  · intro RR hRR
    refine w_alloc kn29 rfl zr29 ?_
    exact hRR
  apply sr tokTB (by kernel_rfl)
  · intro RR hRR
    refine y_call rfl (ec (ec exn)) (c_l01NamedPair) ?_
    refine w_move (by constructor) ?_
    refine w_ext rfl (by decide) (by constructor) ?_
    refine w_ext rfl (by decide) (by constructor) ?_
    refine w_alloc kn27 rfl zr27 ?_
    refine w_stw rfl (by constructor) kn27 rfl (by exact trivial) (sx) (by exact sz27.symm) ?_
    refine w_assign (by constructor) ?_
    exact hRR
  apply sr tokTB (by kernel_rfl)
  · intro RR hRR
    refine w_ldp rfl kn27 rfl (by constructor) (by exact sz27.symm) (by exact ag27.symm) ?_
    refine w_call0 rfl (ec exn) (c_l11Fresh pair_VN) nr_dsk (fun _ => shift_dsk) ?_
    refine w_stw rfl (by constructor) kn29 rfl (by exact trivial) (sx) (by exact sz29.symm) ?_
    exact hRR
  refine snd_ret ?_
  exact rt_c (T := TB) rfl kn29 rfl sz29.symm ag29.symm (fun V => m_dsk)
theorem c_sNewDesk : ACalls Try.prog TB 8 [] (dskA 5 ((2 : Nat) : Int) pT pfF (uF 5 2 pT) (fun _ => 0) ByteArray.empty) [] := by
  refine acalls_of tokTB Try.func8 rfl rfl (Nat.le_of_ble_eq_true rfl) ?_
  apply sr tokTB (by kernel_rfl)
  · intro RR hRR
    refine w_alloc kn29 rfl zr29 ?_
    exact hRR
  apply sr tokTB (by kernel_rfl)
  · intro RR hRR
    refine w_call0 rfl exn (c_l11New) nr_dsk (fun _ => shift_dsk) ?_
    refine w_stw rfl (by constructor) kn29 rfl (by exact trivial) (sx) (by exact sz29.symm) ?_
    exact hRR
  refine snd_ret ?_
  exact rt_c (T := TB) rfl kn29 rfl sz29.symm ag29.symm (fun V => m_dsk)
theorem c_eqDesk {p n : Int} {T : Nat → Nat → Nat → Int} {fo v w : Nat → Int} {s : ByteArray} : ACalls Try.prog TB 10 [dskA p n T fo v w s, dskA p n T fo v w s] (.bool true) [] := by
  refine acalls_of tokTB Try.func10 rfl rfl (Nat.le_of_ble_eq_true rfl) ?_
  apply sr tokTB (by kernel_rfl)
  · intro RR hRR
    refine w_boxc (HV.eq (by constructor)) (by exact trivial) ?_
    refine w_boxc (HV.eq (by constructor)) (by exact trivial) ?_
    refine w_assign (by constructor) ?_
    exact hRR
  refine snd_seq ?_
  apply sr tokTB (by kernel_rfl)
  · intro RR hRR
    refine w_fac rfl und29 rfl kn27 nz27 (by decide) rfl (by constructor) ?_
    refine w_ldc rfl kn27 (by constructor) (by exact sz27.symm) (by exact ag27.symm) ?_
    refine w_fac rfl und29 rfl kn27 nz27 (by decide) rfl (by constructor) ?_
    refine w_ldc rfl kn27 (by constructor) (by exact sz27.symm) (by exact ag27.symm) ?_
    refine y_call rfl (ec (ec exn)) (c_eqAlgebra) ?_
    refine w_not rfl ?_
    exact hRR
  refine snd_cond_false (by exact rfl) ?_
  refine snd_skip ?_
  refine snd_seq ?_
  apply sr tokTB (by kernel_rfl)
  · intro RR hRR
    refine w_fac rfl und29 rfl kn25 nz25 (by decide) rfl (by constructor) ?_
    refine w_ldc rfl kn25 (by constructor) (by exact sz25.symm) (by exact ag25.symm) ?_
    refine w_fac rfl und29 rfl kn25 nz25 (by decide) rfl (by constructor) ?_
    refine w_ldc rfl kn25 (by constructor) (by exact sz25.symm) (by exact ag25.symm) ?_
    refine y_call rfl (ec (ec exn)) (((show decide (eqN 6 v v) = true from decide_eq_true (fun i _ => rfl)) ▸ c_eqVector (u := v) (v := v))) ?_
    refine w_not rfl ?_
    exact hRR
  refine snd_cond_false (by exact rfl) ?_
  refine snd_skip ?_
  refine snd_seq ?_
  apply sr tokTB (by kernel_rfl)
  · intro RR hRR
    refine w_fac rfl und29 rfl kn25 nz25 (by decide) rfl (by constructor) ?_
    refine w_ldc rfl kn25 (by constructor) (by exact sz25.symm) (by exact ag25.symm) ?_
    refine w_fac rfl und29 rfl kn25 nz25 (by decide) rfl (by constructor) ?_
    refine w_ldc rfl kn25 (by constructor) (by exact sz25.symm) (by exact ag25.symm) ?_
    refine y_call rfl (ec (ec exn)) (((show decide (eqN 6 w w) = true from decide_eq_true (fun i _ => rfl)) ▸ c_eqVector (u := w) (v := w))) ?_
    refine w_not rfl ?_
    exact hRR
  refine snd_cond_false (by exact rfl) ?_
  refine snd_skip ?_
  refine snd_seq ?_
  apply sr tokTB (by kernel_rfl)
  · intro RR hRR
    refine w_fac rfl und29 rfl kn9 nz9 (by decide) rfl (by constructor) ?_
    refine w_ldc rfl kn9 (by constructor) (by exact sz9.symm) (by exact ag9.symm) ?_
    refine w_fac rfl und29 rfl kn9 nz9 (by decide) rfl (by constructor) ?_
    refine w_ldc rfl kn9 (by constructor) (by exact sz9.symm) (by exact ag9.symm) ?_
    refine w_sneq rfl rfl und9 ?_
    exact hRR
  refine snd_cond_false (by exact congrArg AV.bool (decide_eq_false (by simp))) ?_
  refine snd_skip ?_
  apply sr tokTB (by kernel_rfl)
  · intro RR hRR
    refine w_assign (by constructor) ?_
    exact hRR
  refine snd_ret ?_
  exact rt (T := TB) (fun V => rfl)
theorem law_NewDesk : ACalls Try.prog TB 3 [] (.bool true) [] := by
  refine acalls_of tokTB Try.func3 rfl rfl (Nat.le_of_ble_eq_true rfl) ?_
  apply sr tokTB (by kernel_rfl)
  · intro RR hRR
    refine w_assign (by constructor) ?_
    exact hRR
  apply sr tokTB (by kernel_rfl)
  · intro RR hRR
    refine w_call0 rfl exn (c_sNewDesk) nr_dsk (fun _ => shift_dsk) ?_
    refine w_alloc kn29 rfl zr29 ?_
    refine w_stw rfl (by constructor) kn29 rfl (by exact trivial) (sx) (by exact sz29.symm) ?_
    exact hRR
  apply sr tokTB (by kernel_rfl)
  · intro RR hRR
    refine w_call0 rfl exn (c_iNewDesk) nr_dsk (fun _ => shift_dsk) ?_
    refine w_alloc kn29 rfl zr29 ?_
    refine w_stw rfl (by constructor) kn29 rfl (by exact trivial) (sx) (by exact sz29.symm) ?_
    exact hRR
  refine snd_seq ?_
  apply sr tokTB (by kernel_rfl)
  · intro RR hRR
    refine w_ldp rfl kn29 rfl (by constructor) (by exact sz29.symm) (by exact ag29.symm) ?_
    refine w_ldp rfl kn29 rfl (by constructor) (by exact sz29.symm) (by exact ag29.symm) ?_
    refine y_call rfl (exc (by exact exp_dsk) (exc (by exact exp_dsk) exn)) (c_eqDesk) ?_
    refine w_not rfl ?_
    exact hRR
  refine snd_cond_false (by exact rfl) ?_
  refine snd_skip ?_
  apply sr tokTB (by kernel_rfl)
  · intro RR hRR
    refine w_assign (by constructor) ?_
    exact hRR
  refine snd_ret ?_
  exact rt (T := TB) (fun V => rfl)
end Go.Am

