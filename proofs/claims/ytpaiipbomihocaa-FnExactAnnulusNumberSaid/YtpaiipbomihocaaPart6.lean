/- Part 6 of what the law stands on: abstract values, their walk, contracts of functions. My own work. Conditions: none. -/
import Derived.Test.YtpaiipbomihocaaPart5
set_option linter.unusedVariables false
set_option linter.unusedSimpArgs false
set_option maxRecDepth 4000
namespace Go.Am
attribute [local irreducible] retQ retQp
open Go.Proofs
theorem c_algebrasOk_a {p n q m : Int} {T S : Nat → Nat → Nat → Int} {fo go : Nat → Int} {Y : Nat → Nat → Int} (hT : RB T) (hf : RV fo) (h0 : ¬ VA p n T fo) : ACalls Try.prog TB 77 [.cptr (prA p n T fo q m S go Y)] (.bool false) [] := by
  refine acalls_of tokTB Try.func77 rfl rfl (Nat.le_of_ble_eq_true rfl) ?_
  apply sr tokTB (by kernel_rfl)
  · intro RR hRR
    refine w_assign (by constructor) ?_
    exact hRR
  refine snd_seq ?_
  apply sdG (env' := (29, .bool true) :: (28, .any) :: (27, .any) :: (26, .any) :: (25, .any) :: (24, .any) :: (23, .any) :: (22, .any) :: (21, .any) :: (20, .any) :: (19, .any) :: (18, .any) :: (17, .bool true) :: (16, .bool true) :: (15, .any) :: (14, .any) :: (13, .any) :: (12, .any) :: (11, .any) :: (10, .any) :: (9, _) :: (8, _) :: (7, _) :: (6, _) :: (5, _) :: (4, _) :: (3, _) :: _) tokTB mixed (by kernel_rfl) (by kernel_rfl)
  · intro RR hRR
    refine w_move (by constructor) ?_
    first | refine w_nilc rfl ?_ | refine w_nilp rfl ?_ | refine w_nilf rfl ?_
    first | refine w_fac rfl und54 rfl kn34 nz34 (by decide) rfl (by constructor) ?_ | refine w_fap rfl und54 rfl kn34 nz34 rfl (by decide) rfl ?_
    first | refine w_ldc rfl kn34 (by constructor) (by exact sz34.symm) (by exact ag34.symm) ?_ | refine w_ldp rfl kn34 rfl (by constructor) (by exact sz34.symm) (by exact ag34.symm) ?_
    refine y_call rfl (ec exn) (((decide_eq_false (h0)) ▸ c_IsAlgebra hT hf)) ?_
    refine w_not rfl ?_
    refine w_move (by constructor) ?_
    refine w_g_off rfl rfl (by decide) ?_
    refine w_g_off rfl rfl (by decide) ?_
    refine w_g_off rfl rfl (by decide) ?_
    refine w_g_off rfl rfl (by decide) ?_
    refine w_g_off rfl rfl (by decide) ?_
    refine w_g_off rfl rfl (by decide) ?_
    refine w_pick_1 rfl rfl (by constructor) ?_
    refine w_move (by constructor) ?_
    refine w_g_off rfl rfl (by decide) ?_
    refine w_g_off rfl rfl (by decide) ?_
    refine w_g_off rfl rfl (by decide) ?_
    refine w_g_off rfl rfl (by decide) ?_
    refine w_g_off rfl rfl (by decide) ?_
    refine w_g_off rfl rfl (by decide) ?_
    refine w_g_off rfl rfl (by decide) ?_
    refine w_g_off rfl rfl (by decide) ?_
    refine w_g_off rfl rfl (by decide) ?_
    refine w_g_off rfl rfl (by decide) ?_
    refine w_g_off rfl rfl (by decide) ?_
    refine w_pick_1 rfl rfl (by constructor) ?_
    exact hRR _ (EL.cons (.inr (by first | rfl | (simp only [els]; done) | simp)) (EL.cons (.inl rfl) (EL.cons (.inl rfl) (EL.cons (.inl rfl) (EL.cons (.inl rfl) (EL.cons (.inl rfl) (EL.cons (.inl rfl) (EL.cons (.inl rfl) (EL.cons (.inl rfl) (EL.cons (.inl rfl) (EL.cons (.inl rfl) (EL.cons (.inl rfl) (EL.cons (.inr (by first | rfl | (simp only [els]; done) | simp)) (EL.cons (.inr (by first | rfl | (simp only [els]; done) | simp)) (EL.cons (.inl rfl) (EL.cons (.inl rfl) (EL.cons (.inl rfl) (EL.cons (.inl rfl) (EL.cons (.inl rfl) (EL.cons (.inl rfl) (EL.cons (.inr rfl) (EL.cons (.inr rfl) (EL.cons (.inr rfl) (EL.cons (.inr rfl) (EL.cons (.inr rfl) (EL.cons (.inr rfl) (EL.cons (.inr rfl) (EL.refl _))))))))))))))))))))))))))))
  refine snd_cond_true rfl ?_
  apply sr tokTB (by kernel_rfl)
  · intro RR hRR
    refine w_assign (by constructor) ?_
    exact hRR
  refine snd_ret ?_
  exact rt (T := TB) (fun V => rfl)
theorem c_algebrasOk_b {p q m : Int} {n : Nat} {T S : Nat → Nat → Nat → Int} {fo go : Nat → Int} {Y : Nat → Nat → Int} (hv0 : VN p n T fo) (hS : RB S) (hg : RV go) (h1 : ¬ VA q m S go) : ACalls Try.prog TB 77 [.cptr (prA p (n : Int) T fo q m S go Y)] (.bool false) [] := by
  refine acalls_of tokTB Try.func77 rfl rfl (Nat.le_of_ble_eq_true rfl) ?_
  apply sr tokTB (by kernel_rfl)
  · intro RR hRR
    refine w_assign (by constructor) ?_
    exact hRR
  refine snd_seq ?_
  apply sdG (env' := (29, .bool true) :: (28, .any) :: (27, .any) :: (26, .any) :: (25, .any) :: (24, .any) :: (23, .any) :: (22, .any) :: (21, .any) :: (20, .any) :: (19, .any) :: (18, .any) :: (17, .bool (!false)) :: (16, .bool (!false)) :: (15, .any) :: (14, .any) :: (13, .any) :: (12, .any) :: (11, .any) :: (10, .any) :: (9, _) :: (8, _) :: (7, _) :: (6, _) :: (5, _) :: (4, _) :: (3, _) :: _) tokTB mixed (by kernel_rfl) (by kernel_rfl)
  · intro RR hRR
    refine w_move (by constructor) ?_
    first | refine w_nilc rfl ?_ | refine w_nilp rfl ?_ | refine w_nilf rfl ?_
    first | refine w_fac rfl und54 rfl kn34 nz34 (by decide) rfl (by constructor) ?_ | refine w_fap rfl und54 rfl kn34 nz34 rfl (by decide) rfl ?_
    first | refine w_ldc rfl kn34 (by constructor) (by exact sz34.symm) (by exact ag34.symm) ?_ | refine w_ldp rfl kn34 rfl (by constructor) (by exact sz34.symm) (by exact ag34.symm) ?_
    refine y_call rfl (ec exn) (((decide_eq_true (hv0.va)) ▸ c_IsAlgebra hv0.rb hv0.rv)) ?_
    refine w_not rfl ?_
    refine w_move (by constructor) ?_
    refine w_g_on rfl rfl rfl ?_
    refine w_move (by constructor) ?_
    refine w_g_on rfl rfl rfl ?_
    first | refine w_nilc rfl ?_ | refine w_nilp rfl ?_ | refine w_nilf rfl ?_
    refine w_g_on rfl rfl rfl ?_
    first | refine w_fac rfl und54 rfl kn34 nz34 (by decide) rfl (by constructor) ?_ | refine w_fap rfl und54 rfl kn34 nz34 rfl (by decide) rfl ?_
    refine w_g_on rfl rfl rfl ?_
    first | refine w_ldc rfl kn34 (by constructor) (by exact sz34.symm) (by exact ag34.symm) ?_ | refine w_ldp rfl kn34 rfl (by constructor) (by exact sz34.symm) (by exact ag34.symm) ?_
    refine w_g_on rfl rfl rfl ?_
    refine y_call rfl (ec exn) (((decide_eq_false (h1)) ▸ c_IsAlgebra hS hg)) ?_
    refine w_g_on rfl rfl rfl ?_
    refine w_not rfl ?_
    refine w_pick_0 rfl rfl (by constructor) ?_
    refine w_move (by constructor) ?_
    refine w_g_off rfl rfl (by decide) ?_
    refine w_g_off rfl rfl (by decide) ?_
    refine w_g_off rfl rfl (by decide) ?_
    refine w_g_off rfl rfl (by decide) ?_
    refine w_g_off rfl rfl (by decide) ?_
    refine w_g_off rfl rfl (by decide) ?_
    refine w_g_off rfl rfl (by decide) ?_
    refine w_g_off rfl rfl (by decide) ?_
    refine w_g_off rfl rfl (by decide) ?_
    refine w_g_off rfl rfl (by decide) ?_
    refine w_g_off rfl rfl (by decide) ?_
    refine w_pick_1 rfl rfl (by constructor) ?_
    exact hRR _ (EL.cons (.inr (by first | rfl | (simp only [els]; done) | simp)) (EL.cons (.inl rfl) (EL.cons (.inl rfl) (EL.cons (.inl rfl) (EL.cons (.inl rfl) (EL.cons (.inl rfl) (EL.cons (.inl rfl) (EL.cons (.inl rfl) (EL.cons (.inl rfl) (EL.cons (.inl rfl) (EL.cons (.inl rfl) (EL.cons (.inl rfl) (EL.cons (.inr (by first | rfl | (simp only [els]; done) | simp)) (EL.cons (.inr (by first | rfl | (simp only [els]; done) | simp)) (EL.cons (.inl rfl) (EL.cons (.inl rfl) (EL.cons (.inl rfl) (EL.cons (.inl rfl) (EL.cons (.inl rfl) (EL.cons (.inl rfl) (EL.cons (.inr rfl) (EL.cons (.inr rfl) (EL.cons (.inr rfl) (EL.cons (.inr rfl) (EL.cons (.inr rfl) (EL.cons (.inr rfl) (EL.cons (.inr rfl) (EL.refl _))))))))))))))))))))))))))))
  refine snd_cond_true rfl ?_
  apply sr tokTB (by kernel_rfl)
  · intro RR hRR
    refine w_assign (by constructor) ?_
    exact hRR
  refine snd_ret ?_
  exact rt (T := TB) (fun V => rfl)
theorem c_algebrasOk_c {p q : Int} {n m : Nat} {T S : Nat → Nat → Nat → Int} {fo go : Nat → Int} {Y : Nat → Nat → Int} (hv0 : VN p n T fo) (hw0 : VN q m S go) (h2 : ¬ p = q) : ACalls Try.prog TB 77 [.cptr (prA p (n : Int) T fo q (m : Int) S go Y)] (.bool false) [] := by
  refine acalls_of tokTB Try.func77 rfl rfl (Nat.le_of_ble_eq_true rfl) ?_
  apply sr tokTB (by kernel_rfl)
  · intro RR hRR
    refine w_assign (by constructor) ?_
    exact hRR
  refine snd_seq ?_
  apply sdG (env' := (29, .bool true) :: (28, .any) :: (27, .any) :: (26, .any) :: (25, .any) :: (24, .any) :: (23, .any) :: (22, .any) :: (21, .any) :: (20, .any) :: (19, .any) :: (18, .any) :: (17, .bool (!true)) :: (16, .bool (!true)) :: (15, .any) :: (14, .any) :: (13, .any) :: (12, .any) :: (11, .any) :: (10, .any) :: (9, _) :: (8, _) :: (7, _) :: (6, _) :: (5, _) :: (4, _) :: (3, _) :: _) tokTB mixed (by kernel_rfl) (by kernel_rfl)
  · intro RR hRR
    refine w_move (by constructor) ?_
    first | refine w_nilc rfl ?_ | refine w_nilp rfl ?_ | refine w_nilf rfl ?_
    first | refine w_fac rfl und54 rfl kn34 nz34 (by decide) rfl (by constructor) ?_ | refine w_fap rfl und54 rfl kn34 nz34 rfl (by decide) rfl ?_
    first | refine w_ldc rfl kn34 (by constructor) (by exact sz34.symm) (by exact ag34.symm) ?_ | refine w_ldp rfl kn34 rfl (by constructor) (by exact sz34.symm) (by exact ag34.symm) ?_
    refine y_call rfl (ec exn) (((decide_eq_true (hv0.va)) ▸ c_IsAlgebra hv0.rb hv0.rv)) ?_
    refine w_not rfl ?_
    refine w_move (by constructor) ?_
    refine w_g_on rfl rfl rfl ?_
    refine w_move (by constructor) ?_
    refine w_g_on rfl rfl rfl ?_
    first | refine w_nilc rfl ?_ | refine w_nilp rfl ?_ | refine w_nilf rfl ?_
    refine w_g_on rfl rfl rfl ?_
    first | refine w_fac rfl und54 rfl kn34 nz34 (by decide) rfl (by constructor) ?_ | refine w_fap rfl und54 rfl kn34 nz34 rfl (by decide) rfl ?_
    refine w_g_on rfl rfl rfl ?_
    first | refine w_ldc rfl kn34 (by constructor) (by exact sz34.symm) (by exact ag34.symm) ?_ | refine w_ldp rfl kn34 rfl (by constructor) (by exact sz34.symm) (by exact ag34.symm) ?_
    refine w_g_on rfl rfl rfl ?_
    refine y_call rfl (ec exn) (((decide_eq_true (hw0.va)) ▸ c_IsAlgebra hw0.rb hw0.rv)) ?_
    refine w_g_on rfl rfl rfl ?_
    refine w_not rfl ?_
    refine w_pick_0 rfl rfl (by constructor) ?_
    refine w_move (by constructor) ?_
    refine w_g_on rfl rfl rfl ?_
    refine w_move (by constructor) ?_
    refine w_g_on rfl rfl rfl ?_
    first | refine w_nilc rfl ?_ | refine w_nilp rfl ?_ | refine w_nilf rfl ?_
    refine w_g_on rfl rfl rfl ?_
    first | refine w_fac rfl und54 rfl kn34 nz34 (by decide) rfl (by constructor) ?_ | refine w_fap rfl und54 rfl kn34 nz34 rfl (by decide) rfl ?_
    refine w_g_on rfl rfl rfl ?_
    first | refine w_fac rfl und34 rfl kn2 nz2 (by decide) rfl (by constructor) ?_ | refine w_fap rfl und34 rfl kn2 nz2 rfl (by decide) rfl ?_
    refine w_g_on rfl rfl rfl ?_
    first | refine w_ldc rfl kn2 (by constructor) (by exact sz2.symm) (by exact ag2.symm) ?_ | refine w_ldp rfl kn2 rfl (by constructor) (by exact sz2.symm) (by exact ag2.symm) ?_
    refine w_g_on rfl rfl rfl ?_
    refine w_move (by constructor) ?_
    refine w_g_on rfl rfl rfl ?_
    first | refine w_nilc rfl ?_ | refine w_nilp rfl ?_ | refine w_nilf rfl ?_
    refine w_g_on rfl rfl rfl ?_
    first | refine w_fac rfl und54 rfl kn34 nz34 (by decide) rfl (by constructor) ?_ | refine w_fap rfl und54 rfl kn34 nz34 rfl (by decide) rfl ?_
    refine w_g_on rfl rfl rfl ?_
    first | refine w_fac rfl und34 rfl kn2 nz2 (by decide) rfl (by constructor) ?_ | refine w_fap rfl und34 rfl kn2 nz2 rfl (by decide) rfl ?_
    refine w_g_on rfl rfl rfl ?_
    first | refine w_ldc rfl kn2 (by constructor) (by exact sz2.symm) (by exact ag2.symm) ?_ | refine w_ldp rfl kn2 rfl (by constructor) (by exact sz2.symm) (by exact ag2.symm) ?_
    refine w_g_on rfl rfl rfl ?_
    refine w_neq rfl rfl ?_
    rw [show (decide (p ≠ q)) = true from decide_eq_true h2]
    refine w_pick_0 rfl rfl (by constructor) ?_
    exact hRR _ (EL.cons (.inr (by first | rfl | (simp only [els]; done) | simp)) (EL.cons (.inl rfl) (EL.cons (.inl rfl) (EL.cons (.inl rfl) (EL.cons (.inl rfl) (EL.cons (.inl rfl) (EL.cons (.inl rfl) (EL.cons (.inl rfl) (EL.cons (.inl rfl) (EL.cons (.inl rfl) (EL.cons (.inl rfl) (EL.cons (.inl rfl) (EL.cons (.inr (by first | rfl | (simp only [els]; done) | simp)) (EL.cons (.inr (by first | rfl | (simp only [els]; done) | simp)) (EL.cons (.inl rfl) (EL.cons (.inl rfl) (EL.cons (.inl rfl) (EL.cons (.inl rfl) (EL.cons (.inl rfl) (EL.cons (.inl rfl) (EL.cons (.inr rfl) (EL.cons (.inr rfl) (EL.cons (.inr rfl) (EL.cons (.inr rfl) (EL.cons (.inr rfl) (EL.cons (.inr rfl) (EL.cons (.inr rfl) (EL.refl _))))))))))))))))))))))))))))
  refine snd_cond_true rfl ?_
  apply sr tokTB (by kernel_rfl)
  · intro RR hRR
    refine w_assign (by constructor) ?_
    exact hRR
  refine snd_ret ?_
  exact rt (T := TB) (fun V => rfl)
theorem c_algebrasOk_d {p : Int} {n m : Nat} {T S : Nat → Nat → Nat → Int} {fo go : Nat → Int} {Y : Nat → Nat → Int} (hv0 : VN p n T fo) (hw0 : VN p m S go) (h3 : ¬ comN n T) : ACalls Try.prog TB 77 [.cptr (prA p (n : Int) T fo p (m : Int) S go Y)] (.bool false) [] := by
  refine acalls_of tokTB Try.func77 rfl rfl (Nat.le_of_ble_eq_true rfl) ?_
  apply sr tokTB (by kernel_rfl)
  · intro RR hRR
    refine w_assign (by constructor) ?_
    exact hRR
  refine snd_seq ?_
  apply sdG (env' := (29, .bool false) :: (28, .any) :: (27, .any) :: (26, .any) :: (25, .any) :: (24, .any) :: (23, .any) :: (22, .any) :: (21, .any) :: (20, .any) :: (19, .any) :: (18, .any) :: (17, .bool (!true)) :: (16, .bool (!true)) :: (15, .any) :: (14, .any) :: (13, .any) :: (12, .any) :: (11, .any) :: (10, .any) :: (9, _) :: (8, _) :: (7, _) :: (6, _) :: (5, _) :: (4, _) :: (3, _) :: _) tokTB mixed (by kernel_rfl) (by kernel_rfl)
  · intro RR hRR
    refine w_move (by constructor) ?_
    first | refine w_nilc rfl ?_ | refine w_nilp rfl ?_ | refine w_nilf rfl ?_
    first | refine w_fac rfl und54 rfl kn34 nz34 (by decide) rfl (by constructor) ?_ | refine w_fap rfl und54 rfl kn34 nz34 rfl (by decide) rfl ?_
    first | refine w_ldc rfl kn34 (by constructor) (by exact sz34.symm) (by exact ag34.symm) ?_ | refine w_ldp rfl kn34 rfl (by constructor) (by exact sz34.symm) (by exact ag34.symm) ?_
    refine y_call rfl (ec exn) (((decide_eq_true (hv0.va)) ▸ c_IsAlgebra hv0.rb hv0.rv)) ?_
    refine w_not rfl ?_
    refine w_move (by constructor) ?_
    refine w_g_on rfl rfl rfl ?_
    refine w_move (by constructor) ?_
    refine w_g_on rfl rfl rfl ?_
    first | refine w_nilc rfl ?_ | refine w_nilp rfl ?_ | refine w_nilf rfl ?_
    refine w_g_on rfl rfl rfl ?_
    first | refine w_fac rfl und54 rfl kn34 nz34 (by decide) rfl (by constructor) ?_ | refine w_fap rfl und54 rfl kn34 nz34 rfl (by decide) rfl ?_
    refine w_g_on rfl rfl rfl ?_
    first | refine w_ldc rfl kn34 (by constructor) (by exact sz34.symm) (by exact ag34.symm) ?_ | refine w_ldp rfl kn34 rfl (by constructor) (by exact sz34.symm) (by exact ag34.symm) ?_
    refine w_g_on rfl rfl rfl ?_
    refine y_call rfl (ec exn) (((decide_eq_true (hw0.va)) ▸ c_IsAlgebra hw0.rb hw0.rv)) ?_
    refine w_g_on rfl rfl rfl ?_
    refine w_not rfl ?_
    refine w_pick_0 rfl rfl (by constructor) ?_
    refine w_move (by constructor) ?_
    refine w_g_on rfl rfl rfl ?_
    refine w_move (by constructor) ?_
    refine w_g_on rfl rfl rfl ?_
    first | refine w_nilc rfl ?_ | refine w_nilp rfl ?_ | refine w_nilf rfl ?_
    refine w_g_on rfl rfl rfl ?_
    first | refine w_fac rfl und54 rfl kn34 nz34 (by decide) rfl (by constructor) ?_ | refine w_fap rfl und54 rfl kn34 nz34 rfl (by decide) rfl ?_
    refine w_g_on rfl rfl rfl ?_
    first | refine w_fac rfl und34 rfl kn2 nz2 (by decide) rfl (by constructor) ?_ | refine w_fap rfl und34 rfl kn2 nz2 rfl (by decide) rfl ?_
    refine w_g_on rfl rfl rfl ?_
    first | refine w_ldc rfl kn2 (by constructor) (by exact sz2.symm) (by exact ag2.symm) ?_ | refine w_ldp rfl kn2 rfl (by constructor) (by exact sz2.symm) (by exact ag2.symm) ?_
    refine w_g_on rfl rfl rfl ?_
    refine w_move (by constructor) ?_
    refine w_g_on rfl rfl rfl ?_
    first | refine w_nilc rfl ?_ | refine w_nilp rfl ?_ | refine w_nilf rfl ?_
    refine w_g_on rfl rfl rfl ?_
    first | refine w_fac rfl und54 rfl kn34 nz34 (by decide) rfl (by constructor) ?_ | refine w_fap rfl und54 rfl kn34 nz34 rfl (by decide) rfl ?_
    refine w_g_on rfl rfl rfl ?_
    first | refine w_fac rfl und34 rfl kn2 nz2 (by decide) rfl (by constructor) ?_ | refine w_fap rfl und34 rfl kn2 nz2 rfl (by decide) rfl ?_
    refine w_g_on rfl rfl rfl ?_
    first | refine w_ldc rfl kn2 (by constructor) (by exact sz2.symm) (by exact ag2.symm) ?_ | refine w_ldp rfl kn2 rfl (by constructor) (by exact sz2.symm) (by exact ag2.symm) ?_
    refine w_g_on rfl rfl rfl ?_
    refine w_neq rfl rfl ?_
    rw [show (decide (p ≠ p)) = false from decide_eq_false (fun h => h rfl)]
    refine w_pick_0 rfl rfl (by constructor) ?_
    exact hRR _ (EL.cons (.inr (by first | rfl | (simp only [els]; done) | simp)) (EL.cons (.inl rfl) (EL.cons (.inl rfl) (EL.cons (.inl rfl) (EL.cons (.inl rfl) (EL.cons (.inl rfl) (EL.cons (.inl rfl) (EL.cons (.inl rfl) (EL.cons (.inl rfl) (EL.cons (.inl rfl) (EL.cons (.inl rfl) (EL.cons (.inl rfl) (EL.cons (.inr (by first | rfl | (simp only [els]; done) | simp)) (EL.cons (.inr (by first | rfl | (simp only [els]; done) | simp)) (EL.cons (.inl rfl) (EL.cons (.inl rfl) (EL.cons (.inl rfl) (EL.cons (.inl rfl) (EL.cons (.inl rfl) (EL.cons (.inl rfl) (EL.cons (.inr rfl) (EL.cons (.inr rfl) (EL.cons (.inr rfl) (EL.cons (.inr rfl) (EL.cons (.inr rfl) (EL.cons (.inr rfl) (EL.cons (.inr rfl) (EL.refl _))))))))))))))))))))))))))))
  refine snd_cond_false rfl ?_
  refine snd_skip ?_
  apply srG (env' := (2, .bool false) :: (51, .bool false) :: (50, .any) :: (49, .any) :: (48, .any) :: (47, .any) :: (46, .bool false) :: (45, .bool false) :: (44, .any) :: (43, .any) :: (42, .any) :: (41, .any) :: (40, .bool false) :: (39, .bool false) :: (38, .any) :: (37, .any) :: (36, .any) :: (35, .any) :: (34, _) :: (33, _) :: (32, _) :: (31, _) :: (30, _) :: _) tokTB (by kernel_rfl)
  · intro RR hRR
    refine w_move (by constructor) ?_
    first | refine w_nilc rfl ?_ | refine w_nilp rfl ?_ | refine w_nilf rfl ?_
    first | refine w_fac rfl und54 rfl kn34 nz34 (by decide) rfl (by constructor) ?_ | refine w_fap rfl und54 rfl kn34 nz34 rfl (by decide) rfl ?_
    refine y_call rfl (ec exn) (((decide_eq_false (h3)) ▸ c_commutative hv0.n6)) ?_
    refine w_move (by constructor) ?_
    refine w_g_off rfl rfl (by decide) ?_
    refine w_g_off rfl rfl (by decide) ?_
    refine w_g_off rfl rfl (by decide) ?_
    refine w_g_off rfl rfl (by decide) ?_
    refine w_pick_0 rfl rfl (by constructor) ?_
    refine w_move (by constructor) ?_
    refine w_g_off rfl rfl (by decide) ?_
    refine w_g_off rfl rfl (by decide) ?_
    refine w_g_off rfl rfl (by decide) ?_
    refine w_g_off rfl rfl (by decide) ?_
    refine w_pick_0 rfl rfl (by constructor) ?_
    refine w_move (by constructor) ?_
    refine w_g_off rfl rfl (by decide) ?_
    refine w_g_off rfl rfl (by decide) ?_
    refine w_g_off rfl rfl (by decide) ?_
    refine w_g_off rfl rfl (by decide) ?_
    refine w_pick_0 rfl rfl (by constructor) ?_
    refine w_assign (by constructor) ?_
    exact hRR _ (EL.cons (.inr (by first | rfl | (simp only [els]; done) | simp)) (EL.cons (.inr (by first | rfl | (simp only [els]; done) | simp)) (EL.cons (.inl rfl) (EL.cons (.inl rfl) (EL.cons (.inl rfl) (EL.cons (.inl rfl) (EL.cons (.inr (by first | rfl | (simp only [els]; done) | simp)) (EL.cons (.inr (by first | rfl | (simp only [els]; done) | simp)) (EL.cons (.inl rfl) (EL.cons (.inl rfl) (EL.cons (.inl rfl) (EL.cons (.inl rfl) (EL.cons (.inr (by first | rfl | (simp only [els]; done) | simp)) (EL.cons (.inr (by first | rfl | (simp only [els]; done) | simp)) (EL.cons (.inl rfl) (EL.cons (.inl rfl) (EL.cons (.inl rfl) (EL.cons (.inl rfl) (EL.cons (.inr rfl) (EL.cons (.inr rfl) (EL.cons (.inr rfl) (EL.cons (.inr rfl) (EL.cons (.inr rfl) (EL.refl _))))))))))))))))))))))))
  refine snd_ret ?_
  exact rt (T := TB) (fun V => rfl)
theorem c_algebrasOk_e {p : Int} {n m : Nat} {T S : Nat → Nat → Nat → Int} {fo go : Nat → Int} {Y : Nat → Nat → Int} (hv0 : VN p n T fo) (hw0 : VN p m S go) (h3 : comN n T) (h4 : ¬ rankT p n T fo = n) : ACalls Try.prog TB 77 [.cptr (prA p (n : Int) T fo p (m : Int) S go Y)] (.bool false) [] := by
  refine acalls_of tokTB Try.func77 rfl rfl (Nat.le_of_ble_eq_true rfl) ?_
  apply sr tokTB (by kernel_rfl)
  · intro RR hRR
    refine w_assign (by constructor) ?_
    exact hRR
  refine snd_seq ?_
  apply sdG (env' := (29, .bool false) :: (28, .any) :: (27, .any) :: (26, .any) :: (25, .any) :: (24, .any) :: (23, .any) :: (22, .any) :: (21, .any) :: (20, .any) :: (19, .any) :: (18, .any) :: (17, .bool (!true)) :: (16, .bool (!true)) :: (15, .any) :: (14, .any) :: (13, .any) :: (12, .any) :: (11, .any) :: (10, .any) :: (9, _) :: (8, _) :: (7, _) :: (6, _) :: (5, _) :: (4, _) :: (3, _) :: _) tokTB mixed (by kernel_rfl) (by kernel_rfl)
  · intro RR hRR
    refine w_move (by constructor) ?_
    first | refine w_nilc rfl ?_ | refine w_nilp rfl ?_ | refine w_nilf rfl ?_
    first | refine w_fac rfl und54 rfl kn34 nz34 (by decide) rfl (by constructor) ?_ | refine w_fap rfl und54 rfl kn34 nz34 rfl (by decide) rfl ?_
    first | refine w_ldc rfl kn34 (by constructor) (by exact sz34.symm) (by exact ag34.symm) ?_ | refine w_ldp rfl kn34 rfl (by constructor) (by exact sz34.symm) (by exact ag34.symm) ?_
    refine y_call rfl (ec exn) (((decide_eq_true (hv0.va)) ▸ c_IsAlgebra hv0.rb hv0.rv)) ?_
    refine w_not rfl ?_
    refine w_move (by constructor) ?_
    refine w_g_on rfl rfl rfl ?_
    refine w_move (by constructor) ?_
    refine w_g_on rfl rfl rfl ?_
    first | refine w_nilc rfl ?_ | refine w_nilp rfl ?_ | refine w_nilf rfl ?_
    refine w_g_on rfl rfl rfl ?_
    first | refine w_fac rfl und54 rfl kn34 nz34 (by decide) rfl (by constructor) ?_ | refine w_fap rfl und54 rfl kn34 nz34 rfl (by decide) rfl ?_
    refine w_g_on rfl rfl rfl ?_
    first | refine w_ldc rfl kn34 (by constructor) (by exact sz34.symm) (by exact ag34.symm) ?_ | refine w_ldp rfl kn34 rfl (by constructor) (by exact sz34.symm) (by exact ag34.symm) ?_
    refine w_g_on rfl rfl rfl ?_
    refine y_call rfl (ec exn) (((decide_eq_true (hw0.va)) ▸ c_IsAlgebra hw0.rb hw0.rv)) ?_
    refine w_g_on rfl rfl rfl ?_
    refine w_not rfl ?_
    refine w_pick_0 rfl rfl (by constructor) ?_
    refine w_move (by constructor) ?_
    refine w_g_on rfl rfl rfl ?_
    refine w_move (by constructor) ?_
    refine w_g_on rfl rfl rfl ?_
    first | refine w_nilc rfl ?_ | refine w_nilp rfl ?_ | refine w_nilf rfl ?_
    refine w_g_on rfl rfl rfl ?_
    first | refine w_fac rfl und54 rfl kn34 nz34 (by decide) rfl (by constructor) ?_ | refine w_fap rfl und54 rfl kn34 nz34 rfl (by decide) rfl ?_
    refine w_g_on rfl rfl rfl ?_
    first | refine w_fac rfl und34 rfl kn2 nz2 (by decide) rfl (by constructor) ?_ | refine w_fap rfl und34 rfl kn2 nz2 rfl (by decide) rfl ?_
    refine w_g_on rfl rfl rfl ?_
    first | refine w_ldc rfl kn2 (by constructor) (by exact sz2.symm) (by exact ag2.symm) ?_ | refine w_ldp rfl kn2 rfl (by constructor) (by exact sz2.symm) (by exact ag2.symm) ?_
    refine w_g_on rfl rfl rfl ?_
    refine w_move (by constructor) ?_
    refine w_g_on rfl rfl rfl ?_
    first | refine w_nilc rfl ?_ | refine w_nilp rfl ?_ | refine w_nilf rfl ?_
    refine w_g_on rfl rfl rfl ?_
    first | refine w_fac rfl und54 rfl kn34 nz34 (by decide) rfl (by constructor) ?_ | refine w_fap rfl und54 rfl kn34 nz34 rfl (by decide) rfl ?_
    refine w_g_on rfl rfl rfl ?_
    first | refine w_fac rfl und34 rfl kn2 nz2 (by decide) rfl (by constructor) ?_ | refine w_fap rfl und34 rfl kn2 nz2 rfl (by decide) rfl ?_
    refine w_g_on rfl rfl rfl ?_
    first | refine w_ldc rfl kn2 (by constructor) (by exact sz2.symm) (by exact ag2.symm) ?_ | refine w_ldp rfl kn2 rfl (by constructor) (by exact sz2.symm) (by exact ag2.symm) ?_
    refine w_g_on rfl rfl rfl ?_
    refine w_neq rfl rfl ?_
    rw [show (decide (p ≠ p)) = false from decide_eq_false (fun h => h rfl)]
    refine w_pick_0 rfl rfl (by constructor) ?_
    exact hRR _ (EL.cons (.inr (by first | rfl | (simp only [els]; done) | simp)) (EL.cons (.inl rfl) (EL.cons (.inl rfl) (EL.cons (.inl rfl) (EL.cons (.inl rfl) (EL.cons (.inl rfl) (EL.cons (.inl rfl) (EL.cons (.inl rfl) (EL.cons (.inl rfl) (EL.cons (.inl rfl) (EL.cons (.inl rfl) (EL.cons (.inl rfl) (EL.cons (.inr (by first | rfl | (simp only [els]; done) | simp)) (EL.cons (.inr (by first | rfl | (simp only [els]; done) | simp)) (EL.cons (.inl rfl) (EL.cons (.inl rfl) (EL.cons (.inl rfl) (EL.cons (.inl rfl) (EL.cons (.inl rfl) (EL.cons (.inl rfl) (EL.cons (.inr rfl) (EL.cons (.inr rfl) (EL.cons (.inr rfl) (EL.cons (.inr rfl) (EL.cons (.inr rfl) (EL.cons (.inr rfl) (EL.cons (.inr rfl) (EL.refl _))))))))))))))))))))))))))))
  refine snd_cond_false rfl ?_
  refine snd_skip ?_
  apply srG (env' := (2, .bool false) :: (51, .bool false) :: (50, .any) :: (49, .any) :: (48, .any) :: (47, .any) :: (46, .bool false) :: (45, .bool false) :: (44, .any) :: (43, .any) :: (42, .any) :: (41, .any) :: (40, .bool false) :: (39, .bool false) :: (38, .any) :: (37, .any) :: (36, .any) :: (35, .any) :: (34, _) :: (33, _) :: (32, _) :: (31, _) :: (30, _) :: _) tokTB (by kernel_rfl)
  · intro RR hRR
    refine w_move (by constructor) ?_
    first | refine w_nilc rfl ?_ | refine w_nilp rfl ?_ | refine w_nilf rfl ?_
    first | refine w_fac rfl und54 rfl kn34 nz34 (by decide) rfl (by constructor) ?_ | refine w_fap rfl und54 rfl kn34 nz34 rfl (by decide) rfl ?_
    refine y_call rfl (ec exn) (((decide_eq_true (h3)) ▸ c_commutative hv0.n6)) ?_
    refine w_move (by constructor) ?_
    refine w_g_on rfl rfl rfl ?_
    refine w_move (by constructor) ?_
    refine w_g_on rfl rfl rfl ?_
    first | refine w_nilc rfl ?_ | refine w_nilp rfl ?_ | refine w_nilf rfl ?_
    refine w_g_on rfl rfl rfl ?_
    first | refine w_fac rfl und54 rfl kn34 nz34 (by decide) rfl (by constructor) ?_ | refine w_fap rfl und54 rfl kn34 nz34 rfl (by decide) rfl ?_
    refine w_g_on rfl rfl rfl ?_
    refine y_call rfl (ec exn) (((decide_eq_false (h4)) ▸ c_frobenius hv0)) ?_
    refine w_pick_1 rfl rfl (by constructor) ?_
    refine w_move (by constructor) ?_
    refine w_g_off rfl rfl (by decide) ?_
    refine w_g_off rfl rfl (by decide) ?_
    refine w_g_off rfl rfl (by decide) ?_
    refine w_g_off rfl rfl (by decide) ?_
    refine w_pick_0 rfl rfl (by constructor) ?_
    refine w_move (by constructor) ?_
    refine w_g_off rfl rfl (by decide) ?_
    refine w_g_off rfl rfl (by decide) ?_
    refine w_g_off rfl rfl (by decide) ?_
    refine w_g_off rfl rfl (by decide) ?_
    refine w_pick_0 rfl rfl (by constructor) ?_
    refine w_assign (by constructor) ?_
    exact hRR _ (EL.cons (.inr (by first | rfl | (simp only [els]; done) | simp)) (EL.cons (.inr (by first | rfl | (simp only [els]; done) | simp)) (EL.cons (.inl rfl) (EL.cons (.inl rfl) (EL.cons (.inl rfl) (EL.cons (.inl rfl) (EL.cons (.inr (by first | rfl | (simp only [els]; done) | simp)) (EL.cons (.inr (by first | rfl | (simp only [els]; done) | simp)) (EL.cons (.inl rfl) (EL.cons (.inl rfl) (EL.cons (.inl rfl) (EL.cons (.inl rfl) (EL.cons (.inr (by first | rfl | (simp only [els]; done) | simp)) (EL.cons (.inr (by first | rfl | (simp only [els]; done) | simp)) (EL.cons (.inl rfl) (EL.cons (.inl rfl) (EL.cons (.inl rfl) (EL.cons (.inl rfl) (EL.cons (.inr rfl) (EL.cons (.inr rfl) (EL.cons (.inr rfl) (EL.cons (.inr rfl) (EL.cons (.inr rfl) (EL.refl _))))))))))))))))))))))))
  refine snd_ret ?_
  exact rt (T := TB) (fun V => rfl)
theorem c_algebrasOk_f {p : Int} {n m : Nat} {T S : Nat → Nat → Nat → Int} {fo go : Nat → Int} {Y : Nat → Nat → Int} (hv0 : VN p n T fo) (hw0 : VN p m S go) (h3 : comN n T) (h4 : rankT p n T fo = n) (h5 : ¬ rankT p m S go = m) : ACalls Try.prog TB 77 [.cptr (prA p (n : Int) T fo p (m : Int) S go Y)] (.bool false) [] := by
  refine acalls_of tokTB Try.func77 rfl rfl (Nat.le_of_ble_eq_true rfl) ?_
  apply sr tokTB (by kernel_rfl)
  · intro RR hRR
    refine w_assign (by constructor) ?_
    exact hRR
  refine snd_seq ?_
  apply sdG (env' := (29, .bool false) :: (28, .any) :: (27, .any) :: (26, .any) :: (25, .any) :: (24, .any) :: (23, .any) :: (22, .any) :: (21, .any) :: (20, .any) :: (19, .any) :: (18, .any) :: (17, .bool (!true)) :: (16, .bool (!true)) :: (15, .any) :: (14, .any) :: (13, .any) :: (12, .any) :: (11, .any) :: (10, .any) :: (9, _) :: (8, _) :: (7, _) :: (6, _) :: (5, _) :: (4, _) :: (3, _) :: _) tokTB mixed (by kernel_rfl) (by kernel_rfl)
  · intro RR hRR
    refine w_move (by constructor) ?_
    first | refine w_nilc rfl ?_ | refine w_nilp rfl ?_ | refine w_nilf rfl ?_
    first | refine w_fac rfl und54 rfl kn34 nz34 (by decide) rfl (by constructor) ?_ | refine w_fap rfl und54 rfl kn34 nz34 rfl (by decide) rfl ?_
    first | refine w_ldc rfl kn34 (by constructor) (by exact sz34.symm) (by exact ag34.symm) ?_ | refine w_ldp rfl kn34 rfl (by constructor) (by exact sz34.symm) (by exact ag34.symm) ?_
    refine y_call rfl (ec exn) (((decide_eq_true (hv0.va)) ▸ c_IsAlgebra hv0.rb hv0.rv)) ?_
    refine w_not rfl ?_
    refine w_move (by constructor) ?_
    refine w_g_on rfl rfl rfl ?_
    refine w_move (by constructor) ?_
    refine w_g_on rfl rfl rfl ?_
    first | refine w_nilc rfl ?_ | refine w_nilp rfl ?_ | refine w_nilf rfl ?_
    refine w_g_on rfl rfl rfl ?_
    first | refine w_fac rfl und54 rfl kn34 nz34 (by decide) rfl (by constructor) ?_ | refine w_fap rfl und54 rfl kn34 nz34 rfl (by decide) rfl ?_
    refine w_g_on rfl rfl rfl ?_
    first | refine w_ldc rfl kn34 (by constructor) (by exact sz34.symm) (by exact ag34.symm) ?_ | refine w_ldp rfl kn34 rfl (by constructor) (by exact sz34.symm) (by exact ag34.symm) ?_
    refine w_g_on rfl rfl rfl ?_
    refine y_call rfl (ec exn) (((decide_eq_true (hw0.va)) ▸ c_IsAlgebra hw0.rb hw0.rv)) ?_
    refine w_g_on rfl rfl rfl ?_
    refine w_not rfl ?_
    refine w_pick_0 rfl rfl (by constructor) ?_
    refine w_move (by constructor) ?_
    refine w_g_on rfl rfl rfl ?_
    refine w_move (by constructor) ?_
    refine w_g_on rfl rfl rfl ?_
    first | refine w_nilc rfl ?_ | refine w_nilp rfl ?_ | refine w_nilf rfl ?_
    refine w_g_on rfl rfl rfl ?_
    first | refine w_fac rfl und54 rfl kn34 nz34 (by decide) rfl (by constructor) ?_ | refine w_fap rfl und54 rfl kn34 nz34 rfl (by decide) rfl ?_
    refine w_g_on rfl rfl rfl ?_
    first | refine w_fac rfl und34 rfl kn2 nz2 (by decide) rfl (by constructor) ?_ | refine w_fap rfl und34 rfl kn2 nz2 rfl (by decide) rfl ?_
    refine w_g_on rfl rfl rfl ?_
    first | refine w_ldc rfl kn2 (by constructor) (by exact sz2.symm) (by exact ag2.symm) ?_ | refine w_ldp rfl kn2 rfl (by constructor) (by exact sz2.symm) (by exact ag2.symm) ?_
    refine w_g_on rfl rfl rfl ?_
    refine w_move (by constructor) ?_
    refine w_g_on rfl rfl rfl ?_
    first | refine w_nilc rfl ?_ | refine w_nilp rfl ?_ | refine w_nilf rfl ?_
    refine w_g_on rfl rfl rfl ?_
    first | refine w_fac rfl und54 rfl kn34 nz34 (by decide) rfl (by constructor) ?_ | refine w_fap rfl und54 rfl kn34 nz34 rfl (by decide) rfl ?_
    refine w_g_on rfl rfl rfl ?_
    first | refine w_fac rfl und34 rfl kn2 nz2 (by decide) rfl (by constructor) ?_ | refine w_fap rfl und34 rfl kn2 nz2 rfl (by decide) rfl ?_
    refine w_g_on rfl rfl rfl ?_
    first | refine w_ldc rfl kn2 (by constructor) (by exact sz2.symm) (by exact ag2.symm) ?_ | refine w_ldp rfl kn2 rfl (by constructor) (by exact sz2.symm) (by exact ag2.symm) ?_
    refine w_g_on rfl rfl rfl ?_
    refine w_neq rfl rfl ?_
    rw [show (decide (p ≠ p)) = false from decide_eq_false (fun h => h rfl)]
    refine w_pick_0 rfl rfl (by constructor) ?_
    exact hRR _ (EL.cons (.inr (by first | rfl | (simp only [els]; done) | simp)) (EL.cons (.inl rfl) (EL.cons (.inl rfl) (EL.cons (.inl rfl) (EL.cons (.inl rfl) (EL.cons (.inl rfl) (EL.cons (.inl rfl) (EL.cons (.inl rfl) (EL.cons (.inl rfl) (EL.cons (.inl rfl) (EL.cons (.inl rfl) (EL.cons (.inl rfl) (EL.cons (.inr (by first | rfl | (simp only [els]; done) | simp)) (EL.cons (.inr (by first | rfl | (simp only [els]; done) | simp)) (EL.cons (.inl rfl) (EL.cons (.inl rfl) (EL.cons (.inl rfl) (EL.cons (.inl rfl) (EL.cons (.inl rfl) (EL.cons (.inl rfl) (EL.cons (.inr rfl) (EL.cons (.inr rfl) (EL.cons (.inr rfl) (EL.cons (.inr rfl) (EL.cons (.inr rfl) (EL.cons (.inr rfl) (EL.cons (.inr rfl) (EL.refl _))))))))))))))))))))))))))))
  refine snd_cond_false rfl ?_
  refine snd_skip ?_
  apply srG (env' := (2, .bool false) :: (51, .bool false) :: (50, .any) :: (49, .any) :: (48, .any) :: (47, .any) :: (46, .bool false) :: (45, .bool false) :: (44, .any) :: (43, .any) :: (42, .any) :: (41, .any) :: (40, .bool true) :: (39, .bool true) :: (38, .any) :: (37, .any) :: (36, .any) :: (35, .any) :: (34, _) :: (33, _) :: (32, _) :: (31, _) :: (30, _) :: _) tokTB (by kernel_rfl)
  · intro RR hRR
    refine w_move (by constructor) ?_
    first | refine w_nilc rfl ?_ | refine w_nilp rfl ?_ | refine w_nilf rfl ?_
    first | refine w_fac rfl und54 rfl kn34 nz34 (by decide) rfl (by constructor) ?_ | refine w_fap rfl und54 rfl kn34 nz34 rfl (by decide) rfl ?_
    refine y_call rfl (ec exn) (((decide_eq_true (h3)) ▸ c_commutative hv0.n6)) ?_
    refine w_move (by constructor) ?_
    refine w_g_on rfl rfl rfl ?_
    refine w_move (by constructor) ?_
    refine w_g_on rfl rfl rfl ?_
    first | refine w_nilc rfl ?_ | refine w_nilp rfl ?_ | refine w_nilf rfl ?_
    refine w_g_on rfl rfl rfl ?_
    first | refine w_fac rfl und54 rfl kn34 nz34 (by decide) rfl (by constructor) ?_ | refine w_fap rfl und54 rfl kn34 nz34 rfl (by decide) rfl ?_
    refine w_g_on rfl rfl rfl ?_
    refine y_call rfl (ec exn) (((decide_eq_true (h4)) ▸ c_frobenius hv0)) ?_
    refine w_pick_1 rfl rfl (by constructor) ?_
    refine w_move (by constructor) ?_
    refine w_g_on rfl rfl rfl ?_
    refine w_move (by constructor) ?_
    refine w_g_on rfl rfl rfl ?_
    first | refine w_nilc rfl ?_ | refine w_nilp rfl ?_ | refine w_nilf rfl ?_
    refine w_g_on rfl rfl rfl ?_
    first | refine w_fac rfl und54 rfl kn34 nz34 (by decide) rfl (by constructor) ?_ | refine w_fap rfl und54 rfl kn34 nz34 rfl (by decide) rfl ?_
    refine w_g_on rfl rfl rfl ?_
    refine y_call rfl (ec exn) (((decide_eq_false (h5)) ▸ c_frobenius hw0)) ?_
    refine w_pick_1 rfl rfl (by constructor) ?_
    refine w_move (by constructor) ?_
    refine w_g_off rfl rfl (by decide) ?_
    refine w_g_off rfl rfl (by decide) ?_
    refine w_g_off rfl rfl (by decide) ?_
    refine w_g_off rfl rfl (by decide) ?_
    refine w_pick_0 rfl rfl (by constructor) ?_
    refine w_assign (by constructor) ?_
    exact hRR _ (EL.cons (.inr (by first | rfl | (simp only [els]; done) | simp)) (EL.cons (.inr (by first | rfl | (simp only [els]; done) | simp)) (EL.cons (.inl rfl) (EL.cons (.inl rfl) (EL.cons (.inl rfl) (EL.cons (.inl rfl) (EL.cons (.inr (by first | rfl | (simp only [els]; done) | simp)) (EL.cons (.inr (by first | rfl | (simp only [els]; done) | simp)) (EL.cons (.inl rfl) (EL.cons (.inl rfl) (EL.cons (.inl rfl) (EL.cons (.inl rfl) (EL.cons (.inr (by first | rfl | (simp only [els]; done) | simp)) (EL.cons (.inr (by first | rfl | (simp only [els]; done) | simp)) (EL.cons (.inl rfl) (EL.cons (.inl rfl) (EL.cons (.inl rfl) (EL.cons (.inl rfl) (EL.cons (.inr rfl) (EL.cons (.inr rfl) (EL.cons (.inr rfl) (EL.cons (.inr rfl) (EL.cons (.inr rfl) (EL.refl _))))))))))))))))))))))))
  refine snd_ret ?_
  exact rt (T := TB) (fun V => rfl)
theorem c_algebrasOk_g {p : Int} {n m : Nat} {T S : Nat → Nat → Nat → Int} {fo go : Nat → Int} {Y : Nat → Nat → Int} (hv0 : VN p n T fo) (hw0 : VN p m S go) (h3 : comN n T) (h4 : rankT p n T fo = n) (h5 : rankT p m S go = m) (h6 : ¬ symA m (formT p S go)) : ACalls Try.prog TB 77 [.cptr (prA p (n : Int) T fo p (m : Int) S go Y)] (.bool false) [] := by
  refine acalls_of tokTB Try.func77 rfl rfl (Nat.le_of_ble_eq_true rfl) ?_
  apply sr tokTB (by kernel_rfl)
  · intro RR hRR
    refine w_assign (by constructor) ?_
    exact hRR
  refine snd_seq ?_
  apply sdG (env' := (29, .bool false) :: (28, .any) :: (27, .any) :: (26, .any) :: (25, .any) :: (24, .any) :: (23, .any) :: (22, .any) :: (21, .any) :: (20, .any) :: (19, .any) :: (18, .any) :: (17, .bool (!true)) :: (16, .bool (!true)) :: (15, .any) :: (14, .any) :: (13, .any) :: (12, .any) :: (11, .any) :: (10, .any) :: (9, _) :: (8, _) :: (7, _) :: (6, _) :: (5, _) :: (4, _) :: (3, _) :: _) tokTB mixed (by kernel_rfl) (by kernel_rfl)
  · intro RR hRR
    refine w_move (by constructor) ?_
    first | refine w_nilc rfl ?_ | refine w_nilp rfl ?_ | refine w_nilf rfl ?_
    first | refine w_fac rfl und54 rfl kn34 nz34 (by decide) rfl (by constructor) ?_ | refine w_fap rfl und54 rfl kn34 nz34 rfl (by decide) rfl ?_
    first | refine w_ldc rfl kn34 (by constructor) (by exact sz34.symm) (by exact ag34.symm) ?_ | refine w_ldp rfl kn34 rfl (by constructor) (by exact sz34.symm) (by exact ag34.symm) ?_
    refine y_call rfl (ec exn) (((decide_eq_true (hv0.va)) ▸ c_IsAlgebra hv0.rb hv0.rv)) ?_
    refine w_not rfl ?_
    refine w_move (by constructor) ?_
    refine w_g_on rfl rfl rfl ?_
    refine w_move (by constructor) ?_
    refine w_g_on rfl rfl rfl ?_
    first | refine w_nilc rfl ?_ | refine w_nilp rfl ?_ | refine w_nilf rfl ?_
    refine w_g_on rfl rfl rfl ?_
    first | refine w_fac rfl und54 rfl kn34 nz34 (by decide) rfl (by constructor) ?_ | refine w_fap rfl und54 rfl kn34 nz34 rfl (by decide) rfl ?_
    refine w_g_on rfl rfl rfl ?_
    first | refine w_ldc rfl kn34 (by constructor) (by exact sz34.symm) (by exact ag34.symm) ?_ | refine w_ldp rfl kn34 rfl (by constructor) (by exact sz34.symm) (by exact ag34.symm) ?_
    refine w_g_on rfl rfl rfl ?_
    refine y_call rfl (ec exn) (((decide_eq_true (hw0.va)) ▸ c_IsAlgebra hw0.rb hw0.rv)) ?_
    refine w_g_on rfl rfl rfl ?_
    refine w_not rfl ?_
    refine w_pick_0 rfl rfl (by constructor) ?_
    refine w_move (by constructor) ?_
    refine w_g_on rfl rfl rfl ?_
    refine w_move (by constructor) ?_
    refine w_g_on rfl rfl rfl ?_
    first | refine w_nilc rfl ?_ | refine w_nilp rfl ?_ | refine w_nilf rfl ?_
    refine w_g_on rfl rfl rfl ?_
    first | refine w_fac rfl und54 rfl kn34 nz34 (by decide) rfl (by constructor) ?_ | refine w_fap rfl und54 rfl kn34 nz34 rfl (by decide) rfl ?_
    refine w_g_on rfl rfl rfl ?_
    first | refine w_fac rfl und34 rfl kn2 nz2 (by decide) rfl (by constructor) ?_ | refine w_fap rfl und34 rfl kn2 nz2 rfl (by decide) rfl ?_
    refine w_g_on rfl rfl rfl ?_
    first | refine w_ldc rfl kn2 (by constructor) (by exact sz2.symm) (by exact ag2.symm) ?_ | refine w_ldp rfl kn2 rfl (by constructor) (by exact sz2.symm) (by exact ag2.symm) ?_
    refine w_g_on rfl rfl rfl ?_
    refine w_move (by constructor) ?_
    refine w_g_on rfl rfl rfl ?_
    first | refine w_nilc rfl ?_ | refine w_nilp rfl ?_ | refine w_nilf rfl ?_
    refine w_g_on rfl rfl rfl ?_
    first | refine w_fac rfl und54 rfl kn34 nz34 (by decide) rfl (by constructor) ?_ | refine w_fap rfl und54 rfl kn34 nz34 rfl (by decide) rfl ?_
    refine w_g_on rfl rfl rfl ?_
    first | refine w_fac rfl und34 rfl kn2 nz2 (by decide) rfl (by constructor) ?_ | refine w_fap rfl und34 rfl kn2 nz2 rfl (by decide) rfl ?_
    refine w_g_on rfl rfl rfl ?_
    first | refine w_ldc rfl kn2 (by constructor) (by exact sz2.symm) (by exact ag2.symm) ?_ | refine w_ldp rfl kn2 rfl (by constructor) (by exact sz2.symm) (by exact ag2.symm) ?_
    refine w_g_on rfl rfl rfl ?_
    refine w_neq rfl rfl ?_
    rw [show (decide (p ≠ p)) = false from decide_eq_false (fun h => h rfl)]
    refine w_pick_0 rfl rfl (by constructor) ?_
    exact hRR _ (EL.cons (.inr (by first | rfl | (simp only [els]; done) | simp)) (EL.cons (.inl rfl) (EL.cons (.inl rfl) (EL.cons (.inl rfl) (EL.cons (.inl rfl) (EL.cons (.inl rfl) (EL.cons (.inl rfl) (EL.cons (.inl rfl) (EL.cons (.inl rfl) (EL.cons (.inl rfl) (EL.cons (.inl rfl) (EL.cons (.inl rfl) (EL.cons (.inr (by first | rfl | (simp only [els]; done) | simp)) (EL.cons (.inr (by first | rfl | (simp only [els]; done) | simp)) (EL.cons (.inl rfl) (EL.cons (.inl rfl) (EL.cons (.inl rfl) (EL.cons (.inl rfl) (EL.cons (.inl rfl) (EL.cons (.inl rfl) (EL.cons (.inr rfl) (EL.cons (.inr rfl) (EL.cons (.inr rfl) (EL.cons (.inr rfl) (EL.cons (.inr rfl) (EL.cons (.inr rfl) (EL.cons (.inr rfl) (EL.refl _))))))))))))))))))))))))))))
  refine snd_cond_false rfl ?_
  refine snd_skip ?_
  apply srG (env' := (2, .bool false) :: (51, .bool false) :: (50, .any) :: (49, .any) :: (48, .any) :: (47, .any) :: (46, .bool true) :: (45, .bool true) :: (44, .any) :: (43, .any) :: (42, .any) :: (41, .any) :: (40, .bool true) :: (39, .bool true) :: (38, .any) :: (37, .any) :: (36, .any) :: (35, .any) :: (34, _) :: (33, _) :: (32, _) :: (31, _) :: (30, _) :: _) tokTB (by kernel_rfl)
  · intro RR hRR
    refine w_move (by constructor) ?_
    first | refine w_nilc rfl ?_ | refine w_nilp rfl ?_ | refine w_nilf rfl ?_
    first | refine w_fac rfl und54 rfl kn34 nz34 (by decide) rfl (by constructor) ?_ | refine w_fap rfl und54 rfl kn34 nz34 rfl (by decide) rfl ?_
    refine y_call rfl (ec exn) (((decide_eq_true (h3)) ▸ c_commutative hv0.n6)) ?_
    refine w_move (by constructor) ?_
    refine w_g_on rfl rfl rfl ?_
    refine w_move (by constructor) ?_
    refine w_g_on rfl rfl rfl ?_
    first | refine w_nilc rfl ?_ | refine w_nilp rfl ?_ | refine w_nilf rfl ?_
    refine w_g_on rfl rfl rfl ?_
    first | refine w_fac rfl und54 rfl kn34 nz34 (by decide) rfl (by constructor) ?_ | refine w_fap rfl und54 rfl kn34 nz34 rfl (by decide) rfl ?_
    refine w_g_on rfl rfl rfl ?_
    refine y_call rfl (ec exn) (((decide_eq_true (h4)) ▸ c_frobenius hv0)) ?_
    refine w_pick_1 rfl rfl (by constructor) ?_
    refine w_move (by constructor) ?_
    refine w_g_on rfl rfl rfl ?_
    refine w_move (by constructor) ?_
    refine w_g_on rfl rfl rfl ?_
    first | refine w_nilc rfl ?_ | refine w_nilp rfl ?_ | refine w_nilf rfl ?_
    refine w_g_on rfl rfl rfl ?_
    first | refine w_fac rfl und54 rfl kn34 nz34 (by decide) rfl (by constructor) ?_ | refine w_fap rfl und54 rfl kn34 nz34 rfl (by decide) rfl ?_
    refine w_g_on rfl rfl rfl ?_
    refine y_call rfl (ec exn) (((decide_eq_true (h5)) ▸ c_frobenius hw0)) ?_
    refine w_pick_1 rfl rfl (by constructor) ?_
    refine w_move (by constructor) ?_
    refine w_g_on rfl rfl rfl ?_
    refine w_move (by constructor) ?_
    refine w_g_on rfl rfl rfl ?_
    first | refine w_nilc rfl ?_ | refine w_nilp rfl ?_ | refine w_nilf rfl ?_
    refine w_g_on rfl rfl rfl ?_
    first | refine w_fac rfl und54 rfl kn34 nz34 (by decide) rfl (by constructor) ?_ | refine w_fap rfl und54 rfl kn34 nz34 rfl (by decide) rfl ?_
    refine w_g_on rfl rfl rfl ?_
    refine y_call rfl (ec exn) (((decide_eq_false (h6)) ▸ c_symmetric hw0)) ?_
    refine w_pick_1 rfl rfl (by constructor) ?_
    refine w_assign (by constructor) ?_
    exact hRR _ (EL.cons (.inr (by first | rfl | (simp only [els]; done) | simp)) (EL.cons (.inr (by first | rfl | (simp only [els]; done) | simp)) (EL.cons (.inl rfl) (EL.cons (.inl rfl) (EL.cons (.inl rfl) (EL.cons (.inl rfl) (EL.cons (.inr (by first | rfl | (simp only [els]; done) | simp)) (EL.cons (.inr (by first | rfl | (simp only [els]; done) | simp)) (EL.cons (.inl rfl) (EL.cons (.inl rfl) (EL.cons (.inl rfl) (EL.cons (.inl rfl) (EL.cons (.inr (by first | rfl | (simp only [els]; done) | simp)) (EL.cons (.inr (by first | rfl | (simp only [els]; done) | simp)) (EL.cons (.inl rfl) (EL.cons (.inl rfl) (EL.cons (.inl rfl) (EL.cons (.inl rfl) (EL.cons (.inr rfl) (EL.cons (.inr rfl) (EL.cons (.inr rfl) (EL.cons (.inr rfl) (EL.cons (.inr rfl) (EL.refl _))))))))))))))))))))))))
  refine snd_ret ?_
  exact rt (T := TB) (fun V => rfl)
theorem c_algebrasOk_ok {p : Int} {n m : Nat} {T S : Nat → Nat → Nat → Int} {fo go : Nat → Int} {Y : Nat → Nat → Int} (hv0 : VN p n T fo) (hw0 : VN p m S go) (h3 : comN n T) (h4 : rankT p n T fo = n) (h5 : rankT p m S go = m) (h6 : symA m (formT p S go)) : ACalls Try.prog TB 77 [.cptr (prA p (n : Int) T fo p (m : Int) S go Y)] (.bool true) [] := by
  refine acalls_of tokTB Try.func77 rfl rfl (Nat.le_of_ble_eq_true rfl) ?_
  apply sr tokTB (by kernel_rfl)
  · intro RR hRR
    refine w_assign (by constructor) ?_
    exact hRR
  refine snd_seq ?_
  apply sdG (env' := (29, .bool false) :: (28, .any) :: (27, .any) :: (26, .any) :: (25, .any) :: (24, .any) :: (23, .any) :: (22, .any) :: (21, .any) :: (20, .any) :: (19, .any) :: (18, .any) :: (17, .bool (!true)) :: (16, .bool (!true)) :: (15, .any) :: (14, .any) :: (13, .any) :: (12, .any) :: (11, .any) :: (10, .any) :: (9, _) :: (8, _) :: (7, _) :: (6, _) :: (5, _) :: (4, _) :: (3, _) :: _) tokTB mixed (by kernel_rfl) (by kernel_rfl)
  · intro RR hRR
    refine w_move (by constructor) ?_
    first | refine w_nilc rfl ?_ | refine w_nilp rfl ?_ | refine w_nilf rfl ?_
    first | refine w_fac rfl und54 rfl kn34 nz34 (by decide) rfl (by constructor) ?_ | refine w_fap rfl und54 rfl kn34 nz34 rfl (by decide) rfl ?_
    first | refine w_ldc rfl kn34 (by constructor) (by exact sz34.symm) (by exact ag34.symm) ?_ | refine w_ldp rfl kn34 rfl (by constructor) (by exact sz34.symm) (by exact ag34.symm) ?_
    refine y_call rfl (ec exn) (((decide_eq_true (hv0.va)) ▸ c_IsAlgebra hv0.rb hv0.rv)) ?_
    refine w_not rfl ?_
    refine w_move (by constructor) ?_
    refine w_g_on rfl rfl rfl ?_
    refine w_move (by constructor) ?_
    refine w_g_on rfl rfl rfl ?_
    first | refine w_nilc rfl ?_ | refine w_nilp rfl ?_ | refine w_nilf rfl ?_
    refine w_g_on rfl rfl rfl ?_
    first | refine w_fac rfl und54 rfl kn34 nz34 (by decide) rfl (by constructor) ?_ | refine w_fap rfl und54 rfl kn34 nz34 rfl (by decide) rfl ?_
    refine w_g_on rfl rfl rfl ?_
    first | refine w_ldc rfl kn34 (by constructor) (by exact sz34.symm) (by exact ag34.symm) ?_ | refine w_ldp rfl kn34 rfl (by constructor) (by exact sz34.symm) (by exact ag34.symm) ?_
    refine w_g_on rfl rfl rfl ?_
    refine y_call rfl (ec exn) (((decide_eq_true (hw0.va)) ▸ c_IsAlgebra hw0.rb hw0.rv)) ?_
    refine w_g_on rfl rfl rfl ?_
    refine w_not rfl ?_
    refine w_pick_0 rfl rfl (by constructor) ?_
    refine w_move (by constructor) ?_
    refine w_g_on rfl rfl rfl ?_
    refine w_move (by constructor) ?_
    refine w_g_on rfl rfl rfl ?_
    first | refine w_nilc rfl ?_ | refine w_nilp rfl ?_ | refine w_nilf rfl ?_
    refine w_g_on rfl rfl rfl ?_
    first | refine w_fac rfl und54 rfl kn34 nz34 (by decide) rfl (by constructor) ?_ | refine w_fap rfl und54 rfl kn34 nz34 rfl (by decide) rfl ?_
    refine w_g_on rfl rfl rfl ?_
    first | refine w_fac rfl und34 rfl kn2 nz2 (by decide) rfl (by constructor) ?_ | refine w_fap rfl und34 rfl kn2 nz2 rfl (by decide) rfl ?_
    refine w_g_on rfl rfl rfl ?_
    first | refine w_ldc rfl kn2 (by constructor) (by exact sz2.symm) (by exact ag2.symm) ?_ | refine w_ldp rfl kn2 rfl (by constructor) (by exact sz2.symm) (by exact ag2.symm) ?_
    refine w_g_on rfl rfl rfl ?_
    refine w_move (by constructor) ?_
    refine w_g_on rfl rfl rfl ?_
    first | refine w_nilc rfl ?_ | refine w_nilp rfl ?_ | refine w_nilf rfl ?_
    refine w_g_on rfl rfl rfl ?_
    first | refine w_fac rfl und54 rfl kn34 nz34 (by decide) rfl (by constructor) ?_ | refine w_fap rfl und54 rfl kn34 nz34 rfl (by decide) rfl ?_
    refine w_g_on rfl rfl rfl ?_
    first | refine w_fac rfl und34 rfl kn2 nz2 (by decide) rfl (by constructor) ?_ | refine w_fap rfl und34 rfl kn2 nz2 rfl (by decide) rfl ?_
    refine w_g_on rfl rfl rfl ?_
    first | refine w_ldc rfl kn2 (by constructor) (by exact sz2.symm) (by exact ag2.symm) ?_ | refine w_ldp rfl kn2 rfl (by constructor) (by exact sz2.symm) (by exact ag2.symm) ?_
    refine w_g_on rfl rfl rfl ?_
    refine w_neq rfl rfl ?_
    rw [show (decide (p ≠ p)) = false from decide_eq_false (fun h => h rfl)]
    refine w_pick_0 rfl rfl (by constructor) ?_
    exact hRR _ (EL.cons (.inr (by first | rfl | (simp only [els]; done) | simp)) (EL.cons (.inl rfl) (EL.cons (.inl rfl) (EL.cons (.inl rfl) (EL.cons (.inl rfl) (EL.cons (.inl rfl) (EL.cons (.inl rfl) (EL.cons (.inl rfl) (EL.cons (.inl rfl) (EL.cons (.inl rfl) (EL.cons (.inl rfl) (EL.cons (.inl rfl) (EL.cons (.inr (by first | rfl | (simp only [els]; done) | simp)) (EL.cons (.inr (by first | rfl | (simp only [els]; done) | simp)) (EL.cons (.inl rfl) (EL.cons (.inl rfl) (EL.cons (.inl rfl) (EL.cons (.inl rfl) (EL.cons (.inl rfl) (EL.cons (.inl rfl) (EL.cons (.inr rfl) (EL.cons (.inr rfl) (EL.cons (.inr rfl) (EL.cons (.inr rfl) (EL.cons (.inr rfl) (EL.cons (.inr rfl) (EL.cons (.inr rfl) (EL.refl _))))))))))))))))))))))))))))
  refine snd_cond_false rfl ?_
  refine snd_skip ?_
  apply srG (env' := (2, .bool true) :: (51, .bool true) :: (50, .any) :: (49, .any) :: (48, .any) :: (47, .any) :: (46, .bool true) :: (45, .bool true) :: (44, .any) :: (43, .any) :: (42, .any) :: (41, .any) :: (40, .bool true) :: (39, .bool true) :: (38, .any) :: (37, .any) :: (36, .any) :: (35, .any) :: (34, _) :: (33, _) :: (32, _) :: (31, _) :: (30, _) :: _) tokTB (by kernel_rfl)
  · intro RR hRR
    refine w_move (by constructor) ?_
    first | refine w_nilc rfl ?_ | refine w_nilp rfl ?_ | refine w_nilf rfl ?_
    first | refine w_fac rfl und54 rfl kn34 nz34 (by decide) rfl (by constructor) ?_ | refine w_fap rfl und54 rfl kn34 nz34 rfl (by decide) rfl ?_
    refine y_call rfl (ec exn) (((decide_eq_true (h3)) ▸ c_commutative hv0.n6)) ?_
    refine w_move (by constructor) ?_
    refine w_g_on rfl rfl rfl ?_
    refine w_move (by constructor) ?_
    refine w_g_on rfl rfl rfl ?_
    first | refine w_nilc rfl ?_ | refine w_nilp rfl ?_ | refine w_nilf rfl ?_
    refine w_g_on rfl rfl rfl ?_
    first | refine w_fac rfl und54 rfl kn34 nz34 (by decide) rfl (by constructor) ?_ | refine w_fap rfl und54 rfl kn34 nz34 rfl (by decide) rfl ?_
    refine w_g_on rfl rfl rfl ?_
    refine y_call rfl (ec exn) (((decide_eq_true (h4)) ▸ c_frobenius hv0)) ?_
    refine w_pick_1 rfl rfl (by constructor) ?_
    refine w_move (by constructor) ?_
    refine w_g_on rfl rfl rfl ?_
    refine w_move (by constructor) ?_
    refine w_g_on rfl rfl rfl ?_
    first | refine w_nilc rfl ?_ | refine w_nilp rfl ?_ | refine w_nilf rfl ?_
    refine w_g_on rfl rfl rfl ?_
    first | refine w_fac rfl und54 rfl kn34 nz34 (by decide) rfl (by constructor) ?_ | refine w_fap rfl und54 rfl kn34 nz34 rfl (by decide) rfl ?_
    refine w_g_on rfl rfl rfl ?_
    refine y_call rfl (ec exn) (((decide_eq_true (h5)) ▸ c_frobenius hw0)) ?_
    refine w_pick_1 rfl rfl (by constructor) ?_
    refine w_move (by constructor) ?_
    refine w_g_on rfl rfl rfl ?_
    refine w_move (by constructor) ?_
    refine w_g_on rfl rfl rfl ?_
    first | refine w_nilc rfl ?_ | refine w_nilp rfl ?_ | refine w_nilf rfl ?_
    refine w_g_on rfl rfl rfl ?_
    first | refine w_fac rfl und54 rfl kn34 nz34 (by decide) rfl (by constructor) ?_ | refine w_fap rfl und54 rfl kn34 nz34 rfl (by decide) rfl ?_
    refine w_g_on rfl rfl rfl ?_
    refine y_call rfl (ec exn) (((decide_eq_true (h6)) ▸ c_symmetric hw0)) ?_
    refine w_pick_1 rfl rfl (by constructor) ?_
    refine w_assign (by constructor) ?_
    exact hRR _ (EL.cons (.inr (by first | rfl | (simp only [els]; done) | simp)) (EL.cons (.inr (by first | rfl | (simp only [els]; done) | simp)) (EL.cons (.inl rfl) (EL.cons (.inl rfl) (EL.cons (.inl rfl) (EL.cons (.inl rfl) (EL.cons (.inr (by first | rfl | (simp only [els]; done) | simp)) (EL.cons (.inr (by first | rfl | (simp only [els]; done) | simp)) (EL.cons (.inl rfl) (EL.cons (.inl rfl) (EL.cons (.inl rfl) (EL.cons (.inl rfl) (EL.cons (.inr (by first | rfl | (simp only [els]; done) | simp)) (EL.cons (.inr (by first | rfl | (simp only [els]; done) | simp)) (EL.cons (.inl rfl) (EL.cons (.inl rfl) (EL.cons (.inl rfl) (EL.cons (.inl rfl) (EL.cons (.inr rfl) (EL.cons (.inr rfl) (EL.cons (.inr rfl) (EL.cons (.inr rfl) (EL.cons (.inr rfl) (EL.refl _))))))))))))))))))))))))
  refine snd_ret ?_
  exact rt (T := TB) (fun V => rfl)
theorem c_l10Is_a {p n q m : Int} {T S : Nat → Nat → Nat → Int} {fo go : Nat → Int} {Y : Nat → Nat → Int} (hT : RB T) (hf : RV fo) (h0 : ¬ VA p n T fo) : ACalls Try.prog TB 75 [prA p n T fo q m S go Y] (.bool false) [] := by
  refine acalls_of tokTB Try.func75 rfl rfl (Nat.le_of_ble_eq_true rfl) ?_
  apply sr tokTB (by kernel_rfl)
  · intro RR hRR
    refine w_boxc (HV.eq (by constructor)) (by exact trivial) ?_
    refine w_assign (by constructor) ?_
    exact hRR
  apply sdX tokTB mixed [1, 1] (by kernel_rfl) (by kernel_rfl)
  · intro RR hRR
    show WOps _ _ _ _ _ _ _
    refine w_fac rfl und54 rfl kn34 nz34 (by decide) rfl (by constructor) ?_
    show LoadC Try.prog TB _ _ _
    refine wx_ldc rfl kn34 (by constructor) (by exact sz34.symm) (by exact ag34.symm) ?_
    show WOps _ _ _ _ _ _ _
    refine w_fac rfl und54 rfl kn34 nz34 (by decide) rfl (by constructor) ?_
    show LoadC Try.prog TB _ _ _
    refine wx_ldc rfl kn34 (by constructor) (by exact sz34.symm) (by exact ag34.symm) ?_
    show WOps _ _ _ _ _ _ _
    refine w_alloc kn34 rfl zr34 ?_
    refine w_alloc kn34 rfl zr34 ?_
    refine w_stw rfl (by constructor) kn34 rfl (by exact trivial) (sx) (by exact sz34.symm) ?_
    refine w_stw rfl (by constructor) kn34 rfl (by exact trivial) (sx) (by exact sz34.symm) ?_
    exact hRR
  refine snd_seq ?_
  refine snd_emb (ρ := ρ0) (env2 := [(1, .cptr (prA p n T fo q m S go Y)), (3, .cptr (algA p n T fo)), (4, .cptr (algA q m S go))]) (ol2 := []) ?_ ?_
  · exact ⟨⟨m_cpr, ⟨trivial, m_alg⟩, ⟨trivial, m_alg⟩, trivial⟩, trivial, trivial⟩
  apply srG (env' := (47, .bool true) :: (46, .any) :: (45, .any) :: (44, .any) :: (43, .bool true) :: (42, .bool true) :: (41, .any) :: (40, .any) :: (39, .any) :: (38, .bool true) :: (37, .bool true) :: (36, .any) :: (35, .any) :: (34, .any) :: (33, .bool true) :: (32, .bool true) :: (31, .any) :: (30, .any) :: (29, .any) :: (28, .bool true) :: (27, .bool true) :: (26, .any) :: (25, .any) :: (24, .any) :: (23, .any) :: (22, .any) :: (21, .bool true) :: (20, .bool true) :: (19, .any) :: (18, .any) :: (17, .any) :: (16, _) :: (15, _) :: (14, _) :: (13, _) :: _) tokTB (by kernel_rfl)
  · intro RR hRR
    refine w_ldc rfl kn34 (by constructor) (by exact sz34.symm) (by exact ag34.symm) ?_
    refine y_call rfl (ec exn) (((decide_eq_false (h0)) ▸ c_l01Algebra hT hf)) ?_
    refine w_not rfl ?_
    refine w_move (by constructor) ?_
    refine w_g_off rfl rfl (by decide) ?_
    refine w_g_off rfl rfl (by decide) ?_
    refine w_g_off rfl rfl (by decide) ?_
    refine w_pick_1 rfl rfl (by constructor) ?_
    refine w_move (by constructor) ?_
    refine w_g_off rfl rfl (by decide) ?_
    refine w_g_off rfl rfl (by decide) ?_
    refine w_g_off rfl rfl (by decide) ?_
    refine w_g_off rfl rfl (by decide) ?_
    refine w_g_off rfl rfl (by decide) ?_
    refine w_pick_1 rfl rfl (by constructor) ?_
    refine w_move (by constructor) ?_
    refine w_g_off rfl rfl (by decide) ?_
    refine w_g_off rfl rfl (by decide) ?_
    refine w_g_off rfl rfl (by decide) ?_
    refine w_pick_1 rfl rfl (by constructor) ?_
    refine w_move (by constructor) ?_
    refine w_g_off rfl rfl (by decide) ?_
    refine w_g_off rfl rfl (by decide) ?_
    refine w_g_off rfl rfl (by decide) ?_
    refine w_pick_1 rfl rfl (by constructor) ?_
    refine w_move (by constructor) ?_
    refine w_g_off rfl rfl (by decide) ?_
    refine w_g_off rfl rfl (by decide) ?_
    refine w_g_off rfl rfl (by decide) ?_
    refine w_pick_1 rfl rfl (by constructor) ?_
    refine w_move (by constructor) ?_
    refine w_g_off rfl rfl (by decide) ?_
    refine w_g_off rfl rfl (by decide) ?_
    refine w_g_off rfl rfl (by decide) ?_
    refine w_pick_1 rfl rfl (by constructor) ?_
    exact hRR _ (EL.cons (.inr (by first | rfl | (simp only [els]; done) | simp)) (EL.cons (.inl rfl) (EL.cons (.inl rfl) (EL.cons (.inl rfl) (EL.cons (.inr (by first | rfl | (simp only [els]; done) | simp)) (EL.cons (.inr (by first | rfl | (simp only [els]; done) | simp)) (EL.cons (.inl rfl) (EL.cons (.inl rfl) (EL.cons (.inl rfl) (EL.cons (.inr (by first | rfl | (simp only [els]; done) | simp)) (EL.cons (.inr (by first | rfl | (simp only [els]; done) | simp)) (EL.cons (.inl rfl) (EL.cons (.inl rfl) (EL.cons (.inl rfl) (EL.cons (.inr (by first | rfl | (simp only [els]; done) | simp)) (EL.cons (.inr (by first | rfl | (simp only [els]; done) | simp)) (EL.cons (.inl rfl) (EL.cons (.inl rfl) (EL.cons (.inl rfl) (EL.cons (.inr (by first | rfl | (simp only [els]; done) | simp)) (EL.cons (.inr (by first | rfl | (simp only [els]; done) | simp)) (EL.cons (.inl rfl) (EL.cons (.inl rfl) (EL.cons (.inl rfl) (EL.cons (.inl rfl) (EL.cons (.inl rfl) (EL.cons (.inr (by first | rfl | (simp only [els]; done) | simp)) (EL.cons (.inr (by first | rfl | (simp only [els]; done) | simp)) (EL.cons (.inl rfl) (EL.cons (.inl rfl) (EL.cons (.inl rfl) (EL.cons (.inr rfl) (EL.cons (.inr rfl) (EL.cons (.inr rfl) (EL.cons (.inr rfl) (EL.refl _))))))))))))))))))))))))))))))))))))
  refine snd_cond_true rfl ?_
  apply sr tokTB (by kernel_rfl)
  · intro RR hRR
    refine w_assign (by constructor) ?_
    exact hRR
  refine snd_ret ?_
  exact rt (T := TB) (fun V => rfl)
theorem c_l10Is_b {p q m : Int} {n : Nat} {T S : Nat → Nat → Nat → Int} {fo go : Nat → Int} {Y : Nat → Nat → Int} (hv0 : VN p n T fo) (hS : RB S) (hg : RV go) (h1 : ¬ VA q m S go) : ACalls Try.prog TB 75 [prA p (n : Int) T fo q m S go Y] (.bool false) [] := by
  refine acalls_of tokTB Try.func75 rfl rfl (Nat.le_of_ble_eq_true rfl) ?_
  apply sr tokTB (by kernel_rfl)
  · intro RR hRR
    refine w_boxc (HV.eq (by constructor)) (by exact trivial) ?_
    refine w_assign (by constructor) ?_
    exact hRR
  apply sdX tokTB mixed [1, 1] (by kernel_rfl) (by kernel_rfl)
  · intro RR hRR
    show WOps _ _ _ _ _ _ _
    refine w_fac rfl und54 rfl kn34 nz34 (by decide) rfl (by constructor) ?_
    show LoadC Try.prog TB _ _ _
    refine wx_ldc rfl kn34 (by constructor) (by exact sz34.symm) (by exact ag34.symm) ?_
    show WOps _ _ _ _ _ _ _
    refine w_fac rfl und54 rfl kn34 nz34 (by decide) rfl (by constructor) ?_
    show LoadC Try.prog TB _ _ _
    refine wx_ldc rfl kn34 (by constructor) (by exact sz34.symm) (by exact ag34.symm) ?_
    show WOps _ _ _ _ _ _ _
    refine w_alloc kn34 rfl zr34 ?_
    refine w_alloc kn34 rfl zr34 ?_
    refine w_stw rfl (by constructor) kn34 rfl (by exact trivial) (sx) (by exact sz34.symm) ?_
    refine w_stw rfl (by constructor) kn34 rfl (by exact trivial) (sx) (by exact sz34.symm) ?_
    exact hRR
  refine snd_seq ?_
  refine snd_emb (ρ := ρ0) (env2 := [(1, .cptr (prA p (n : Int) T fo q m S go Y)), (3, .cptr (algA p (n : Int) T fo)), (4, .cptr (algA q m S go))]) (ol2 := []) ?_ ?_
  · exact ⟨⟨m_cpr, ⟨trivial, m_alg⟩, ⟨trivial, m_alg⟩, trivial⟩, trivial, trivial⟩
  apply srG (env' := (47, .bool true) :: (46, .any) :: (45, .any) :: (44, .any) :: (43, .bool true) :: (42, .bool true) :: (41, .any) :: (40, .any) :: (39, .any) :: (38, .bool true) :: (37, .bool true) :: (36, .any) :: (35, .any) :: (34, .any) :: (33, .bool true) :: (32, .bool true) :: (31, .any) :: (30, .any) :: (29, .any) :: (28, .bool true) :: (27, .bool true) :: (26, .any) :: (25, .any) :: (24, .any) :: (23, .any) :: (22, .any) :: (21, .bool (!false)) :: (20, .bool (!false)) :: (19, .any) :: (18, .any) :: (17, .any) :: (16, _) :: (15, _) :: (14, _) :: (13, _) :: _) tokTB (by kernel_rfl)
  · intro RR hRR
    refine w_ldc rfl kn34 (by constructor) (by exact sz34.symm) (by exact ag34.symm) ?_
    refine y_call rfl (ec exn) (((decide_eq_true (hv0.va)) ▸ c_l01Algebra hv0.rb hv0.rv)) ?_
    refine w_not rfl ?_
    refine w_move (by constructor) ?_
    refine w_g_on rfl rfl rfl ?_
    refine w_ldc rfl kn34 (by constructor) (by exact sz34.symm) (by exact ag34.symm) ?_
    refine w_g_on rfl rfl rfl ?_
    refine y_call rfl (ec exn) (((decide_eq_false (h1)) ▸ c_l01Algebra hS hg)) ?_
    refine w_g_on rfl rfl rfl ?_
    refine w_not rfl ?_
    refine w_pick_0 rfl rfl (by constructor) ?_
    refine w_move (by constructor) ?_
    refine w_g_off rfl rfl (by decide) ?_
    refine w_g_off rfl rfl (by decide) ?_
    refine w_g_off rfl rfl (by decide) ?_
    refine w_g_off rfl rfl (by decide) ?_
    refine w_g_off rfl rfl (by decide) ?_
    refine w_pick_1 rfl rfl (by constructor) ?_
    refine w_move (by constructor) ?_
    refine w_g_off rfl rfl (by decide) ?_
    refine w_g_off rfl rfl (by decide) ?_
    refine w_g_off rfl rfl (by decide) ?_
    refine w_pick_1 rfl rfl (by constructor) ?_
    refine w_move (by constructor) ?_
    refine w_g_off rfl rfl (by decide) ?_
    refine w_g_off rfl rfl (by decide) ?_
    refine w_g_off rfl rfl (by decide) ?_
    refine w_pick_1 rfl rfl (by constructor) ?_
    refine w_move (by constructor) ?_
    refine w_g_off rfl rfl (by decide) ?_
    refine w_g_off rfl rfl (by decide) ?_
    refine w_g_off rfl rfl (by decide) ?_
    refine w_pick_1 rfl rfl (by constructor) ?_
    refine w_move (by constructor) ?_
    refine w_g_off rfl rfl (by decide) ?_
    refine w_g_off rfl rfl (by decide) ?_
    refine w_g_off rfl rfl (by decide) ?_
    refine w_pick_1 rfl rfl (by constructor) ?_
    exact hRR _ (EL.cons (.inr (by first | rfl | (simp only [els]; done) | simp)) (EL.cons (.inl rfl) (EL.cons (.inl rfl) (EL.cons (.inl rfl) (EL.cons (.inr (by first | rfl | (simp only [els]; done) | simp)) (EL.cons (.inr (by first | rfl | (simp only [els]; done) | simp)) (EL.cons (.inl rfl) (EL.cons (.inl rfl) (EL.cons (.inl rfl) (EL.cons (.inr (by first | rfl | (simp only [els]; done) | simp)) (EL.cons (.inr (by first | rfl | (simp only [els]; done) | simp)) (EL.cons (.inl rfl) (EL.cons (.inl rfl) (EL.cons (.inl rfl) (EL.cons (.inr (by first | rfl | (simp only [els]; done) | simp)) (EL.cons (.inr (by first | rfl | (simp only [els]; done) | simp)) (EL.cons (.inl rfl) (EL.cons (.inl rfl) (EL.cons (.inl rfl) (EL.cons (.inr (by first | rfl | (simp only [els]; done) | simp)) (EL.cons (.inr (by first | rfl | (simp only [els]; done) | simp)) (EL.cons (.inl rfl) (EL.cons (.inl rfl) (EL.cons (.inl rfl) (EL.cons (.inl rfl) (EL.cons (.inl rfl) (EL.cons (.inr (by first | rfl | (simp only [els]; done) | simp)) (EL.cons (.inr (by first | rfl | (simp only [els]; done) | simp)) (EL.cons (.inl rfl) (EL.cons (.inl rfl) (EL.cons (.inl rfl) (EL.cons (.inr rfl) (EL.cons (.inr rfl) (EL.cons (.inr rfl) (EL.cons (.inr rfl) (EL.refl _))))))))))))))))))))))))))))))))))))
  refine snd_cond_true rfl ?_
  apply sr tokTB (by kernel_rfl)
  · intro RR hRR
    refine w_assign (by constructor) ?_
    exact hRR
  refine snd_ret ?_
  exact rt (T := TB) (fun V => rfl)
theorem c_l10Is_c {p q : Int} {n m : Nat} {T S : Nat → Nat → Nat → Int} {fo go : Nat → Int} {Y : Nat → Nat → Int} (hv0 : VN p n T fo) (hw0 : VN q m S go) (h2 : ¬ p = q) : ACalls Try.prog TB 75 [prA p (n : Int) T fo q (m : Int) S go Y] (.bool false) [] := by
  refine acalls_of tokTB Try.func75 rfl rfl (Nat.le_of_ble_eq_true rfl) ?_
  apply sr tokTB (by kernel_rfl)
  · intro RR hRR
    refine w_boxc (HV.eq (by constructor)) (by exact trivial) ?_
    refine w_assign (by constructor) ?_
    exact hRR
  apply sdX tokTB mixed [1, 1] (by kernel_rfl) (by kernel_rfl)
  · intro RR hRR
    show WOps _ _ _ _ _ _ _
    refine w_fac rfl und54 rfl kn34 nz34 (by decide) rfl (by constructor) ?_
    show LoadC Try.prog TB _ _ _
    refine wx_ldc rfl kn34 (by constructor) (by exact sz34.symm) (by exact ag34.symm) ?_
    show WOps _ _ _ _ _ _ _
    refine w_fac rfl und54 rfl kn34 nz34 (by decide) rfl (by constructor) ?_
    show LoadC Try.prog TB _ _ _
    refine wx_ldc rfl kn34 (by constructor) (by exact sz34.symm) (by exact ag34.symm) ?_
    show WOps _ _ _ _ _ _ _
    refine w_alloc kn34 rfl zr34 ?_
    refine w_alloc kn34 rfl zr34 ?_
    refine w_stw rfl (by constructor) kn34 rfl (by exact trivial) (sx) (by exact sz34.symm) ?_
    refine w_stw rfl (by constructor) kn34 rfl (by exact trivial) (sx) (by exact sz34.symm) ?_
    exact hRR
  refine snd_seq ?_
  refine snd_emb (ρ := ρ0) (env2 := [(1, .cptr (prA p (n : Int) T fo q (m : Int) S go Y)), (3, .cptr (algA p (n : Int) T fo)), (4, .cptr (algA q (m : Int) S go))]) (ol2 := []) ?_ ?_
  · exact ⟨⟨m_cpr, ⟨trivial, m_alg⟩, ⟨trivial, m_alg⟩, trivial⟩, trivial, trivial⟩
  apply srG (env' := (47, .bool true) :: (46, .any) :: (45, .any) :: (44, .any) :: (43, .bool true) :: (42, .bool true) :: (41, .any) :: (40, .any) :: (39, .any) :: (38, .bool true) :: (37, .bool true) :: (36, .any) :: (35, .any) :: (34, .any) :: (33, .bool true) :: (32, .bool true) :: (31, .any) :: (30, .any) :: (29, .any) :: (28, .bool true) :: (27, .bool true) :: (26, .any) :: (25, .any) :: (24, .any) :: (23, .any) :: (22, .any) :: (21, .bool (!true)) :: (20, .bool (!true)) :: (19, .any) :: (18, .any) :: (17, .any) :: (16, _) :: (15, _) :: (14, _) :: (13, _) :: _) tokTB (by kernel_rfl)
  · intro RR hRR
    refine w_ldc rfl kn34 (by constructor) (by exact sz34.symm) (by exact ag34.symm) ?_
    refine y_call rfl (ec exn) (((decide_eq_true (hv0.va)) ▸ c_l01Algebra hv0.rb hv0.rv)) ?_
    refine w_not rfl ?_
    refine w_move (by constructor) ?_
    refine w_g_on rfl rfl rfl ?_
    refine w_ldc rfl kn34 (by constructor) (by exact sz34.symm) (by exact ag34.symm) ?_
    refine w_g_on rfl rfl rfl ?_
    refine y_call rfl (ec exn) (((decide_eq_true (hw0.va)) ▸ c_l01Algebra hw0.rb hw0.rv)) ?_
    refine w_g_on rfl rfl rfl ?_
    refine w_not rfl ?_
    refine w_pick_0 rfl rfl (by constructor) ?_
    refine w_move (by constructor) ?_
    refine w_g_on rfl rfl rfl ?_
    refine w_fac rfl und34 rfl kn2 nz2 (by decide) rfl (by constructor) ?_
    refine w_g_on rfl rfl rfl ?_
    first | refine w_ldc rfl kn2 (by constructor) (by exact sz2.symm) (by exact ag2.symm) ?_ | refine w_ldp rfl kn2 rfl (by constructor) (by exact sz2.symm) (by exact ag2.symm) ?_
    refine w_g_on rfl rfl rfl ?_
    refine w_fac rfl und34 rfl kn2 nz2 (by decide) rfl (by constructor) ?_
    refine w_g_on rfl rfl rfl ?_
    first | refine w_ldc rfl kn2 (by constructor) (by exact sz2.symm) (by exact ag2.symm) ?_ | refine w_ldp rfl kn2 rfl (by constructor) (by exact sz2.symm) (by exact ag2.symm) ?_
    refine w_g_on rfl rfl rfl ?_
    refine w_neq rfl rfl ?_
    rw [show (decide (p ≠ q)) = true from decide_eq_true h2]
    refine w_pick_0 rfl rfl (by constructor) ?_
    refine w_move (by constructor) ?_
    refine w_g_off rfl rfl (by decide) ?_
    refine w_g_off rfl rfl (by decide) ?_
    refine w_g_off rfl rfl (by decide) ?_
    refine w_pick_1 rfl rfl (by constructor) ?_
    refine w_move (by constructor) ?_
    refine w_g_off rfl rfl (by decide) ?_
    refine w_g_off rfl rfl (by decide) ?_
    refine w_g_off rfl rfl (by decide) ?_
    refine w_pick_1 rfl rfl (by constructor) ?_
    refine w_move (by constructor) ?_
    refine w_g_off rfl rfl (by decide) ?_
    refine w_g_off rfl rfl (by decide) ?_
    refine w_g_off rfl rfl (by decide) ?_
    refine w_pick_1 rfl rfl (by constructor) ?_
    refine w_move (by constructor) ?_
    refine w_g_off rfl rfl (by decide) ?_
    refine w_g_off rfl rfl (by decide) ?_
    refine w_g_off rfl rfl (by decide) ?_
    refine w_pick_1 rfl rfl (by constructor) ?_
    exact hRR _ (EL.cons (.inr (by first | rfl | (simp only [els]; done) | simp)) (EL.cons (.inl rfl) (EL.cons (.inl rfl) (EL.cons (.inl rfl) (EL.cons (.inr (by first | rfl | (simp only [els]; done) | simp)) (EL.cons (.inr (by first | rfl | (simp only [els]; done) | simp)) (EL.cons (.inl rfl) (EL.cons (.inl rfl) (EL.cons (.inl rfl) (EL.cons (.inr (by first | rfl | (simp only [els]; done) | simp)) (EL.cons (.inr (by first | rfl | (simp only [els]; done) | simp)) (EL.cons (.inl rfl) (EL.cons (.inl rfl) (EL.cons (.inl rfl) (EL.cons (.inr (by first | rfl | (simp only [els]; done) | simp)) (EL.cons (.inr (by first | rfl | (simp only [els]; done) | simp)) (EL.cons (.inl rfl) (EL.cons (.inl rfl) (EL.cons (.inl rfl) (EL.cons (.inr (by first | rfl | (simp only [els]; done) | simp)) (EL.cons (.inr (by first | rfl | (simp only [els]; done) | simp)) (EL.cons (.inl rfl) (EL.cons (.inl rfl) (EL.cons (.inl rfl) (EL.cons (.inl rfl) (EL.cons (.inl rfl) (EL.cons (.inr (by first | rfl | (simp only [els]; done) | simp)) (EL.cons (.inr (by first | rfl | (simp only [els]; done) | simp)) (EL.cons (.inl rfl) (EL.cons (.inl rfl) (EL.cons (.inl rfl) (EL.cons (.inr rfl) (EL.cons (.inr rfl) (EL.cons (.inr rfl) (EL.cons (.inr rfl) (EL.refl _))))))))))))))))))))))))))))))))))))
  refine snd_cond_true rfl ?_
  apply sr tokTB (by kernel_rfl)
  · intro RR hRR
    refine w_assign (by constructor) ?_
    exact hRR
  refine snd_ret ?_
  exact rt (T := TB) (fun V => rfl)
theorem c_l10Is_d {p : Int} {n m : Nat} {T S : Nat → Nat → Nat → Int} {fo go : Nat → Int} {Y : Nat → Nat → Int} (hv0 : VN p n T fo) (hw0 : VN p m S go) (h3 : ¬ comN n T) : ACalls Try.prog TB 75 [prA p (n : Int) T fo p (m : Int) S go Y] (.bool false) [] := by
  refine acalls_of tokTB Try.func75 rfl rfl (Nat.le_of_ble_eq_true rfl) ?_
  apply sr tokTB (by kernel_rfl)
  · intro RR hRR
    refine w_boxc (HV.eq (by constructor)) (by exact trivial) ?_
    refine w_assign (by constructor) ?_
    exact hRR
  apply sdX tokTB mixed [1, 1] (by kernel_rfl) (by kernel_rfl)
  · intro RR hRR
    show WOps _ _ _ _ _ _ _
    refine w_fac rfl und54 rfl kn34 nz34 (by decide) rfl (by constructor) ?_
    show LoadC Try.prog TB _ _ _
    refine wx_ldc rfl kn34 (by constructor) (by exact sz34.symm) (by exact ag34.symm) ?_
    show WOps _ _ _ _ _ _ _
    refine w_fac rfl und54 rfl kn34 nz34 (by decide) rfl (by constructor) ?_
    show LoadC Try.prog TB _ _ _
    refine wx_ldc rfl kn34 (by constructor) (by exact sz34.symm) (by exact ag34.symm) ?_
    show WOps _ _ _ _ _ _ _
    refine w_alloc kn34 rfl zr34 ?_
    refine w_alloc kn34 rfl zr34 ?_
    refine w_stw rfl (by constructor) kn34 rfl (by exact trivial) (sx) (by exact sz34.symm) ?_
    refine w_stw rfl (by constructor) kn34 rfl (by exact trivial) (sx) (by exact sz34.symm) ?_
    exact hRR
  refine snd_seq ?_
  refine snd_emb (ρ := ρ0) (env2 := [(1, .cptr (prA p (n : Int) T fo p (m : Int) S go Y)), (3, .cptr (algA p (n : Int) T fo)), (4, .cptr (algA p (m : Int) S go))]) (ol2 := []) ?_ ?_
  · exact ⟨⟨m_cpr, ⟨trivial, m_alg⟩, ⟨trivial, m_alg⟩, trivial⟩, trivial, trivial⟩
  apply srG (env' := (47, .bool true) :: (46, .any) :: (45, .any) :: (44, .any) :: (43, .bool true) :: (42, .bool true) :: (41, .any) :: (40, .any) :: (39, .any) :: (38, .bool true) :: (37, .bool true) :: (36, .any) :: (35, .any) :: (34, .any) :: (33, .bool (!false)) :: (32, .bool (!false)) :: (31, .any) :: (30, .any) :: (29, .any) :: (28, .bool false) :: (27, .bool false) :: (26, .any) :: (25, .any) :: (24, .any) :: (23, .any) :: (22, .any) :: (21, .bool (!true)) :: (20, .bool (!true)) :: (19, .any) :: (18, .any) :: (17, .any) :: (16, _) :: (15, _) :: (14, _) :: (13, _) :: _) tokTB (by kernel_rfl)
  · intro RR hRR
    refine w_ldc rfl kn34 (by constructor) (by exact sz34.symm) (by exact ag34.symm) ?_
    refine y_call rfl (ec exn) (((decide_eq_true (hv0.va)) ▸ c_l01Algebra hv0.rb hv0.rv)) ?_
    refine w_not rfl ?_
    refine w_move (by constructor) ?_
    refine w_g_on rfl rfl rfl ?_
    refine w_ldc rfl kn34 (by constructor) (by exact sz34.symm) (by exact ag34.symm) ?_
    refine w_g_on rfl rfl rfl ?_
    refine y_call rfl (ec exn) (((decide_eq_true (hw0.va)) ▸ c_l01Algebra hw0.rb hw0.rv)) ?_
    refine w_g_on rfl rfl rfl ?_
    refine w_not rfl ?_
    refine w_pick_0 rfl rfl (by constructor) ?_
    refine w_move (by constructor) ?_
    refine w_g_on rfl rfl rfl ?_
    refine w_fac rfl und34 rfl kn2 nz2 (by decide) rfl (by constructor) ?_
    refine w_g_on rfl rfl rfl ?_
    first | refine w_ldc rfl kn2 (by constructor) (by exact sz2.symm) (by exact ag2.symm) ?_ | refine w_ldp rfl kn2 rfl (by constructor) (by exact sz2.symm) (by exact ag2.symm) ?_
    refine w_g_on rfl rfl rfl ?_
    refine w_fac rfl und34 rfl kn2 nz2 (by decide) rfl (by constructor) ?_
    refine w_g_on rfl rfl rfl ?_
    first | refine w_ldc rfl kn2 (by constructor) (by exact sz2.symm) (by exact ag2.symm) ?_ | refine w_ldp rfl kn2 rfl (by constructor) (by exact sz2.symm) (by exact ag2.symm) ?_
    refine w_g_on rfl rfl rfl ?_
    refine w_neq rfl rfl ?_
    rw [show (decide (p ≠ p)) = false from decide_eq_false (fun h => h rfl)]
    refine w_pick_0 rfl rfl (by constructor) ?_
    refine w_move (by constructor) ?_
    refine w_g_on rfl rfl rfl ?_
    refine w_ldc rfl kn34 (by constructor) (by exact sz34.symm) (by exact ag34.symm) ?_
    refine w_g_on rfl rfl rfl ?_
    refine y_call rfl (ec exn) (((decide_eq_false (fun q => h3 ((com_iff hv0).1 q))) ▸ c_l01Commutative)) ?_
    refine w_g_on rfl rfl rfl ?_
    refine w_not rfl ?_
    refine w_pick_0 rfl rfl (by constructor) ?_
    refine w_move (by constructor) ?_
    refine w_g_off rfl rfl (by decide) ?_
    refine w_g_off rfl rfl (by decide) ?_
    refine w_g_off rfl rfl (by decide) ?_
    refine w_pick_1 rfl rfl (by constructor) ?_
    refine w_move (by constructor) ?_
    refine w_g_off rfl rfl (by decide) ?_
    refine w_g_off rfl rfl (by decide) ?_
    refine w_g_off rfl rfl (by decide) ?_
    refine w_pick_1 rfl rfl (by constructor) ?_
    refine w_move (by constructor) ?_
    refine w_g_off rfl rfl (by decide) ?_
    refine w_g_off rfl rfl (by decide) ?_
    refine w_g_off rfl rfl (by decide) ?_
    refine w_pick_1 rfl rfl (by constructor) ?_
    exact hRR _ (EL.cons (.inr (by first | rfl | (simp only [els]; done) | simp)) (EL.cons (.inl rfl) (EL.cons (.inl rfl) (EL.cons (.inl rfl) (EL.cons (.inr (by first | rfl | (simp only [els]; done) | simp)) (EL.cons (.inr (by first | rfl | (simp only [els]; done) | simp)) (EL.cons (.inl rfl) (EL.cons (.inl rfl) (EL.cons (.inl rfl) (EL.cons (.inr (by first | rfl | (simp only [els]; done) | simp)) (EL.cons (.inr (by first | rfl | (simp only [els]; done) | simp)) (EL.cons (.inl rfl) (EL.cons (.inl rfl) (EL.cons (.inl rfl) (EL.cons (.inr (by first | rfl | (simp only [els]; done) | simp)) (EL.cons (.inr (by first | rfl | (simp only [els]; done) | simp)) (EL.cons (.inl rfl) (EL.cons (.inl rfl) (EL.cons (.inl rfl) (EL.cons (.inr (by first | rfl | (simp only [els]; done) | simp)) (EL.cons (.inr (by first | rfl | (simp only [els]; done) | simp)) (EL.cons (.inl rfl) (EL.cons (.inl rfl) (EL.cons (.inl rfl) (EL.cons (.inl rfl) (EL.cons (.inl rfl) (EL.cons (.inr (by first | rfl | (simp only [els]; done) | simp)) (EL.cons (.inr (by first | rfl | (simp only [els]; done) | simp)) (EL.cons (.inl rfl) (EL.cons (.inl rfl) (EL.cons (.inl rfl) (EL.cons (.inr rfl) (EL.cons (.inr rfl) (EL.cons (.inr rfl) (EL.cons (.inr rfl) (EL.refl _))))))))))))))))))))))))))))))))))))
  refine snd_cond_true rfl ?_
  apply sr tokTB (by kernel_rfl)
  · intro RR hRR
    refine w_assign (by constructor) ?_
    exact hRR
  refine snd_ret ?_
  exact rt (T := TB) (fun V => rfl)
theorem c_l10Is_e {p : Int} {n m : Nat} {T S : Nat → Nat → Nat → Int} {fo go : Nat → Int} {Y : Nat → Nat → Int} (hv0 : VN p n T fo) (hw0 : VN p m S go) (h3 : comN n T) (h4 : ¬ rankT p n T fo = n) : ACalls Try.prog TB 75 [prA p (n : Int) T fo p (m : Int) S go Y] (.bool false) [] := by
  refine acalls_of tokTB Try.func75 rfl rfl (Nat.le_of_ble_eq_true rfl) ?_
  apply sr tokTB (by kernel_rfl)
  · intro RR hRR
    refine w_boxc (HV.eq (by constructor)) (by exact trivial) ?_
    refine w_assign (by constructor) ?_
    exact hRR
  apply sdX tokTB mixed [1, 1] (by kernel_rfl) (by kernel_rfl)
  · intro RR hRR
    show WOps _ _ _ _ _ _ _
    refine w_fac rfl und54 rfl kn34 nz34 (by decide) rfl (by constructor) ?_
    show LoadC Try.prog TB _ _ _
    refine wx_ldc rfl kn34 (by constructor) (by exact sz34.symm) (by exact ag34.symm) ?_
    show WOps _ _ _ _ _ _ _
    refine w_fac rfl und54 rfl kn34 nz34 (by decide) rfl (by constructor) ?_
    show LoadC Try.prog TB _ _ _
    refine wx_ldc rfl kn34 (by constructor) (by exact sz34.symm) (by exact ag34.symm) ?_
    show WOps _ _ _ _ _ _ _
    refine w_alloc kn34 rfl zr34 ?_
    refine w_alloc kn34 rfl zr34 ?_
    refine w_stw rfl (by constructor) kn34 rfl (by exact trivial) (sx) (by exact sz34.symm) ?_
    refine w_stw rfl (by constructor) kn34 rfl (by exact trivial) (sx) (by exact sz34.symm) ?_
    exact hRR
  refine snd_seq ?_
  refine snd_emb (ρ := ρ0) (env2 := [(1, .cptr (prA p (n : Int) T fo p (m : Int) S go Y)), (3, .cptr (algA p (n : Int) T fo)), (4, .cptr (algA p (m : Int) S go))]) (ol2 := []) ?_ ?_
  · exact ⟨⟨m_cpr, ⟨trivial, m_alg⟩, ⟨trivial, m_alg⟩, trivial⟩, trivial, trivial⟩
  apply srG (env' := (47, .bool true) :: (46, .any) :: (45, .any) :: (44, .any) :: (43, .bool true) :: (42, .bool true) :: (41, .any) :: (40, .any) :: (39, .any) :: (38, .bool (!false)) :: (37, .bool (!false)) :: (36, .any) :: (35, .any) :: (34, .any) :: (33, .bool (!true)) :: (32, .bool (!true)) :: (31, .any) :: (30, .any) :: (29, .any) :: (28, .bool false) :: (27, .bool false) :: (26, .any) :: (25, .any) :: (24, .any) :: (23, .any) :: (22, .any) :: (21, .bool (!true)) :: (20, .bool (!true)) :: (19, .any) :: (18, .any) :: (17, .any) :: (16, _) :: (15, _) :: (14, _) :: (13, _) :: _) tokTB (by kernel_rfl)
  · intro RR hRR
    refine w_ldc rfl kn34 (by constructor) (by exact sz34.symm) (by exact ag34.symm) ?_
    refine y_call rfl (ec exn) (((decide_eq_true (hv0.va)) ▸ c_l01Algebra hv0.rb hv0.rv)) ?_
    refine w_not rfl ?_
    refine w_move (by constructor) ?_
    refine w_g_on rfl rfl rfl ?_
    refine w_ldc rfl kn34 (by constructor) (by exact sz34.symm) (by exact ag34.symm) ?_
    refine w_g_on rfl rfl rfl ?_
    refine y_call rfl (ec exn) (((decide_eq_true (hw0.va)) ▸ c_l01Algebra hw0.rb hw0.rv)) ?_
    refine w_g_on rfl rfl rfl ?_
    refine w_not rfl ?_
    refine w_pick_0 rfl rfl (by constructor) ?_
    refine w_move (by constructor) ?_
    refine w_g_on rfl rfl rfl ?_
    refine w_fac rfl und34 rfl kn2 nz2 (by decide) rfl (by constructor) ?_
    refine w_g_on rfl rfl rfl ?_
    first | refine w_ldc rfl kn2 (by constructor) (by exact sz2.symm) (by exact ag2.symm) ?_ | refine w_ldp rfl kn2 rfl (by constructor) (by exact sz2.symm) (by exact ag2.symm) ?_
    refine w_g_on rfl rfl rfl ?_
    refine w_fac rfl und34 rfl kn2 nz2 (by decide) rfl (by constructor) ?_
    refine w_g_on rfl rfl rfl ?_
    first | refine w_ldc rfl kn2 (by constructor) (by exact sz2.symm) (by exact ag2.symm) ?_ | refine w_ldp rfl kn2 rfl (by constructor) (by exact sz2.symm) (by exact ag2.symm) ?_
    refine w_g_on rfl rfl rfl ?_
    refine w_neq rfl rfl ?_
    rw [show (decide (p ≠ p)) = false from decide_eq_false (fun h => h rfl)]
    refine w_pick_0 rfl rfl (by constructor) ?_
    refine w_move (by constructor) ?_
    refine w_g_on rfl rfl rfl ?_
    refine w_ldc rfl kn34 (by constructor) (by exact sz34.symm) (by exact ag34.symm) ?_
    refine w_g_on rfl rfl rfl ?_
    refine y_call rfl (ec exn) (((decide_eq_true ((com_iff hv0).2 h3)) ▸ c_l01Commutative)) ?_
    refine w_g_on rfl rfl rfl ?_
    refine w_not rfl ?_
    refine w_pick_0 rfl rfl (by constructor) ?_
    refine w_move (by constructor) ?_
    refine w_g_on rfl rfl rfl ?_
    refine w_ldc rfl kn34 (by constructor) (by exact sz34.symm) (by exact ag34.symm) ?_
    refine w_g_on rfl rfl rfl ?_
    refine y_call rfl (ec exn) (((decide_eq_false (h4)) ▸ c_l01Frobenius hv0)) ?_
    refine w_g_on rfl rfl rfl ?_
    refine w_not rfl ?_
    refine w_pick_0 rfl rfl (by constructor) ?_
    refine w_move (by constructor) ?_
    refine w_g_off rfl rfl (by decide) ?_
    refine w_g_off rfl rfl (by decide) ?_
    refine w_g_off rfl rfl (by decide) ?_
    refine w_pick_1 rfl rfl (by constructor) ?_
    refine w_move (by constructor) ?_
    refine w_g_off rfl rfl (by decide) ?_
    refine w_g_off rfl rfl (by decide) ?_
    refine w_g_off rfl rfl (by decide) ?_
    refine w_pick_1 rfl rfl (by constructor) ?_
    exact hRR _ (EL.cons (.inr (by first | rfl | (simp only [els]; done) | simp)) (EL.cons (.inl rfl) (EL.cons (.inl rfl) (EL.cons (.inl rfl) (EL.cons (.inr (by first | rfl | (simp only [els]; done) | simp)) (EL.cons (.inr (by first | rfl | (simp only [els]; done) | simp)) (EL.cons (.inl rfl) (EL.cons (.inl rfl) (EL.cons (.inl rfl) (EL.cons (.inr (by first | rfl | (simp only [els]; done) | simp)) (EL.cons (.inr (by first | rfl | (simp only [els]; done) | simp)) (EL.cons (.inl rfl) (EL.cons (.inl rfl) (EL.cons (.inl rfl) (EL.cons (.inr (by first | rfl | (simp only [els]; done) | simp)) (EL.cons (.inr (by first | rfl | (simp only [els]; done) | simp)) (EL.cons (.inl rfl) (EL.cons (.inl rfl) (EL.cons (.inl rfl) (EL.cons (.inr (by first | rfl | (simp only [els]; done) | simp)) (EL.cons (.inr (by first | rfl | (simp only [els]; done) | simp)) (EL.cons (.inl rfl) (EL.cons (.inl rfl) (EL.cons (.inl rfl) (EL.cons (.inl rfl) (EL.cons (.inl rfl) (EL.cons (.inr (by first | rfl | (simp only [els]; done) | simp)) (EL.cons (.inr (by first | rfl | (simp only [els]; done) | simp)) (EL.cons (.inl rfl) (EL.cons (.inl rfl) (EL.cons (.inl rfl) (EL.cons (.inr rfl) (EL.cons (.inr rfl) (EL.cons (.inr rfl) (EL.cons (.inr rfl) (EL.refl _))))))))))))))))))))))))))))))))))))
  refine snd_cond_true rfl ?_
  apply sr tokTB (by kernel_rfl)
  · intro RR hRR
    refine w_assign (by constructor) ?_
    exact hRR
  refine snd_ret ?_
  exact rt (T := TB) (fun V => rfl)
theorem c_l10Is_f {p : Int} {n m : Nat} {T S : Nat → Nat → Nat → Int} {fo go : Nat → Int} {Y : Nat → Nat → Int} (hv0 : VN p n T fo) (hw0 : VN p m S go) (h3 : comN n T) (h4 : rankT p n T fo = n) (h5 : ¬ rankT p m S go = m) : ACalls Try.prog TB 75 [prA p (n : Int) T fo p (m : Int) S go Y] (.bool false) [] := by
  refine acalls_of tokTB Try.func75 rfl rfl (Nat.le_of_ble_eq_true rfl) ?_
  apply sr tokTB (by kernel_rfl)
  · intro RR hRR
    refine w_boxc (HV.eq (by constructor)) (by exact trivial) ?_
    refine w_assign (by constructor) ?_
    exact hRR
  apply sdX tokTB mixed [1, 1] (by kernel_rfl) (by kernel_rfl)
  · intro RR hRR
    show WOps _ _ _ _ _ _ _
    refine w_fac rfl und54 rfl kn34 nz34 (by decide) rfl (by constructor) ?_
    show LoadC Try.prog TB _ _ _
    refine wx_ldc rfl kn34 (by constructor) (by exact sz34.symm) (by exact ag34.symm) ?_
    show WOps _ _ _ _ _ _ _
    refine w_fac rfl und54 rfl kn34 nz34 (by decide) rfl (by constructor) ?_
    show LoadC Try.prog TB _ _ _
    refine wx_ldc rfl kn34 (by constructor) (by exact sz34.symm) (by exact ag34.symm) ?_
    show WOps _ _ _ _ _ _ _
    refine w_alloc kn34 rfl zr34 ?_
    refine w_alloc kn34 rfl zr34 ?_
    refine w_stw rfl (by constructor) kn34 rfl (by exact trivial) (sx) (by exact sz34.symm) ?_
    refine w_stw rfl (by constructor) kn34 rfl (by exact trivial) (sx) (by exact sz34.symm) ?_
    exact hRR
  refine snd_seq ?_
  refine snd_emb (ρ := ρ0) (env2 := [(1, .cptr (prA p (n : Int) T fo p (m : Int) S go Y)), (3, .cptr (algA p (n : Int) T fo)), (4, .cptr (algA p (m : Int) S go))]) (ol2 := []) ?_ ?_
  · exact ⟨⟨m_cpr, ⟨trivial, m_alg⟩, ⟨trivial, m_alg⟩, trivial⟩, trivial, trivial⟩
  apply srG (env' := (47, .bool true) :: (46, .any) :: (45, .any) :: (44, .any) :: (43, .bool (!false)) :: (42, .bool (!false)) :: (41, .any) :: (40, .any) :: (39, .any) :: (38, .bool (!true)) :: (37, .bool (!true)) :: (36, .any) :: (35, .any) :: (34, .any) :: (33, .bool (!true)) :: (32, .bool (!true)) :: (31, .any) :: (30, .any) :: (29, .any) :: (28, .bool false) :: (27, .bool false) :: (26, .any) :: (25, .any) :: (24, .any) :: (23, .any) :: (22, .any) :: (21, .bool (!true)) :: (20, .bool (!true)) :: (19, .any) :: (18, .any) :: (17, .any) :: (16, _) :: (15, _) :: (14, _) :: (13, _) :: _) tokTB (by kernel_rfl)
  · intro RR hRR
    refine w_ldc rfl kn34 (by constructor) (by exact sz34.symm) (by exact ag34.symm) ?_
    refine y_call rfl (ec exn) (((decide_eq_true (hv0.va)) ▸ c_l01Algebra hv0.rb hv0.rv)) ?_
    refine w_not rfl ?_
    refine w_move (by constructor) ?_
    refine w_g_on rfl rfl rfl ?_
    refine w_ldc rfl kn34 (by constructor) (by exact sz34.symm) (by exact ag34.symm) ?_
    refine w_g_on rfl rfl rfl ?_
    refine y_call rfl (ec exn) (((decide_eq_true (hw0.va)) ▸ c_l01Algebra hw0.rb hw0.rv)) ?_
    refine w_g_on rfl rfl rfl ?_
    refine w_not rfl ?_
    refine w_pick_0 rfl rfl (by constructor) ?_
    refine w_move (by constructor) ?_
    refine w_g_on rfl rfl rfl ?_
    refine w_fac rfl und34 rfl kn2 nz2 (by decide) rfl (by constructor) ?_
    refine w_g_on rfl rfl rfl ?_
    first | refine w_ldc rfl kn2 (by constructor) (by exact sz2.symm) (by exact ag2.symm) ?_ | refine w_ldp rfl kn2 rfl (by constructor) (by exact sz2.symm) (by exact ag2.symm) ?_
    refine w_g_on rfl rfl rfl ?_
    refine w_fac rfl und34 rfl kn2 nz2 (by decide) rfl (by constructor) ?_
    refine w_g_on rfl rfl rfl ?_
    first | refine w_ldc rfl kn2 (by constructor) (by exact sz2.symm) (by exact ag2.symm) ?_ | refine w_ldp rfl kn2 rfl (by constructor) (by exact sz2.symm) (by exact ag2.symm) ?_
    refine w_g_on rfl rfl rfl ?_
    refine w_neq rfl rfl ?_
    rw [show (decide (p ≠ p)) = false from decide_eq_false (fun h => h rfl)]
    refine w_pick_0 rfl rfl (by constructor) ?_
    refine w_move (by constructor) ?_
    refine w_g_on rfl rfl rfl ?_
    refine w_ldc rfl kn34 (by constructor) (by exact sz34.symm) (by exact ag34.symm) ?_
    refine w_g_on rfl rfl rfl ?_
    refine y_call rfl (ec exn) (((decide_eq_true ((com_iff hv0).2 h3)) ▸ c_l01Commutative)) ?_
    refine w_g_on rfl rfl rfl ?_
    refine w_not rfl ?_
    refine w_pick_0 rfl rfl (by constructor) ?_
    refine w_move (by constructor) ?_
    refine w_g_on rfl rfl rfl ?_
    refine w_ldc rfl kn34 (by constructor) (by exact sz34.symm) (by exact ag34.symm) ?_
    refine w_g_on rfl rfl rfl ?_
    refine y_call rfl (ec exn) (((decide_eq_true (h4)) ▸ c_l01Frobenius hv0)) ?_
    refine w_g_on rfl rfl rfl ?_
    refine w_not rfl ?_
    refine w_pick_0 rfl rfl (by constructor) ?_
    refine w_move (by constructor) ?_
    refine w_g_on rfl rfl rfl ?_
    refine w_ldc rfl kn34 (by constructor) (by exact sz34.symm) (by exact ag34.symm) ?_
    refine w_g_on rfl rfl rfl ?_
    refine y_call rfl (ec exn) (((decide_eq_false (h5)) ▸ c_l01Frobenius hw0)) ?_
    refine w_g_on rfl rfl rfl ?_
    refine w_not rfl ?_
    refine w_pick_0 rfl rfl (by constructor) ?_
    refine w_move (by constructor) ?_
    refine w_g_off rfl rfl (by decide) ?_
    refine w_g_off rfl rfl (by decide) ?_
    refine w_g_off rfl rfl (by decide) ?_
    refine w_pick_1 rfl rfl (by constructor) ?_
    exact hRR _ (EL.cons (.inr (by first | rfl | (simp only [els]; done) | simp)) (EL.cons (.inl rfl) (EL.cons (.inl rfl) (EL.cons (.inl rfl) (EL.cons (.inr (by first | rfl | (simp only [els]; done) | simp)) (EL.cons (.inr (by first | rfl | (simp only [els]; done) | simp)) (EL.cons (.inl rfl) (EL.cons (.inl rfl) (EL.cons (.inl rfl) (EL.cons (.inr (by first | rfl | (simp only [els]; done) | simp)) (EL.cons (.inr (by first | rfl | (simp only [els]; done) | simp)) (EL.cons (.inl rfl) (EL.cons (.inl rfl) (EL.cons (.inl rfl) (EL.cons (.inr (by first | rfl | (simp only [els]; done) | simp)) (EL.cons (.inr (by first | rfl | (simp only [els]; done) | simp)) (EL.cons (.inl rfl) (EL.cons (.inl rfl) (EL.cons (.inl rfl) (EL.cons (.inr (by first | rfl | (simp only [els]; done) | simp)) (EL.cons (.inr (by first | rfl | (simp only [els]; done) | simp)) (EL.cons (.inl rfl) (EL.cons (.inl rfl) (EL.cons (.inl rfl) (EL.cons (.inl rfl) (EL.cons (.inl rfl) (EL.cons (.inr (by first | rfl | (simp only [els]; done) | simp)) (EL.cons (.inr (by first | rfl | (simp only [els]; done) | simp)) (EL.cons (.inl rfl) (EL.cons (.inl rfl) (EL.cons (.inl rfl) (EL.cons (.inr rfl) (EL.cons (.inr rfl) (EL.cons (.inr rfl) (EL.cons (.inr rfl) (EL.refl _))))))))))))))))))))))))))))))))))))
  refine snd_cond_true rfl ?_
  apply sr tokTB (by kernel_rfl)
  · intro RR hRR
    refine w_assign (by constructor) ?_
    exact hRR
  refine snd_ret ?_
  exact rt (T := TB) (fun V => rfl)
theorem c_l10Is_g {p : Int} {n m : Nat} {T S : Nat → Nat → Nat → Int} {fo go : Nat → Int} {Y : Nat → Nat → Int} (hv0 : VN p n T fo) (hw0 : VN p m S go) (h3 : comN n T) (h4 : rankT p n T fo = n) (h5 : rankT p m S go = m) (h6 : ¬ symA m (formT p S go)) : ACalls Try.prog TB 75 [prA p (n : Int) T fo p (m : Int) S go Y] (.bool false) [] := by
  refine acalls_of tokTB Try.func75 rfl rfl (Nat.le_of_ble_eq_true rfl) ?_
  apply sr tokTB (by kernel_rfl)
  · intro RR hRR
    refine w_boxc (HV.eq (by constructor)) (by exact trivial) ?_
    refine w_assign (by constructor) ?_
    exact hRR
  apply sdX tokTB mixed [1, 1] (by kernel_rfl) (by kernel_rfl)
  · intro RR hRR
    show WOps _ _ _ _ _ _ _
    refine w_fac rfl und54 rfl kn34 nz34 (by decide) rfl (by constructor) ?_
    show LoadC Try.prog TB _ _ _
    refine wx_ldc rfl kn34 (by constructor) (by exact sz34.symm) (by exact ag34.symm) ?_
    show WOps _ _ _ _ _ _ _
    refine w_fac rfl und54 rfl kn34 nz34 (by decide) rfl (by constructor) ?_
    show LoadC Try.prog TB _ _ _
    refine wx_ldc rfl kn34 (by constructor) (by exact sz34.symm) (by exact ag34.symm) ?_
    show WOps _ _ _ _ _ _ _
    refine w_alloc kn34 rfl zr34 ?_
    refine w_alloc kn34 rfl zr34 ?_
    refine w_stw rfl (by constructor) kn34 rfl (by exact trivial) (sx) (by exact sz34.symm) ?_
    refine w_stw rfl (by constructor) kn34 rfl (by exact trivial) (sx) (by exact sz34.symm) ?_
    exact hRR
  refine snd_seq ?_
  refine snd_emb (ρ := ρ0) (env2 := [(1, .cptr (prA p (n : Int) T fo p (m : Int) S go Y)), (3, .cptr (algA p (n : Int) T fo)), (4, .cptr (algA p (m : Int) S go))]) (ol2 := []) ?_ ?_
  · exact ⟨⟨m_cpr, ⟨trivial, m_alg⟩, ⟨trivial, m_alg⟩, trivial⟩, trivial, trivial⟩
  apply srG (env' := (47, .bool (!false)) :: (46, .any) :: (45, .any) :: (44, .any) :: (43, .bool (!true)) :: (42, .bool (!true)) :: (41, .any) :: (40, .any) :: (39, .any) :: (38, .bool (!true)) :: (37, .bool (!true)) :: (36, .any) :: (35, .any) :: (34, .any) :: (33, .bool (!true)) :: (32, .bool (!true)) :: (31, .any) :: (30, .any) :: (29, .any) :: (28, .bool false) :: (27, .bool false) :: (26, .any) :: (25, .any) :: (24, .any) :: (23, .any) :: (22, .any) :: (21, .bool (!true)) :: (20, .bool (!true)) :: (19, .any) :: (18, .any) :: (17, .any) :: (16, _) :: (15, _) :: (14, _) :: (13, _) :: _) tokTB (by kernel_rfl)
  · intro RR hRR
    refine w_ldc rfl kn34 (by constructor) (by exact sz34.symm) (by exact ag34.symm) ?_
    refine y_call rfl (ec exn) (((decide_eq_true (hv0.va)) ▸ c_l01Algebra hv0.rb hv0.rv)) ?_
    refine w_not rfl ?_
    refine w_move (by constructor) ?_
    refine w_g_on rfl rfl rfl ?_
    refine w_ldc rfl kn34 (by constructor) (by exact sz34.symm) (by exact ag34.symm) ?_
    refine w_g_on rfl rfl rfl ?_
    refine y_call rfl (ec exn) (((decide_eq_true (hw0.va)) ▸ c_l01Algebra hw0.rb hw0.rv)) ?_
    refine w_g_on rfl rfl rfl ?_
    refine w_not rfl ?_
    refine w_pick_0 rfl rfl (by constructor) ?_
    refine w_move (by constructor) ?_
    refine w_g_on rfl rfl rfl ?_
    refine w_fac rfl und34 rfl kn2 nz2 (by decide) rfl (by constructor) ?_
    refine w_g_on rfl rfl rfl ?_
    first | refine w_ldc rfl kn2 (by constructor) (by exact sz2.symm) (by exact ag2.symm) ?_ | refine w_ldp rfl kn2 rfl (by constructor) (by exact sz2.symm) (by exact ag2.symm) ?_
    refine w_g_on rfl rfl rfl ?_
    refine w_fac rfl und34 rfl kn2 nz2 (by decide) rfl (by constructor) ?_
    refine w_g_on rfl rfl rfl ?_
    first | refine w_ldc rfl kn2 (by constructor) (by exact sz2.symm) (by exact ag2.symm) ?_ | refine w_ldp rfl kn2 rfl (by constructor) (by exact sz2.symm) (by exact ag2.symm) ?_
    refine w_g_on rfl rfl rfl ?_
    refine w_neq rfl rfl ?_
    rw [show (decide (p ≠ p)) = false from decide_eq_false (fun h => h rfl)]
    refine w_pick_0 rfl rfl (by constructor) ?_
    refine w_move (by constructor) ?_
    refine w_g_on rfl rfl rfl ?_
    refine w_ldc rfl kn34 (by constructor) (by exact sz34.symm) (by exact ag34.symm) ?_
    refine w_g_on rfl rfl rfl ?_
    refine y_call rfl (ec exn) (((decide_eq_true ((com_iff hv0).2 h3)) ▸ c_l01Commutative)) ?_
    refine w_g_on rfl rfl rfl ?_
    refine w_not rfl ?_
    refine w_pick_0 rfl rfl (by constructor) ?_
    refine w_move (by constructor) ?_
    refine w_g_on rfl rfl rfl ?_
    refine w_ldc rfl kn34 (by constructor) (by exact sz34.symm) (by exact ag34.symm) ?_
    refine w_g_on rfl rfl rfl ?_
    refine y_call rfl (ec exn) (((decide_eq_true (h4)) ▸ c_l01Frobenius hv0)) ?_
    refine w_g_on rfl rfl rfl ?_
    refine w_not rfl ?_
    refine w_pick_0 rfl rfl (by constructor) ?_
    refine w_move (by constructor) ?_
    refine w_g_on rfl rfl rfl ?_
    refine w_ldc rfl kn34 (by constructor) (by exact sz34.symm) (by exact ag34.symm) ?_
    refine w_g_on rfl rfl rfl ?_
    refine y_call rfl (ec exn) (((decide_eq_true (h5)) ▸ c_l01Frobenius hw0)) ?_
    refine w_g_on rfl rfl rfl ?_
    refine w_not rfl ?_
    refine w_pick_0 rfl rfl (by constructor) ?_
    refine w_move (by constructor) ?_
    refine w_g_on rfl rfl rfl ?_
    refine w_ldc rfl kn34 (by constructor) (by exact sz34.symm) (by exact ag34.symm) ?_
    refine w_g_on rfl rfl rfl ?_
    refine y_call rfl (ec exn) (((decide_eq_false (h6)) ▸ c_l10Symmetric hw0)) ?_
    refine w_g_on rfl rfl rfl ?_
    refine w_not rfl ?_
    refine w_pick_0 rfl rfl (by constructor) ?_
    exact hRR _ (EL.cons (.inr (by first | rfl | (simp only [els]; done) | simp)) (EL.cons (.inl rfl) (EL.cons (.inl rfl) (EL.cons (.inl rfl) (EL.cons (.inr (by first | rfl | (simp only [els]; done) | simp)) (EL.cons (.inr (by first | rfl | (simp only [els]; done) | simp)) (EL.cons (.inl rfl) (EL.cons (.inl rfl) (EL.cons (.inl rfl) (EL.cons (.inr (by first | rfl | (simp only [els]; done) | simp)) (EL.cons (.inr (by first | rfl | (simp only [els]; done) | simp)) (EL.cons (.inl rfl) (EL.cons (.inl rfl) (EL.cons (.inl rfl) (EL.cons (.inr (by first | rfl | (simp only [els]; done) | simp)) (EL.cons (.inr (by first | rfl | (simp only [els]; done) | simp)) (EL.cons (.inl rfl) (EL.cons (.inl rfl) (EL.cons (.inl rfl) (EL.cons (.inr (by first | rfl | (simp only [els]; done) | simp)) (EL.cons (.inr (by first | rfl | (simp only [els]; done) | simp)) (EL.cons (.inl rfl) (EL.cons (.inl rfl) (EL.cons (.inl rfl) (EL.cons (.inl rfl) (EL.cons (.inl rfl) (EL.cons (.inr (by first | rfl | (simp only [els]; done) | simp)) (EL.cons (.inr (by first | rfl | (simp only [els]; done) | simp)) (EL.cons (.inl rfl) (EL.cons (.inl rfl) (EL.cons (.inl rfl) (EL.cons (.inr rfl) (EL.cons (.inr rfl) (EL.cons (.inr rfl) (EL.cons (.inr rfl) (EL.refl _))))))))))))))))))))))))))))))))))))
  refine snd_cond_true rfl ?_
  apply sr tokTB (by kernel_rfl)
  · intro RR hRR
    refine w_assign (by constructor) ?_
    exact hRR
  refine snd_ret ?_
  exact rt (T := TB) (fun V => rfl)
theorem c_l10Is_ok {p : Int} {n m : Nat} {T S : Nat → Nat → Nat → Int} {fo go : Nat → Int} {Y : Nat → Nat → Int} (hv0 : VN p n T fo) (hw0 : VN p m S go) (h3 : comN n T) (h4 : rankT p n T fo = n) (h5 : rankT p m S go = m) (h6 : symA m (formT p S go)) (hY : ∀ i, B8 (Y i)) : ACalls Try.prog TB 75 [prA p (n : Int) T fo p (m : Int) S go Y] (.bool (decide (prS p n m T S Y))) [] := by
  have hp8 := hv0.p0
  have hn6 := hv0.n6
  have hm6 := hw0.n6
  refine acalls_of tokTB Try.func75 rfl rfl (Nat.le_of_ble_eq_true rfl) ?_
  apply sr tokTB (by kernel_rfl)
  · intro RR hRR
    refine w_boxc (HV.eq (by constructor)) (by exact trivial) ?_
    refine w_assign (by constructor) ?_
    exact hRR
  apply sdX tokTB mixed [1, 1] (by kernel_rfl) (by kernel_rfl)
  · intro RR hRR
    show WOps _ _ _ _ _ _ _
    refine w_fac rfl und54 rfl kn34 nz34 (by decide) rfl (by constructor) ?_
    show LoadC Try.prog TB _ _ _
    refine wx_ldc rfl kn34 (by constructor) (by exact sz34.symm) (by exact ag34.symm) ?_
    show WOps _ _ _ _ _ _ _
    refine w_fac rfl und54 rfl kn34 nz34 (by decide) rfl (by constructor) ?_
    show LoadC Try.prog TB _ _ _
    refine wx_ldc rfl kn34 (by constructor) (by exact sz34.symm) (by exact ag34.symm) ?_
    show WOps _ _ _ _ _ _ _
    refine w_alloc kn34 rfl zr34 ?_
    refine w_alloc kn34 rfl zr34 ?_
    refine w_stw rfl (by constructor) kn34 rfl (by exact trivial) (sx) (by exact sz34.symm) ?_
    refine w_stw rfl (by constructor) kn34 rfl (by exact trivial) (sx) (by exact sz34.symm) ?_
    exact hRR
  refine snd_seq ?_
  refine snd_emb (ρ := ρ0) (env2 := [(1, .cptr (prA p (n : Int) T fo p (m : Int) S go Y)), (3, .cptr (algA p (n : Int) T fo)), (4, .cptr (algA p (m : Int) S go))]) (ol2 := []) ?_ ?_
  · exact ⟨⟨m_cpr, ⟨trivial, m_alg⟩, ⟨trivial, m_alg⟩, trivial⟩, trivial, trivial⟩
  apply srG (env' := (47, .bool (!true)) :: (46, .any) :: (45, .any) :: (44, .any) :: (43, .bool (!true)) :: (42, .bool (!true)) :: (41, .any) :: (40, .any) :: (39, .any) :: (38, .bool (!true)) :: (37, .bool (!true)) :: (36, .any) :: (35, .any) :: (34, .any) :: (33, .bool (!true)) :: (32, .bool (!true)) :: (31, .any) :: (30, .any) :: (29, .any) :: (28, .bool false) :: (27, .bool false) :: (26, .any) :: (25, .any) :: (24, .any) :: (23, .any) :: (22, .any) :: (21, .bool (!true)) :: (20, .bool (!true)) :: (19, .any) :: (18, .any) :: (17, .any) :: (16, _) :: (15, _) :: (14, _) :: (13, _) :: _) tokTB (by kernel_rfl)
  · intro RR hRR
    refine w_ldc rfl kn34 (by constructor) (by exact sz34.symm) (by exact ag34.symm) ?_
    refine y_call rfl (ec exn) (((decide_eq_true (hv0.va)) ▸ c_l01Algebra hv0.rb hv0.rv)) ?_
    refine w_not rfl ?_
    refine w_move (by constructor) ?_
    refine w_g_on rfl rfl rfl ?_
    refine w_ldc rfl kn34 (by constructor) (by exact sz34.symm) (by exact ag34.symm) ?_
    refine w_g_on rfl rfl rfl ?_
    refine y_call rfl (ec exn) (((decide_eq_true (hw0.va)) ▸ c_l01Algebra hw0.rb hw0.rv)) ?_
    refine w_g_on rfl rfl rfl ?_
    refine w_not rfl ?_
    refine w_pick_0 rfl rfl (by constructor) ?_
    refine w_move (by constructor) ?_
    refine w_g_on rfl rfl rfl ?_
    refine w_fac rfl und34 rfl kn2 nz2 (by decide) rfl (by constructor) ?_
    refine w_g_on rfl rfl rfl ?_
    first | refine w_ldc rfl kn2 (by constructor) (by exact sz2.symm) (by exact ag2.symm) ?_ | refine w_ldp rfl kn2 rfl (by constructor) (by exact sz2.symm) (by exact ag2.symm) ?_
    refine w_g_on rfl rfl rfl ?_
    refine w_fac rfl und34 rfl kn2 nz2 (by decide) rfl (by constructor) ?_
    refine w_g_on rfl rfl rfl ?_
    first | refine w_ldc rfl kn2 (by constructor) (by exact sz2.symm) (by exact ag2.symm) ?_ | refine w_ldp rfl kn2 rfl (by constructor) (by exact sz2.symm) (by exact ag2.symm) ?_
    refine w_g_on rfl rfl rfl ?_
    refine w_neq rfl rfl ?_
    rw [show (decide (p ≠ p)) = false from decide_eq_false (fun h => h rfl)]
    refine w_pick_0 rfl rfl (by constructor) ?_
    refine w_move (by constructor) ?_
    refine w_g_on rfl rfl rfl ?_
    refine w_ldc rfl kn34 (by constructor) (by exact sz34.symm) (by exact ag34.symm) ?_
    refine w_g_on rfl rfl rfl ?_
    refine y_call rfl (ec exn) (((decide_eq_true ((com_iff hv0).2 h3)) ▸ c_l01Commutative)) ?_
    refine w_g_on rfl rfl rfl ?_
    refine w_not rfl ?_
    refine w_pick_0 rfl rfl (by constructor) ?_
    refine w_move (by constructor) ?_
    refine w_g_on rfl rfl rfl ?_
    refine w_ldc rfl kn34 (by constructor) (by exact sz34.symm) (by exact ag34.symm) ?_
    refine w_g_on rfl rfl rfl ?_
    refine y_call rfl (ec exn) (((decide_eq_true (h4)) ▸ c_l01Frobenius hv0)) ?_
    refine w_g_on rfl rfl rfl ?_
    refine w_not rfl ?_
    refine w_pick_0 rfl rfl (by constructor) ?_
    refine w_move (by constructor) ?_
    refine w_g_on rfl rfl rfl ?_
    refine w_ldc rfl kn34 (by constructor) (by exact sz34.symm) (by exact ag34.symm) ?_
    refine w_g_on rfl rfl rfl ?_
    refine y_call rfl (ec exn) (((decide_eq_true (h5)) ▸ c_l01Frobenius hw0)) ?_
    refine w_g_on rfl rfl rfl ?_
    refine w_not rfl ?_
    refine w_pick_0 rfl rfl (by constructor) ?_
    refine w_move (by constructor) ?_
    refine w_g_on rfl rfl rfl ?_
    refine w_ldc rfl kn34 (by constructor) (by exact sz34.symm) (by exact ag34.symm) ?_
    refine w_g_on rfl rfl rfl ?_
    refine y_call rfl (ec exn) (((decide_eq_true (h6)) ▸ c_l10Symmetric hw0)) ?_
    refine w_g_on rfl rfl rfl ?_
    refine w_not rfl ?_
    refine w_pick_0 rfl rfl (by constructor) ?_
    exact hRR _ (EL.cons (.inr (by first | rfl | (simp only [els]; done) | simp)) (EL.cons (.inl rfl) (EL.cons (.inl rfl) (EL.cons (.inl rfl) (EL.cons (.inr (by first | rfl | (simp only [els]; done) | simp)) (EL.cons (.inr (by first | rfl | (simp only [els]; done) | simp)) (EL.cons (.inl rfl) (EL.cons (.inl rfl) (EL.cons (.inl rfl) (EL.cons (.inr (by first | rfl | (simp only [els]; done) | simp)) (EL.cons (.inr (by first | rfl | (simp only [els]; done) | simp)) (EL.cons (.inl rfl) (EL.cons (.inl rfl) (EL.cons (.inl rfl) (EL.cons (.inr (by first | rfl | (simp only [els]; done) | simp)) (EL.cons (.inr (by first | rfl | (simp only [els]; done) | simp)) (EL.cons (.inl rfl) (EL.cons (.inl rfl) (EL.cons (.inl rfl) (EL.cons (.inr (by first | rfl | (simp only [els]; done) | simp)) (EL.cons (.inr (by first | rfl | (simp only [els]; done) | simp)) (EL.cons (.inl rfl) (EL.cons (.inl rfl) (EL.cons (.inl rfl) (EL.cons (.inl rfl) (EL.cons (.inl rfl) (EL.cons (.inr (by first | rfl | (simp only [els]; done) | simp)) (EL.cons (.inr (by first | rfl | (simp only [els]; done) | simp)) (EL.cons (.inl rfl) (EL.cons (.inl rfl) (EL.cons (.inl rfl) (EL.cons (.inr rfl) (EL.cons (.inr rfl) (EL.cons (.inr rfl) (EL.cons (.inr rfl) (EL.refl _))))))))))))))))))))))))))))))))))))
  refine snd_cond_false rfl ?_
  refine snd_skip ?_
  refine snd_seq ?_
  apply sr tokTB (by kernel_rfl)
  · intro RR hRR
    refine w_assign (by constructor) ?_
    exact hRR
  refine snd_block ?_
  refine snd_loop (S := Nat) (fun i => ([(1, .cptr (prA p (n : Int) T fo p (m : Int) S go Y)), (3, .cptr (algA p (n : Int) T fo)), (4, .cptr (algA p (m : Int) S go)), (5, .int .i64 (i : Int))], [])) (fun i => i ≤ 6 ∧ (∀ a, a < i → zvP p n m Y a)) (fun i => 6 - i) (0) ρ0 ?_ ?_ ?_
  · exact ⟨⟨m_cpr, m_calg, m_calg, (mi), trivial⟩, trivial, trivial⟩
  · exact ⟨Nat.zero_le _, fun j hj => absurd hj (Nat.not_lt_zero _)⟩
  intro i hi0
  refine sq (env2 := [(1, .cptr (prA p (n : Int) T fo p (m : Int) S go Y)), (3, .cptr (algA p (n : Int) T fo)), (4, .cptr (algA p (m : Int) S go)), (5, .int .i64 (i : Int))]) (ol2 := []) rfl rfl ?_
  obtain ⟨le_i, inv_i⟩ := hi0
  refine snd_seq ?_
  apply sr tokTB (by kernel_rfl)
  · intro RR hRR
    refine w_move (by constructor) ?_
    refine w_lss rfl rfl ?_
    exact hRR
  refine snd_cond _ rfl (fun hc49 => ?_) (fun hc49 => ?_)
  · try simp only [hcs] at hc49
    have lt_i : i < 6 := by omega
    refine snd_skip ?_
    refine snd_seq ?_
    refine snd_block ?_
    apply sdG (env' := (72, .bool (!(decide (smP p (m : Int) (Y i))) || (decide ((i : Int) ≥ (n : Int)) && decide (¬ eqN 6 (Y i) (fun _ => 0))))) :: (71, .any) :: (70, .any) :: (69, .any) :: (68, .any) :: (67, .any) :: (66, .any) :: (65, .any) :: (64, .any) :: (63, .any) :: (62, .any) :: (61, .any) :: (60, .any) :: (59, _) :: (58, _) :: (57, _) :: (56, _) :: (55, _) :: (54, _) :: (53, _) :: (52, _) :: _) tokTB mixed (by kernel_rfl) (by kernel_rfl)
    · intro RR hRR
      refine w_ldc rfl kn34 (by constructor) (by exact sz34.symm) (by exact ag34.symm) ?_
      refine w_move (by constructor) ?_
      refine w_fac rfl und54 rfl kn52 nz52 (by decide) rfl (by constructor) ?_
      first | refine w_iac rfl rfl und52 kn32 (by exact sz32.symm) ?_ rfl ?_ | refine w_iap rfl rfl und52 kn32 rfl (by exact sz32.symm) rfl ?_ ?_
      · exact ⟨by omega, by omega⟩
      first | refine w_ldc rfl kn32 (by constructor) (by exact sz32.symm) (by exact ag32.symm) ?_ | refine w_ldp rfl kn32 rfl (by constructor) (by exact sz32.symm) (by exact ag32.symm) ?_
      refine y_call rfl (ec (ec exn)) (c_l01Vector (v := Y i) (hY i)) ?_
      refine w_not rfl ?_
      refine w_move (by constructor) ?_
      refine w_g rfl rfl (fun hg7 => ?_) (fun hg7 => ?_)
      · skip
        refine w_move (by constructor) ?_
        refine w_g_on rfl rfl hg7 ?_
        refine w_fac rfl und34 rfl kn2 nz2 (by decide) rfl (by constructor) ?_
        refine w_g_on rfl rfl hg7 ?_
        first | refine w_ldc rfl kn2 (by constructor) (by exact sz2.symm) (by exact ag2.symm) ?_ | refine w_ldp rfl kn2 rfl (by constructor) (by exact sz2.symm) (by exact ag2.symm) ?_
        refine w_g_on rfl rfl hg7 ?_
        refine w_geq rfl rfl ?_
        refine w_g_on rfl rfl hg7 ?_
        refine w_move (by constructor) ?_
        refine w_g rfl rfl (fun hg12 => ?_) (fun hg12 => ?_)
        · skip
          refine w_move (by constructor) ?_
          refine w_g_on rfl rfl hg12 ?_
          refine w_fac rfl und54 rfl kn52 nz52 (by decide) rfl (by constructor) ?_
          refine w_g_on rfl rfl hg12 ?_
          first | refine w_iac rfl rfl und52 kn32 (by exact sz32.symm) ?_ rfl ?_ | refine w_iap rfl rfl und52 kn32 rfl (by exact sz32.symm) rfl ?_ ?_
          · exact ⟨by omega, by omega⟩
          refine w_g_on rfl rfl hg12 ?_
          first | refine w_ldc rfl kn32 (by constructor) (by exact sz32.symm) (by exact ag32.symm) ?_ | refine w_ldp rfl kn32 rfl (by constructor) (by exact sz32.symm) (by exact ag32.symm) ?_
          refine w_g_on rfl rfl hg12 ?_
          refine w_bld_a kn32 zr32 und32 kn5 (fun _ => (by exact sz5.symm)) trivial rfl (by exact sz5.symm) ?_
          refine w_g_on rfl rfl hg12 ?_
          refine w_aneq rfl rfl und32 und5 ?_
          refine w_g_on rfl rfl hg7 ?_
          refine w_pick_1 rfl hg12 (by constructor) ?_
          refine w_pick_0 rfl hg7 (by constructor) ?_
          try simp only [Int.toNat_natCast] at hg7 hg12
          exact hRR _ (EL.cons (.inr (by first | rfl | (simp only [hg7, hg12, els]; done) | (simp only [hg7, hg12, els]; rfl) | simp [hg7, hg12])) (EL.cons (.inl rfl) (EL.cons (.inl rfl) (EL.cons (.inl rfl) (EL.cons (.inl rfl) (EL.cons (.inl rfl) (EL.cons (.inl rfl) (EL.cons (.inl rfl) (EL.cons (.inl rfl) (EL.cons (.inl rfl) (EL.cons (.inl rfl) (EL.cons (.inl rfl) (EL.cons (.inl rfl) (EL.cons (.inr rfl) (EL.cons (.inr rfl) (EL.cons (.inr rfl) (EL.cons (.inr rfl) (EL.cons (.inr rfl) (EL.cons (.inr rfl) (EL.cons (.inr rfl) (EL.cons (.inr rfl) (EL.refl _))))))))))))))))))))))
        · have hg12 := eq_false_of_ne_true hg12
          refine w_g_off rfl rfl (by rw [hg12]; decide) ?_
          refine w_g_off rfl rfl (by rw [hg12]; decide) ?_
          refine w_g_off rfl rfl (by rw [hg12]; decide) ?_
          refine w_g_off rfl rfl (by rw [hg12]; decide) ?_
          refine w_g_off rfl rfl (by rw [hg12]; decide) ?_
          refine w_g_on rfl rfl hg7 ?_
          refine w_pick_0 rfl hg12 (by constructor) ?_
          refine w_pick_0 rfl hg7 (by constructor) ?_
          try simp only [Int.toNat_natCast] at hg7 hg12
          exact hRR _ (EL.cons (.inr (by first | rfl | (simp only [hg7, hg12, els]; done) | (simp only [hg7, hg12, els]; rfl) | simp [hg7, hg12])) (EL.cons (.inl rfl) (EL.cons (.inl rfl) (EL.cons (.inl rfl) (EL.cons (.inl rfl) (EL.cons (.inl rfl) (EL.cons (.inl rfl) (EL.cons (.inl rfl) (EL.cons (.inl rfl) (EL.cons (.inl rfl) (EL.cons (.inl rfl) (EL.cons (.inl rfl) (EL.cons (.inl rfl) (EL.cons (.inr rfl) (EL.cons (.inr rfl) (EL.cons (.inr rfl) (EL.cons (.inr rfl) (EL.cons (.inr rfl) (EL.cons (.inr rfl) (EL.cons (.inr rfl) (EL.cons (.inr rfl) (EL.refl _))))))))))))))))))))))
      · have hg7 := eq_true_of_ne_false hg7
        refine w_g_off rfl rfl (by rw [hg7]; decide) ?_
        refine w_g_off rfl rfl (by rw [hg7]; decide) ?_
        refine w_g_off rfl rfl (by rw [hg7]; decide) ?_
        refine w_g_off rfl rfl (by rw [hg7]; decide) ?_
        refine w_g_und rfl rfl ?_
        refine w_g_und rfl rfl ?_
        refine w_g_und rfl rfl ?_
        refine w_g_und rfl rfl ?_
        refine w_g_und rfl rfl ?_
        refine w_g_und rfl rfl ?_
        refine w_g_off rfl rfl (by rw [hg7]; decide) ?_
        refine w_pick_1 rfl hg7 (by constructor) ?_
        try simp only [Int.toNat_natCast] at hg7
        exact hRR _ (EL.cons (.inr (by first | rfl | (simp only [hg7, els]; done) | (simp only [hg7, els]; rfl) | simp [hg7])) (EL.cons (.inl rfl) (EL.cons (.inl rfl) (EL.cons (.inl rfl) (EL.cons (.inl rfl) (EL.cons (.inl rfl) (EL.cons (.inl rfl) (EL.cons (.inl rfl) (EL.cons (.inl rfl) (EL.cons (.inl rfl) (EL.cons (.inl rfl) (EL.cons (.inl rfl) (EL.cons (.inl rfl) (EL.cons (.inr rfl) (EL.cons (.inr rfl) (EL.cons (.inr rfl) (EL.cons (.inr rfl) (EL.cons (.inr rfl) (EL.cons (.inr rfl) (EL.cons (.inr rfl) (EL.cons (.inr rfl) (EL.refl _))))))))))))))))))))))
    refine snd_cond _ rfl (fun hc72 => ?_) (fun hc72 => ?_)
    · skip
      apply sr tokTB (by kernel_rfl)
      · intro RR hRR
        refine w_assign (by constructor) ?_
        exact hRR
      refine snd_ret ?_
      exact rt (T := TB) (fun V => m_bool (by symm; rw [decide_eq_false_iff_not]; intro h; exact zv_t hc72 (h.1.1 i (by omega))))
    · skip
      refine snd_skip ?_
      apply lr tokTB (by kernel_rfl)
      · intro RR hRR
        refine w_move (by constructor) ?_
        refine y_add rfl rfl ?_
        refine w_assign (by constructor) ?_
        exact hRR
      refine ⟨i + 1, ρ0, ?_, ⟨by omega, all_step inv_i (zv_f hc72)⟩, (by dsimp only; omega)⟩
      exact ⟨⟨m_cpr, m_calg, m_calg, (mi), trivial⟩, trivial, trivial⟩
  · try simp only [hcs] at hc49
    have ge_i : 6 = i := by omega
    subst ge_i
    refine snd_exit ?_
    refine snd_seq ?_
    apply sr tokTB (by kernel_rfl)
    · intro RR hRR
      refine w_assign (by constructor) ?_
      exact hRR
    refine snd_block ?_
    refine snd_loop (S := Nat) (fun x => ([(1, .cptr (prA p (n : Int) T fo p (m : Int) S go Y)), (3, .cptr (algA p (n : Int) T fo)), (4, .cptr (algA p (m : Int) S go)), (6, .int .i64 (x : Int))], [])) (fun x => x ≤ n ∧ (∀ a, a < x → (∀ j, j < n → eqN 6 (apF p Y (T a j) n) (timesF p m S (Y a) (Y j))) ∧ ∀ j, j < m → eqN 6 (timesF p m S (Y a) (eF j)) (timesF p m S (eF j) (Y a)))) (fun x => n - x) (0) ρ0 ?_ ?_ ?_
    · exact ⟨⟨m_cpr, m_calg, m_calg, (mi), trivial⟩, trivial, trivial⟩
    · exact ⟨Nat.zero_le _, fun j hj => absurd hj (Nat.not_lt_zero _)⟩
    intro x hi2
    refine sq (env2 := [(1, .cptr (prA p (n : Int) T fo p (m : Int) S go Y)), (3, .cptr (algA p (n : Int) T fo)), (4, .cptr (algA p (m : Int) S go)), (6, .int .i64 (x : Int))]) (ol2 := []) rfl rfl ?_
    obtain ⟨le_x, inv_x⟩ := hi2
    refine snd_seq ?_
    apply sr tokTB (by kernel_rfl)
    · intro RR hRR
      refine w_move (by constructor) ?_
      refine w_fac rfl und34 rfl kn2 nz2 (by decide) rfl (by constructor) ?_
      refine w_ldc rfl kn2 (by constructor) (by exact sz2.symm) (by exact ag2.symm) ?_
      refine w_lss rfl rfl ?_
      exact hRR
    refine snd_cond _ rfl (fun hc76 => ?_) (fun hc76 => ?_)
    · try simp only [hcs] at hc76
      have lt_x : x < n := by omega
      refine snd_skip ?_
      refine snd_seq ?_
      refine snd_block ?_
      refine snd_seq ?_
      apply sr tokTB (by kernel_rfl)
      · intro RR hRR
        refine w_assign (by constructor) ?_
        exact hRR
      refine snd_block ?_
      refine snd_loop (S := Nat) (fun k => ([(1, .cptr (prA p (n : Int) T fo p (m : Int) S go Y)), (3, .cptr (algA p (n : Int) T fo)), (4, .cptr (algA p (m : Int) S go)), (6, .int .i64 (x : Int)), (7, .int .i64 (k : Int))], [])) (fun k => k ≤ n ∧ (∀ b, b < k → eqN 6 (apF p Y (T x b) n) (timesF p m S (Y x) (Y b)))) (fun k => n - k) (0) ρ0 ?_ ?_ ?_
      · exact ⟨⟨m_cpr, m_calg, m_calg, (mi), (mi), trivial⟩, trivial, trivial⟩
      · exact ⟨Nat.zero_le _, fun j hj => absurd hj (Nat.not_lt_zero _)⟩
      intro k hi4
      refine sq (env2 := [(1, .cptr (prA p (n : Int) T fo p (m : Int) S go Y)), (3, .cptr (algA p (n : Int) T fo)), (4, .cptr (algA p (m : Int) S go)), (6, .int .i64 (x : Int)), (7, .int .i64 (k : Int))]) (ol2 := []) rfl rfl ?_
      obtain ⟨le_k, inv_k⟩ := hi4
      refine snd_seq ?_
      apply sr tokTB (by kernel_rfl)
      · intro RR hRR
        refine w_move (by constructor) ?_
        refine w_fac rfl und34 rfl kn2 nz2 (by decide) rfl (by constructor) ?_
        refine w_ldc rfl kn2 (by constructor) (by exact sz2.symm) (by exact ag2.symm) ?_
        refine w_lss rfl rfl ?_
        exact hRR
      refine snd_cond _ rfl (fun hc82 => ?_) (fun hc82 => ?_)
      · try simp only [hcs] at hc82
        have lt_k : k < n := by omega
        refine snd_skip ?_
        refine snd_seq ?_
        refine snd_block ?_
        apply sd tokTB mixed (by kernel_rfl) (by kernel_rfl)
        · intro RR hRR
          refine w_ldc rfl kn54 (by constructor) (by exact sz54.symm) (by exact ag54.symm) ?_
          refine w_ldc rfl kn34 (by constructor) (by exact sz34.symm) (by exact ag34.symm) ?_
          refine w_move (by constructor) ?_
          refine y_call rfl (ec exn) (c_l01Basis (i := x) (by omega)) ?_
          refine w_move (by constructor) ?_
          refine y_call rfl (ec exn) (c_l01Basis (i := k) (by omega)) ?_
          refine y_call rfl (ec (ec (ec exn))) ((hv0.ee (i := x) (j := k) (by omega) (by omega)) ▸ c_l01Times (u := eF x) (v := eF k) (by omega) (by omega) hn6 hv0.T8 (eF_B8 x) (eF_B8 k)) ?_
          refine y_call rfl (exc exp_pr (exc (by exact rfl) exn)) (c_l10Zip (v := T x k) hv0 hw0 hY (hv0.T8 x k)) ?_
          refine w_ldc rfl kn34 (by constructor) (by exact sz34.symm) (by exact ag34.symm) ?_
          refine w_move (by constructor) ?_
          refine w_fac rfl und54 rfl kn52 nz52 (by decide) rfl (by constructor) ?_
          refine w_iac rfl rfl und52 kn32 (by exact sz32.symm) ?_ rfl ?_
          · exact ⟨by omega, by omega⟩
          refine w_ldc rfl kn32 (by constructor) (by exact sz32.symm) (by exact ag32.symm) ?_
          refine w_move (by constructor) ?_
          refine w_fac rfl und54 rfl kn52 nz52 (by decide) rfl (by constructor) ?_
          refine w_iac rfl rfl und52 kn32 (by exact sz32.symm) ?_ rfl ?_
          · exact ⟨by omega, by omega⟩
          refine w_ldc rfl kn32 (by constructor) (by exact sz32.symm) (by exact ag32.symm) ?_
          refine y_call rfl (ec (ec (ec exn))) (c_l01Times (u := Y x) (v := Y k) (by omega) (by omega) hm6 hw0.T8 (hY x) (hY k)) ?_
          refine w_aneq rfl rfl und32 und5 ?_
          exact hRR
        refine snd_cond _ rfl (fun hc103 => ?_) (fun hc103 => ?_)
        · skip
          apply sr tokTB (by kernel_rfl)
          · intro RR hRR
            refine w_assign (by constructor) ?_
            exact hRR
          refine snd_ret ?_
          exact rt (T := TB) (fun V => m_bool (by symm; rw [decide_eq_false_iff_not]; intro h; exact of_decide_eq_true (p := ¬ eqN 6 _ _) hc103 ((h.1.2 x (by omega)).1 k (by omega))))
        · skip
          refine snd_skip ?_
          apply lr tokTB (by kernel_rfl)
          · intro RR hRR
            refine w_move (by constructor) ?_
            refine y_add rfl rfl ?_
            refine w_assign (by constructor) ?_
            exact hRR
          refine ⟨k + 1, ρ0, ?_, ⟨by omega, all_step inv_k (Classical.not_not.1 (of_decide_eq_false (p := ¬ eqN 6 _ _) hc103))⟩, (by dsimp only; omega)⟩
          exact ⟨⟨m_cpr, m_calg, m_calg, (mi), (mi), trivial⟩, trivial, trivial⟩
      · try simp only [hcs] at hc82
        have ge_k : n = k := by omega
        subst ge_k
        refine snd_exit ?_
        apply sr tokTB (by kernel_rfl)
        · intro RR hRR
          refine w_assign (by constructor) ?_
          exact hRR
        refine snd_block ?_
        refine snd_loop (S := Nat) (fun j => ([(1, .cptr (prA p (n : Int) T fo p (m : Int) S go Y)), (3, .cptr (algA p (n : Int) T fo)), (4, .cptr (algA p (m : Int) S go)), (6, .int .i64 (x : Int)), (8, .int .i64 (j : Int))], [])) (fun j => j ≤ m ∧ (∀ b, b < j → eqN 6 (timesF p m S (Y x) (eF b)) (timesF p m S (eF b) (Y x)))) (fun j => m - j) (0) ρ0 ?_ ?_ ?_
        · exact ⟨⟨m_cpr, m_calg, m_calg, (mi), (mi), trivial⟩, trivial, trivial⟩
        · exact ⟨Nat.zero_le _, fun j hj => absurd hj (Nat.not_lt_zero _)⟩
        intro j hi6
        refine sq (env2 := [(1, .cptr (prA p (n : Int) T fo p (m : Int) S go Y)), (3, .cptr (algA p (n : Int) T fo)), (4, .cptr (algA p (m : Int) S go)), (6, .int .i64 (x : Int)), (8, .int .i64 (j : Int))]) (ol2 := []) rfl rfl ?_
        obtain ⟨le_j, inv_j⟩ := hi6
        refine snd_seq ?_
        apply sr tokTB (by kernel_rfl)
        · intro RR hRR
          refine w_move (by constructor) ?_
          refine w_fac rfl und34 rfl kn2 nz2 (by decide) rfl (by constructor) ?_
          refine w_ldc rfl kn2 (by constructor) (by exact sz2.symm) (by exact ag2.symm) ?_
          refine w_lss rfl rfl ?_
          exact hRR
        refine snd_cond _ rfl (fun hc107 => ?_) (fun hc107 => ?_)
        · try simp only [hcs] at hc107
          have lt_j : j < m := by omega
          refine snd_skip ?_
          refine snd_seq ?_
          refine snd_block ?_
          apply sd tokTB mixed (by kernel_rfl) (by kernel_rfl)
          · intro RR hRR
            refine w_ldc rfl kn34 (by constructor) (by exact sz34.symm) (by exact ag34.symm) ?_
            refine w_move (by constructor) ?_
            refine w_fac rfl und54 rfl kn52 nz52 (by decide) rfl (by constructor) ?_
            refine w_iac rfl rfl und52 kn32 (by exact sz32.symm) ?_ rfl ?_
            · exact ⟨by omega, by omega⟩
            refine w_ldc rfl kn32 (by constructor) (by exact sz32.symm) (by exact ag32.symm) ?_
            refine w_move (by constructor) ?_
            refine y_call rfl (ec exn) (c_l01Basis (i := j) (by omega)) ?_
            refine y_call rfl (ec (ec (ec exn))) (c_l01Times (u := Y x) (v := eF j) (by omega) (by omega) hm6 hw0.T8 (hY x) (eF_B8 j)) ?_
            refine w_ldc rfl kn34 (by constructor) (by exact sz34.symm) (by exact ag34.symm) ?_
            refine w_move (by constructor) ?_
            refine y_call rfl (ec exn) (c_l01Basis (i := j) (by omega)) ?_
            refine w_move (by constructor) ?_
            refine w_fac rfl und54 rfl kn52 nz52 (by decide) rfl (by constructor) ?_
            refine w_iac rfl rfl und52 kn32 (by exact sz32.symm) ?_ rfl ?_
            · exact ⟨by omega, by omega⟩
            refine w_ldc rfl kn32 (by constructor) (by exact sz32.symm) (by exact ag32.symm) ?_
            refine y_call rfl (ec (ec (ec exn))) (c_l01Times (u := eF j) (v := Y x) (by omega) (by omega) hm6 hw0.T8 (eF_B8 j) (hY x)) ?_
            refine w_aneq rfl rfl und32 und5 ?_
            exact hRR
          refine snd_cond _ rfl (fun hc126 => ?_) (fun hc126 => ?_)
          · skip
            apply sr tokTB (by kernel_rfl)
            · intro RR hRR
              refine w_assign (by constructor) ?_
              exact hRR
            refine snd_ret ?_
            exact rt (T := TB) (fun V => m_bool (by symm; rw [decide_eq_false_iff_not]; intro h; exact of_decide_eq_true (p := ¬ eqN 6 _ _) hc126 ((h.1.2 x (by omega)).2 j (by omega))))
          · skip
            refine snd_skip ?_
            apply lr tokTB (by kernel_rfl)
            · intro RR hRR
              refine w_move (by constructor) ?_
              refine y_add rfl rfl ?_
              refine w_assign (by constructor) ?_
              exact hRR
            refine ⟨j + 1, ρ0, ?_, ⟨by omega, all_step inv_j (Classical.not_not.1 (of_decide_eq_false (p := ¬ eqN 6 _ _) hc126))⟩, (by dsimp only; omega)⟩
            exact ⟨⟨m_cpr, m_calg, m_calg, (mi), (mi), trivial⟩, trivial, trivial⟩
        · try simp only [hcs] at hc107
          have ge_j : m = j := by omega
          subst ge_j
          refine snd_exit ?_
          apply lr tokTB (by kernel_rfl)
          · intro RR hRR
            refine w_move (by constructor) ?_
            refine y_add rfl rfl ?_
            refine w_assign (by constructor) ?_
            exact hRR
          refine ⟨x + 1, ρ0, ?_, ⟨by omega, all_step inv_x ⟨inv_k, inv_j⟩⟩, (by dsimp only; omega)⟩
          exact ⟨⟨m_cpr, m_calg, m_calg, (mi), trivial⟩, trivial, trivial⟩
    · try simp only [hcs] at hc76
      have ge_x : n = x := by omega
      subst ge_x
      refine snd_exit ?_
      apply sd tokTB mixed (by kernel_rfl) (by kernel_rfl)
      · intro RR hRR
        refine w_ldc rfl kn54 (by constructor) (by exact sz54.symm) (by exact ag54.symm) ?_
        refine w_ldc rfl kn34 (by constructor) (by exact sz34.symm) (by exact ag34.symm) ?_
        refine y_call rfl (ec exn) (c_l01Unit hv0) ?_
        refine y_call rfl (exc exp_pr (exc (by exact rfl) exn)) (c_l10Zip (v := uF p n T) hv0 hw0 hY (B8_of (by omega) hv0.u_Bp)) ?_
        refine w_ldc rfl kn34 (by constructor) (by exact sz34.symm) (by exact ag34.symm) ?_
        refine y_call rfl (ec exn) (c_l01Unit hw0) ?_
        refine w_aeql rfl rfl und32 und5 ?_
        refine w_assign (by constructor) ?_
        exact hRR
      refine snd_ret ?_
      exact rt (T := TB) (fun V => m_bool (decide_eq_decide.2 ⟨fun h => ⟨⟨inv_i, inv_x⟩, h⟩, fun h => h.2⟩))
theorem c_IsPair_a {p n q m : Int} {T S : Nat → Nat → Nat → Int} {fo go : Nat → Int} {Y : Nat → Nat → Int} (hT : RB T) (hf : RV fo) (h0 : ¬ VA p n T fo) : ACalls Try.prog TB 35 [prA p n T fo q m S go Y] (.bool false) [] := by
  refine acalls_of tokTB Try.func35 rfl rfl (Nat.le_of_ble_eq_true rfl) ?_
  apply sr tokTB (by kernel_rfl)
  · intro RR hRR
    refine w_boxc (HV.eq (by constructor)) (by exact trivial) ?_
    refine w_assign (by constructor) ?_
    exact hRR
  refine snd_seq ?_
  apply sr tokTB (by kernel_rfl)
  · intro RR hRR
    refine y_call rfl (exc (exp_closed (v := .cptr (prA p n T fo q m S go Y)) closed_pr) exn) (c_algebrasOk_a hT hf h0) ?_
    refine w_not rfl ?_
    exact hRR
  refine snd_cond_true rfl ?_
  apply sr tokTB (by kernel_rfl)
  · intro RR hRR
    refine w_assign (by constructor) ?_
    exact hRR
  refine snd_ret ?_
  exact rt (T := TB) (fun V => rfl)
theorem c_IsPair_b {p q m : Int} {n : Nat} {T S : Nat → Nat → Nat → Int} {fo go : Nat → Int} {Y : Nat → Nat → Int} (hv0 : VN p n T fo) (hS : RB S) (hg : RV go) (h1 : ¬ VA q m S go) : ACalls Try.prog TB 35 [prA p (n : Int) T fo q m S go Y] (.bool false) [] := by
  refine acalls_of tokTB Try.func35 rfl rfl (Nat.le_of_ble_eq_true rfl) ?_
  apply sr tokTB (by kernel_rfl)
  · intro RR hRR
    refine w_boxc (HV.eq (by constructor)) (by exact trivial) ?_
    refine w_assign (by constructor) ?_
    exact hRR
  refine snd_seq ?_
  apply sr tokTB (by kernel_rfl)
  · intro RR hRR
    refine y_call rfl (exc (exp_closed (v := .cptr (prA p (n : Int) T fo q m S go Y)) closed_pr) exn) (c_algebrasOk_b hv0 hS hg h1) ?_
    refine w_not rfl ?_
    exact hRR
  refine snd_cond_true rfl ?_
  apply sr tokTB (by kernel_rfl)
  · intro RR hRR
    refine w_assign (by constructor) ?_
    exact hRR
  refine snd_ret ?_
  exact rt (T := TB) (fun V => rfl)
theorem c_IsPair_c {p q : Int} {n m : Nat} {T S : Nat → Nat → Nat → Int} {fo go : Nat → Int} {Y : Nat → Nat → Int} (hv0 : VN p n T fo) (hw0 : VN q m S go) (h2 : ¬ p = q) : ACalls Try.prog TB 35 [prA p (n : Int) T fo q (m : Int) S go Y] (.bool false) [] := by
  refine acalls_of tokTB Try.func35 rfl rfl (Nat.le_of_ble_eq_true rfl) ?_
  apply sr tokTB (by kernel_rfl)
  · intro RR hRR
    refine w_boxc (HV.eq (by constructor)) (by exact trivial) ?_
    refine w_assign (by constructor) ?_
    exact hRR
  refine snd_seq ?_
  apply sr tokTB (by kernel_rfl)
  · intro RR hRR
    refine y_call rfl (exc (exp_closed (v := .cptr (prA p (n : Int) T fo q (m : Int) S go Y)) closed_pr) exn) (c_algebrasOk_c hv0 hw0 h2) ?_
    refine w_not rfl ?_
    exact hRR
  refine snd_cond_true rfl ?_
  apply sr tokTB (by kernel_rfl)
  · intro RR hRR
    refine w_assign (by constructor) ?_
    exact hRR
  refine snd_ret ?_
  exact rt (T := TB) (fun V => rfl)
theorem c_IsPair_d {p : Int} {n m : Nat} {T S : Nat → Nat → Nat → Int} {fo go : Nat → Int} {Y : Nat → Nat → Int} (hv0 : VN p n T fo) (hw0 : VN p m S go) (h3 : ¬ comN n T) : ACalls Try.prog TB 35 [prA p (n : Int) T fo p (m : Int) S go Y] (.bool false) [] := by
  refine acalls_of tokTB Try.func35 rfl rfl (Nat.le_of_ble_eq_true rfl) ?_
  apply sr tokTB (by kernel_rfl)
  · intro RR hRR
    refine w_boxc (HV.eq (by constructor)) (by exact trivial) ?_
    refine w_assign (by constructor) ?_
    exact hRR
  refine snd_seq ?_
  apply sr tokTB (by kernel_rfl)
  · intro RR hRR
    refine y_call rfl (exc (exp_closed (v := .cptr (prA p (n : Int) T fo p (m : Int) S go Y)) closed_pr) exn) (c_algebrasOk_d hv0 hw0 h3) ?_
    refine w_not rfl ?_
    exact hRR
  refine snd_cond_true rfl ?_
  apply sr tokTB (by kernel_rfl)
  · intro RR hRR
    refine w_assign (by constructor) ?_
    exact hRR
  refine snd_ret ?_
  exact rt (T := TB) (fun V => rfl)
theorem c_IsPair_e {p : Int} {n m : Nat} {T S : Nat → Nat → Nat → Int} {fo go : Nat → Int} {Y : Nat → Nat → Int} (hv0 : VN p n T fo) (hw0 : VN p m S go) (h3 : comN n T) (h4 : ¬ rankT p n T fo = n) : ACalls Try.prog TB 35 [prA p (n : Int) T fo p (m : Int) S go Y] (.bool false) [] := by
  refine acalls_of tokTB Try.func35 rfl rfl (Nat.le_of_ble_eq_true rfl) ?_
  apply sr tokTB (by kernel_rfl)
  · intro RR hRR
    refine w_boxc (HV.eq (by constructor)) (by exact trivial) ?_
    refine w_assign (by constructor) ?_
    exact hRR
  refine snd_seq ?_
  apply sr tokTB (by kernel_rfl)
  · intro RR hRR
    refine y_call rfl (exc (exp_closed (v := .cptr (prA p (n : Int) T fo p (m : Int) S go Y)) closed_pr) exn) (c_algebrasOk_e hv0 hw0 h3 h4) ?_
    refine w_not rfl ?_
    exact hRR
  refine snd_cond_true rfl ?_
  apply sr tokTB (by kernel_rfl)
  · intro RR hRR
    refine w_assign (by constructor) ?_
    exact hRR
  refine snd_ret ?_
  exact rt (T := TB) (fun V => rfl)
theorem c_IsPair_f {p : Int} {n m : Nat} {T S : Nat → Nat → Nat → Int} {fo go : Nat → Int} {Y : Nat → Nat → Int} (hv0 : VN p n T fo) (hw0 : VN p m S go) (h3 : comN n T) (h4 : rankT p n T fo = n) (h5 : ¬ rankT p m S go = m) : ACalls Try.prog TB 35 [prA p (n : Int) T fo p (m : Int) S go Y] (.bool false) [] := by
  refine acalls_of tokTB Try.func35 rfl rfl (Nat.le_of_ble_eq_true rfl) ?_
  apply sr tokTB (by kernel_rfl)
  · intro RR hRR
    refine w_boxc (HV.eq (by constructor)) (by exact trivial) ?_
    refine w_assign (by constructor) ?_
    exact hRR
  refine snd_seq ?_
  apply sr tokTB (by kernel_rfl)
  · intro RR hRR
    refine y_call rfl (exc (exp_closed (v := .cptr (prA p (n : Int) T fo p (m : Int) S go Y)) closed_pr) exn) (c_algebrasOk_f hv0 hw0 h3 h4 h5) ?_
    refine w_not rfl ?_
    exact hRR
  refine snd_cond_true rfl ?_
  apply sr tokTB (by kernel_rfl)
  · intro RR hRR
    refine w_assign (by constructor) ?_
    exact hRR
  refine snd_ret ?_
  exact rt (T := TB) (fun V => rfl)
theorem c_IsPair_g {p : Int} {n m : Nat} {T S : Nat → Nat → Nat → Int} {fo go : Nat → Int} {Y : Nat → Nat → Int} (hv0 : VN p n T fo) (hw0 : VN p m S go) (h3 : comN n T) (h4 : rankT p n T fo = n) (h5 : rankT p m S go = m) (h6 : ¬ symA m (formT p S go)) : ACalls Try.prog TB 35 [prA p (n : Int) T fo p (m : Int) S go Y] (.bool false) [] := by
  refine acalls_of tokTB Try.func35 rfl rfl (Nat.le_of_ble_eq_true rfl) ?_
  apply sr tokTB (by kernel_rfl)
  · intro RR hRR
    refine w_boxc (HV.eq (by constructor)) (by exact trivial) ?_
    refine w_assign (by constructor) ?_
    exact hRR
  refine snd_seq ?_
  apply sr tokTB (by kernel_rfl)
  · intro RR hRR
    refine y_call rfl (exc (exp_closed (v := .cptr (prA p (n : Int) T fo p (m : Int) S go Y)) closed_pr) exn) (c_algebrasOk_g hv0 hw0 h3 h4 h5 h6) ?_
    refine w_not rfl ?_
    exact hRR
  refine snd_cond_true rfl ?_
  apply sr tokTB (by kernel_rfl)
  · intro RR hRR
    refine w_assign (by constructor) ?_
    exact hRR
  refine snd_ret ?_
  exact rt (T := TB) (fun V => rfl)
theorem c_IsPair_ok {p : Int} {n m : Nat} {T S : Nat → Nat → Nat → Int} {fo go : Nat → Int} {Y : Nat → Nat → Int} (hv0 : VN p n T fo) (hw0 : VN p m S go) (h3 : comN n T) (h4 : rankT p n T fo = n) (h5 : rankT p m S go = m) (h6 : symA m (formT p S go)) (hY : ∀ i, B8 (Y i)) : ACalls Try.prog TB 35 [prA p (n : Int) T fo p (m : Int) S go Y] (.bool (decide (prI p n m T S Y))) [] := by
  have hp8 := hv0.p0
  have hn6 := hv0.n6
  have hm6 := hw0.n6
  refine acalls_of tokTB Try.func35 rfl rfl (Nat.le_of_ble_eq_true rfl) ?_
  apply sr tokTB (by kernel_rfl)
  · intro RR hRR
    refine w_boxc (HV.eq (by constructor)) (by exact trivial) ?_
    refine w_assign (by constructor) ?_
    exact hRR
  refine snd_seq ?_
  apply sr tokTB (by kernel_rfl)
  · intro RR hRR
    refine y_call rfl (exc (exp_closed (v := .cptr (prA p (n : Int) T fo p (m : Int) S go Y)) closed_pr) exn) (c_algebrasOk_ok hv0 hw0 h3 h4 h5 h6) ?_
    refine w_not rfl ?_
    exact hRR
  refine snd_cond_false rfl ?_
  refine snd_skip ?_
  refine snd_seq ?_
  apply sr tokTB (by kernel_rfl)
  · intro RR hRR
    refine w_fac rfl und54 rfl kn52 nz52 (by decide) rfl (by constructor) ?_
    refine w_ldc rfl kn52 (by constructor) (by exact sz52.symm) (by exact ag52.symm) ?_
    refine w_move (by constructor) ?_
    exact hRR
  refine snd_block ?_
  refine snd_loop (S := Nat) (fun i => ([(1, .cptr (prA p (n : Int) T fo p (m : Int) S go Y)), (11, matA Y), (12, .int .i64 (i : Int))], [])) (fun i => i ≤ 6 ∧ (∀ a, a < i → (zvP p n m Y a ∧ ∀ j, j < m → eqN 6 (timesF p m S (Y a) (eF j)) (timesF p m S (eF j) (Y a))) ∧ ∀ j, j < 6 → eqN 6 (apF p Y (T a j) 6) (timesF p m S (Y a) (Y j)))) (fun i => 6 - i) (0) ρ0 ?_ ?_ ?_
  · exact ⟨⟨m_cpr, (mt_mat (V := _) (fun _ _ _ _ => rfl)), (mi), trivial⟩, trivial, trivial⟩
  · exact ⟨Nat.zero_le _, fun j hj => absurd hj (Nat.not_lt_zero _)⟩
  intro i hi0
  refine sq (env2 := [(1, .cptr (prA p (n : Int) T fo p (m : Int) S go Y)), (11, matA Y), (12, .int .i64 (i : Int))]) (ol2 := []) rfl rfl ?_
  obtain ⟨le_i, inv_i⟩ := hi0
  apply sr tokTB (by kernel_rfl)
  · intro RR hRR
    refine w_lss rfl rfl ?_
    exact hRR
  refine snd_seq ?_
  refine snd_cond _ rfl (fun hc13 => ?_) (fun hc13 => ?_)
  · try simp only [hcs] at hc13
    have lt_i : i < 6 := by omega
    refine snd_skip ?_
    refine snd_seq ?_
    refine snd_block ?_
    apply sr tokTB (by kernel_rfl)
    · intro RR hRR
      refine w_move (by constructor) ?_
      refine w_ixa rfl rfl und52 kn32 (by exact sz32.symm) ?_ (by constructor) (by exact ag32.symm) ?_
      · exact ⟨by omega, by omega⟩
      refine w_alloc kn32 rfl zr32 ?_
      refine w_assign (by constructor) ?_
      refine w_stw rfl (by constructor) kn32 rfl (by exact trivial) (sx) (by exact sz32.symm) ?_
      exact hRR
    refine snd_seq ?_
    apply srG (env' := (35, .bool (!(decide (smP p (m : Int) (Y i))) || (decide ((i : Int) ≥ (n : Int)) && decide (¬ eqN 6 (Y i) (fun _ => 0))))) :: (34, .any) :: (33, .any) :: (32, .any) :: (31, .any) :: (30, .any) :: (29, .any) :: (28, .any) :: (27, .any) :: (26, .any) :: (25, _) :: (24, _) :: (23, _) :: (22, _) :: (21, _) :: (20, _) :: (19, _) :: (18, _) :: (17, _) :: (16, _) :: _) tokTB (by kernel_rfl)
    · intro RR hRR
      refine w_ldp rfl kn32 rfl (by constructor) (by exact sz32.symm) (by exact ag32.symm) ?_
      refine w_fac rfl und54 rfl kn34 nz34 (by decide) rfl (by constructor) ?_
      first | refine w_fac rfl und34 rfl kn2 nz2 (by decide) rfl (by constructor) ?_ | refine w_fap rfl und34 rfl kn2 nz2 rfl (by decide) rfl ?_
      first | refine w_ldc rfl kn2 (by constructor) (by exact sz2.symm) (by exact ag2.symm) ?_ | refine w_ldp rfl kn2 rfl (by constructor) (by exact sz2.symm) (by exact ag2.symm) ?_
      refine w_fac rfl und54 rfl kn34 nz34 (by decide) rfl (by constructor) ?_
      first | refine w_fac rfl und34 rfl kn2 nz2 (by decide) rfl (by constructor) ?_ | refine w_fap rfl und34 rfl kn2 nz2 rfl (by decide) rfl ?_
      first | refine w_ldc rfl kn2 (by constructor) (by exact sz2.symm) (by exact ag2.symm) ?_ | refine w_ldp rfl kn2 rfl (by constructor) (by exact sz2.symm) (by exact ag2.symm) ?_
      refine y_call rfl (ec (ec (ec exn))) (c_isVector (v := Y i) (hY i)) ?_
      refine w_not rfl ?_
      refine w_move (by constructor) ?_
      refine w_g rfl rfl (fun hg9 => ?_) (fun hg9 => ?_)
      · skip
        refine w_move (by constructor) ?_
        refine w_g_on rfl rfl hg9 ?_
        refine w_fac rfl und54 rfl kn34 nz34 (by decide) rfl (by constructor) ?_
        refine w_g_on rfl rfl hg9 ?_
        refine y_call rfl (ec exn) (c_n) ?_
        refine w_g_on rfl rfl hg9 ?_
        refine w_geq rfl rfl ?_
        refine w_g_on rfl rfl hg9 ?_
        refine w_move (by constructor) ?_
        refine w_g rfl rfl (fun hg14 => ?_) (fun hg14 => ?_)
        · skip
          refine w_ldp rfl kn32 rfl (by constructor) (by exact sz32.symm) (by exact ag32.symm) ?_
          refine w_g_on rfl rfl hg14 ?_
          refine w_bld_a kn32 zr32 und32 kn5 (fun _ => (by exact sz5.symm)) trivial rfl (by exact sz5.symm) ?_
          refine w_g_on rfl rfl hg14 ?_
          refine w_aneq rfl rfl und32 und5 ?_
          refine w_g_on rfl rfl hg9 ?_
          refine w_pick_1 rfl hg14 (by constructor) ?_
          refine w_pick_0 rfl hg9 (by constructor) ?_
          try simp only [Int.toNat_natCast] at hg9 hg14
          exact hRR _ (EL.cons (.inr (by first | rfl | (simp only [hg9, hg14, els]; done) | (simp only [hg9, hg14, els]; rfl) | simp [hg9, hg14])) (EL.cons (.inl rfl) (EL.cons (.inl rfl) (EL.cons (.inl rfl) (EL.cons (.inl rfl) (EL.cons (.inl rfl) (EL.cons (.inl rfl) (EL.cons (.inl rfl) (EL.cons (.inl rfl) (EL.cons (.inl rfl) (EL.cons (.inr rfl) (EL.cons (.inr rfl) (EL.cons (.inr rfl) (EL.cons (.inr rfl) (EL.cons (.inr rfl) (EL.cons (.inr rfl) (EL.cons (.inr rfl) (EL.cons (.inr rfl) (EL.cons (.inr rfl) (EL.cons (.inr rfl) (EL.refl _)))))))))))))))))))))
        · have hg14 := eq_false_of_ne_true hg14
          refine w_g_off rfl rfl (by rw [hg14]; decide) ?_
          refine w_g_off rfl rfl (by rw [hg14]; decide) ?_
          refine w_g_on rfl rfl hg9 ?_
          refine w_pick_0 rfl hg14 (by constructor) ?_
          refine w_pick_0 rfl hg9 (by constructor) ?_
          try simp only [Int.toNat_natCast] at hg9 hg14
          exact hRR _ (EL.cons (.inr (by first | rfl | (simp only [hg9, hg14, els]; done) | (simp only [hg9, hg14, els]; rfl) | simp [hg9, hg14])) (EL.cons (.inl rfl) (EL.cons (.inl rfl) (EL.cons (.inl rfl) (EL.cons (.inl rfl) (EL.cons (.inl rfl) (EL.cons (.inl rfl) (EL.cons (.inl rfl) (EL.cons (.inl rfl) (EL.cons (.inl rfl) (EL.cons (.inr rfl) (EL.cons (.inr rfl) (EL.cons (.inr rfl) (EL.cons (.inr rfl) (EL.cons (.inr rfl) (EL.cons (.inr rfl) (EL.cons (.inr rfl) (EL.cons (.inr rfl) (EL.cons (.inr rfl) (EL.cons (.inr rfl) (EL.refl _)))))))))))))))))))))
      · have hg9 := eq_true_of_ne_false hg9
        refine w_g_off rfl rfl (by rw [hg9]; decide) ?_
        refine w_g_off rfl rfl (by rw [hg9]; decide) ?_
        refine w_g_off rfl rfl (by rw [hg9]; decide) ?_
        refine w_g_off rfl rfl (by rw [hg9]; decide) ?_
        refine w_g_und rfl rfl ?_
        refine w_g_und rfl rfl ?_
        refine w_g_und rfl rfl ?_
        refine w_g_off rfl rfl (by rw [hg9]; decide) ?_
        refine w_pick_1 rfl hg9 (by constructor) ?_
        try simp only [Int.toNat_natCast] at hg9
        exact hRR _ (EL.cons (.inr (by first | rfl | (simp only [hg9, els]; done) | (simp only [hg9, els]; rfl) | simp [hg9])) (EL.cons (.inl rfl) (EL.cons (.inl rfl) (EL.cons (.inl rfl) (EL.cons (.inl rfl) (EL.cons (.inl rfl) (EL.cons (.inl rfl) (EL.cons (.inl rfl) (EL.cons (.inl rfl) (EL.cons (.inl rfl) (EL.cons (.inr rfl) (EL.cons (.inr rfl) (EL.cons (.inr rfl) (EL.cons (.inr rfl) (EL.cons (.inr rfl) (EL.cons (.inr rfl) (EL.cons (.inr rfl) (EL.cons (.inr rfl) (EL.cons (.inr rfl) (EL.cons (.inr rfl) (EL.refl _)))))))))))))))))))))
    refine snd_cond _ rfl (fun hc35 => ?_) (fun hc35 => ?_)
    · skip
      apply sr tokTB (by kernel_rfl)
      · intro RR hRR
        refine w_assign (by constructor) ?_
        exact hRR
      refine snd_ret ?_
      exact rt (T := TB) (fun V => m_bool (by symm; rw [decide_eq_false_iff_not]; intro h; exact zv_t hc35 (h.1 i (by omega)).1.1))
    · skip
      refine snd_skip ?_
      refine snd_seq ?_
      apply sr tokTB (by kernel_rfl)
      · intro RR hRR
        refine w_fac rfl und54 rfl kn34 nz34 (by decide) rfl (by constructor) ?_
        refine y_call rfl (ec exn) (c_n) ?_
        refine w_move (by constructor) ?_
        exact hRR
      refine snd_block ?_
      refine snd_loop (S := Nat) (fun j => ([(1, .cptr (prA p (n : Int) T fo p (m : Int) S go Y)), (3, .int .i64 (i : Int)), (4, .ptr 4 0 [] 0 (vecA (fun _ => 0))), (11, matA Y), (12, .int .i64 (i : Int)), (37, .int .i64 (m : Int)), (38, .int .i64 (j : Int))], [(4, .one (vecA (fun _ => 0)) (vecA (Y i)))])) (fun j => j ≤ m ∧ (∀ b, b < j → eqN 6 (timesF p m S (Y i) (eF b)) (timesF p m S (eF b) (Y i)))) (fun j => m - j) (0) ρ0 ?_ ?_ ?_
      · exact ⟨⟨m_cpr, (mi), ⟨rfl, rfl, rfl, rfl, rfl⟩, (mt_mat (V := _) (fun _ _ _ _ => rfl)), (mi), (mi), (mi), trivial⟩, ⟨⟨rfl, (sx), (by exact mt_vec (fun _ _ => rfl))⟩, trivial⟩, ⟨⟨(fun h => by first | exact ⟨rfl, rfl⟩ | exact absurd h (by decide)), trivial⟩, trivial⟩⟩
      · exact ⟨Nat.zero_le _, fun j hj => absurd hj (Nat.not_lt_zero _)⟩
      intro j hi2
      refine sq (env2 := [(1, .cptr (prA p (n : Int) T fo p (m : Int) S go Y)), (3, .int .i64 (i : Int)), (4, .ptr 4 0 [] 0 (vecA (fun _ => 0))), (11, matA Y), (12, .int .i64 (i : Int)), (37, .int .i64 (m : Int)), (38, .int .i64 (j : Int))]) (ol2 := [(4, .one (vecA (fun _ => 0)) (vecA (Y i)))]) rfl rfl ?_
      obtain ⟨le_j, inv_j⟩ := hi2
      apply sr tokTB (by kernel_rfl)
      · intro RR hRR
        refine w_lss rfl rfl ?_
        exact hRR
      refine snd_seq ?_
      refine snd_cond _ rfl (fun hc39 => ?_) (fun hc39 => ?_)
      · try simp only [hcs] at hc39
        have lt_j : j < m := by omega
        refine snd_skip ?_
        refine snd_seq ?_
        refine snd_block ?_
        apply sr tokTB (by kernel_rfl)
        · intro RR hRR
          refine w_move (by constructor) ?_
          refine w_assign (by constructor) ?_
          exact hRR
        apply sd tokTB mixed (by kernel_rfl) (by kernel_rfl)
        · intro RR hRR
          refine w_fac rfl und54 rfl kn34 nz34 (by decide) rfl (by constructor) ?_
          refine w_ldp rfl kn32 rfl (by constructor) (by exact sz32.symm) (by exact ag32.symm) ?_
          refine w_move (by constructor) ?_
          refine y_call rfl (ec exn) (c_basis (i := j) (by omega)) ?_
          refine y_call rfl (ec (ec (ec exn))) (c_times (u := Y i) (v := eF j) (by omega) (by omega) hm6 hw0.T8 (hY i) (eF_B8 j)) ?_
          refine w_fac rfl und54 rfl kn34 nz34 (by decide) rfl (by constructor) ?_
          refine w_move (by constructor) ?_
          refine y_call rfl (ec exn) (c_basis (i := j) (by omega)) ?_
          refine w_ldp rfl kn32 rfl (by constructor) (by exact sz32.symm) (by exact ag32.symm) ?_
          refine y_call rfl (ec (ec (ec exn))) (c_times (u := eF j) (v := Y i) (by omega) (by omega) hm6 hw0.T8 (eF_B8 j) (hY i)) ?_
          refine w_aneq rfl rfl und32 und5 ?_
          exact hRR
        refine snd_cond _ rfl (fun hc51 => ?_) (fun hc51 => ?_)
        · skip
          apply sr tokTB (by kernel_rfl)
          · intro RR hRR
            refine w_assign (by constructor) ?_
            exact hRR
          refine snd_ret ?_
          exact rt (T := TB) (fun V => m_bool (by symm; rw [decide_eq_false_iff_not]; intro h; exact of_decide_eq_true (p := ¬ eqN 6 _ _) hc51 ((h.1 i (by omega)).1.2 j (by omega))))
        · skip
          refine snd_skip ?_
          apply lr tokTB (by kernel_rfl)
          · intro RR hRR
            refine y_add rfl rfl ?_
            refine w_move (by constructor) ?_
            exact hRR
          refine ⟨j + 1, ρ0, ?_, ⟨by omega, all_step inv_j (Classical.not_not.1 (of_decide_eq_false (p := ¬ eqN 6 _ _) hc51))⟩, (by dsimp only; omega)⟩
          exact ⟨⟨m_cpr, (mi), ⟨rfl, rfl, rfl, rfl, rfl⟩, (mt_mat (V := _) (fun _ _ _ _ => rfl)), (mi), (mi), (mi), trivial⟩, ⟨⟨rfl, (sx), (by exact mt_vec (fun _ _ => rfl))⟩, trivial⟩, ⟨⟨(fun h => by first | exact ⟨rfl, rfl⟩ | exact absurd h (by decide)), trivial⟩, trivial⟩⟩
      · try simp only [hcs] at hc39
        have ge_j : m = j := by omega
        subst ge_j
        refine snd_exit ?_
        apply sr tokTB (by kernel_rfl)
        · intro RR hRR
          refine w_fac rfl und54 rfl kn52 nz52 (by decide) rfl (by constructor) ?_
          refine w_ldc rfl kn52 (by constructor) (by exact sz52.symm) (by exact ag52.symm) ?_
          refine w_move (by constructor) ?_
          exact hRR
        refine snd_block ?_
        refine snd_loop (S := Nat) (fun k => ([(1, .cptr (prA p (n : Int) T fo p (m : Int) S go Y)), (3, .int .i64 (i : Int)), (4, .ptr 4 0 [] 0 (vecA (fun _ => 0))), (11, matA Y), (12, .int .i64 (i : Int)), (54, matA Y), (55, .int .i64 (k : Int))], [(4, .one (vecA (fun _ => 0)) (vecA (Y i)))])) (fun k => k ≤ 6 ∧ (∀ b, b < k → eqN 6 (apF p Y (T i b) 6) (timesF p m S (Y i) (Y b)))) (fun k => 6 - k) (0) ρ0 ?_ ?_ ?_
        · exact ⟨⟨m_cpr, (mi), ⟨rfl, rfl, rfl, rfl, rfl⟩, (mt_mat (V := _) (fun _ _ _ _ => rfl)), (mi), (mt_mat (V := _) (fun _ _ _ _ => rfl)), (mi), trivial⟩, ⟨⟨rfl, (sx), (by exact mt_vec (fun _ _ => rfl))⟩, trivial⟩, ⟨⟨(fun h => by first | exact ⟨rfl, rfl⟩ | exact absurd h (by decide)), trivial⟩, trivial⟩⟩
        · exact ⟨Nat.zero_le _, fun j hj => absurd hj (Nat.not_lt_zero _)⟩
        intro k hi4
        refine sq (env2 := [(1, .cptr (prA p (n : Int) T fo p (m : Int) S go Y)), (3, .int .i64 (i : Int)), (4, .ptr 4 0 [] 0 (vecA (fun _ => 0))), (11, matA Y), (12, .int .i64 (i : Int)), (54, matA Y), (55, .int .i64 (k : Int))]) (ol2 := [(4, .one (vecA (fun _ => 0)) (vecA (Y i)))]) rfl rfl ?_
        obtain ⟨le_k, inv_k⟩ := hi4
        apply sr tokTB (by kernel_rfl)
        · intro RR hRR
          refine w_lss rfl rfl ?_
          exact hRR
        refine snd_seq ?_
        refine snd_cond _ rfl (fun hc56 => ?_) (fun hc56 => ?_)
        · try simp only [hcs] at hc56
          have lt_k : k < 6 := by omega
          refine snd_skip ?_
          refine snd_seq ?_
          refine snd_block ?_
          apply sr tokTB (by kernel_rfl)
          · intro RR hRR
            refine w_move (by constructor) ?_
            refine w_ixa rfl rfl und52 kn32 (by exact sz32.symm) ?_ (by constructor) (by exact ag32.symm) ?_
            · exact ⟨by omega, by omega⟩
            refine w_alloc kn32 rfl zr32 ?_
            refine w_assign (by constructor) ?_
            refine w_stw rfl (by constructor) kn32 rfl (by exact trivial) (sx) (by exact sz32.symm) ?_
            exact hRR
          apply sd tokTB mixed (by kernel_rfl) (by kernel_rfl)
          · intro RR hRR
            refine w_move (by constructor) ?_
            refine w_move (by constructor) ?_
            refine w_fac rfl und54 rfl kn34 nz34 (by decide) rfl (by constructor) ?_
            refine w_fac rfl und34 rfl kn24 nz24 (by decide) rfl (by constructor) ?_
            refine w_iac rfl rfl und24 kn23 (by exact sz23.symm) ?_ rfl ?_
            · exact ⟨by omega, by omega⟩
            refine w_iac rfl rfl und23 kn22 (by exact sz22.symm) ?_ rfl ?_
            · exact ⟨by omega, by omega⟩
            refine w_ldc rfl kn22 (by constructor) (by exact sz22.symm) (by exact ag22.symm) ?_
            refine y_call rfl (exc (exp_closed (v := .cptr (prA p (n : Int) T fo p (m : Int) S go Y)) closed_pr) (exc (by exact rfl) exn)) (c_zip (v := T i k) hv0 hw0 hY (hv0.T8 i k)) ?_
            refine w_fac rfl und54 rfl kn34 nz34 (by decide) rfl (by constructor) ?_
            refine w_ldp rfl kn32 rfl (by constructor) (by exact sz32.symm) (by exact ag32.symm) ?_
            refine w_ldp rfl kn32 rfl (by constructor) (by exact sz32.symm) (by exact ag32.symm) ?_
            refine y_call rfl (ec (ec (ec exn))) (c_times (u := Y i) (v := Y k) (by omega) (by omega) hm6 hw0.T8 (hY i) (hY k)) ?_
            refine w_aneq rfl rfl und32 und5 ?_
            exact hRR
          refine snd_cond _ rfl (fun hc71 => ?_) (fun hc71 => ?_)
          · skip
            apply sr tokTB (by kernel_rfl)
            · intro RR hRR
              refine w_assign (by constructor) ?_
              exact hRR
            refine snd_ret ?_
            exact rt (T := TB) (fun V => m_bool (by symm; rw [decide_eq_false_iff_not]; intro h; exact of_decide_eq_true (p := ¬ eqN 6 _ _) hc71 ((h.1 i (by omega)).2 k (by omega))))
          · skip
            refine snd_skip ?_
            apply lr tokTB (by kernel_rfl)
            · intro RR hRR
              refine y_add rfl rfl ?_
              refine w_move (by constructor) ?_
              exact hRR
            refine ⟨k + 1, ρ0, ?_, ⟨by omega, all_step inv_k (Classical.not_not.1 (of_decide_eq_false (p := ¬ eqN 6 _ _) hc71))⟩, (by dsimp only; omega)⟩
            exact ⟨⟨m_cpr, (mi), ⟨rfl, rfl, rfl, rfl, rfl⟩, (mt_mat (V := _) (fun _ _ _ _ => rfl)), (mi), (mt_mat (V := _) (fun _ _ _ _ => rfl)), (mi), trivial⟩, ⟨⟨rfl, (sx), (by exact mt_vec (fun _ _ => rfl))⟩, trivial⟩, ⟨⟨(fun h => by first | exact ⟨rfl, rfl⟩ | exact absurd h (by decide)), trivial⟩, trivial⟩⟩
        · try simp only [hcs] at hc56
          have ge_k : 6 = k := by omega
          subst ge_k
          refine snd_exit ?_
          apply lr tokTB (by kernel_rfl)
          · intro RR hRR
            refine y_add rfl rfl ?_
            refine w_move (by constructor) ?_
            exact hRR
          refine ⟨i + 1, ρ0, ?_, ⟨by omega, all_step inv_i ⟨⟨zv_f hc35, inv_j⟩, inv_k⟩⟩, (by dsimp only; omega)⟩
          exact ⟨⟨m_cpr, (mt_mat (V := _) (fun _ _ _ _ => rfl)), (mi), trivial⟩, trivial, trivial⟩
  · try simp only [hcs] at hc13
    have ge_i : 6 = i := by omega
    subst ge_i
    refine snd_exit ?_
    apply sr tokTB (by kernel_rfl)
    · intro RR hRR
      refine w_fac rfl und54 rfl kn34 nz34 (by decide) rfl (by constructor) ?_
      refine y_call rfl (ec exn) (c_unit hv0) ?_
      refine y_call rfl (exc (exp_closed (v := .cptr (prA p (n : Int) T fo p (m : Int) S go Y)) closed_pr) (exc (by exact rfl) exn)) (c_zip (v := uF p n T) hv0 hw0 hY (B8_of (by omega) hv0.u_Bp)) ?_
      refine w_fac rfl und54 rfl kn34 nz34 (by decide) rfl (by constructor) ?_
      refine y_call rfl (ec exn) (c_unit hw0) ?_
      refine w_aeql rfl rfl und32 und5 ?_
      refine w_assign (by constructor) ?_
      exact hRR
    refine snd_ret ?_
    exact rt (T := TB) (fun V => m_bool (decide_eq_decide.2 ⟨fun h => ⟨inv_i, h⟩, fun h => h.2⟩))
theorem c_l10Is {p n q m : Int} {T S : Nat → Nat → Nat → Int} {fo go : Nat → Int} {Y : Nat → Nat → Int} (hT : RB T) (hf : RV fo) (hS : RB S) (hg : RV go) (hY : ∀ i, RV (Y i)) : ACalls Try.prog TB 75 [prA p n T fo q m S go Y] (.bool (decide (PR p n T fo q m S go Y))) [] := by
  by_cases h0 : VA p n T fo
  · by_cases h1 : VA q m S go
    · by_cases h2 : p = q
      · subst h2
        obtain ⟨hv0, hn⟩ := VN_of hT hf h0
        obtain ⟨hw0, hm⟩ := VN_of hS hg h1
        obtain ⟨a, rfl⟩ : ∃ a : Nat, n = (a : Int) := ⟨n.toNat, hn⟩
        obtain ⟨b, rfl⟩ : ∃ b : Nat, m = (b : Int) := ⟨m.toNat, hm⟩
        have hv0 : VN p a T fo := hv0
        have hw0 : VN p b S go := hw0
        by_cases h3 : comN a T
        · by_cases h4 : rankT p a T fo = a
          · by_cases h5 : rankT p b S go = b
            · by_cases h6 : symA b (formT p S go)
              · have e : PR p (a : Int) T fo p (b : Int) S go Y ↔ prS p a b T S Y := PR_iff.trans ⟨fun z => z.z, fun z => ⟨hv0, hw0, h3, h4, h5, h6, z⟩⟩
                rw [decide_eq_decide.2 e]
                exact c_l10Is_ok hv0 hw0 h3 h4 h5 h6 (fun i => (hY i).b)
              · rw [decide_eq_false (fun z => h6 (PR_iff.1 z).y)]; exact c_l10Is_g hv0 hw0 h3 h4 h5 h6
            · rw [decide_eq_false (fun z => h5 (PR_iff.1 z).s)]; exact c_l10Is_f hv0 hw0 h3 h4 h5
          · rw [decide_eq_false (fun z => h4 (PR_iff.1 z).r)]; exact c_l10Is_e hv0 hw0 h3 h4
        · rw [decide_eq_false (fun z => h3 (PR_iff.1 z).c)]; exact c_l10Is_d hv0 hw0 h3
      · obtain ⟨hv0, hn⟩ := VN_of hT hf h0
        obtain ⟨hw0, hm⟩ := VN_of hS hg h1
        obtain ⟨a, rfl⟩ : ∃ a : Nat, n = (a : Int) := ⟨n.toNat, hn⟩
        obtain ⟨b, rfl⟩ : ∃ b : Nat, m = (b : Int) := ⟨m.toNat, hm⟩
        have hv0 : VN p a T fo := hv0
        have hw0 : VN q b S go := hw0
        rw [decide_eq_false (PR_c h2)]; exact c_l10Is_c hv0 hw0 h2
    · obtain ⟨hv0, hn⟩ := VN_of hT hf h0
      obtain ⟨a, rfl⟩ : ∃ a : Nat, n = (a : Int) := ⟨n.toNat, hn⟩
      have hv0 : VN p a T fo := hv0
      rw [decide_eq_false (PR_b h1)]; exact c_l10Is_b hv0 hS hg h1
  · rw [decide_eq_false (PR_a h0)]; exact c_l10Is_a hT hf h0
theorem c_IsPair {p n q m : Int} {T S : Nat → Nat → Nat → Int} {fo go : Nat → Int} {Y : Nat → Nat → Int} (hT : RB T) (hf : RV fo) (hS : RB S) (hg : RV go) (hY : ∀ i, RV (Y i)) : ACalls Try.prog TB 35 [prA p n T fo q m S go Y] (.bool (decide (PR p n T fo q m S go Y))) [] := by
  by_cases h0 : VA p n T fo
  · by_cases h1 : VA q m S go
    · by_cases h2 : p = q
      · subst h2
        obtain ⟨hv0, hn⟩ := VN_of hT hf h0
        obtain ⟨hw0, hm⟩ := VN_of hS hg h1
        obtain ⟨a, rfl⟩ : ∃ a : Nat, n = (a : Int) := ⟨n.toNat, hn⟩
        obtain ⟨b, rfl⟩ : ∃ b : Nat, m = (b : Int) := ⟨m.toNat, hm⟩
        have hv0 : VN p a T fo := hv0
        have hw0 : VN p b S go := hw0
        by_cases h3 : comN a T
        · by_cases h4 : rankT p a T fo = a
          · by_cases h5 : rankT p b S go = b
            · by_cases h6 : symA b (formT p S go)
              · have e : PR p (a : Int) T fo p (b : Int) S go Y ↔ prI p a b T S Y := PR_iff.trans ⟨fun z => (pr_iff hv0 hw0).2 z.z, fun z => ⟨hv0, hw0, h3, h4, h5, h6, (pr_iff hv0 hw0).1 z⟩⟩
                rw [decide_eq_decide.2 e]
                exact c_IsPair_ok hv0 hw0 h3 h4 h5 h6 (fun i => (hY i).b)
              · rw [decide_eq_false (fun z => h6 (PR_iff.1 z).y)]; exact c_IsPair_g hv0 hw0 h3 h4 h5 h6
            · rw [decide_eq_false (fun z => h5 (PR_iff.1 z).s)]; exact c_IsPair_f hv0 hw0 h3 h4 h5
          · rw [decide_eq_false (fun z => h4 (PR_iff.1 z).r)]; exact c_IsPair_e hv0 hw0 h3 h4
        · rw [decide_eq_false (fun z => h3 (PR_iff.1 z).c)]; exact c_IsPair_d hv0 hw0 h3
      · obtain ⟨hv0, hn⟩ := VN_of hT hf h0
        obtain ⟨hw0, hm⟩ := VN_of hS hg h1
        obtain ⟨a, rfl⟩ : ∃ a : Nat, n = (a : Int) := ⟨n.toNat, hn⟩
        obtain ⟨b, rfl⟩ : ∃ b : Nat, m = (b : Int) := ⟨m.toNat, hm⟩
        have hv0 : VN p a T fo := hv0
        have hw0 : VN q b S go := hw0
        rw [decide_eq_false (PR_c h2)]; exact c_IsPair_c hv0 hw0 h2
    · obtain ⟨hv0, hn⟩ := VN_of hT hf h0
      obtain ⟨a, rfl⟩ : ∃ a : Nat, n = (a : Int) := ⟨n.toNat, hn⟩
      have hv0 : VN p a T fo := hv0
      rw [decide_eq_false (PR_b h1)]; exact c_IsPair_b hv0 hS hg h1
  · rw [decide_eq_false (PR_a h0)]; exact c_IsPair_a hT hf h0
end Go.Am

set_option linter.unusedVariables false
set_option linter.unusedSimpArgs false
set_option maxRecDepth 4000
namespace Go.Am
attribute [local irreducible] retQ retQp
open Go.Proofs
theorem c_l10Unzip {p : Int} {n m : Nat} {T S : Nat → Nat → Nat → Int} {fo go : Nat → Int} {Y : Nat → Nat → Int} (hP : PN p n T fo m S go Y) (hY : ∀ i, RV (Y i)) {v : Nat → Int} (hv8 : B8 v) : ACalls Try.prog TB 82 [prA p (n : Int) T fo p (m : Int) S go Y, vecA v] (vecA (uzV p n T fo m S go Y v)) [] := by
  have hp8 := hP.v.p0
  have hn6 := hP.v.n6
  have hm6 := hP.w.n6
  have hY8 : ∀ i, B8 (Y i) := fun i => (hY i).b
  have hr := hP.r
  have hCB : ∀ r, Bp p ((cpM p n (formT p T fo)) r) := fun r => cpM_Bp hP.v.hp (fun i => formT_Bp (by omega) i) hr r
  have hOB : ∀ i, 0 ≤ (uzO p m S go Y v) i ∧ (uzO p m S go Y v) i < p := fun i => formF_bd (by omega) _ _
  refine acalls_of tokTB Try.func82 rfl rfl (Nat.le_of_ble_eq_true rfl) ?_
  apply sr tokTB (by kernel_rfl)
  · intro RR hRR
    refine w_boxc (HV.eq (by constructor)) (by exact trivial) ?_
    refine w_boxc (HV.eq (by constructor)) (by exact trivial) ?_
    refine w_alloc kn32 rfl zr32 ?_
    exact hRR
  apply sdX tokTB mixed [1, 1, 1] (by kernel_rfl) (by kernel_rfl)
  · intro RR hRR
    show WOps _ _ _ _ _ _ _
    refine w_fac rfl und54 rfl kn34 nz34 (by decide) rfl (by constructor) ?_
    show LoadC Try.prog TB _ _ _
    refine wx_ldc rfl kn34 (by constructor) (by exact sz34.symm) (by exact ag34.symm) ?_
    show WOps _ _ _ _ _ _ _
    refine w_fac rfl und54 rfl kn34 nz34 (by decide) rfl (by constructor) ?_
    show LoadC Try.prog TB _ _ _
    refine wx_ldc rfl kn34 (by constructor) (by exact sz34.symm) (by exact ag34.symm) ?_
    show WOps _ _ _ _ _ _ _
    refine w_fac rfl und54 rfl kn34 nz34 (by decide) rfl (by constructor) ?_
    show LoadC Try.prog TB _ _ _
    refine wx_ldc rfl kn34 (by constructor) (by exact sz34.symm) (by exact ag34.symm) ?_
    show WOps _ _ _ _ _ _ _
    refine w_callc rfl (ec exn) (c_l02Copairing hP.v hr) (by exact closed_rows) (by exact ⟨closed_alg, trivial⟩) ?_
    refine w_alloc kn34 rfl zr34 ?_
    refine w_alloc kn34 rfl zr34 ?_
    refine w_stw rfl (by constructor) kn34 rfl (by exact trivial) (sx) (by exact sz34.symm) ?_
    refine w_stw rfl (by constructor) kn34 rfl (by exact trivial) (sx) (by exact sz34.symm) ?_
    refine w_assign (by constructor) ?_
    exact hRR
  refine snd_emb (ρ := ρ0) (env2 := [(2, .cptr (prA p (n : Int) T fo p (m : Int) S go Y)), (3, .cptr (vecA v)), (4, .ptr 4 0 [] 0 (vecA (fun _ => 0))), (5, .cptr (algA p (n : Int) T fo)), (6, .cptr (algA p (m : Int) S go)), (7, rowsA n n (cpM p n (formT p T fo)))]) (ol2 := [(4, .one (vecA (fun _ => 0)) (vecA (fun _ => 0)))]) ?_ ?_
  · exact ⟨⟨m_cpr, m_cvec (fun _ _ => rfl), ⟨rfl, rfl, rfl, rfl, rfl⟩, ⟨⟨ne_fst rfl, trivial⟩, m_alg⟩, ⟨⟨ne_fst rfl, trivial⟩, m_alg⟩, mt_rows (fun _ _ _ _ => rfl), trivial⟩, ⟨⟨rfl, ssh_vec, mt_vec (fun _ _ => rfl)⟩, trivial⟩, ⟨⟨fun _ => ⟨rfl, rfl⟩, trivial⟩, trivial⟩⟩
  apply sr tokTB (by kernel_rfl)
  · intro RR hRR
    refine w_bld_a kn32 zr32 und32 kn5 (fun _ => (by exact sz5.symm)) trivial rfl (by exact sz5.symm) ?_
    refine w_alloc kn32 rfl zr32 ?_
    refine w_stw rfl (by constructor) kn32 rfl (by exact trivial) (sx) (by exact sz32.symm) ?_
    exact hRR
  refine snd_seq ?_
  apply sr tokTB (by kernel_rfl)
  · intro RR hRR
    refine w_assign (by constructor) ?_
    exact hRR
  refine snd_block ?_
  refine snd_loop (S := Nat) (fun i => ([(2, .cptr (prA p (n : Int) T fo p (m : Int) S go Y)), (3, .cptr (vecA v)), (4, .ptr 4 0 [] 0 (vecA (fun _ => 0))), (5, .cptr (algA p (n : Int) T fo)), (6, .cptr (algA p (m : Int) S go)), (7, rowsA n n (cpM p n (formT p T fo))), (8, .ptr 8 0 [] 0 (vecA (fun _ => 0))), (9, .int .i64 (i : Int))], [(4, .one (vecA (fun _ => 0)) (vecA (fun _ => 0))), (8, .one (vecA (fun _ => 0)) (vecA (us1 p n (cpM p n (formT p T fo)) (uzO p m S go Y v) (i))))])) (fun i => i ≤ n) (fun i => n - i) (0) ρ0 ?_ ?_ ?_
  · exact ⟨⟨m_cpr, (m_cvec (fun _ _ => rfl)), ⟨rfl, rfl, rfl, rfl, rfl⟩, m_calg, m_calg, (mt_rows (V := _) (fun _ _ _ _ => rfl)), ⟨rfl, rfl, rfl, rfl, rfl⟩, (mi), trivial⟩, ⟨⟨rfl, (sx), (by first | exact mt_vec (fun _ _ => rfl) | exact mt_mat (fun _ _ _ _ => rfl) | exact mt_tab (fun _ _ _ _ _ _ => rfl) | exact mt_arr0 | exact mt_app (fun _ _ => rfl) rfl | exact ⟨rfl, fun _ _ => mt_row (fun _ _ => rfl)⟩ | exact Mt_closed (V := _) closed_alg (fun _ _ _ => trivial) (by simp))⟩, ⟨rfl, (sx), (by first | exact mt_vec (fun _ _ => rfl) | exact mt_mat (fun _ _ _ _ => rfl) | exact mt_tab (fun _ _ _ _ _ _ => rfl) | exact mt_arr0 | exact mt_app (fun _ _ => rfl) rfl | exact ⟨rfl, fun _ _ => mt_row (fun _ _ => rfl)⟩ | exact Mt_closed (V := _) closed_alg (fun _ _ _ => trivial) (by simp))⟩, trivial⟩, ⟨⟨(fun h => by first | exact ⟨rfl, rfl⟩ | exact absurd h (by decide)), (fun h => by first | exact ⟨rfl, rfl⟩ | exact absurd h (by decide)), trivial⟩, ⟨(fun h => by first | exact ⟨rfl, rfl⟩ | exact absurd h (by decide)), (fun h => by first | exact ⟨rfl, rfl⟩ | exact absurd h (by decide)), trivial⟩, trivial⟩⟩
  · exact Nat.zero_le _
  intro i hi0
  refine sq (env2 := [(2, .cptr (prA p (n : Int) T fo p (m : Int) S go Y)), (3, .cptr (vecA v)), (4, .ptr 4 0 [] 0 (vecA (fun _ => 0))), (5, .cptr (algA p (n : Int) T fo)), (6, .cptr (algA p (m : Int) S go)), (7, rowsA n n (cpM p n (formT p T fo))), (8, .ptr 8 0 [] 0 (vecA (fun _ => 0))), (9, .int .i64 (i : Int))]) (ol2 := [(4, .one (vecA (fun _ => 0)) (vecA (fun _ => 0))), (8, .one (vecA (fun _ => 0)) (vecA (us1 p n (cpM p n (formT p T fo)) (uzO p m S go Y v) (i))))]) rfl rfl ?_
  refine snd_seq ?_
  apply sr tokTB (by kernel_rfl)
  · intro RR hRR
    refine w_move (by constructor) ?_
    refine w_fac rfl und34 rfl kn2 nz2 (by decide) rfl (by constructor) ?_
    refine w_ldc rfl kn2 (by constructor) (by exact sz2.symm) (by exact ag2.symm) ?_
    refine w_lss rfl rfl ?_
    exact hRR
  refine snd_cond _ rfl (fun hc23 => ?_) (fun hc23 => ?_)
  · try simp only [hcs] at hc23
    have lt_i : i < n := by omega
    refine snd_skip ?_
    refine snd_seq ?_
    refine snd_block ?_
    apply sd tokTB mixed (by kernel_rfl) (by kernel_rfl)
    · intro RR hRR
      refine w_ldc rfl kn34 (by constructor) (by exact sz34.symm) (by exact ag34.symm) ?_
      refine w_ldc rfl kn34 (by constructor) (by exact sz34.symm) (by exact ag34.symm) ?_
      refine w_ldc rfl kn32 (by constructor) (by exact sz32.symm) (by exact ag32.symm) ?_
      refine w_move (by constructor) ?_
      refine w_fac rfl und54 rfl kn52 nz52 (by decide) rfl (by constructor) ?_
      refine w_iac rfl rfl und52 kn32 (by exact sz32.symm) ?_ rfl ?_
      · exact ⟨by omega, by omega⟩
      refine w_ldc rfl kn32 (by constructor) (by exact sz32.symm) (by exact ag32.symm) ?_
      refine y_call rfl (ec (ec (ec exn))) (c_l01Times (u := v) (v := Y i) (by omega) (by omega) hm6 hP.w.T8 hv8 (hY8 i)) ?_
      refine y_call rfl (ec (ec exn)) (c_l01Form (v := timesF p m S v (Y i)) (by omega) hP.w.f8 (timesF_B8 (by omega) (by omega))) ?_
      refine w_assign (by constructor) ?_
      exact hRR
    apply sr tokTB (by kernel_rfl)
    · intro RR hRR
      refine w_assign (by constructor) ?_
      exact hRR
    refine snd_block ?_
    refine snd_loop (S := Nat) (fun j => ([(2, .cptr (prA p (n : Int) T fo p (m : Int) S go Y)), (3, .cptr (vecA v)), (4, .ptr 4 0 [] 0 (vecA (fun _ => 0))), (5, .cptr (algA p (n : Int) T fo)), (6, .cptr (algA p (m : Int) S go)), (7, rowsA n n (cpM p n (formT p T fo))), (8, .ptr 8 0 [] 0 (vecA (fun _ => 0))), (9, .int .i64 (i : Int)), (10, .int .i64 ((uzO p m S go Y v) i)), (11, .int .i64 (j : Int))], [(4, .one (vecA (fun _ => 0)) (vecA (fun _ => 0))), (8, .one (vecA (fun _ => 0)) (vecA (us2 p (cpM p n (formT p T fo)) (uzO p m S go Y v) i (us1 p n (cpM p n (formT p T fo)) (uzO p m S go Y v) i) j)))])) (fun j => j ≤ n) (fun j => n - j) (0) ρ0 ?_ ?_ ?_
    · exact ⟨⟨m_cpr, (m_cvec (fun _ _ => rfl)), ⟨rfl, rfl, rfl, rfl, rfl⟩, m_calg, m_calg, (mt_rows (V := _) (fun _ _ _ _ => rfl)), ⟨rfl, rfl, rfl, rfl, rfl⟩, (mi), (mi), (mi), trivial⟩, ⟨⟨rfl, (sx), (by first | exact mt_vec (fun _ _ => rfl) | exact mt_mat (fun _ _ _ _ => rfl) | exact mt_tab (fun _ _ _ _ _ _ => rfl) | exact mt_arr0 | exact mt_app (fun _ _ => rfl) rfl | exact ⟨rfl, fun _ _ => mt_row (fun _ _ => rfl)⟩ | exact Mt_closed (V := _) closed_alg (fun _ _ _ => trivial) (by simp))⟩, ⟨rfl, (sx), (by first | exact mt_vec (fun _ _ => rfl) | exact mt_mat (fun _ _ _ _ => rfl) | exact mt_tab (fun _ _ _ _ _ _ => rfl) | exact mt_arr0 | exact mt_app (fun _ _ => rfl) rfl | exact ⟨rfl, fun _ _ => mt_row (fun _ _ => rfl)⟩ | exact Mt_closed (V := _) closed_alg (fun _ _ _ => trivial) (by simp))⟩, trivial⟩, ⟨⟨(fun h => by first | exact ⟨rfl, rfl⟩ | exact absurd h (by decide)), (fun h => by first | exact ⟨rfl, rfl⟩ | exact absurd h (by decide)), trivial⟩, ⟨(fun h => by first | exact ⟨rfl, rfl⟩ | exact absurd h (by decide)), (fun h => by first | exact ⟨rfl, rfl⟩ | exact absurd h (by decide)), trivial⟩, trivial⟩⟩
    · exact Nat.zero_le _
    intro j hi2
    refine sq (env2 := [(2, .cptr (prA p (n : Int) T fo p (m : Int) S go Y)), (3, .cptr (vecA v)), (4, .ptr 4 0 [] 0 (vecA (fun _ => 0))), (5, .cptr (algA p (n : Int) T fo)), (6, .cptr (algA p (m : Int) S go)), (7, rowsA n n (cpM p n (formT p T fo))), (8, .ptr 8 0 [] 0 (vecA (fun _ => 0))), (9, .int .i64 (i : Int)), (10, .int .i64 ((uzO p m S go Y v) i)), (11, .int .i64 (j : Int))]) (ol2 := [(4, .one (vecA (fun _ => 0)) (vecA (fun _ => 0))), (8, .one (vecA (fun _ => 0)) (vecA (us2 p (cpM p n (formT p T fo)) (uzO p m S go Y v) i (us1 p n (cpM p n (formT p T fo)) (uzO p m S go Y v) i) j)))]) rfl rfl ?_
    have hmb := (mul8 (x := (uzO p m S go Y v) i) (y := (cpM p n (formT p T fo)) i j) ⟨(hOB i).1, by have := (hOB i).2; omega⟩ ⟨(hCB i j).1, by have := (hCB i j).2; omega⟩)
    refine snd_seq ?_
    apply sr tokTB (by kernel_rfl)
    · intro RR hRR
      refine w_move (by constructor) ?_
      refine w_fac rfl und34 rfl kn2 nz2 (by decide) rfl (by constructor) ?_
      refine w_ldc rfl kn2 (by constructor) (by exact sz2.symm) (by exact ag2.symm) ?_
      refine w_lss rfl rfl ?_
      exact hRR
    refine snd_cond _ rfl (fun hc38 => ?_) (fun hc38 => ?_)
    · try simp only [hcs] at hc38
      have lt_j : j < n := by omega
      refine snd_skip ?_
      refine snd_seq ?_
      refine snd_block ?_
      apply ld tokTB mixed (by kernel_rfl) (by kernel_rfl)
      · intro RR hRR
        refine w_fac rfl und34 rfl kn2 nz2 (by decide) rfl (by constructor) ?_
        refine w_ldc rfl kn2 (by constructor) (by exact sz2.symm) (by exact ag2.symm) ?_
        refine w_ldp rfl kn32 rfl (by constructor) (by exact sz32.symm) (by exact ag32.symm) ?_
        refine w_move (by constructor) ?_
        refine y_call rfl (ec exn) (c_l01Basis (i := j) (by omega)) ?_
        refine w_move (by constructor) ?_
        refine w_move (by constructor) ?_
        refine w_move (by constructor) ?_
        refine w_iar rfl rfl und78 kn27 (by exact sz27.symm) ?_ rfl ?_
        · exact ⟨by omega, by omega⟩
        first | refine w_ldc rfl kn27 (by constructor) (by exact sz27.symm) (by exact ag27.symm) ?_ | refine w_ldp rfl kn27 rfl (by constructor) (by exact sz27.symm) (by exact ag27.symm) ?_
        refine w_move (by constructor) ?_
        refine w_iar rfl rfl und27 kn2 (by exact sz2.symm) ?_ rfl ?_
        · exact ⟨by omega, by omega⟩
        first | refine w_ldc rfl kn2 (by constructor) (by exact sz2.symm) (by exact ag2.symm) ?_ | refine w_ldp rfl kn2 rfl (by constructor) (by exact sz2.symm) (by exact ag2.symm) ?_
        refine w_mul rfl rfl (by exact w64 (n := (uzO p m S go Y v) i * (cpM p n (formT p T fo)) i j) (by omega) (by omega)) ?_
        refine y_call rfl (ec (ec (ec (ec exn)))) (c_l01Add (u := us2 p (cpM p n (formT p T fo)) (uzO p m S go Y v) i (us1 p n (cpM p n (formT p T fo)) (uzO p m S go Y v) i) j) (v := eF j) (k := (uzO p m S go Y v) i * (cpM p n (formT p T fo)) i j) hp8 (B8_of (by omega) (us2_Bp (by omega) (us1_Bp (by omega) i) j)) (eF_B8 j) (by omega)) ?_
        refine w_stw rfl (by constructor) kn32 rfl (by exact trivial) (sx) (by exact sz32.symm) ?_
        exact hRR
      apply lr tokTB (by kernel_rfl)
      · intro RR hRR
        refine w_move (by constructor) ?_
        refine y_add rfl rfl ?_
        refine w_assign (by constructor) ?_
        exact hRR
      refine ⟨j + 1, ρ0, ?_, (by omega), (by dsimp only; omega)⟩
      exact ⟨⟨m_cpr, (m_cvec (fun _ _ => rfl)), ⟨rfl, rfl, rfl, rfl, rfl⟩, m_calg, m_calg, (mt_rows (V := _) (fun _ _ _ _ => rfl)), ⟨rfl, rfl, rfl, rfl, rfl⟩, (mi), (mi), (mi), trivial⟩, ⟨⟨rfl, (sx), (by first | exact mt_vec (fun _ _ => rfl) | exact mt_mat (fun _ _ _ _ => rfl) | exact mt_tab (fun _ _ _ _ _ _ => rfl) | exact mt_arr0 | exact mt_app (fun _ _ => rfl) rfl | exact ⟨rfl, fun _ _ => mt_row (fun _ _ => rfl)⟩ | exact Mt_closed (V := _) closed_alg (fun _ _ _ => trivial) (by simp))⟩, ⟨rfl, (sx), (by first | exact mt_vec (fun _ _ => rfl) | exact mt_mat (fun _ _ _ _ => rfl) | exact mt_tab (fun _ _ _ _ _ _ => rfl) | exact mt_arr0 | exact mt_app (fun _ _ => rfl) rfl | exact ⟨rfl, fun _ _ => mt_row (fun _ _ => rfl)⟩ | exact Mt_closed (V := _) closed_alg (fun _ _ _ => trivial) (by simp))⟩, trivial⟩, ⟨⟨(fun h => by first | exact ⟨rfl, rfl⟩ | exact absurd h (by decide)), (fun h => by first | exact ⟨rfl, rfl⟩ | exact absurd h (by decide)), trivial⟩, ⟨(fun h => by first | exact ⟨rfl, rfl⟩ | exact absurd h (by decide)), (fun h => by first | exact ⟨rfl, rfl⟩ | exact absurd h (by decide)), trivial⟩, trivial⟩⟩
    · try simp only [hcs] at hc38
      have ge_j : n = j := by omega
      subst ge_j
      refine snd_exit ?_
      apply lr tokTB (by kernel_rfl)
      · intro RR hRR
        refine w_move (by constructor) ?_
        refine y_add rfl rfl ?_
        refine w_assign (by constructor) ?_
        exact hRR
      refine ⟨i + 1, ρ0, ?_, (by omega), (by dsimp only; omega)⟩
      exact ⟨⟨m_cpr, (m_cvec (fun _ _ => rfl)), ⟨rfl, rfl, rfl, rfl, rfl⟩, m_calg, m_calg, (mt_rows (V := _) (fun _ _ _ _ => rfl)), ⟨rfl, rfl, rfl, rfl, rfl⟩, (mi), trivial⟩, ⟨⟨rfl, (sx), (by first | exact mt_vec (fun _ _ => rfl) | exact mt_mat (fun _ _ _ _ => rfl) | exact mt_tab (fun _ _ _ _ _ _ => rfl) | exact mt_arr0 | exact mt_app (fun _ _ => rfl) rfl | exact ⟨rfl, fun _ _ => mt_row (fun _ _ => rfl)⟩ | exact Mt_closed (V := _) closed_alg (fun _ _ _ => trivial) (by simp))⟩, ⟨rfl, (sx), (by first | exact mt_vec (fun _ _ => rfl) | exact mt_mat (fun _ _ _ _ => rfl) | exact mt_tab (fun _ _ _ _ _ _ => rfl) | exact mt_arr0 | exact mt_app (fun _ _ => rfl) rfl | exact ⟨rfl, fun _ _ => mt_row (fun _ _ => rfl)⟩ | exact Mt_closed (V := _) closed_alg (fun _ _ _ => trivial) (by simp))⟩, trivial⟩, ⟨⟨(fun h => by first | exact ⟨rfl, rfl⟩ | exact absurd h (by decide)), (fun h => by first | exact ⟨rfl, rfl⟩ | exact absurd h (by decide)), trivial⟩, ⟨(fun h => by first | exact ⟨rfl, rfl⟩ | exact absurd h (by decide)), (fun h => by first | exact ⟨rfl, rfl⟩ | exact absurd h (by decide)), trivial⟩, trivial⟩⟩
  · try simp only [hcs] at hc23
    have ge_i : n = i := by omega
    subst ge_i
    refine snd_exit ?_
    apply sr tokTB (by kernel_rfl)
    · intro RR hRR
      refine w_ldp rfl kn32 rfl (by constructor) (by exact sz32.symm) (by exact ag32.symm) ?_
      refine w_stw rfl (by constructor) kn32 rfl (by exact trivial) (sx) (by exact sz32.symm) ?_
      exact hRR
    refine snd_ret ?_
    exact rt_c (T := TB) rfl kn32 rfl sz32.symm ag32.symm (fun V => m_vec (fun j hj => rfl))
theorem c_unzip {p : Int} {n m : Nat} {T S : Nat → Nat → Nat → Int} {fo go : Nat → Int} {Y : Nat → Nat → Int} (hP : PN p n T fo m S go Y) (hY : ∀ i, RV (Y i)) {v : Nat → Int} (hv8 : B8 v) : ACalls Try.prog TB 84 [.cptr (prA p (n : Int) T fo p (m : Int) S go Y), vecA v] (vecA (uzV p n T fo m S go Y v)) [] := by
  have hp8 := hP.v.p0
  have hn6 := hP.v.n6
  have hm6 := hP.w.n6
  have hY8 : ∀ i, B8 (Y i) := fun i => (hY i).b
  have hr := hP.r
  have hCB : ∀ r, Bp p ((cpM p n (formT p T fo)) r) := fun r => cpM_Bp hP.v.hp (fun i => formT_Bp (by omega) i) hr r
  have hOB : ∀ i, 0 ≤ (uzO p m S go Y v) i ∧ (uzO p m S go Y v) i < p := fun i => formF_bd (by omega) _ _
  have huz := uz_both hP v
  refine acalls_of tokTB Try.func84 rfl rfl (Nat.le_of_ble_eq_true rfl) ?_
  apply sr tokTB (by kernel_rfl)
  · intro RR hRR
    refine w_boxc (HV.eq (by constructor)) (by exact trivial) ?_
    refine w_alloc kn32 rfl zr32 ?_
    exact hRR
  apply sr tokTB (by kernel_rfl)
  · intro RR hRR
    refine w_bld_a kn32 zr32 und32 kn5 (fun _ => (by exact sz5.symm)) trivial rfl (by exact sz5.symm) ?_
    refine w_alloc kn32 rfl zr32 ?_
    refine w_stw rfl (by constructor) kn32 rfl (by exact trivial) (sx) (by exact sz32.symm) ?_
    exact hRR
  refine snd_seq ?_
  apply sr tokTB (by kernel_rfl)
  · intro RR hRR
    refine w_move (by constructor) ?_
    refine w_nilc rfl ?_
    refine w_fac rfl und54 rfl kn34 nz34 (by decide) rfl (by constructor) ?_
    refine w_callc rfl (ec exn) (c_copairing hP.v hr) (by exact closed_rows) (by exact ⟨closed_calg, trivial⟩) ?_
    refine w_len_r rfl rfl und78 ?_
    refine w_move (by constructor) ?_
    exact hRR
  refine snd_block ?_
  refine snd_loop (S := Nat) (fun i => ([(0, .cptr (prA p (n : Int) T fo p (m : Int) S go Y)), (3, .cptr (vecA v)), (4, .ptr 4 0 [] 0 (vecA (fun _ => 0))), (5, .ptr 5 0 [] 0 (vecA (fun _ => 0))), (14, rowsA n n (cpM p n (formT p T fo))), (15, .int .i64 (n : Int)), (16, .int .i64 (i : Int))], [(4, .one (vecA (fun _ => 0)) (vecA (fun _ => 0))), (5, .one (vecA (fun _ => 0)) (vecA (ui1 p n (cpM p n (formT p T fo)) (uzO p m S go Y v) (i))))])) (fun i => i ≤ n) (fun i => n - i) (0) ρ0 ?_ ?_ ?_
  · exact ⟨⟨m_cpr, (m_cvec (fun _ _ => rfl)), ⟨rfl, rfl, rfl, rfl, rfl⟩, ⟨rfl, rfl, rfl, rfl, rfl⟩, (mt_rows (V := _) (fun _ _ _ _ => rfl)), (mi), (mi), trivial⟩, ⟨⟨rfl, (sx), (by first | exact mt_vec (fun _ _ => rfl) | exact mt_mat (fun _ _ _ _ => rfl) | exact mt_tab (fun _ _ _ _ _ _ => rfl) | exact mt_arr0 | exact mt_app (fun _ _ => rfl) rfl | exact ⟨rfl, fun _ _ => mt_row (fun _ _ => rfl)⟩ | exact Mt_closed (V := _) closed_alg (fun _ _ _ => trivial) (by simp))⟩, ⟨rfl, (sx), (by first | exact mt_vec (fun _ _ => rfl) | exact mt_mat (fun _ _ _ _ => rfl) | exact mt_tab (fun _ _ _ _ _ _ => rfl) | exact mt_arr0 | exact mt_app (fun _ _ => rfl) rfl | exact ⟨rfl, fun _ _ => mt_row (fun _ _ => rfl)⟩ | exact Mt_closed (V := _) closed_alg (fun _ _ _ => trivial) (by simp))⟩, trivial⟩, ⟨⟨(fun h => by first | exact ⟨rfl, rfl⟩ | exact absurd h (by decide)), (fun h => by first | exact ⟨rfl, rfl⟩ | exact absurd h (by decide)), trivial⟩, ⟨(fun h => by first | exact ⟨rfl, rfl⟩ | exact absurd h (by decide)), (fun h => by first | exact ⟨rfl, rfl⟩ | exact absurd h (by decide)), trivial⟩, trivial⟩⟩
  · exact Nat.zero_le _
  intro i hi0
  refine sq (env2 := [(0, .cptr (prA p (n : Int) T fo p (m : Int) S go Y)), (3, .cptr (vecA v)), (4, .ptr 4 0 [] 0 (vecA (fun _ => 0))), (5, .ptr 5 0 [] 0 (vecA (fun _ => 0))), (14, rowsA n n (cpM p n (formT p T fo))), (15, .int .i64 (n : Int)), (16, .int .i64 (i : Int))]) (ol2 := [(4, .one (vecA (fun _ => 0)) (vecA (fun _ => 0))), (5, .one (vecA (fun _ => 0)) (vecA (ui1 p n (cpM p n (formT p T fo)) (uzO p m S go Y v) (i))))]) rfl rfl ?_
  apply sr tokTB (by kernel_rfl)
  · intro RR hRR
    refine w_lss rfl rfl ?_
    exact hRR
  refine snd_seq ?_
  refine snd_cond _ rfl (fun hc17 => ?_) (fun hc17 => ?_)
  · try simp only [hcs] at hc17
    have lt_i : i < n := by omega
    refine snd_skip ?_
    refine snd_seq ?_
    refine snd_block ?_
    apply sr tokTB (by kernel_rfl)
    · intro RR hRR
      refine w_move (by constructor) ?_
      refine w_iar rfl rfl und78 kn27 (by exact sz27.symm) ?_ rfl ?_
      · exact ⟨by omega, by omega⟩
      first | refine w_ldc rfl kn27 (by constructor) (by exact sz27.symm) (by exact ag27.symm) ?_ | refine w_ldp rfl kn27 rfl (by constructor) (by exact sz27.symm) (by exact ag27.symm) ?_
      refine w_assign (by constructor) ?_
      refine w_assign (by constructor) ?_
      exact hRR
    apply sr tokTB (by kernel_rfl)
    · intro RR hRR
      refine w_move (by constructor) ?_
      refine w_len_r rfl rfl und27 ?_
      refine w_move (by constructor) ?_
      exact hRR
    refine snd_block ?_
    refine snd_loop (S := Nat) (fun j => ([(0, .cptr (prA p (n : Int) T fo p (m : Int) S go Y)), (3, .cptr (vecA v)), (4, .ptr 4 0 [] 0 (vecA (fun _ => 0))), (5, .ptr 5 0 [] 0 (vecA (fun _ => 0))), (6, .int .i64 (i : Int)), (14, rowsA n n (cpM p n (formT p T fo))), (15, .int .i64 (n : Int)), (16, .int .i64 (i : Int)), (21, rowA n ((cpM p n (formT p T fo)) i)), (22, .int .i64 (n : Int)), (23, .int .i64 (j : Int))], [(4, .one (vecA (fun _ => 0)) (vecA (fun _ => 0))), (5, .one (vecA (fun _ => 0)) (vecA (ui2 p (cpM p n (formT p T fo)) (uzO p m S go Y v) i (ui1 p n (cpM p n (formT p T fo)) (uzO p m S go Y v) i) j)))])) (fun j => j ≤ n) (fun j => n - j) (0) ρ0 ?_ ?_ ?_
    · exact ⟨⟨m_cpr, (m_cvec (fun _ _ => rfl)), ⟨rfl, rfl, rfl, rfl, rfl⟩, ⟨rfl, rfl, rfl, rfl, rfl⟩, (mi), (mt_rows (V := _) (fun _ _ _ _ => rfl)), (mi), (mi), (by first | exact mt_row (V := _) (fun _ _ => rfl) | exact mt_fz (by exact ⟨(ne_fst rfl), (ne_fst rfl), trivial⟩) rfl (fun _ _ => rfl)), (mi), (mi), trivial⟩, ⟨⟨rfl, (sx), (by first | exact mt_vec (fun _ _ => rfl) | exact mt_mat (fun _ _ _ _ => rfl) | exact mt_tab (fun _ _ _ _ _ _ => rfl) | exact mt_arr0 | exact mt_app (fun _ _ => rfl) rfl | exact ⟨rfl, fun _ _ => mt_row (fun _ _ => rfl)⟩ | exact Mt_closed (V := _) closed_alg (fun _ _ _ => trivial) (by simp))⟩, ⟨rfl, (sx), (by first | exact mt_vec (fun _ _ => rfl) | exact mt_mat (fun _ _ _ _ => rfl) | exact mt_tab (fun _ _ _ _ _ _ => rfl) | exact mt_arr0 | exact mt_app (fun _ _ => rfl) rfl | exact ⟨rfl, fun _ _ => mt_row (fun _ _ => rfl)⟩ | exact Mt_closed (V := _) closed_alg (fun _ _ _ => trivial) (by simp))⟩, trivial⟩, ⟨⟨(fun h => by first | exact ⟨rfl, rfl⟩ | exact absurd h (by decide)), (fun h => by first | exact ⟨rfl, rfl⟩ | exact absurd h (by decide)), trivial⟩, ⟨(fun h => by first | exact ⟨rfl, rfl⟩ | exact absurd h (by decide)), (fun h => by first | exact ⟨rfl, rfl⟩ | exact absurd h (by decide)), trivial⟩, trivial⟩⟩
    · exact Nat.zero_le _
    intro j hi2
    refine sq (env2 := [(0, .cptr (prA p (n : Int) T fo p (m : Int) S go Y)), (3, .cptr (vecA v)), (4, .ptr 4 0 [] 0 (vecA (fun _ => 0))), (5, .ptr 5 0 [] 0 (vecA (fun _ => 0))), (6, .int .i64 (i : Int)), (14, rowsA n n (cpM p n (formT p T fo))), (15, .int .i64 (n : Int)), (16, .int .i64 (i : Int)), (21, rowA n ((cpM p n (formT p T fo)) i)), (22, .int .i64 (n : Int)), (23, .int .i64 (j : Int))]) (ol2 := [(4, .one (vecA (fun _ => 0)) (vecA (fun _ => 0))), (5, .one (vecA (fun _ => 0)) (vecA (ui2 p (cpM p n (formT p T fo)) (uzO p m S go Y v) i (ui1 p n (cpM p n (formT p T fo)) (uzO p m S go Y v) i) j)))]) rfl rfl ?_
    have hmb := (mul8 (x := (cpM p n (formT p T fo)) i j) (y := (uzO p m S go Y v) j) ⟨(hCB i j).1, by have := (hCB i j).2; omega⟩ ⟨(hOB j).1, by have := (hOB j).2; omega⟩)
    have hmd : 0 ≤ ((cpM p n (formT p T fo)) i j * (uzO p m S go Y v) j) % p ∧ ((cpM p n (formT p T fo)) i j * (uzO p m S go Y v) j) % p < p := ⟨Int.emod_nonneg _ (by omega), Int.emod_lt_of_pos _ (by omega)⟩
    apply sr tokTB (by kernel_rfl)
    · intro RR hRR
      refine w_lss rfl rfl ?_
      exact hRR
    refine snd_seq ?_
    refine snd_cond _ rfl (fun hc24 => ?_) (fun hc24 => ?_)
    · try simp only [hcs] at hc24
      have lt_j : j < n := by omega
      refine snd_skip ?_
      refine snd_seq ?_
      refine snd_block ?_
      apply sr tokTB (by kernel_rfl)
      · intro RR hRR
        refine w_move (by constructor) ?_
        refine w_iar rfl rfl und27 kn2 (by exact sz2.symm) ?_ rfl ?_
        · exact ⟨by omega, by omega⟩
        first | refine w_ldc rfl kn2 (by constructor) (by exact sz2.symm) (by exact ag2.symm) ?_ | refine w_ldp rfl kn2 rfl (by constructor) (by exact sz2.symm) (by exact ag2.symm) ?_
        refine w_assign (by constructor) ?_
        refine w_assign (by constructor) ?_
        exact hRR
      apply sr tokTB (by kernel_rfl)
      · intro RR hRR
        refine w_move (by constructor) ?_
        refine w_neq rfl rfl ?_
        exact hRR
      refine snd_cond _ rfl (fun hc29 => ?_) (fun hc29 => ?_)
      · skip
        apply ld tokTB mixed (by kernel_rfl) (by kernel_rfl)
        · intro RR hRR
          refine w_move (by constructor) ?_
          refine w_nilc rfl ?_
          refine w_fac rfl und54 rfl kn34 nz34 (by decide) rfl (by constructor) ?_
          refine w_ldp rfl kn32 rfl (by constructor) (by exact sz32.symm) (by exact ag32.symm) ?_
          refine w_move (by constructor) ?_
          refine y_call rfl (ec exn) (c_basis (i := i) (by omega)) ?_
          refine w_move (by constructor) ?_
          refine w_move (by constructor) ?_
          refine w_nilc rfl ?_
          refine w_fac rfl und54 rfl kn34 nz34 (by decide) rfl (by constructor) ?_
          refine w_move (by constructor) ?_
          refine w_nilc rfl ?_
          refine w_fac rfl und54 rfl kn34 nz34 (by decide) rfl (by constructor) ?_
          refine w_ldc rfl kn32 (by constructor) (by exact sz32.symm) (by exact ag32.symm) ?_
          refine w_move (by constructor) ?_
          refine w_move (by constructor) ?_
          refine w_nilc rfl ?_
          refine w_fac rfl und54 rfl kn52 nz52 (by decide) rfl (by constructor) ?_
          refine w_iac rfl rfl und52 kn32 (by exact sz32.symm) ?_ rfl ?_
          · exact ⟨by omega, by omega⟩
          refine w_ldc rfl kn32 (by constructor) (by exact sz32.symm) (by exact ag32.symm) ?_
          refine y_call rfl (ec (ec (ec exn))) (c_times (u := v) (v := Y j) (by omega) (by omega) hm6 hP.w.T8 hv8 (hY8 j)) ?_
          refine y_call rfl (ec (ec exn)) (c_form (v := timesF p m S v (Y j)) (by omega) hP.w.f8 (timesF_B8 (by omega) (by omega))) ?_
          refine w_mul rfl rfl (by exact w64 (n := (cpM p n (formT p T fo)) i j * (uzO p m S go Y v) j) (by omega) (by omega)) ?_
          refine w_move (by constructor) ?_
          refine w_nilc rfl ?_
          refine w_fac rfl und54 rfl kn34 nz34 (by decide) rfl (by constructor) ?_
          refine w_fac rfl und34 rfl kn2 nz2 (by decide) rfl (by constructor) ?_
          refine w_ldc rfl kn2 (by constructor) (by exact sz2.symm) (by exact ag2.symm) ?_
          refine w_rem rfl rfl (by omega) ?_
          rw [show Int.tmod ((cpM p n (formT p T fo)) i j * (uzO p m S go Y v) j) p = ((cpM p n (formT p T fo)) i j * (uzO p m S go Y v) j) % p from tmod_nn hmb.1]
          refine y_call rfl (ec (ec (ec (ec exn)))) (c_add (u := ui2 p (cpM p n (formT p T fo)) (uzO p m S go Y v) i (ui1 p n (cpM p n (formT p T fo)) (uzO p m S go Y v) i) j) (v := eF i) (k := (cpM p n (formT p T fo)) i j * (uzO p m S go Y v) j % p) hp8 (B8_of (by omega) (ui2_Bp (by omega) (ui1_Bp (by omega) i) j)) (eF_B8 i) (by omega)) ?_
          refine w_stw rfl (by constructor) kn32 rfl (by exact trivial) (sx) (by exact sz32.symm) ?_
          exact hRR
        apply lr tokTB (by kernel_rfl)
        · intro RR hRR
          refine y_add rfl rfl ?_
          refine w_move (by constructor) ?_
          exact hRR
        refine ⟨j + 1, ρ0, ?_, (by omega), (by dsimp only; omega)⟩
        exact ⟨⟨m_cpr, (m_cvec (fun _ _ => rfl)), ⟨rfl, rfl, rfl, rfl, rfl⟩, ⟨rfl, rfl, rfl, rfl, rfl⟩, (mi), (mt_rows (V := _) (fun _ _ _ _ => rfl)), (mi), (mi), (by first | exact mt_row (V := _) (fun _ _ => rfl) | exact mt_fz (by exact ⟨(ne_fst rfl), (ne_fst rfl), trivial⟩) rfl (fun _ _ => rfl)), (mi), (mi), trivial⟩, ⟨⟨rfl, (sx), (by first | exact mt_vec (fun _ _ => rfl) | exact mt_mat (fun _ _ _ _ => rfl) | exact mt_tab (fun _ _ _ _ _ _ => rfl) | exact mt_arr0 | exact mt_app (fun _ _ => rfl) rfl | exact ⟨rfl, fun _ _ => mt_row (fun _ _ => rfl)⟩ | exact Mt_closed (V := _) closed_alg (fun _ _ _ => trivial) (by simp))⟩, ⟨rfl, (sx), (by exact mt_vec (fun _ _ => rfl))⟩, trivial⟩, ⟨⟨(fun h => by first | exact ⟨rfl, rfl⟩ | exact absurd h (by decide)), (fun h => by first | exact ⟨rfl, rfl⟩ | exact absurd h (by decide)), trivial⟩, ⟨(fun h => by first | exact ⟨rfl, rfl⟩ | exact absurd h (by decide)), (fun h => by first | exact ⟨rfl, rfl⟩ | exact absurd h (by decide)), trivial⟩, trivial⟩⟩
      · skip
        have hz0 : (cpM p n (formT p T fo)) i j = 0 := Classical.not_not.1 (of_decide_eq_false hc29)
        have hsk := ui2_skip (p := p) (o := (uzO p m S go Y v)) (i := j) (k := i) (C := (cpM p n (formT p T fo))) (u := ui1 p n (cpM p n (formT p T fo)) (uzO p m S go Y v) i) (by omega) (ui1_Bp (by omega) i) hz0
        refine snd_skip ?_
        apply lr tokTB (by kernel_rfl)
        · intro RR hRR
          refine y_add rfl rfl ?_
          refine w_move (by constructor) ?_
          exact hRR
        refine ⟨j + 1, ρ0, ?_, (by omega), (by dsimp only; omega)⟩
        exact ⟨⟨m_cpr, (m_cvec (fun _ _ => rfl)), ⟨rfl, rfl, rfl, rfl, rfl⟩, ⟨rfl, rfl, rfl, rfl, rfl⟩, (mi), (mt_rows (V := _) (fun _ _ _ _ => rfl)), (mi), (mi), (by first | exact mt_row (V := _) (fun _ _ => rfl) | exact mt_fz (by exact ⟨(ne_fst rfl), (ne_fst rfl), trivial⟩) rfl (fun _ _ => rfl)), (mi), (mi), trivial⟩, ⟨⟨rfl, (sx), (by first | exact mt_vec (fun _ _ => rfl) | exact mt_mat (fun _ _ _ _ => rfl) | exact mt_tab (fun _ _ _ _ _ _ => rfl) | exact mt_arr0 | exact mt_app (fun _ _ => rfl) rfl | exact ⟨rfl, fun _ _ => mt_row (fun _ _ => rfl)⟩ | exact Mt_closed (V := _) closed_alg (fun _ _ _ => trivial) (by simp))⟩, ⟨rfl, (sx), (by exact mt_vec (fun z _ => (congrFun hsk z).symm))⟩, trivial⟩, ⟨⟨(fun h => by first | exact ⟨rfl, rfl⟩ | exact absurd h (by decide)), (fun h => by first | exact ⟨rfl, rfl⟩ | exact absurd h (by decide)), trivial⟩, ⟨(fun h => by first | exact ⟨rfl, rfl⟩ | exact absurd h (by decide)), (fun h => by first | exact ⟨rfl, rfl⟩ | exact absurd h (by decide)), trivial⟩, trivial⟩⟩
    · try simp only [hcs] at hc24
      have ge_j : n = j := by omega
      subst ge_j
      refine snd_exit ?_
      apply lr tokTB (by kernel_rfl)
      · intro RR hRR
        refine y_add rfl rfl ?_
        refine w_move (by constructor) ?_
        exact hRR
      refine ⟨i + 1, ρ0, ?_, (by omega), (by dsimp only; omega)⟩
      exact ⟨⟨m_cpr, (m_cvec (fun _ _ => rfl)), ⟨rfl, rfl, rfl, rfl, rfl⟩, ⟨rfl, rfl, rfl, rfl, rfl⟩, (mt_rows (V := _) (fun _ _ _ _ => rfl)), (mi), (mi), trivial⟩, ⟨⟨rfl, (sx), (by first | exact mt_vec (fun _ _ => rfl) | exact mt_mat (fun _ _ _ _ => rfl) | exact mt_tab (fun _ _ _ _ _ _ => rfl) | exact mt_arr0 | exact mt_app (fun _ _ => rfl) rfl | exact ⟨rfl, fun _ _ => mt_row (fun _ _ => rfl)⟩ | exact Mt_closed (V := _) closed_alg (fun _ _ _ => trivial) (by simp))⟩, ⟨rfl, (sx), (by first | exact mt_vec (fun _ _ => rfl) | exact mt_mat (fun _ _ _ _ => rfl) | exact mt_tab (fun _ _ _ _ _ _ => rfl) | exact mt_arr0 | exact mt_app (fun _ _ => rfl) rfl | exact ⟨rfl, fun _ _ => mt_row (fun _ _ => rfl)⟩ | exact Mt_closed (V := _) closed_alg (fun _ _ _ => trivial) (by simp))⟩, trivial⟩, ⟨⟨(fun h => by first | exact ⟨rfl, rfl⟩ | exact absurd h (by decide)), (fun h => by first | exact ⟨rfl, rfl⟩ | exact absurd h (by decide)), trivial⟩, ⟨(fun h => by first | exact ⟨rfl, rfl⟩ | exact absurd h (by decide)), (fun h => by first | exact ⟨rfl, rfl⟩ | exact absurd h (by decide)), trivial⟩, trivial⟩⟩
  · try simp only [hcs] at hc17
    have ge_i : n = i := by omega
    subst ge_i
    refine snd_exit ?_
    apply sr tokTB (by kernel_rfl)
    · intro RR hRR
      refine w_ldp rfl kn32 rfl (by constructor) (by exact sz32.symm) (by exact ag32.symm) ?_
      refine w_stw rfl (by constructor) kn32 rfl (by exact trivial) (sx) (by exact sz32.symm) ?_
      exact hRR
    refine snd_ret ?_
    exact rt_c (T := TB) rfl kn32 rfl sz32.symm ag32.symm (fun V => m_vec (fun j hj => congrFun huz j))
theorem c_opened1 {p n q m : Int} {T S : Nat → Nat → Nat → Int} {fo go : Nat → Int} {Y : Nat → Nat → Int} {v : Nat → Int} (hv : B8 v) : ACalls Try.prog TB 121 [vecA v, .cptr (prA p n T fo q m S go Y)] (.bool (!decide (smP q m v))) [] := by
  refine acalls_of tokTB Try.func121 rfl rfl (Nat.le_of_ble_eq_true rfl) ?_
  apply sr tokTB (by kernel_rfl)
  · intro RR hRR
    refine w_boxc (HV.eq (by constructor)) (by exact trivial) ?_
    refine w_assign (by constructor) ?_
    exact hRR
  apply sr tokTB (by kernel_rfl)
  · intro RR hRR
    refine w_ldc rfl kn32 (by constructor) (by exact sz32.symm) (by exact ag32.symm) ?_
    refine w_fac rfl und54 rfl kn34 nz34 (by decide) rfl (by constructor) ?_
    refine w_fac rfl und34 rfl kn2 nz2 (by decide) rfl (by constructor) ?_
    refine w_ldc rfl kn2 (by constructor) (by exact sz2.symm) (by exact ag2.symm) ?_
    refine w_fac rfl und54 rfl kn34 nz34 (by decide) rfl (by constructor) ?_
    refine w_fac rfl und34 rfl kn2 nz2 (by decide) rfl (by constructor) ?_
    refine w_ldc rfl kn2 (by constructor) (by exact sz2.symm) (by exact ag2.symm) ?_
    refine y_call rfl (ec (ec (ec exn))) (c_isVector hv) ?_
    refine w_not rfl ?_
    refine w_assign (by constructor) ?_
    exact hRR
  refine snd_ret ?_
  exact rt (T := TB) (fun V => rfl)
theorem c_opened_ok {p : Int} {n m : Nat} {T S : Nat → Nat → Nat → Int} {fo go : Nat → Int} {Y : Nat → Nat → Int} (hP : PN p n T fo m S go Y) (hY : ∀ i, RV (Y i)) {M : Nat} {F : Nat → Nat → Int} (hM : M ≤ 16777216) (hF : ∀ i, B8 (F i)) (ha : (∀ i, i < M → smP p (m : Int) (F i))) : ACalls Try.prog TB 83 [prA p (n : Int) T fo p (m : Int) S go Y, vlA M F] (.int .i64 0) [] := by
  refine acalls_of tokTB Try.func83 rfl rfl (Nat.le_of_ble_eq_true rfl) ?_
  apply sr tokTB (by kernel_rfl)
  · intro RR hRR
    refine w_boxc (HV.eq (by constructor)) (by exact trivial) ?_
    refine w_assign (by constructor) ?_
    exact hRR
  refine snd_seq ?_
  apply srG (env' := (12, .bool false) :: (11, .any) :: (10, .any) :: (9, .any) :: (8, _) :: (7, _) :: (6, _) :: (5, _) :: _) tokTB (by kernel_rfl)
  · intro RR hRR
    refine w_ldc rfl kn54 (by constructor) (by exact sz54.symm) (by exact ag54.symm) ?_
    refine y_call rfl (exc exp_pr exn) (((decide_eq_true (PR_iff.2 hP)) ▸ c_IsPair hP.v.rb hP.v.rv hP.w.rb hP.w.rv hY)) ?_
    refine w_not rfl ?_
    refine w_move (by constructor) ?_
    refine w_g_on rfl rfl rfl ?_
    refine w_move (by constructor) ?_
    refine w_g_on rfl rfl rfl ?_
    refine w_mkf1 (by constructor) ?_
    refine w_g_on rfl rfl rfl ?_
    refine y_call rfl (exc ex_vl (exc (exp_closed (closed_cap1 (a := .cptr (prA p (n : Int) T fo p (m : Int) S go Y)) closed_pr)) exn)) ((op_all (p := p) (m := (m : Int)) ha ▸ c_ContainsFuncV (F := F) (g := 121) (nc := 1) (caps := cap1 (.cptr (prA p (n : Int) T fo p (m : Int) S go Y))) (P := fun i => !decide (smP p (m : Int) (F i))) hM (closed_cap1 (a := .cptr (prA p (n : Int) T fo p (m : Int) S go Y)) closed_pr) (fun i _ => c_opened1 (hF i)))) ?_
    refine w_pick_0 rfl rfl (by constructor) ?_
    exact hRR _ (EL.cons (.inr (by first | rfl | (simp only [els]; done) | simp)) (EL.cons (.inl rfl) (EL.cons (.inl rfl) (EL.cons (.inl rfl) (EL.cons (.inr rfl) (EL.cons (.inr rfl) (EL.cons (.inr rfl) (EL.cons (.inr rfl) (EL.refl _)))))))))
  refine snd_cond_false rfl ?_
  refine snd_skip ?_
  apply sr tokTB (by kernel_rfl)
  · intro RR hRR
    refine w_assign (by constructor) ?_
    exact hRR
  refine snd_ret ?_
  exact rt (T := TB) (fun V => rfl)
theorem c_opened_ns {p : Int} {n m : Nat} {T S : Nat → Nat → Nat → Int} {fo go : Nat → Int} {Y : Nat → Nat → Int} (hP : PN p n T fo m S go Y) (hY : ∀ i, RV (Y i)) {M : Nat} {F : Nat → Nat → Int} (hM : M ≤ 16777216) (hF : ∀ i, B8 (F i)) (ha : ¬ (∀ i, i < M → smP p (m : Int) (F i))) : ACalls Try.prog TB 83 [prA p (n : Int) T fo p (m : Int) S go Y, vlA M F] (.int .i64 1) [] := by
  refine acalls_of tokTB Try.func83 rfl rfl (Nat.le_of_ble_eq_true rfl) ?_
  apply sr tokTB (by kernel_rfl)
  · intro RR hRR
    refine w_boxc (HV.eq (by constructor)) (by exact trivial) ?_
    refine w_assign (by constructor) ?_
    exact hRR
  refine snd_seq ?_
  apply srG (env' := (12, .bool true) :: (11, .any) :: (10, .any) :: (9, .any) :: (8, _) :: (7, _) :: (6, _) :: (5, _) :: _) tokTB (by kernel_rfl)
  · intro RR hRR
    refine w_ldc rfl kn54 (by constructor) (by exact sz54.symm) (by exact ag54.symm) ?_
    refine y_call rfl (exc exp_pr exn) (((decide_eq_true (PR_iff.2 hP)) ▸ c_IsPair hP.v.rb hP.v.rv hP.w.rb hP.w.rv hY)) ?_
    refine w_not rfl ?_
    refine w_move (by constructor) ?_
    refine w_g_on rfl rfl rfl ?_
    refine w_move (by constructor) ?_
    refine w_g_on rfl rfl rfl ?_
    refine w_mkf1 (by constructor) ?_
    refine w_g_on rfl rfl rfl ?_
    refine y_call rfl (exc ex_vl (exc (exp_closed (closed_cap1 (a := .cptr (prA p (n : Int) T fo p (m : Int) S go Y)) closed_pr)) exn)) ((op_some (p := p) (m := (m : Int)) ha ▸ c_ContainsFuncV (F := F) (g := 121) (nc := 1) (caps := cap1 (.cptr (prA p (n : Int) T fo p (m : Int) S go Y))) (P := fun i => !decide (smP p (m : Int) (F i))) hM (closed_cap1 (a := .cptr (prA p (n : Int) T fo p (m : Int) S go Y)) closed_pr) (fun i _ => c_opened1 (hF i)))) ?_
    refine w_pick_0 rfl rfl (by constructor) ?_
    exact hRR _ (EL.cons (.inr (by first | rfl | (simp only [els]; done) | simp)) (EL.cons (.inl rfl) (EL.cons (.inl rfl) (EL.cons (.inl rfl) (EL.cons (.inr rfl) (EL.cons (.inr rfl) (EL.cons (.inr rfl) (EL.cons (.inr rfl) (EL.refl _)))))))))
  refine snd_cond_true rfl ?_
  apply sr tokTB (by kernel_rfl)
  · intro RR hRR
    refine w_assign (by constructor) ?_
    exact hRR
  refine snd_ret ?_
  exact rt (T := TB) (fun V => rfl)
theorem c_opened_no {p n q m : Int} {T S : Nat → Nat → Nat → Int} {fo go : Nat → Int} {Y : Nat → Nat → Int} (hT : RB T) (hf : RV fo) (hS : RB S) (hg : RV go) (hY : ∀ i, RV (Y i)) (hN : ¬ PR p n T fo q m S go Y) {M : Nat} {F : Nat → Nat → Int} : ACalls Try.prog TB 83 [prA p n T fo q m S go Y, vlA M F] (.int .i64 1) [] := by
  refine acalls_of tokTB Try.func83 rfl rfl (Nat.le_of_ble_eq_true rfl) ?_
  apply sr tokTB (by kernel_rfl)
  · intro RR hRR
    refine w_boxc (HV.eq (by constructor)) (by exact trivial) ?_
    refine w_assign (by constructor) ?_
    exact hRR
  refine snd_seq ?_
  apply srG (env' := (12, .bool true) :: (11, .any) :: (10, .any) :: (9, .any) :: (8, _) :: (7, _) :: (6, _) :: (5, _) :: _) tokTB (by kernel_rfl)
  · intro RR hRR
    refine w_ldc rfl kn54 (by constructor) (by exact sz54.symm) (by exact ag54.symm) ?_
    refine y_call rfl (exc exp_pr exn) (((decide_eq_false hN) ▸ c_IsPair hT hf hS hg hY)) ?_
    refine w_not rfl ?_
    refine w_move (by constructor) ?_
    refine w_g_off rfl rfl (by decide) ?_
    refine w_g_off rfl rfl (by decide) ?_
    refine w_g_off rfl rfl (by decide) ?_
    refine w_pick_1 rfl rfl (by constructor) ?_
    exact hRR _ (EL.cons (.inr (by first | rfl | (simp only [els]; done) | simp)) (EL.cons (.inl rfl) (EL.cons (.inl rfl) (EL.cons (.inl rfl) (EL.cons (.inr rfl) (EL.cons (.inr rfl) (EL.cons (.inr rfl) (EL.cons (.inr rfl) (EL.refl _)))))))))
  refine snd_cond_true rfl ?_
  apply sr tokTB (by kernel_rfl)
  · intro RR hRR
    refine w_assign (by constructor) ?_
    exact hRR
  refine snd_ret ?_
  exact rt (T := TB) (fun V => rfl)
theorem c_l10Open_ok {p : Int} {n m : Nat} {T S : Nat → Nat → Nat → Int} {fo go : Nat → Int} {Y : Nat → Nat → Int} (hP : PN p n T fo m S go Y) (hY : ∀ i, RV (Y i)) {M : Nat} {F : Nat → Nat → Int} (hM : M ≤ 16777216) (hF : ∀ i, B8 (F i)) (ha : (∀ i, i < M → smP p (m : Int) (F i))) : ACalls Try.prog TB 85 [prA p (n : Int) T fo p (m : Int) S go Y, vlA M F] (.int .i64 0) [] := by
  refine acalls_of tokTB Try.func85 rfl rfl (Nat.le_of_ble_eq_true rfl) ?_
  apply sr tokTB (by kernel_rfl)
  · intro RR hRR
    refine w_boxc (HV.eq (by constructor)) (by exact trivial) ?_
    refine w_assign (by constructor) ?_
    exact hRR
  refine snd_seq ?_
  apply sr tokTB (by kernel_rfl)
  · intro RR hRR
    refine w_ldc rfl kn54 (by constructor) (by exact sz54.symm) (by exact ag54.symm) ?_
    refine y_call rfl (exc exp_pr exn) (((decide_eq_true (PR_iff.2 hP)) ▸ c_l10Is hP.v.rb hP.v.rv hP.w.rb hP.w.rv hY)) ?_
    refine w_not rfl ?_
    exact hRR
  refine snd_cond_false rfl ?_
  refine snd_skip ?_
  refine snd_seq ?_
  apply sr tokTB (by kernel_rfl)
  · intro RR hRR
    refine w_assign (by constructor) ?_
    exact hRR
  refine snd_block ?_
  refine snd_loop (S := Nat) (fun i => ([(1, vlA M F), (2, .cptr (prA p (n : Int) T fo p (m : Int) S go Y)), (5, .int .i64 (i : Int))], [])) (fun i => i ≤ M ∧ (∀ a, a < i → smP p (m : Int) (F a))) (fun i => M - i) (0) ρ0 ?_ ?_ ?_
  · exact ⟨⟨(by first | exact m_vl | exact mt_fz (by exact trivial) rfl (fun _ _ => mt_vec (fun _ _ => rfl))), m_cpr, (mi), trivial⟩, trivial, trivial⟩
  · exact ⟨Nat.zero_le _, fun j hj => absurd hj (Nat.not_lt_zero _)⟩
  intro i hi0
  refine sq (env2 := [(1, vlA M F), (2, .cptr (prA p (n : Int) T fo p (m : Int) S go Y)), (5, .int .i64 (i : Int))]) (ol2 := []) rfl rfl ?_
  obtain ⟨le_i, inv_i⟩ := hi0
  refine snd_seq ?_
  apply sr tokTB (by kernel_rfl)
  · intro RR hRR
    refine w_move (by constructor) ?_
    refine w_move (by constructor) ?_
    refine w_len_r rfl rfl und45 ?_
    refine w_lss rfl rfl ?_
    exact hRR
  refine snd_cond _ rfl (fun hc12 => ?_) (fun hc12 => ?_)
  · try simp only [hcs] at hc12
    have lt_i : i < M := by omega
    refine snd_skip ?_
    refine snd_seq ?_
    refine snd_block ?_
    apply sd tokTB mixed (by kernel_rfl) (by kernel_rfl)
    · intro RR hRR
      refine w_fac rfl und54 rfl kn34 nz34 (by decide) rfl (by constructor) ?_
      refine w_ldc rfl kn34 (by constructor) (by exact sz34.symm) (by exact ag34.symm) ?_
      refine w_move (by constructor) ?_
      refine w_move (by constructor) ?_
      refine w_iar rfl rfl und45 kn32 (by exact sz32.symm) ?_ rfl ?_
      · exact ⟨by omega, by omega⟩
      first | refine w_ldc rfl kn32 (by constructor) (by exact sz32.symm) (by exact ag32.symm) ?_ | refine w_ldp rfl kn32 rfl (by constructor) (by exact sz32.symm) (by exact ag32.symm) ?_
      refine y_call rfl (ec (ec exn)) (c_l01Vector (v := F i) (hF i)) ?_
      refine w_not rfl ?_
      exact hRR
    refine snd_cond _ rfl (fun hc22 => ?_) (fun hc22 => ?_)
    · skip
      apply sr tokTB (by kernel_rfl)
      · intro RR hRR
        refine w_assign (by constructor) ?_
        exact hRR
      refine snd_ret ?_
      exact absurd (ha i (by omega)) (of_decide_eq_false (Bool.not_eq_true' _ ▸ hc22))
    · skip
      refine snd_skip ?_
      apply lr tokTB (by kernel_rfl)
      · intro RR hRR
        refine w_move (by constructor) ?_
        refine y_add rfl rfl ?_
        refine w_assign (by constructor) ?_
        exact hRR
      refine ⟨i + 1, ρ0, ?_, ⟨by omega, all_step inv_i (of_decide_eq_true (Bool.not_eq_false' _ ▸ hc22))⟩, (by dsimp only; omega)⟩
      exact ⟨⟨(by first | exact m_vl | exact mt_fz (by exact trivial) rfl (fun _ _ => mt_vec (fun _ _ => rfl))), m_cpr, (mi), trivial⟩, trivial, trivial⟩
  · try simp only [hcs] at hc12
    have ge_i : M = i := by omega
    subst ge_i
    refine snd_exit ?_
    apply sr tokTB (by kernel_rfl)
    · intro RR hRR
      refine w_assign (by constructor) ?_
      exact hRR
    refine snd_ret ?_
    exact rt (T := TB) (fun V => rfl)
theorem c_l10Open_ns {p : Int} {n m : Nat} {T S : Nat → Nat → Nat → Int} {fo go : Nat → Int} {Y : Nat → Nat → Int} (hP : PN p n T fo m S go Y) (hY : ∀ i, RV (Y i)) {M : Nat} {F : Nat → Nat → Int} (hM : M ≤ 16777216) (hF : ∀ i, B8 (F i)) (ha : ¬ (∀ i, i < M → smP p (m : Int) (F i))) : ACalls Try.prog TB 85 [prA p (n : Int) T fo p (m : Int) S go Y, vlA M F] (.int .i64 1) [] := by
  refine acalls_of tokTB Try.func85 rfl rfl (Nat.le_of_ble_eq_true rfl) ?_
  apply sr tokTB (by kernel_rfl)
  · intro RR hRR
    refine w_boxc (HV.eq (by constructor)) (by exact trivial) ?_
    refine w_assign (by constructor) ?_
    exact hRR
  refine snd_seq ?_
  apply sr tokTB (by kernel_rfl)
  · intro RR hRR
    refine w_ldc rfl kn54 (by constructor) (by exact sz54.symm) (by exact ag54.symm) ?_
    refine y_call rfl (exc exp_pr exn) (((decide_eq_true (PR_iff.2 hP)) ▸ c_l10Is hP.v.rb hP.v.rv hP.w.rb hP.w.rv hY)) ?_
    refine w_not rfl ?_
    exact hRR
  refine snd_cond_false rfl ?_
  refine snd_skip ?_
  refine snd_seq ?_
  apply sr tokTB (by kernel_rfl)
  · intro RR hRR
    refine w_assign (by constructor) ?_
    exact hRR
  refine snd_block ?_
  refine snd_loop (S := Nat) (fun i => ([(1, vlA M F), (2, .cptr (prA p (n : Int) T fo p (m : Int) S go Y)), (5, .int .i64 (i : Int))], [])) (fun i => i ≤ M ∧ (∀ a, a < i → smP p (m : Int) (F a))) (fun i => M - i) (0) ρ0 ?_ ?_ ?_
  · exact ⟨⟨(by first | exact m_vl | exact mt_fz (by exact trivial) rfl (fun _ _ => mt_vec (fun _ _ => rfl))), m_cpr, (mi), trivial⟩, trivial, trivial⟩
  · exact ⟨Nat.zero_le _, fun j hj => absurd hj (Nat.not_lt_zero _)⟩
  intro i hi0
  refine sq (env2 := [(1, vlA M F), (2, .cptr (prA p (n : Int) T fo p (m : Int) S go Y)), (5, .int .i64 (i : Int))]) (ol2 := []) rfl rfl ?_
  obtain ⟨le_i, inv_i⟩ := hi0
  refine snd_seq ?_
  apply sr tokTB (by kernel_rfl)
  · intro RR hRR
    refine w_move (by constructor) ?_
    refine w_move (by constructor) ?_
    refine w_len_r rfl rfl und45 ?_
    refine w_lss rfl rfl ?_
    exact hRR
  refine snd_cond _ rfl (fun hc12 => ?_) (fun hc12 => ?_)
  · try simp only [hcs] at hc12
    have lt_i : i < M := by omega
    refine snd_skip ?_
    refine snd_seq ?_
    refine snd_block ?_
    apply sd tokTB mixed (by kernel_rfl) (by kernel_rfl)
    · intro RR hRR
      refine w_fac rfl und54 rfl kn34 nz34 (by decide) rfl (by constructor) ?_
      refine w_ldc rfl kn34 (by constructor) (by exact sz34.symm) (by exact ag34.symm) ?_
      refine w_move (by constructor) ?_
      refine w_move (by constructor) ?_
      refine w_iar rfl rfl und45 kn32 (by exact sz32.symm) ?_ rfl ?_
      · exact ⟨by omega, by omega⟩
      first | refine w_ldc rfl kn32 (by constructor) (by exact sz32.symm) (by exact ag32.symm) ?_ | refine w_ldp rfl kn32 rfl (by constructor) (by exact sz32.symm) (by exact ag32.symm) ?_
      refine y_call rfl (ec (ec exn)) (c_l01Vector (v := F i) (hF i)) ?_
      refine w_not rfl ?_
      exact hRR
    refine snd_cond _ rfl (fun hc22 => ?_) (fun hc22 => ?_)
    · skip
      apply sr tokTB (by kernel_rfl)
      · intro RR hRR
        refine w_assign (by constructor) ?_
        exact hRR
      refine snd_ret ?_
      exact rt (T := TB) (fun V => rfl)
    · skip
      refine snd_skip ?_
      apply lr tokTB (by kernel_rfl)
      · intro RR hRR
        refine w_move (by constructor) ?_
        refine y_add rfl rfl ?_
        refine w_assign (by constructor) ?_
        exact hRR
      refine ⟨i + 1, ρ0, ?_, ⟨by omega, all_step inv_i (of_decide_eq_true (Bool.not_eq_false' _ ▸ hc22))⟩, (by dsimp only; omega)⟩
      exact ⟨⟨(by first | exact m_vl | exact mt_fz (by exact trivial) rfl (fun _ _ => mt_vec (fun _ _ => rfl))), m_cpr, (mi), trivial⟩, trivial, trivial⟩
  · try simp only [hcs] at hc12
    have ge_i : M = i := by omega
    subst ge_i
    refine snd_exit ?_
    apply sr tokTB (by kernel_rfl)
    · intro RR hRR
      refine w_assign (by constructor) ?_
      exact hRR
    refine snd_ret ?_
    exact absurd inv_i ha
theorem c_l10Open_no {p n q m : Int} {T S : Nat → Nat → Nat → Int} {fo go : Nat → Int} {Y : Nat → Nat → Int} (hT : RB T) (hf : RV fo) (hS : RB S) (hg : RV go) (hY : ∀ i, RV (Y i)) (hN : ¬ PR p n T fo q m S go Y) {M : Nat} {F : Nat → Nat → Int} : ACalls Try.prog TB 85 [prA p n T fo q m S go Y, vlA M F] (.int .i64 1) [] := by
  refine acalls_of tokTB Try.func85 rfl rfl (Nat.le_of_ble_eq_true rfl) ?_
  apply sr tokTB (by kernel_rfl)
  · intro RR hRR
    refine w_boxc (HV.eq (by constructor)) (by exact trivial) ?_
    refine w_assign (by constructor) ?_
    exact hRR
  refine snd_seq ?_
  apply sr tokTB (by kernel_rfl)
  · intro RR hRR
    refine w_ldc rfl kn54 (by constructor) (by exact sz54.symm) (by exact ag54.symm) ?_
    refine y_call rfl (exc exp_pr exn) (((decide_eq_false hN) ▸ c_l10Is hT hf hS hg hY)) ?_
    refine w_not rfl ?_
    exact hRR
  refine snd_cond_true rfl ?_
  apply sr tokTB (by kernel_rfl)
  · intro RR hRR
    refine w_assign (by constructor) ?_
    exact hRR
  refine snd_ret ?_
  exact rt (T := TB) (fun V => rfl)
theorem c_sAnnulusNumber_ok {p : Int} {n m : Nat} {T S : Nat → Nat → Nat → Int} {fo go : Nat → Int} {Y : Nat → Nat → Int} (hP : PN p n T fo m S go Y) (hY : ∀ i, RV (Y i)) {u w : Nat → Int} (hu : RV u) (hw : RV w) (ha : (∀ i, i < 2 → smP p (m : Int) (vs2 u w i))) : ACalls Try.prog TB 42 [prA p (n : Int) T fo p (m : Int) S go Y, vecA u, vecA w] (.tup 2 (pairA (.int .i64 (formF p fo (timesF p n T (uzV p n T fo m S go Y u) (uzV p n T fo m S go Y w)))) (.int .i64 0))) [] := by
  have hp8 := hP.v.p0
  have hn6 := hP.v.n6
  have hm6 := hP.w.n6
  have hY8 : ∀ i, B8 (Y i) := fun i => (hY i).b
  refine acalls_of tokTB Try.func42 rfl rfl (Nat.le_of_ble_eq_true rfl) ?_
  apply sr tokTB (by kernel_rfl)
  · intro RR hRR
    refine w_boxc (HV.eq (by constructor)) (by exact trivial) ?_
    refine w_boxc (HV.eq (by constructor)) (by exact trivial) ?_
    refine w_boxc (HV.eq (by constructor)) (by exact trivial) ?_
    refine w_assign (by constructor) ?_
    refine w_assign (by constructor) ?_
    exact hRR
  refine snd_seq ?_
  apply sr tokTB (by kernel_rfl)
  · intro RR hRR
    refine w_ldc rfl kn54 (by constructor) (by exact sz54.symm) (by exact ag54.symm) ?_
    refine w_ldc rfl kn32 (by constructor) (by exact sz32.symm) (by exact ag32.symm) ?_
    refine w_ldc rfl kn32 (by constructor) (by exact sz32.symm) (by exact ag32.symm) ?_
    refine w_bsl2 und45 kn32 (by rw [sz32]; rfl) rfl (by constructor) (by constructor) (by first | exact trivial | exact cel_cap2) (by first | exact trivial | exact cel_cap2) (by exact sz32.symm) (by exact sz32.symm) (by first | exact trivial | exact ssh_vec | exact ⟨rfl, fun _ => trivial⟩) (by first | exact trivial | exact ssh_vec | exact ⟨rfl, fun _ => trivial⟩) ?_
    refine y_call rfl (exc exp_pr (exc (ex_l2 zr32 rfl) exn)) (c_l10Open_ok hP hY (by omega) (fun i => by unfold vs2; split; (exact hu.b); split; (exact hw.b); exact B8_0) ha) ?_
    refine w_assign (by constructor) ?_
    exact hRR
  apply sr tokTB (by kernel_rfl)
  · intro RR hRR
    refine w_move (by constructor) ?_
    refine w_neq rfl rfl ?_
    exact hRR
  refine snd_cond_false rfl ?_
  refine snd_skip ?_
  apply sd tokTB mixed (by kernel_rfl) (by kernel_rfl)
  · intro RR hRR
    refine w_fac rfl und54 rfl kn34 nz34 (by decide) rfl (by constructor) ?_
    refine w_ldc rfl kn34 (by constructor) (by exact sz34.symm) (by exact ag34.symm) ?_
    refine w_fac rfl und54 rfl kn34 nz34 (by decide) rfl (by constructor) ?_
    refine w_ldc rfl kn34 (by constructor) (by exact sz34.symm) (by exact ag34.symm) ?_
    refine w_ldc rfl kn54 (by constructor) (by exact sz54.symm) (by exact ag54.symm) ?_
    refine w_ldc rfl kn32 (by constructor) (by exact sz32.symm) (by exact ag32.symm) ?_
    refine y_call rfl (exc exp_pr (exc (by exact rfl) exn)) (c_l10Unzip hP hY hu.b) ?_
    refine w_ldc rfl kn54 (by constructor) (by exact sz54.symm) (by exact ag54.symm) ?_
    refine w_ldc rfl kn32 (by constructor) (by exact sz32.symm) (by exact ag32.symm) ?_
    refine y_call rfl (exc exp_pr (exc (by exact rfl) exn)) (c_l10Unzip hP hY hw.b) ?_
    refine y_call rfl (ec (ec (ec exn))) (c_l01Times (u := uzV p n T fo m S go Y u) (v := uzV p n T fo m S go Y w) (by omega) (by omega) hn6 hP.v.T8 (B8_of (by omega) (us1_Bp (by omega) _ : Bp p (uzV p n T fo m S go Y u))) (B8_of (by omega) (us1_Bp (by omega) _ : Bp p (uzV p n T fo m S go Y w)))) ?_
    refine y_call rfl (ec (ec exn)) (c_l01Form (v := timesF p n T (uzV p n T fo m S go Y u) (uzV p n T fo m S go Y w)) (by omega) hP.v.f8 (timesF_B8 (by omega) (by omega))) ?_
    refine w_assign (by constructor) ?_
    refine w_assign (by constructor) ?_
    exact hRR
  refine snd_ret ?_
  exact rt_tt (T := TB) (fun V => rfl) (fun V => rfl)
theorem c_sAnnulusNumber_ns {p : Int} {n m : Nat} {T S : Nat → Nat → Nat → Int} {fo go : Nat → Int} {Y : Nat → Nat → Int} (hP : PN p n T fo m S go Y) (hY : ∀ i, RV (Y i)) {u w : Nat → Int} (hu : RV u) (hw : RV w) (ha : ¬ (∀ i, i < 2 → smP p (m : Int) (vs2 u w i))) : ACalls Try.prog TB 42 [prA p (n : Int) T fo p (m : Int) S go Y, vecA u, vecA w] (.tup 2 (pairA (.int .i64 0) (.int .i64 1))) [] := by
  have hp8 := hP.v.p0
  have hn6 := hP.v.n6
  have hm6 := hP.w.n6
  have hY8 : ∀ i, B8 (Y i) := fun i => (hY i).b
  refine acalls_of tokTB Try.func42 rfl rfl (Nat.le_of_ble_eq_true rfl) ?_
  apply sr tokTB (by kernel_rfl)
  · intro RR hRR
    refine w_boxc (HV.eq (by constructor)) (by exact trivial) ?_
    refine w_boxc (HV.eq (by constructor)) (by exact trivial) ?_
    refine w_boxc (HV.eq (by constructor)) (by exact trivial) ?_
    refine w_assign (by constructor) ?_
    refine w_assign (by constructor) ?_
    exact hRR
  refine snd_seq ?_
  apply sr tokTB (by kernel_rfl)
  · intro RR hRR
    refine w_ldc rfl kn54 (by constructor) (by exact sz54.symm) (by exact ag54.symm) ?_
    refine w_ldc rfl kn32 (by constructor) (by exact sz32.symm) (by exact ag32.symm) ?_
    refine w_ldc rfl kn32 (by constructor) (by exact sz32.symm) (by exact ag32.symm) ?_
    refine w_bsl2 und45 kn32 (by rw [sz32]; rfl) rfl (by constructor) (by constructor) (by first | exact trivial | exact cel_cap2) (by first | exact trivial | exact cel_cap2) (by exact sz32.symm) (by exact sz32.symm) (by first | exact trivial | exact ssh_vec | exact ⟨rfl, fun _ => trivial⟩) (by first | exact trivial | exact ssh_vec | exact ⟨rfl, fun _ => trivial⟩) ?_
    refine y_call rfl (exc exp_pr (exc (ex_l2 zr32 rfl) exn)) (c_l10Open_ns hP hY (by omega) (fun i => by unfold vs2; split; (exact hu.b); split; (exact hw.b); exact B8_0) ha) ?_
    refine w_assign (by constructor) ?_
    exact hRR
  apply sr tokTB (by kernel_rfl)
  · intro RR hRR
    refine w_move (by constructor) ?_
    refine w_neq rfl rfl ?_
    exact hRR
  refine snd_cond_true rfl ?_
  apply sr tokTB (by kernel_rfl)
  · intro RR hRR
    refine w_move (by constructor) ?_
    refine w_assign (by constructor) ?_
    refine w_assign (by constructor) ?_
    exact hRR
  refine snd_ret ?_
  exact rt_tt (T := TB) (fun V => rfl) (fun V => rfl)
theorem c_sAnnulusNumber_no {p n q m : Int} {T S : Nat → Nat → Nat → Int} {fo go : Nat → Int} {Y : Nat → Nat → Int} (hT : RB T) (hf : RV fo) (hS : RB S) (hg : RV go) (hY : ∀ i, RV (Y i)) (hN : ¬ PR p n T fo q m S go Y) {u w : Nat → Int} (hu : RV u) (hw : RV w) : ACalls Try.prog TB 42 [prA p n T fo q m S go Y, vecA u, vecA w] (.tup 2 (pairA (.int .i64 0) (.int .i64 1))) [] := by
  refine acalls_of tokTB Try.func42 rfl rfl (Nat.le_of_ble_eq_true rfl) ?_
  apply sr tokTB (by kernel_rfl)
  · intro RR hRR
    refine w_boxc (HV.eq (by constructor)) (by exact trivial) ?_
    refine w_boxc (HV.eq (by constructor)) (by exact trivial) ?_
    refine w_boxc (HV.eq (by constructor)) (by exact trivial) ?_
    refine w_assign (by constructor) ?_
    refine w_assign (by constructor) ?_
    exact hRR
  refine snd_seq ?_
  apply sr tokTB (by kernel_rfl)
  · intro RR hRR
    refine w_ldc rfl kn54 (by constructor) (by exact sz54.symm) (by exact ag54.symm) ?_
    refine w_ldc rfl kn32 (by constructor) (by exact sz32.symm) (by exact ag32.symm) ?_
    refine w_ldc rfl kn32 (by constructor) (by exact sz32.symm) (by exact ag32.symm) ?_
    refine w_bsl2 und45 kn32 (by rw [sz32]; rfl) rfl (by constructor) (by constructor) (by first | exact trivial | exact cel_cap2) (by first | exact trivial | exact cel_cap2) (by exact sz32.symm) (by exact sz32.symm) (by first | exact trivial | exact ssh_vec | exact ⟨rfl, fun _ => trivial⟩) (by first | exact trivial | exact ssh_vec | exact ⟨rfl, fun _ => trivial⟩) ?_
    refine y_call rfl (exc exp_pr (exc (ex_l2 zr32 rfl) exn)) (c_l10Open_no (F := vs2 u w) (M := 2) hT hf hS hg hY hN) ?_
    refine w_assign (by constructor) ?_
    exact hRR
  apply sr tokTB (by kernel_rfl)
  · intro RR hRR
    refine w_move (by constructor) ?_
    refine w_neq rfl rfl ?_
    exact hRR
  refine snd_cond_true rfl ?_
  apply sr tokTB (by kernel_rfl)
  · intro RR hRR
    refine w_move (by constructor) ?_
    refine w_assign (by constructor) ?_
    refine w_assign (by constructor) ?_
    exact hRR
  refine snd_ret ?_
  exact rt_tt (T := TB) (fun V => rfl) (fun V => rfl)
theorem c_iAnnulusNumber_ok {p : Int} {n m : Nat} {T S : Nat → Nat → Nat → Int} {fo go : Nat → Int} {Y : Nat → Nat → Int} (hP : PN p n T fo m S go Y) (hY : ∀ i, RV (Y i)) {u w : Nat → Int} (hu : RV u) (hw : RV w) (ha : (∀ i, i < 2 → smP p (m : Int) (vs2 u w i))) : ACalls Try.prog TB 43 [prA p (n : Int) T fo p (m : Int) S go Y, vecA u, vecA w] (.tup 2 (pairA (.int .i64 (formF p fo (timesF p n T (uzV p n T fo m S go Y u) (uzV p n T fo m S go Y w)))) (.int .i64 0))) [] := by
  have hp8 := hP.v.p0
  have hn6 := hP.v.n6
  have hm6 := hP.w.n6
  have hY8 : ∀ i, B8 (Y i) := fun i => (hY i).b
  refine acalls_of tokTB Try.func43 rfl rfl (Nat.le_of_ble_eq_true rfl) ?_
  apply sr tokTB (by kernel_rfl)
  · intro RR hRR
    refine w_boxc (HV.eq (by constructor)) (by exact trivial) ?_
    refine w_boxc (HV.eq (by constructor)) (by exact trivial) ?_
    refine w_boxc (HV.eq (by constructor)) (by exact trivial) ?_
    refine w_assign (by constructor) ?_
    refine w_assign (by constructor) ?_
    exact hRR
  refine snd_seq ?_
  apply sr tokTB (by kernel_rfl)
  · intro RR hRR
    refine w_ldc rfl kn54 (by constructor) (by exact sz54.symm) (by exact ag54.symm) ?_
    refine w_ldc rfl kn32 (by constructor) (by exact sz32.symm) (by exact ag32.symm) ?_
    refine w_ldc rfl kn32 (by constructor) (by exact sz32.symm) (by exact ag32.symm) ?_
    refine w_bsl2 und45 kn32 (by rw [sz32]; rfl) rfl (by constructor) (by constructor) (by first | exact trivial | exact cel_cap2) (by first | exact trivial | exact cel_cap2) (by exact sz32.symm) (by exact sz32.symm) (by first | exact trivial | exact ssh_vec | exact ⟨rfl, fun _ => trivial⟩) (by first | exact trivial | exact ssh_vec | exact ⟨rfl, fun _ => trivial⟩) ?_
    refine y_call rfl (exc exp_pr (exc (ex_l2 zr32 rfl) exn)) (c_opened_ok hP hY (by omega) (fun i => by unfold vs2; split; (exact hu.b); split; (exact hw.b); exact B8_0) ha) ?_
    refine w_assign (by constructor) ?_
    exact hRR
  apply sr tokTB (by kernel_rfl)
  · intro RR hRR
    refine w_move (by constructor) ?_
    refine w_neq rfl rfl ?_
    exact hRR
  refine snd_cond_false rfl ?_
  refine snd_skip ?_
  apply sd tokTB mixed (by kernel_rfl) (by kernel_rfl)
  · intro RR hRR
    refine w_fac rfl und54 rfl kn34 nz34 (by decide) rfl (by constructor) ?_
    refine w_fac rfl und54 rfl kn34 nz34 (by decide) rfl (by constructor) ?_
    refine w_ldc rfl kn32 (by constructor) (by exact sz32.symm) (by exact ag32.symm) ?_
    refine y_call rfl (exc (exp_closed (v := .cptr (prA p (n : Int) T fo p (m : Int) S go Y)) closed_pr) (exc (by exact rfl) exn)) (c_unzip hP hY hu.b) ?_
    refine w_ldc rfl kn32 (by constructor) (by exact sz32.symm) (by exact ag32.symm) ?_
    refine y_call rfl (exc (exp_closed (v := .cptr (prA p (n : Int) T fo p (m : Int) S go Y)) closed_pr) (exc (by exact rfl) exn)) (c_unzip hP hY hw.b) ?_
    refine y_call rfl (ec (ec (ec exn))) (c_times (u := uzV p n T fo m S go Y u) (v := uzV p n T fo m S go Y w) (by omega) (by omega) hn6 hP.v.T8 (B8_of (by omega) (us1_Bp (by omega) _ : Bp p (uzV p n T fo m S go Y u))) (B8_of (by omega) (us1_Bp (by omega) _ : Bp p (uzV p n T fo m S go Y w)))) ?_
    refine y_call rfl (ec (ec exn)) (c_form (v := timesF p n T (uzV p n T fo m S go Y u) (uzV p n T fo m S go Y w)) (by omega) hP.v.f8 (timesF_B8 (by omega) (by omega))) ?_
    refine w_assign (by constructor) ?_
    refine w_assign (by constructor) ?_
    exact hRR
  refine snd_ret ?_
  exact rt_tt (T := TB) (fun V => rfl) (fun V => rfl)
theorem c_iAnnulusNumber_ns {p : Int} {n m : Nat} {T S : Nat → Nat → Nat → Int} {fo go : Nat → Int} {Y : Nat → Nat → Int} (hP : PN p n T fo m S go Y) (hY : ∀ i, RV (Y i)) {u w : Nat → Int} (hu : RV u) (hw : RV w) (ha : ¬ (∀ i, i < 2 → smP p (m : Int) (vs2 u w i))) : ACalls Try.prog TB 43 [prA p (n : Int) T fo p (m : Int) S go Y, vecA u, vecA w] (.tup 2 (pairA (.int .i64 0) (.int .i64 1))) [] := by
  have hp8 := hP.v.p0
  have hn6 := hP.v.n6
  have hm6 := hP.w.n6
  have hY8 : ∀ i, B8 (Y i) := fun i => (hY i).b
  refine acalls_of tokTB Try.func43 rfl rfl (Nat.le_of_ble_eq_true rfl) ?_
  apply sr tokTB (by kernel_rfl)
  · intro RR hRR
    refine w_boxc (HV.eq (by constructor)) (by exact trivial) ?_
    refine w_boxc (HV.eq (by constructor)) (by exact trivial) ?_
    refine w_boxc (HV.eq (by constructor)) (by exact trivial) ?_
    refine w_assign (by constructor) ?_
    refine w_assign (by constructor) ?_
    exact hRR
  refine snd_seq ?_
  apply sr tokTB (by kernel_rfl)
  · intro RR hRR
    refine w_ldc rfl kn54 (by constructor) (by exact sz54.symm) (by exact ag54.symm) ?_
    refine w_ldc rfl kn32 (by constructor) (by exact sz32.symm) (by exact ag32.symm) ?_
    refine w_ldc rfl kn32 (by constructor) (by exact sz32.symm) (by exact ag32.symm) ?_
    refine w_bsl2 und45 kn32 (by rw [sz32]; rfl) rfl (by constructor) (by constructor) (by first | exact trivial | exact cel_cap2) (by first | exact trivial | exact cel_cap2) (by exact sz32.symm) (by exact sz32.symm) (by first | exact trivial | exact ssh_vec | exact ⟨rfl, fun _ => trivial⟩) (by first | exact trivial | exact ssh_vec | exact ⟨rfl, fun _ => trivial⟩) ?_
    refine y_call rfl (exc exp_pr (exc (ex_l2 zr32 rfl) exn)) (c_opened_ns hP hY (by omega) (fun i => by unfold vs2; split; (exact hu.b); split; (exact hw.b); exact B8_0) ha) ?_
    refine w_assign (by constructor) ?_
    exact hRR
  apply sr tokTB (by kernel_rfl)
  · intro RR hRR
    refine w_move (by constructor) ?_
    refine w_neq rfl rfl ?_
    exact hRR
  refine snd_cond_true rfl ?_
  apply sr tokTB (by kernel_rfl)
  · intro RR hRR
    refine w_move (by constructor) ?_
    refine w_assign (by constructor) ?_
    refine w_assign (by constructor) ?_
    exact hRR
  refine snd_ret ?_
  exact rt_tt (T := TB) (fun V => rfl) (fun V => rfl)
theorem c_iAnnulusNumber_no {p n q m : Int} {T S : Nat → Nat → Nat → Int} {fo go : Nat → Int} {Y : Nat → Nat → Int} (hT : RB T) (hf : RV fo) (hS : RB S) (hg : RV go) (hY : ∀ i, RV (Y i)) (hN : ¬ PR p n T fo q m S go Y) {u w : Nat → Int} (hu : RV u) (hw : RV w) : ACalls Try.prog TB 43 [prA p n T fo q m S go Y, vecA u, vecA w] (.tup 2 (pairA (.int .i64 0) (.int .i64 1))) [] := by
  refine acalls_of tokTB Try.func43 rfl rfl (Nat.le_of_ble_eq_true rfl) ?_
  apply sr tokTB (by kernel_rfl)
  · intro RR hRR
    refine w_boxc (HV.eq (by constructor)) (by exact trivial) ?_
    refine w_boxc (HV.eq (by constructor)) (by exact trivial) ?_
    refine w_boxc (HV.eq (by constructor)) (by exact trivial) ?_
    refine w_assign (by constructor) ?_
    refine w_assign (by constructor) ?_
    exact hRR
  refine snd_seq ?_
  apply sr tokTB (by kernel_rfl)
  · intro RR hRR
    refine w_ldc rfl kn54 (by constructor) (by exact sz54.symm) (by exact ag54.symm) ?_
    refine w_ldc rfl kn32 (by constructor) (by exact sz32.symm) (by exact ag32.symm) ?_
    refine w_ldc rfl kn32 (by constructor) (by exact sz32.symm) (by exact ag32.symm) ?_
    refine w_bsl2 und45 kn32 (by rw [sz32]; rfl) rfl (by constructor) (by constructor) (by first | exact trivial | exact cel_cap2) (by first | exact trivial | exact cel_cap2) (by exact sz32.symm) (by exact sz32.symm) (by first | exact trivial | exact ssh_vec | exact ⟨rfl, fun _ => trivial⟩) (by first | exact trivial | exact ssh_vec | exact ⟨rfl, fun _ => trivial⟩) ?_
    refine y_call rfl (exc exp_pr (exc (ex_l2 zr32 rfl) exn)) (c_opened_no (F := vs2 u w) (M := 2) hT hf hS hg hY hN) ?_
    refine w_assign (by constructor) ?_
    exact hRR
  apply sr tokTB (by kernel_rfl)
  · intro RR hRR
    refine w_move (by constructor) ?_
    refine w_neq rfl rfl ?_
    exact hRR
  refine snd_cond_true rfl ?_
  apply sr tokTB (by kernel_rfl)
  · intro RR hRR
    refine w_move (by constructor) ?_
    refine w_assign (by constructor) ?_
    refine w_assign (by constructor) ?_
    exact hRR
  refine snd_ret ?_
  exact rt_tt (T := TB) (fun V => rfl) (fun V => rfl)
theorem lAnnulusNumber_ok {p : Int} {n m : Nat} {T S : Nat → Nat → Nat → Int} {fo go : Nat → Int} {Y : Nat → Nat → Int} (hP : PN p n T fo m S go Y) (hY : ∀ i, RV (Y i)) {u w : Nat → Int} (hu : RV u) (hw : RV w) (ha : (∀ i, i < 2 → smP p (m : Int) (vs2 u w i))) : ACalls Try.prog TB 12 [prA p (n : Int) T fo p (m : Int) S go Y, vecA u, vecA w] (.bool true) [] := by
  refine acalls_of tokTB Try.func12 rfl rfl (Nat.le_of_ble_eq_true rfl) ?_
  apply sr tokTB (by kernel_rfl)
  · intro RR hRR
    refine w_boxc (HV.eq (by constructor)) (by exact trivial) ?_
    refine w_boxc (HV.eq (by constructor)) (by exact trivial) ?_
    refine w_boxc (HV.eq (by constructor)) (by exact trivial) ?_
    refine w_assign (by constructor) ?_
    exact hRR
  apply sd tokTB mixed (by kernel_rfl) (by kernel_rfl)
  · intro RR hRR
    refine w_ldc rfl kn50 (by constructor) (by exact sz50.symm) (by exact ag50.symm) ?_
    refine w_call0 rfl (exc exp_pr exn) (c_toPair) (by exact nr_pr) (fun _ => by exact shift_pr) ?_
    refine w_ldc rfl kn22 (by constructor) (by exact sz22.symm) (by exact ag22.symm) ?_
    refine y_call rfl (ec exn) (c_toVector) ?_
    refine w_ldc rfl kn22 (by constructor) (by exact sz22.symm) (by exact ag22.symm) ?_
    refine y_call rfl (ec exn) (c_toVector) ?_
    refine y_call rfl (exc exp_pr (exc (by exact rfl) (exc (by exact rfl) exn))) (c_sAnnulusNumber_ok hP hY hu hw ha) ?_
    refine w_move (by constructor) ?_
    refine w_ext rfl (by decide) (by constructor) ?_
    refine w_ext rfl (by decide) (by constructor) ?_
    refine w_assign (by constructor) ?_
    refine w_assign (by constructor) ?_
    exact hRR
  apply sd tokTB mixed (by kernel_rfl) (by kernel_rfl)
  · intro RR hRR
    refine w_ldc rfl kn50 (by constructor) (by exact sz50.symm) (by exact ag50.symm) ?_
    refine w_call0 rfl (exc exp_pr exn) (c_toPair) (by exact nr_pr) (fun _ => by exact shift_pr) ?_
    refine w_ldc rfl kn22 (by constructor) (by exact sz22.symm) (by exact ag22.symm) ?_
    refine y_call rfl (ec exn) (c_toVector) ?_
    refine w_ldc rfl kn22 (by constructor) (by exact sz22.symm) (by exact ag22.symm) ?_
    refine y_call rfl (ec exn) (c_toVector) ?_
    refine y_call rfl (exc exp_pr (exc (by exact rfl) (exc (by exact rfl) exn))) (c_iAnnulusNumber_ok hP hY hu hw ha) ?_
    refine w_move (by constructor) ?_
    refine w_ext rfl (by decide) (by constructor) ?_
    refine w_ext rfl (by decide) (by constructor) ?_
    refine w_assign (by constructor) ?_
    refine w_assign (by constructor) ?_
    exact hRR
  refine snd_seq ?_
  apply srG (env' := (38, .bool (decide ((formF p fo (timesF p n T (uzV p n T fo m S go Y u) (uzV p n T fo m S go Y w))) ≠ (formF p fo (timesF p n T (uzV p n T fo m S go Y u) (uzV p n T fo m S go Y w)))) || decide ((0 : Int) ≠ 0))) :: (37, .any) :: (36, .any) :: (35, .any) :: (34, _) :: (33, _) :: (32, _) :: (31, _) :: _) tokTB (by kernel_rfl)
  · intro RR hRR
    refine w_move (by constructor) ?_
    refine w_move (by constructor) ?_
    refine w_neq rfl rfl ?_
    refine w_move (by constructor) ?_
    refine w_g rfl rfl (fun hg3 => ?_) (fun hg3 => ?_)
    · skip
      refine w_move (by constructor) ?_
      refine w_g_on rfl rfl hg3 ?_
      refine w_move (by constructor) ?_
      refine w_g_on rfl rfl hg3 ?_
      refine w_neq rfl rfl ?_
      refine w_pick_0 rfl hg3 (by constructor) ?_
      try simp only [Int.toNat_natCast] at hg3
      exact hRR _ (EL.cons (.inr (by first | rfl | (simp only [hg3, els]; done) | (simp only [hg3, els]; rfl) | simp [hg3])) (EL.cons (.inl rfl) (EL.cons (.inl rfl) (EL.cons (.inl rfl) (EL.cons (.inr rfl) (EL.cons (.inr rfl) (EL.cons (.inr rfl) (EL.cons (.inr rfl) (EL.refl _)))))))))
    · have hg3 := eq_true_of_ne_false hg3
      refine w_g_off rfl rfl (by rw [hg3]; decide) ?_
      refine w_g_off rfl rfl (by rw [hg3]; decide) ?_
      refine w_pick_1 rfl hg3 (by constructor) ?_
      try simp only [Int.toNat_natCast] at hg3
      exact hRR _ (EL.cons (.inr (by first | rfl | (simp only [hg3, els]; done) | (simp only [hg3, els]; rfl) | simp [hg3])) (EL.cons (.inl rfl) (EL.cons (.inl rfl) (EL.cons (.inl rfl) (EL.cons (.inr rfl) (EL.cons (.inr rfl) (EL.cons (.inr rfl) (EL.cons (.inr rfl) (EL.refl _)))))))))
  refine snd_cond _ rfl (fun hc38 => ?_) (fun hc38 => ?_)
  · skip
    exact absurd hc38 (by simp [eqN])
  · skip
    refine snd_skip ?_
    apply sr tokTB (by kernel_rfl)
    · intro RR hRR
      refine w_assign (by constructor) ?_
      exact hRR
    refine snd_ret ?_
    exact rt (T := TB) (fun V => by first | exact m_bool rfl | exact m_int rfl)
theorem lAnnulusNumber_ns {p : Int} {n m : Nat} {T S : Nat → Nat → Nat → Int} {fo go : Nat → Int} {Y : Nat → Nat → Int} (hP : PN p n T fo m S go Y) (hY : ∀ i, RV (Y i)) {u w : Nat → Int} (hu : RV u) (hw : RV w) (ha : ¬ (∀ i, i < 2 → smP p (m : Int) (vs2 u w i))) : ACalls Try.prog TB 12 [prA p (n : Int) T fo p (m : Int) S go Y, vecA u, vecA w] (.bool true) [] := by
  refine acalls_of tokTB Try.func12 rfl rfl (Nat.le_of_ble_eq_true rfl) ?_
  apply sr tokTB (by kernel_rfl)
  · intro RR hRR
    refine w_boxc (HV.eq (by constructor)) (by exact trivial) ?_
    refine w_boxc (HV.eq (by constructor)) (by exact trivial) ?_
    refine w_boxc (HV.eq (by constructor)) (by exact trivial) ?_
    refine w_assign (by constructor) ?_
    exact hRR
  apply sd tokTB mixed (by kernel_rfl) (by kernel_rfl)
  · intro RR hRR
    refine w_ldc rfl kn50 (by constructor) (by exact sz50.symm) (by exact ag50.symm) ?_
    refine w_call0 rfl (exc exp_pr exn) (c_toPair) (by exact nr_pr) (fun _ => by exact shift_pr) ?_
    refine w_ldc rfl kn22 (by constructor) (by exact sz22.symm) (by exact ag22.symm) ?_
    refine y_call rfl (ec exn) (c_toVector) ?_
    refine w_ldc rfl kn22 (by constructor) (by exact sz22.symm) (by exact ag22.symm) ?_
    refine y_call rfl (ec exn) (c_toVector) ?_
    refine y_call rfl (exc exp_pr (exc (by exact rfl) (exc (by exact rfl) exn))) (c_sAnnulusNumber_ns hP hY hu hw ha) ?_
    refine w_move (by constructor) ?_
    refine w_ext rfl (by decide) (by constructor) ?_
    refine w_ext rfl (by decide) (by constructor) ?_
    refine w_assign (by constructor) ?_
    refine w_assign (by constructor) ?_
    exact hRR
  apply sd tokTB mixed (by kernel_rfl) (by kernel_rfl)
  · intro RR hRR
    refine w_ldc rfl kn50 (by constructor) (by exact sz50.symm) (by exact ag50.symm) ?_
    refine w_call0 rfl (exc exp_pr exn) (c_toPair) (by exact nr_pr) (fun _ => by exact shift_pr) ?_
    refine w_ldc rfl kn22 (by constructor) (by exact sz22.symm) (by exact ag22.symm) ?_
    refine y_call rfl (ec exn) (c_toVector) ?_
    refine w_ldc rfl kn22 (by constructor) (by exact sz22.symm) (by exact ag22.symm) ?_
    refine y_call rfl (ec exn) (c_toVector) ?_
    refine y_call rfl (exc exp_pr (exc (by exact rfl) (exc (by exact rfl) exn))) (c_iAnnulusNumber_ns hP hY hu hw ha) ?_
    refine w_move (by constructor) ?_
    refine w_ext rfl (by decide) (by constructor) ?_
    refine w_ext rfl (by decide) (by constructor) ?_
    refine w_assign (by constructor) ?_
    refine w_assign (by constructor) ?_
    exact hRR
  refine snd_seq ?_
  apply srG (env' := (38, .bool (decide ((0 : Int) ≠ (0 : Int)) || decide ((1 : Int) ≠ 1))) :: (37, .any) :: (36, .any) :: (35, .any) :: (34, _) :: (33, _) :: (32, _) :: (31, _) :: _) tokTB (by kernel_rfl)
  · intro RR hRR
    refine w_move (by constructor) ?_
    refine w_move (by constructor) ?_
    refine w_neq rfl rfl ?_
    refine w_move (by constructor) ?_
    refine w_g rfl rfl (fun hg3 => ?_) (fun hg3 => ?_)
    · skip
      refine w_move (by constructor) ?_
      refine w_g_on rfl rfl hg3 ?_
      refine w_move (by constructor) ?_
      refine w_g_on rfl rfl hg3 ?_
      refine w_neq rfl rfl ?_
      refine w_pick_0 rfl hg3 (by constructor) ?_
      try simp only [Int.toNat_natCast] at hg3
      exact hRR _ (EL.cons (.inr (by first | rfl | (simp only [hg3, els]; done) | (simp only [hg3, els]; rfl) | simp [hg3])) (EL.cons (.inl rfl) (EL.cons (.inl rfl) (EL.cons (.inl rfl) (EL.cons (.inr rfl) (EL.cons (.inr rfl) (EL.cons (.inr rfl) (EL.cons (.inr rfl) (EL.refl _)))))))))
    · have hg3 := eq_true_of_ne_false hg3
      refine w_g_off rfl rfl (by rw [hg3]; decide) ?_
      refine w_g_off rfl rfl (by rw [hg3]; decide) ?_
      refine w_pick_1 rfl hg3 (by constructor) ?_
      try simp only [Int.toNat_natCast] at hg3
      exact hRR _ (EL.cons (.inr (by first | rfl | (simp only [hg3, els]; done) | (simp only [hg3, els]; rfl) | simp [hg3])) (EL.cons (.inl rfl) (EL.cons (.inl rfl) (EL.cons (.inl rfl) (EL.cons (.inr rfl) (EL.cons (.inr rfl) (EL.cons (.inr rfl) (EL.cons (.inr rfl) (EL.refl _)))))))))
  refine snd_cond _ rfl (fun hc38 => ?_) (fun hc38 => ?_)
  · skip
    exact absurd hc38 (by simp [eqN])
  · skip
    refine snd_skip ?_
    apply sr tokTB (by kernel_rfl)
    · intro RR hRR
      refine w_assign (by constructor) ?_
      exact hRR
    refine snd_ret ?_
    exact rt (T := TB) (fun V => by first | exact m_bool rfl | exact m_int rfl)
theorem lAnnulusNumber_no {p n q m : Int} {T S : Nat → Nat → Nat → Int} {fo go : Nat → Int} {Y : Nat → Nat → Int} (hT : RB T) (hf : RV fo) (hS : RB S) (hg : RV go) (hY : ∀ i, RV (Y i)) (hN : ¬ PR p n T fo q m S go Y) {u w : Nat → Int} (hu : RV u) (hw : RV w) : ACalls Try.prog TB 12 [prA p n T fo q m S go Y, vecA u, vecA w] (.bool true) [] := by
  refine acalls_of tokTB Try.func12 rfl rfl (Nat.le_of_ble_eq_true rfl) ?_
  apply sr tokTB (by kernel_rfl)
  · intro RR hRR
    refine w_boxc (HV.eq (by constructor)) (by exact trivial) ?_
    refine w_boxc (HV.eq (by constructor)) (by exact trivial) ?_
    refine w_boxc (HV.eq (by constructor)) (by exact trivial) ?_
    refine w_assign (by constructor) ?_
    exact hRR
  apply sd tokTB mixed (by kernel_rfl) (by kernel_rfl)
  · intro RR hRR
    refine w_ldc rfl kn50 (by constructor) (by exact sz50.symm) (by exact ag50.symm) ?_
    refine w_call0 rfl (exc exp_pr exn) (c_toPair) (by exact nr_pr) (fun _ => by exact shift_pr) ?_
    refine w_ldc rfl kn22 (by constructor) (by exact sz22.symm) (by exact ag22.symm) ?_
    refine y_call rfl (ec exn) (c_toVector) ?_
    refine w_ldc rfl kn22 (by constructor) (by exact sz22.symm) (by exact ag22.symm) ?_
    refine y_call rfl (ec exn) (c_toVector) ?_
    refine y_call rfl (exc exp_pr (exc (by exact rfl) (exc (by exact rfl) exn))) (c_sAnnulusNumber_no hT hf hS hg hY hN hu hw) ?_
    refine w_move (by constructor) ?_
    refine w_ext rfl (by decide) (by constructor) ?_
    refine w_ext rfl (by decide) (by constructor) ?_
    refine w_assign (by constructor) ?_
    refine w_assign (by constructor) ?_
    exact hRR
  apply sd tokTB mixed (by kernel_rfl) (by kernel_rfl)
  · intro RR hRR
    refine w_ldc rfl kn50 (by constructor) (by exact sz50.symm) (by exact ag50.symm) ?_
    refine w_call0 rfl (exc exp_pr exn) (c_toPair) (by exact nr_pr) (fun _ => by exact shift_pr) ?_
    refine w_ldc rfl kn22 (by constructor) (by exact sz22.symm) (by exact ag22.symm) ?_
    refine y_call rfl (ec exn) (c_toVector) ?_
    refine w_ldc rfl kn22 (by constructor) (by exact sz22.symm) (by exact ag22.symm) ?_
    refine y_call rfl (ec exn) (c_toVector) ?_
    refine y_call rfl (exc exp_pr (exc (by exact rfl) (exc (by exact rfl) exn))) (c_iAnnulusNumber_no hT hf hS hg hY hN hu hw) ?_
    refine w_move (by constructor) ?_
    refine w_ext rfl (by decide) (by constructor) ?_
    refine w_ext rfl (by decide) (by constructor) ?_
    refine w_assign (by constructor) ?_
    refine w_assign (by constructor) ?_
    exact hRR
  refine snd_seq ?_
  apply srG (env' := (38, .bool (decide ((0 : Int) ≠ (0 : Int)) || decide ((1 : Int) ≠ 1))) :: (37, .any) :: (36, .any) :: (35, .any) :: (34, _) :: (33, _) :: (32, _) :: (31, _) :: _) tokTB (by kernel_rfl)
  · intro RR hRR
    refine w_move (by constructor) ?_
    refine w_move (by constructor) ?_
    refine w_neq rfl rfl ?_
    refine w_move (by constructor) ?_
    refine w_g rfl rfl (fun hg3 => ?_) (fun hg3 => ?_)
    · skip
      refine w_move (by constructor) ?_
      refine w_g_on rfl rfl hg3 ?_
      refine w_move (by constructor) ?_
      refine w_g_on rfl rfl hg3 ?_
      refine w_neq rfl rfl ?_
      refine w_pick_0 rfl hg3 (by constructor) ?_
      try simp only [Int.toNat_natCast] at hg3
      exact hRR _ (EL.cons (.inr (by first | rfl | (simp only [hg3, els]; done) | (simp only [hg3, els]; rfl) | simp [hg3])) (EL.cons (.inl rfl) (EL.cons (.inl rfl) (EL.cons (.inl rfl) (EL.cons (.inr rfl) (EL.cons (.inr rfl) (EL.cons (.inr rfl) (EL.cons (.inr rfl) (EL.refl _)))))))))
    · have hg3 := eq_true_of_ne_false hg3
      refine w_g_off rfl rfl (by rw [hg3]; decide) ?_
      refine w_g_off rfl rfl (by rw [hg3]; decide) ?_
      refine w_pick_1 rfl hg3 (by constructor) ?_
      try simp only [Int.toNat_natCast] at hg3
      exact hRR _ (EL.cons (.inr (by first | rfl | (simp only [hg3, els]; done) | (simp only [hg3, els]; rfl) | simp [hg3])) (EL.cons (.inl rfl) (EL.cons (.inl rfl) (EL.cons (.inl rfl) (EL.cons (.inr rfl) (EL.cons (.inr rfl) (EL.cons (.inr rfl) (EL.cons (.inr rfl) (EL.refl _)))))))))
  refine snd_cond _ rfl (fun hc38 => ?_) (fun hc38 => ?_)
  · skip
    exact absurd hc38 (by simp [eqN])
  · skip
    refine snd_skip ?_
    apply sr tokTB (by kernel_rfl)
    · intro RR hRR
      refine w_assign (by constructor) ?_
      exact hRR
    refine snd_ret ?_
    exact rt (T := TB) (fun V => by first | exact m_bool rfl | exact m_int rfl)
theorem law_AnnulusNumber {p n q m : Int} {T S : Nat → Nat → Nat → Int} {fo go : Nat → Int} {Y : Nat → Nat → Int} (hT : RB T) (hf : RV fo) (hS : RB S) (hg : RV go) (hY : ∀ i, RV (Y i)) {u w : Nat → Int} (hu : RV u) (hw : RV w) : ACalls Try.prog TB 12 [prA p n T fo q m S go Y, vecA u, vecA w] (.bool true) [] := by
  by_cases hN : PR p n T fo q m S go Y
  · obtain ⟨a, b, rfl, rfl, rfl, hP⟩ := hN
    by_cases ha : ∀ i, i < 2 → smP q (b : Int) (vs2 u w i)
    · exact lAnnulusNumber_ok hP hY hu hw ha
    · exact lAnnulusNumber_ns hP hY hu hw ha
  · exact lAnnulusNumber_no hT hf hS hg hY hN hu hw
end Go.Am

