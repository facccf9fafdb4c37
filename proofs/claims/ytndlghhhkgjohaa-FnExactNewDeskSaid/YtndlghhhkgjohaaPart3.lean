/- Part 3 of what the law stands on: abstract values, their walk, contracts of functions. My own work. Conditions: none. -/
import Derived.Test.YtndlghhhkgjohaaPart2
import Derived.Test.YtndlghhhkgjohaaProg
import Derived.WalkKit
import Derived.Deep.RegionLaw
import Derived.Lib.SliceRun
import Derived.Lib.Walk
set_option linter.unusedVariables false
namespace Go.Am
def theTab : Tab := [
  (1, .fnc, 1, 8),
  (2, .int .i64, 1, 8),
  (3, .int .i64, 1, 8),
  (4, .bool, 1, 1),
  (5, .int .u8, 1, 1),
  (9, .str, 1, 16),
  (12, .int .u64, 1, 8),
  (13, .sct [(9, 0), (12, 1)], 2, 24),
  (21, .int .i32, 1, 4),
  (22, .arr 6 5, 6, 6),
  (23, .arr 6 22, 36, 36),
  (24, .arr 6 23, 216, 216),
  (25, .arr 6 5, 6, 6),
  (26, .sct [(2, 0), (2, 1), (24, 2), (25, 218)], 224, 240),
  (27, .sct [(2, 0), (2, 1), (24, 2), (25, 218)], 224, 240),
  (28, .sct [(27, 0), (25, 224), (25, 230), (9, 236)], 237, 272),
  (29, .sct [(27, 0), (25, 224), (25, 230), (9, 236)], 237, 272),
  (30, .fnc, 1, 8),
  (31, .fnc, 1, 8),
  (32, .fnc, 1, 8),
  (33, .sct [(2, 0), (23, 1)], 37, 48),
  (34, .sct [(2, 0), (23, 1)], 37, 48),
  (35, .slc 62, 1, 24),
  (37, .fnc, 1, 8),
  (38, .sct [(2, 0), (23, 1)], 37, 48),
  (39, .fnc, 1, 8),
  (40, .fnc, 1, 8),
  (41, .fnc, 1, 8),
  (42, .fnc, 1, 8),
  (44, .fnc, 1, 8),
  (45, .fnc, 1, 8),
  (46, .fnc, 1, 8),
  (47, .slc 25, 1, 24),
  (49, .fnc, 1, 8),
  (50, .fnc, 1, 8),
  (51, .fnc, 1, 8),
  (53, .fnc, 1, 8),
  (54, .fnc, 1, 8),
  (55, .fnc, 1, 8),
  (56, .fnc, 1, 8),
  (57, .fnc, 1, 8),
  (58, .fnc, 1, 8),
  (59, .fnc, 1, 8),
  (60, .fnc, 1, 8),
  (61, .fnc, 1, 8),
  (62, .slc 2, 1, 24),
  (63, .fnc, 1, 8),
  (64, .fnc, 1, 8),
  (65, .arr 6 2, 6, 48),
  (66, .fnc, 1, 8),
  (67, .fnc, 1, 8),
  (68, .fnc, 1, 8),
  (69, .fnc, 1, 8),
  (70, .fnc, 1, 8),
  (71, .fnc, 1, 8),
  (72, .fnc, 1, 8),
  (73, .fnc, 1, 8),
  (74, .fnc, 1, 8),
  (76, .fnc, 1, 8),
  (77, .fnc, 1, 8),
  (78, .fnc, 1, 8),
  (79, .fnc, 1, 8),
  (80, .fnc, 1, 8),
  (81, .arr 6 4, 6, 6),
  (82, .fnc, 1, 8),
  (83, .fnc, 1, 8),
  (84, .fnc, 1, 8),
  (85, .ptr 38, 1, 8),
  (86, .fnc, 1, 8),
  (87, .fnc, 1, 8),
  (88, .fnc, 1, 8),
  (89, .fnc, 1, 8),
  (90, .fnc, 1, 8),
  (91, .fnc, 1, 8),
  (92, .fnc, 1, 8),
  (93, .slc 95, 1, 24),
  (94, .fnc, 1, 8),
  (95, .arr 3 3, 3, 24),
  (96, .fnc, 1, 8),
  (97, .ptr 27, 1, 8),
  (99, .fnc, 1, 8),
  (100, .fnc, 1, 8),
  (101, .fnc, 1, 8),
  (102, .fnc, 1, 8),
  (103, .fnc, 1, 8),
  (104, .arr 3 2, 3, 24),
  (105, .arr 6 104, 18, 144),
  (106, .fnc, 1, 8),
  (107, .slc 108, 1, 24),
  (108, .fnc, 1, 8),
  (109, .fnc, 1, 8),
  (110, .fnc, 1, 8),
  (111, .fnc, 1, 8),
  (112, .fnc, 1, 8),
  (113, .int .u64, 1, 8),
  (115, .fnc, 1, 8),
  (116, .fnc, 1, 8),
  (117, .fnc, 1, 8),
  (118, .fnc, 1, 8),
  (119, .fnc, 1, 8),
  (120, .fnc, 1, 8),
  (121, .fnc, 1, 8),
  (122, .fnc, 1, 8),
  (123, .int .i64, 1, 8),
  (125, .fnc, 1, 8),
  (126, .fnc, 1, 8),
  (127, .fnc, 1, 8),
  (128, .fnc, 1, 8),
  (130, .fnc, 1, 8),
  (131, .fnc, 1, 8),
  (132, .int .u32, 1, 4),
  (133, .fnc, 1, 8),
  (134, .int .u64, 1, 8),
  (135, .fnc, 1, 8),
  (136, .fnc, 1, 8),
  (137, .fnc, 1, 8),
  (138, .int .u64, 1, 8),
  (139, .fnc, 1, 8),
  (140, .fnc, 1, 8),
  (141, .fnc, 1, 8),
  (142, .ptr 3, 1, 8),
  (143, .fnc, 1, 8),
  (144, .fnc, 1, 8),
  (145, .fnc, 1, 8),
  (146, .fnc, 1, 8),
  (147, .fnc, 1, 8),
  (148, .fnc, 1, 8),
  (149, .fnc, 1, 8),
  (150, .ptr 138, 1, 8),
  (152, .fnc, 1, 8),
  (153, .fnc, 1, 8),
  (154, .fnc, 1, 8),
  (162, .fnc, 1, 8),
  (163, .ptr 5, 1, 8)]
def TB : TT := mkT theTab
theorem tokTB : TOk Go.Proofs.Try.prog TB := tok (by kernel_rfl)
theorem mixed : Go.Proofs.Try.prog.follows .mixedOrders = true := by kernel_rfl
theorem und2 : TB.und 2 = .int .i64 := by kernel_rfl
theorem sz2 : TB.sz 2 = 1 := by kernel_rfl
theorem by2 : TB.by_ 2 = 8 := by kernel_rfl
theorem kn2 : (TB.und 2).known = true := by kernel_rfl
theorem ag2 : (TB.und 2).isAgg = false := by kernel_rfl
theorem nz2 : TB.sz 2 ≠ 0 := by rw [sz2]; decide
theorem sz3 : TB.sz 3 = 1 := by kernel_rfl
theorem kn3 : (TB.und 3).known = true := by kernel_rfl
theorem ag3 : (TB.und 3).isAgg = false := by kernel_rfl
theorem zr3 : TB.zero 3 = .int .i64 0 := by kernel_rfl
theorem und5 : TB.und 5 = .int .u8 := by kernel_rfl
theorem sz5 : TB.sz 5 = 1 := by kernel_rfl
theorem kn5 : (TB.und 5).known = true := by kernel_rfl
theorem ag5 : (TB.und 5).isAgg = false := by kernel_rfl
theorem und9 : TB.und 9 = .str := by kernel_rfl
theorem sz9 : TB.sz 9 = 1 := by kernel_rfl
theorem kn9 : (TB.und 9).known = true := by kernel_rfl
theorem ag9 : (TB.und 9).isAgg = false := by kernel_rfl
theorem nz9 : TB.sz 9 ≠ 0 := by rw [sz9]; decide
theorem und22 : TB.und 22 = .arr 6 5 := by kernel_rfl
theorem sz22 : TB.sz 22 = 6 := by kernel_rfl
theorem kn22 : (TB.und 22).known = true := by kernel_rfl
theorem ag22 : (TB.und 22).isAgg = true := by kernel_rfl
theorem und23 : TB.und 23 = .arr 6 22 := by kernel_rfl
theorem sz23 : TB.sz 23 = 36 := by kernel_rfl
theorem kn23 : (TB.und 23).known = true := by kernel_rfl
theorem ag23 : (TB.und 23).isAgg = true := by kernel_rfl
theorem und24 : TB.und 24 = .arr 6 23 := by kernel_rfl
theorem sz24 : TB.sz 24 = 216 := by kernel_rfl
theorem kn24 : (TB.und 24).known = true := by kernel_rfl
theorem ag24 : (TB.und 24).isAgg = true := by kernel_rfl
theorem nz24 : TB.sz 24 ≠ 0 := by rw [sz24]; decide
theorem und25 : TB.und 25 = .arr 6 5 := by kernel_rfl
theorem sz25 : TB.sz 25 = 6 := by kernel_rfl
theorem by25 : TB.by_ 25 = 6 := by kernel_rfl
theorem kn25 : (TB.und 25).known = true := by kernel_rfl
theorem ag25 : (TB.und 25).isAgg = true := by kernel_rfl
theorem nz25 : TB.sz 25 ≠ 0 := by rw [sz25]; decide
theorem zr25 : TB.zero 25 = .arr 6 (fun _ => .int .u8 0) := by kernel_rfl
theorem und27 : TB.und 27 = .sct [(2, 0), (2, 1), (24, 2), (25, 218)] := by kernel_rfl
theorem sz27 : TB.sz 27 = 224 := by kernel_rfl
theorem kn27 : (TB.und 27).known = true := by kernel_rfl
theorem ag27 : (TB.und 27).isAgg = true := by kernel_rfl
theorem nz27 : TB.sz 27 ≠ 0 := by rw [sz27]; decide
theorem und29 : TB.und 29 = .sct [(27, 0), (25, 224), (25, 230), (9, 236)] := by kernel_rfl
theorem sz29 : TB.sz 29 = 237 := by kernel_rfl
theorem kn29 : (TB.und 29).known = true := by kernel_rfl
theorem ag29 : (TB.und 29).isAgg = true := by kernel_rfl
theorem und35 : TB.und 35 = .slc 62 := by kernel_rfl
theorem und47 : TB.und 47 = .slc 25 := by kernel_rfl
theorem und62 : TB.und 62 = .slc 2 := by kernel_rfl
theorem sz62 : TB.sz 62 = 1 := by kernel_rfl
theorem by62 : TB.by_ 62 = 24 := by kernel_rfl
theorem kn62 : (TB.und 62).known = true := by kernel_rfl
theorem ag62 : (TB.und 62).isAgg = false := by kernel_rfl
theorem und65 : TB.und 65 = .arr 6 2 := by kernel_rfl
theorem sz65 : TB.sz 65 = 6 := by kernel_rfl
theorem kn65 : (TB.und 65).known = true := by kernel_rfl
theorem ag65 : (TB.und 65).isAgg = true := by kernel_rfl
theorem zr65 : TB.zero 65 = .arr 6 (fun _ => .int .i64 0) := by kernel_rfl
theorem sz97 : TB.sz 97 = 1 := by kernel_rfl
theorem kn97 : (TB.und 97).known = true := by kernel_rfl
theorem ag97 : (TB.und 97).isAgg = false := by kernel_rfl
theorem und107 : TB.und 107 = .slc 108 := by kernel_rfl
theorem sz108 : TB.sz 108 = 1 := by kernel_rfl
theorem by108 : TB.by_ 108 = 8 := by kernel_rfl
theorem kn108 : (TB.und 108).known = true := by kernel_rfl
theorem ag108 : (TB.und 108).isAgg = false := by kernel_rfl
theorem zr27 : TB.zero 27 = algA 0 0 (fun _ _ _ => 0) (fun _ => 0) := by
  refine congrArg (AV.sct 4) (funext fun i => ?_)
  match i with
  | 0 => rfl
  | 1 => rfl
  | 2 => rfl
  | 3 => rfl
  | n + 4 => rfl
theorem mi {V : Vw} {k : IntKind} {a b : Int} (h : b = a := by first | rfl | omega | (simp; done) | (simp; omega)) : MtE V (.int k a) (.int k b) := m_int h
theorem sx {a b : AV} (h : ssh a b := by first | exact trivial | exact ssh_vec | exact ssh_alg | exact ssh_grp | exact ssh_dsk | exact ssh_pr | exact sshTn trivial | exact ssh_tab | exact ssh_mat | exact ⟨rfl, fun _ => trivial⟩ | exact ⟨rfl, fun _ => by rw [zr25]; exact ssh_vec⟩ | exact ⟨rfl, fun k => by match k with | 0 => exact trivial | 1 => exact trivial | 2 => exact trivial | 3 => exact trivial | 4 => exact trivial | k + 5 => exact trivial⟩) : ssh a b := h
end Go.Am

set_option linter.unusedVariables false
set_option linter.unusedSimpArgs false
namespace Go.Am
open Go.Proofs Go.RowKit
set_option maxHeartbeats 4000000 in
set_option maxRecDepth 100000 in
theorem del_low : DelC Try.prog 127 (.slice none 0 0) := by
  intro w b cap n a cur e hb hn hcap hcs ha h1
  simp only [maxLen] at hcap
  obtain ⟨news, hnews⟩ : ∃ news, news = (cur.toList.drop (a + 1)).take (n - 1 - a) := ⟨_, rfl⟩
  rw [← hnews]
  have hlen : news.length = n - (a + 1) := by rw [hnews]; simp; omega
  have hget : ∀ t, t < n - (a + 1) → news[t]? = some (cur.getD (a + 1 + t) undef) := by
    intro t ht
    rw [hnews, List.getElem?_take, if_pos (by omega), List.getElem?_drop]
    simp [show a + 1 + t < cur.size by omega]
  have hcell : ∀ j, j < n → w.cell? ⟨b, j, none⟩ = some (cur.getD j undef) := by
    intro j hj
    simp [World.cell?, hb, show j < cur.size by omega]
  have hfr : ∀ (w' : World) (c' : Array Value) (e' : TypeId) j, w'.heap[b]? = some (.cells c' e' (0, 0)) → w'.frozen? ⟨b, j, none⟩ = false := by
    intro w' c' e' j h
    simp [World.frozen?, h]
  obtain ⟨A, hA, hsrc⟩ : ∃ A : Addr, (if cap = a + 1 then some (⟨b, 0, none⟩ : Addr) else some ⟨b, a + 1, none⟩) = some A ∧ Hid (∀ t u, news[t]? = some u → w.drew.cell? (A.add t) = some u) := by
    by_cases h : cap = a + 1
    · refine ⟨⟨b, 0, none⟩, by simp [h], fun t u hu => ?_⟩
      have h0 : news.length = 0 := by rw [hlen]; omega
      rw [List.length_eq_zero_iff.1 h0] at hu
      simp at hu
    · refine ⟨⟨b, a + 1, none⟩, by simp [h], fun t u hu => ?_⟩
      have ht : t < n - (a + 1) := by
        have := (List.getElem?_eq_some_iff.1 hu).1
        rwa [hlen] at this
      rw [hget t ht] at hu
      rw [Addr.add_lit]
      exact (hcell (a + 1 + t) (by omega)).trans hu
  have s1 : Hid (news.length = (n - (a + 1)) * 1) := by rw [Nat.mul_one]; exact hlen
  have s2 : Hid (∀ u ∈ news, u.oneCell' = true) := by
    intro u hu
    rw [hnews] at hu
    have := List.mem_of_mem_take hu
    refine h1 u ?_
    obtain ⟨j, hj⟩ := List.mem_iff_getElem?.1 hu
    have hjl : j < n - (a + 1) := by
      have := (List.getElem?_eq_some_iff.1 hj).1
      rw [← hnews, hlen] at this; exact this
    have := hget j hjl
    rw [hnews, hj] at this
    rw [List.mem_iff_getElem?]
    refine ⟨a + 1 + j, ?_⟩
    rw [List.getElem?_take, if_pos (by omega), this]
    simp [show a + 1 + j < cur.size by omega]
  have s3 : Hid (∀ t, t < news.length → (w.drew.cell? ⟨b, 0 + a * 1 + t, none⟩).isSome = true ∧ w.drew.frozen? ⟨b, 0 + a * 1 + t, none⟩ = false) := by
    intro t ht
    rw [hlen] at ht
    refine ⟨?_, hfr _ _ _ _ hb⟩
    show (w.cell? _).isSome = true
    rw [hcell _ (by omega)]; rfl
  obtain ⟨W1, hW1⟩ : ∃ W1, W1 = w.drew.setCells b (0 + a * 1) news := ⟨_, rfl⟩
  obtain ⟨c1, c2, c3, c4, c5, c6⟩ := setCells_facts b news (0 + a * 1) w.drew cur e (0, 0) hb
  rw [← hW1] at c1
  have hcl : ∀ ty, (Builtin.clear_ #[35] ty #[.slice (some ⟨b, a + (n - (a + 1)), none⟩) (n - (a + (n - (a + 1)))) (cap - (a + (n - (a + 1))))]).run Try.prog W1 = .ok (.tuple #[]) (W1.setCells b (a + (n - (a + 1))) (List.replicate (n - (a + (n - (a + 1)))) (.slice none 0 0))) :=
    fun ty => Lib.run_clear_slice W1 _ _ ty _ Try.underlying35 Try.zeroValue62 rfl rfl b _ _ _ (by omega) (fun t ht => by
      simp [World.cell?, c1, setL_size]; omega) (fun t ht => hfr _ _ _ _ c1)
  have hW : Hid (W1 = w.drew.setCells b (0 + a * 1) news) := hW1
  have hic : a ≤ cap := by omega
  have hjc : a + 1 ≤ cap := by omega
  have hq1 : (0 : Int) ≤ (a : Int) + 1 := by omega
  have hq2 : (a : Int) + 1 ≤ (n : Int) := by omega
  have hlast : n - (a + (n - (a + 1))) = 1 := by omega
  have hl2 : a + (n - (a + 1)) = n - 1 := by omega
  have X1 : Hid (n - (a + (n - (a + 1))) = 1) := hlast
  have X2 : Hid (a + (n - (a + 1)) = n - 1) := hl2
  clear hlast hl2 hW1
  clear c1 c2 c3 c4 c5 c6 hget hcell hfr hnews hlen h1
  go_enter Try.func127, Try.ntmps127
  go_wp2_with fail
  go_region_law (refine step_append_room rfl (.tmp 22) (.tmp 25) 35 rfl 62 Try.t62 1 Try.underlying35 (by kernel_rfl) (by kernel_rfl) b 0 a cap (by simp [Act.eval, Act.put]) A (n - (a + 1)) (cap - (a + 1)) news (by simp [Act.eval, Act.put]) s1.out hsrc.out s2.out (by omega) s3.out ?_; rw [← hW.out])
  go_wp2
  go_ret
  rw [X1.out, X2.out, hW.out, Nat.zero_add (n - 1)]
  exact ⟨rfl, rfl⟩
end Go.Am

set_option linter.unusedVariables false
set_option linter.unusedSimpArgs false
set_option maxRecDepth 4000
namespace Go.Am
attribute [local irreducible] retQ retQp
open Go.Proofs
theorem c_n {p n : Int} {T : Nat → Nat → Nat → Int} {fo : Nat → Int} : ACalls Try.prog TB 84 [.cptr (algA p n T fo)] (.int .i64 n) [] := by
  refine acalls_of tokTB Try.func84 rfl rfl (Nat.le_of_ble_eq_true rfl) ?_
  apply sr tokTB (by kernel_rfl)
  · intro RR hRR
    refine w_assign (by constructor) ?_
    exact hRR
  apply sr tokTB (by kernel_rfl)
  · intro RR hRR
    refine w_move (by constructor) ?_
    refine w_nilc rfl ?_
    refine w_fac rfl und27 rfl kn2 nz2 (by decide) rfl (by constructor) ?_
    refine w_ldc rfl kn2 (by constructor) (by exact sz2.symm) (by exact ag2.symm) ?_
    refine w_assign (by constructor) ?_
    exact hRR
  refine snd_ret ?_
  exact rt (T := TB) (fun V => by first | exact m_bool rfl | exact m_int rfl)
theorem c_l01Mod {p x : Int} (hp : 0 < p) (hp2 : p < 4294967296) : ACalls Try.prog TB 132 [.int .i64 p, .int .i64 x] (.int .i64 (x % p)) [] := by
  have h1 := tmod_lo x hp
  have h2 := tmod_hi x hp
  refine acalls_of tokTB Try.func132 rfl rfl (Nat.le_of_ble_eq_true rfl) ?_
  apply sr tokTB (by kernel_rfl)
  · intro RR hRR
    refine w_assign (by constructor) ?_
    exact hRR
  apply sr tokTB (by kernel_rfl)
  · intro RR hRR
    refine w_move (by constructor) ?_
    refine w_move (by constructor) ?_
    refine w_rem rfl rfl (by first | assumption | omega) ?_
    refine w_move (by constructor) ?_
    refine y_add rfl rfl ?_
    refine w_move (by constructor) ?_
    refine w_rem rfl rfl (by first | assumption | omega) ?_
    refine w_assign (by constructor) ?_
    exact hRR
  refine snd_ret ?_
  exact rt (T := TB) (fun V => m_int (tmod_add hp))
theorem c_rest {p x : Int} (hp : 0 < p) (hp2 : p < 4294967296) : ACalls Try.prog TB 134 [.int .i64 x, .int .i64 p] (.int .i64 (x % p)) [] := by
  have h1 := tmod_lo x hp
  have h2 := tmod_hi x hp
  refine acalls_of tokTB Try.func134 rfl rfl (Nat.le_of_ble_eq_true rfl) ?_
  apply sr tokTB (by kernel_rfl)
  · intro RR hRR
    refine w_assign (by constructor) ?_
    exact hRR
  apply sr tokTB (by kernel_rfl)
  · intro RR hRR
    refine w_move (by constructor) ?_
    refine w_move (by constructor) ?_
    refine w_rem rfl rfl (by first | assumption | omega) ?_
    refine w_move (by constructor) ?_
    refine y_add rfl rfl ?_
    refine w_move (by constructor) ?_
    refine w_rem rfl rfl (by first | assumption | omega) ?_
    refine w_assign (by constructor) ?_
    exact hRR
  refine snd_ret ?_
  exact rt (T := TB) (fun V => m_int (tmod_add hp))
theorem c_l01Basis {i : Nat} (hi : i < 6) : ACalls Try.prog TB 92 [.int .i64 (i : Int)] (vecA (eF i)) [] := by
  refine acalls_of tokTB Try.func92 rfl rfl (Nat.le_of_ble_eq_true rfl) ?_
  apply sr tokTB (by kernel_rfl)
  · intro RR hRR
    refine w_alloc kn25 rfl zr25 ?_
    exact hRR
  apply sr tokTB (by kernel_rfl)
  · intro RR hRR
    refine w_bld_a kn25 zr25 und25 kn5 (fun _ => (by exact sz5.symm)) trivial rfl (by exact sz5.symm) ?_
    refine w_alloc kn25 rfl zr25 ?_
    refine w_stw rfl (by constructor) kn25 rfl (by exact trivial) (sx) (by exact sz25.symm) ?_
    exact hRR
  apply sr tokTB (by kernel_rfl)
  · intro RR hRR
    refine w_move (by constructor) ?_
    refine w_iap rfl rfl und25 kn5 rfl (by exact sz5.symm) rfl ?_ ?_
    · exact ⟨by omega, by omega⟩
    first | refine w_stw rfl (by constructor) kn5 rfl (by exact trivial) (sx) (by exact sz5.symm) ?_ | refine w_sti rfl rfl kn5 rfl (by exact trivial) (by exact sz5.symm) ?_ | refine w_store rfl (HV.eq (by constructor)) kn5 rfl (by exact trivial) (sx) (by exact sz5.symm) (put_in (by first | exact put_mat | exact put_tab | exact put_alg0 | exact put_pr0 | exact put_pr1 | exact put_pr2 | exact put_tn4 | exact put_grp0 | exact put_grp1 | exact put_alg1 | exact put_alg2 | exact put_alg3 | exact put_alg3i | exact put_alg2ij | exact put_alg2ijk | exact put_mat2 | exact put_tab2 | exact put_tab3)) ?_ | refine w_store rfl (HV.eq (by constructor)) kn5 rfl (by exact trivial) (by exact trivial) (by exact sz5.symm) rfl ?_
    exact hRR
  apply sr tokTB (by kernel_rfl)
  · intro RR hRR
    refine w_ldp rfl kn25 rfl (by constructor) (by exact sz25.symm) (by exact ag25.symm) ?_
    refine w_stw rfl (by constructor) kn25 rfl (by exact trivial) (sx) (by exact sz25.symm) ?_
    exact hRR
  refine snd_ret ?_
  exact rt_c (T := TB) rfl kn25 rfl sz25.symm ag25.symm (fun V => m_vec (fun j hj => rfl))
theorem c_basis {i : Nat} (hi : i < 6) : ACalls Try.prog TB 45 [.int .i64 (i : Int)] (vecA (eF i)) [] := by
  refine acalls_of tokTB Try.func45 rfl rfl (Nat.le_of_ble_eq_true rfl) ?_
  apply sr tokTB (by kernel_rfl)
  · intro RR hRR
    refine w_alloc kn25 rfl zr25 ?_
    exact hRR
  apply sr tokTB (by kernel_rfl)
  · intro RR hRR
    refine w_bld_a kn25 zr25 und25 kn5 (fun _ => (by exact sz5.symm)) trivial rfl (by exact sz5.symm) ?_
    refine w_alloc kn25 rfl zr25 ?_
    refine w_stw rfl (by constructor) kn25 rfl (by exact trivial) (sx) (by exact sz25.symm) ?_
    exact hRR
  apply sr tokTB (by kernel_rfl)
  · intro RR hRR
    refine w_move (by constructor) ?_
    refine w_iap rfl rfl und25 kn5 rfl (by exact sz5.symm) rfl ?_ ?_
    · exact ⟨by omega, by omega⟩
    first | refine w_stw rfl (by constructor) kn5 rfl (by exact trivial) (sx) (by exact sz5.symm) ?_ | refine w_sti rfl rfl kn5 rfl (by exact trivial) (by exact sz5.symm) ?_ | refine w_store rfl (HV.eq (by constructor)) kn5 rfl (by exact trivial) (sx) (by exact sz5.symm) (put_in (by first | exact put_mat | exact put_tab | exact put_alg0 | exact put_pr0 | exact put_pr1 | exact put_pr2 | exact put_tn4 | exact put_grp0 | exact put_grp1 | exact put_alg1 | exact put_alg2 | exact put_alg3 | exact put_alg3i | exact put_alg2ij | exact put_alg2ijk | exact put_mat2 | exact put_tab2 | exact put_tab3)) ?_ | refine w_store rfl (HV.eq (by constructor)) kn5 rfl (by exact trivial) (by exact trivial) (by exact sz5.symm) rfl ?_
    exact hRR
  apply sr tokTB (by kernel_rfl)
  · intro RR hRR
    refine w_ldp rfl kn25 rfl (by constructor) (by exact sz25.symm) (by exact ag25.symm) ?_
    refine w_stw rfl (by constructor) kn25 rfl (by exact trivial) (sx) (by exact sz25.symm) ?_
    exact hRR
  refine snd_ret ?_
  exact rt_c (T := TB) rfl kn25 rfl sz25.symm ag25.symm (fun V => m_vec (fun j hj => rfl))
end Go.Am

set_option linter.unusedVariables false
set_option linter.unusedSimpArgs false
set_option maxRecDepth 4000
namespace Go.Am
attribute [local irreducible] retQ retQp
open Go.Proofs
theorem c_l01Times {p : Int} {n : Nat} {T : Nat → Nat → Nat → Int} {fo u v : Nat → Int} (hp : 0 < p) (hp2 : p < 256) (hn : n ≤ 6) (hT : B8T T) (hu : B8 u) (hv : B8 v) : ACalls Try.prog TB 91 [algA p (n : Int) T fo, vecA u, vecA v] (vecA (timesF p n T u v)) [] := by
  refine acalls_of tokTB Try.func91 rfl rfl (Nat.le_of_ble_eq_true rfl) ?_
  apply sr tokTB (by kernel_rfl)
  · intro RR hRR
    refine w_boxc (HV.eq (by constructor)) (by exact trivial) ?_
    refine w_boxc (HV.eq (by constructor)) (by exact trivial) ?_
    refine w_boxc (HV.eq (by constructor)) (by exact trivial) ?_
    refine w_alloc kn25 rfl zr25 ?_
    exact hRR
  apply sr tokTB (by kernel_rfl)
  · intro RR hRR
    refine w_bld_a kn25 zr25 und25 kn5 (fun _ => (by exact sz5.symm)) trivial rfl (by exact sz5.symm) ?_
    refine w_alloc kn25 rfl zr25 ?_
    refine w_stw rfl (by constructor) kn25 rfl (by exact trivial) (sx) (by exact sz25.symm) ?_
    exact hRR
  refine snd_seq ?_
  apply sr tokTB (by kernel_rfl)
  · intro RR hRR
    refine w_assign (by constructor) ?_
    exact hRR
  refine snd_block ?_
  refine snd_loop (S := Nat) (fun k => ([(3, .cptr (algA p (n : Int) T fo)), (4, .cptr (vecA u)), (5, .cptr (vecA v)), (6, .ptr 6 0 [] 0 (vecA (fun _ => 0))), (7, .ptr 7 0 [] 0 (vecA (fun _ => 0))), (8, .int .i64 (k : Int))], [(6, .one (vecA (fun _ => 0)) (vecA (fun _ => 0))), (7, .one (vecA (fun _ => 0)) (vecA (cutF (timesF p n T u v) k)))])) (fun k => k ≤ n) (fun k => n - k) (0) ρ0 ?_ ?_ ?_
  · exact ⟨⟨m_calg, (m_cvec (fun _ _ => rfl)), (m_cvec (fun _ _ => rfl)), ⟨rfl, rfl, rfl, rfl, rfl⟩, ⟨rfl, rfl, rfl, rfl, rfl⟩, (mi), trivial⟩, ⟨⟨rfl, (sx), (by exact mt_vec (fun _ _ => rfl))⟩, ⟨rfl, (sx), (by exact mt_vec (fun j _ => rfl))⟩, trivial⟩, ⟨⟨(fun h => by first | exact ⟨rfl, rfl⟩ | exact absurd h (by decide)), (fun h => by first | exact ⟨rfl, rfl⟩ | exact absurd h (by decide)), trivial⟩, ⟨(fun h => by first | exact ⟨rfl, rfl⟩ | exact absurd h (by decide)), (fun h => by first | exact ⟨rfl, rfl⟩ | exact absurd h (by decide)), trivial⟩, trivial⟩⟩
  · exact Nat.zero_le _
  intro k hi0
  refine sq (env2 := [(3, .cptr (algA p (n : Int) T fo)), (4, .cptr (vecA u)), (5, .cptr (vecA v)), (6, .ptr 6 0 [] 0 (vecA (fun _ => 0))), (7, .ptr 7 0 [] 0 (vecA (fun _ => 0))), (8, .int .i64 (k : Int))]) (ol2 := [(6, .one (vecA (fun _ => 0)) (vecA (fun _ => 0))), (7, .one (vecA (fun _ => 0)) (vecA (cutF (timesF p n T u v) k)))]) rfl rfl ?_
  refine snd_seq ?_
  apply sr tokTB (by kernel_rfl)
  · intro RR hRR
    refine w_move (by constructor) ?_
    refine w_fac rfl und27 rfl kn2 nz2 (by decide) rfl (by constructor) ?_
    refine w_ldc rfl kn2 (by constructor) (by exact sz2.symm) (by exact ag2.symm) ?_
    refine w_lss rfl rfl ?_
    exact hRR
  refine snd_cond _ rfl (fun hc16 => ?_) (fun hc16 => ?_)
  · try simp only [hcs] at hc16
    refine snd_skip ?_
    refine snd_seq ?_
    refine snd_block ?_
    apply sr tokTB (by kernel_rfl)
    · intro RR hRR
      refine w_assign (by constructor) ?_
      exact hRR
    refine snd_seq ?_
    apply sr tokTB (by kernel_rfl)
    · intro RR hRR
      refine w_assign (by constructor) ?_
      exact hRR
    refine snd_block ?_
    refine snd_loop (S := Nat) (fun i => ([(3, .cptr (algA p (n : Int) T fo)), (4, .cptr (vecA u)), (5, .cptr (vecA v)), (6, .ptr 6 0 [] 0 (vecA (fun _ => 0))), (7, .ptr 7 0 [] 0 (vecA (fun _ => 0))), (8, .int .i64 (k : Int)), (9, .int .i64 (sumZ (rowS T u v n k) i)), (10, .int .i64 (i : Int))], [(6, .one (vecA (fun _ => 0)) (vecA (fun _ => 0))), (7, .one (vecA (fun _ => 0)) (vecA (cutF (timesF p n T u v) k)))])) (fun i => i ≤ n) (fun i => n - i) (0) ρ0 ?_ ?_ ?_
    · exact ⟨⟨m_calg, (m_cvec (fun _ _ => rfl)), (m_cvec (fun _ _ => rfl)), ⟨rfl, rfl, rfl, rfl, rfl⟩, ⟨rfl, rfl, rfl, rfl, rfl⟩, (mi), (mi), (mi), trivial⟩, ⟨⟨rfl, (sx), (by exact mt_vec (fun _ _ => rfl))⟩, ⟨rfl, (sx), (by exact mt_vec (fun _ _ => rfl))⟩, trivial⟩, ⟨⟨(fun h => by first | exact ⟨rfl, rfl⟩ | exact absurd h (by decide)), (fun h => by first | exact ⟨rfl, rfl⟩ | exact absurd h (by decide)), trivial⟩, ⟨(fun h => by first | exact ⟨rfl, rfl⟩ | exact absurd h (by decide)), (fun h => by first | exact ⟨rfl, rfl⟩ | exact absurd h (by decide)), trivial⟩, trivial⟩⟩
    · exact Nat.zero_le _
    intro i hi2
    refine sq (env2 := [(3, .cptr (algA p (n : Int) T fo)), (4, .cptr (vecA u)), (5, .cptr (vecA v)), (6, .ptr 6 0 [] 0 (vecA (fun _ => 0))), (7, .ptr 7 0 [] 0 (vecA (fun _ => 0))), (8, .int .i64 (k : Int)), (9, .int .i64 (sumZ (rowS T u v n k) i)), (10, .int .i64 (i : Int))]) (ol2 := [(6, .one (vecA (fun _ => 0)) (vecA (fun _ => 0))), (7, .one (vecA (fun _ => 0)) (vecA (cutF (timesF p n T u v) k)))]) rfl rfl ?_
    refine snd_seq ?_
    apply sr tokTB (by kernel_rfl)
    · intro RR hRR
      refine w_move (by constructor) ?_
      refine w_fac rfl und27 rfl kn2 nz2 (by decide) rfl (by constructor) ?_
      refine w_ldc rfl kn2 (by constructor) (by exact sz2.symm) (by exact ag2.symm) ?_
      refine w_lss rfl rfl ?_
      exact hRR
    refine snd_cond _ rfl (fun hc22 => ?_) (fun hc22 => ?_)
    · try simp only [hcs] at hc22
      refine snd_skip ?_
      refine snd_seq ?_
      refine snd_block ?_
      apply sr tokTB (by kernel_rfl)
      · intro RR hRR
        refine w_assign (by constructor) ?_
        exact hRR
      refine snd_block ?_
      refine snd_loop (S := Nat) (fun j => ([(3, .cptr (algA p (n : Int) T fo)), (4, .cptr (vecA u)), (5, .cptr (vecA v)), (6, .ptr 6 0 [] 0 (vecA (fun _ => 0))), (7, .ptr 7 0 [] 0 (vecA (fun _ => 0))), (8, .int .i64 (k : Int)), (9, .int .i64 (sumZ (rowS T u v n k) i + sumZ (tm T u v k i) j)), (10, .int .i64 (i : Int)), (11, .int .i64 (j : Int))], [(6, .one (vecA (fun _ => 0)) (vecA (fun _ => 0))), (7, .one (vecA (fun _ => 0)) (vecA (cutF (timesF p n T u v) k)))])) (fun j => j ≤ n) (fun j => n - j) (0) ρ0 ?_ ?_ ?_
      · exact ⟨⟨m_calg, (m_cvec (fun _ _ => rfl)), (m_cvec (fun _ _ => rfl)), ⟨rfl, rfl, rfl, rfl, rfl⟩, ⟨rfl, rfl, rfl, rfl, rfl⟩, (mi), (by exact m_int (by simp [sumZ])), (mi), (mi), trivial⟩, ⟨⟨rfl, (sx), (by exact mt_vec (fun _ _ => rfl))⟩, ⟨rfl, (sx), (by exact mt_vec (fun _ _ => rfl))⟩, trivial⟩, ⟨⟨(fun h => by first | exact ⟨rfl, rfl⟩ | exact absurd h (by decide)), (fun h => by first | exact ⟨rfl, rfl⟩ | exact absurd h (by decide)), trivial⟩, ⟨(fun h => by first | exact ⟨rfl, rfl⟩ | exact absurd h (by decide)), (fun h => by first | exact ⟨rfl, rfl⟩ | exact absurd h (by decide)), trivial⟩, trivial⟩⟩
      · exact Nat.zero_le _
      intro j hi4
      refine sq (env2 := [(3, .cptr (algA p (n : Int) T fo)), (4, .cptr (vecA u)), (5, .cptr (vecA v)), (6, .ptr 6 0 [] 0 (vecA (fun _ => 0))), (7, .ptr 7 0 [] 0 (vecA (fun _ => 0))), (8, .int .i64 (k : Int)), (9, .int .i64 (sumZ (rowS T u v n k) i + sumZ (tm T u v k i) j)), (10, .int .i64 (i : Int)), (11, .int .i64 (j : Int))]) (ol2 := [(6, .one (vecA (fun _ => 0)) (vecA (fun _ => 0))), (7, .one (vecA (fun _ => 0)) (vecA (cutF (timesF p n T u v) k)))]) rfl rfl ?_
      refine snd_seq ?_
      apply sr tokTB (by kernel_rfl)
      · intro RR hRR
        refine w_move (by constructor) ?_
        refine w_fac rfl und27 rfl kn2 nz2 (by decide) rfl (by constructor) ?_
        refine w_ldc rfl kn2 (by constructor) (by exact sz2.symm) (by exact ag2.symm) ?_
        refine w_lss rfl rfl ?_
        exact hRR
      refine snd_cond _ rfl (fun hc28 => ?_) (fun hc28 => ?_)
      · try simp only [hcs] at hc28
        refine snd_skip ?_
        refine snd_seq ?_
        refine snd_block ?_
        apply ld tokTB mixed (by kernel_rfl) (by kernel_rfl)
        · intro RR hRR
          refine w_move (by constructor) ?_
          refine w_move (by constructor) ?_
          refine w_iac rfl rfl und25 kn5 (by exact sz5.symm) ?_ rfl ?_
          · exact ⟨by omega, by omega⟩
          first | refine w_ldc rfl kn5 (by constructor) (by exact sz5.symm) (by exact ag5.symm) ?_ | refine w_ldp rfl kn5 rfl (by constructor) (by exact sz5.symm) (by exact ag5.symm) ?_
          refine y_conv rfl und5 und2 ?_
          refine w_move (by constructor) ?_
          refine w_iac rfl rfl und25 kn5 (by exact sz5.symm) ?_ rfl ?_
          · exact ⟨by omega, by omega⟩
          first | refine w_ldc rfl kn5 (by constructor) (by exact sz5.symm) (by exact ag5.symm) ?_ | refine w_ldp rfl kn5 rfl (by constructor) (by exact sz5.symm) (by exact ag5.symm) ?_
          refine y_conv rfl und5 und2 ?_
          refine w_mul rfl rfl (by exact w_uv hu hv i j) ?_
          refine w_move (by constructor) ?_
          refine w_move (by constructor) ?_
          refine w_move (by constructor) ?_
          refine w_fac rfl und27 rfl kn24 nz24 (by decide) rfl (by constructor) ?_
          refine w_iac rfl rfl und24 kn23 (by exact sz23.symm) ?_ rfl ?_
          · exact ⟨by omega, by omega⟩
          refine w_iac rfl rfl und23 kn22 (by exact sz22.symm) ?_ rfl ?_
          · exact ⟨by omega, by omega⟩
          refine w_iac rfl rfl und22 kn5 (by exact sz5.symm) ?_ rfl ?_
          · exact ⟨by omega, by omega⟩
          first | refine w_ldc rfl kn5 (by constructor) (by exact sz5.symm) (by exact ag5.symm) ?_ | refine w_ldp rfl kn5 rfl (by constructor) (by exact sz5.symm) (by exact ag5.symm) ?_
          refine y_conv rfl und5 und2 ?_
          refine w_mul rfl rfl (by exact w_tm hu hv hT k i j) ?_
          refine w_add rfl rfl (by exact w_acc hu hv hT hn k (by omega) (by omega)) ?_
          refine w_assign (by constructor) ?_
          exact hRR
        apply lr tokTB (by kernel_rfl)
        · intro RR hRR
          refine w_move (by constructor) ?_
          refine y_add rfl rfl ?_
          refine w_assign (by constructor) ?_
          exact hRR
        refine ⟨j + 1, ρ0, ?_, (by omega), (by dsimp only; omega)⟩
        exact ⟨⟨m_calg, (m_cvec (fun _ _ => rfl)), (m_cvec (fun _ _ => rfl)), ⟨rfl, rfl, rfl, rfl, rfl⟩, ⟨rfl, rfl, rfl, rfl, rfl⟩, (mi), (mi), (mi), (mi), trivial⟩, ⟨⟨rfl, (sx), (by exact mt_vec (fun _ _ => rfl))⟩, ⟨rfl, (sx), (by exact mt_vec (fun _ _ => rfl))⟩, trivial⟩, ⟨⟨(fun h => by first | exact ⟨rfl, rfl⟩ | exact absurd h (by decide)), (fun h => by first | exact ⟨rfl, rfl⟩ | exact absurd h (by decide)), trivial⟩, ⟨(fun h => by first | exact ⟨rfl, rfl⟩ | exact absurd h (by decide)), (fun h => by first | exact ⟨rfl, rfl⟩ | exact absurd h (by decide)), trivial⟩, trivial⟩⟩
      · try simp only [hcs] at hc28
        have hjn : n = j := by omega
        subst hjn
        refine snd_exit ?_
        apply lr tokTB (by kernel_rfl)
        · intro RR hRR
          refine w_move (by constructor) ?_
          refine y_add rfl rfl ?_
          refine w_assign (by constructor) ?_
          exact hRR
        refine ⟨i + 1, ρ0, ?_, (by omega), (by dsimp only; omega)⟩
        exact ⟨⟨m_calg, (m_cvec (fun _ _ => rfl)), (m_cvec (fun _ _ => rfl)), ⟨rfl, rfl, rfl, rfl, rfl⟩, ⟨rfl, rfl, rfl, rfl, rfl⟩, (mi), (mi), (mi), trivial⟩, ⟨⟨rfl, (sx), (by exact mt_vec (fun _ _ => rfl))⟩, ⟨rfl, (sx), (by exact mt_vec (fun _ _ => rfl))⟩, trivial⟩, ⟨⟨(fun h => by first | exact ⟨rfl, rfl⟩ | exact absurd h (by decide)), (fun h => by first | exact ⟨rfl, rfl⟩ | exact absurd h (by decide)), trivial⟩, ⟨(fun h => by first | exact ⟨rfl, rfl⟩ | exact absurd h (by decide)), (fun h => by first | exact ⟨rfl, rfl⟩ | exact absurd h (by decide)), trivial⟩, trivial⟩⟩
    · try simp only [hcs] at hc22
      have hin : n = i := by omega
      subst hin
      refine snd_exit ?_
      apply lr tokTB (by kernel_rfl)
      · intro RR hRR
        refine w_move (by constructor) ?_
        refine w_move (by constructor) ?_
        refine w_fac rfl und27 rfl kn2 nz2 (by decide) rfl (by constructor) ?_
        refine w_ldc rfl kn2 (by constructor) (by exact sz2.symm) (by exact ag2.symm) ?_
        refine w_rem rfl rfl (by first | assumption | omega) ?_
        refine w_conv rfl und2 und5 (by exact w_fin hu hv hT hn (by omega) hp hp2) ?_
        refine w_iap rfl rfl und25 kn5 rfl (by exact sz5.symm) rfl ?_ ?_
        · exact ⟨by omega, by omega⟩
        first | refine w_stw rfl (by constructor) kn5 rfl (by exact trivial) (sx) (by exact sz5.symm) ?_ | refine w_sti rfl rfl kn5 rfl (by exact trivial) (by exact sz5.symm) ?_ | refine w_store rfl (HV.eq (by constructor)) kn5 rfl (by exact trivial) (sx) (by exact sz5.symm) (put_in (by first | exact put_mat | exact put_tab | exact put_alg0 | exact put_pr0 | exact put_pr1 | exact put_pr2 | exact put_tn4 | exact put_grp0 | exact put_grp1 | exact put_alg1 | exact put_alg2 | exact put_alg3 | exact put_alg3i | exact put_alg2ij | exact put_alg2ijk | exact put_mat2 | exact put_tab2 | exact put_tab3)) ?_ | refine w_store rfl (HV.eq (by constructor)) kn5 rfl (by exact trivial) (by exact trivial) (by exact sz5.symm) rfl ?_
        exact hRR
      apply lr tokTB (by kernel_rfl)
      · intro RR hRR
        refine w_move (by constructor) ?_
        refine y_add rfl rfl ?_
        refine w_assign (by constructor) ?_
        exact hRR
      refine ⟨k + 1, ρ0, ?_, (by omega), (by dsimp only; omega)⟩
      exact ⟨⟨m_calg, (m_cvec (fun _ _ => rfl)), (m_cvec (fun _ _ => rfl)), ⟨rfl, rfl, rfl, rfl, rfl⟩, ⟨rfl, rfl, rfl, rfl, rfl⟩, (mi), trivial⟩, ⟨⟨rfl, (sx), (by exact mt_vec (fun _ _ => rfl))⟩, ⟨rfl, (sx), (by exact mt_vec (fun j _ => upd_cut _ k j))⟩, trivial⟩, ⟨⟨(fun h => by first | exact ⟨rfl, rfl⟩ | exact absurd h (by decide)), (fun h => by first | exact ⟨rfl, rfl⟩ | exact absurd h (by decide)), trivial⟩, ⟨(fun h => by first | exact ⟨rfl, rfl⟩ | exact absurd h (by decide)), (fun h => by first | exact ⟨rfl, rfl⟩ | exact absurd h (by decide)), trivial⟩, trivial⟩⟩
  · try simp only [hcs] at hc16
    have hkn : n = k := by omega
    subst hkn
    refine snd_exit ?_
    apply sr tokTB (by kernel_rfl)
    · intro RR hRR
      refine w_ldp rfl kn25 rfl (by constructor) (by exact sz25.symm) (by exact ag25.symm) ?_
      refine w_stw rfl (by constructor) kn25 rfl (by exact trivial) (sx) (by exact sz25.symm) ?_
      exact hRR
    refine snd_ret ?_
    exact rt_c (T := TB) rfl kn25 rfl sz25.symm ag25.symm (fun V => m_vec (fun j hj => timesF_cut j))
end Go.Am

set_option linter.unusedVariables false
set_option linter.unusedSimpArgs false
set_option maxRecDepth 4000
namespace Go.Am
attribute [local irreducible] retQ retQp
open Go.Proofs
theorem c_times {p : Int} {n : Nat} {T : Nat → Nat → Nat → Int} {fo u v : Nat → Int} (hp : 0 < p) (hp2 : p < 256) (hn : n ≤ 6) (hT : B8T T) (hu : B8 u) (hv : B8 v) : ACalls Try.prog TB 94 [.cptr (algA p (n : Int) T fo), vecA u, vecA v] (vecA (timesF p n T u v)) [] := by
  refine acalls_of tokTB Try.func94 rfl rfl (Nat.le_of_ble_eq_true rfl) ?_
  apply sr tokTB (by kernel_rfl)
  · intro RR hRR
    refine w_boxc (HV.eq (by constructor)) (by exact trivial) ?_
    refine w_boxc (HV.eq (by constructor)) (by exact trivial) ?_
    refine w_alloc kn25 rfl zr25 ?_
    exact hRR
  apply sr tokTB (by kernel_rfl)
  · intro RR hRR
    refine w_bld_a kn65 zr65 und65 kn2 (fun _ => (by exact sz2.symm)) trivial rfl (by exact sz2.symm) ?_
    refine w_alloc kn65 rfl zr65 ?_
    refine w_stw rfl (by constructor) kn65 rfl (by exact trivial) (sx) (by exact sz65.symm) ?_
    exact hRR
  refine snd_seq ?_
  apply sr tokTB (by kernel_rfl)
  · intro RR hRR
    refine w_move (by constructor) ?_
    refine y_call rfl (ec exn) (c_n) ?_
    refine w_move (by constructor) ?_
    exact hRR
  refine snd_block ?_
  refine snd_loop (S := Nat) (fun i => ([(0, .cptr (algA p (n : Int) T fo)), (4, .cptr (vecA u)), (5, .cptr (vecA v)), (6, .ptr 6 0 [] 0 (vecA (fun _ => 0))), (7, .ptr 7 0 [] 0 (v64A (fun _ => 0))), (17, .int .i64 (n : Int)), (18, .int .i64 (i : Int))], [(6, .one (vecA (fun _ => 0)) (vecA (fun _ => 0))), (7, .one (v64A (fun _ => 0)) (v64A (accF T u v n i 0)))])) (fun i => i ≤ n) (fun i => n - i) (0) ρ0 ?_ ?_ ?_
  · exact ⟨⟨m_calg, (m_cvec (fun _ _ => rfl)), (m_cvec (fun _ _ => rfl)), ⟨rfl, rfl, rfl, rfl, rfl⟩, ⟨rfl, rfl, rfl, rfl, rfl⟩, (mi), (mi), trivial⟩, ⟨⟨rfl, (sx), (by exact mt_vec (fun _ _ => rfl))⟩, ⟨rfl, (sx), (by exact mt_vec (fun k _ => by simp [accF, sumZ]))⟩, trivial⟩, ⟨⟨(fun h => by first | exact ⟨rfl, rfl⟩ | exact absurd h (by decide)), (fun h => by first | exact ⟨rfl, rfl⟩ | exact absurd h (by decide)), trivial⟩, ⟨(fun h => by first | exact ⟨rfl, rfl⟩ | exact absurd h (by decide)), (fun h => by first | exact ⟨rfl, rfl⟩ | exact absurd h (by decide)), trivial⟩, trivial⟩⟩
  · exact Nat.zero_le _
  intro i hi0
  refine sq (env2 := [(0, .cptr (algA p (n : Int) T fo)), (4, .cptr (vecA u)), (5, .cptr (vecA v)), (6, .ptr 6 0 [] 0 (vecA (fun _ => 0))), (7, .ptr 7 0 [] 0 (v64A (fun _ => 0))), (17, .int .i64 (n : Int)), (18, .int .i64 (i : Int))]) (ol2 := [(6, .one (vecA (fun _ => 0)) (vecA (fun _ => 0))), (7, .one (v64A (fun _ => 0)) (v64A (accF T u v n i 0)))]) rfl rfl ?_
  apply sr tokTB (by kernel_rfl)
  · intro RR hRR
    refine w_lss rfl rfl ?_
    exact hRR
  refine snd_seq ?_
  refine snd_cond _ rfl (fun hc19 => ?_) (fun hc19 => ?_)
  · try simp only [hcs] at hc19
    refine snd_skip ?_
    refine snd_seq ?_
    refine snd_block ?_
    apply sr tokTB (by kernel_rfl)
    · intro RR hRR
      refine w_move (by constructor) ?_
      refine w_assign (by constructor) ?_
      exact hRR
    apply sr tokTB (by kernel_rfl)
    · intro RR hRR
      refine w_move (by constructor) ?_
      refine y_call rfl (ec exn) (c_n) ?_
      refine w_move (by constructor) ?_
      exact hRR
    refine snd_block ?_
    refine snd_loop (S := Nat) (fun j => ([(0, .cptr (algA p (n : Int) T fo)), (4, .cptr (vecA u)), (5, .cptr (vecA v)), (6, .ptr 6 0 [] 0 (vecA (fun _ => 0))), (7, .ptr 7 0 [] 0 (v64A (fun _ => 0))), (17, .int .i64 (n : Int)), (18, .int .i64 (i : Int)), (8, .int .i64 (i : Int)), (22, .int .i64 (n : Int)), (23, .int .i64 (j : Int))], [(6, .one (vecA (fun _ => 0)) (vecA (fun _ => 0))), (7, .one (v64A (fun _ => 0)) (v64A (accF T u v n i j)))])) (fun j => j ≤ n) (fun j => n - j) (0) ρ0 ?_ ?_ ?_
    · exact ⟨⟨m_calg, (m_cvec (fun _ _ => rfl)), (m_cvec (fun _ _ => rfl)), ⟨rfl, rfl, rfl, rfl, rfl⟩, ⟨rfl, rfl, rfl, rfl, rfl⟩, (mi), (mi), (mi), (mi), (mi), trivial⟩, ⟨⟨rfl, (sx), (by exact mt_vec (fun _ _ => rfl))⟩, ⟨rfl, (sx), (by exact mt_vec (fun _ _ => rfl))⟩, trivial⟩, ⟨⟨(fun h => by first | exact ⟨rfl, rfl⟩ | exact absurd h (by decide)), (fun h => by first | exact ⟨rfl, rfl⟩ | exact absurd h (by decide)), trivial⟩, ⟨(fun h => by first | exact ⟨rfl, rfl⟩ | exact absurd h (by decide)), (fun h => by first | exact ⟨rfl, rfl⟩ | exact absurd h (by decide)), trivial⟩, trivial⟩⟩
    · exact Nat.zero_le _
    intro j hi2
    refine sq (env2 := [(0, .cptr (algA p (n : Int) T fo)), (4, .cptr (vecA u)), (5, .cptr (vecA v)), (6, .ptr 6 0 [] 0 (vecA (fun _ => 0))), (7, .ptr 7 0 [] 0 (v64A (fun _ => 0))), (17, .int .i64 (n : Int)), (18, .int .i64 (i : Int)), (8, .int .i64 (i : Int)), (22, .int .i64 (n : Int)), (23, .int .i64 (j : Int))]) (ol2 := [(6, .one (vecA (fun _ => 0)) (vecA (fun _ => 0))), (7, .one (v64A (fun _ => 0)) (v64A (accF T u v n i j)))]) rfl rfl ?_
    apply sr tokTB (by kernel_rfl)
    · intro RR hRR
      refine w_lss rfl rfl ?_
      exact hRR
    refine snd_seq ?_
    refine snd_cond _ rfl (fun hc24 => ?_) (fun hc24 => ?_)
    · try simp only [hcs] at hc24
      refine snd_skip ?_
      refine snd_seq ?_
      refine snd_block ?_
      apply sr tokTB (by kernel_rfl)
      · intro RR hRR
        refine w_move (by constructor) ?_
        refine w_assign (by constructor) ?_
        exact hRR
      apply sd tokTB mixed (by kernel_rfl) (by kernel_rfl)
      · intro RR hRR
        refine w_move (by constructor) ?_
        refine w_iac rfl rfl und25 kn5 (by exact sz5.symm) ?_ rfl ?_
        · exact ⟨by omega, by omega⟩
        first | refine w_ldc rfl kn5 (by constructor) (by exact sz5.symm) (by exact ag5.symm) ?_ | refine w_ldp rfl kn5 rfl (by constructor) (by exact sz5.symm) (by exact ag5.symm) ?_
        refine y_conv rfl und5 und2 ?_
        refine w_move (by constructor) ?_
        refine w_iac rfl rfl und25 kn5 (by exact sz5.symm) ?_ rfl ?_
        · exact ⟨by omega, by omega⟩
        first | refine w_ldc rfl kn5 (by constructor) (by exact sz5.symm) (by exact ag5.symm) ?_ | refine w_ldp rfl kn5 rfl (by constructor) (by exact sz5.symm) (by exact ag5.symm) ?_
        refine y_conv rfl und5 und2 ?_
        refine w_mul rfl rfl (by exact w_uv hu hv i j) ?_
        refine w_assign (by constructor) ?_
        exact hRR
      refine snd_seq ?_
      apply sr tokTB (by kernel_rfl)
      · intro RR hRR
        refine w_move (by constructor) ?_
        refine w_eql rfl rfl ?_
        exact hRR
      refine snd_cond _ rfl (fun hc36 => ?_) (fun hc36 => ?_)
      · try simp only [hcs] at hc36
        refine snd_exit ?_
        apply lr tokTB (by kernel_rfl)
        · intro RR hRR
          refine y_add rfl rfl ?_
          refine w_move (by constructor) ?_
          exact hRR
        refine ⟨j + 1, ρ0, ?_, (by omega), (by dsimp only; omega)⟩
        exact ⟨⟨m_calg, (m_cvec (fun _ _ => rfl)), (m_cvec (fun _ _ => rfl)), ⟨rfl, rfl, rfl, rfl, rfl⟩, ⟨rfl, rfl, rfl, rfl, rfl⟩, (mi), (mi), (mi), (mi), (mi), trivial⟩, ⟨⟨rfl, (sx), (by exact mt_vec (fun _ _ => rfl))⟩, ⟨rfl, (sx), (by first | exact mt_vec (fun z _ => mix_all) | exact mt_vec (fun z _ => (acc_zero hc36).symm))⟩, trivial⟩, ⟨⟨(fun h => by first | exact ⟨rfl, rfl⟩ | exact absurd h (by decide)), (fun h => by first | exact ⟨rfl, rfl⟩ | exact absurd h (by decide)), trivial⟩, ⟨(fun h => by first | exact ⟨rfl, rfl⟩ | exact absurd h (by decide)), (fun h => by first | exact ⟨rfl, rfl⟩ | exact absurd h (by decide)), trivial⟩, trivial⟩⟩
      · try simp only [hcs] at hc36
        refine snd_skip ?_
        apply sr tokTB (by kernel_rfl)
        · intro RR hRR
          refine w_move (by constructor) ?_
          refine y_call rfl (ec exn) (c_n) ?_
          refine w_move (by constructor) ?_
          exact hRR
        refine snd_block ?_
        refine snd_loop (S := Nat) (fun k => ([(0, .cptr (algA p (n : Int) T fo)), (4, .cptr (vecA u)), (5, .cptr (vecA v)), (6, .ptr 6 0 [] 0 (vecA (fun _ => 0))), (7, .ptr 7 0 [] 0 (v64A (fun _ => 0))), (17, .int .i64 (n : Int)), (18, .int .i64 (i : Int)), (8, .int .i64 (i : Int)), (22, .int .i64 (n : Int)), (23, .int .i64 (j : Int)), (9, .int .i64 (j : Int)), (10, .int .i64 (u i * v j)), (38, .int .i64 (n : Int)), (39, .int .i64 (k : Int))], [(6, .one (vecA (fun _ => 0)) (vecA (fun _ => 0))), (7, .one (v64A (fun _ => 0)) (v64A (mixF (accF T u v n i (j + 1)) (accF T u v n i j) k)))])) (fun k => k ≤ n) (fun k => n - k) (0) ρ0 ?_ ?_ ?_
        · exact ⟨⟨m_calg, (m_cvec (fun _ _ => rfl)), (m_cvec (fun _ _ => rfl)), ⟨rfl, rfl, rfl, rfl, rfl⟩, ⟨rfl, rfl, rfl, rfl, rfl⟩, (mi), (mi), (mi), (mi), (mi), (mi), (mi), (mi), (mi), trivial⟩, ⟨⟨rfl, (sx), (by exact mt_vec (fun _ _ => rfl))⟩, ⟨rfl, (sx), (by exact mt_vec (fun k _ => by simp [mixF]))⟩, trivial⟩, ⟨⟨(fun h => by first | exact ⟨rfl, rfl⟩ | exact absurd h (by decide)), (fun h => by first | exact ⟨rfl, rfl⟩ | exact absurd h (by decide)), trivial⟩, ⟨(fun h => by first | exact ⟨rfl, rfl⟩ | exact absurd h (by decide)), (fun h => by first | exact ⟨rfl, rfl⟩ | exact absurd h (by decide)), trivial⟩, trivial⟩⟩
        · exact Nat.zero_le _
        intro k hi4
        refine sq (env2 := [(0, .cptr (algA p (n : Int) T fo)), (4, .cptr (vecA u)), (5, .cptr (vecA v)), (6, .ptr 6 0 [] 0 (vecA (fun _ => 0))), (7, .ptr 7 0 [] 0 (v64A (fun _ => 0))), (17, .int .i64 (n : Int)), (18, .int .i64 (i : Int)), (8, .int .i64 (i : Int)), (22, .int .i64 (n : Int)), (23, .int .i64 (j : Int)), (9, .int .i64 (j : Int)), (10, .int .i64 (u i * v j)), (38, .int .i64 (n : Int)), (39, .int .i64 (k : Int))]) (ol2 := [(6, .one (vecA (fun _ => 0)) (vecA (fun _ => 0))), (7, .one (v64A (fun _ => 0)) (v64A (mixF (accF T u v n i (j + 1)) (accF T u v n i j) k)))]) rfl rfl ?_
        apply sr tokTB (by kernel_rfl)
        · intro RR hRR
          refine w_lss rfl rfl ?_
          exact hRR
        refine snd_seq ?_
        refine snd_cond _ rfl (fun hc40 => ?_) (fun hc40 => ?_)
        · try simp only [hcs] at hc40
          refine snd_skip ?_
          refine snd_seq ?_
          refine snd_block ?_
          apply sr tokTB (by kernel_rfl)
          · intro RR hRR
            refine w_move (by constructor) ?_
            refine w_assign (by constructor) ?_
            exact hRR
          apply ld tokTB mixed (by kernel_rfl) (by kernel_rfl)
          · intro RR hRR
            refine w_move (by constructor) ?_
            refine w_iap rfl rfl und65 kn2 rfl (by exact sz2.symm) rfl ?_ ?_
            · exact ⟨by omega, by omega⟩
            first | refine w_ldc rfl kn2 (by constructor) (by exact sz2.symm) (by exact ag2.symm) ?_ | refine w_ldp rfl kn2 rfl (by constructor) (by exact sz2.symm) (by exact ag2.symm) ?_
            refine w_move (by constructor) ?_
            refine w_move (by constructor) ?_
            refine w_move (by constructor) ?_
            refine w_move (by constructor) ?_
            refine w_move (by constructor) ?_
            refine w_nilc rfl ?_
            refine w_fac rfl und27 rfl kn24 nz24 (by decide) rfl (by constructor) ?_
            refine w_iac rfl rfl und24 kn23 (by exact sz23.symm) ?_ rfl ?_
            · exact ⟨by omega, by omega⟩
            refine w_iac rfl rfl und23 kn22 (by exact sz22.symm) ?_ rfl ?_
            · exact ⟨by omega, by omega⟩
            refine w_iac rfl rfl und22 kn5 (by exact sz5.symm) ?_ rfl ?_
            · exact ⟨by omega, by omega⟩
            first | refine w_ldc rfl kn5 (by constructor) (by exact sz5.symm) (by exact ag5.symm) ?_ | refine w_ldp rfl kn5 rfl (by constructor) (by exact sz5.symm) (by exact ag5.symm) ?_
            refine y_conv rfl und5 und2 ?_
            refine w_mul rfl rfl (by exact w_tm hu hv hT k i j) ?_
            refine w_add rfl rfl (by exact w_acc2 hu hv hT hn (by omega) (by omega) (by omega)) ?_
            refine w_iap rfl rfl und65 kn2 rfl (by exact sz2.symm) rfl ?_ ?_
            · exact ⟨by omega, by omega⟩
            first | refine w_stw rfl (by constructor) kn2 rfl (by exact trivial) (sx) (by exact sz2.symm) ?_ | refine w_sti rfl rfl kn2 rfl (by exact trivial) (by exact sz2.symm) ?_ | refine w_store rfl (HV.eq (by constructor)) kn2 rfl (by exact trivial) (sx) (by exact sz2.symm) (put_in (by first | exact put_mat | exact put_tab | exact put_alg0 | exact put_pr0 | exact put_pr1 | exact put_pr2 | exact put_tn4 | exact put_grp0 | exact put_grp1 | exact put_alg1 | exact put_alg2 | exact put_alg3 | exact put_alg3i | exact put_alg2ij | exact put_alg2ijk | exact put_mat2 | exact put_tab2 | exact put_tab3)) ?_ | refine w_store rfl (HV.eq (by constructor)) kn2 rfl (by exact trivial) (by exact trivial) (by exact sz2.symm) rfl ?_
            exact hRR
          apply lr tokTB (by kernel_rfl)
          · intro RR hRR
            refine y_add rfl rfl ?_
            refine w_move (by constructor) ?_
            exact hRR
          refine ⟨k + 1, ρ0, ?_, (by omega), (by dsimp only; omega)⟩
          exact ⟨⟨m_calg, (m_cvec (fun _ _ => rfl)), (m_cvec (fun _ _ => rfl)), ⟨rfl, rfl, rfl, rfl, rfl⟩, ⟨rfl, rfl, rfl, rfl, rfl⟩, (mi), (mi), (mi), (mi), (mi), (mi), (mi), (mi), (mi), trivial⟩, ⟨⟨rfl, (sx), (by exact mt_vec (fun _ _ => rfl))⟩, ⟨rfl, (sx), (by exact mt_vec (fun z _ => upd_mix _ _ k z))⟩, trivial⟩, ⟨⟨(fun h => by first | exact ⟨rfl, rfl⟩ | exact absurd h (by decide)), (fun h => by first | exact ⟨rfl, rfl⟩ | exact absurd h (by decide)), trivial⟩, ⟨(fun h => by first | exact ⟨rfl, rfl⟩ | exact absurd h (by decide)), (fun h => by first | exact ⟨rfl, rfl⟩ | exact absurd h (by decide)), trivial⟩, trivial⟩⟩
        · try simp only [hcs] at hc40
          have hkn : n = k := by omega
          subst hkn
          refine snd_exit ?_
          apply lr tokTB (by kernel_rfl)
          · intro RR hRR
            refine y_add rfl rfl ?_
            refine w_move (by constructor) ?_
            exact hRR
          refine ⟨j + 1, ρ0, ?_, (by omega), (by dsimp only; omega)⟩
          exact ⟨⟨m_calg, (m_cvec (fun _ _ => rfl)), (m_cvec (fun _ _ => rfl)), ⟨rfl, rfl, rfl, rfl, rfl⟩, ⟨rfl, rfl, rfl, rfl, rfl⟩, (mi), (mi), (mi), (mi), (mi), trivial⟩, ⟨⟨rfl, (sx), (by exact mt_vec (fun _ _ => rfl))⟩, ⟨rfl, (sx), (by first | exact mt_vec (fun z _ => mix_all) | exact mt_vec (fun z _ => (acc_zero hc36).symm))⟩, trivial⟩, ⟨⟨(fun h => by first | exact ⟨rfl, rfl⟩ | exact absurd h (by decide)), (fun h => by first | exact ⟨rfl, rfl⟩ | exact absurd h (by decide)), trivial⟩, ⟨(fun h => by first | exact ⟨rfl, rfl⟩ | exact absurd h (by decide)), (fun h => by first | exact ⟨rfl, rfl⟩ | exact absurd h (by decide)), trivial⟩, trivial⟩⟩
    · try simp only [hcs] at hc24
      have hin : n = j := by omega
      subst hin
      refine snd_exit ?_
      apply lr tokTB (by kernel_rfl)
      · intro RR hRR
        refine y_add rfl rfl ?_
        refine w_move (by constructor) ?_
        exact hRR
      refine ⟨i + 1, ρ0, ?_, (by omega), (by dsimp only; omega)⟩
      exact ⟨⟨m_calg, (m_cvec (fun _ _ => rfl)), (m_cvec (fun _ _ => rfl)), ⟨rfl, rfl, rfl, rfl, rfl⟩, ⟨rfl, rfl, rfl, rfl, rfl⟩, (mi), (mi), trivial⟩, ⟨⟨rfl, (sx), (by exact mt_vec (fun _ _ => rfl))⟩, ⟨rfl, (sx), (by exact mt_vec (fun k _ => acc_next))⟩, trivial⟩, ⟨⟨(fun h => by first | exact ⟨rfl, rfl⟩ | exact absurd h (by decide)), (fun h => by first | exact ⟨rfl, rfl⟩ | exact absurd h (by decide)), trivial⟩, ⟨(fun h => by first | exact ⟨rfl, rfl⟩ | exact absurd h (by decide)), (fun h => by first | exact ⟨rfl, rfl⟩ | exact absurd h (by decide)), trivial⟩, trivial⟩⟩
  · try simp only [hcs] at hc19
    have hkn : n = i := by omega
    subst hkn
    refine snd_exit ?_
    apply sr tokTB (by kernel_rfl)
    · intro RR hRR
      refine w_bld_a kn25 zr25 und25 kn5 (fun _ => (by exact sz5.symm)) trivial rfl (by exact sz5.symm) ?_
      refine w_alloc kn25 rfl zr25 ?_
      refine w_stw rfl (by constructor) kn25 rfl (by exact trivial) (sx) (by exact sz25.symm) ?_
      exact hRR
    refine snd_seq ?_
    apply sr tokTB (by kernel_rfl)
    · intro RR hRR
      refine w_ldp rfl kn65 rfl (by constructor) (by exact sz65.symm) (by exact ag65.symm) ?_
      refine w_move (by constructor) ?_
      exact hRR
    refine snd_block ?_
    refine snd_loop (S := Nat) (fun k => ([(0, .cptr (algA p (n : Int) T fo)), (6, .ptr 6 0 [] 0 (vecA (fun _ => 0))), (12, .ptr 12 0 [] 0 (vecA (fun _ => 0))), (64, v64A (accF T u v n n 0)), (65, .int .i64 (k : Int))], [(6, .one (vecA (fun _ => 0)) (vecA (fun _ => 0))), (12, .one (vecA (fun _ => 0)) (vecA (cutF (timesF p n T u v) k)))])) (fun k => k ≤ 6) (fun k => 6 - k) (0) ρ0 ?_ ?_ ?_
    · exact ⟨⟨m_calg, ⟨rfl, rfl, rfl, rfl, rfl⟩, ⟨rfl, rfl, rfl, rfl, rfl⟩, (m_vec (fun _ _ => rfl)), (mi), trivial⟩, ⟨⟨rfl, (sx), (by exact mt_vec (fun _ _ => rfl))⟩, ⟨rfl, (sx), (by exact mt_vec (fun k _ => rfl))⟩, trivial⟩, ⟨⟨(fun h => by first | exact ⟨rfl, rfl⟩ | exact absurd h (by decide)), (fun h => by first | exact ⟨rfl, rfl⟩ | exact absurd h (by decide)), trivial⟩, ⟨(fun h => by first | exact ⟨rfl, rfl⟩ | exact absurd h (by decide)), (fun h => by first | exact ⟨rfl, rfl⟩ | exact absurd h (by decide)), trivial⟩, trivial⟩⟩
    · exact Nat.zero_le _
    intro k hi6
    refine sq (env2 := [(0, .cptr (algA p (n : Int) T fo)), (6, .ptr 6 0 [] 0 (vecA (fun _ => 0))), (12, .ptr 12 0 [] 0 (vecA (fun _ => 0))), (64, v64A (accF T u v n n 0)), (65, .int .i64 (k : Int))]) (ol2 := [(6, .one (vecA (fun _ => 0)) (vecA (fun _ => 0))), (12, .one (vecA (fun _ => 0)) (vecA (cutF (timesF p n T u v) k)))]) rfl rfl ?_
    apply sr tokTB (by kernel_rfl)
    · intro RR hRR
      refine w_lss rfl rfl ?_
      exact hRR
    refine snd_seq ?_
    refine snd_cond _ rfl (fun hc66 => ?_) (fun hc66 => ?_)
    · try simp only [hcs] at hc66
      refine snd_skip ?_
      refine snd_seq ?_
      refine snd_block ?_
      apply sr tokTB (by kernel_rfl)
      · intro RR hRR
        refine w_move (by constructor) ?_
        refine w_ixa rfl rfl und65 kn2 (by exact sz2.symm) ?_ (by constructor) (by exact ag2.symm) ?_
        · exact ⟨by omega, by omega⟩
        refine w_assign (by constructor) ?_
        refine w_assign (by constructor) ?_
        exact hRR
      apply lr tokTB (by kernel_rfl)
      · intro RR hRR
        refine w_move (by constructor) ?_
        refine w_move (by constructor) ?_
        refine w_move (by constructor) ?_
        refine w_nilc rfl ?_
        refine w_fac rfl und27 rfl kn2 nz2 (by decide) rfl (by constructor) ?_
        refine w_ldc rfl kn2 (by constructor) (by exact sz2.symm) (by exact ag2.symm) ?_
        refine w_rem rfl rfl (by first | assumption | omega) ?_
        refine w_conv rfl und2 und5 (by exact w_fin2 hu hv hT hn hp hp2) ?_
        refine w_iap rfl rfl und25 kn5 rfl (by exact sz5.symm) rfl ?_ ?_
        · exact ⟨by omega, by omega⟩
        first | refine w_stw rfl (by constructor) kn5 rfl (by exact trivial) (sx) (by exact sz5.symm) ?_ | refine w_sti rfl rfl kn5 rfl (by exact trivial) (by exact sz5.symm) ?_ | refine w_store rfl (HV.eq (by constructor)) kn5 rfl (by exact trivial) (sx) (by exact sz5.symm) (put_in (by first | exact put_mat | exact put_tab | exact put_alg0 | exact put_pr0 | exact put_pr1 | exact put_pr2 | exact put_tn4 | exact put_grp0 | exact put_grp1 | exact put_alg1 | exact put_alg2 | exact put_alg3 | exact put_alg3i | exact put_alg2ij | exact put_alg2ijk | exact put_mat2 | exact put_tab2 | exact put_tab3)) ?_ | refine w_store rfl (HV.eq (by constructor)) kn5 rfl (by exact trivial) (by exact trivial) (by exact sz5.symm) rfl ?_
        exact hRR
      apply lr tokTB (by kernel_rfl)
      · intro RR hRR
        refine y_add rfl rfl ?_
        refine w_move (by constructor) ?_
        exact hRR
      refine ⟨k + 1, ρ0, ?_, (by omega), (by dsimp only; omega)⟩
      exact ⟨⟨m_calg, ⟨rfl, rfl, rfl, rfl, rfl⟩, ⟨rfl, rfl, rfl, rfl, rfl⟩, (m_vec (fun _ _ => rfl)), (mi), trivial⟩, ⟨⟨rfl, (sx), (by exact mt_vec (fun _ _ => rfl))⟩, ⟨rfl, (sx), (by exact mt_vec (fun z _ => upd_cut _ k z))⟩, trivial⟩, ⟨⟨(fun h => by first | exact ⟨rfl, rfl⟩ | exact absurd h (by decide)), (fun h => by first | exact ⟨rfl, rfl⟩ | exact absurd h (by decide)), trivial⟩, ⟨(fun h => by first | exact ⟨rfl, rfl⟩ | exact absurd h (by decide)), (fun h => by first | exact ⟨rfl, rfl⟩ | exact absurd h (by decide)), trivial⟩, trivial⟩⟩
    · try simp only [hcs] at hc66
      have hk6 : k = 6 := by omega
      subst hk6
      refine snd_exit ?_
      apply sr tokTB (by kernel_rfl)
      · intro RR hRR
        refine w_ldp rfl kn25 rfl (by constructor) (by exact sz25.symm) (by exact ag25.symm) ?_
        refine w_stw rfl (by constructor) kn25 rfl (by exact trivial) (sx) (by exact sz25.symm) ?_
        exact hRR
      refine snd_ret ?_
      exact rt_c (T := TB) rfl kn25 rfl sz25.symm ag25.symm (fun V => m_vec (fun j hj => by simp [cutF, hj]))
end Go.Am

set_option linter.unusedVariables false
set_option linter.unusedSimpArgs false
set_option maxRecDepth 4000
namespace Go.Am
attribute [local irreducible] retQ retQp
open Go.Proofs
theorem c_Index {m : Nat} {f : Nat → Int} {x : Int} (hm : m ≤ 1000000) : ACalls Try.prog TB 81 [.ro m (fun i => .int .i64 (f i)), .int .i64 x] (.int .i64 (idxF (fun i => decide (x = f i)) m)) [] := by
  refine acalls_of tokTB Try.func81 rfl rfl (Nat.le_of_ble_eq_true rfl) ?_
  apply sr tokTB (by kernel_rfl)
  · intro RR hRR
    refine w_assign (by constructor) ?_
    exact hRR
  refine snd_seq ?_
  apply sr tokTB (by kernel_rfl)
  · intro RR hRR
    refine w_move (by constructor) ?_
    refine w_len_r rfl rfl und62 ?_
    refine w_move (by constructor) ?_
    exact hRR
  refine snd_block ?_
  refine snd_loop (S := Nat) (fun i => ([(0, .ro m (fun i => .int .i64 (f i))), (1, .int .i64 x), (7, .int .i64 (m : Int)), (8, .int .i64 (i : Int))], [])) (fun i => i ≤ m ∧ ∀ j, j < i → decide (x = f j) = false) (fun i => m - i) (0) ρ0 ?_ ?_ ?_
  · exact ⟨⟨(by exact ⟨rfl, fun _ _ => rfl⟩), (mi), (mi), (mi), trivial⟩, trivial, trivial⟩
  · exact ⟨Nat.zero_le _, fun j hj => by omega⟩
  intro i hi0
  refine sq (env2 := [(0, .ro m (fun i => .int .i64 (f i))), (1, .int .i64 x), (7, .int .i64 (m : Int)), (8, .int .i64 (i : Int))]) (ol2 := []) rfl rfl ?_
  obtain ⟨hi1, hi2⟩ := hi0
  apply sr tokTB (by kernel_rfl)
  · intro RR hRR
    refine w_lss rfl rfl ?_
    exact hRR
  refine snd_seq ?_
  refine snd_cond _ rfl (fun hc9 => ?_) (fun hc9 => ?_)
  · try simp only [hcs] at hc9
    refine snd_skip ?_
    refine snd_seq ?_
    refine snd_block ?_
    apply sr tokTB (by kernel_rfl)
    · intro RR hRR
      refine w_move (by constructor) ?_
      refine w_assign (by constructor) ?_
      exact hRR
    apply sr tokTB (by kernel_rfl)
    · intro RR hRR
      refine w_move (by constructor) ?_
      refine w_move (by constructor) ?_
      refine w_move (by constructor) ?_
      refine w_iar rfl rfl und62 kn2 (by exact sz2.symm) ?_ rfl ?_
      · exact ⟨by omega, by omega⟩
      first | refine w_ldc rfl kn2 (by constructor) (by exact sz2.symm) (by exact ag2.symm) ?_ | refine w_ldp rfl kn2 rfl (by constructor) (by exact sz2.symm) (by exact ag2.symm) ?_
      refine w_eql rfl rfl ?_
      exact hRR
    refine snd_cond _ rfl (fun hc16 => ?_) (fun hc16 => ?_)
    · skip
      apply sr tokTB (by kernel_rfl)
      · intro RR hRR
        refine w_move (by constructor) ?_
        refine w_assign (by constructor) ?_
        exact hRR
      refine snd_ret ?_
      exact rt (T := TB) (fun V => m_int (idx_at (by omega) (by exact hc16) hi2).symm)
    · skip
      refine snd_skip ?_
      apply lr tokTB (by kernel_rfl)
      · intro RR hRR
        refine y_add rfl rfl ?_
        refine w_move (by constructor) ?_
        exact hRR
      refine ⟨i + 1, ρ0, ?_, ⟨by omega, all_step hi2 (by exact hc16)⟩, (by dsimp only; omega)⟩
      exact ⟨⟨(by exact ⟨rfl, fun _ _ => rfl⟩), (mi), (mi), (mi), trivial⟩, trivial, trivial⟩
  · try simp only [hcs] at hc9
    refine snd_exit ?_
    apply sr tokTB (by kernel_rfl)
    · intro RR hRR
      refine w_assign (by constructor) ?_
      exact hRR
    refine snd_ret ?_
    exact rt (T := TB) (fun V => m_int (idx_none (fun j hj => hi2 j (by omega))).symm)
theorem c_Contains {m : Nat} {f : Nat → Int} {x : Int} (hm : m ≤ 1000000) : ACalls Try.prog TB 72 [.ro m (fun i => .int .i64 (f i)), .int .i64 x] (.bool (decide (0 ≤ idxF (fun i => decide (x = f i)) m))) [] := by
  refine acalls_of tokTB Try.func72 rfl rfl (Nat.le_of_ble_eq_true rfl) ?_
  apply sr tokTB (by kernel_rfl)
  · intro RR hRR
    refine w_assign (by constructor) ?_
    exact hRR
  apply sr tokTB (by kernel_rfl)
  · intro RR hRR
    refine w_move (by constructor) ?_
    refine w_move (by constructor) ?_
    refine y_call rfl (ec (ec exn)) (c_Index (by omega)) ?_
    refine w_geq rfl rfl ?_
    refine w_assign (by constructor) ?_
    exact hRR
  refine snd_ret ?_
  exact rt (T := TB) (fun V => by first | exact m_bool rfl | exact m_int rfl)
theorem c_isPrime {p : Int} : ACalls Try.prog TB 53 [.int .i64 p] (.bool (primeB p)) [] := by
  refine acalls_of tokTB Try.func53 rfl rfl (Nat.le_of_ble_eq_true rfl) ?_
  apply sr tokTB (by kernel_rfl)
  · intro RR hRR
    refine w_assign (by constructor) ?_
    exact hRR
  apply sr tokTB (by kernel_rfl)
  · intro RR hRR
    refine w_bsl und62 kn2 (by rw [sz2]; rfl) rfl (by exact ⟨⟨by decide, trivial, sz2.symm⟩, ⟨by decide, trivial, sz2.symm⟩, ⟨by decide, trivial, sz2.symm⟩, ⟨by decide, trivial, sz2.symm⟩, ⟨by decide, trivial, sz2.symm⟩, ⟨by decide, trivial, sz2.symm⟩, trivial⟩) (by exact ⟨(sx), (sx), (sx), (sx), (sx), (sx), trivial⟩) rfl ?_
    refine w_move (by constructor) ?_
    refine y_call rfl (exc (by refine congrArg (AV.ro 6) (funext fun i => ?_); match i with | 0 => rfl | 1 => rfl | 2 => rfl | 3 => rfl | 4 => rfl | 5 => rfl | n + 6 => rfl) (exc (by exact rfl) exn)) (c_Contains (f := primesF) (by omega)) ?_
    refine w_assign (by constructor) ?_
    exact hRR
  refine snd_ret ?_
  exact rt (T := TB) (fun V => m_bool (prime_idx p))
end Go.Am

set_option linter.unusedVariables false
set_option linter.unusedSimpArgs false
set_option maxRecDepth 4000
namespace Go.Am
attribute [local irreducible] retQ retQp
open Go.Proofs
theorem c_l01Own {m : Nat} {f : Nat → Int} (h0 : 0 < m) (hm : m ≤ 1000000) : ACalls Try.prog TB 120 [rowA m f] (.own 0 0 m 2) (HR m f) := by
  refine acalls_of tokTB Try.func120 rfl rfl (Nat.le_of_ble_eq_true rfl) ?_
  apply sr tokTB (by kernel_rfl)
  · intro RR hRR
    refine w_assign (by constructor) ?_
    exact hRR
  apply sr tokTB (by kernel_rfl)
  · intro RR hRR
    refine w_bsl und62 kn2 (by rw [sz2]; rfl) rfl trivial trivial rfl ?_
    refine w_move (by constructor) ?_
    refine w_app_o und62 rfl rfl kn2 rfl rfl (fun C h => ⟨by omega, fun _ => trivial, h⟩) (by rw [by2]; omega) (by omega) rfl ?_
    refine w_assign (by constructor) ?_
    exact hRR
  refine snd_ret ?_
  show retQ TB _ _ _ _ _ _
  exact rt_own rfl rfl (by omega) (fun _ => trivial) (fun V i hi => by rw [appF_ge (Nat.zero_le _) (by omega)]; rfl)
theorem c_IndexFunc1 {m : Nat} {f : Nat → Int} {g nc : Nat} {caps : Nat → AV} {P : Nat → Bool} (hm : m ≤ 1000000) (hcaps : (AV.fn g nc caps).closed) (hf : ∀ i, i < m → ACalls Try.prog TB g (.int .i64 (f i) :: capL nc caps) (.bool (P i)) []) : ACalls Try.prog TB 129 [rowA m f, .fn g nc caps] (.int .i64 (idxF P m)) [] := by
  refine acalls_of tokTB Try.func129 rfl rfl (Nat.le_of_ble_eq_true rfl) ?_
  apply sr tokTB (by kernel_rfl)
  · intro RR hRR
    refine w_assign (by constructor) ?_
    exact hRR
  refine snd_seq ?_
  apply sr tokTB (by kernel_rfl)
  · intro RR hRR
    refine w_move (by constructor) ?_
    refine w_len_r rfl rfl und62 ?_
    refine w_move (by constructor) ?_
    exact hRR
  refine snd_block ?_
  refine snd_loop (S := Nat) (fun i => ([(0, rowA m f), (1, .fn g nc caps), (7, .int .i64 (m : Int)), (8, .int .i64 (i : Int))], [])) (fun i => i ≤ m ∧ ∀ j, j < i → P j = false) (fun i => m - i) (0) ρ0 ?_ ?_ ?_
  · exact ⟨⟨(by first | exact mt_row (V := _) (fun _ _ => rfl) | exact mt_fz (by exact trivial) rfl (fun _ _ => rfl)), (Mt_closed (V := _) (by assumption) (fun _ _ _ => trivial) (by simp)), (mi), (mi), trivial⟩, trivial, trivial⟩
  · exact ⟨Nat.zero_le _, fun j hj => by omega⟩
  intro i hi0
  refine sq (env2 := [(0, rowA m f), (1, .fn g nc caps), (7, .int .i64 (m : Int)), (8, .int .i64 (i : Int))]) (ol2 := []) rfl rfl ?_
  obtain ⟨hi1, hi2⟩ := hi0
  apply sr tokTB (by kernel_rfl)
  · intro RR hRR
    refine w_lss rfl rfl ?_
    exact hRR
  refine snd_seq ?_
  refine snd_cond _ rfl (fun hc9 => ?_) (fun hc9 => ?_)
  · try simp only [hcs] at hc9
    refine snd_skip ?_
    refine snd_seq ?_
    refine snd_block ?_
    apply sr tokTB (by kernel_rfl)
    · intro RR hRR
      refine w_move (by constructor) ?_
      refine w_assign (by constructor) ?_
      exact hRR
    apply sr tokTB (by kernel_rfl)
    · intro RR hRR
      refine w_move (by constructor) ?_
      refine w_move (by constructor) ?_
      refine w_move (by constructor) ?_
      refine w_iar rfl rfl und62 kn2 (by exact sz2.symm) ?_ rfl ?_
      · exact ⟨by omega, by omega⟩
      first | refine w_ldc rfl kn2 (by constructor) (by exact sz2.symm) (by exact ag2.symm) ?_ | refine w_ldp rfl kn2 rfl (by constructor) (by exact sz2.symm) (by exact ag2.symm) ?_
      refine y_call rfl (exc (by exact rfl) (exp_capL hcaps)) (hf i (by omega)) ?_
      exact hRR
    refine snd_cond _ rfl (fun hc16 => ?_) (fun hc16 => ?_)
    · skip
      apply sr tokTB (by kernel_rfl)
      · intro RR hRR
        refine w_move (by constructor) ?_
        refine w_assign (by constructor) ?_
        exact hRR
      refine snd_ret ?_
      exact rt (T := TB) (fun V => m_int (idx_at (by omega) (by exact hc16) hi2).symm)
    · skip
      refine snd_skip ?_
      apply lr tokTB (by kernel_rfl)
      · intro RR hRR
        refine y_add rfl rfl ?_
        refine w_move (by constructor) ?_
        exact hRR
      refine ⟨i + 1, ρ0, ?_, ⟨by omega, all_step hi2 (by exact hc16)⟩, (by dsimp only; omega)⟩
      exact ⟨⟨(by first | exact mt_row (V := _) (fun _ _ => rfl) | exact mt_fz (by exact trivial) rfl (fun _ _ => rfl)), (Mt_closed (V := _) (by assumption) (fun _ _ _ => trivial) (by simp)), (mi), (mi), trivial⟩, trivial, trivial⟩
  · try simp only [hcs] at hc9
    refine snd_exit ?_
    apply sr tokTB (by kernel_rfl)
    · intro RR hRR
      refine w_assign (by constructor) ?_
      exact hRR
    refine snd_ret ?_
    exact rt (T := TB) (fun V => m_int (idx_none (fun j hj => hi2 j (by omega))).symm)
theorem c_leader1 {x : Int} : ACalls Try.prog TB 130 [.int .i64 x] (.bool (decide (x ≠ 0))) [] := by
  refine acalls_of tokTB Try.func130 rfl rfl (Nat.le_of_ble_eq_true rfl) ?_
  apply sr tokTB (by kernel_rfl)
  · intro RR hRR
    refine w_assign (by constructor) ?_
    exact hRR
  apply sr tokTB (by kernel_rfl)
  · intro RR hRR
    refine w_move (by constructor) ?_
    refine w_neq rfl rfl ?_
    refine w_assign (by constructor) ?_
    exact hRR
  refine snd_ret ?_
  exact rt (T := TB) (fun V => by first | exact m_bool rfl | exact m_int rfl)
theorem c_leader {m : Nat} {f : Nat → Int} (hm : m ≤ 1000000) : ACalls Try.prog TB 113 [rowA m f] (.int .i64 (idxF (fun i => decide (f i ≠ 0)) m)) [] := by
  refine acalls_of tokTB Try.func113 rfl rfl (Nat.le_of_ble_eq_true rfl) ?_
  apply sr tokTB (by kernel_rfl)
  · intro RR hRR
    refine w_assign (by constructor) ?_
    exact hRR
  apply sr tokTB (by kernel_rfl)
  · intro RR hRR
    refine w_move (by constructor) ?_
    refine y_call rfl (ec (ec exn)) (c_IndexFunc1 (nc := 0) (caps := fun _ => .any) (P := fun i => decide (f i ≠ 0)) hm (fun _ => trivial) (fun i _ => c_leader1)) ?_
    refine w_assign (by constructor) ?_
    exact hRR
  refine snd_ret ?_
  exact rt (T := TB) (fun V => by first | exact m_bool rfl | exact m_int rfl)
theorem c_l01Lead {m : Nat} {f : Nat → Int} (hm : m ≤ 1000000) : ACalls Try.prog TB 111 [rowA m f] (.int .i64 (idxF (fun i => decide (f i ≠ 0)) m)) [] := by
  refine acalls_of tokTB Try.func111 rfl rfl (Nat.le_of_ble_eq_true rfl) ?_
  apply sr tokTB (by kernel_rfl)
  · intro RR hRR
    refine w_assign (by constructor) ?_
    exact hRR
  refine snd_seq ?_
  apply sr tokTB (by kernel_rfl)
  · intro RR hRR
    refine w_assign (by constructor) ?_
    exact hRR
  refine snd_block ?_
  refine snd_loop (S := Nat) (fun i => ([(0, rowA m f), (3, .int .i64 (i : Int))], [])) (fun i => i ≤ m ∧ ∀ j, j < i → decide (f j ≠ 0) = false) (fun i => m - i) (0) ρ0 ?_ ?_ ?_
  · exact ⟨⟨(by first | exact mt_row (V := _) (fun _ _ => rfl) | exact mt_fz (by exact trivial) rfl (fun _ _ => rfl)), (mi), trivial⟩, trivial, trivial⟩
  · exact ⟨Nat.zero_le _, fun j hj => by omega⟩
  intro i hi0
  refine sq (env2 := [(0, rowA m f), (3, .int .i64 (i : Int))]) (ol2 := []) rfl rfl ?_
  obtain ⟨hi1, hi2⟩ := hi0
  refine snd_seq ?_
  apply sr tokTB (by kernel_rfl)
  · intro RR hRR
    refine w_move (by constructor) ?_
    refine w_move (by constructor) ?_
    refine w_len_r rfl rfl und62 ?_
    refine w_lss rfl rfl ?_
    exact hRR
  refine snd_cond _ rfl (fun hc7 => ?_) (fun hc7 => ?_)
  · try simp only [hcs] at hc7
    refine snd_skip ?_
    refine snd_seq ?_
    refine snd_block ?_
    apply sr tokTB (by kernel_rfl)
    · intro RR hRR
      refine w_move (by constructor) ?_
      refine w_move (by constructor) ?_
      refine w_iar rfl rfl und62 kn2 (by exact sz2.symm) ?_ rfl ?_
      · exact ⟨by omega, by omega⟩
      first | refine w_ldc rfl kn2 (by constructor) (by exact sz2.symm) (by exact ag2.symm) ?_ | refine w_ldp rfl kn2 rfl (by constructor) (by exact sz2.symm) (by exact ag2.symm) ?_
      refine w_neq rfl rfl ?_
      exact hRR
    refine snd_cond _ rfl (fun hc14 => ?_) (fun hc14 => ?_)
    · skip
      apply sr tokTB (by kernel_rfl)
      · intro RR hRR
        refine w_move (by constructor) ?_
        refine w_assign (by constructor) ?_
        exact hRR
      refine snd_ret ?_
      exact rt (T := TB) (fun V => m_int (idx_at (by omega) (by exact hc14) hi2).symm)
    · skip
      refine snd_skip ?_
      apply lr tokTB (by kernel_rfl)
      · intro RR hRR
        refine w_move (by constructor) ?_
        refine y_add rfl rfl ?_
        refine w_assign (by constructor) ?_
        exact hRR
      refine ⟨i + 1, ρ0, ?_, ⟨by omega, all_step hi2 (by exact hc14)⟩, (by dsimp only; omega)⟩
      exact ⟨⟨(by first | exact mt_row (V := _) (fun _ _ => rfl) | exact mt_fz (by exact trivial) rfl (fun _ _ => rfl)), (mi), trivial⟩, trivial, trivial⟩
  · try simp only [hcs] at hc7
    refine snd_exit ?_
    apply sr tokTB (by kernel_rfl)
    · intro RR hRR
      refine w_assign (by constructor) ?_
      exact hRR
    refine snd_ret ?_
    exact rt (T := TB) (fun V => m_int (idx_none (fun j hj => hi2 j (by omega))).symm)
theorem c_l01Less {m : Nat} {f g : Nat → Int} {p k : Int} (hm : m ≤ 1000000) (hp : 0 < p) (hp2 : p ≤ 256) (hf : B8 f) (hg : B8 g) (hk : 0 ≤ k ∧ k < 256) : ACalls Try.prog TB 121 [.int .i64 p, rowA m f, rowA m g, .int .i64 k] (.own 0 0 m 2) (HR m (lessF p f g k)) := by
  refine acalls_of tokTB Try.func121 rfl rfl (Nat.le_of_ble_eq_true rfl) ?_
  apply sr tokTB (by kernel_rfl)
  · intro RR hRR
    refine w_assign (by constructor) ?_
    exact hRR
  apply sr tokTB (by kernel_rfl)
  · intro RR hRR
    refine w_bsl und62 kn2 (by rw [sz2]; rfl) rfl trivial trivial rfl ?_
    refine w_assign (by constructor) ?_
    exact hRR
  refine snd_seq ?_
  apply sr tokTB (by kernel_rfl)
  · intro RR hRR
    refine w_assign (by constructor) ?_
    exact hRR
  refine snd_block ?_
  refine snd_loop (S := Nat) (fun i => ([(0, .int .i64 p), (1, rowA m f), (2, rowA m g), (3, .int .i64 k), (9, .own 900 0 i 2), (10, .int .i64 (i : Int))], [(900, .one (Z64 i) (C64 i (lessF p f g k)))])) (fun i => i ≤ m) (fun i => m - i) (0) (fun k i => bif Nat.beq k 900 then (11, i) else (k, i)) ?_ ?_ ?_
  · exact ⟨⟨(mi), (by first | exact mt_row (V := _) (fun _ _ => rfl) | exact mt_fz (by exact ⟨(ne_fst rfl), trivial⟩) rfl (fun _ _ => rfl)), (by first | exact mt_row (V := _) (fun _ _ => rfl) | exact mt_fz (by exact ⟨(ne_fst rfl), trivial⟩) rfl (fun _ _ => rfl)), (mi), (by first | exact ⟨rfl, rfl, rfl, rfl⟩ | exact ⟨rfl, by omega, rfl, rfl⟩), (mi), trivial⟩, ⟨⟨rfl, (sx), (by exact mt_arr0)⟩, trivial⟩, ⟨⟨(fun h => by first | exact ⟨rfl, rfl⟩ | exact absurd h (by decide)), trivial⟩, trivial⟩⟩
  · exact Nat.zero_le _
  intro i hi0
  refine sq (env2 := [(0, .int .i64 p), (1, rowA m f), (2, rowA m g), (3, .int .i64 k), (9, .own 900 0 i 2), (10, .int .i64 (i : Int))]) (ol2 := [(900, .one (Z64 i) (C64 i (lessF p f g k)))]) rfl rfl ?_
  refine snd_seq ?_
  apply sr tokTB (by kernel_rfl)
  · intro RR hRR
    refine w_move (by constructor) ?_
    refine w_move (by constructor) ?_
    refine w_len_r rfl rfl und62 ?_
    refine w_lss rfl rfl ?_
    exact hRR
  refine snd_cond _ rfl (fun hc15 => ?_) (fun hc15 => ?_)
  · try simp only [hcs] at hc15
    refine snd_skip ?_
    refine snd_seq ?_
    refine snd_block ?_
    apply ld tokTB mixed (by kernel_rfl) (by kernel_rfl)
    · intro RR hRR
      refine w_move (by constructor) ?_
      refine w_move (by constructor) ?_
      refine w_move (by constructor) ?_
      refine w_move (by constructor) ?_
      refine w_iar rfl rfl und62 kn2 (by exact sz2.symm) ?_ rfl ?_
      · exact ⟨by omega, by omega⟩
      first | refine w_ldc rfl kn2 (by constructor) (by exact sz2.symm) (by exact ag2.symm) ?_ | refine w_ldp rfl kn2 rfl (by constructor) (by exact sz2.symm) (by exact ag2.symm) ?_
      refine w_move (by constructor) ?_
      refine w_move (by constructor) ?_
      refine w_move (by constructor) ?_
      refine w_iar rfl rfl und62 kn2 (by exact sz2.symm) ?_ rfl ?_
      · exact ⟨by omega, by omega⟩
      first | refine w_ldc rfl kn2 (by constructor) (by exact sz2.symm) (by exact ag2.symm) ?_ | refine w_ldp rfl kn2 rfl (by constructor) (by exact sz2.symm) (by exact ag2.symm) ?_
      refine w_mul rfl rfl (by exact w_kg hk hg i) ?_
      refine w_sub rfl rfl (by exact w_fkg hf hk hg i) ?_
      refine y_call rfl (ec (ec exn)) (c_l01Mod (by omega) (by omega)) ?_
      refine w_bsl1 und62 kn2 (by rw [sz2]; rfl) rfl (by constructor) (by first | exact trivial | exact cel_cap2) (by exact sz2.symm) (by first | exact trivial | exact ssh_vec | exact ⟨rfl, fun _ => trivial⟩) ?_
      refine w_app_o und62 rfl rfl kn2 rfl rfl (fun C h => ⟨rfl, rfl, rfl, h⟩) (by rw [by2]; omega) (by omega) rfl ?_
      refine w_assign (by constructor) ?_
      exact hRR
    apply lr tokTB (by kernel_rfl)
    · intro RR hRR
      refine w_move (by constructor) ?_
      refine y_add rfl rfl ?_
      refine w_assign (by constructor) ?_
      exact hRR
    refine ⟨i + 1, (fun k i => bif Nat.beq k 900 then (33, i) else (k, i)), ?_, (by omega), (by dsimp only; omega)⟩
    exact ⟨⟨(mi), (by first | exact mt_row (V := _) (fun _ _ => rfl) | exact mt_fz (by exact ⟨(ne_fst rfl), trivial⟩) rfl (fun _ _ => rfl)), (by first | exact mt_row (V := _) (fun _ _ => rfl) | exact mt_fz (by exact ⟨(ne_fst rfl), trivial⟩) rfl (fun _ _ => rfl)), (mi), (by first | exact ⟨rfl, rfl, rfl, rfl⟩ | exact ⟨rfl, by omega, rfl, rfl⟩), (mi), trivial⟩, ⟨⟨rfl, (sx), (by exact mt_app (fun _ _ => rfl) rfl)⟩, trivial⟩, ⟨⟨(fun h => by first | exact ⟨rfl, rfl⟩ | exact absurd h (by decide)), trivial⟩, trivial⟩⟩
  · try simp only [hcs] at hc15
    have him : m = i := by omega
    subst him
    refine snd_exit ?_
    apply sr tokTB (by kernel_rfl)
    · intro RR hRR
      refine w_move (by constructor) ?_
      refine w_assign (by constructor) ?_
      exact hRR
    refine snd_ret ?_
    show retQ TB _ _ _ _ _ _
    exact rt_own rfl rfl rfl (fun _ => trivial) (fun V i hi => rfl)
theorem c_lessTimes {m : Nat} {f g : Nat → Int} {p k : Int} (hm : m ≤ 1000000) (hp : 0 < p) (hp2 : p ≤ 256) (hf : B8 f) (hg : B8 g) (hk : 0 ≤ k ∧ k < 256) : ACalls Try.prog TB 128 [rowA m f, rowA m g, .int .i64 k, .int .i64 p] (.own 0 0 m 2) (HR m (lessF p f g k)) := by
  refine acalls_of tokTB Try.func128 rfl rfl (Nat.le_of_ble_eq_true rfl) ?_
  apply sr tokTB (by kernel_rfl)
  · intro RR hRR
    refine w_assign (by constructor) ?_
    exact hRR
  apply sr tokTB (by kernel_rfl)
  · intro RR hRR
    refine w_bsl und62 kn2 (by rw [sz2]; rfl) rfl trivial trivial rfl ?_
    refine w_assign (by constructor) ?_
    exact hRR
  refine snd_seq ?_
  apply sr tokTB (by kernel_rfl)
  · intro RR hRR
    refine w_move (by constructor) ?_
    refine w_len_r rfl rfl und62 ?_
    refine w_move (by constructor) ?_
    exact hRR
  refine snd_block ?_
  refine snd_loop (S := Nat) (fun i => ([(1, rowA m g), (2, .int .i64 k), (3, .int .i64 p), (13, rowA m f), (14, .int .i64 (m : Int)), (9, .own 900 0 i 2), (15, .int .i64 (i : Int))], [(900, .one (Z64 i) (C64 i (lessF p f g k)))])) (fun i => i ≤ m) (fun i => m - i) (0) (fun k i => bif Nat.beq k 900 then (12, i) else (k, i)) ?_ ?_ ?_
  · exact ⟨⟨(by first | exact mt_row (V := _) (fun _ _ => rfl) | exact mt_fz (by exact ⟨(ne_fst rfl), trivial⟩) rfl (fun _ _ => rfl)), (mi), (mi), (by first | exact mt_row (V := _) (fun _ _ => rfl) | exact mt_fz (by exact ⟨(ne_fst rfl), trivial⟩) rfl (fun _ _ => rfl)), (mi), (by first | exact ⟨rfl, rfl, rfl, rfl⟩ | exact ⟨rfl, by omega, rfl, rfl⟩), (mi), trivial⟩, ⟨⟨rfl, (sx), (by exact mt_arr0)⟩, trivial⟩, ⟨⟨(fun h => by first | exact ⟨rfl, rfl⟩ | exact absurd h (by decide)), trivial⟩, trivial⟩⟩
  · exact Nat.zero_le _
  intro i hi0
  refine sq (env2 := [(1, rowA m g), (2, .int .i64 k), (3, .int .i64 p), (13, rowA m f), (14, .int .i64 (m : Int)), (9, .own 900 0 i 2), (15, .int .i64 (i : Int))]) (ol2 := [(900, .one (Z64 i) (C64 i (lessF p f g k)))]) rfl rfl ?_
  apply sr tokTB (by kernel_rfl)
  · intro RR hRR
    refine w_lss rfl rfl ?_
    exact hRR
  refine snd_seq ?_
  refine snd_cond _ rfl (fun hc16 => ?_) (fun hc16 => ?_)
  · try simp only [hcs] at hc16
    refine snd_skip ?_
    refine snd_seq ?_
    refine snd_block ?_
    apply sr tokTB (by kernel_rfl)
    · intro RR hRR
      refine w_move (by constructor) ?_
      refine w_iar rfl rfl und62 kn2 (by exact sz2.symm) ?_ rfl ?_
      · exact ⟨by omega, by omega⟩
      first | refine w_ldc rfl kn2 (by constructor) (by exact sz2.symm) (by exact ag2.symm) ?_ | refine w_ldp rfl kn2 rfl (by constructor) (by exact sz2.symm) (by exact ag2.symm) ?_
      refine w_assign (by constructor) ?_
      refine w_assign (by constructor) ?_
      exact hRR
    apply lr tokTB (by kernel_rfl)
    · intro RR hRR
      refine w_move (by constructor) ?_
      refine w_move (by constructor) ?_
      refine w_move (by constructor) ?_
      refine w_move (by constructor) ?_
      refine w_move (by constructor) ?_
      refine w_iar rfl rfl und62 kn2 (by exact sz2.symm) ?_ rfl ?_
      · exact ⟨by omega, by omega⟩
      first | refine w_ldc rfl kn2 (by constructor) (by exact sz2.symm) (by exact ag2.symm) ?_ | refine w_ldp rfl kn2 rfl (by constructor) (by exact sz2.symm) (by exact ag2.symm) ?_
      refine w_mul rfl rfl (by exact w_kg hk hg i) ?_
      refine w_sub rfl rfl (by exact w_fkg hf hk hg i) ?_
      refine w_move (by constructor) ?_
      refine y_call rfl (ec (ec exn)) (c_rest (by omega) (by omega)) ?_
      refine w_bsl1 und62 kn2 (by rw [sz2]; rfl) rfl (by constructor) (by first | exact trivial | exact cel_cap2) (by exact sz2.symm) (by first | exact trivial | exact ssh_vec | exact ⟨rfl, fun _ => trivial⟩) ?_
      refine w_app_o und62 rfl rfl kn2 rfl rfl (fun C h => ⟨rfl, rfl, rfl, h⟩) (by rw [by2]; omega) (by omega) rfl ?_
      refine w_assign (by constructor) ?_
      exact hRR
    apply lr tokTB (by kernel_rfl)
    · intro RR hRR
      refine y_add rfl rfl ?_
      refine w_move (by constructor) ?_
      exact hRR
    refine ⟨i + 1, (fun k i => bif Nat.beq k 900 then (32, i) else (k, i)), ?_, (by omega), (by dsimp only; omega)⟩
    exact ⟨⟨(by first | exact mt_row (V := _) (fun _ _ => rfl) | exact mt_fz (by exact ⟨(ne_fst rfl), trivial⟩) rfl (fun _ _ => rfl)), (mi), (mi), (by first | exact mt_row (V := _) (fun _ _ => rfl) | exact mt_fz (by exact ⟨(ne_fst rfl), trivial⟩) rfl (fun _ _ => rfl)), (mi), (by first | exact ⟨rfl, rfl, rfl, rfl⟩ | exact ⟨rfl, by omega, rfl, rfl⟩), (mi), trivial⟩, ⟨⟨rfl, (sx), (by exact mt_app (fun _ _ => rfl) rfl)⟩, trivial⟩, ⟨⟨(fun h => by first | exact ⟨rfl, rfl⟩ | exact absurd h (by decide)), trivial⟩, trivial⟩⟩
  · try simp only [hcs] at hc16
    have him : m = i := by omega
    subst him
    refine snd_exit ?_
    apply sr tokTB (by kernel_rfl)
    · intro RR hRR
      refine w_move (by constructor) ?_
      refine w_assign (by constructor) ?_
      exact hRR
    refine snd_ret ?_
    show retQ TB _ _ _ _ _ _
    exact rt_own rfl rfl rfl (fun _ => trivial) (fun V i hi => rfl)
theorem c_scaled {m : Nat} {f : Nat → Int} {p k : Int} (hm : m ≤ 1000000) (hp : 0 < p) (hp2 : p ≤ 256) (hf : B8 f) (hk : 0 ≤ k ∧ k < 256) : ACalls Try.prog TB 125 [rowA m f, .int .i64 k, .int .i64 p] (.own 0 0 m 2) (HR m (scaledF p f k)) := by
  refine acalls_of tokTB Try.func125 rfl rfl (Nat.le_of_ble_eq_true rfl) ?_
  apply sr tokTB (by kernel_rfl)
  · intro RR hRR
    refine w_assign (by constructor) ?_
    exact hRR
  apply sr tokTB (by kernel_rfl)
  · intro RR hRR
    refine w_bsl und62 kn2 (by rw [sz2]; rfl) rfl trivial trivial rfl ?_
    refine w_assign (by constructor) ?_
    exact hRR
  refine snd_seq ?_
  apply sr tokTB (by kernel_rfl)
  · intro RR hRR
    refine w_move (by constructor) ?_
    refine w_len_r rfl rfl und62 ?_
    refine w_move (by constructor) ?_
    exact hRR
  refine snd_block ?_
  refine snd_loop (S := Nat) (fun i => ([(1, .int .i64 k), (2, .int .i64 p), (11, rowA m f), (12, .int .i64 (m : Int)), (7, .own 900 0 i 2), (13, .int .i64 (i : Int))], [(900, .one (Z64 i) (C64 i (scaledF p f k)))])) (fun i => i ≤ m) (fun i => m - i) (0) (fun k i => bif Nat.beq k 900 then (10, i) else (k, i)) ?_ ?_ ?_
  · exact ⟨⟨(mi), (mi), (by first | exact mt_row (V := _) (fun _ _ => rfl) | exact mt_fz (by exact ⟨(ne_fst rfl), trivial⟩) rfl (fun _ _ => rfl)), (mi), (by first | exact ⟨rfl, rfl, rfl, rfl⟩ | exact ⟨rfl, by omega, rfl, rfl⟩), (mi), trivial⟩, ⟨⟨rfl, (sx), (by exact mt_arr0)⟩, trivial⟩, ⟨⟨(fun h => by first | exact ⟨rfl, rfl⟩ | exact absurd h (by decide)), trivial⟩, trivial⟩⟩
  · exact Nat.zero_le _
  intro i hi0
  refine sq (env2 := [(1, .int .i64 k), (2, .int .i64 p), (11, rowA m f), (12, .int .i64 (m : Int)), (7, .own 900 0 i 2), (13, .int .i64 (i : Int))]) (ol2 := [(900, .one (Z64 i) (C64 i (scaledF p f k)))]) rfl rfl ?_
  apply sr tokTB (by kernel_rfl)
  · intro RR hRR
    refine w_lss rfl rfl ?_
    exact hRR
  refine snd_seq ?_
  refine snd_cond _ rfl (fun hc14 => ?_) (fun hc14 => ?_)
  · try simp only [hcs] at hc14
    refine snd_skip ?_
    refine snd_seq ?_
    refine snd_block ?_
    apply sr tokTB (by kernel_rfl)
    · intro RR hRR
      refine w_iar rfl rfl und62 kn2 (by exact sz2.symm) ?_ rfl ?_
      · exact ⟨by omega, by omega⟩
      first | refine w_ldc rfl kn2 (by constructor) (by exact sz2.symm) (by exact ag2.symm) ?_ | refine w_ldp rfl kn2 rfl (by constructor) (by exact sz2.symm) (by exact ag2.symm) ?_
      refine w_assign (by constructor) ?_
      exact hRR
    apply lr tokTB (by kernel_rfl)
    · intro RR hRR
      refine w_move (by constructor) ?_
      refine w_move (by constructor) ?_
      refine w_move (by constructor) ?_
      refine w_mul rfl rfl (by exact w_fk hf hk i) ?_
      refine w_move (by constructor) ?_
      refine w_rem rfl rfl (by first | assumption | omega) ?_
      refine w_bsl1 und62 kn2 (by rw [sz2]; rfl) rfl (by constructor) (by first | exact trivial | exact cel_cap2) (by exact sz2.symm) (by first | exact trivial | exact ssh_vec | exact ⟨rfl, fun _ => trivial⟩) ?_
      refine w_app_o und62 rfl rfl kn2 rfl rfl (fun C h => ⟨rfl, rfl, rfl, h⟩) (by rw [by2]; omega) (by omega) rfl ?_
      refine w_assign (by constructor) ?_
      exact hRR
    apply lr tokTB (by kernel_rfl)
    · intro RR hRR
      refine y_add rfl rfl ?_
      refine w_move (by constructor) ?_
      exact hRR
    refine ⟨i + 1, (fun k i => bif Nat.beq k 900 then (24, i) else (k, i)), ?_, (by omega), (by dsimp only; omega)⟩
    exact ⟨⟨(mi), (mi), (by first | exact mt_row (V := _) (fun _ _ => rfl) | exact mt_fz (by exact ⟨(ne_fst rfl), trivial⟩) rfl (fun _ _ => rfl)), (mi), (by first | exact ⟨rfl, rfl, rfl, rfl⟩ | exact ⟨rfl, by omega, rfl, rfl⟩), (mi), trivial⟩, ⟨⟨rfl, (sx), (by exact mt_app (fun _ _ => rfl) (congrArg (AV.int .i64) (scaled_tmod hf hk i)))⟩, trivial⟩, ⟨⟨(fun h => by first | exact ⟨rfl, rfl⟩ | exact absurd h (by decide)), trivial⟩, trivial⟩⟩
  · try simp only [hcs] at hc14
    have him : m = i := by omega
    subst him
    refine snd_exit ?_
    apply sr tokTB (by kernel_rfl)
    · intro RR hRR
      refine w_move (by constructor) ?_
      refine w_assign (by constructor) ?_
      exact hRR
    refine snd_ret ?_
    show retQ TB _ _ _ _ _ _
    exact rt_own rfl rfl rfl (fun _ => trivial) (fun V i hi => rfl)
theorem c_powerI {x p : Int} {k : Nat} (hx : 0 ≤ x ∧ x < 256) (hp : 1 < p) (hp2 : p ≤ 256) (hk : k ≤ 1000000) : ACalls Try.prog TB 133 [.int .i64 x, .int .i64 (k : Int), .int .i64 p] (.int .i64 (powF x p k)) [] := by
  refine acalls_of tokTB Try.func133 rfl rfl (Nat.le_of_ble_eq_true rfl) ?_
  apply sr tokTB (by kernel_rfl)
  · intro RR hRR
    refine w_assign (by constructor) ?_
    exact hRR
  apply sr tokTB (by kernel_rfl)
  · intro RR hRR
    refine w_assign (by constructor) ?_
    exact hRR
  refine snd_seq ?_
  apply sr tokTB (by kernel_rfl)
  · intro RR hRR
    refine w_move (by constructor) ?_
    refine w_move (by constructor) ?_
    exact hRR
  refine snd_block ?_
  refine snd_loop (S := Nat) (fun i => ([(0, .int .i64 x), (2, .int .i64 p), (7, .int .i64 (powF x p i)), (8, .int .i64 (k : Int)), (9, .int .i64 (i : Int))], [])) (fun i => i ≤ k) (fun i => k - i) (0) ρ0 ?_ ?_ ?_
  · exact ⟨⟨(mi), (mi), (mi), (mi), (mi), trivial⟩, trivial, trivial⟩
  · exact Nat.zero_le _
  intro i hi0
  refine sq (env2 := [(0, .int .i64 x), (2, .int .i64 p), (7, .int .i64 (powF x p i)), (8, .int .i64 (k : Int)), (9, .int .i64 (i : Int))]) (ol2 := []) rfl rfl ?_
  apply sr tokTB (by kernel_rfl)
  · intro RR hRR
    refine w_lss rfl rfl ?_
    exact hRR
  refine snd_seq ?_
  refine snd_cond _ rfl (fun hc10 => ?_) (fun hc10 => ?_)
  · try simp only [hcs] at hc10
    refine snd_skip ?_
    refine snd_seq ?_
    refine snd_block ?_
    apply lr tokTB (by kernel_rfl)
    · intro RR hRR
      refine w_move (by constructor) ?_
      refine w_move (by constructor) ?_
      refine w_mul rfl rfl (by exact w_pow hx hp hp2 i) ?_
      refine w_move (by constructor) ?_
      refine w_rem rfl rfl (by first | assumption | omega) ?_
      refine w_assign (by constructor) ?_
      exact hRR
    apply lr tokTB (by kernel_rfl)
    · intro RR hRR
      refine y_add rfl rfl ?_
      refine w_move (by constructor) ?_
      exact hRR
    refine ⟨i + 1, ρ0, ?_, (by omega), (by dsimp only; omega)⟩
    exact ⟨⟨(mi), (mi), (by exact m_int (pow_tmod hx hp i)), (mi), (mi), trivial⟩, trivial, trivial⟩
  · try simp only [hcs] at hc10
    have him : k = i := by omega
    subst him
    refine snd_exit ?_
    apply sr tokTB (by kernel_rfl)
    · intro RR hRR
      refine w_move (by constructor) ?_
      refine w_assign (by constructor) ?_
      exact hRR
    refine snd_ret ?_
    exact rt (T := TB) (fun V => by first | exact m_bool rfl | exact m_int rfl)
theorem c_inverseI {x p : Int} (hx : 0 ≤ x ∧ x < 256) (hp : 1 < p) (hp2 : p ≤ 256) : ACalls Try.prog TB 126 [.int .i64 x, .int .i64 p] (.int .i64 (invF p x)) [] := by
  have hk : p - 2 = ((p - 2).toNat : Int) := by omega
  refine acalls_of tokTB Try.func126 rfl rfl (Nat.le_of_ble_eq_true rfl) ?_
  apply sr tokTB (by kernel_rfl)
  · intro RR hRR
    refine w_assign (by constructor) ?_
    exact hRR
  apply sr tokTB (by kernel_rfl)
  · intro RR hRR
    refine w_move (by constructor) ?_
    refine w_move (by constructor) ?_
    refine y_sub rfl rfl ?_
    refine w_move (by constructor) ?_
    refine y_call rfl (exc (by exact rfl) (exc (by exact congrArg (AV.int .i64) hk) (exc (by exact rfl) exn))) (c_powerI (k := (p - 2).toNat) hx hp hp2 (by omega)) ?_
    refine w_assign (by constructor) ?_
    exact hRR
  refine snd_ret ?_
  exact rt (T := TB) (fun V => by first | exact m_bool rfl | exact m_int rfl)
theorem c_l01Inverse {x p : Int} (hp : primeB p = true) (hx : 0 < x) (hx2 : x < p) : ACalls Try.prog TB 122 [.int .i64 p, .int .i64 x] (.int .i64 (invF p x)) [] := by
  have hpb := primeB_bd hp
  have hxp : x % p = x := Int.emod_eq_of_lt (by omega) hx2
  have hiv := (inv_ok hp hx hx2).1
  have h0p : decide (((0 : Nat) : Int) * x % p = 1) = false := by simp
  refine acalls_of tokTB Try.func122 rfl rfl (Nat.le_of_ble_eq_true rfl) ?_
  apply sr tokTB (by kernel_rfl)
  · intro RR hRR
    refine w_assign (by constructor) ?_
    exact hRR
  refine snd_seq ?_
  apply sr tokTB (by kernel_rfl)
  · intro RR hRR
    refine w_assign (by constructor) ?_
    exact hRR
  refine snd_block ?_
  refine snd_loop (S := Nat) (fun i => ([(0, .int .i64 p), (1, .int .i64 x), (5, .int .i64 (i : Int))], [])) (fun i => (1 ≤ i ∧ i ≤ p.toNat) ∧ ∀ j, j < i → decide ((j : Int) * x % p = 1) = false) (fun i => p.toNat - i) (1) ρ0 ?_ ?_ ?_
  · exact ⟨⟨(mi), (mi), (mi), trivial⟩, trivial, trivial⟩
  · exact ⟨by omega, fun j hj => by rw [show j = 0 by omega]; exact h0p⟩
  intro i hi0
  refine sq (env2 := [(0, .int .i64 p), (1, .int .i64 x), (5, .int .i64 (i : Int))]) (ol2 := []) rfl rfl ?_
  obtain ⟨hi1, hi2⟩ := hi0
  refine snd_seq ?_
  apply sr tokTB (by kernel_rfl)
  · intro RR hRR
    refine w_move (by constructor) ?_
    refine w_move (by constructor) ?_
    refine w_lss rfl rfl ?_
    exact hRR
  refine snd_cond _ rfl (fun hc8 => ?_) (fun hc8 => ?_)
  · try simp only [hcs] at hc8
    refine snd_skip ?_
    refine snd_seq ?_
    refine snd_block ?_
    apply sr tokTB (by kernel_rfl)
    · intro RR hRR
      refine w_move (by constructor) ?_
      refine w_move (by constructor) ?_
      refine w_move (by constructor) ?_
      refine y_call rfl (ec (ec exn)) (c_l01Mod (by omega) (by omega)) ?_
      refine w_mul rfl rfl (by exact w_inv (by omega) hxp hx hx2 hpb.2) ?_
      refine w_move (by constructor) ?_
      refine w_rem rfl rfl (by first | assumption | omega) ?_
      refine w_eql rfl rfl ?_
      exact hRR
    refine snd_cond _ rfl (fun hc18 => ?_) (fun hc18 => ?_)
    · skip
      apply sr tokTB (by kernel_rfl)
      · intro RR hRR
        refine w_move (by constructor) ?_
        refine w_assign (by constructor) ?_
        exact hRR
      refine snd_ret ?_
      exact rt (T := TB) (fun V => m_int (by rw [inv_tmod hx] at hc18; rw [← hiv, invS, idx_at (by omega) hc18 hi2, if_neg (by omega)]))
    · skip
      refine snd_skip ?_
      apply lr tokTB (by kernel_rfl)
      · intro RR hRR
        refine w_move (by constructor) ?_
        refine y_add rfl rfl ?_
        refine w_assign (by constructor) ?_
        exact hRR
      refine ⟨i + 1, ρ0, ?_, ⟨by omega, all_step hi2 (by rw [inv_tmod hx] at hc18; exact hc18)⟩, (by dsimp only; omega)⟩
      exact ⟨⟨(mi), (mi), (mi), trivial⟩, trivial, trivial⟩
  · try simp only [hcs] at hc8
    refine snd_exit ?_
    apply sr tokTB (by kernel_rfl)
    · intro RR hRR
      refine w_assign (by constructor) ?_
      exact hRR
    refine snd_ret ?_
    exact rt (T := TB) (fun V => m_int (by rw [← hiv, invS, idx_none (fun j hj => hi2 j (by omega))]; rfl))
end Go.Am

set_option linter.unusedVariables false
set_option linter.unusedSimpArgs false
set_option maxRecDepth 4000
namespace Go.Am
attribute [local irreducible] retQ retQp
open Go.Proofs
theorem c_CloneR {n m : Nat} {R : Nat → Nat → Int} (h0 : 0 < n) (hn : n ≤ 1000000) : ACalls Try.prog TB 123 [rowsA n m R] (.own 0 0 n 62) (HRR n m R) := by
  refine acalls_of tokTB Try.func123 rfl rfl (Nat.le_of_ble_eq_true rfl) ?_
  apply sr tokTB (by kernel_rfl)
  · intro RR hRR
    refine w_assign (by constructor) ?_
    exact hRR
  refine snd_seq ?_
  apply sr tokTB (by kernel_rfl)
  · intro RR hRR
    refine w_move (by constructor) ?_
    refine w_reqn rfl rfl (by omega) und35 ?_
    exact hRR
  refine snd_cond_false rfl ?_
  refine snd_skip ?_
  apply sr tokTB (by kernel_rfl)
  · intro RR hRR
    refine w_bsl und35 kn62 (by rw [sz62]; rfl) rfl trivial trivial rfl ?_
    refine w_move (by constructor) ?_
    refine w_app_o und35 rfl rfl kn62 rfl rfl (fun C h => ⟨by omega, fun _ => trivial, h⟩) (by rw [by62]; omega) (by omega) rfl ?_
    refine w_assign (by constructor) ?_
    exact hRR
  refine snd_ret ?_
  show retQ TB _ _ _ _ _ _
  exact rt_own rfl rfl (by omega) (fun _ => trivial) (fun V i hi => by rw [appF_ge (Nat.zero_le _) (by omega)]; exact mt_row (fun _ _ => rfl))
theorem c_IndexFunc2 {n m : Nat} {R : Nat → Nat → Int} {g nc : Nat} {caps : Nat → AV} {P : Nat → Bool} (hm : n ≤ 1000000) (hcaps : (AV.fn g nc caps).closed) (hf : ∀ i, i < n → ACalls Try.prog TB g (rowA m (R i) :: capL nc caps) (.bool (P i)) []) : ACalls Try.prog TB 70 [rowsA n m R, .fn g nc caps] (.int .i64 (idxF P n)) [] := by
  refine acalls_of tokTB Try.func70 rfl rfl (Nat.le_of_ble_eq_true rfl) ?_
  apply sr tokTB (by kernel_rfl)
  · intro RR hRR
    refine w_assign (by constructor) ?_
    exact hRR
  refine snd_seq ?_
  apply sr tokTB (by kernel_rfl)
  · intro RR hRR
    refine w_move (by constructor) ?_
    refine w_len_r rfl rfl und35 ?_
    refine w_move (by constructor) ?_
    exact hRR
  refine snd_block ?_
  refine snd_loop (S := Nat) (fun i => ([(0, rowsA n m R), (1, .fn g nc caps), (7, .int .i64 (n : Int)), (8, .int .i64 (i : Int))], [])) (fun i => i ≤ n ∧ ∀ j, j < i → P j = false) (fun i => n - i) (0) ρ0 ?_ ?_ ?_
  · exact ⟨⟨(mt_rows (V := _) (fun _ _ _ _ => rfl)), (Mt_closed (V := _) (by assumption) (fun _ _ _ => trivial) (by simp)), (mi), (mi), trivial⟩, trivial, trivial⟩
  · exact ⟨Nat.zero_le _, fun j hj => by omega⟩
  intro i hi0
  refine sq (env2 := [(0, rowsA n m R), (1, .fn g nc caps), (7, .int .i64 (n : Int)), (8, .int .i64 (i : Int))]) (ol2 := []) rfl rfl ?_
  obtain ⟨hi1, hi2⟩ := hi0
  apply sr tokTB (by kernel_rfl)
  · intro RR hRR
    refine w_lss rfl rfl ?_
    exact hRR
  refine snd_seq ?_
  refine snd_cond _ rfl (fun hc9 => ?_) (fun hc9 => ?_)
  · try simp only [hcs] at hc9
    refine snd_skip ?_
    refine snd_seq ?_
    refine snd_block ?_
    apply sr tokTB (by kernel_rfl)
    · intro RR hRR
      refine w_move (by constructor) ?_
      refine w_assign (by constructor) ?_
      exact hRR
    apply sr tokTB (by kernel_rfl)
    · intro RR hRR
      refine w_move (by constructor) ?_
      refine w_move (by constructor) ?_
      refine w_move (by constructor) ?_
      refine w_iar rfl rfl und35 kn62 (by exact sz62.symm) ?_ rfl ?_
      · exact ⟨by omega, by omega⟩
      first | refine w_ldc rfl kn62 (by constructor) (by exact sz62.symm) (by exact ag62.symm) ?_ | refine w_ldp rfl kn62 rfl (by constructor) (by exact sz62.symm) (by exact ag62.symm) ?_
      refine y_call rfl (exc (by exact rfl) (exp_capL hcaps)) (hf i (by omega)) ?_
      exact hRR
    refine snd_cond _ rfl (fun hc16 => ?_) (fun hc16 => ?_)
    · skip
      apply sr tokTB (by kernel_rfl)
      · intro RR hRR
        refine w_move (by constructor) ?_
        refine w_assign (by constructor) ?_
        exact hRR
      refine snd_ret ?_
      exact rt (T := TB) (fun V => m_int (idx_at (by omega) (by exact hc16) hi2).symm)
    · skip
      refine snd_skip ?_
      apply lr tokTB (by kernel_rfl)
      · intro RR hRR
        refine y_add rfl rfl ?_
        refine w_move (by constructor) ?_
        exact hRR
      refine ⟨i + 1, ρ0, ?_, ⟨by omega, all_step hi2 (by exact hc16)⟩, (by dsimp only; omega)⟩
      exact ⟨⟨(mt_rows (V := _) (fun _ _ _ _ => rfl)), (Mt_closed (V := _) (by assumption) (fun _ _ _ => trivial) (by simp)), (mi), (mi), trivial⟩, trivial, trivial⟩
  · try simp only [hcs] at hc9
    refine snd_exit ?_
    apply sr tokTB (by kernel_rfl)
    · intro RR hRR
      refine w_assign (by constructor) ?_
      exact hRR
    refine snd_ret ?_
    exact rt (T := TB) (fun V => m_int (idx_none (fun j hj => hi2 j (by omega))).symm)
theorem c_reduce1 {m c : Nat} {f : Nat → Int} (hc : c < m) : ACalls Try.prog TB 124 [rowA m f, .cptr (.int .i64 (c : Int))] (.bool (decide (f c ≠ 0))) [] := by
  refine acalls_of tokTB Try.func124 rfl rfl (Nat.le_of_ble_eq_true rfl) ?_
  apply sr tokTB (by kernel_rfl)
  · intro RR hRR
    refine w_assign (by constructor) ?_
    exact hRR
  apply sr tokTB (by kernel_rfl)
  · intro RR hRR
    refine w_move (by constructor) ?_
    refine w_ldc rfl kn3 (by constructor) (by exact sz3.symm) (by exact ag3.symm) ?_
    refine w_iar rfl rfl und62 kn2 (by exact sz2.symm) ?_ rfl ?_
    · exact ⟨by omega, by omega⟩
    first | refine w_ldc rfl kn2 (by constructor) (by exact sz2.symm) (by exact ag2.symm) ?_ | refine w_ldp rfl kn2 rfl (by constructor) (by exact sz2.symm) (by exact ag2.symm) ?_
    refine w_neq rfl rfl ?_
    refine w_assign (by constructor) ?_
    exact hRR
  refine snd_ret ?_
  exact rt (T := TB) (fun V => by first | exact m_bool rfl | exact m_int rfl)
theorem c_reduce {n m : Nat} {R : Nat → Nat → Int} {p : Int} (hp : primeB p = true) (hn : n ≤ 1000) (hm : m ≤ 1000) (hR : ∀ i, B8 (R i)) : ACalls Try.prog TB 112 [rowsA n m R, .int .i64 p] (.own 0 0 (redGo p n R m).no 62) (HRR (redGo p n R m).no m (redGo p n R m).O) := by
  have hpb := primeB_bd hp
  refine acalls_of tokTB Try.func112 rfl rfl (Nat.le_of_ble_eq_true rfl) ?_
  apply sr tokTB (by kernel_rfl)
  · intro RR hRR
    refine w_assign (by constructor) ?_
    exact hRR
  apply sr tokTB (by kernel_rfl)
  · intro RR hRR
    refine w_bsl und35 kn62 (by rw [sz62]; rfl) rfl trivial trivial rfl ?_
    refine w_assign (by constructor) ?_
    exact hRR
  refine snd_seq ?_
  apply sr tokTB (by kernel_rfl)
  · intro RR hRR
    refine w_move (by constructor) ?_
    refine w_len_r rfl rfl und35 ?_
    refine w_eql rfl rfl ?_
    exact hRR
  refine snd_cond _ rfl (fun hc17 => ?_) (fun hc17 => ?_)
  · try simp only [hcs] at hc17
    have hn0 : n = 0 := by omega
    have hno : (redGo p n R m).no = 0 := by have := (red_counts p n R m).2.2; omega
    apply sr tokTB (by kernel_rfl)
    · intro RR hRR
      refine w_move (by constructor) ?_
      refine w_assign (by constructor) ?_
      exact hRR
    refine snd_ret ?_
    show retQ TB _ _ _ _ _ _
    exact rt_own rfl rfl hno.symm (fun _ => trivial) (fun V i hi => by omega)
  · try simp only [hcs] at hc17
    refine snd_skip ?_
    apply sr tokTB (by kernel_rfl)
    · intro RR hRR
      refine w_move (by constructor) ?_
      refine w_call rfl (ec exn) (c_CloneR (m := m) (R := R) (by omega) (by omega)) (.inr ⟨closed_rows, trivial⟩) rfl (by constructor) rfl ?_
      refine w_assign (by constructor) ?_
      exact hRR
    refine snd_seq ?_
    apply sr tokTB (by kernel_rfl)
    · intro RR hRR
      refine w_move (by constructor) ?_
      refine w_iar rfl rfl und35 kn62 (by exact sz62.symm) ?_ rfl ?_
      · exact ⟨by omega, by omega⟩
      first | refine w_ldc rfl kn62 (by constructor) (by exact sz62.symm) (by exact ag62.symm) ?_ | refine w_ldp rfl kn62 rfl (by constructor) (by exact sz62.symm) (by exact ag62.symm) ?_
      first | refine w_len_r rfl rfl und62 ?_ | refine w_len_o rfl rfl und62 ?_ | refine w_len_n rfl rfl und62 ?_
      refine w_move (by constructor) ?_
      exact hRR
    refine snd_block ?_
    refine snd_loop (S := Nat) (fun c => ([(1, .int .i64 p), (24, .int .i64 (m : Int)), (25, .int .i64 (c : Int)), (5, .own 905 0 ((redGo p n R c).no) 62), (6, .own 906 0 ((redGo p n R c).nl) 62)], [(905, .one (ZR ((redGo p n R c).no)) (CR ((redGo p n R c).no) m ((redGo p n R c).O))), (906, .one (ZR ((redGo p n R c).nl)) (CR ((redGo p n R c).nl) m ((redGo p n R c).L)))])) (fun c => c ≤ m) (fun c => m - c) (0) (fun k i => bif Nat.beq k 906 then (21000, i) else bif Nat.beq k 905 then (14, i) else (k, i)) ?_ ?_ ?_
    · exact ⟨⟨(mi), (mi), (mi), (by first | exact ⟨rfl, rfl, rfl, rfl⟩ | exact ⟨rfl, by omega, rfl, rfl⟩), (by first | exact ⟨rfl, rfl, rfl, rfl⟩ | exact ⟨rfl, by omega, rfl, rfl⟩), trivial⟩, ⟨⟨rfl, (sx), (by exact mt_arr0)⟩, ⟨rfl, (sx), (by exact ⟨rfl, fun _ _ => mt_row (fun _ _ => rfl)⟩)⟩, trivial⟩, ⟨⟨(fun h => by first | exact ⟨rfl, rfl⟩ | exact absurd h (by decide)), (fun h => by first | exact ⟨rfl, rfl⟩ | exact absurd h (by decide)), trivial⟩, ⟨(fun h => by first | exact ⟨rfl, rfl⟩ | exact absurd h (by decide)), (fun h => by first | exact ⟨rfl, rfl⟩ | exact absurd h (by decide)), trivial⟩, trivial⟩⟩
    · exact Nat.zero_le _
    intro c hi0
    refine sq (env2 := [(1, .int .i64 p), (24, .int .i64 (m : Int)), (25, .int .i64 (c : Int)), (5, .own 905 0 ((redGo p n R c).no) 62), (6, .own 906 0 ((redGo p n R c).nl) 62)]) (ol2 := [(905, .one (ZR ((redGo p n R c).no)) (CR ((redGo p n R c).no) m ((redGo p n R c).O))), (906, .one (ZR ((redGo p n R c).nl)) (CR ((redGo p n R c).nl) m ((redGo p n R c).L)))]) rfl rfl ?_
    apply sr tokTB (by kernel_rfl)
    · intro RR hRR
      refine w_lss rfl rfl ?_
      exact hRR
    refine snd_seq ?_
    refine snd_cond _ rfl (fun hc26 => ?_) (fun hc26 => ?_)
    · try simp only [hcs] at hc26
      refine snd_skip ?_
      refine snd_seq ?_
      refine snd_block ?_
      apply sr tokTB (by kernel_rfl)
      · intro RR hRR
        refine w_move (by constructor) ?_
        refine w_alloc kn3 rfl zr3 ?_
        refine w_stw rfl (by constructor) kn3 rfl (by exact trivial) (sx) (by exact sz3.symm) ?_
        exact hRR
      obtain ⟨ix, hix⟩ : ∃ ix, ix = idxF (fun i => decide ((redGo p n R c).L i c ≠ 0)) (redGo p n R c).nl := ⟨_, rfl⟩
      have hcn0 := red_counts p n R c
      apply sr tokTB (by kernel_rfl)
      · intro RR hRR
        refine w_move (by constructor) ?_
        refine w_mkf1 (by constructor) ?_
        refine y_call rfl (exc (by exact rfl) (exc (by refine congrArg (AV.fn _ 1) (funext fun i => ?_); match i with | 0 => rfl | n + 1 => rfl) exn)) (hix ▸ c_IndexFunc2 (P := fun i => decide ((redGo p n R c).L i c ≠ 0)) (g := 124) (nc := 1) (caps := cap1 (.cptr (.int .i64 (c : Int)))) (by omega) (fun i => by match i with | 0 => exact trivial | n + 1 => exact trivial) (fun i _ => c_reduce1 (by omega))) ?_
        refine w_assign (by constructor) ?_
        exact hRR
      refine snd_seq ?_
      apply sr tokTB (by kernel_rfl)
      · intro RR hRR
        refine w_move (by constructor) ?_
        refine w_lss rfl rfl ?_
        exact hRR
      refine snd_cond _ rfl (fun hc32 => ?_) (fun hc32 => ?_)
      · try simp only [hcs] at hc32
        have hnx := red_miss (p := p) (n := n) (R := R) (c := c) (by rw [← hix]; exact hc32)
        refine snd_exit ?_
        apply lr tokTB (by kernel_rfl)
        · intro RR hRR
          refine y_add rfl rfl ?_
          refine w_move (by constructor) ?_
          exact hRR
        refine ⟨c + 1, ρ0, ?_, (by omega), (by dsimp only; omega)⟩
        dsimp only
        rw [hnx]
        exact ⟨⟨(mi), (mi), (mi), (by first | exact ⟨rfl, rfl, rfl, rfl⟩ | exact ⟨rfl, by omega, rfl, rfl⟩), (by first | exact ⟨rfl, rfl, rfl, rfl⟩ | exact ⟨rfl, by omega, rfl, rfl⟩), trivial⟩, ⟨⟨rfl, (sx), (by exact ⟨rfl, fun _ _ => mt_row (fun _ _ => rfl)⟩)⟩, ⟨rfl, (sx), (by exact ⟨rfl, fun _ _ => mt_row (fun _ _ => rfl)⟩)⟩, trivial⟩, ⟨⟨(fun h => by first | exact ⟨rfl, rfl⟩ | exact absurd h (by decide)), (fun h => by first | exact ⟨rfl, rfl⟩ | exact absurd h (by decide)), trivial⟩, ⟨(fun h => by first | exact ⟨rfl, rfl⟩ | exact absurd h (by decide)), (fun h => by first | exact ⟨rfl, rfl⟩ | exact absurd h (by decide)), trivial⟩, trivial⟩⟩
      · try simp only [hcs] at hc32
        obtain ⟨k, hk, hPk, hek⟩ : ∃ k : Nat, k < (redGo p n R c).nl ∧ (redGo p n R c).L k c ≠ 0 ∧ ix = (k : Int) := by
          rcases idx_cases (fun i => decide ((redGo p n R c).L i c ≠ 0)) (redGo p n R c).nl with ⟨k, hk, hPk, _, he⟩ | ⟨_, he⟩
          · exact ⟨k, hk, by simpa using hPk, hix.trans he⟩
          · rw [hix, he] at hc32; omega
        have hnx := red_hit (p := p) (n := n) (R := R) (c := c) (k := k) (hix.symm.trans hek)
        clear hix
        subst hek
        have hLk := (red_B8 (p := p) (n := n) (by omega) (by omega) hR c).1 k c
        have hiv := invF_bd (p := p) hLk.1 (by omega)
        have hB := red_B8 (p := p) (n := n) (by omega) (by omega) hR c
        have hpB : B8 (scaledF p ((redGo p n R c).L k) (invF p ((redGo p n R c).L k c))) := scaledF_B8 (by omega) (by omega) _ _
        have hcn := red_counts p n R c
        refine snd_skip ?_
        apply sd tokTB mixed (by kernel_rfl) (by kernel_rfl)
        · intro RR hRR
          refine w_move (by constructor) ?_
          refine w_move (by constructor) ?_
          refine w_iao rfl rfl und35 kn62 ?_ ?_
          · exact ⟨by omega, by omega⟩
          first | refine w_ldc rfl kn62 (by constructor) (by exact sz62.symm) (by exact ag62.symm) ?_ | refine w_ldp rfl kn62 rfl (by constructor) (by exact sz62.symm) (by exact ag62.symm) ?_
          refine w_move (by constructor) ?_
          refine w_move (by constructor) ?_
          refine w_iao rfl rfl und35 kn62 ?_ ?_
          · exact ⟨by omega, by omega⟩
          first | refine w_ldc rfl kn62 (by constructor) (by exact sz62.symm) (by exact ag62.symm) ?_ | refine w_ldp rfl kn62 rfl (by constructor) (by exact sz62.symm) (by exact ag62.symm) ?_
          refine w_ldp rfl kn3 rfl (by constructor) (by exact sz3.symm) (by exact ag3.symm) ?_
          first | refine w_iar rfl rfl und62 kn2 (by exact sz2.symm) ?_ rfl ?_ | refine w_iao rfl rfl und62 kn2 ?_ ?_
          · exact ⟨by omega, by omega⟩
          first | refine w_ldc rfl kn2 (by constructor) (by exact sz2.symm) (by exact ag2.symm) ?_ | refine w_ldp rfl kn2 rfl (by constructor) (by exact sz2.symm) (by exact ag2.symm) ?_
          refine w_move (by constructor) ?_
          refine y_call rfl (ec (ec exn)) (c_inverseI (x := (redGo p n R c).L k c) hLk (by omega) (by omega)) ?_
          refine w_move (by constructor) ?_
          refine w_call rfl (ec (ec (ec exn))) (c_scaled (f := (redGo p n R c).L k) (k := invF p ((redGo p n R c).L k c)) (by omega) (by omega) (by omega) (hB.1 k) (by omega)) (.inl ⟨trivial, ⟨fun _ => trivial, trivial⟩⟩) rfl (by constructor) rfl ?_
          refine w_assign (by constructor) ?_
          exact hRR
        apply srD tokTB (ops1 := [_, _, _, _]) (ops2 := [_]) (by kernel_rfl) rfl rfl
        · intro RR hRR
          refine w_move (by constructor) ?_
          refine w_move (by constructor) ?_
          refine w_move (by constructor) ?_
          refine w_add rfl rfl (by exact w64 (by omega) (by omega)) ?_
          exact hRR
        · exact del_mid tokTB (fun args w => by simp [callFunc, Try.func127]; rfl) del_low kn62 sz62 (a := k) (key := 52) rfl rfl rfl rfl hk rfl
        · intro RR hRR
          refine w_assign (by constructor) ?_
          exact hRR
        refine snd_seq ?_
        apply sr tokTB (by kernel_rfl)
        · intro RR hRR
          refine w_move (by constructor) ?_
          first | refine w_len_r rfl rfl und35 ?_ | refine w_len_o rfl rfl und35 ?_ | refine w_len_n rfl rfl und35 ?_
          refine w_move (by constructor) ?_
          exact hRR
        refine snd_block ?_
        refine snd_loop (S := Nat) (fun i => ([(1, .int .i64 p), (24, .int .i64 (m : Int)), (25, .int .i64 (c : Int)), (5, .own 905 0 ((redGo p n R c).no) 62), (6, .own 906 0 ((redGo p n R c).nl - 1) 62), (7, .ptr 7 0 [] 0 (.int .i64 0)), (9, rowA m (scaledF p ((redGo p n R c).L k) (invF p ((redGo p n R c).L k c)))), (53, .own 906 0 ((redGo p n R c).nl - 1) 62), (54, .int .i64 (((redGo p n R c).nl - 1 : Nat) : Int)), (55, .int .i64 (i : Int))], [(905, .one (ZR ((redGo p n R c).no)) (CR ((redGo p n R c).no) m ((redGo p n R c).O))), (906, .one (ZR ((redGo p n R c).nl - 1)) (CR ((redGo p n R c).nl - 1) m (mixG (fun a => lessF p ((cutR (redGo p n R c).L k) a) (scaledF p ((redGo p n R c).L k) (invF p ((redGo p n R c).L k c))) ((cutR (redGo p n R c).L k) a c)) (cutR (redGo p n R c).L k) i))), (7, .one (.int .i64 0) (.int .i64 (c : Int)))])) (fun i => i ≤ (redGo p n R c).nl - 1) (fun i => (redGo p n R c).nl - 1 - i) (0) (fun k i => bif Nat.beq k 906 then (52, i) else (k, i)) ?_ ?_ ?_
        · exact ⟨⟨(mi), (mi), (mi), (by first | exact ⟨rfl, rfl, rfl, rfl⟩ | exact ⟨rfl, by omega, rfl, rfl⟩), (by first | exact ⟨rfl, rfl, rfl, rfl⟩ | exact ⟨rfl, by omega, rfl, rfl⟩), ⟨rfl, rfl, rfl, rfl, rfl⟩, (by exact mt_fz (by exact ⟨(ne_fst rfl), (ne_fst rfl), (ne_fst rfl), trivial⟩) rfl (fun _ _ => rfl)), (by first | exact ⟨rfl, rfl, rfl, rfl⟩ | exact ⟨rfl, by omega, rfl, rfl⟩), (mi), (mi), trivial⟩, ⟨⟨rfl, (sx), (by exact ⟨rfl, fun _ _ => mt_row (fun _ _ => rfl)⟩)⟩, ⟨rfl, (sx), (by exact ⟨rfl, fun a _ => by rw [cutR_map]; exact mt_row (fun _ _ => by simp [mixG])⟩)⟩, ⟨rfl, (sx), (by exact rfl)⟩, trivial⟩, ⟨⟨(fun h => by first | exact ⟨rfl, rfl⟩ | exact absurd h (by decide)), (fun h => by first | exact ⟨rfl, rfl⟩ | exact absurd h (by decide)), (fun h => by first | exact ⟨rfl, rfl⟩ | exact absurd h (by decide)), trivial⟩, ⟨(fun h => by first | exact ⟨rfl, rfl⟩ | exact absurd h (by decide)), (fun h => by first | exact ⟨rfl, rfl⟩ | exact absurd h (by decide)), (fun h => by first | exact ⟨rfl, rfl⟩ | exact absurd h (by decide)), trivial⟩, ⟨(fun h => by first | exact ⟨rfl, rfl⟩ | exact absurd h (by decide)), (fun h => by first | exact ⟨rfl, rfl⟩ | exact absurd h (by decide)), (fun h => by first | exact ⟨rfl, rfl⟩ | exact absurd h (by decide)), trivial⟩, trivial⟩⟩
        · exact Nat.zero_le _
        intro i hi2
        refine sq (env2 := [(1, .int .i64 p), (24, .int .i64 (m : Int)), (25, .int .i64 (c : Int)), (5, .own 905 0 ((redGo p n R c).no) 62), (6, .own 906 0 ((redGo p n R c).nl - 1) 62), (7, .ptr 7 0 [] 0 (.int .i64 0)), (9, rowA m (scaledF p ((redGo p n R c).L k) (invF p ((redGo p n R c).L k c)))), (53, .own 906 0 ((redGo p n R c).nl - 1) 62), (54, .int .i64 (((redGo p n R c).nl - 1 : Nat) : Int)), (55, .int .i64 (i : Int))]) (ol2 := [(905, .one (ZR ((redGo p n R c).no)) (CR ((redGo p n R c).no) m ((redGo p n R c).O))), (906, .one (ZR ((redGo p n R c).nl - 1)) (CR ((redGo p n R c).nl - 1) m (mixG (fun a => lessF p ((cutR (redGo p n R c).L k) a) (scaledF p ((redGo p n R c).L k) (invF p ((redGo p n R c).L k c))) ((cutR (redGo p n R c).L k) a c)) (cutR (redGo p n R c).L k) i))), (7, .one (.int .i64 0) (.int .i64 (c : Int)))]) rfl rfl ?_
        apply sr tokTB (by kernel_rfl)
        · intro RR hRR
          refine w_lss rfl rfl ?_
          exact hRR
        refine snd_seq ?_
        refine snd_cond _ rfl (fun hc56 => ?_) (fun hc56 => ?_)
        · try simp only [hcs] at hc56
          refine snd_skip ?_
          refine snd_seq ?_
          refine snd_block ?_
          apply sr tokTB (by kernel_rfl)
          · intro RR hRR
            refine w_move (by constructor) ?_
            refine w_iao rfl rfl und35 kn62 ?_ ?_
            · exact ⟨by omega, by omega⟩
            first | refine w_ldc rfl kn62 (by constructor) (by exact sz62.symm) (by exact ag62.symm) ?_ | refine w_ldp rfl kn62 rfl (by constructor) (by exact sz62.symm) (by exact ag62.symm) ?_
            refine w_assign (by constructor) ?_
            refine w_assign (by constructor) ?_
            exact hRR
          apply lr tokTB (by kernel_rfl)
          · intro RR hRR
            refine w_move (by constructor) ?_
            refine w_move (by constructor) ?_
            refine w_move (by constructor) ?_
            refine w_move (by constructor) ?_
            refine w_move (by constructor) ?_
            refine w_ldp rfl kn3 rfl (by constructor) (by exact sz3.symm) (by exact ag3.symm) ?_
            first | refine w_iar rfl rfl und62 kn2 (by exact sz2.symm) ?_ rfl ?_ | refine w_iao rfl rfl und62 kn2 ?_ ?_
            · exact ⟨by omega, by omega⟩
            first | refine w_ldc rfl kn2 (by constructor) (by exact sz2.symm) (by exact ag2.symm) ?_ | refine w_ldp rfl kn2 rfl (by constructor) (by exact sz2.symm) (by exact ag2.symm) ?_
            refine w_move (by constructor) ?_
            refine w_call rfl (ec (ec (ec (ec exn)))) (c_lessTimes (f := mixG (fun a => lessF p ((cutR (redGo p n R c).L k) a) (scaledF p ((redGo p n R c).L k) (invF p ((redGo p n R c).L k c))) ((cutR (redGo p n R c).L k) a c)) (cutR (redGo p n R c).L k) i i) (g := (scaledF p ((redGo p n R c).L k) (invF p ((redGo p n R c).L k c)))) (k := mixG (fun a => lessF p ((cutR (redGo p n R c).L k) a) (scaledF p ((redGo p n R c).L k) (invF p ((redGo p n R c).L k c))) ((cutR (redGo p n R c).L k) a c)) (cutR (redGo p n R c).L k) i i c) (by omega) (by omega) (by omega) (mixG_B8 (fun _ => lessF_B8 (by omega) (by omega) _ _ _) (cutR_B8 hB.1 k) i i) hpB (mixG_B8 (fun _ => lessF_B8 (by omega) (by omega) _ _ _) (cutR_B8 hB.1 k) i i c)) (.inl ⟨trivial, ⟨fun _ => trivial, trivial⟩⟩) rfl (by constructor) rfl ?_
            refine w_iao rfl rfl und35 kn62 ?_ ?_
            · exact ⟨by omega, by omega⟩
            first | refine w_stw rfl (by constructor) kn62 rfl (by exact trivial) (sx) (by exact sz62.symm) ?_ | refine w_sti rfl rfl kn62 rfl (by exact trivial) (by exact sz62.symm) ?_ | refine w_store rfl (HV.eq (by constructor)) kn62 rfl (by exact trivial) (sx) (by exact sz62.symm) (put_in (by first | exact put_mat | exact put_tab | exact put_alg0 | exact put_pr0 | exact put_pr1 | exact put_pr2 | exact put_tn4 | exact put_grp0 | exact put_grp1 | exact put_alg1 | exact put_alg2 | exact put_alg3 | exact put_alg3i | exact put_alg2ij | exact put_alg2ijk | exact put_mat2 | exact put_tab2 | exact put_tab3)) ?_ | refine w_store rfl (HV.eq (by constructor)) kn62 rfl (by exact trivial) (by exact trivial) (by exact sz62.symm) rfl ?_
            exact hRR
          apply lr tokTB (by kernel_rfl)
          · intro RR hRR
            refine y_add rfl rfl ?_
            refine w_move (by constructor) ?_
            exact hRR
          refine ⟨i + 1, ρ0, ?_, (by omega), (by dsimp only; omega)⟩
          exact ⟨⟨(mi), (mi), (mi), (by first | exact ⟨rfl, rfl, rfl, rfl⟩ | exact ⟨rfl, by omega, rfl, rfl⟩), (by first | exact ⟨rfl, rfl, rfl, rfl⟩ | exact ⟨rfl, by omega, rfl, rfl⟩), ⟨rfl, rfl, rfl, rfl, rfl⟩, (by first | exact mt_row (V := _) (fun _ _ => rfl) | exact mt_fz (by exact ⟨(ne_fst rfl), (ne_fst rfl), (ne_fst rfl), trivial⟩) rfl (fun _ _ => rfl)), (by first | exact ⟨rfl, rfl, rfl, rfl⟩ | exact ⟨rfl, by omega, rfl, rfl⟩), (mi), (mi), trivial⟩, ⟨⟨rfl, (sx), (by exact ⟨rfl, fun _ _ => mt_row (fun _ _ => rfl)⟩)⟩, ⟨rfl, (sx), (by exact mt_put (fun a ha hne => mt_row (fun j _ => by (by_cases h : a < i) <;> simp [mixG, h, show (a < i + 1) = (a < i) by (apply propext; omega)])) (mt_fz (by exact ⟨(ne_fst rfl), (ne_fst rfl), (ne_fst rfl), trivial⟩) rfl (fun j _ => congrArg (AV.int .i64) (by simp [mixG]))))⟩, ⟨rfl, (sx), (by exact rfl)⟩, trivial⟩, ⟨⟨(fun h => by first | exact ⟨rfl, rfl⟩ | exact absurd h (by decide)), (fun h => by first | exact ⟨rfl, rfl⟩ | exact absurd h (by decide)), (fun h => by first | exact ⟨rfl, rfl⟩ | exact absurd h (by decide)), trivial⟩, ⟨(fun h => by first | exact ⟨rfl, rfl⟩ | exact absurd h (by decide)), (fun h => by first | exact ⟨rfl, rfl⟩ | exact absurd h (by decide)), (fun h => by first | exact ⟨rfl, rfl⟩ | exact absurd h (by decide)), trivial⟩, ⟨(fun h => by first | exact ⟨rfl, rfl⟩ | exact absurd h (by decide)), (fun h => by first | exact ⟨rfl, rfl⟩ | exact absurd h (by decide)), (fun h => by first | exact ⟨rfl, rfl⟩ | exact absurd h (by decide)), trivial⟩, trivial⟩⟩
        · try simp only [hcs] at hc56
          have hin : (redGo p n R c).nl - 1 = i := by omega
          refine snd_exit ?_
          refine snd_seq ?_
          apply sr tokTB (by kernel_rfl)
          · intro RR hRR
            refine w_move (by constructor) ?_
            refine w_len_o rfl rfl und35 ?_
            refine w_move (by constructor) ?_
            exact hRR
          refine snd_block ?_
          refine snd_loop (S := Nat) (fun i => ([(1, .int .i64 p), (24, .int .i64 (m : Int)), (25, .int .i64 (c : Int)), (5, .own 905 0 ((redGo p n R c).no) 62), (6, .own 906 0 ((redGo p n R c).nl - 1) 62), (7, .ptr 7 0 [] 0 (.int .i64 0)), (9, rowA m (scaledF p ((redGo p n R c).L k) (invF p ((redGo p n R c).L k c)))), (72, .own 905 0 ((redGo p n R c).no) 62), (73, .int .i64 (((redGo p n R c).no : Nat) : Int)), (74, .int .i64 (i : Int))], [(905, .one (ZR ((redGo p n R c).no)) (CR ((redGo p n R c).no) m (mixG (fun a => lessF p ((redGo p n R c).O a) (scaledF p ((redGo p n R c).L k) (invF p ((redGo p n R c).L k c))) ((redGo p n R c).O a c)) (redGo p n R c).O i))), (906, .one (ZR ((redGo p n R c).nl - 1)) (CR ((redGo p n R c).nl - 1) m ((fun a => lessF p ((cutR (redGo p n R c).L k) a) (scaledF p ((redGo p n R c).L k) (invF p ((redGo p n R c).L k c))) ((cutR (redGo p n R c).L k) a c))))), (7, .one (.int .i64 0) (.int .i64 (c : Int)))])) (fun i => i ≤ (redGo p n R c).no) (fun i => (redGo p n R c).no - i) (0) ρ0 ?_ ?_ ?_
          · exact ⟨⟨(mi), (mi), (mi), (by first | exact ⟨rfl, rfl, rfl, rfl⟩ | exact ⟨rfl, by omega, rfl, rfl⟩), (by first | exact ⟨rfl, rfl, rfl, rfl⟩ | exact ⟨rfl, by omega, rfl, rfl⟩), ⟨rfl, rfl, rfl, rfl, rfl⟩, (by first | exact mt_row (V := _) (fun _ _ => rfl) | exact mt_fz (by exact ⟨(ne_fst rfl), (ne_fst rfl), (ne_fst rfl), trivial⟩) rfl (fun _ _ => rfl)), (by first | exact ⟨rfl, rfl, rfl, rfl⟩ | exact ⟨rfl, by omega, rfl, rfl⟩), (mi), (mi), trivial⟩, ⟨⟨rfl, (sx), (by exact ⟨rfl, fun a _ => mt_row (fun _ _ => by simp [mixG])⟩)⟩, ⟨rfl, (sx), (by exact ⟨rfl, fun a ha => mt_row (fun _ _ => by rw [mixG_lt _ _ (by omega)])⟩)⟩, ⟨rfl, (sx), (by exact rfl)⟩, trivial⟩, ⟨⟨(fun h => by first | exact ⟨rfl, rfl⟩ | exact absurd h (by decide)), (fun h => by first | exact ⟨rfl, rfl⟩ | exact absurd h (by decide)), (fun h => by first | exact ⟨rfl, rfl⟩ | exact absurd h (by decide)), trivial⟩, ⟨(fun h => by first | exact ⟨rfl, rfl⟩ | exact absurd h (by decide)), (fun h => by first | exact ⟨rfl, rfl⟩ | exact absurd h (by decide)), (fun h => by first | exact ⟨rfl, rfl⟩ | exact absurd h (by decide)), trivial⟩, ⟨(fun h => by first | exact ⟨rfl, rfl⟩ | exact absurd h (by decide)), (fun h => by first | exact ⟨rfl, rfl⟩ | exact absurd h (by decide)), (fun h => by first | exact ⟨rfl, rfl⟩ | exact absurd h (by decide)), trivial⟩, trivial⟩⟩
          · exact Nat.zero_le _
          intro i hi4
          refine sq (env2 := [(1, .int .i64 p), (24, .int .i64 (m : Int)), (25, .int .i64 (c : Int)), (5, .own 905 0 ((redGo p n R c).no) 62), (6, .own 906 0 ((redGo p n R c).nl - 1) 62), (7, .ptr 7 0 [] 0 (.int .i64 0)), (9, rowA m (scaledF p ((redGo p n R c).L k) (invF p ((redGo p n R c).L k c)))), (72, .own 905 0 ((redGo p n R c).no) 62), (73, .int .i64 (((redGo p n R c).no : Nat) : Int)), (74, .int .i64 (i : Int))]) (ol2 := [(905, .one (ZR ((redGo p n R c).no)) (CR ((redGo p n R c).no) m (mixG (fun a => lessF p ((redGo p n R c).O a) (scaledF p ((redGo p n R c).L k) (invF p ((redGo p n R c).L k c))) ((redGo p n R c).O a c)) (redGo p n R c).O i))), (906, .one (ZR ((redGo p n R c).nl - 1)) (CR ((redGo p n R c).nl - 1) m ((fun a => lessF p ((cutR (redGo p n R c).L k) a) (scaledF p ((redGo p n R c).L k) (invF p ((redGo p n R c).L k c))) ((cutR (redGo p n R c).L k) a c))))), (7, .one (.int .i64 0) (.int .i64 (c : Int)))]) rfl rfl ?_
          apply sr tokTB (by kernel_rfl)
          · intro RR hRR
            refine w_lss rfl rfl ?_
            exact hRR
          refine snd_seq ?_
          refine snd_cond _ rfl (fun hc75 => ?_) (fun hc75 => ?_)
          · try simp only [hcs] at hc75
            refine snd_skip ?_
            refine snd_seq ?_
            refine snd_block ?_
            apply sr tokTB (by kernel_rfl)
            · intro RR hRR
              refine w_move (by constructor) ?_
              refine w_iao rfl rfl und35 kn62 ?_ ?_
              · exact ⟨by omega, by omega⟩
              first | refine w_ldc rfl kn62 (by constructor) (by exact sz62.symm) (by exact ag62.symm) ?_ | refine w_ldp rfl kn62 rfl (by constructor) (by exact sz62.symm) (by exact ag62.symm) ?_
              refine w_assign (by constructor) ?_
              refine w_assign (by constructor) ?_
              exact hRR
            apply lr tokTB (by kernel_rfl)
            · intro RR hRR
              refine w_move (by constructor) ?_
              refine w_move (by constructor) ?_
              refine w_move (by constructor) ?_
              refine w_move (by constructor) ?_
              refine w_move (by constructor) ?_
              refine w_ldp rfl kn3 rfl (by constructor) (by exact sz3.symm) (by exact ag3.symm) ?_
              first | refine w_iar rfl rfl und62 kn2 (by exact sz2.symm) ?_ rfl ?_ | refine w_iao rfl rfl und62 kn2 ?_ ?_
              · exact ⟨by omega, by omega⟩
              first | refine w_ldc rfl kn2 (by constructor) (by exact sz2.symm) (by exact ag2.symm) ?_ | refine w_ldp rfl kn2 rfl (by constructor) (by exact sz2.symm) (by exact ag2.symm) ?_
              refine w_move (by constructor) ?_
              refine w_call rfl (ec (ec (ec (ec exn)))) (c_lessTimes (f := mixG (fun a => lessF p ((redGo p n R c).O a) (scaledF p ((redGo p n R c).L k) (invF p ((redGo p n R c).L k c))) ((redGo p n R c).O a c)) (redGo p n R c).O i i) (g := (scaledF p ((redGo p n R c).L k) (invF p ((redGo p n R c).L k c)))) (k := mixG (fun a => lessF p ((redGo p n R c).O a) (scaledF p ((redGo p n R c).L k) (invF p ((redGo p n R c).L k c))) ((redGo p n R c).O a c)) (redGo p n R c).O i i c) (by omega) (by omega) (by omega) (mixG_B8 (fun _ => lessF_B8 (by omega) (by omega) _ _ _) hB.2 i i) hpB (mixG_B8 (fun _ => lessF_B8 (by omega) (by omega) _ _ _) hB.2 i i c)) (.inl ⟨trivial, ⟨fun _ => trivial, trivial⟩⟩) rfl (by constructor) rfl ?_
              refine w_iao rfl rfl und35 kn62 ?_ ?_
              · exact ⟨by omega, by omega⟩
              first | refine w_stw rfl (by constructor) kn62 rfl (by exact trivial) (sx) (by exact sz62.symm) ?_ | refine w_sti rfl rfl kn62 rfl (by exact trivial) (by exact sz62.symm) ?_ | refine w_store rfl (HV.eq (by constructor)) kn62 rfl (by exact trivial) (sx) (by exact sz62.symm) (put_in (by first | exact put_mat | exact put_tab | exact put_alg0 | exact put_pr0 | exact put_pr1 | exact put_pr2 | exact put_tn4 | exact put_grp0 | exact put_grp1 | exact put_alg1 | exact put_alg2 | exact put_alg3 | exact put_alg3i | exact put_alg2ij | exact put_alg2ijk | exact put_mat2 | exact put_tab2 | exact put_tab3)) ?_ | refine w_store rfl (HV.eq (by constructor)) kn62 rfl (by exact trivial) (by exact trivial) (by exact sz62.symm) rfl ?_
              exact hRR
            apply lr tokTB (by kernel_rfl)
            · intro RR hRR
              refine y_add rfl rfl ?_
              refine w_move (by constructor) ?_
              exact hRR
            refine ⟨i + 1, ρ0, ?_, (by omega), (by dsimp only; omega)⟩
            exact ⟨⟨(mi), (mi), (mi), (by first | exact ⟨rfl, rfl, rfl, rfl⟩ | exact ⟨rfl, by omega, rfl, rfl⟩), (by first | exact ⟨rfl, rfl, rfl, rfl⟩ | exact ⟨rfl, by omega, rfl, rfl⟩), ⟨rfl, rfl, rfl, rfl, rfl⟩, (by first | exact mt_row (V := _) (fun _ _ => rfl) | exact mt_fz (by exact ⟨(ne_fst rfl), (ne_fst rfl), (ne_fst rfl), trivial⟩) rfl (fun _ _ => rfl)), (by first | exact ⟨rfl, rfl, rfl, rfl⟩ | exact ⟨rfl, by omega, rfl, rfl⟩), (mi), (mi), trivial⟩, ⟨⟨rfl, (sx), (by exact mt_put (fun a ha hne => mt_row (fun j _ => by (by_cases h : a < i) <;> simp [mixG, h, show (a < i + 1) = (a < i) by (apply propext; omega)])) (mt_fz (by exact ⟨(ne_fst rfl), (ne_fst rfl), (ne_fst rfl), trivial⟩) rfl (fun j _ => congrArg (AV.int .i64) (by simp [mixG]))))⟩, ⟨rfl, (sx), (by exact ⟨rfl, fun _ _ => mt_row (fun _ _ => rfl)⟩)⟩, ⟨rfl, (sx), (by exact rfl)⟩, trivial⟩, ⟨⟨(fun h => by first | exact ⟨rfl, rfl⟩ | exact absurd h (by decide)), (fun h => by first | exact ⟨rfl, rfl⟩ | exact absurd h (by decide)), (fun h => by first | exact ⟨rfl, rfl⟩ | exact absurd h (by decide)), trivial⟩, ⟨(fun h => by first | exact ⟨rfl, rfl⟩ | exact absurd h (by decide)), (fun h => by first | exact ⟨rfl, rfl⟩ | exact absurd h (by decide)), (fun h => by first | exact ⟨rfl, rfl⟩ | exact absurd h (by decide)), trivial⟩, ⟨(fun h => by first | exact ⟨rfl, rfl⟩ | exact absurd h (by decide)), (fun h => by first | exact ⟨rfl, rfl⟩ | exact absurd h (by decide)), (fun h => by first | exact ⟨rfl, rfl⟩ | exact absurd h (by decide)), trivial⟩, trivial⟩⟩
          · try simp only [hcs] at hc75
            have hio : (redGo p n R c).no = i := by omega
            refine snd_exit ?_
            apply lr tokTB (by kernel_rfl)
            · intro RR hRR
              refine w_move (by constructor) ?_
              refine w_move (by constructor) ?_
              refine w_bsl1 und35 kn62 (by rw [sz62]; rfl) rfl (by constructor) (by first | exact trivial | exact cel_cap2) (by exact sz62.symm) (by first | exact trivial | exact ssh_vec | exact ⟨rfl, fun _ => trivial⟩) ?_
              refine w_app_o und35 rfl rfl kn62 rfl rfl (fun C h => ⟨rfl, rfl, rfl, h⟩) (by rw [by62]; omega) (by omega) rfl ?_
              refine w_assign (by constructor) ?_
              exact hRR
            apply lr tokTB (by kernel_rfl)
            · intro RR hRR
              refine y_add rfl rfl ?_
              refine w_move (by constructor) ?_
              exact hRR
            refine ⟨c + 1, (fun k i => bif Nat.beq k 905 then (94, i) else (k, i)), ?_, (by omega), (by dsimp only; omega)⟩
            dsimp only
            rw [hnx]
            exact ⟨⟨(mi), (mi), (mi), (by first | exact ⟨rfl, rfl, rfl, rfl⟩ | exact ⟨rfl, by omega, rfl, rfl⟩), (by first | exact ⟨rfl, rfl, rfl, rfl⟩ | exact ⟨rfl, by omega, rfl, rfl⟩), trivial⟩, ⟨⟨rfl, (sx), (by exact mt_app (fun a ha => mt_row (fun j _ => by simp [redHit, mixG, ← hio, ha, Nat.ne_of_lt ha])) (mt_row (fun _ _ => by simp [redHit])))⟩, ⟨rfl, (sx), (by exact ⟨rfl, fun _ _ => mt_row (fun _ _ => rfl)⟩)⟩, trivial⟩, ⟨⟨(fun h => by first | exact ⟨rfl, rfl⟩ | exact absurd h (by decide)), (fun h => by first | exact ⟨rfl, rfl⟩ | exact absurd h (by decide)), trivial⟩, ⟨(fun h => by first | exact ⟨rfl, rfl⟩ | exact absurd h (by decide)), (fun h => by first | exact ⟨rfl, rfl⟩ | exact absurd h (by decide)), trivial⟩, trivial⟩⟩
    · try simp only [hcs] at hc26
      have hcm : m = c := by omega
      subst hcm
      refine snd_exit ?_
      apply sr tokTB (by kernel_rfl)
      · intro RR hRR
        refine w_move (by constructor) ?_
        refine w_assign (by constructor) ?_
        exact hRR
      refine snd_ret ?_
      show retQ TB _ _ _ _ _ _
      exact rt_own rfl rfl rfl (fun _ => trivial) (fun V i hi => mt_row (fun _ _ => rfl))
end Go.Am

