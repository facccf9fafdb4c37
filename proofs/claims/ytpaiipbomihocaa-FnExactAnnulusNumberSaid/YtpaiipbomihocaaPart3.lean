/- Part 3 of what the law stands on: abstract values, their walk, contracts of functions. My own work. Conditions: none. -/
import Derived.Test.YtpaiipbomihocaaPart2
import Derived.Test.YtpaiipbomihocaaProg
import Derived.WalkKit
import Derived.Deep.RegionLaw
import Derived.Lib.SliceRun
import Derived.Lib.Walk
set_option linter.unusedVariables false
namespace Go.Am
def theTab : Tab := [
  (1, .fnc, 1, 8),
  (2, .int .i64, 1, 8),
  (3, .int .i64, 1, 8),
  (4, .bool, 1, 1),
  (5, .int .u8, 1, 1),
  (9, .str, 1, 16),
  (12, .int .u64, 1, 8),
  (13, .sct [(9, 0), (12, 1)], 2, 24),
  (21, .int .i32, 1, 4),
  (22, .arr 6 5, 6, 6),
  (23, .arr 6 22, 36, 36),
  (24, .arr 6 23, 216, 216),
  (25, .sct [(2, 0), (2, 1), (24, 2), (22, 218)], 224, 240),
  (26, .sct [(2, 0), (2, 1), (24, 2), (22, 218)], 224, 240),
  (27, .slc 2, 1, 24),
  (28, .sct [(2, 0), (2, 1), (2, 2), (2, 3), (27, 4)], 5, 56),
  (29, .sct [(2, 0), (2, 1), (2, 2), (2, 3), (27, 4)], 5, 56),
  (31, .fnc, 1, 8),
  (32, .arr 6 5, 6, 6),
  (33, .sct [(2, 0), (2, 1), (24, 2), (32, 218)], 224, 240),
  (34, .sct [(2, 0), (2, 1), (24, 2), (32, 218)], 224, 240),
  (35, .fnc, 1, 8),
  (36, .fnc, 1, 8),
  (37, .fnc, 1, 8),
  (38, .fnc, 1, 8),
  (40, .fnc, 1, 8),
  (41, .fnc, 1, 8),
  (42, .slc 22, 1, 24),
  (43, .fnc, 1, 8),
  (44, .fnc, 1, 8),
  (45, .slc 32, 1, 24),
  (46, .fnc, 1, 8),
  (47, .fnc, 1, 8),
  (48, .fnc, 1, 8),
  (49, .sct [(26, 0), (26, 224), (23, 448)], 484, 520),
  (50, .sct [(26, 0), (26, 224), (23, 448)], 484, 520),
  (51, .fnc, 1, 8),
  (52, .arr 6 32, 36, 36),
  (53, .sct [(34, 0), (34, 224), (52, 448)], 484, 520),
  (54, .sct [(34, 0), (34, 224), (52, 448)], 484, 520),
  (55, .fnc, 1, 8),
  (56, .fnc, 1, 8),
  (58, .fnc, 1, 8),
  (59, .fnc, 1, 8),
  (60, .fnc, 1, 8),
  (61, .fnc, 1, 8),
  (62, .fnc, 1, 8),
  (63, .fnc, 1, 8),
  (64, .fnc, 1, 8),
  (65, .fnc, 1, 8),
  (66, .fnc, 1, 8),
  (67, .fnc, 1, 8),
  (68, .fnc, 1, 8),
  (69, .fnc, 1, 8),
  (70, .fnc, 1, 8),
  (71, .fnc, 1, 8),
  (72, .fnc, 1, 8),
  (73, .fnc, 1, 8),
  (74, .fnc, 1, 8),
  (75, .fnc, 1, 8),
  (76, .fnc, 1, 8),
  (77, .fnc, 1, 8),
  (78, .slc 27, 1, 24),
  (79, .fnc, 1, 8),
  (80, .fnc, 1, 8),
  (81, .slc 78, 1, 24),
  (82, .fnc, 1, 8),
  (83, .fnc, 1, 8),
  (84, .fnc, 1, 8),
  (85, .fnc, 1, 8),
  (86, .fnc, 1, 8),
  (87, .fnc, 1, 8),
  (88, .fnc, 1, 8),
  (89, .fnc, 1, 8),
  (90, .fnc, 1, 8),
  (91, .fnc, 1, 8),
  (92, .fnc, 1, 8),
  (93, .fnc, 1, 8),
  (94, .fnc, 1, 8),
  (95, .fnc, 1, 8),
  (96, .fnc, 1, 8),
  (97, .fnc, 1, 8),
  (98, .fnc, 1, 8),
  (99, .fnc, 1, 8),
  (100, .fnc, 1, 8),
  (101, .fnc, 1, 8),
  (102, .fnc, 1, 8),
  (103, .fnc, 1, 8),
  (104, .fnc, 1, 8),
  (105, .fnc, 1, 8),
  (106, .fnc, 1, 8),
  (108, .fnc, 1, 8),
  (109, .ptr 34, 1, 8),
  (110, .fnc, 1, 8),
  (111, .fnc, 1, 8),
  (112, .fnc, 1, 8),
  (113, .fnc, 1, 8),
  (114, .fnc, 1, 8),
  (115, .fnc, 1, 8),
  (116, .fnc, 1, 8),
  (117, .fnc, 1, 8),
  (118, .fnc, 1, 8),
  (119, .arr 6 2, 6, 48),
  (120, .ptr 54, 1, 8),
  (121, .fnc, 1, 8),
  (122, .fnc, 1, 8),
  (123, .fnc, 1, 8),
  (124, .fnc, 1, 8),
  (125, .fnc, 1, 8),
  (126, .fnc, 1, 8),
  (127, .fnc, 1, 8),
  (128, .fnc, 1, 8),
  (130, .fnc, 1, 8),
  (131, .slc 93, 1, 24),
  (132, .fnc, 1, 8),
  (133, .fnc, 1, 8),
  (134, .fnc, 1, 8),
  (135, .fnc, 1, 8),
  (136, .fnc, 1, 8),
  (137, .fnc, 1, 8),
  (138, .fnc, 1, 8),
  (139, .slc 5, 1, 24),
  (140, .fnc, 1, 8),
  (141, .fnc, 1, 8),
  (142, .fnc, 1, 8),
  (143, .fnc, 1, 8),
  (144, .fnc, 1, 8),
  (145, .fnc, 1, 8),
  (146, .fnc, 1, 8),
  (147, .fnc, 1, 8),
  (148, .fnc, 1, 8),
  (149, .fnc, 1, 8),
  (150, .fnc, 1, 8),
  (151, .fnc, 1, 8),
  (152, .fnc, 1, 8),
  (153, .fnc, 1, 8),
  (154, .fnc, 1, 8),
  (160, .int .u32, 1, 4),
  (163, .fnc, 1, 8),
  (164, .ptr 5, 1, 8)]
def TB : TT := mkT theTab
theorem tokTB : TOk Go.Proofs.Try.prog TB := tok (by kernel_rfl)
theorem mixed : Go.Proofs.Try.prog.follows .mixedOrders = true := by kernel_rfl
theorem und2 : TB.und 2 = .int .i64 := by kernel_rfl
theorem sz2 : TB.sz 2 = 1 := by kernel_rfl
theorem by2 : TB.by_ 2 = 8 := by kernel_rfl
theorem kn2 : (TB.und 2).known = true := by kernel_rfl
theorem ag2 : (TB.und 2).isAgg = false := by kernel_rfl
theorem nz2 : TB.sz 2 ≠ 0 := by rw [sz2]; decide
theorem zr2 : TB.zero 2 = .int .i64 0 := by kernel_rfl
theorem sz3 : TB.sz 3 = 1 := by kernel_rfl
theorem kn3 : (TB.und 3).known = true := by kernel_rfl
theorem ag3 : (TB.und 3).isAgg = false := by kernel_rfl
theorem zr3 : TB.zero 3 = .int .i64 0 := by kernel_rfl
theorem und5 : TB.und 5 = .int .u8 := by kernel_rfl
theorem sz5 : TB.sz 5 = 1 := by kernel_rfl
theorem kn5 : (TB.und 5).known = true := by kernel_rfl
theorem ag5 : (TB.und 5).isAgg = false := by kernel_rfl
theorem und22 : TB.und 22 = .arr 6 5 := by kernel_rfl
theorem sz22 : TB.sz 22 = 6 := by kernel_rfl
theorem kn22 : (TB.und 22).known = true := by kernel_rfl
theorem ag22 : (TB.und 22).isAgg = true := by kernel_rfl
theorem nz22 : TB.sz 22 ≠ 0 := by rw [sz22]; decide
theorem zr22 : TB.zero 22 = .arr 6 (fun _ => .int .u8 0) := by kernel_rfl
theorem und23 : TB.und 23 = .arr 6 22 := by kernel_rfl
theorem sz23 : TB.sz 23 = 36 := by kernel_rfl
theorem kn23 : (TB.und 23).known = true := by kernel_rfl
theorem ag23 : (TB.und 23).isAgg = true := by kernel_rfl
theorem nz23 : TB.sz 23 ≠ 0 := by rw [sz23]; decide
theorem zr23 : TB.zero 23 = .arr 6 (fun _ => .arr 6 (fun _ => .int .u8 0)) := by kernel_rfl
theorem und24 : TB.und 24 = .arr 6 23 := by kernel_rfl
theorem sz24 : TB.sz 24 = 216 := by kernel_rfl
theorem kn24 : (TB.und 24).known = true := by kernel_rfl
theorem ag24 : (TB.und 24).isAgg = true := by kernel_rfl
theorem nz24 : TB.sz 24 ≠ 0 := by rw [sz24]; decide
theorem zr24 : TB.zero 24 = .arr 6 (fun _ => .arr 6 (fun _ => .arr 6 (fun _ => .int .u8 0))) := by kernel_rfl
theorem und26 : TB.und 26 = .sct [(2, 0), (2, 1), (24, 2), (22, 218)] := by kernel_rfl
theorem sz26 : TB.sz 26 = 224 := by kernel_rfl
theorem kn26 : (TB.und 26).known = true := by kernel_rfl
theorem ag26 : (TB.und 26).isAgg = true := by kernel_rfl
theorem nz26 : TB.sz 26 ≠ 0 := by rw [sz26]; decide
theorem und27 : TB.und 27 = .slc 2 := by kernel_rfl
theorem sz27 : TB.sz 27 = 1 := by kernel_rfl
theorem by27 : TB.by_ 27 = 24 := by kernel_rfl
theorem kn27 : (TB.und 27).known = true := by kernel_rfl
theorem ag27 : (TB.und 27).isAgg = false := by kernel_rfl
theorem und32 : TB.und 32 = .arr 6 5 := by kernel_rfl
theorem sz32 : TB.sz 32 = 6 := by kernel_rfl
theorem by32 : TB.by_ 32 = 6 := by kernel_rfl
theorem kn32 : (TB.und 32).known = true := by kernel_rfl
theorem ag32 : (TB.und 32).isAgg = true := by kernel_rfl
theorem nz32 : TB.sz 32 ≠ 0 := by rw [sz32]; decide
theorem zr32 : TB.zero 32 = .arr 6 (fun _ => .int .u8 0) := by kernel_rfl
theorem und34 : TB.und 34 = .sct [(2, 0), (2, 1), (24, 2), (32, 218)] := by kernel_rfl
theorem sz34 : TB.sz 34 = 224 := by kernel_rfl
theorem kn34 : (TB.und 34).known = true := by kernel_rfl
theorem ag34 : (TB.und 34).isAgg = true := by kernel_rfl
theorem nz34 : TB.sz 34 ≠ 0 := by rw [sz34]; decide
theorem und45 : TB.und 45 = .slc 32 := by kernel_rfl
theorem und50 : TB.und 50 = .sct [(26, 0), (26, 224), (23, 448)] := by kernel_rfl
theorem sz50 : TB.sz 50 = 484 := by kernel_rfl
theorem kn50 : (TB.und 50).known = true := by kernel_rfl
theorem ag50 : (TB.und 50).isAgg = true := by kernel_rfl
theorem und52 : TB.und 52 = .arr 6 32 := by kernel_rfl
theorem sz52 : TB.sz 52 = 36 := by kernel_rfl
theorem kn52 : (TB.und 52).known = true := by kernel_rfl
theorem ag52 : (TB.und 52).isAgg = true := by kernel_rfl
theorem nz52 : TB.sz 52 ≠ 0 := by rw [sz52]; decide
theorem zr52 : TB.zero 52 = .arr 6 (fun _ => .arr 6 (fun _ => .int .u8 0)) := by kernel_rfl
theorem und54 : TB.und 54 = .sct [(34, 0), (34, 224), (52, 448)] := by kernel_rfl
theorem sz54 : TB.sz 54 = 484 := by kernel_rfl
theorem kn54 : (TB.und 54).known = true := by kernel_rfl
theorem ag54 : (TB.und 54).isAgg = true := by kernel_rfl
theorem und78 : TB.und 78 = .slc 27 := by kernel_rfl
theorem sz93 : TB.sz 93 = 1 := by kernel_rfl
theorem by93 : TB.by_ 93 = 8 := by kernel_rfl
theorem kn93 : (TB.und 93).known = true := by kernel_rfl
theorem ag93 : (TB.und 93).isAgg = false := by kernel_rfl
theorem sz109 : TB.sz 109 = 1 := by kernel_rfl
theorem kn109 : (TB.und 109).known = true := by kernel_rfl
theorem ag109 : (TB.und 109).isAgg = false := by kernel_rfl
theorem und119 : TB.und 119 = .arr 6 2 := by kernel_rfl
theorem sz119 : TB.sz 119 = 6 := by kernel_rfl
theorem kn119 : (TB.und 119).known = true := by kernel_rfl
theorem ag119 : (TB.und 119).isAgg = true := by kernel_rfl
theorem zr119 : TB.zero 119 = .arr 6 (fun _ => .int .i64 0) := by kernel_rfl
theorem und131 : TB.und 131 = .slc 93 := by kernel_rfl
theorem zr34 : TB.zero 34 = algA 0 0 (fun _ _ _ => 0) (fun _ => 0) := by
  refine congrArg (AV.sct 4) (funext fun i => ?_)
  match i with
  | 0 => rfl
  | 1 => rfl
  | 2 => rfl
  | 3 => rfl
  | n + 4 => rfl
theorem mi {V : Vw} {k : IntKind} {a b : Int} (h : b = a := by first | rfl | omega | (simp; done) | (simp; omega)) : MtE V (.int k a) (.int k b) := m_int h
theorem sx {a b : AV} (h : ssh a b := by first | exact trivial | exact ssh_vec | exact ssh_alg | exact ssh_pr | exact ssh_tab | exact ssh_mat | exact ⟨rfl, fun _ => trivial⟩ | exact ⟨rfl, fun _ => by rw [zr32]; exact ssh_vec⟩ | exact ⟨rfl, fun k => by match k with | 0 => exact trivial | 1 => exact trivial | 2 => exact trivial | 3 => exact trivial | 4 => exact trivial | k + 5 => exact trivial⟩) : ssh a b := h
end Go.Am

set_option linter.unusedVariables false
set_option linter.unusedSimpArgs false
namespace Go.Am
open Go.Proofs Go.RowKit
set_option maxHeartbeats 4000000 in
set_option maxRecDepth 100000 in
theorem del_low : DelC Try.prog 162 (.slice none 0 0) := by
  intro w b cap n a cur e hb hn hcap hcs ha h1
  simp only [maxLen] at hcap
  obtain ⟨news, hnews⟩ : ∃ news, news = (cur.toList.drop (a + 1)).take (n - 1 - a) := ⟨_, rfl⟩
  rw [← hnews]
  have hlen : news.length = n - (a + 1) := by rw [hnews]; simp; omega
  have hget : ∀ t, t < n - (a + 1) → news[t]? = some (cur.getD (a + 1 + t) undef) := by
    intro t ht
    rw [hnews, List.getElem?_take, if_pos (by omega), List.getElem?_drop]
    simp [show a + 1 + t < cur.size by omega]
  have hcell : ∀ j, j < n → w.cell? ⟨b, j, none⟩ = some (cur.getD j undef) := by
    intro j hj
    simp [World.cell?, hb, show j < cur.size by omega]
  have hfr : ∀ (w' : World) (c' : Array Value) (e' : TypeId) j, w'.heap[b]? = some (.cells c' e' (0, 0)) → w'.frozen? ⟨b, j, none⟩ = false := by
    intro w' c' e' j h
    simp [World.frozen?, h]
  obtain ⟨A, hA, hsrc⟩ : ∃ A : Addr, (if cap = a + 1 then some (⟨b, 0, none⟩ : Addr) else some ⟨b, a + 1, none⟩) = some A ∧ Hid (∀ t u, news[t]? = some u → w.drew.cell? (A.add t) = some u) := by
    by_cases h : cap = a + 1
    · refine ⟨⟨b, 0, none⟩, by simp [h], fun t u hu => ?_⟩
      have h0 : news.length = 0 := by rw [hlen]; omega
      rw [List.length_eq_zero_iff.1 h0] at hu
      simp at hu
    · refine ⟨⟨b, a + 1, none⟩, by simp [h], fun t u hu => ?_⟩
      have ht : t < n - (a + 1) := by
        have := (List.getElem?_eq_some_iff.1 hu).1
        rwa [hlen] at this
      rw [hget t ht] at hu
      rw [Addr.add_lit]
      exact (hcell (a + 1 + t) (by omega)).trans hu
  have s1 : Hid (news.length = (n - (a + 1)) * 1) := by rw [Nat.mul_one]; exact hlen
  have s2 : Hid (∀ u ∈ news, u.oneCell' = true) := by
    intro u hu
    rw [hnews] at hu
    have := List.mem_of_mem_take hu
    refine h1 u ?_
    obtain ⟨j, hj⟩ := List.mem_iff_getElem?.1 hu
    have hjl : j < n - (a + 1) := by
      have := (List.getElem?_eq_some_iff.1 hj).1
      rw [← hnews, hlen] at this; exact this
    have := hget j hjl
    rw [hnews, hj] at this
    rw [List.mem_iff_getElem?]
    refine ⟨a + 1 + j, ?_⟩
    rw [List.getElem?_take, if_pos (by omega), this]
    simp [show a + 1 + j < cur.size by omega]
  have s3 : Hid (∀ t, t < news.length → (w.drew.cell? ⟨b, 0 + a * 1 + t, none⟩).isSome = true ∧ w.drew.frozen? ⟨b, 0 + a * 1 + t, none⟩ = false) := by
    intro t ht
    rw [hlen] at ht
    refine ⟨?_, hfr _ _ _ _ hb⟩
    show (w.cell? _).isSome = true
    rw [hcell _ (by omega)]; rfl
  obtain ⟨W1, hW1⟩ : ∃ W1, W1 = w.drew.setCells b (0 + a * 1) news := ⟨_, rfl⟩
  obtain ⟨c1, c2, c3, c4, c5, c6⟩ := setCells_facts b news (0 + a * 1) w.drew cur e (0, 0) hb
  rw [← hW1] at c1
  have hcl : ∀ ty, (Builtin.clear_ #[78] ty #[.slice (some ⟨b, a + (n - (a + 1)), none⟩) (n - (a + (n - (a + 1)))) (cap - (a + (n - (a + 1))))]).run Try.prog W1 = .ok (.tuple #[]) (W1.setCells b (a + (n - (a + 1))) (List.replicate (n - (a + (n - (a + 1)))) (.slice none 0 0))) :=
    fun ty => Lib.run_clear_slice W1 _ _ ty _ Try.underlying78 Try.zeroValue27 rfl rfl b _ _ _ (by omega) (fun t ht => by
      simp [World.cell?, c1, setL_size]; omega) (fun t ht => hfr _ _ _ _ c1)
  have hW : Hid (W1 = w.drew.setCells b (0 + a * 1) news) := hW1
  have hic : a ≤ cap := by omega
  have hjc : a + 1 ≤ cap := by omega
  have hq1 : (0 : Int) ≤ (a : Int) + 1 := by omega
  have hq2 : (a : Int) + 1 ≤ (n : Int) := by omega
  have hlast : n - (a + (n - (a + 1))) = 1 := by omega
  have hl2 : a + (n - (a + 1)) = n - 1 := by omega
  have X1 : Hid (n - (a + (n - (a + 1))) = 1) := hlast
  have X2 : Hid (a + (n - (a + 1)) = n - 1) := hl2
  clear hlast hl2 hW1
  clear c1 c2 c3 c4 c5 c6 hget hcell hfr hnews hlen h1
  go_enter Try.func162, Try.ntmps162
  go_wp2_with fail
  go_region_law (refine step_append_room rfl (.tmp 22) (.tmp 25) 78 rfl 27 Try.t27 1 Try.underlying78 (by kernel_rfl) (by kernel_rfl) b 0 a cap (by simp [Act.eval, Act.put]) A (n - (a + 1)) (cap - (a + 1)) news (by simp [Act.eval, Act.put]) s1.out hsrc.out s2.out (by omega) s3.out ?_; rw [← hW.out])
  go_wp2
  go_ret
  rw [X1.out, X2.out, hW.out, Nat.zero_add (n - 1)]
  exact ⟨rfl, rfl⟩
end Go.Am

set_option linter.unusedVariables false
set_option linter.unusedSimpArgs false
set_option maxRecDepth 4000
namespace Go.Am
attribute [local irreducible] retQ retQp
open Go.Proofs
theorem c_n {p n : Int} {T : Nat → Nat → Nat → Int} {fo : Nat → Int} : ACalls Try.prog TB 64 [.cptr (algA p n T fo)] (.int .i64 n) [] := by
  refine acalls_of tokTB Try.func64 rfl rfl (Nat.le_of_ble_eq_true rfl) ?_
  apply sr tokTB (by kernel_rfl)
  · intro RR hRR
    refine w_assign (by constructor) ?_
    exact hRR
  apply sr tokTB (by kernel_rfl)
  · intro RR hRR
    refine w_move (by constructor) ?_
    refine w_nilc rfl ?_
    refine w_fac rfl und34 rfl kn2 nz2 (by decide) rfl (by constructor) ?_
    refine w_ldc rfl kn2 (by constructor) (by exact sz2.symm) (by exact ag2.symm) ?_
    refine w_assign (by constructor) ?_
    exact hRR
  refine snd_ret ?_
  exact rt (T := TB) (fun V => by first | exact m_bool rfl | exact m_int rfl)
theorem c_l01In {n lo hi : Int} : ACalls Try.prog TB 109 [.int .i64 n, .int .i64 lo, .int .i64 hi] (.bool (decide (lo ≤ n) && decide (n ≤ hi))) [] := by
  refine acalls_of tokTB Try.func109 rfl rfl (Nat.le_of_ble_eq_true rfl) ?_
  apply sr tokTB (by kernel_rfl)
  · intro RR hRR
    refine w_assign (by constructor) ?_
    exact hRR
  apply srG (env' := (6, .bool (decide (lo ≤ n) && decide (n ≤ hi))) :: (14, .bool (decide (lo ≤ n) && decide (n ≤ hi))) :: (13, .any) :: (12, .any) :: (11, .any) :: (10, _) :: (9, _) :: (8, _) :: (7, _) :: _) tokTB (by kernel_rfl)
  · intro RR hRR
    refine w_move (by constructor) ?_
    refine w_move (by constructor) ?_
    refine w_geq rfl rfl ?_
    refine w_move (by constructor) ?_
    refine w_g rfl rfl (fun hg3 => ?_) (fun hg3 => ?_)
    · skip
      refine w_move (by constructor) ?_
      refine w_g_on rfl rfl hg3 ?_
      refine w_move (by constructor) ?_
      refine w_g_on rfl rfl hg3 ?_
      refine w_leq rfl rfl ?_
      refine w_pick_1 rfl hg3 (by constructor) ?_
      refine w_assign (by constructor) ?_
      try simp only [Int.toNat_natCast] at hg3
      exact hRR _ (EL.cons (.inr (by first | rfl | (simp only [hg3, els]; done) | (simp only [hg3, els]; rfl) | simp [hg3])) (EL.cons (.inr (by first | rfl | (simp only [hg3, els]; done) | (simp only [hg3, els]; rfl) | simp [hg3])) (EL.cons (.inl rfl) (EL.cons (.inl rfl) (EL.cons (.inl rfl) (EL.cons (.inr rfl) (EL.cons (.inr rfl) (EL.cons (.inr rfl) (EL.cons (.inr rfl) (EL.refl _))))))))))
    · have hg3 := eq_false_of_ne_true hg3
      refine w_g_off rfl rfl (by rw [hg3]; decide) ?_
      refine w_g_off rfl rfl (by rw [hg3]; decide) ?_
      refine w_pick_0 rfl hg3 (by constructor) ?_
      refine w_assign (by constructor) ?_
      try simp only [Int.toNat_natCast] at hg3
      exact hRR _ (EL.cons (.inr (by first | rfl | (simp only [hg3, els]; done) | (simp only [hg3, els]; rfl) | simp [hg3])) (EL.cons (.inr (by first | rfl | (simp only [hg3, els]; done) | (simp only [hg3, els]; rfl) | simp [hg3])) (EL.cons (.inl rfl) (EL.cons (.inl rfl) (EL.cons (.inl rfl) (EL.cons (.inr rfl) (EL.cons (.inr rfl) (EL.cons (.inr rfl) (EL.cons (.inr rfl) (EL.refl _))))))))))
  refine snd_ret ?_
  exact rt (T := TB) (fun V => by first | exact m_bool rfl | exact m_int rfl)
theorem c_in {n lo hi : Int} : ACalls Try.prog TB 113 [.int .i64 n, .int .i64 lo, .int .i64 hi] (.bool (decide (lo ≤ n) && decide (n ≤ hi))) [] := by
  refine acalls_of tokTB Try.func113 rfl rfl (Nat.le_of_ble_eq_true rfl) ?_
  apply sr tokTB (by kernel_rfl)
  · intro RR hRR
    refine w_assign (by constructor) ?_
    exact hRR
  apply srG (env' := (6, .bool (decide (lo ≤ n) && decide (n ≤ hi))) :: (14, .bool (decide (lo ≤ n) && decide (n ≤ hi))) :: (13, .any) :: (12, .any) :: (11, .any) :: (10, _) :: (9, _) :: (8, _) :: (7, _) :: _) tokTB (by kernel_rfl)
  · intro RR hRR
    refine w_move (by constructor) ?_
    refine w_move (by constructor) ?_
    refine w_geq rfl rfl ?_
    refine w_move (by constructor) ?_
    refine w_g rfl rfl (fun hg3 => ?_) (fun hg3 => ?_)
    · skip
      refine w_move (by constructor) ?_
      refine w_g_on rfl rfl hg3 ?_
      refine w_move (by constructor) ?_
      refine w_g_on rfl rfl hg3 ?_
      refine w_leq rfl rfl ?_
      refine w_pick_1 rfl hg3 (by constructor) ?_
      refine w_assign (by constructor) ?_
      try simp only [Int.toNat_natCast] at hg3
      exact hRR _ (EL.cons (.inr (by first | rfl | (simp only [hg3, els]; done) | (simp only [hg3, els]; rfl) | simp [hg3])) (EL.cons (.inr (by first | rfl | (simp only [hg3, els]; done) | (simp only [hg3, els]; rfl) | simp [hg3])) (EL.cons (.inl rfl) (EL.cons (.inl rfl) (EL.cons (.inl rfl) (EL.cons (.inr rfl) (EL.cons (.inr rfl) (EL.cons (.inr rfl) (EL.cons (.inr rfl) (EL.refl _))))))))))
    · have hg3 := eq_false_of_ne_true hg3
      refine w_g_off rfl rfl (by rw [hg3]; decide) ?_
      refine w_g_off rfl rfl (by rw [hg3]; decide) ?_
      refine w_pick_0 rfl hg3 (by constructor) ?_
      refine w_assign (by constructor) ?_
      try simp only [Int.toNat_natCast] at hg3
      exact hRR _ (EL.cons (.inr (by first | rfl | (simp only [hg3, els]; done) | (simp only [hg3, els]; rfl) | simp [hg3])) (EL.cons (.inr (by first | rfl | (simp only [hg3, els]; done) | (simp only [hg3, els]; rfl) | simp [hg3])) (EL.cons (.inl rfl) (EL.cons (.inl rfl) (EL.cons (.inl rfl) (EL.cons (.inr rfl) (EL.cons (.inr rfl) (EL.cons (.inr rfl) (EL.cons (.inr rfl) (EL.refl _))))))))))
  refine snd_ret ?_
  exact rt (T := TB) (fun V => by first | exact m_bool rfl | exact m_int rfl)
theorem c_l01Mod {p x : Int} (hp : 0 < p) (hp2 : p < 4294967296) : ACalls Try.prog TB 147 [.int .i64 p, .int .i64 x] (.int .i64 (x % p)) [] := by
  have h1 := tmod_lo x hp
  have h2 := tmod_hi x hp
  refine acalls_of tokTB Try.func147 rfl rfl (Nat.le_of_ble_eq_true rfl) ?_
  apply sr tokTB (by kernel_rfl)
  · intro RR hRR
    refine w_assign (by constructor) ?_
    exact hRR
  apply sr tokTB (by kernel_rfl)
  · intro RR hRR
    refine w_move (by constructor) ?_
    refine w_move (by constructor) ?_
    refine w_rem rfl rfl (by first | assumption | omega) ?_
    refine w_move (by constructor) ?_
    refine y_add rfl rfl ?_
    refine w_move (by constructor) ?_
    refine w_rem rfl rfl (by first | assumption | omega) ?_
    refine w_assign (by constructor) ?_
    exact hRR
  refine snd_ret ?_
  exact rt (T := TB) (fun V => m_int (tmod_add hp))
theorem c_rest {p x : Int} (hp : 0 < p) (hp2 : p < 4294967296) : ACalls Try.prog TB 100 [.int .i64 x, .int .i64 p] (.int .i64 (x % p)) [] := by
  have h1 := tmod_lo x hp
  have h2 := tmod_hi x hp
  refine acalls_of tokTB Try.func100 rfl rfl (Nat.le_of_ble_eq_true rfl) ?_
  apply sr tokTB (by kernel_rfl)
  · intro RR hRR
    refine w_assign (by constructor) ?_
    exact hRR
  apply sr tokTB (by kernel_rfl)
  · intro RR hRR
    refine w_move (by constructor) ?_
    refine w_move (by constructor) ?_
    refine w_rem rfl rfl (by first | assumption | omega) ?_
    refine w_move (by constructor) ?_
    refine y_add rfl rfl ?_
    refine w_move (by constructor) ?_
    refine w_rem rfl rfl (by first | assumption | omega) ?_
    refine w_assign (by constructor) ?_
    exact hRR
  refine snd_ret ?_
  exact rt (T := TB) (fun V => m_int (tmod_add hp))
theorem c_l01Basis {i : Nat} (hi : i < 6) : ACalls Try.prog TB 62 [.int .i64 (i : Int)] (vecA (eF i)) [] := by
  refine acalls_of tokTB Try.func62 rfl rfl (Nat.le_of_ble_eq_true rfl) ?_
  apply sr tokTB (by kernel_rfl)
  · intro RR hRR
    refine w_alloc kn32 rfl zr32 ?_
    exact hRR
  apply sr tokTB (by kernel_rfl)
  · intro RR hRR
    refine w_bld_a kn32 zr32 und32 kn5 (fun _ => (by exact sz5.symm)) trivial rfl (by exact sz5.symm) ?_
    refine w_alloc kn32 rfl zr32 ?_
    refine w_stw rfl (by constructor) kn32 rfl (by exact trivial) (sx) (by exact sz32.symm) ?_
    exact hRR
  apply sr tokTB (by kernel_rfl)
  · intro RR hRR
    refine w_move (by constructor) ?_
    refine w_iap rfl rfl und32 kn5 rfl (by exact sz5.symm) rfl ?_ ?_
    · exact ⟨by omega, by omega⟩
    first | refine w_stw rfl (by constructor) kn5 rfl (by exact trivial) (sx) (by exact sz5.symm) ?_ | refine w_sti rfl rfl kn5 rfl (by exact trivial) (by exact sz5.symm) ?_ | refine w_store rfl (HV.eq (by constructor)) kn5 rfl (by exact trivial) (sx) (by exact sz5.symm) (put_in (by first | exact put_mat | exact put_tab | exact put_alg0 | exact put_pr0 | exact put_pr1 | exact put_pr2 | exact put_alg1 | exact put_alg2 | exact put_alg3 | exact put_alg3i | exact put_alg2ij | exact put_alg2ijk | exact put_mat2 | exact put_tab2 | exact put_tab3)) ?_ | refine w_store rfl (HV.eq (by constructor)) kn5 rfl (by exact trivial) (by exact trivial) (by exact sz5.symm) rfl ?_
    exact hRR
  apply sr tokTB (by kernel_rfl)
  · intro RR hRR
    refine w_ldp rfl kn32 rfl (by constructor) (by exact sz32.symm) (by exact ag32.symm) ?_
    refine w_stw rfl (by constructor) kn32 rfl (by exact trivial) (sx) (by exact sz32.symm) ?_
    exact hRR
  refine snd_ret ?_
  exact rt_c (T := TB) rfl kn32 rfl sz32.symm ag32.symm (fun V => m_vec (fun j hj => rfl))
theorem c_basis {i : Nat} (hi : i < 6) : ACalls Try.prog TB 66 [.int .i64 (i : Int)] (vecA (eF i)) [] := by
  refine acalls_of tokTB Try.func66 rfl rfl (Nat.le_of_ble_eq_true rfl) ?_
  apply sr tokTB (by kernel_rfl)
  · intro RR hRR
    refine w_alloc kn32 rfl zr32 ?_
    exact hRR
  apply sr tokTB (by kernel_rfl)
  · intro RR hRR
    refine w_bld_a kn32 zr32 und32 kn5 (fun _ => (by exact sz5.symm)) trivial rfl (by exact sz5.symm) ?_
    refine w_alloc kn32 rfl zr32 ?_
    refine w_stw rfl (by constructor) kn32 rfl (by exact trivial) (sx) (by exact sz32.symm) ?_
    exact hRR
  apply sr tokTB (by kernel_rfl)
  · intro RR hRR
    refine w_move (by constructor) ?_
    refine w_iap rfl rfl und32 kn5 rfl (by exact sz5.symm) rfl ?_ ?_
    · exact ⟨by omega, by omega⟩
    first | refine w_stw rfl (by constructor) kn5 rfl (by exact trivial) (sx) (by exact sz5.symm) ?_ | refine w_sti rfl rfl kn5 rfl (by exact trivial) (by exact sz5.symm) ?_ | refine w_store rfl (HV.eq (by constructor)) kn5 rfl (by exact trivial) (sx) (by exact sz5.symm) (put_in (by first | exact put_mat | exact put_tab | exact put_alg0 | exact put_pr0 | exact put_pr1 | exact put_pr2 | exact put_alg1 | exact put_alg2 | exact put_alg3 | exact put_alg3i | exact put_alg2ij | exact put_alg2ijk | exact put_mat2 | exact put_tab2 | exact put_tab3)) ?_ | refine w_store rfl (HV.eq (by constructor)) kn5 rfl (by exact trivial) (by exact trivial) (by exact sz5.symm) rfl ?_
    exact hRR
  apply sr tokTB (by kernel_rfl)
  · intro RR hRR
    refine w_ldp rfl kn32 rfl (by constructor) (by exact sz32.symm) (by exact ag32.symm) ?_
    refine w_stw rfl (by constructor) kn32 rfl (by exact trivial) (sx) (by exact sz32.symm) ?_
    exact hRR
  refine snd_ret ?_
  exact rt_c (T := TB) rfl kn32 rfl sz32.symm ag32.symm (fun V => m_vec (fun j hj => rfl))
end Go.Am

set_option linter.unusedVariables false
set_option linter.unusedSimpArgs false
set_option maxRecDepth 4000
namespace Go.Am
attribute [local irreducible] retQ retQp
open Go.Proofs
theorem c_l01Small {p n : Int} {v : Nat → Int} (hv : B8 v) : ACalls Try.prog TB 119 [.int .i64 p, .int .i64 n, vecA v] (.bool (decide (smP p n v))) [] := by
  refine acalls_of tokTB Try.func119 rfl rfl (Nat.le_of_ble_eq_true rfl) ?_
  apply sr tokTB (by kernel_rfl)
  · intro RR hRR
    refine w_boxc (HV.eq (by constructor)) (by exact trivial) ?_
    refine w_assign (by constructor) ?_
    exact hRR
  refine snd_seq ?_
  apply sr tokTB (by kernel_rfl)
  · intro RR hRR
    refine w_assign (by constructor) ?_
    exact hRR
  refine snd_block ?_
  refine snd_loop (S := Nat) (fun i => ([(0, .int .i64 p), (1, .int .i64 n), (5, .cptr (vecA v)), (7, .int .i64 (i : Int))], [])) (fun i => i ≤ 6 ∧ ∀ j, j < i → smG p n v j) (fun i => 6 - i) (0) ρ0 ?_ ?_ ?_
  · exact ⟨⟨(mi), (mi), (m_cvec (fun _ _ => rfl)), (mi), trivial⟩, trivial, trivial⟩
  · exact ⟨Nat.zero_le _, fun j hj => by omega⟩
  intro i hi0
  refine sq (env2 := [(0, .int .i64 p), (1, .int .i64 n), (5, .cptr (vecA v)), (7, .int .i64 (i : Int))]) (ol2 := []) rfl rfl ?_
  obtain ⟨hi1, hi2⟩ := hi0
  refine snd_seq ?_
  apply sr tokTB (by kernel_rfl)
  · intro RR hRR
    refine w_move (by constructor) ?_
    refine w_lss rfl rfl ?_
    exact hRR
  refine snd_cond _ rfl (fun hc9 => ?_) (fun hc9 => ?_)
  · try simp only [hcs] at hc9
    refine snd_skip ?_
    refine snd_seq ?_
    refine snd_block ?_
    apply srG (env' := (28, .bool (decide (p ≤ v i) || (decide (n ≤ (i : Int)) && decide (v i ≠ 0)))) :: (27, .any) :: (26, .any) :: (25, .any) :: (24, .any) :: (23, .any) :: (22, .any) :: (21, .any) :: (20, .any) :: (19, .any) :: (18, _) :: (17, _) :: (16, _) :: (15, _) :: (14, _) :: (13, _) :: (12, _) :: _) tokTB (by kernel_rfl)
    · intro RR hRR
      refine w_move (by constructor) ?_
      refine w_iac rfl rfl und32 kn5 (by exact sz5.symm) ?_ rfl ?_
      · exact ⟨by omega, by omega⟩
      first | refine w_ldc rfl kn5 (by constructor) (by exact sz5.symm) (by exact ag5.symm) ?_ | refine w_ldp rfl kn5 rfl (by constructor) (by exact sz5.symm) (by exact ag5.symm) ?_
      refine y_conv rfl und5 und2 ?_
      refine w_move (by constructor) ?_
      refine w_geq rfl rfl ?_
      refine w_move (by constructor) ?_
      refine w_g rfl rfl (fun hg6 => ?_) (fun hg6 => ?_)
      · skip
        refine w_move (by constructor) ?_
        refine w_g_on rfl rfl hg6 ?_
        refine w_move (by constructor) ?_
        refine w_g_on rfl rfl hg6 ?_
        refine w_geq rfl rfl ?_
        refine w_g_on rfl rfl hg6 ?_
        refine w_move (by constructor) ?_
        refine w_g rfl rfl (fun hg10 => ?_) (fun hg10 => ?_)
        · skip
          refine w_move (by constructor) ?_
          refine w_g_on rfl rfl hg10 ?_
          refine w_iac rfl rfl und32 kn5 (by exact sz5.symm) ?_ rfl ?_
          · exact ⟨by omega, by omega⟩
          refine w_g_on rfl rfl hg10 ?_
          first | refine w_ldc rfl kn5 (by constructor) (by exact sz5.symm) (by exact ag5.symm) ?_ | refine w_ldp rfl kn5 rfl (by constructor) (by exact sz5.symm) (by exact ag5.symm) ?_
          refine w_g_on rfl rfl hg10 ?_
          refine w_neq rfl rfl ?_
          refine w_g_on rfl rfl hg6 ?_
          refine w_pick_1 rfl hg10 (by constructor) ?_
          refine w_pick_0 rfl hg6 (by constructor) ?_
          try simp only [Int.toNat_natCast] at hg6 hg10
          exact hRR _ (EL.cons (.inr (by first | rfl | (simp only [hg6, hg10, els]; done) | (simp only [hg6, hg10, els]; rfl) | simp [hg6, hg10])) (EL.cons (.inl rfl) (EL.cons (.inl rfl) (EL.cons (.inl rfl) (EL.cons (.inl rfl) (EL.cons (.inl rfl) (EL.cons (.inl rfl) (EL.cons (.inl rfl) (EL.cons (.inl rfl) (EL.cons (.inl rfl) (EL.cons (.inr rfl) (EL.cons (.inr rfl) (EL.cons (.inr rfl) (EL.cons (.inr rfl) (EL.cons (.inr rfl) (EL.cons (.inr rfl) (EL.cons (.inr rfl) (EL.refl _))))))))))))))))))
        · have hg10 := eq_false_of_ne_true hg10
          refine w_g_off rfl rfl (by rw [hg10]; decide) ?_
          refine w_g_off rfl rfl (by rw [hg10]; decide) ?_
          refine w_g_off rfl rfl (by rw [hg10]; decide) ?_
          refine w_g_on rfl rfl hg6 ?_
          refine w_pick_0 rfl hg10 (by constructor) ?_
          refine w_pick_0 rfl hg6 (by constructor) ?_
          try simp only [Int.toNat_natCast] at hg6 hg10
          exact hRR _ (EL.cons (.inr (by first | rfl | (simp only [hg6, hg10, els]; done) | (simp only [hg6, hg10, els]; rfl) | simp [hg6, hg10])) (EL.cons (.inl rfl) (EL.cons (.inl rfl) (EL.cons (.inl rfl) (EL.cons (.inl rfl) (EL.cons (.inl rfl) (EL.cons (.inl rfl) (EL.cons (.inl rfl) (EL.cons (.inl rfl) (EL.cons (.inl rfl) (EL.cons (.inr rfl) (EL.cons (.inr rfl) (EL.cons (.inr rfl) (EL.cons (.inr rfl) (EL.cons (.inr rfl) (EL.cons (.inr rfl) (EL.cons (.inr rfl) (EL.refl _))))))))))))))))))
      · have hg6 := eq_true_of_ne_false hg6
        refine w_g_off rfl rfl (by rw [hg6]; decide) ?_
        refine w_g_off rfl rfl (by rw [hg6]; decide) ?_
        refine w_g_off rfl rfl (by rw [hg6]; decide) ?_
        refine w_g_und rfl rfl ?_
        refine w_g_und rfl rfl ?_
        refine w_g_und rfl rfl ?_
        refine w_g_und rfl rfl ?_
        refine w_g_off rfl rfl (by rw [hg6]; decide) ?_
        refine w_pick_1 rfl hg6 (by constructor) ?_
        try simp only [Int.toNat_natCast] at hg6
        exact hRR _ (EL.cons (.inr (by first | rfl | (simp only [hg6, els]; done) | (simp only [hg6, els]; rfl) | simp [hg6])) (EL.cons (.inl rfl) (EL.cons (.inl rfl) (EL.cons (.inl rfl) (EL.cons (.inl rfl) (EL.cons (.inl rfl) (EL.cons (.inl rfl) (EL.cons (.inl rfl) (EL.cons (.inl rfl) (EL.cons (.inl rfl) (EL.cons (.inr rfl) (EL.cons (.inr rfl) (EL.cons (.inr rfl) (EL.cons (.inr rfl) (EL.cons (.inr rfl) (EL.cons (.inr rfl) (EL.cons (.inr rfl) (EL.refl _))))))))))))))))))
    refine snd_cond _ rfl (fun hc28 => ?_) (fun hc28 => ?_)
    · skip
      apply sr tokTB (by kernel_rfl)
      · intro RR hRR
        refine w_assign (by constructor) ?_
        exact hRR
      refine snd_ret ?_
      exact rt (T := TB) (fun V => m_bool (by symm; rw [decide_eq_false_iff_not]; intro h; rw [smG_iff.1 (h i (by omega))] at hc28; cases hc28))
    · skip
      refine snd_skip ?_
      apply lr tokTB (by kernel_rfl)
      · intro RR hRR
        refine w_move (by constructor) ?_
        refine y_add rfl rfl ?_
        refine w_assign (by constructor) ?_
        exact hRR
      refine ⟨i + 1, ρ0, ?_, ⟨by omega, all_step hi2 (smG_iff.2 hc28)⟩, (by dsimp only; omega)⟩
      exact ⟨⟨(mi), (mi), (m_cvec (fun _ _ => rfl)), (mi), trivial⟩, trivial, trivial⟩
  · try simp only [hcs] at hc9
    refine snd_exit ?_
    apply sr tokTB (by kernel_rfl)
    · intro RR hRR
      refine w_assign (by constructor) ?_
      exact hRR
    refine snd_ret ?_
    exact rt (T := TB) (fun V => m_bool (by symm; rw [decide_eq_true_eq]; exact fun j hj => hi2 j (by omega)))
theorem c_isVector {p n : Int} {v : Nat → Int} (hv : B8 v) : ACalls Try.prog TB 78 [vecA v, .int .i64 n, .int .i64 p] (.bool (decide (smP p n v))) [] := by
  refine acalls_of tokTB Try.func78 rfl rfl (Nat.le_of_ble_eq_true rfl) ?_
  apply sr tokTB (by kernel_rfl)
  · intro RR hRR
    refine w_boxc (HV.eq (by constructor)) (by exact trivial) ?_
    refine w_assign (by constructor) ?_
    exact hRR
  refine snd_seq ?_
  apply sr tokTB (by kernel_rfl)
  · intro RR hRR
    refine w_ldc rfl kn32 (by constructor) (by exact sz32.symm) (by exact ag32.symm) ?_
    refine w_move (by constructor) ?_
    exact hRR
  refine snd_block ?_
  refine snd_loop (S := Nat) (fun i => ([(1, .int .i64 n), (2, .int .i64 p), (9, vecA v), (10, .int .i64 (i : Int))], [])) (fun i => i ≤ 6 ∧ ∀ j, j < i → smG p n v j) (fun i => 6 - i) (0) ρ0 ?_ ?_ ?_
  · exact ⟨⟨(mi), (mi), (m_vec (fun _ _ => rfl)), (mi), trivial⟩, trivial, trivial⟩
  · exact ⟨Nat.zero_le _, fun j hj => by omega⟩
  intro i hi0
  refine sq (env2 := [(1, .int .i64 n), (2, .int .i64 p), (9, vecA v), (10, .int .i64 (i : Int))]) (ol2 := []) rfl rfl ?_
  obtain ⟨hi1, hi2⟩ := hi0
  apply sr tokTB (by kernel_rfl)
  · intro RR hRR
    refine w_lss rfl rfl ?_
    exact hRR
  refine snd_seq ?_
  refine snd_cond _ rfl (fun hc11 => ?_) (fun hc11 => ?_)
  · try simp only [hcs] at hc11
    refine snd_skip ?_
    refine snd_seq ?_
    refine snd_block ?_
    apply sr tokTB (by kernel_rfl)
    · intro RR hRR
      refine w_move (by constructor) ?_
      refine w_ixa rfl rfl und32 kn5 (by exact sz5.symm) ?_ (by constructor) (by exact ag5.symm) ?_
      · exact ⟨by omega, by omega⟩
      refine w_assign (by constructor) ?_
      refine w_assign (by constructor) ?_
      exact hRR
    apply srG (env' := (26, .bool (decide (p ≤ v i) || (decide (n ≤ (i : Int)) && decide (v i ≠ 0)))) :: (25, .any) :: (24, .any) :: (23, .any) :: (22, .any) :: (21, .any) :: (20, .any) :: (19, .any) :: (18, _) :: (17, _) :: (16, _) :: (15, _) :: (14, _) :: _) tokTB (by kernel_rfl)
    · intro RR hRR
      refine w_move (by constructor) ?_
      refine y_conv rfl und5 und2 ?_
      refine w_move (by constructor) ?_
      refine w_geq rfl rfl ?_
      refine w_move (by constructor) ?_
      refine w_g rfl rfl (fun hg4 => ?_) (fun hg4 => ?_)
      · skip
        refine w_move (by constructor) ?_
        refine w_g_on rfl rfl hg4 ?_
        refine w_move (by constructor) ?_
        refine w_g_on rfl rfl hg4 ?_
        refine w_geq rfl rfl ?_
        refine w_g_on rfl rfl hg4 ?_
        refine w_move (by constructor) ?_
        refine w_g rfl rfl (fun hg8 => ?_) (fun hg8 => ?_)
        · skip
          refine w_move (by constructor) ?_
          refine w_g_on rfl rfl hg8 ?_
          refine w_neq rfl rfl ?_
          refine w_g_on rfl rfl hg4 ?_
          refine w_pick_1 rfl hg8 (by constructor) ?_
          refine w_pick_0 rfl hg4 (by constructor) ?_
          try simp only [Int.toNat_natCast] at hg4 hg8
          exact hRR _ (EL.cons (.inr (by first | rfl | (simp only [hg4, hg8, els]; done) | (simp only [hg4, hg8, els]; rfl) | simp [hg4, hg8])) (EL.cons (.inl rfl) (EL.cons (.inl rfl) (EL.cons (.inl rfl) (EL.cons (.inl rfl) (EL.cons (.inl rfl) (EL.cons (.inl rfl) (EL.cons (.inl rfl) (EL.cons (.inr rfl) (EL.cons (.inr rfl) (EL.cons (.inr rfl) (EL.cons (.inr rfl) (EL.cons (.inr rfl) (EL.refl _))))))))))))))
        · have hg8 := eq_false_of_ne_true hg8
          refine w_g_off rfl rfl (by rw [hg8]; decide) ?_
          refine w_g_on rfl rfl hg4 ?_
          refine w_pick_0 rfl hg8 (by constructor) ?_
          refine w_pick_0 rfl hg4 (by constructor) ?_
          try simp only [Int.toNat_natCast] at hg4 hg8
          exact hRR _ (EL.cons (.inr (by first | rfl | (simp only [hg4, hg8, els]; done) | (simp only [hg4, hg8, els]; rfl) | simp [hg4, hg8])) (EL.cons (.inl rfl) (EL.cons (.inl rfl) (EL.cons (.inl rfl) (EL.cons (.inl rfl) (EL.cons (.inl rfl) (EL.cons (.inl rfl) (EL.cons (.inl rfl) (EL.cons (.inr rfl) (EL.cons (.inr rfl) (EL.cons (.inr rfl) (EL.cons (.inr rfl) (EL.cons (.inr rfl) (EL.refl _))))))))))))))
      · have hg4 := eq_true_of_ne_false hg4
        refine w_g_off rfl rfl (by rw [hg4]; decide) ?_
        refine w_g_off rfl rfl (by rw [hg4]; decide) ?_
        refine w_g_off rfl rfl (by rw [hg4]; decide) ?_
        refine w_g_und rfl rfl ?_
        refine w_g_und rfl rfl ?_
        refine w_g_off rfl rfl (by rw [hg4]; decide) ?_
        refine w_pick_1 rfl hg4 (by constructor) ?_
        try simp only [Int.toNat_natCast] at hg4
        exact hRR _ (EL.cons (.inr (by first | rfl | (simp only [hg4, els]; done) | (simp only [hg4, els]; rfl) | simp [hg4])) (EL.cons (.inl rfl) (EL.cons (.inl rfl) (EL.cons (.inl rfl) (EL.cons (.inl rfl) (EL.cons (.inl rfl) (EL.cons (.inl rfl) (EL.cons (.inl rfl) (EL.cons (.inr rfl) (EL.cons (.inr rfl) (EL.cons (.inr rfl) (EL.cons (.inr rfl) (EL.cons (.inr rfl) (EL.refl _))))))))))))))
    refine snd_cond _ rfl (fun hc26 => ?_) (fun hc26 => ?_)
    · skip
      apply sr tokTB (by kernel_rfl)
      · intro RR hRR
        refine w_assign (by constructor) ?_
        exact hRR
      refine snd_ret ?_
      exact rt (T := TB) (fun V => m_bool (by symm; rw [decide_eq_false_iff_not]; intro h; rw [smG_iff.1 (h i (by omega))] at hc26; cases hc26))
    · skip
      refine snd_skip ?_
      apply lr tokTB (by kernel_rfl)
      · intro RR hRR
        refine y_add rfl rfl ?_
        refine w_move (by constructor) ?_
        exact hRR
      refine ⟨i + 1, ρ0, ?_, ⟨by omega, all_step hi2 (smG_iff.2 hc26)⟩, (by dsimp only; omega)⟩
      exact ⟨⟨(mi), (mi), (m_vec (fun _ _ => rfl)), (mi), trivial⟩, trivial, trivial⟩
  · try simp only [hcs] at hc11
    refine snd_exit ?_
    apply sr tokTB (by kernel_rfl)
    · intro RR hRR
      refine w_assign (by constructor) ?_
      exact hRR
    refine snd_ret ?_
    exact rt (T := TB) (fun V => m_bool (by symm; rw [decide_eq_true_eq]; exact fun j hj => hi2 j (by omega)))
end Go.Am

set_option linter.unusedVariables false
set_option linter.unusedSimpArgs false
set_option maxRecDepth 4000
namespace Go.Am
attribute [local irreducible] retQ retQp
open Go.Proofs
theorem c_l01Times {p : Int} {n : Nat} {T : Nat → Nat → Nat → Int} {fo u v : Nat → Int} (hp : 0 < p) (hp2 : p < 256) (hn : n ≤ 6) (hT : B8T T) (hu : B8 u) (hv : B8 v) : ACalls Try.prog TB 87 [algA p (n : Int) T fo, vecA u, vecA v] (vecA (timesF p n T u v)) [] := by
  refine acalls_of tokTB Try.func87 rfl rfl (Nat.le_of_ble_eq_true rfl) ?_
  apply sr tokTB (by kernel_rfl)
  · intro RR hRR
    refine w_boxc (HV.eq (by constructor)) (by exact trivial) ?_
    refine w_boxc (HV.eq (by constructor)) (by exact trivial) ?_
    refine w_boxc (HV.eq (by constructor)) (by exact trivial) ?_
    refine w_alloc kn32 rfl zr32 ?_
    exact hRR
  apply sr tokTB (by kernel_rfl)
  · intro RR hRR
    refine w_bld_a kn32 zr32 und32 kn5 (fun _ => (by exact sz5.symm)) trivial rfl (by exact sz5.symm) ?_
    refine w_alloc kn32 rfl zr32 ?_
    refine w_stw rfl (by constructor) kn32 rfl (by exact trivial) (sx) (by exact sz32.symm) ?_
    exact hRR
  refine snd_seq ?_
  apply sr tokTB (by kernel_rfl)
  · intro RR hRR
    refine w_assign (by constructor) ?_
    exact hRR
  refine snd_block ?_
  refine snd_loop (S := Nat) (fun k => ([(3, .cptr (algA p (n : Int) T fo)), (4, .cptr (vecA u)), (5, .cptr (vecA v)), (6, .ptr 6 0 [] 0 (vecA (fun _ => 0))), (7, .ptr 7 0 [] 0 (vecA (fun _ => 0))), (8, .int .i64 (k : Int))], [(6, .one (vecA (fun _ => 0)) (vecA (fun _ => 0))), (7, .one (vecA (fun _ => 0)) (vecA (cutF (timesF p n T u v) k)))])) (fun k => k ≤ n) (fun k => n - k) (0) ρ0 ?_ ?_ ?_
  · exact ⟨⟨m_calg, (m_cvec (fun _ _ => rfl)), (m_cvec (fun _ _ => rfl)), ⟨rfl, rfl, rfl, rfl, rfl⟩, ⟨rfl, rfl, rfl, rfl, rfl⟩, (mi), trivial⟩, ⟨⟨rfl, (sx), (by exact mt_vec (fun _ _ => rfl))⟩, ⟨rfl, (sx), (by exact mt_vec (fun j _ => rfl))⟩, trivial⟩, ⟨⟨(fun h => by first | exact ⟨rfl, rfl⟩ | exact absurd h (by decide)), (fun h => by first | exact ⟨rfl, rfl⟩ | exact absurd h (by decide)), trivial⟩, ⟨(fun h => by first | exact ⟨rfl, rfl⟩ | exact absurd h (by decide)), (fun h => by first | exact ⟨rfl, rfl⟩ | exact absurd h (by decide)), trivial⟩, trivial⟩⟩
  · exact Nat.zero_le _
  intro k hi0
  refine sq (env2 := [(3, .cptr (algA p (n : Int) T fo)), (4, .cptr (vecA u)), (5, .cptr (vecA v)), (6, .ptr 6 0 [] 0 (vecA (fun _ => 0))), (7, .ptr 7 0 [] 0 (vecA (fun _ => 0))), (8, .int .i64 (k : Int))]) (ol2 := [(6, .one (vecA (fun _ => 0)) (vecA (fun _ => 0))), (7, .one (vecA (fun _ => 0)) (vecA (cutF (timesF p n T u v) k)))]) rfl rfl ?_
  refine snd_seq ?_
  apply sr tokTB (by kernel_rfl)
  · intro RR hRR
    refine w_move (by constructor) ?_
    refine w_fac rfl und34 rfl kn2 nz2 (by decide) rfl (by constructor) ?_
    refine w_ldc rfl kn2 (by constructor) (by exact sz2.symm) (by exact ag2.symm) ?_
    refine w_lss rfl rfl ?_
    exact hRR
  refine snd_cond _ rfl (fun hc16 => ?_) (fun hc16 => ?_)
  · try simp only [hcs] at hc16
    refine snd_skip ?_
    refine snd_seq ?_
    refine snd_block ?_
    apply sr tokTB (by kernel_rfl)
    · intro RR hRR
      refine w_assign (by constructor) ?_
      exact hRR
    refine snd_seq ?_
    apply sr tokTB (by kernel_rfl)
    · intro RR hRR
      refine w_assign (by constructor) ?_
      exact hRR
    refine snd_block ?_
    refine snd_loop (S := Nat) (fun i => ([(3, .cptr (algA p (n : Int) T fo)), (4, .cptr (vecA u)), (5, .cptr (vecA v)), (6, .ptr 6 0 [] 0 (vecA (fun _ => 0))), (7, .ptr 7 0 [] 0 (vecA (fun _ => 0))), (8, .int .i64 (k : Int)), (9, .int .i64 (sumZ (rowS T u v n k) i)), (10, .int .i64 (i : Int))], [(6, .one (vecA (fun _ => 0)) (vecA (fun _ => 0))), (7, .one (vecA (fun _ => 0)) (vecA (cutF (timesF p n T u v) k)))])) (fun i => i ≤ n) (fun i => n - i) (0) ρ0 ?_ ?_ ?_
    · exact ⟨⟨m_calg, (m_cvec (fun _ _ => rfl)), (m_cvec (fun _ _ => rfl)), ⟨rfl, rfl, rfl, rfl, rfl⟩, ⟨rfl, rfl, rfl, rfl, rfl⟩, (mi), (mi), (mi), trivial⟩, ⟨⟨rfl, (sx), (by exact mt_vec (fun _ _ => rfl))⟩, ⟨rfl, (sx), (by exact mt_vec (fun _ _ => rfl))⟩, trivial⟩, ⟨⟨(fun h => by first | exact ⟨rfl, rfl⟩ | exact absurd h (by decide)), (fun h => by first | exact ⟨rfl, rfl⟩ | exact absurd h (by decide)), trivial⟩, ⟨(fun h => by first | exact ⟨rfl, rfl⟩ | exact absurd h (by decide)), (fun h => by first | exact ⟨rfl, rfl⟩ | exact absurd h (by decide)), trivial⟩, trivial⟩⟩
    · exact Nat.zero_le _
    intro i hi2
    refine sq (env2 := [(3, .cptr (algA p (n : Int) T fo)), (4, .cptr (vecA u)), (5, .cptr (vecA v)), (6, .ptr 6 0 [] 0 (vecA (fun _ => 0))), (7, .ptr 7 0 [] 0 (vecA (fun _ => 0))), (8, .int .i64 (k : Int)), (9, .int .i64 (sumZ (rowS T u v n k) i)), (10, .int .i64 (i : Int))]) (ol2 := [(6, .one (vecA (fun _ => 0)) (vecA (fun _ => 0))), (7, .one (vecA (fun _ => 0)) (vecA (cutF (timesF p n T u v) k)))]) rfl rfl ?_
    refine snd_seq ?_
    apply sr tokTB (by kernel_rfl)
    · intro RR hRR
      refine w_move (by constructor) ?_
      refine w_fac rfl und34 rfl kn2 nz2 (by decide) rfl (by constructor) ?_
      refine w_ldc rfl kn2 (by constructor) (by exact sz2.symm) (by exact ag2.symm) ?_
      refine w_lss rfl rfl ?_
      exact hRR
    refine snd_cond _ rfl (fun hc22 => ?_) (fun hc22 => ?_)
    · try simp only [hcs] at hc22
      refine snd_skip ?_
      refine snd_seq ?_
      refine snd_block ?_
      apply sr tokTB (by kernel_rfl)
      · intro RR hRR
        refine w_assign (by constructor) ?_
        exact hRR
      refine snd_block ?_
      refine snd_loop (S := Nat) (fun j => ([(3, .cptr (algA p (n : Int) T fo)), (4, .cptr (vecA u)), (5, .cptr (vecA v)), (6, .ptr 6 0 [] 0 (vecA (fun _ => 0))), (7, .ptr 7 0 [] 0 (vecA (fun _ => 0))), (8, .int .i64 (k : Int)), (9, .int .i64 (sumZ (rowS T u v n k) i + sumZ (tm T u v k i) j)), (10, .int .i64 (i : Int)), (11, .int .i64 (j : Int))], [(6, .one (vecA (fun _ => 0)) (vecA (fun _ => 0))), (7, .one (vecA (fun _ => 0)) (vecA (cutF (timesF p n T u v) k)))])) (fun j => j ≤ n) (fun j => n - j) (0) ρ0 ?_ ?_ ?_
      · exact ⟨⟨m_calg, (m_cvec (fun _ _ => rfl)), (m_cvec (fun _ _ => rfl)), ⟨rfl, rfl, rfl, rfl, rfl⟩, ⟨rfl, rfl, rfl, rfl, rfl⟩, (mi), (by exact m_int (by simp [sumZ])), (mi), (mi), trivial⟩, ⟨⟨rfl, (sx), (by exact mt_vec (fun _ _ => rfl))⟩, ⟨rfl, (sx), (by exact mt_vec (fun _ _ => rfl))⟩, trivial⟩, ⟨⟨(fun h => by first | exact ⟨rfl, rfl⟩ | exact absurd h (by decide)), (fun h => by first | exact ⟨rfl, rfl⟩ | exact absurd h (by decide)), trivial⟩, ⟨(fun h => by first | exact ⟨rfl, rfl⟩ | exact absurd h (by decide)), (fun h => by first | exact ⟨rfl, rfl⟩ | exact absurd h (by decide)), trivial⟩, trivial⟩⟩
      · exact Nat.zero_le _
      intro j hi4
      refine sq (env2 := [(3, .cptr (algA p (n : Int) T fo)), (4, .cptr (vecA u)), (5, .cptr (vecA v)), (6, .ptr 6 0 [] 0 (vecA (fun _ => 0))), (7, .ptr 7 0 [] 0 (vecA (fun _ => 0))), (8, .int .i64 (k : Int)), (9, .int .i64 (sumZ (rowS T u v n k) i + sumZ (tm T u v k i) j)), (10, .int .i64 (i : Int)), (11, .int .i64 (j : Int))]) (ol2 := [(6, .one (vecA (fun _ => 0)) (vecA (fun _ => 0))), (7, .one (vecA (fun _ => 0)) (vecA (cutF (timesF p n T u v) k)))]) rfl rfl ?_
      refine snd_seq ?_
      apply sr tokTB (by kernel_rfl)
      · intro RR hRR
        refine w_move (by constructor) ?_
        refine w_fac rfl und34 rfl kn2 nz2 (by decide) rfl (by constructor) ?_
        refine w_ldc rfl kn2 (by constructor) (by exact sz2.symm) (by exact ag2.symm) ?_
        refine w_lss rfl rfl ?_
        exact hRR
      refine snd_cond _ rfl (fun hc28 => ?_) (fun hc28 => ?_)
      · try simp only [hcs] at hc28
        refine snd_skip ?_
        refine snd_seq ?_
        refine snd_block ?_
        apply ld tokTB mixed (by kernel_rfl) (by kernel_rfl)
        · intro RR hRR
          refine w_move (by constructor) ?_
          refine w_move (by constructor) ?_
          refine w_iac rfl rfl und32 kn5 (by exact sz5.symm) ?_ rfl ?_
          · exact ⟨by omega, by omega⟩
          first | refine w_ldc rfl kn5 (by constructor) (by exact sz5.symm) (by exact ag5.symm) ?_ | refine w_ldp rfl kn5 rfl (by constructor) (by exact sz5.symm) (by exact ag5.symm) ?_
          refine y_conv rfl und5 und2 ?_
          refine w_move (by constructor) ?_
          refine w_iac rfl rfl und32 kn5 (by exact sz5.symm) ?_ rfl ?_
          · exact ⟨by omega, by omega⟩
          first | refine w_ldc rfl kn5 (by constructor) (by exact sz5.symm) (by exact ag5.symm) ?_ | refine w_ldp rfl kn5 rfl (by constructor) (by exact sz5.symm) (by exact ag5.symm) ?_
          refine y_conv rfl und5 und2 ?_
          refine w_mul rfl rfl (by exact w_uv hu hv i j) ?_
          refine w_move (by constructor) ?_
          refine w_move (by constructor) ?_
          refine w_move (by constructor) ?_
          refine w_fac rfl und34 rfl kn24 nz24 (by decide) rfl (by constructor) ?_
          refine w_iac rfl rfl und24 kn23 (by exact sz23.symm) ?_ rfl ?_
          · exact ⟨by omega, by omega⟩
          refine w_iac rfl rfl und23 kn22 (by exact sz22.symm) ?_ rfl ?_
          · exact ⟨by omega, by omega⟩
          refine w_iac rfl rfl und22 kn5 (by exact sz5.symm) ?_ rfl ?_
          · exact ⟨by omega, by omega⟩
          first | refine w_ldc rfl kn5 (by constructor) (by exact sz5.symm) (by exact ag5.symm) ?_ | refine w_ldp rfl kn5 rfl (by constructor) (by exact sz5.symm) (by exact ag5.symm) ?_
          refine y_conv rfl und5 und2 ?_
          refine w_mul rfl rfl (by exact w_tm hu hv hT k i j) ?_
          refine w_add rfl rfl (by exact w_acc hu hv hT hn k (by omega) (by omega)) ?_
          refine w_assign (by constructor) ?_
          exact hRR
        apply lr tokTB (by kernel_rfl)
        · intro RR hRR
          refine w_move (by constructor) ?_
          refine y_add rfl rfl ?_
          refine w_assign (by constructor) ?_
          exact hRR
        refine ⟨j + 1, ρ0, ?_, (by omega), (by dsimp only; omega)⟩
        exact ⟨⟨m_calg, (m_cvec (fun _ _ => rfl)), (m_cvec (fun _ _ => rfl)), ⟨rfl, rfl, rfl, rfl, rfl⟩, ⟨rfl, rfl, rfl, rfl, rfl⟩, (mi), (mi), (mi), (mi), trivial⟩, ⟨⟨rfl, (sx), (by exact mt_vec (fun _ _ => rfl))⟩, ⟨rfl, (sx), (by exact mt_vec (fun _ _ => rfl))⟩, trivial⟩, ⟨⟨(fun h => by first | exact ⟨rfl, rfl⟩ | exact absurd h (by decide)), (fun h => by first | exact ⟨rfl, rfl⟩ | exact absurd h (by decide)), trivial⟩, ⟨(fun h => by first | exact ⟨rfl, rfl⟩ | exact absurd h (by decide)), (fun h => by first | exact ⟨rfl, rfl⟩ | exact absurd h (by decide)), trivial⟩, trivial⟩⟩
      · try simp only [hcs] at hc28
        have hjn : n = j := by omega
        subst hjn
        refine snd_exit ?_
        apply lr tokTB (by kernel_rfl)
        · intro RR hRR
          refine w_move (by constructor) ?_
          refine y_add rfl rfl ?_
          refine w_assign (by constructor) ?_
          exact hRR
        refine ⟨i + 1, ρ0, ?_, (by omega), (by dsimp only; omega)⟩
        exact ⟨⟨m_calg, (m_cvec (fun _ _ => rfl)), (m_cvec (fun _ _ => rfl)), ⟨rfl, rfl, rfl, rfl, rfl⟩, ⟨rfl, rfl, rfl, rfl, rfl⟩, (mi), (mi), (mi), trivial⟩, ⟨⟨rfl, (sx), (by exact mt_vec (fun _ _ => rfl))⟩, ⟨rfl, (sx), (by exact mt_vec (fun _ _ => rfl))⟩, trivial⟩, ⟨⟨(fun h => by first | exact ⟨rfl, rfl⟩ | exact absurd h (by decide)), (fun h => by first | exact ⟨rfl, rfl⟩ | exact absurd h (by decide)), trivial⟩, ⟨(fun h => by first | exact ⟨rfl, rfl⟩ | exact absurd h (by decide)), (fun h => by first | exact ⟨rfl, rfl⟩ | exact absurd h (by decide)), trivial⟩, trivial⟩⟩
    · try simp only [hcs] at hc22
      have hin : n = i := by omega
      subst hin
      refine snd_exit ?_
      apply lr tokTB (by kernel_rfl)
      · intro RR hRR
        refine w_move (by constructor) ?_
        refine w_move (by constructor) ?_
        refine w_fac rfl und34 rfl kn2 nz2 (by decide) rfl (by constructor) ?_
        refine w_ldc rfl kn2 (by constructor) (by exact sz2.symm) (by exact ag2.symm) ?_
        refine w_rem rfl rfl (by first | assumption | omega) ?_
        refine w_conv rfl und2 und5 (by exact w_fin hu hv hT hn (by omega) hp hp2) ?_
        refine w_iap rfl rfl und32 kn5 rfl (by exact sz5.symm) rfl ?_ ?_
        · exact ⟨by omega, by omega⟩
        first | refine w_stw rfl (by constructor) kn5 rfl (by exact trivial) (sx) (by exact sz5.symm) ?_ | refine w_sti rfl rfl kn5 rfl (by exact trivial) (by exact sz5.symm) ?_ | refine w_store rfl (HV.eq (by constructor)) kn5 rfl (by exact trivial) (sx) (by exact sz5.symm) (put_in (by first | exact put_mat | exact put_tab | exact put_alg0 | exact put_pr0 | exact put_pr1 | exact put_pr2 | exact put_alg1 | exact put_alg2 | exact put_alg3 | exact put_alg3i | exact put_alg2ij | exact put_alg2ijk | exact put_mat2 | exact put_tab2 | exact put_tab3)) ?_ | refine w_store rfl (HV.eq (by constructor)) kn5 rfl (by exact trivial) (by exact trivial) (by exact sz5.symm) rfl ?_
        exact hRR
      apply lr tokTB (by kernel_rfl)
      · intro RR hRR
        refine w_move (by constructor) ?_
        refine y_add rfl rfl ?_
        refine w_assign (by constructor) ?_
        exact hRR
      refine ⟨k + 1, ρ0, ?_, (by omega), (by dsimp only; omega)⟩
      exact ⟨⟨m_calg, (m_cvec (fun _ _ => rfl)), (m_cvec (fun _ _ => rfl)), ⟨rfl, rfl, rfl, rfl, rfl⟩, ⟨rfl, rfl, rfl, rfl, rfl⟩, (mi), trivial⟩, ⟨⟨rfl, (sx), (by exact mt_vec (fun _ _ => rfl))⟩, ⟨rfl, (sx), (by exact mt_vec (fun j _ => upd_cut _ k j))⟩, trivial⟩, ⟨⟨(fun h => by first | exact ⟨rfl, rfl⟩ | exact absurd h (by decide)), (fun h => by first | exact ⟨rfl, rfl⟩ | exact absurd h (by decide)), trivial⟩, ⟨(fun h => by first | exact ⟨rfl, rfl⟩ | exact absurd h (by decide)), (fun h => by first | exact ⟨rfl, rfl⟩ | exact absurd h (by decide)), trivial⟩, trivial⟩⟩
  · try simp only [hcs] at hc16
    have hkn : n = k := by omega
    subst hkn
    refine snd_exit ?_
    apply sr tokTB (by kernel_rfl)
    · intro RR hRR
      refine w_ldp rfl kn32 rfl (by constructor) (by exact sz32.symm) (by exact ag32.symm) ?_
      refine w_stw rfl (by constructor) kn32 rfl (by exact trivial) (sx) (by exact sz32.symm) ?_
      exact hRR
    refine snd_ret ?_
    exact rt_c (T := TB) rfl kn32 rfl sz32.symm ag32.symm (fun V => m_vec (fun j hj => timesF_cut j))
end Go.Am

set_option linter.unusedVariables false
set_option linter.unusedSimpArgs false
set_option maxRecDepth 4000
namespace Go.Am
attribute [local irreducible] retQ retQp
open Go.Proofs
theorem c_times {p : Int} {n : Nat} {T : Nat → Nat → Nat → Int} {fo u v : Nat → Int} (hp : 0 < p) (hp2 : p < 256) (hn : n ≤ 6) (hT : B8T T) (hu : B8 u) (hv : B8 v) : ACalls Try.prog TB 73 [.cptr (algA p (n : Int) T fo), vecA u, vecA v] (vecA (timesF p n T u v)) [] := by
  refine acalls_of tokTB Try.func73 rfl rfl (Nat.le_of_ble_eq_true rfl) ?_
  apply sr tokTB (by kernel_rfl)
  · intro RR hRR
    refine w_boxc (HV.eq (by constructor)) (by exact trivial) ?_
    refine w_boxc (HV.eq (by constructor)) (by exact trivial) ?_
    refine w_alloc kn32 rfl zr32 ?_
    exact hRR
  apply sr tokTB (by kernel_rfl)
  · intro RR hRR
    refine w_bld_a kn119 zr119 und119 kn2 (fun _ => (by exact sz2.symm)) trivial rfl (by exact sz2.symm) ?_
    refine w_alloc kn119 rfl zr119 ?_
    refine w_stw rfl (by constructor) kn119 rfl (by exact trivial) (sx) (by exact sz119.symm) ?_
    exact hRR
  refine snd_seq ?_
  apply sr tokTB (by kernel_rfl)
  · intro RR hRR
    refine w_move (by constructor) ?_
    refine y_call rfl (ec exn) (c_n) ?_
    refine w_move (by constructor) ?_
    exact hRR
  refine snd_block ?_
  refine snd_loop (S := Nat) (fun i => ([(0, .cptr (algA p (n : Int) T fo)), (4, .cptr (vecA u)), (5, .cptr (vecA v)), (6, .ptr 6 0 [] 0 (vecA (fun _ => 0))), (7, .ptr 7 0 [] 0 (v64A (fun _ => 0))), (17, .int .i64 (n : Int)), (18, .int .i64 (i : Int))], [(6, .one (vecA (fun _ => 0)) (vecA (fun _ => 0))), (7, .one (v64A (fun _ => 0)) (v64A (accF T u v n i 0)))])) (fun i => i ≤ n) (fun i => n - i) (0) ρ0 ?_ ?_ ?_
  · exact ⟨⟨m_calg, (m_cvec (fun _ _ => rfl)), (m_cvec (fun _ _ => rfl)), ⟨rfl, rfl, rfl, rfl, rfl⟩, ⟨rfl, rfl, rfl, rfl, rfl⟩, (mi), (mi), trivial⟩, ⟨⟨rfl, (sx), (by exact mt_vec (fun _ _ => rfl))⟩, ⟨rfl, (sx), (by exact mt_vec (fun k _ => by simp [accF, sumZ]))⟩, trivial⟩, ⟨⟨(fun h => by first | exact ⟨rfl, rfl⟩ | exact absurd h (by decide)), (fun h => by first | exact ⟨rfl, rfl⟩ | exact absurd h (by decide)), trivial⟩, ⟨(fun h => by first | exact ⟨rfl, rfl⟩ | exact absurd h (by decide)), (fun h => by first | exact ⟨rfl, rfl⟩ | exact absurd h (by decide)), trivial⟩, trivial⟩⟩
  · exact Nat.zero_le _
  intro i hi0
  refine sq (env2 := [(0, .cptr (algA p (n : Int) T fo)), (4, .cptr (vecA u)), (5, .cptr (vecA v)), (6, .ptr 6 0 [] 0 (vecA (fun _ => 0))), (7, .ptr 7 0 [] 0 (v64A (fun _ => 0))), (17, .int .i64 (n : Int)), (18, .int .i64 (i : Int))]) (ol2 := [(6, .one (vecA (fun _ => 0)) (vecA (fun _ => 0))), (7, .one (v64A (fun _ => 0)) (v64A (accF T u v n i 0)))]) rfl rfl ?_
  apply sr tokTB (by kernel_rfl)
  · intro RR hRR
    refine w_lss rfl rfl ?_
    exact hRR
  refine snd_seq ?_
  refine snd_cond _ rfl (fun hc19 => ?_) (fun hc19 => ?_)
  · try simp only [hcs] at hc19
    refine snd_skip ?_
    refine snd_seq ?_
    refine snd_block ?_
    apply sr tokTB (by kernel_rfl)
    · intro RR hRR
      refine w_move (by constructor) ?_
      refine w_assign (by constructor) ?_
      exact hRR
    apply sr tokTB (by kernel_rfl)
    · intro RR hRR
      refine w_move (by constructor) ?_
      refine y_call rfl (ec exn) (c_n) ?_
      refine w_move (by constructor) ?_
      exact hRR
    refine snd_block ?_
    refine snd_loop (S := Nat) (fun j => ([(0, .cptr (algA p (n : Int) T fo)), (4, .cptr (vecA u)), (5, .cptr (vecA v)), (6, .ptr 6 0 [] 0 (vecA (fun _ => 0))), (7, .ptr 7 0 [] 0 (v64A (fun _ => 0))), (17, .int .i64 (n : Int)), (18, .int .i64 (i : Int)), (8, .int .i64 (i : Int)), (22, .int .i64 (n : Int)), (23, .int .i64 (j : Int))], [(6, .one (vecA (fun _ => 0)) (vecA (fun _ => 0))), (7, .one (v64A (fun _ => 0)) (v64A (accF T u v n i j)))])) (fun j => j ≤ n) (fun j => n - j) (0) ρ0 ?_ ?_ ?_
    · exact ⟨⟨m_calg, (m_cvec (fun _ _ => rfl)), (m_cvec (fun _ _ => rfl)), ⟨rfl, rfl, rfl, rfl, rfl⟩, ⟨rfl, rfl, rfl, rfl, rfl⟩, (mi), (mi), (mi), (mi), (mi), trivial⟩, ⟨⟨rfl, (sx), (by exact mt_vec (fun _ _ => rfl))⟩, ⟨rfl, (sx), (by exact mt_vec (fun _ _ => rfl))⟩, trivial⟩, ⟨⟨(fun h => by first | exact ⟨rfl, rfl⟩ | exact absurd h (by decide)), (fun h => by first | exact ⟨rfl, rfl⟩ | exact absurd h (by decide)), trivial⟩, ⟨(fun h => by first | exact ⟨rfl, rfl⟩ | exact absurd h (by decide)), (fun h => by first | exact ⟨rfl, rfl⟩ | exact absurd h (by decide)), trivial⟩, trivial⟩⟩
    · exact Nat.zero_le _
    intro j hi2
    refine sq (env2 := [(0, .cptr (algA p (n : Int) T fo)), (4, .cptr (vecA u)), (5, .cptr (vecA v)), (6, .ptr 6 0 [] 0 (vecA (fun _ => 0))), (7, .ptr 7 0 [] 0 (v64A (fun _ => 0))), (17, .int .i64 (n : Int)), (18, .int .i64 (i : Int)), (8, .int .i64 (i : Int)), (22, .int .i64 (n : Int)), (23, .int .i64 (j : Int))]) (ol2 := [(6, .one (vecA (fun _ => 0)) (vecA (fun _ => 0))), (7, .one (v64A (fun _ => 0)) (v64A (accF T u v n i j)))]) rfl rfl ?_
    apply sr tokTB (by kernel_rfl)
    · intro RR hRR
      refine w_lss rfl rfl ?_
      exact hRR
    refine snd_seq ?_
    refine snd_cond _ rfl (fun hc24 => ?_) (fun hc24 => ?_)
    · try simp only [hcs] at hc24
      refine snd_skip ?_
      refine snd_seq ?_
      refine snd_block ?_
      apply sr tokTB (by kernel_rfl)
      · intro RR hRR
        refine w_move (by constructor) ?_
        refine w_assign (by constructor) ?_
        exact hRR
      apply sd tokTB mixed (by kernel_rfl) (by kernel_rfl)
      · intro RR hRR
        refine w_move (by constructor) ?_
        refine w_iac rfl rfl und32 kn5 (by exact sz5.symm) ?_ rfl ?_
        · exact ⟨by omega, by omega⟩
        first | refine w_ldc rfl kn5 (by constructor) (by exact sz5.symm) (by exact ag5.symm) ?_ | refine w_ldp rfl kn5 rfl (by constructor) (by exact sz5.symm) (by exact ag5.symm) ?_
        refine y_conv rfl und5 und2 ?_
        refine w_move (by constructor) ?_
        refine w_iac rfl rfl und32 kn5 (by exact sz5.symm) ?_ rfl ?_
        · exact ⟨by omega, by omega⟩
        first | refine w_ldc rfl kn5 (by constructor) (by exact sz5.symm) (by exact ag5.symm) ?_ | refine w_ldp rfl kn5 rfl (by constructor) (by exact sz5.symm) (by exact ag5.symm) ?_
        refine y_conv rfl und5 und2 ?_
        refine w_mul rfl rfl (by exact w_uv hu hv i j) ?_
        refine w_assign (by constructor) ?_
        exact hRR
      refine snd_seq ?_
      apply sr tokTB (by kernel_rfl)
      · intro RR hRR
        refine w_move (by constructor) ?_
        refine w_eql rfl rfl ?_
        exact hRR
      refine snd_cond _ rfl (fun hc36 => ?_) (fun hc36 => ?_)
      · try simp only [hcs] at hc36
        refine snd_exit ?_
        apply lr tokTB (by kernel_rfl)
        · intro RR hRR
          refine y_add rfl rfl ?_
          refine w_move (by constructor) ?_
          exact hRR
        refine ⟨j + 1, ρ0, ?_, (by omega), (by dsimp only; omega)⟩
        exact ⟨⟨m_calg, (m_cvec (fun _ _ => rfl)), (m_cvec (fun _ _ => rfl)), ⟨rfl, rfl, rfl, rfl, rfl⟩, ⟨rfl, rfl, rfl, rfl, rfl⟩, (mi), (mi), (mi), (mi), (mi), trivial⟩, ⟨⟨rfl, (sx), (by exact mt_vec (fun _ _ => rfl))⟩, ⟨rfl, (sx), (by first | exact mt_vec (fun z _ => mix_all) | exact mt_vec (fun z _ => (acc_zero hc36).symm))⟩, trivial⟩, ⟨⟨(fun h => by first | exact ⟨rfl, rfl⟩ | exact absurd h (by decide)), (fun h => by first | exact ⟨rfl, rfl⟩ | exact absurd h (by decide)), trivial⟩, ⟨(fun h => by first | exact ⟨rfl, rfl⟩ | exact absurd h (by decide)), (fun h => by first | exact ⟨rfl, rfl⟩ | exact absurd h (by decide)), trivial⟩, trivial⟩⟩
      · try simp only [hcs] at hc36
        refine snd_skip ?_
        apply sr tokTB (by kernel_rfl)
        · intro RR hRR
          refine w_move (by constructor) ?_
          refine y_call rfl (ec exn) (c_n) ?_
          refine w_move (by constructor) ?_
          exact hRR
        refine snd_block ?_
        refine snd_loop (S := Nat) (fun k => ([(0, .cptr (algA p (n : Int) T fo)), (4, .cptr (vecA u)), (5, .cptr (vecA v)), (6, .ptr 6 0 [] 0 (vecA (fun _ => 0))), (7, .ptr 7 0 [] 0 (v64A (fun _ => 0))), (17, .int .i64 (n : Int)), (18, .int .i64 (i : Int)), (8, .int .i64 (i : Int)), (22, .int .i64 (n : Int)), (23, .int .i64 (j : Int)), (9, .int .i64 (j : Int)), (10, .int .i64 (u i * v j)), (38, .int .i64 (n : Int)), (39, .int .i64 (k : Int))], [(6, .one (vecA (fun _ => 0)) (vecA (fun _ => 0))), (7, .one (v64A (fun _ => 0)) (v64A (mixF (accF T u v n i (j + 1)) (accF T u v n i j) k)))])) (fun k => k ≤ n) (fun k => n - k) (0) ρ0 ?_ ?_ ?_
        · exact ⟨⟨m_calg, (m_cvec (fun _ _ => rfl)), (m_cvec (fun _ _ => rfl)), ⟨rfl, rfl, rfl, rfl, rfl⟩, ⟨rfl, rfl, rfl, rfl, rfl⟩, (mi), (mi), (mi), (mi), (mi), (mi), (mi), (mi), (mi), trivial⟩, ⟨⟨rfl, (sx), (by exact mt_vec (fun _ _ => rfl))⟩, ⟨rfl, (sx), (by exact mt_vec (fun k _ => by simp [mixF]))⟩, trivial⟩, ⟨⟨(fun h => by first | exact ⟨rfl, rfl⟩ | exact absurd h (by decide)), (fun h => by first | exact ⟨rfl, rfl⟩ | exact absurd h (by decide)), trivial⟩, ⟨(fun h => by first | exact ⟨rfl, rfl⟩ | exact absurd h (by decide)), (fun h => by first | exact ⟨rfl, rfl⟩ | exact absurd h (by decide)), trivial⟩, trivial⟩⟩
        · exact Nat.zero_le _
        intro k hi4
        refine sq (env2 := [(0, .cptr (algA p (n : Int) T fo)), (4, .cptr (vecA u)), (5, .cptr (vecA v)), (6, .ptr 6 0 [] 0 (vecA (fun _ => 0))), (7, .ptr 7 0 [] 0 (v64A (fun _ => 0))), (17, .int .i64 (n : Int)), (18, .int .i64 (i : Int)), (8, .int .i64 (i : Int)), (22, .int .i64 (n : Int)), (23, .int .i64 (j : Int)), (9, .int .i64 (j : Int)), (10, .int .i64 (u i * v j)), (38, .int .i64 (n : Int)), (39, .int .i64 (k : Int))]) (ol2 := [(6, .one (vecA (fun _ => 0)) (vecA (fun _ => 0))), (7, .one (v64A (fun _ => 0)) (v64A (mixF (accF T u v n i (j + 1)) (accF T u v n i j) k)))]) rfl rfl ?_
        apply sr tokTB (by kernel_rfl)
        · intro RR hRR
          refine w_lss rfl rfl ?_
          exact hRR
        refine snd_seq ?_
        refine snd_cond _ rfl (fun hc40 => ?_) (fun hc40 => ?_)
        · try simp only [hcs] at hc40
          refine snd_skip ?_
          refine snd_seq ?_
          refine snd_block ?_
          apply sr tokTB (by kernel_rfl)
          · intro RR hRR
            refine w_move (by constructor) ?_
            refine w_assign (by constructor) ?_
            exact hRR
          apply ld tokTB mixed (by kernel_rfl) (by kernel_rfl)
          · intro RR hRR
            refine w_move (by constructor) ?_
            refine w_iap rfl rfl und119 kn2 rfl (by exact sz2.symm) rfl ?_ ?_
            · exact ⟨by omega, by omega⟩
            first | refine w_ldc rfl kn2 (by constructor) (by exact sz2.symm) (by exact ag2.symm) ?_ | refine w_ldp rfl kn2 rfl (by constructor) (by exact sz2.symm) (by exact ag2.symm) ?_
            refine w_move (by constructor) ?_
            refine w_move (by constructor) ?_
            refine w_move (by constructor) ?_
            refine w_move (by constructor) ?_
            refine w_move (by constructor) ?_
            refine w_nilc rfl ?_
            refine w_fac rfl und34 rfl kn24 nz24 (by decide) rfl (by constructor) ?_
            refine w_iac rfl rfl und24 kn23 (by exact sz23.symm) ?_ rfl ?_
            · exact ⟨by omega, by omega⟩
            refine w_iac rfl rfl und23 kn22 (by exact sz22.symm) ?_ rfl ?_
            · exact ⟨by omega, by omega⟩
            refine w_iac rfl rfl und22 kn5 (by exact sz5.symm) ?_ rfl ?_
            · exact ⟨by omega, by omega⟩
            first | refine w_ldc rfl kn5 (by constructor) (by exact sz5.symm) (by exact ag5.symm) ?_ | refine w_ldp rfl kn5 rfl (by constructor) (by exact sz5.symm) (by exact ag5.symm) ?_
            refine y_conv rfl und5 und2 ?_
            refine w_mul rfl rfl (by exact w_tm hu hv hT k i j) ?_
            refine w_add rfl rfl (by exact w_acc2 hu hv hT hn (by omega) (by omega) (by omega)) ?_
            refine w_iap rfl rfl und119 kn2 rfl (by exact sz2.symm) rfl ?_ ?_
            · exact ⟨by omega, by omega⟩
            first | refine w_stw rfl (by constructor) kn2 rfl (by exact trivial) (sx) (by exact sz2.symm) ?_ | refine w_sti rfl rfl kn2 rfl (by exact trivial) (by exact sz2.symm) ?_ | refine w_store rfl (HV.eq (by constructor)) kn2 rfl (by exact trivial) (sx) (by exact sz2.symm) (put_in (by first | exact put_mat | exact put_tab | exact put_alg0 | exact put_pr0 | exact put_pr1 | exact put_pr2 | exact put_alg1 | exact put_alg2 | exact put_alg3 | exact put_alg3i | exact put_alg2ij | exact put_alg2ijk | exact put_mat2 | exact put_tab2 | exact put_tab3)) ?_ | refine w_store rfl (HV.eq (by constructor)) kn2 rfl (by exact trivial) (by exact trivial) (by exact sz2.symm) rfl ?_
            exact hRR
          apply lr tokTB (by kernel_rfl)
          · intro RR hRR
            refine y_add rfl rfl ?_
            refine w_move (by constructor) ?_
            exact hRR
          refine ⟨k + 1, ρ0, ?_, (by omega), (by dsimp only; omega)⟩
          exact ⟨⟨m_calg, (m_cvec (fun _ _ => rfl)), (m_cvec (fun _ _ => rfl)), ⟨rfl, rfl, rfl, rfl, rfl⟩, ⟨rfl, rfl, rfl, rfl, rfl⟩, (mi), (mi), (mi), (mi), (mi), (mi), (mi), (mi), (mi), trivial⟩, ⟨⟨rfl, (sx), (by exact mt_vec (fun _ _ => rfl))⟩, ⟨rfl, (sx), (by exact mt_vec (fun z _ => upd_mix _ _ k z))⟩, trivial⟩, ⟨⟨(fun h => by first | exact ⟨rfl, rfl⟩ | exact absurd h (by decide)), (fun h => by first | exact ⟨rfl, rfl⟩ | exact absurd h (by decide)), trivial⟩, ⟨(fun h => by first | exact ⟨rfl, rfl⟩ | exact absurd h (by decide)), (fun h => by first | exact ⟨rfl, rfl⟩ | exact absurd h (by decide)), trivial⟩, trivial⟩⟩
        · try simp only [hcs] at hc40
          have hkn : n = k := by omega
          subst hkn
          refine snd_exit ?_
          apply lr tokTB (by kernel_rfl)
          · intro RR hRR
            refine y_add rfl rfl ?_
            refine w_move (by constructor) ?_
            exact hRR
          refine ⟨j + 1, ρ0, ?_, (by omega), (by dsimp only; omega)⟩
          exact ⟨⟨m_calg, (m_cvec (fun _ _ => rfl)), (m_cvec (fun _ _ => rfl)), ⟨rfl, rfl, rfl, rfl, rfl⟩, ⟨rfl, rfl, rfl, rfl, rfl⟩, (mi), (mi), (mi), (mi), (mi), trivial⟩, ⟨⟨rfl, (sx), (by exact mt_vec (fun _ _ => rfl))⟩, ⟨rfl, (sx), (by first | exact mt_vec (fun z _ => mix_all) | exact mt_vec (fun z _ => (acc_zero hc36).symm))⟩, trivial⟩, ⟨⟨(fun h => by first | exact ⟨rfl, rfl⟩ | exact absurd h (by decide)), (fun h => by first | exact ⟨rfl, rfl⟩ | exact absurd h (by decide)), trivial⟩, ⟨(fun h => by first | exact ⟨rfl, rfl⟩ | exact absurd h (by decide)), (fun h => by first | exact ⟨rfl, rfl⟩ | exact absurd h (by decide)), trivial⟩, trivial⟩⟩
    · try simp only [hcs] at hc24
      have hin : n = j := by omega
      subst hin
      refine snd_exit ?_
      apply lr tokTB (by kernel_rfl)
      · intro RR hRR
        refine y_add rfl rfl ?_
        refine w_move (by constructor) ?_
        exact hRR
      refine ⟨i + 1, ρ0, ?_, (by omega), (by dsimp only; omega)⟩
      exact ⟨⟨m_calg, (m_cvec (fun _ _ => rfl)), (m_cvec (fun _ _ => rfl)), ⟨rfl, rfl, rfl, rfl, rfl⟩, ⟨rfl, rfl, rfl, rfl, rfl⟩, (mi), (mi), trivial⟩, ⟨⟨rfl, (sx), (by exact mt_vec (fun _ _ => rfl))⟩, ⟨rfl, (sx), (by exact mt_vec (fun k _ => acc_next))⟩, trivial⟩, ⟨⟨(fun h => by first | exact ⟨rfl, rfl⟩ | exact absurd h (by decide)), (fun h => by first | exact ⟨rfl, rfl⟩ | exact absurd h (by decide)), trivial⟩, ⟨(fun h => by first | exact ⟨rfl, rfl⟩ | exact absurd h (by decide)), (fun h => by first | exact ⟨rfl, rfl⟩ | exact absurd h (by decide)), trivial⟩, trivial⟩⟩
  · try simp only [hcs] at hc19
    have hkn : n = i := by omega
    subst hkn
    refine snd_exit ?_
    apply sr tokTB (by kernel_rfl)
    · intro RR hRR
      refine w_bld_a kn32 zr32 und32 kn5 (fun _ => (by exact sz5.symm)) trivial rfl (by exact sz5.symm) ?_
      refine w_alloc kn32 rfl zr32 ?_
      refine w_stw rfl (by constructor) kn32 rfl (by exact trivial) (sx) (by exact sz32.symm) ?_
      exact hRR
    refine snd_seq ?_
    apply sr tokTB (by kernel_rfl)
    · intro RR hRR
      refine w_ldp rfl kn119 rfl (by constructor) (by exact sz119.symm) (by exact ag119.symm) ?_
      refine w_move (by constructor) ?_
      exact hRR
    refine snd_block ?_
    refine snd_loop (S := Nat) (fun k => ([(0, .cptr (algA p (n : Int) T fo)), (6, .ptr 6 0 [] 0 (vecA (fun _ => 0))), (12, .ptr 12 0 [] 0 (vecA (fun _ => 0))), (64, v64A (accF T u v n n 0)), (65, .int .i64 (k : Int))], [(6, .one (vecA (fun _ => 0)) (vecA (fun _ => 0))), (12, .one (vecA (fun _ => 0)) (vecA (cutF (timesF p n T u v) k)))])) (fun k => k ≤ 6) (fun k => 6 - k) (0) ρ0 ?_ ?_ ?_
    · exact ⟨⟨m_calg, ⟨rfl, rfl, rfl, rfl, rfl⟩, ⟨rfl, rfl, rfl, rfl, rfl⟩, (m_vec (fun _ _ => rfl)), (mi), trivial⟩, ⟨⟨rfl, (sx), (by exact mt_vec (fun _ _ => rfl))⟩, ⟨rfl, (sx), (by exact mt_vec (fun k _ => rfl))⟩, trivial⟩, ⟨⟨(fun h => by first | exact ⟨rfl, rfl⟩ | exact absurd h (by decide)), (fun h => by first | exact ⟨rfl, rfl⟩ | exact absurd h (by decide)), trivial⟩, ⟨(fun h => by first | exact ⟨rfl, rfl⟩ | exact absurd h (by decide)), (fun h => by first | exact ⟨rfl, rfl⟩ | exact absurd h (by decide)), trivial⟩, trivial⟩⟩
    · exact Nat.zero_le _
    intro k hi6
    refine sq (env2 := [(0, .cptr (algA p (n : Int) T fo)), (6, .ptr 6 0 [] 0 (vecA (fun _ => 0))), (12, .ptr 12 0 [] 0 (vecA (fun _ => 0))), (64, v64A (accF T u v n n 0)), (65, .int .i64 (k : Int))]) (ol2 := [(6, .one (vecA (fun _ => 0)) (vecA (fun _ => 0))), (12, .one (vecA (fun _ => 0)) (vecA (cutF (timesF p n T u v) k)))]) rfl rfl ?_
    apply sr tokTB (by kernel_rfl)
    · intro RR hRR
      refine w_lss rfl rfl ?_
      exact hRR
    refine snd_seq ?_
    refine snd_cond _ rfl (fun hc66 => ?_) (fun hc66 => ?_)
    · try simp only [hcs] at hc66
      refine snd_skip ?_
      refine snd_seq ?_
      refine snd_block ?_
      apply sr tokTB (by kernel_rfl)
      · intro RR hRR
        refine w_move (by constructor) ?_
        refine w_ixa rfl rfl und119 kn2 (by exact sz2.symm) ?_ (by constructor) (by exact ag2.symm) ?_
        · exact ⟨by omega, by omega⟩
        refine w_assign (by constructor) ?_
        refine w_assign (by constructor) ?_
        exact hRR
      apply lr tokTB (by kernel_rfl)
      · intro RR hRR
        refine w_move (by constructor) ?_
        refine w_move (by constructor) ?_
        refine w_move (by constructor) ?_
        refine w_nilc rfl ?_
        refine w_fac rfl und34 rfl kn2 nz2 (by decide) rfl (by constructor) ?_
        refine w_ldc rfl kn2 (by constructor) (by exact sz2.symm) (by exact ag2.symm) ?_
        refine w_rem rfl rfl (by first | assumption | omega) ?_
        refine w_conv rfl und2 und5 (by exact w_fin2 hu hv hT hn hp hp2) ?_
        refine w_iap rfl rfl und32 kn5 rfl (by exact sz5.symm) rfl ?_ ?_
        · exact ⟨by omega, by omega⟩
        first | refine w_stw rfl (by constructor) kn5 rfl (by exact trivial) (sx) (by exact sz5.symm) ?_ | refine w_sti rfl rfl kn5 rfl (by exact trivial) (by exact sz5.symm) ?_ | refine w_store rfl (HV.eq (by constructor)) kn5 rfl (by exact trivial) (sx) (by exact sz5.symm) (put_in (by first | exact put_mat | exact put_tab | exact put_alg0 | exact put_pr0 | exact put_pr1 | exact put_pr2 | exact put_alg1 | exact put_alg2 | exact put_alg3 | exact put_alg3i | exact put_alg2ij | exact put_alg2ijk | exact put_mat2 | exact put_tab2 | exact put_tab3)) ?_ | refine w_store rfl (HV.eq (by constructor)) kn5 rfl (by exact trivial) (by exact trivial) (by exact sz5.symm) rfl ?_
        exact hRR
      apply lr tokTB (by kernel_rfl)
      · intro RR hRR
        refine y_add rfl rfl ?_
        refine w_move (by constructor) ?_
        exact hRR
      refine ⟨k + 1, ρ0, ?_, (by omega), (by dsimp only; omega)⟩
      exact ⟨⟨m_calg, ⟨rfl, rfl, rfl, rfl, rfl⟩, ⟨rfl, rfl, rfl, rfl, rfl⟩, (m_vec (fun _ _ => rfl)), (mi), trivial⟩, ⟨⟨rfl, (sx), (by exact mt_vec (fun _ _ => rfl))⟩, ⟨rfl, (sx), (by exact mt_vec (fun z _ => upd_cut _ k z))⟩, trivial⟩, ⟨⟨(fun h => by first | exact ⟨rfl, rfl⟩ | exact absurd h (by decide)), (fun h => by first | exact ⟨rfl, rfl⟩ | exact absurd h (by decide)), trivial⟩, ⟨(fun h => by first | exact ⟨rfl, rfl⟩ | exact absurd h (by decide)), (fun h => by first | exact ⟨rfl, rfl⟩ | exact absurd h (by decide)), trivial⟩, trivial⟩⟩
    · try simp only [hcs] at hc66
      have hk6 : k = 6 := by omega
      subst hk6
      refine snd_exit ?_
      apply sr tokTB (by kernel_rfl)
      · intro RR hRR
        refine w_ldp rfl kn32 rfl (by constructor) (by exact sz32.symm) (by exact ag32.symm) ?_
        refine w_stw rfl (by constructor) kn32 rfl (by exact trivial) (sx) (by exact sz32.symm) ?_
        exact hRR
      refine snd_ret ?_
      exact rt_c (T := TB) rfl kn32 rfl sz32.symm ag32.symm (fun V => m_vec (fun j hj => by simp [cutF, hj]))
end Go.Am

set_option linter.unusedVariables false
set_option linter.unusedSimpArgs false
set_option maxRecDepth 4000
namespace Go.Am
attribute [local irreducible] retQ retQp
open Go.Proofs
theorem c_toByteA6 {v : Nat → Int} : ACalls Try.prog TB 129 [vecA v] (vecA v) [] := by
  refine acalls_of tokTB Try.func129 rfl rfl (Nat.le_of_ble_eq_true rfl) ?_
  apply sr tokTB (by kernel_rfl)
  · intro RR hRR
    refine w_boxc (HV.eq (by constructor)) (by exact trivial) ?_
    refine w_alloc kn22 rfl zr22 ?_
    exact hRR
  apply sr tokTB (by kernel_rfl)
  · intro RR hRR
    refine w_alloc kn22 rfl zr22 ?_
    exact hRR
  refine snd_seq ?_
  apply sr tokTB (by kernel_rfl)
  · intro RR hRR
    refine w_assign (by constructor) ?_
    exact hRR
  refine snd_block ?_
  refine snd_loop (S := Nat) (fun i => ([(1, .cptr (vecA v)), (2, .ptr 2 0 [] 0 (vecA (fun _ => 0))), (3, .ptr 3 0 [] 0 (vecA (fun _ => 0))), (4, .int .i64 (i : Int))], [(2, .one (vecA (fun _ => 0)) (vecA (fun _ => 0))), (3, .one (vecA (fun _ => 0)) (vecA (cutG 0 v i)))])) (fun i => i ≤ 6) (fun i => 6 - i) (0) ρ0 ?_ ?_ ?_
  · exact ⟨⟨(by exact m_cvec (fun _ _ => rfl)), ⟨rfl, rfl, rfl, rfl, rfl⟩, ⟨rfl, rfl, rfl, rfl, rfl⟩, (mi), trivial⟩, ⟨⟨rfl, (sx), (by exact mt_vec (fun _ _ => rfl))⟩, ⟨rfl, (sx), (by exact mt_vec (fun _ _ => rfl))⟩, trivial⟩, ⟨⟨(fun h => by first | exact ⟨rfl, rfl⟩ | exact absurd h (by decide)), (fun h => by first | exact ⟨rfl, rfl⟩ | exact absurd h (by decide)), trivial⟩, ⟨(fun h => by first | exact ⟨rfl, rfl⟩ | exact absurd h (by decide)), (fun h => by first | exact ⟨rfl, rfl⟩ | exact absurd h (by decide)), trivial⟩, trivial⟩⟩
  · exact Nat.zero_le _
  intro i hi0
  refine sq (env2 := [(1, .cptr (vecA v)), (2, .ptr 2 0 [] 0 (vecA (fun _ => 0))), (3, .ptr 3 0 [] 0 (vecA (fun _ => 0))), (4, .int .i64 (i : Int))]) (ol2 := [(2, .one (vecA (fun _ => 0)) (vecA (fun _ => 0))), (3, .one (vecA (fun _ => 0)) (vecA (cutG 0 v i)))]) rfl rfl ?_
  refine snd_seq ?_
  apply sr tokTB (by kernel_rfl)
  · intro RR hRR
    refine w_move (by constructor) ?_
    refine w_lss rfl rfl ?_
    exact hRR
  refine snd_cond _ rfl (fun hc6 => ?_) (fun hc6 => ?_)
  · try simp only [hcs] at hc6
    refine snd_skip ?_
    refine snd_seq ?_
    refine snd_block ?_
    apply lr tokTB (by kernel_rfl)
    · intro RR hRR
      refine w_move (by constructor) ?_
      refine w_move (by constructor) ?_
      refine w_iac rfl rfl und22 kn5 (by exact sz5.symm) ?_ rfl ?_
      · exact ⟨by omega, by omega⟩
      first | refine w_ldc rfl kn5 (by constructor) (by exact sz5.symm) (by exact ag5.symm) ?_ | refine w_ldp rfl kn5 rfl (by constructor) (by exact sz5.symm) (by exact ag5.symm) ?_
      refine w_iap rfl rfl und22 kn5 rfl (by exact sz5.symm) rfl ?_ ?_
      · exact ⟨by omega, by omega⟩
      first | refine w_stw rfl (by constructor) kn5 rfl (by exact trivial) (sx) (by exact sz5.symm) ?_ | refine w_sti rfl rfl kn5 rfl (by exact trivial) (by exact sz5.symm) ?_ | refine w_store rfl (HV.eq (by constructor)) kn5 rfl (by exact trivial) (sx) (by exact sz5.symm) (put_in (by first | exact put_mat | exact put_tab | exact put_alg0 | exact put_pr0 | exact put_pr1 | exact put_pr2 | exact put_alg1 | exact put_alg2 | exact put_alg3 | exact put_alg3i | exact put_alg2ij | exact put_alg2ijk | exact put_mat2 | exact put_tab2 | exact put_tab3)) ?_ | refine w_store rfl (HV.eq (by constructor)) kn5 rfl (by exact trivial) (by exact trivial) (by exact sz5.symm) rfl ?_
      exact hRR
    apply lr tokTB (by kernel_rfl)
    · intro RR hRR
      refine w_move (by constructor) ?_
      refine y_add rfl rfl ?_
      refine w_assign (by constructor) ?_
      exact hRR
    refine ⟨i + 1, ρ0, ?_, (by omega), (by dsimp only; omega)⟩
    exact ⟨⟨(by exact m_cvec (fun _ _ => rfl)), ⟨rfl, rfl, rfl, rfl, rfl⟩, ⟨rfl, rfl, rfl, rfl, rfl⟩, (mi), trivial⟩, ⟨⟨rfl, (sx), (by exact mt_vec (fun _ _ => rfl))⟩, ⟨rfl, (sx), (by exact mt_vec (fun z _ => upd_cutG _ _ i z))⟩, trivial⟩, ⟨⟨(fun h => by first | exact ⟨rfl, rfl⟩ | exact absurd h (by decide)), (fun h => by first | exact ⟨rfl, rfl⟩ | exact absurd h (by decide)), trivial⟩, ⟨(fun h => by first | exact ⟨rfl, rfl⟩ | exact absurd h (by decide)), (fun h => by first | exact ⟨rfl, rfl⟩ | exact absurd h (by decide)), trivial⟩, trivial⟩⟩
  · try simp only [hcs] at hc6
    have hi6 : i = 6 := by omega
    subst hi6
    refine snd_exit ?_
    apply sr tokTB (by kernel_rfl)
    · intro RR hRR
      refine w_ldp rfl kn22 rfl (by constructor) (by exact sz22.symm) (by exact ag22.symm) ?_
      refine w_stw rfl (by constructor) kn22 rfl (by exact trivial) (sx) (by exact sz22.symm) ?_
      exact hRR
    refine snd_ret ?_
    exact rt_c (T := TB) rfl kn22 rfl sz22.symm ag22.symm (fun V => m_vec (fun j hj => by simp [cutG, hj]))
theorem c_toVector {v : Nat → Int} : ACalls Try.prog TB 37 [vecA v] (vecA v) [] := by
  refine acalls_of tokTB Try.func37 rfl rfl (Nat.le_of_ble_eq_true rfl) ?_
  apply sr tokTB (by kernel_rfl)
  · intro RR hRR
    refine w_boxc (HV.eq (by constructor)) (by exact trivial) ?_
    refine w_alloc kn32 rfl zr32 ?_
    exact hRR
  apply sr tokTB (by kernel_rfl)
  · intro RR hRR
    refine w_alloc kn32 rfl zr32 ?_
    exact hRR
  refine snd_seq ?_
  apply sr tokTB (by kernel_rfl)
  · intro RR hRR
    refine w_assign (by constructor) ?_
    exact hRR
  refine snd_block ?_
  refine snd_loop (S := Nat) (fun i => ([(1, .cptr (vecA v)), (2, .ptr 2 0 [] 0 (vecA (fun _ => 0))), (3, .ptr 3 0 [] 0 (vecA (fun _ => 0))), (4, .int .i64 (i : Int))], [(2, .one (vecA (fun _ => 0)) (vecA (fun _ => 0))), (3, .one (vecA (fun _ => 0)) (vecA (cutG 0 v i)))])) (fun i => i ≤ 6) (fun i => 6 - i) (0) ρ0 ?_ ?_ ?_
  · exact ⟨⟨(by exact m_cvec (fun _ _ => rfl)), ⟨rfl, rfl, rfl, rfl, rfl⟩, ⟨rfl, rfl, rfl, rfl, rfl⟩, (mi), trivial⟩, ⟨⟨rfl, (sx), (by exact mt_vec (fun _ _ => rfl))⟩, ⟨rfl, (sx), (by exact mt_vec (fun _ _ => rfl))⟩, trivial⟩, ⟨⟨(fun h => by first | exact ⟨rfl, rfl⟩ | exact absurd h (by decide)), (fun h => by first | exact ⟨rfl, rfl⟩ | exact absurd h (by decide)), trivial⟩, ⟨(fun h => by first | exact ⟨rfl, rfl⟩ | exact absurd h (by decide)), (fun h => by first | exact ⟨rfl, rfl⟩ | exact absurd h (by decide)), trivial⟩, trivial⟩⟩
  · exact Nat.zero_le _
  intro i hi0
  refine sq (env2 := [(1, .cptr (vecA v)), (2, .ptr 2 0 [] 0 (vecA (fun _ => 0))), (3, .ptr 3 0 [] 0 (vecA (fun _ => 0))), (4, .int .i64 (i : Int))]) (ol2 := [(2, .one (vecA (fun _ => 0)) (vecA (fun _ => 0))), (3, .one (vecA (fun _ => 0)) (vecA (cutG 0 v i)))]) rfl rfl ?_
  refine snd_seq ?_
  apply sr tokTB (by kernel_rfl)
  · intro RR hRR
    refine w_move (by constructor) ?_
    refine w_lss rfl rfl ?_
    exact hRR
  refine snd_cond _ rfl (fun hc6 => ?_) (fun hc6 => ?_)
  · try simp only [hcs] at hc6
    refine snd_skip ?_
    refine snd_seq ?_
    refine snd_block ?_
    apply lr tokTB (by kernel_rfl)
    · intro RR hRR
      refine w_move (by constructor) ?_
      refine w_move (by constructor) ?_
      refine w_iac rfl rfl und22 kn5 (by exact sz5.symm) ?_ rfl ?_
      · exact ⟨by omega, by omega⟩
      first | refine w_ldc rfl kn5 (by constructor) (by exact sz5.symm) (by exact ag5.symm) ?_ | refine w_ldp rfl kn5 rfl (by constructor) (by exact sz5.symm) (by exact ag5.symm) ?_
      refine w_iap rfl rfl und32 kn5 rfl (by exact sz5.symm) rfl ?_ ?_
      · exact ⟨by omega, by omega⟩
      first | refine w_stw rfl (by constructor) kn5 rfl (by exact trivial) (sx) (by exact sz5.symm) ?_ | refine w_sti rfl rfl kn5 rfl (by exact trivial) (by exact sz5.symm) ?_ | refine w_store rfl (HV.eq (by constructor)) kn5 rfl (by exact trivial) (sx) (by exact sz5.symm) (put_in (by first | exact put_mat | exact put_tab | exact put_alg0 | exact put_pr0 | exact put_pr1 | exact put_pr2 | exact put_alg1 | exact put_alg2 | exact put_alg3 | exact put_alg3i | exact put_alg2ij | exact put_alg2ijk | exact put_mat2 | exact put_tab2 | exact put_tab3)) ?_ | refine w_store rfl (HV.eq (by constructor)) kn5 rfl (by exact trivial) (by exact trivial) (by exact sz5.symm) rfl ?_
      exact hRR
    apply lr tokTB (by kernel_rfl)
    · intro RR hRR
      refine w_move (by constructor) ?_
      refine y_add rfl rfl ?_
      refine w_assign (by constructor) ?_
      exact hRR
    refine ⟨i + 1, ρ0, ?_, (by omega), (by dsimp only; omega)⟩
    exact ⟨⟨(by exact m_cvec (fun _ _ => rfl)), ⟨rfl, rfl, rfl, rfl, rfl⟩, ⟨rfl, rfl, rfl, rfl, rfl⟩, (mi), trivial⟩, ⟨⟨rfl, (sx), (by exact mt_vec (fun _ _ => rfl))⟩, ⟨rfl, (sx), (by exact mt_vec (fun z _ => upd_cutG _ _ i z))⟩, trivial⟩, ⟨⟨(fun h => by first | exact ⟨rfl, rfl⟩ | exact absurd h (by decide)), (fun h => by first | exact ⟨rfl, rfl⟩ | exact absurd h (by decide)), trivial⟩, ⟨(fun h => by first | exact ⟨rfl, rfl⟩ | exact absurd h (by decide)), (fun h => by first | exact ⟨rfl, rfl⟩ | exact absurd h (by decide)), trivial⟩, trivial⟩⟩
  · try simp only [hcs] at hc6
    have hi6 : i = 6 := by omega
    subst hi6
    refine snd_exit ?_
    apply sr tokTB (by kernel_rfl)
    · intro RR hRR
      refine w_ldp rfl kn32 rfl (by constructor) (by exact sz32.symm) (by exact ag32.symm) ?_
      refine w_stw rfl (by constructor) kn32 rfl (by exact trivial) (sx) (by exact sz32.symm) ?_
      exact hRR
    refine snd_ret ?_
    exact rt_c (T := TB) rfl kn32 rfl sz32.symm ag32.symm (fun V => m_vec (fun j hj => by simp [cutG, hj]))
theorem c_toByteA6A6 {M : Nat → Nat → Int} : ACalls Try.prog TB 93 [matA M] (matA M) [] := by
  refine acalls_of tokTB Try.func93 rfl rfl (Nat.le_of_ble_eq_true rfl) ?_
  apply sr tokTB (by kernel_rfl)
  · intro RR hRR
    refine w_boxc (HV.eq (by constructor)) (by exact trivial) ?_
    refine w_alloc kn23 rfl zr23 ?_
    exact hRR
  apply sr tokTB (by kernel_rfl)
  · intro RR hRR
    refine w_alloc kn23 rfl zr23 ?_
    exact hRR
  refine snd_seq ?_
  apply sr tokTB (by kernel_rfl)
  · intro RR hRR
    refine w_assign (by constructor) ?_
    exact hRR
  refine snd_block ?_
  refine snd_loop (S := Nat) (fun i => ([(1, .cptr (matA M)), (2, .ptr 2 0 [] 0 (matA (fun _ _ => 0))), (3, .ptr 3 0 [] 0 (matA (fun _ _ => 0))), (4, .int .i64 (i : Int))], [(2, .one (matA (fun _ _ => 0)) (matA (fun _ _ => 0))), (3, .one (matA (fun _ _ => 0)) (matA (cutG (fun _ => 0) M i)))])) (fun i => i ≤ 6) (fun i => 6 - i) (0) ρ0 ?_ ?_ ?_
  · exact ⟨⟨(by exact mt_mat (V := _) (fun _ _ _ _ => rfl)), ⟨rfl, rfl, rfl, rfl, rfl⟩, ⟨rfl, rfl, rfl, rfl, rfl⟩, (mi), trivial⟩, ⟨⟨rfl, (sx), (by exact mt_mat (fun _ _ _ _ => rfl))⟩, ⟨rfl, (sx), (by exact mt_mat (fun _ _ _ _ => rfl))⟩, trivial⟩, ⟨⟨(fun h => by first | exact ⟨rfl, rfl⟩ | exact absurd h (by decide)), (fun h => by first | exact ⟨rfl, rfl⟩ | exact absurd h (by decide)), trivial⟩, ⟨(fun h => by first | exact ⟨rfl, rfl⟩ | exact absurd h (by decide)), (fun h => by first | exact ⟨rfl, rfl⟩ | exact absurd h (by decide)), trivial⟩, trivial⟩⟩
  · exact Nat.zero_le _
  intro i hi0
  refine sq (env2 := [(1, .cptr (matA M)), (2, .ptr 2 0 [] 0 (matA (fun _ _ => 0))), (3, .ptr 3 0 [] 0 (matA (fun _ _ => 0))), (4, .int .i64 (i : Int))]) (ol2 := [(2, .one (matA (fun _ _ => 0)) (matA (fun _ _ => 0))), (3, .one (matA (fun _ _ => 0)) (matA (cutG (fun _ => 0) M i)))]) rfl rfl ?_
  refine snd_seq ?_
  apply sr tokTB (by kernel_rfl)
  · intro RR hRR
    refine w_move (by constructor) ?_
    refine w_lss rfl rfl ?_
    exact hRR
  refine snd_cond _ rfl (fun hc6 => ?_) (fun hc6 => ?_)
  · try simp only [hcs] at hc6
    refine snd_skip ?_
    refine snd_seq ?_
    refine snd_block ?_
    apply lr tokTB (by kernel_rfl)
    · intro RR hRR
      refine w_move (by constructor) ?_
      refine w_move (by constructor) ?_
      refine w_iac rfl rfl und23 kn22 (by exact sz22.symm) ?_ rfl ?_
      · exact ⟨by omega, by omega⟩
      refine w_ldc rfl kn22 (by constructor) (by exact sz22.symm) (by exact ag22.symm) ?_
      refine y_call rfl (ec exn) (c_toByteA6) ?_
      refine w_iap rfl rfl und23 kn22 rfl (by exact sz22.symm) rfl ?_ ?_
      · exact ⟨by omega, by omega⟩
      first | refine w_stw rfl (by constructor) kn22 rfl (by exact trivial) (sx) (by exact sz22.symm) ?_ | refine w_sti rfl rfl kn22 rfl (by exact trivial) (by exact sz22.symm) ?_ | refine w_store rfl (HV.eq (by constructor)) kn22 rfl (by exact trivial) (sx) (by exact sz22.symm) (put_in (by first | exact put_mat | exact put_tab | exact put_alg0 | exact put_pr0 | exact put_pr1 | exact put_pr2 | exact put_alg1 | exact put_alg2 | exact put_alg3 | exact put_alg3i | exact put_alg2ij | exact put_alg2ijk | exact put_mat2 | exact put_tab2 | exact put_tab3)) ?_ | refine w_store rfl (HV.eq (by constructor)) kn22 rfl (by exact trivial) (by exact trivial) (by exact sz22.symm) rfl ?_
      exact hRR
    apply lr tokTB (by kernel_rfl)
    · intro RR hRR
      refine w_move (by constructor) ?_
      refine y_add rfl rfl ?_
      refine w_assign (by constructor) ?_
      exact hRR
    refine ⟨i + 1, ρ0, ?_, (by omega), (by dsimp only; omega)⟩
    exact ⟨⟨(by exact mt_mat (V := _) (fun _ _ _ _ => rfl)), ⟨rfl, rfl, rfl, rfl, rfl⟩, ⟨rfl, rfl, rfl, rfl, rfl⟩, (mi), trivial⟩, ⟨⟨rfl, (sx), (by exact mt_mat (fun _ _ _ _ => rfl))⟩, ⟨rfl, (sx), (by exact mt_mat (fun z w _ _ => congrFun (upd_cutG _ _ i z) w))⟩, trivial⟩, ⟨⟨(fun h => by first | exact ⟨rfl, rfl⟩ | exact absurd h (by decide)), (fun h => by first | exact ⟨rfl, rfl⟩ | exact absurd h (by decide)), trivial⟩, ⟨(fun h => by first | exact ⟨rfl, rfl⟩ | exact absurd h (by decide)), (fun h => by first | exact ⟨rfl, rfl⟩ | exact absurd h (by decide)), trivial⟩, trivial⟩⟩
  · try simp only [hcs] at hc6
    have hi6 : i = 6 := by omega
    subst hi6
    refine snd_exit ?_
    apply sr tokTB (by kernel_rfl)
    · intro RR hRR
      refine w_ldp rfl kn23 rfl (by constructor) (by exact sz23.symm) (by exact ag23.symm) ?_
      refine w_stw rfl (by constructor) kn23 rfl (by exact trivial) (sx) (by exact sz23.symm) ?_
      exact hRR
    refine snd_ret ?_
    exact rt_c (T := TB) rfl kn23 rfl sz23.symm ag23.symm (fun V => mt_mat (fun j k hj _ => by simp [cutG, hj]))
theorem c_toByteA6A6A6 {T : Nat → Nat → Nat → Int} : ACalls Try.prog TB 48 [tabA T] (tabA T) [] := by
  refine acalls_of tokTB Try.func48 rfl rfl (Nat.le_of_ble_eq_true rfl) ?_
  apply sr tokTB (by kernel_rfl)
  · intro RR hRR
    refine w_boxc (HV.eq (by constructor)) (by exact trivial) ?_
    refine w_alloc kn24 rfl zr24 ?_
    exact hRR
  apply sr tokTB (by kernel_rfl)
  · intro RR hRR
    refine w_alloc kn24 rfl zr24 ?_
    exact hRR
  refine snd_seq ?_
  apply sr tokTB (by kernel_rfl)
  · intro RR hRR
    refine w_assign (by constructor) ?_
    exact hRR
  refine snd_block ?_
  refine snd_loop (S := Nat) (fun i => ([(1, .cptr (tabA T)), (2, .ptr 2 0 [] 0 (tabA (fun _ _ _ => 0))), (3, .ptr 3 0 [] 0 (tabA (fun _ _ _ => 0))), (4, .int .i64 (i : Int))], [(2, .one (tabA (fun _ _ _ => 0)) (tabA (fun _ _ _ => 0))), (3, .one (tabA (fun _ _ _ => 0)) (tabA (cutG (fun _ _ => 0) T i)))])) (fun i => i ≤ 6) (fun i => 6 - i) (0) ρ0 ?_ ?_ ?_
  · exact ⟨⟨(by exact mt_tab (V := _) (fun _ _ _ _ _ _ => rfl)), ⟨rfl, rfl, rfl, rfl, rfl⟩, ⟨rfl, rfl, rfl, rfl, rfl⟩, (mi), trivial⟩, ⟨⟨rfl, (sx), (by exact mt_tab (fun _ _ _ _ _ _ => rfl))⟩, ⟨rfl, (sx), (by exact mt_tab (fun _ _ _ _ _ _ => rfl))⟩, trivial⟩, ⟨⟨(fun h => by first | exact ⟨rfl, rfl⟩ | exact absurd h (by decide)), (fun h => by first | exact ⟨rfl, rfl⟩ | exact absurd h (by decide)), trivial⟩, ⟨(fun h => by first | exact ⟨rfl, rfl⟩ | exact absurd h (by decide)), (fun h => by first | exact ⟨rfl, rfl⟩ | exact absurd h (by decide)), trivial⟩, trivial⟩⟩
  · exact Nat.zero_le _
  intro i hi0
  refine sq (env2 := [(1, .cptr (tabA T)), (2, .ptr 2 0 [] 0 (tabA (fun _ _ _ => 0))), (3, .ptr 3 0 [] 0 (tabA (fun _ _ _ => 0))), (4, .int .i64 (i : Int))]) (ol2 := [(2, .one (tabA (fun _ _ _ => 0)) (tabA (fun _ _ _ => 0))), (3, .one (tabA (fun _ _ _ => 0)) (tabA (cutG (fun _ _ => 0) T i)))]) rfl rfl ?_
  refine snd_seq ?_
  apply sr tokTB (by kernel_rfl)
  · intro RR hRR
    refine w_move (by constructor) ?_
    refine w_lss rfl rfl ?_
    exact hRR
  refine snd_cond _ rfl (fun hc6 => ?_) (fun hc6 => ?_)
  · try simp only [hcs] at hc6
    refine snd_skip ?_
    refine snd_seq ?_
    refine snd_block ?_
    apply lr tokTB (by kernel_rfl)
    · intro RR hRR
      refine w_move (by constructor) ?_
      refine w_move (by constructor) ?_
      refine w_iac rfl rfl und24 kn23 (by exact sz23.symm) ?_ rfl ?_
      · exact ⟨by omega, by omega⟩
      refine w_ldc rfl kn23 (by constructor) (by exact sz23.symm) (by exact ag23.symm) ?_
      refine y_call rfl (ec exn) (c_toByteA6A6) ?_
      refine w_iap rfl rfl und24 kn23 rfl (by exact sz23.symm) rfl ?_ ?_
      · exact ⟨by omega, by omega⟩
      first | refine w_stw rfl (by constructor) kn23 rfl (by exact trivial) (sx) (by exact sz23.symm) ?_ | refine w_sti rfl rfl kn23 rfl (by exact trivial) (by exact sz23.symm) ?_ | refine w_store rfl (HV.eq (by constructor)) kn23 rfl (by exact trivial) (sx) (by exact sz23.symm) (put_in (by first | exact put_mat | exact put_tab | exact put_alg0 | exact put_pr0 | exact put_pr1 | exact put_pr2 | exact put_alg1 | exact put_alg2 | exact put_alg3 | exact put_alg3i | exact put_alg2ij | exact put_alg2ijk | exact put_mat2 | exact put_tab2 | exact put_tab3)) ?_ | refine w_store rfl (HV.eq (by constructor)) kn23 rfl (by exact trivial) (by exact trivial) (by exact sz23.symm) rfl ?_
      exact hRR
    apply lr tokTB (by kernel_rfl)
    · intro RR hRR
      refine w_move (by constructor) ?_
      refine y_add rfl rfl ?_
      refine w_assign (by constructor) ?_
      exact hRR
    refine ⟨i + 1, ρ0, ?_, (by omega), (by dsimp only; omega)⟩
    exact ⟨⟨(by exact mt_tab (V := _) (fun _ _ _ _ _ _ => rfl)), ⟨rfl, rfl, rfl, rfl, rfl⟩, ⟨rfl, rfl, rfl, rfl, rfl⟩, (mi), trivial⟩, ⟨⟨rfl, (sx), (by exact mt_tab (fun _ _ _ _ _ _ => rfl))⟩, ⟨rfl, (sx), (by exact mt_tab (fun z w y _ _ _ => congrFun (congrFun (upd_cutG _ _ i z) w) y))⟩, trivial⟩, ⟨⟨(fun h => by first | exact ⟨rfl, rfl⟩ | exact absurd h (by decide)), (fun h => by first | exact ⟨rfl, rfl⟩ | exact absurd h (by decide)), trivial⟩, ⟨(fun h => by first | exact ⟨rfl, rfl⟩ | exact absurd h (by decide)), (fun h => by first | exact ⟨rfl, rfl⟩ | exact absurd h (by decide)), trivial⟩, trivial⟩⟩
  · try simp only [hcs] at hc6
    have hi6 : i = 6 := by omega
    subst hi6
    refine snd_exit ?_
    apply sr tokTB (by kernel_rfl)
    · intro RR hRR
      refine w_ldp rfl kn24 rfl (by constructor) (by exact sz24.symm) (by exact ag24.symm) ?_
      refine w_stw rfl (by constructor) kn24 rfl (by exact trivial) (sx) (by exact sz24.symm) ?_
      exact hRR
    refine snd_ret ?_
    exact rt_c (T := TB) rfl kn24 rfl sz24.symm ag24.symm (fun V => mt_tab (fun j k l hj _ _ => by simp [cutG, hj]))
theorem c_toAlgebra {p n : Int} {T : Nat → Nat → Nat → Int} {fo : Nat → Int} : ACalls Try.prog TB 15 [algA p n T fo] (algA p n T fo) [] := by
  refine acalls_of tokTB Try.func15 rfl rfl (Nat.le_of_ble_eq_true rfl) ?_
  apply sr tokTB (by kernel_rfl)
  · intro RR hRR
    refine w_boxc (HV.eq (by constructor)) (by exact trivial) ?_
    refine w_alloc kn34 rfl zr34 ?_
    exact hRR
  apply sr tokTB (by kernel_rfl)
  · intro RR hRR
    refine w_alloc kn34 rfl zr34 ?_
    exact hRR
  apply sr tokTB (by kernel_rfl)
  · intro RR hRR
    refine w_fac rfl und26 rfl kn2 nz2 (by decide) rfl (by constructor) ?_
    refine w_ldc rfl kn2 (by constructor) (by exact sz2.symm) (by exact ag2.symm) ?_
    refine w_fap rfl und34 rfl kn2 nz2 rfl (by decide) rfl ?_
    first | refine w_stw rfl (by constructor) kn2 rfl (by exact trivial) (sx) (by exact sz2.symm) ?_ | refine w_sti rfl rfl kn2 rfl (by exact trivial) (by exact sz2.symm) ?_ | refine w_store rfl (HV.eq (by constructor)) kn2 rfl (by exact trivial) (sx) (by exact sz2.symm) (put_in (by first | exact put_mat | exact put_tab | exact put_alg0 | exact put_pr0 | exact put_pr1 | exact put_pr2 | exact put_alg1 | exact put_alg2 | exact put_alg3 | exact put_alg3i | exact put_alg2ij | exact put_alg2ijk | exact put_mat2 | exact put_tab2 | exact put_tab3)) ?_ | refine w_store rfl (HV.eq (by constructor)) kn2 rfl (by exact trivial) (by exact trivial) (by exact sz2.symm) rfl ?_
    exact hRR
  apply sr tokTB (by kernel_rfl)
  · intro RR hRR
    refine w_fac rfl und26 rfl kn2 nz2 (by decide) rfl (by constructor) ?_
    refine w_ldc rfl kn2 (by constructor) (by exact sz2.symm) (by exact ag2.symm) ?_
    refine w_fap rfl und34 rfl kn2 nz2 rfl (by decide) rfl ?_
    first | refine w_stw rfl (by constructor) kn2 rfl (by exact trivial) (sx) (by exact sz2.symm) ?_ | refine w_sti rfl rfl kn2 rfl (by exact trivial) (by exact sz2.symm) ?_ | refine w_store rfl (HV.eq (by constructor)) kn2 rfl (by exact trivial) (sx) (by exact sz2.symm) (put_in (by first | exact put_mat | exact put_tab | exact put_alg0 | exact put_pr0 | exact put_pr1 | exact put_pr2 | exact put_alg1 | exact put_alg2 | exact put_alg3 | exact put_alg3i | exact put_alg2ij | exact put_alg2ijk | exact put_mat2 | exact put_tab2 | exact put_tab3)) ?_ | refine w_store rfl (HV.eq (by constructor)) kn2 rfl (by exact trivial) (by exact trivial) (by exact sz2.symm) rfl ?_
    exact hRR
  apply sr tokTB (by kernel_rfl)
  · intro RR hRR
    refine w_fac rfl und26 rfl kn24 nz24 (by decide) rfl (by constructor) ?_
    refine w_ldc rfl kn24 (by constructor) (by exact sz24.symm) (by exact ag24.symm) ?_
    refine y_call rfl (ec exn) (c_toByteA6A6A6) ?_
    refine w_fap rfl und34 rfl kn24 nz24 rfl (by decide) rfl ?_
    first | refine w_stw rfl (by constructor) kn24 rfl (by exact trivial) (sx) (by exact sz24.symm) ?_ | refine w_sti rfl rfl kn24 rfl (by exact trivial) (by exact sz24.symm) ?_ | refine w_store rfl (HV.eq (by constructor)) kn24 rfl (by exact trivial) (sx) (by exact sz24.symm) (put_in (by first | exact put_mat | exact put_tab | exact put_alg0 | exact put_pr0 | exact put_pr1 | exact put_pr2 | exact put_alg1 | exact put_alg2 | exact put_alg3 | exact put_alg3i | exact put_alg2ij | exact put_alg2ijk | exact put_mat2 | exact put_tab2 | exact put_tab3)) ?_ | refine w_store rfl (HV.eq (by constructor)) kn24 rfl (by exact trivial) (by exact trivial) (by exact sz24.symm) rfl ?_
    exact hRR
  apply sr tokTB (by kernel_rfl)
  · intro RR hRR
    refine w_fac rfl und26 rfl kn22 nz22 (by decide) rfl (by constructor) ?_
    refine w_ldc rfl kn22 (by constructor) (by exact sz22.symm) (by exact ag22.symm) ?_
    refine y_call rfl (ec exn) (c_toVector) ?_
    refine w_fap rfl und34 rfl kn32 nz32 rfl (by decide) rfl ?_
    first | refine w_stw rfl (by constructor) kn32 rfl (by exact trivial) (sx) (by exact sz32.symm) ?_ | refine w_sti rfl rfl kn32 rfl (by exact trivial) (by exact sz32.symm) ?_ | refine w_store rfl (HV.eq (by constructor)) kn32 rfl (by exact trivial) (sx) (by exact sz32.symm) (put_in (by first | exact put_mat | exact put_tab | exact put_alg0 | exact put_pr0 | exact put_pr1 | exact put_pr2 | exact put_alg1 | exact put_alg2 | exact put_alg3 | exact put_alg3i | exact put_alg2ij | exact put_alg2ijk | exact put_mat2 | exact put_tab2 | exact put_tab3)) ?_ | refine w_store rfl (HV.eq (by constructor)) kn32 rfl (by exact trivial) (by exact trivial) (by exact sz32.symm) rfl ?_
    exact hRR
  apply sr tokTB (by kernel_rfl)
  · intro RR hRR
    refine w_ldp rfl kn34 rfl (by constructor) (by exact sz34.symm) (by exact ag34.symm) ?_
    refine w_stw rfl (by constructor) kn34 rfl (by exact trivial) (sx) (by exact sz34.symm) ?_
    exact hRR
  refine snd_ret ?_
  exact rt_c (T := TB) rfl kn34 rfl sz34.symm ag34.symm (fun V => m_alg)
end Go.Am

set_option linter.unusedVariables false
set_option linter.unusedSimpArgs false
set_option maxRecDepth 4000
namespace Go.Am
attribute [local irreducible] retQ retQp
open Go.Proofs
theorem c_Index {m : Nat} {f : Nat → Int} {x : Int} (hm : m ≤ 1000000) : ACalls Try.prog TB 165 [.ro m (fun i => .int .i64 (f i)), .int .i64 x] (.int .i64 (idxF (fun i => decide (x = f i)) m)) [] := by
  refine acalls_of tokTB Try.func165 rfl rfl (Nat.le_of_ble_eq_true rfl) ?_
  apply sr tokTB (by kernel_rfl)
  · intro RR hRR
    refine w_assign (by constructor) ?_
    exact hRR
  refine snd_seq ?_
  apply sr tokTB (by kernel_rfl)
  · intro RR hRR
    refine w_move (by constructor) ?_
    refine w_len_r rfl rfl und27 ?_
    refine w_move (by constructor) ?_
    exact hRR
  refine snd_block ?_
  refine snd_loop (S := Nat) (fun i => ([(0, .ro m (fun i => .int .i64 (f i))), (1, .int .i64 x), (7, .int .i64 (m : Int)), (8, .int .i64 (i : Int))], [])) (fun i => i ≤ m ∧ ∀ j, j < i → decide (x = f j) = false) (fun i => m - i) (0) ρ0 ?_ ?_ ?_
  · exact ⟨⟨(by exact ⟨rfl, fun _ _ => rfl⟩), (mi), (mi), (mi), trivial⟩, trivial, trivial⟩
  · exact ⟨Nat.zero_le _, fun j hj => by omega⟩
  intro i hi0
  refine sq (env2 := [(0, .ro m (fun i => .int .i64 (f i))), (1, .int .i64 x), (7, .int .i64 (m : Int)), (8, .int .i64 (i : Int))]) (ol2 := []) rfl rfl ?_
  obtain ⟨hi1, hi2⟩ := hi0
  apply sr tokTB (by kernel_rfl)
  · intro RR hRR
    refine w_lss rfl rfl ?_
    exact hRR
  refine snd_seq ?_
  refine snd_cond _ rfl (fun hc9 => ?_) (fun hc9 => ?_)
  · try simp only [hcs] at hc9
    refine snd_skip ?_
    refine snd_seq ?_
    refine snd_block ?_
    apply sr tokTB (by kernel_rfl)
    · intro RR hRR
      refine w_move (by constructor) ?_
      refine w_assign (by constructor) ?_
      exact hRR
    apply sr tokTB (by kernel_rfl)
    · intro RR hRR
      refine w_move (by constructor) ?_
      refine w_move (by constructor) ?_
      refine w_move (by constructor) ?_
      refine w_iar rfl rfl und27 kn2 (by exact sz2.symm) ?_ rfl ?_
      · exact ⟨by omega, by omega⟩
      first | refine w_ldc rfl kn2 (by constructor) (by exact sz2.symm) (by exact ag2.symm) ?_ | refine w_ldp rfl kn2 rfl (by constructor) (by exact sz2.symm) (by exact ag2.symm) ?_
      refine w_eql rfl rfl ?_
      exact hRR
    refine snd_cond _ rfl (fun hc16 => ?_) (fun hc16 => ?_)
    · skip
      apply sr tokTB (by kernel_rfl)
      · intro RR hRR
        refine w_move (by constructor) ?_
        refine w_assign (by constructor) ?_
        exact hRR
      refine snd_ret ?_
      exact rt (T := TB) (fun V => m_int (idx_at (by omega) (by exact hc16) hi2).symm)
    · skip
      refine snd_skip ?_
      apply lr tokTB (by kernel_rfl)
      · intro RR hRR
        refine y_add rfl rfl ?_
        refine w_move (by constructor) ?_
        exact hRR
      refine ⟨i + 1, ρ0, ?_, ⟨by omega, all_step hi2 (by exact hc16)⟩, (by dsimp only; omega)⟩
      exact ⟨⟨(by exact ⟨rfl, fun _ _ => rfl⟩), (mi), (mi), (mi), trivial⟩, trivial, trivial⟩
  · try simp only [hcs] at hc9
    refine snd_exit ?_
    apply sr tokTB (by kernel_rfl)
    · intro RR hRR
      refine w_assign (by constructor) ?_
      exact hRR
    refine snd_ret ?_
    exact rt (T := TB) (fun V => m_int (idx_none (fun j hj => hi2 j (by omega))).symm)
theorem c_Contains {m : Nat} {f : Nat → Int} {x : Int} (hm : m ≤ 1000000) : ACalls Try.prog TB 151 [.ro m (fun i => .int .i64 (f i)), .int .i64 x] (.bool (decide (0 ≤ idxF (fun i => decide (x = f i)) m))) [] := by
  refine acalls_of tokTB Try.func151 rfl rfl (Nat.le_of_ble_eq_true rfl) ?_
  apply sr tokTB (by kernel_rfl)
  · intro RR hRR
    refine w_assign (by constructor) ?_
    exact hRR
  apply sr tokTB (by kernel_rfl)
  · intro RR hRR
    refine w_move (by constructor) ?_
    refine w_move (by constructor) ?_
    refine y_call rfl (ec (ec exn)) (c_Index (by omega)) ?_
    refine w_geq rfl rfl ?_
    refine w_assign (by constructor) ?_
    exact hRR
  refine snd_ret ?_
  exact rt (T := TB) (fun V => by first | exact m_bool rfl | exact m_int rfl)
theorem c_isPrime {p : Int} : ACalls Try.prog TB 130 [.int .i64 p] (.bool (primeB p)) [] := by
  refine acalls_of tokTB Try.func130 rfl rfl (Nat.le_of_ble_eq_true rfl) ?_
  apply sr tokTB (by kernel_rfl)
  · intro RR hRR
    refine w_assign (by constructor) ?_
    exact hRR
  apply sr tokTB (by kernel_rfl)
  · intro RR hRR
    refine w_bsl und27 kn2 (by rw [sz2]; rfl) rfl (by exact ⟨⟨by decide, trivial, sz2.symm⟩, ⟨by decide, trivial, sz2.symm⟩, ⟨by decide, trivial, sz2.symm⟩, ⟨by decide, trivial, sz2.symm⟩, ⟨by decide, trivial, sz2.symm⟩, ⟨by decide, trivial, sz2.symm⟩, trivial⟩) (by exact ⟨(sx), (sx), (sx), (sx), (sx), (sx), trivial⟩) rfl ?_
    refine w_move (by constructor) ?_
    refine y_call rfl (exc (by refine congrArg (AV.ro 6) (funext fun i => ?_); match i with | 0 => rfl | 1 => rfl | 2 => rfl | 3 => rfl | 4 => rfl | 5 => rfl | n + 6 => rfl) (exc (by exact rfl) exn)) (c_Contains (f := primesF) (by omega)) ?_
    refine w_assign (by constructor) ?_
    exact hRR
  refine snd_ret ?_
  exact rt (T := TB) (fun V => m_bool (prime_idx p))
theorem c_l01Prime {p : Int} : ACalls Try.prog TB 150 [.int .i64 p] (.bool (primeB p)) [] := by
  refine acalls_of tokTB Try.func150 rfl rfl (Nat.le_of_ble_eq_true rfl) ?_
  apply sr tokTB (by kernel_rfl)
  · intro RR hRR
    refine w_assign (by constructor) ?_
    exact hRR
  apply srG (env' := (2, .bool (decide (p = 2) || decide (p = 3) || decide (p = 5) || decide (p = 7) || decide (p = 11) || decide (p = 13))) :: (24, .bool (decide (p = 2) || decide (p = 3) || decide (p = 5) || decide (p = 7) || decide (p = 11) || decide (p = 13))) :: (23, .any) :: (22, .any) :: (21, .bool (decide (p = 2) || decide (p = 3) || decide (p = 5) || decide (p = 7) || decide (p = 11))) :: (20, .bool (decide (p = 2) || decide (p = 3) || decide (p = 5) || decide (p = 7) || decide (p = 11))) :: (19, .any) :: (18, .any) :: (17, .bool (decide (p = 2) || decide (p = 3) || decide (p = 5) || decide (p = 7))) :: (16, .bool (decide (p = 2) || decide (p = 3) || decide (p = 5) || decide (p = 7))) :: (15, .any) :: (14, .any) :: (13, .bool (decide (p = 2) || decide (p = 3) || decide (p = 5))) :: (12, .bool (decide (p = 2) || decide (p = 3) || decide (p = 5))) :: (11, .any) :: (10, .any) :: (9, .bool (decide (p = 2) || decide (p = 3))) :: (8, .bool (decide (p = 2) || decide (p = 3))) :: (7, .any) :: (6, .any) :: (5, _) :: (4, _) :: (3, _) :: _) tokTB (by kernel_rfl)
  · intro RR hRR
    refine w_move (by constructor) ?_
    refine w_eql rfl rfl ?_
    refine w_move (by constructor) ?_
    refine w_g rfl rfl (fun hg2 => ?_) (fun hg2 => ?_)
    · skip
      refine w_move (by constructor) ?_
      refine w_g_on rfl rfl hg2 ?_
      refine w_eql rfl rfl ?_
      refine w_pick_0 rfl hg2 (by constructor) ?_
      refine w_move (by constructor) ?_
      refine w_g rfl rfl (fun hg6 => ?_) (fun hg6 => ?_)
      · skip
        refine w_move (by constructor) ?_
        refine w_g_on rfl rfl hg6 ?_
        refine w_eql rfl rfl ?_
        refine w_pick_0 rfl hg6 (by constructor) ?_
        refine w_move (by constructor) ?_
        refine w_g rfl rfl (fun hg10 => ?_) (fun hg10 => ?_)
        · skip
          refine w_move (by constructor) ?_
          refine w_g_on rfl rfl hg10 ?_
          refine w_eql rfl rfl ?_
          refine w_pick_0 rfl hg10 (by constructor) ?_
          refine w_move (by constructor) ?_
          refine w_g rfl rfl (fun hg14 => ?_) (fun hg14 => ?_)
          · skip
            refine w_move (by constructor) ?_
            refine w_g_on rfl rfl hg14 ?_
            refine w_eql rfl rfl ?_
            refine w_pick_0 rfl hg14 (by constructor) ?_
            refine w_move (by constructor) ?_
            refine w_g rfl rfl (fun hg18 => ?_) (fun hg18 => ?_)
            · skip
              refine w_move (by constructor) ?_
              refine w_g_on rfl rfl hg18 ?_
              refine w_eql rfl rfl ?_
              refine w_pick_0 rfl hg18 (by constructor) ?_
              refine w_assign (by constructor) ?_
              try simp only [Int.toNat_natCast] at hg2 hg6 hg10 hg14 hg18
              exact hRR _ (EL.cons (.inr (by first | rfl | (simp only [hg2, hg6, hg10, hg14, hg18, els]; done) | (simp only [hg2, hg6, hg10, hg14, hg18, els]; rfl) | simp [hg2, hg6, hg10, hg14, hg18])) (EL.cons (.inr (by first | rfl | (simp only [hg2, hg6, hg10, hg14, hg18, els]; done) | (simp only [hg2, hg6, hg10, hg14, hg18, els]; rfl) | simp [hg2, hg6, hg10, hg14, hg18])) (EL.cons (.inl rfl) (EL.cons (.inl rfl) (EL.cons (.inr (by first | rfl | (simp only [hg2, hg6, hg10, hg14, hg18, els]; done) | (simp only [hg2, hg6, hg10, hg14, hg18, els]; rfl) | simp [hg2, hg6, hg10, hg14, hg18])) (EL.cons (.inr (by first | rfl | (simp only [hg2, hg6, hg10, hg14, hg18, els]; done) | (simp only [hg2, hg6, hg10, hg14, hg18, els]; rfl) | simp [hg2, hg6, hg10, hg14, hg18])) (EL.cons (.inl rfl) (EL.cons (.inl rfl) (EL.cons (.inr (by first | rfl | (simp only [hg2, hg6, hg10, hg14, hg18, els]; done) | (simp only [hg2, hg6, hg10, hg14, hg18, els]; rfl) | simp [hg2, hg6, hg10, hg14, hg18])) (EL.cons (.inr (by first | rfl | (simp only [hg2, hg6, hg10, hg14, hg18, els]; done) | (simp only [hg2, hg6, hg10, hg14, hg18, els]; rfl) | simp [hg2, hg6, hg10, hg14, hg18])) (EL.cons (.inl rfl) (EL.cons (.inl rfl) (EL.cons (.inr (by first | rfl | (simp only [hg2, hg6, hg10, hg14, hg18, els]; done) | (simp only [hg2, hg6, hg10, hg14, hg18, els]; rfl) | simp [hg2, hg6, hg10, hg14, hg18])) (EL.cons (.inr (by first | rfl | (simp only [hg2, hg6, hg10, hg14, hg18, els]; done) | (simp only [hg2, hg6, hg10, hg14, hg18, els]; rfl) | simp [hg2, hg6, hg10, hg14, hg18])) (EL.cons (.inl rfl) (EL.cons (.inl rfl) (EL.cons (.inr (by first | rfl | (simp only [hg2, hg6, hg10, hg14, hg18, els]; done) | (simp only [hg2, hg6, hg10, hg14, hg18, els]; rfl) | simp [hg2, hg6, hg10, hg14, hg18])) (EL.cons (.inr (by first | rfl | (simp only [hg2, hg6, hg10, hg14, hg18, els]; done) | (simp only [hg2, hg6, hg10, hg14, hg18, els]; rfl) | simp [hg2, hg6, hg10, hg14, hg18])) (EL.cons (.inl rfl) (EL.cons (.inl rfl) (EL.cons (.inr rfl) (EL.cons (.inr rfl) (EL.cons (.inr rfl) (EL.refl _))))))))))))))))))))))))
            · have hg18 := eq_true_of_ne_false hg18
              refine w_g_off rfl rfl (by rw [hg18]; decide) ?_
              refine w_pick_1 rfl hg18 (by constructor) ?_
              refine w_assign (by constructor) ?_
              try simp only [Int.toNat_natCast] at hg2 hg6 hg10 hg14 hg18
              exact hRR _ (EL.cons (.inr (by first | rfl | (simp only [hg2, hg6, hg10, hg14, hg18, els]; done) | (simp only [hg2, hg6, hg10, hg14, hg18, els]; rfl) | simp [hg2, hg6, hg10, hg14, hg18])) (EL.cons (.inr (by first | rfl | (simp only [hg2, hg6, hg10, hg14, hg18, els]; done) | (simp only [hg2, hg6, hg10, hg14, hg18, els]; rfl) | simp [hg2, hg6, hg10, hg14, hg18])) (EL.cons (.inl rfl) (EL.cons (.inl rfl) (EL.cons (.inr (by first | rfl | (simp only [hg2, hg6, hg10, hg14, hg18, els]; done) | (simp only [hg2, hg6, hg10, hg14, hg18, els]; rfl) | simp [hg2, hg6, hg10, hg14, hg18])) (EL.cons (.inr (by first | rfl | (simp only [hg2, hg6, hg10, hg14, hg18, els]; done) | (simp only [hg2, hg6, hg10, hg14, hg18, els]; rfl) | simp [hg2, hg6, hg10, hg14, hg18])) (EL.cons (.inl rfl) (EL.cons (.inl rfl) (EL.cons (.inr (by first | rfl | (simp only [hg2, hg6, hg10, hg14, hg18, els]; done) | (simp only [hg2, hg6, hg10, hg14, hg18, els]; rfl) | simp [hg2, hg6, hg10, hg14, hg18])) (EL.cons (.inr (by first | rfl | (simp only [hg2, hg6, hg10, hg14, hg18, els]; done) | (simp only [hg2, hg6, hg10, hg14, hg18, els]; rfl) | simp [hg2, hg6, hg10, hg14, hg18])) (EL.cons (.inl rfl) (EL.cons (.inl rfl) (EL.cons (.inr (by first | rfl | (simp only [hg2, hg6, hg10, hg14, hg18, els]; done) | (simp only [hg2, hg6, hg10, hg14, hg18, els]; rfl) | simp [hg2, hg6, hg10, hg14, hg18])) (EL.cons (.inr (by first | rfl | (simp only [hg2, hg6, hg10, hg14, hg18, els]; done) | (simp only [hg2, hg6, hg10, hg14, hg18, els]; rfl) | simp [hg2, hg6, hg10, hg14, hg18])) (EL.cons (.inl rfl) (EL.cons (.inl rfl) (EL.cons (.inr (by first | rfl | (simp only [hg2, hg6, hg10, hg14, hg18, els]; done) | (simp only [hg2, hg6, hg10, hg14, hg18, els]; rfl) | simp [hg2, hg6, hg10, hg14, hg18])) (EL.cons (.inr (by first | rfl | (simp only [hg2, hg6, hg10, hg14, hg18, els]; done) | (simp only [hg2, hg6, hg10, hg14, hg18, els]; rfl) | simp [hg2, hg6, hg10, hg14, hg18])) (EL.cons (.inl rfl) (EL.cons (.inl rfl) (EL.cons (.inr rfl) (EL.cons (.inr rfl) (EL.cons (.inr rfl) (EL.refl _))))))))))))))))))))))))
          · have hg14 := eq_true_of_ne_false hg14
            refine w_g_off rfl rfl (by rw [hg14]; decide) ?_
            refine w_pick_1 rfl hg14 (by constructor) ?_
            refine w_move (by constructor) ?_
            refine w_g_off rfl rfl (by decide) ?_
            refine w_g_off rfl rfl (by decide) ?_
            refine w_pick_1 rfl rfl (by constructor) ?_
            refine w_assign (by constructor) ?_
            try simp only [Int.toNat_natCast] at hg2 hg6 hg10 hg14
            exact hRR _ (EL.cons (.inr (by first | rfl | (simp only [hg2, hg6, hg10, hg14, els]; done) | (simp only [hg2, hg6, hg10, hg14, els]; rfl) | simp [hg2, hg6, hg10, hg14])) (EL.cons (.inr (by first | rfl | (simp only [hg2, hg6, hg10, hg14, els]; done) | (simp only [hg2, hg6, hg10, hg14, els]; rfl) | simp [hg2, hg6, hg10, hg14])) (EL.cons (.inl rfl) (EL.cons (.inl rfl) (EL.cons (.inr (by first | rfl | (simp only [hg2, hg6, hg10, hg14, els]; done) | (simp only [hg2, hg6, hg10, hg14, els]; rfl) | simp [hg2, hg6, hg10, hg14])) (EL.cons (.inr (by first | rfl | (simp only [hg2, hg6, hg10, hg14, els]; done) | (simp only [hg2, hg6, hg10, hg14, els]; rfl) | simp [hg2, hg6, hg10, hg14])) (EL.cons (.inl rfl) (EL.cons (.inl rfl) (EL.cons (.inr (by first | rfl | (simp only [hg2, hg6, hg10, hg14, els]; done) | (simp only [hg2, hg6, hg10, hg14, els]; rfl) | simp [hg2, hg6, hg10, hg14])) (EL.cons (.inr (by first | rfl | (simp only [hg2, hg6, hg10, hg14, els]; done) | (simp only [hg2, hg6, hg10, hg14, els]; rfl) | simp [hg2, hg6, hg10, hg14])) (EL.cons (.inl rfl) (EL.cons (.inl rfl) (EL.cons (.inr (by first | rfl | (simp only [hg2, hg6, hg10, hg14, els]; done) | (simp only [hg2, hg6, hg10, hg14, els]; rfl) | simp [hg2, hg6, hg10, hg14])) (EL.cons (.inr (by first | rfl | (simp only [hg2, hg6, hg10, hg14, els]; done) | (simp only [hg2, hg6, hg10, hg14, els]; rfl) | simp [hg2, hg6, hg10, hg14])) (EL.cons (.inl rfl) (EL.cons (.inl rfl) (EL.cons (.inr (by first | rfl | (simp only [hg2, hg6, hg10, hg14, els]; done) | (simp only [hg2, hg6, hg10, hg14, els]; rfl) | simp [hg2, hg6, hg10, hg14])) (EL.cons (.inr (by first | rfl | (simp only [hg2, hg6, hg10, hg14, els]; done) | (simp only [hg2, hg6, hg10, hg14, els]; rfl) | simp [hg2, hg6, hg10, hg14])) (EL.cons (.inl rfl) (EL.cons (.inl rfl) (EL.cons (.inr rfl) (EL.cons (.inr rfl) (EL.cons (.inr rfl) (EL.refl _))))))))))))))))))))))))
        · have hg10 := eq_true_of_ne_false hg10
          refine w_g_off rfl rfl (by rw [hg10]; decide) ?_
          refine w_pick_1 rfl hg10 (by constructor) ?_
          refine w_move (by constructor) ?_
          refine w_g_off rfl rfl (by decide) ?_
          refine w_g_off rfl rfl (by decide) ?_
          refine w_pick_1 rfl rfl (by constructor) ?_
          refine w_move (by constructor) ?_
          refine w_g_off rfl rfl (by decide) ?_
          refine w_g_off rfl rfl (by decide) ?_
          refine w_pick_1 rfl rfl (by constructor) ?_
          refine w_assign (by constructor) ?_
          try simp only [Int.toNat_natCast] at hg2 hg6 hg10
          exact hRR _ (EL.cons (.inr (by first | rfl | (simp only [hg2, hg6, hg10, els]; done) | (simp only [hg2, hg6, hg10, els]; rfl) | simp [hg2, hg6, hg10])) (EL.cons (.inr (by first | rfl | (simp only [hg2, hg6, hg10, els]; done) | (simp only [hg2, hg6, hg10, els]; rfl) | simp [hg2, hg6, hg10])) (EL.cons (.inl rfl) (EL.cons (.inl rfl) (EL.cons (.inr (by first | rfl | (simp only [hg2, hg6, hg10, els]; done) | (simp only [hg2, hg6, hg10, els]; rfl) | simp [hg2, hg6, hg10])) (EL.cons (.inr (by first | rfl | (simp only [hg2, hg6, hg10, els]; done) | (simp only [hg2, hg6, hg10, els]; rfl) | simp [hg2, hg6, hg10])) (EL.cons (.inl rfl) (EL.cons (.inl rfl) (EL.cons (.inr (by first | rfl | (simp only [hg2, hg6, hg10, els]; done) | (simp only [hg2, hg6, hg10, els]; rfl) | simp [hg2, hg6, hg10])) (EL.cons (.inr (by first | rfl | (simp only [hg2, hg6, hg10, els]; done) | (simp only [hg2, hg6, hg10, els]; rfl) | simp [hg2, hg6, hg10])) (EL.cons (.inl rfl) (EL.cons (.inl rfl) (EL.cons (.inr (by first | rfl | (simp only [hg2, hg6, hg10, els]; done) | (simp only [hg2, hg6, hg10, els]; rfl) | simp [hg2, hg6, hg10])) (EL.cons (.inr (by first | rfl | (simp only [hg2, hg6, hg10, els]; done) | (simp only [hg2, hg6, hg10, els]; rfl) | simp [hg2, hg6, hg10])) (EL.cons (.inl rfl) (EL.cons (.inl rfl) (EL.cons (.inr (by first | rfl | (simp only [hg2, hg6, hg10, els]; done) | (simp only [hg2, hg6, hg10, els]; rfl) | simp [hg2, hg6, hg10])) (EL.cons (.inr (by first | rfl | (simp only [hg2, hg6, hg10, els]; done) | (simp only [hg2, hg6, hg10, els]; rfl) | simp [hg2, hg6, hg10])) (EL.cons (.inl rfl) (EL.cons (.inl rfl) (EL.cons (.inr rfl) (EL.cons (.inr rfl) (EL.cons (.inr rfl) (EL.refl _))))))))))))))))))))))))
      · have hg6 := eq_true_of_ne_false hg6
        refine w_g_off rfl rfl (by rw [hg6]; decide) ?_
        refine w_pick_1 rfl hg6 (by constructor) ?_
        refine w_move (by constructor) ?_
        refine w_g_off rfl rfl (by decide) ?_
        refine w_g_off rfl rfl (by decide) ?_
        refine w_pick_1 rfl rfl (by constructor) ?_
        refine w_move (by constructor) ?_
        refine w_g_off rfl rfl (by decide) ?_
        refine w_g_off rfl rfl (by decide) ?_
        refine w_pick_1 rfl rfl (by constructor) ?_
        refine w_move (by constructor) ?_
        refine w_g_off rfl rfl (by decide) ?_
        refine w_g_off rfl rfl (by decide) ?_
        refine w_pick_1 rfl rfl (by constructor) ?_
        refine w_assign (by constructor) ?_
        try simp only [Int.toNat_natCast] at hg2 hg6
        exact hRR _ (EL.cons (.inr (by first | rfl | (simp only [hg2, hg6, els]; done) | (simp only [hg2, hg6, els]; rfl) | simp [hg2, hg6])) (EL.cons (.inr (by first | rfl | (simp only [hg2, hg6, els]; done) | (simp only [hg2, hg6, els]; rfl) | simp [hg2, hg6])) (EL.cons (.inl rfl) (EL.cons (.inl rfl) (EL.cons (.inr (by first | rfl | (simp only [hg2, hg6, els]; done) | (simp only [hg2, hg6, els]; rfl) | simp [hg2, hg6])) (EL.cons (.inr (by first | rfl | (simp only [hg2, hg6, els]; done) | (simp only [hg2, hg6, els]; rfl) | simp [hg2, hg6])) (EL.cons (.inl rfl) (EL.cons (.inl rfl) (EL.cons (.inr (by first | rfl | (simp only [hg2, hg6, els]; done) | (simp only [hg2, hg6, els]; rfl) | simp [hg2, hg6])) (EL.cons (.inr (by first | rfl | (simp only [hg2, hg6, els]; done) | (simp only [hg2, hg6, els]; rfl) | simp [hg2, hg6])) (EL.cons (.inl rfl) (EL.cons (.inl rfl) (EL.cons (.inr (by first | rfl | (simp only [hg2, hg6, els]; done) | (simp only [hg2, hg6, els]; rfl) | simp [hg2, hg6])) (EL.cons (.inr (by first | rfl | (simp only [hg2, hg6, els]; done) | (simp only [hg2, hg6, els]; rfl) | simp [hg2, hg6])) (EL.cons (.inl rfl) (EL.cons (.inl rfl) (EL.cons (.inr (by first | rfl | (simp only [hg2, hg6, els]; done) | (simp only [hg2, hg6, els]; rfl) | simp [hg2, hg6])) (EL.cons (.inr (by first | rfl | (simp only [hg2, hg6, els]; done) | (simp only [hg2, hg6, els]; rfl) | simp [hg2, hg6])) (EL.cons (.inl rfl) (EL.cons (.inl rfl) (EL.cons (.inr rfl) (EL.cons (.inr rfl) (EL.cons (.inr rfl) (EL.refl _))))))))))))))))))))))))
    · have hg2 := eq_true_of_ne_false hg2
      refine w_g_off rfl rfl (by rw [hg2]; decide) ?_
      refine w_pick_1 rfl hg2 (by constructor) ?_
      refine w_move (by constructor) ?_
      refine w_g_off rfl rfl (by decide) ?_
      refine w_g_off rfl rfl (by decide) ?_
      refine w_pick_1 rfl rfl (by constructor) ?_
      refine w_move (by constructor) ?_
      refine w_g_off rfl rfl (by decide) ?_
      refine w_g_off rfl rfl (by decide) ?_
      refine w_pick_1 rfl rfl (by constructor) ?_
      refine w_move (by constructor) ?_
      refine w_g_off rfl rfl (by decide) ?_
      refine w_g_off rfl rfl (by decide) ?_
      refine w_pick_1 rfl rfl (by constructor) ?_
      refine w_move (by constructor) ?_
      refine w_g_off rfl rfl (by decide) ?_
      refine w_g_off rfl rfl (by decide) ?_
      refine w_pick_1 rfl rfl (by constructor) ?_
      refine w_assign (by constructor) ?_
      try simp only [Int.toNat_natCast] at hg2
      exact hRR _ (EL.cons (.inr (by first | rfl | (simp only [hg2, els]; done) | (simp only [hg2, els]; rfl) | simp [hg2])) (EL.cons (.inr (by first | rfl | (simp only [hg2, els]; done) | (simp only [hg2, els]; rfl) | simp [hg2])) (EL.cons (.inl rfl) (EL.cons (.inl rfl) (EL.cons (.inr (by first | rfl | (simp only [hg2, els]; done) | (simp only [hg2, els]; rfl) | simp [hg2])) (EL.cons (.inr (by first | rfl | (simp only [hg2, els]; done) | (simp only [hg2, els]; rfl) | simp [hg2])) (EL.cons (.inl rfl) (EL.cons (.inl rfl) (EL.cons (.inr (by first | rfl | (simp only [hg2, els]; done) | (simp only [hg2, els]; rfl) | simp [hg2])) (EL.cons (.inr (by first | rfl | (simp only [hg2, els]; done) | (simp only [hg2, els]; rfl) | simp [hg2])) (EL.cons (.inl rfl) (EL.cons (.inl rfl) (EL.cons (.inr (by first | rfl | (simp only [hg2, els]; done) | (simp only [hg2, els]; rfl) | simp [hg2])) (EL.cons (.inr (by first | rfl | (simp only [hg2, els]; done) | (simp only [hg2, els]; rfl) | simp [hg2])) (EL.cons (.inl rfl) (EL.cons (.inl rfl) (EL.cons (.inr (by first | rfl | (simp only [hg2, els]; done) | (simp only [hg2, els]; rfl) | simp [hg2])) (EL.cons (.inr (by first | rfl | (simp only [hg2, els]; done) | (simp only [hg2, els]; rfl) | simp [hg2])) (EL.cons (.inl rfl) (EL.cons (.inl rfl) (EL.cons (.inr rfl) (EL.cons (.inr rfl) (EL.cons (.inr rfl) (EL.refl _))))))))))))))))))))))))
  refine snd_ret ?_
  exact rt (T := TB) (fun V => by first | exact m_bool rfl | exact m_int rfl)
end Go.Am

set_option linter.unusedVariables false
set_option linter.unusedSimpArgs false
set_option maxRecDepth 4000
namespace Go.Am
attribute [local irreducible] retQ retQp
open Go.Proofs
theorem c_tableOk {p n : Int} {T : Nat → Nat → Nat → Int} {fo : Nat → Int} (hT : B8T T) (hf : B8 fo) : ACalls Try.prog TB 131 [.cptr (algA p n T fo)] (.bool (decide (tabP p n T fo))) [] := by
  refine acalls_of tokTB Try.func131 rfl rfl (Nat.le_of_ble_eq_true rfl) ?_
  apply sr tokTB (by kernel_rfl)
  · intro RR hRR
    refine w_assign (by constructor) ?_
    exact hRR
  refine snd_seq ?_
  apply sr tokTB (by kernel_rfl)
  · intro RR hRR
    refine w_move (by constructor) ?_
    refine w_nilc rfl ?_
    refine w_fac rfl und34 rfl kn24 nz24 (by decide) rfl (by constructor) ?_
    refine w_ldc rfl kn24 (by constructor) (by exact sz24.symm) (by exact ag24.symm) ?_
    refine w_move (by constructor) ?_
    exact hRR
  refine snd_block ?_
  refine snd_loop (S := Nat) (fun i => ([(0, .cptr (algA p n T fo)), (10, tabA T), (11, .int .i64 (i : Int))], [])) (fun i => i ≤ 6 ∧ ∀ a, a < i → ∀ j, j < 6 → tabG p n T a j) (fun i => 6 - i) (0) ρ0 ?_ ?_ ?_
  · exact ⟨⟨m_calg, (by exact mt_tab (fun _ _ _ _ _ _ => rfl)), (mi), trivial⟩, trivial, trivial⟩
  · exact ⟨Nat.zero_le _, fun j hj => by omega⟩
  intro i hi0
  refine sq (env2 := [(0, .cptr (algA p n T fo)), (10, tabA T), (11, .int .i64 (i : Int))]) (ol2 := []) rfl rfl ?_
  obtain ⟨hi1, hi2⟩ := hi0
  apply sr tokTB (by kernel_rfl)
  · intro RR hRR
    refine w_lss rfl rfl ?_
    exact hRR
  refine snd_seq ?_
  refine snd_cond _ rfl (fun hc12 => ?_) (fun hc12 => ?_)
  · try simp only [hcs] at hc12
    refine snd_skip ?_
    refine snd_seq ?_
    refine snd_block ?_
    apply sr tokTB (by kernel_rfl)
    · intro RR hRR
      refine w_move (by constructor) ?_
      refine w_ixa rfl rfl und24 kn23 (by exact sz23.symm) ?_ (by constructor) (by exact ag23.symm) ?_
      · exact ⟨by omega, by omega⟩
      refine w_alloc kn23 rfl zr23 ?_
      refine w_assign (by constructor) ?_
      refine w_stw rfl (by constructor) kn23 rfl (by exact trivial) (sx) (by exact sz23.symm) ?_
      exact hRR
    apply sr tokTB (by kernel_rfl)
    · intro RR hRR
      refine w_ldp rfl kn23 rfl (by constructor) (by exact sz23.symm) (by exact ag23.symm) ?_
      refine w_move (by constructor) ?_
      exact hRR
    refine snd_block ?_
    refine snd_loop (S := Nat) (fun j => ([(0, .cptr (algA p n T fo)), (3, .int .i64 (i : Int)), (10, tabA T), (11, .int .i64 (i : Int)), (15, matA (T i)), (16, .int .i64 (j : Int))], [])) (fun j => j ≤ 6 ∧ ∀ b, b < j → tabG p n T i b) (fun j => 6 - j) (0) ρ0 ?_ ?_ ?_
    · exact ⟨⟨m_calg, (mi), (by exact mt_tab (fun _ _ _ _ _ _ => rfl)), (mi), (by exact mt_mat (fun _ _ _ _ => rfl)), (mi), trivial⟩, trivial, trivial⟩
    · exact ⟨Nat.zero_le _, fun j hj => by omega⟩
    intro j hi2
    refine sq (env2 := [(0, .cptr (algA p n T fo)), (3, .int .i64 (i : Int)), (10, tabA T), (11, .int .i64 (i : Int)), (15, matA (T i)), (16, .int .i64 (j : Int))]) (ol2 := []) rfl rfl ?_
    obtain ⟨hj1, hj2⟩ := hi2
    apply sr tokTB (by kernel_rfl)
    · intro RR hRR
      refine w_lss rfl rfl ?_
      exact hRR
    refine snd_seq ?_
    refine snd_cond _ rfl (fun hc17 => ?_) (fun hc17 => ?_)
    · try simp only [hcs] at hc17
      refine snd_skip ?_
      refine snd_seq ?_
      refine snd_block ?_
      apply sr tokTB (by kernel_rfl)
      · intro RR hRR
        refine w_move (by constructor) ?_
        refine w_ixa rfl rfl und23 kn22 (by exact sz22.symm) ?_ (by constructor) (by exact ag22.symm) ?_
        · exact ⟨by omega, by omega⟩
        refine w_alloc kn22 rfl zr22 ?_
        refine w_assign (by constructor) ?_
        refine w_stw rfl (by constructor) kn22 rfl (by exact trivial) (sx) (by exact sz22.symm) ?_
        exact hRR
      apply sdG (env' := (47, .bool (!(decide (smP p n (T i j))) || ((decide (n ≤ (i : Int)) || decide (n ≤ (j : Int))) && decide (¬ eqN 6 (T i j) (fun _ => 0))))) :: (46, .any) :: (45, .any) :: (44, .any) :: (43, .any) :: (42, .any) :: (41, .any) :: (40, .any) :: (39, .any) :: (38, .any) :: (37, .any) :: (36, .any) :: (35, .any) :: (34, .any) :: (33, .any) :: (32, .any) :: (31, _) :: (30, _) :: (29, _) :: (28, _) :: (27, _) :: (26, _) :: (25, _) :: (24, _) :: (23, _) :: (22, _) :: (21, _) :: (20, _) :: _) tokTB mixed (by kernel_rfl) (by kernel_rfl)
      · intro RR hRR
        refine w_ldp rfl kn22 rfl (by constructor) (by exact sz22.symm) (by exact ag22.symm) ?_
        refine w_move (by constructor) ?_
        first | refine w_nilc rfl ?_ | refine w_nilp rfl ?_ | refine w_nilf rfl ?_
        first | refine w_fac rfl und34 rfl kn2 nz2 (by decide) rfl (by constructor) ?_ | refine w_fap rfl und34 rfl kn2 nz2 rfl (by decide) rfl ?_
        first | refine w_ldc rfl kn2 (by constructor) (by exact sz2.symm) (by exact ag2.symm) ?_ | refine w_ldp rfl kn2 rfl (by constructor) (by exact sz2.symm) (by exact ag2.symm) ?_
        refine w_move (by constructor) ?_
        first | refine w_nilc rfl ?_ | refine w_nilp rfl ?_ | refine w_nilf rfl ?_
        first | refine w_fac rfl und34 rfl kn2 nz2 (by decide) rfl (by constructor) ?_ | refine w_fap rfl und34 rfl kn2 nz2 rfl (by decide) rfl ?_
        first | refine w_ldc rfl kn2 (by constructor) (by exact sz2.symm) (by exact ag2.symm) ?_ | refine w_ldp rfl kn2 rfl (by constructor) (by exact sz2.symm) (by exact ag2.symm) ?_
        refine y_call rfl (ec (ec (ec exn))) (c_isVector (v := T i j) (hT i j)) ?_
        refine w_not rfl ?_
        refine w_move (by constructor) ?_
        refine w_g rfl rfl (fun hg11 => ?_) (fun hg11 => ?_)
        · skip
          refine w_move (by constructor) ?_
          refine w_g_on rfl rfl hg11 ?_
          refine w_move (by constructor) ?_
          refine w_g_on rfl rfl hg11 ?_
          refine y_call rfl (ec exn) (c_n) ?_
          refine w_g_on rfl rfl hg11 ?_
          refine w_geq rfl rfl ?_
          refine w_g_on rfl rfl hg11 ?_
          refine w_move (by constructor) ?_
          refine w_g rfl rfl (fun hg16 => ?_) (fun hg16 => ?_)
          · skip
            refine w_move (by constructor) ?_
            refine w_g_on rfl rfl hg16 ?_
            refine w_move (by constructor) ?_
            refine w_g_on rfl rfl hg16 ?_
            refine y_call rfl (ec exn) (c_n) ?_
            refine w_g_on rfl rfl hg16 ?_
            refine w_geq rfl rfl ?_
            refine w_g_on rfl rfl hg11 ?_
            refine w_pick_0 rfl hg16 (by constructor) ?_
            refine w_g_on rfl rfl hg11 ?_
            refine w_move (by constructor) ?_
            refine w_g rfl rfl (fun hg22 => ?_) (fun hg22 => ?_)
            · skip
              refine w_ldp rfl kn22 rfl (by constructor) (by exact sz22.symm) (by exact ag22.symm) ?_
              refine w_g_on rfl rfl hg22 ?_
              refine w_bld_a kn22 zr22 und22 kn5 (fun _ => (by exact sz5.symm)) trivial rfl (by exact sz5.symm) ?_
              refine w_g_on rfl rfl hg22 ?_
              refine w_aneq rfl rfl und22 und5 ?_
              refine w_g_on rfl rfl hg11 ?_
              refine w_pick_1 rfl hg22 (by constructor) ?_
              refine w_pick_0 rfl hg11 (by constructor) ?_
              try simp only [Int.toNat_natCast] at hg11 hg16 hg22
              exact hRR _ (EL.cons (.inr (by first | rfl | (simp only [hg11, hg16, hg22, els]; done) | (simp only [hg11, hg16, hg22, els]; rfl) | simp [hg11, hg16, hg22])) (EL.cons (.inl rfl) (EL.cons (.inl rfl) (EL.cons (.inl rfl) (EL.cons (.inl rfl) (EL.cons (.inl rfl) (EL.cons (.inl rfl) (EL.cons (.inl rfl) (EL.cons (.inl rfl) (EL.cons (.inl rfl) (EL.cons (.inl rfl) (EL.cons (.inl rfl) (EL.cons (.inl rfl) (EL.cons (.inl rfl) (EL.cons (.inl rfl) (EL.cons (.inl rfl) (EL.cons (.inr rfl) (EL.cons (.inr rfl) (EL.cons (.inr rfl) (EL.cons (.inr rfl) (EL.cons (.inr rfl) (EL.cons (.inr rfl) (EL.cons (.inr rfl) (EL.cons (.inr rfl) (EL.cons (.inr rfl) (EL.cons (.inr rfl) (EL.cons (.inr rfl) (EL.cons (.inr rfl) (EL.refl _)))))))))))))))))))))))))))))
            · have hg22 := eq_false_of_ne_true hg22
              refine w_g_off rfl rfl (by rw [hg22]; decide) ?_
              refine w_g_off rfl rfl (by rw [hg22]; decide) ?_
              refine w_g_on rfl rfl hg11 ?_
              refine w_pick_0 rfl hg22 (by constructor) ?_
              refine w_pick_0 rfl hg11 (by constructor) ?_
              try simp only [Int.toNat_natCast] at hg11 hg16 hg22
              exact hRR _ (EL.cons (.inr (by first | rfl | (simp only [hg11, hg16, hg22, els]; done) | (simp only [hg11, hg16, hg22, els]; rfl) | simp [hg11, hg16, hg22])) (EL.cons (.inl rfl) (EL.cons (.inl rfl) (EL.cons (.inl rfl) (EL.cons (.inl rfl) (EL.cons (.inl rfl) (EL.cons (.inl rfl) (EL.cons (.inl rfl) (EL.cons (.inl rfl) (EL.cons (.inl rfl) (EL.cons (.inl rfl) (EL.cons (.inl rfl) (EL.cons (.inl rfl) (EL.cons (.inl rfl) (EL.cons (.inl rfl) (EL.cons (.inl rfl) (EL.cons (.inr rfl) (EL.cons (.inr rfl) (EL.cons (.inr rfl) (EL.cons (.inr rfl) (EL.cons (.inr rfl) (EL.cons (.inr rfl) (EL.cons (.inr rfl) (EL.cons (.inr rfl) (EL.cons (.inr rfl) (EL.cons (.inr rfl) (EL.cons (.inr rfl) (EL.cons (.inr rfl) (EL.refl _)))))))))))))))))))))))))))))
          · have hg16 := eq_true_of_ne_false hg16
            refine w_g_off rfl rfl (by rw [hg16]; decide) ?_
            refine w_g_off rfl rfl (by rw [hg16]; decide) ?_
            refine w_g_off rfl rfl (by rw [hg16]; decide) ?_
            refine w_g_on rfl rfl hg11 ?_
            refine w_pick_1 rfl hg16 (by constructor) ?_
            refine w_g_on rfl rfl hg11 ?_
            refine w_move (by constructor) ?_
            refine w_g_on rfl rfl rfl ?_
            refine w_ldp rfl kn22 rfl (by constructor) (by exact sz22.symm) (by exact ag22.symm) ?_
            refine w_g_on rfl rfl rfl ?_
            refine w_bld_a kn22 zr22 und22 kn5 (fun _ => (by exact sz5.symm)) trivial rfl (by exact sz5.symm) ?_
            refine w_g_on rfl rfl rfl ?_
            refine w_aneq rfl rfl und22 und5 ?_
            refine w_g_on rfl rfl hg11 ?_
            refine w_pick_1 rfl rfl (by constructor) ?_
            refine w_pick_0 rfl hg11 (by constructor) ?_
            try simp only [Int.toNat_natCast] at hg11 hg16
            exact hRR _ (EL.cons (.inr (by first | rfl | (simp only [hg11, hg16, els]; done) | (simp only [hg11, hg16, els]; rfl) | simp [hg11, hg16])) (EL.cons (.inl rfl) (EL.cons (.inl rfl) (EL.cons (.inl rfl) (EL.cons (.inl rfl) (EL.cons (.inl rfl) (EL.cons (.inl rfl) (EL.cons (.inl rfl) (EL.cons (.inl rfl) (EL.cons (.inl rfl) (EL.cons (.inl rfl) (EL.cons (.inl rfl) (EL.cons (.inl rfl) (EL.cons (.inl rfl) (EL.cons (.inl rfl) (EL.cons (.inl rfl) (EL.cons (.inr rfl) (EL.cons (.inr rfl) (EL.cons (.inr rfl) (EL.cons (.inr rfl) (EL.cons (.inr rfl) (EL.cons (.inr rfl) (EL.cons (.inr rfl) (EL.cons (.inr rfl) (EL.cons (.inr rfl) (EL.cons (.inr rfl) (EL.cons (.inr rfl) (EL.cons (.inr rfl) (EL.refl _)))))))))))))))))))))))))))))
        · have hg11 := eq_true_of_ne_false hg11
          refine w_g_off rfl rfl (by rw [hg11]; decide) ?_
          refine w_g_off rfl rfl (by rw [hg11]; decide) ?_
          refine w_g_off rfl rfl (by rw [hg11]; decide) ?_
          refine w_g_off rfl rfl (by rw [hg11]; decide) ?_
          refine w_g_und rfl rfl ?_
          refine w_g_und rfl rfl ?_
          refine w_g_und rfl rfl ?_
          refine w_g_und rfl rfl ?_
          refine w_g_off rfl rfl (by rw [hg11]; decide) ?_
          refine w_g_off rfl rfl (by rw [hg11]; decide) ?_
          refine w_g_und rfl rfl ?_
          refine w_g_und rfl rfl ?_
          refine w_g_und rfl rfl ?_
          refine w_g_off rfl rfl (by rw [hg11]; decide) ?_
          refine w_pick_1 rfl hg11 (by constructor) ?_
          try simp only [Int.toNat_natCast] at hg11
          exact hRR _ (EL.cons (.inr (by first | rfl | (simp only [hg11, els]; done) | (simp only [hg11, els]; rfl) | simp [hg11])) (EL.cons (.inl rfl) (EL.cons (.inl rfl) (EL.cons (.inl rfl) (EL.cons (.inl rfl) (EL.cons (.inl rfl) (EL.cons (.inl rfl) (EL.cons (.inl rfl) (EL.cons (.inl rfl) (EL.cons (.inl rfl) (EL.cons (.inl rfl) (EL.cons (.inl rfl) (EL.cons (.inl rfl) (EL.cons (.inl rfl) (EL.cons (.inl rfl) (EL.cons (.inl rfl) (EL.cons (.inr rfl) (EL.cons (.inr rfl) (EL.cons (.inr rfl) (EL.cons (.inr rfl) (EL.cons (.inr rfl) (EL.cons (.inr rfl) (EL.cons (.inr rfl) (EL.cons (.inr rfl) (EL.cons (.inr rfl) (EL.cons (.inr rfl) (EL.cons (.inr rfl) (EL.cons (.inr rfl) (EL.refl _)))))))))))))))))))))))))))))
      refine snd_cond _ rfl (fun hc47 => ?_) (fun hc47 => ?_)
      · skip
        apply sr tokTB (by kernel_rfl)
        · intro RR hRR
          refine w_assign (by constructor) ?_
          exact hRR
        refine snd_ret ?_
        exact rt (T := TB) (fun V => m_bool (by symm; rw [decide_eq_false_iff_not]; intro h; rw [tabG_iff.1 (h.1 i (by omega) j (by omega))] at hc47; cases hc47))
      · skip
        refine snd_skip ?_
        apply lr tokTB (by kernel_rfl)
        · intro RR hRR
          refine y_add rfl rfl ?_
          refine w_move (by constructor) ?_
          exact hRR
        refine ⟨j + 1, ρ0, ?_, ⟨by omega, all_step hj2 (tabG_iff.2 hc47)⟩, (by dsimp only; omega)⟩
        exact ⟨⟨m_calg, (mi), (by exact mt_tab (fun _ _ _ _ _ _ => rfl)), (mi), (by exact mt_mat (fun _ _ _ _ => rfl)), (mi), trivial⟩, trivial, trivial⟩
    · try simp only [hcs] at hc17
      refine snd_exit ?_
      apply lr tokTB (by kernel_rfl)
      · intro RR hRR
        refine y_add rfl rfl ?_
        refine w_move (by constructor) ?_
        exact hRR
      refine ⟨i + 1, ρ0, ?_, ⟨by omega, all_step hi2 (fun b hb => hj2 b (by omega))⟩, (by dsimp only; omega)⟩
      exact ⟨⟨m_calg, (by exact mt_tab (fun _ _ _ _ _ _ => rfl)), (mi), trivial⟩, trivial, trivial⟩
  · try simp only [hcs] at hc12
    refine snd_exit ?_
    apply sd tokTB mixed (by kernel_rfl) (by kernel_rfl)
    · intro RR hRR
      refine w_move (by constructor) ?_
      refine w_nilc rfl ?_
      refine w_fac rfl und34 rfl kn32 nz32 (by decide) rfl (by constructor) ?_
      refine w_ldc rfl kn32 (by constructor) (by exact sz32.symm) (by exact ag32.symm) ?_
      refine w_move (by constructor) ?_
      refine w_nilc rfl ?_
      refine w_fac rfl und34 rfl kn2 nz2 (by decide) rfl (by constructor) ?_
      refine w_ldc rfl kn2 (by constructor) (by exact sz2.symm) (by exact ag2.symm) ?_
      refine w_move (by constructor) ?_
      refine w_nilc rfl ?_
      refine w_fac rfl und34 rfl kn2 nz2 (by decide) rfl (by constructor) ?_
      refine w_ldc rfl kn2 (by constructor) (by exact sz2.symm) (by exact ag2.symm) ?_
      refine y_call rfl (ec (ec (ec exn))) (c_isVector hf) ?_
      refine w_assign (by constructor) ?_
      exact hRR
    refine snd_ret ?_
    exact rt (T := TB) (fun V => m_bool (tab_end (fun a ha b hb => hi2 a (by omega) b hb)))
theorem c_l01Shape {p n : Int} {T : Nat → Nat → Nat → Int} {fo : Nat → Int} (hT : B8T T) (hf : B8 fo) : ACalls Try.prog TB 128 [algA p n T fo] (.bool (decide (shapeP p n T fo))) [] := by
  refine acalls_of tokTB Try.func128 rfl rfl (Nat.le_of_ble_eq_true rfl) ?_
  apply sr tokTB (by kernel_rfl)
  · intro RR hRR
    refine w_boxc (HV.eq (by constructor)) (by exact trivial) ?_
    refine w_assign (by constructor) ?_
    exact hRR
  refine snd_seq ?_
  apply srG (env' := (25, .bool ((!(primeB p) || !(decide (1 ≤ n) && decide (n ≤ 6))) || !(decide (smP p n fo)))) :: (24, .any) :: (23, .any) :: (22, .any) :: (21, .any) :: (20, .any) :: (19, .any) :: (18, .any) :: (17, .any) :: (16, .bool (!(primeB p) || !(decide (1 ≤ n) && decide (n ≤ 6)))) :: (15, .bool (!(primeB p) || !(decide (1 ≤ n) && decide (n ≤ 6)))) :: (14, .any) :: (13, .any) :: (12, .any) :: (11, .any) :: (10, _) :: (9, _) :: (8, _) :: (7, _) :: (6, _) :: _) tokTB (by kernel_rfl)
  · intro RR hRR
    refine w_fac rfl und34 rfl kn2 nz2 (by decide) rfl (by constructor) ?_
    first | refine w_ldc rfl kn2 (by constructor) (by exact sz2.symm) (by exact ag2.symm) ?_ | refine w_ldp rfl kn2 rfl (by constructor) (by exact sz2.symm) (by exact ag2.symm) ?_
    refine y_call rfl (ec exn) (c_l01Prime) ?_
    refine w_not rfl ?_
    refine w_move (by constructor) ?_
    refine w_g rfl rfl (fun hg4 => ?_) (fun hg4 => ?_)
    · skip
      refine w_fac rfl und34 rfl kn2 nz2 (by decide) rfl (by constructor) ?_
      refine w_g_on rfl rfl hg4 ?_
      first | refine w_ldc rfl kn2 (by constructor) (by exact sz2.symm) (by exact ag2.symm) ?_ | refine w_ldp rfl kn2 rfl (by constructor) (by exact sz2.symm) (by exact ag2.symm) ?_
      refine w_g_on rfl rfl hg4 ?_
      refine y_call rfl (ec (ec (ec exn))) (c_l01In) ?_
      refine w_g_on rfl rfl hg4 ?_
      refine w_not rfl ?_
      refine w_pick_0 rfl hg4 (by constructor) ?_
      refine w_move (by constructor) ?_
      refine w_g rfl rfl (fun hg10 => ?_) (fun hg10 => ?_)
      · skip
        refine w_fac rfl und34 rfl kn2 nz2 (by decide) rfl (by constructor) ?_
        refine w_g_on rfl rfl hg10 ?_
        first | refine w_ldc rfl kn2 (by constructor) (by exact sz2.symm) (by exact ag2.symm) ?_ | refine w_ldp rfl kn2 rfl (by constructor) (by exact sz2.symm) (by exact ag2.symm) ?_
        refine w_g_on rfl rfl hg10 ?_
        refine w_fac rfl und34 rfl kn2 nz2 (by decide) rfl (by constructor) ?_
        refine w_g_on rfl rfl hg10 ?_
        first | refine w_ldc rfl kn2 (by constructor) (by exact sz2.symm) (by exact ag2.symm) ?_ | refine w_ldp rfl kn2 rfl (by constructor) (by exact sz2.symm) (by exact ag2.symm) ?_
        refine w_g_on rfl rfl hg10 ?_
        refine w_fac rfl und34 rfl kn32 nz32 (by decide) rfl (by constructor) ?_
        refine w_g_on rfl rfl hg10 ?_
        first | refine w_ldc rfl kn32 (by constructor) (by exact sz32.symm) (by exact ag32.symm) ?_ | refine w_ldp rfl kn32 rfl (by constructor) (by exact sz32.symm) (by exact ag32.symm) ?_
        refine w_g_on rfl rfl hg10 ?_
        refine y_call rfl (ec (ec (ec exn))) (c_l01Small hf) ?_
        refine w_g_on rfl rfl hg10 ?_
        refine w_not rfl ?_
        refine w_pick_0 rfl hg10 (by constructor) ?_
        try simp only [Int.toNat_natCast] at hg4 hg10
        exact hRR _ (EL.cons (.inr (by first | rfl | (simp only [hg4, hg10, els]; done) | (simp only [hg4, hg10, els]; rfl) | simp [hg4, hg10])) (EL.cons (.inl rfl) (EL.cons (.inl rfl) (EL.cons (.inl rfl) (EL.cons (.inl rfl) (EL.cons (.inl rfl) (EL.cons (.inl rfl) (EL.cons (.inl rfl) (EL.cons (.inl rfl) (EL.cons (.inr (by first | rfl | (simp only [hg4, hg10, els]; done) | (simp only [hg4, hg10, els]; rfl) | simp [hg4, hg10])) (EL.cons (.inr (by first | rfl | (simp only [hg4, hg10, els]; done) | (simp only [hg4, hg10, els]; rfl) | simp [hg4, hg10])) (EL.cons (.inl rfl) (EL.cons (.inl rfl) (EL.cons (.inl rfl) (EL.cons (.inl rfl) (EL.cons (.inr rfl) (EL.cons (.inr rfl) (EL.cons (.inr rfl) (EL.cons (.inr rfl) (EL.cons (.inr rfl) (EL.refl _)))))))))))))))))))))
      · have hg10 := eq_true_of_ne_false hg10
        refine w_g_off rfl rfl (by rw [hg10]; decide) ?_
        refine w_g_off rfl rfl (by rw [hg10]; decide) ?_
        refine w_g_off rfl rfl (by rw [hg10]; decide) ?_
        refine w_g_off rfl rfl (by rw [hg10]; decide) ?_
        refine w_g_off rfl rfl (by rw [hg10]; decide) ?_
        refine w_g_off rfl rfl (by rw [hg10]; decide) ?_
        refine w_g_off rfl rfl (by rw [hg10]; decide) ?_
        refine w_pick_1 rfl hg10 (by constructor) ?_
        try simp only [Int.toNat_natCast] at hg4 hg10
        exact hRR _ (EL.cons (.inr (by first | rfl | (simp only [hg4, hg10, els]; done) | (simp only [hg4, hg10, els]; rfl) | simp [hg4, hg10])) (EL.cons (.inl rfl) (EL.cons (.inl rfl) (EL.cons (.inl rfl) (EL.cons (.inl rfl) (EL.cons (.inl rfl) (EL.cons (.inl rfl) (EL.cons (.inl rfl) (EL.cons (.inl rfl) (EL.cons (.inr (by first | rfl | (simp only [hg4, hg10, els]; done) | (simp only [hg4, hg10, els]; rfl) | simp [hg4, hg10])) (EL.cons (.inr (by first | rfl | (simp only [hg4, hg10, els]; done) | (simp only [hg4, hg10, els]; rfl) | simp [hg4, hg10])) (EL.cons (.inl rfl) (EL.cons (.inl rfl) (EL.cons (.inl rfl) (EL.cons (.inl rfl) (EL.cons (.inr rfl) (EL.cons (.inr rfl) (EL.cons (.inr rfl) (EL.cons (.inr rfl) (EL.cons (.inr rfl) (EL.refl _)))))))))))))))))))))
    · have hg4 := eq_true_of_ne_false hg4
      refine w_g_off rfl rfl (by rw [hg4]; decide) ?_
      refine w_g_off rfl rfl (by rw [hg4]; decide) ?_
      refine w_g_off rfl rfl (by rw [hg4]; decide) ?_
      refine w_pick_1 rfl hg4 (by constructor) ?_
      refine w_move (by constructor) ?_
      refine w_g_off rfl rfl (by decide) ?_
      refine w_g_off rfl rfl (by decide) ?_
      refine w_g_off rfl rfl (by decide) ?_
      refine w_g_off rfl rfl (by decide) ?_
      refine w_g_off rfl rfl (by decide) ?_
      refine w_g_off rfl rfl (by decide) ?_
      refine w_g_off rfl rfl (by decide) ?_
      refine w_g_off rfl rfl (by decide) ?_
      refine w_pick_1 rfl rfl (by constructor) ?_
      try simp only [Int.toNat_natCast] at hg4
      exact hRR _ (EL.cons (.inr (by first | rfl | (simp only [hg4, els]; done) | (simp only [hg4, els]; rfl) | simp [hg4])) (EL.cons (.inl rfl) (EL.cons (.inl rfl) (EL.cons (.inl rfl) (EL.cons (.inl rfl) (EL.cons (.inl rfl) (EL.cons (.inl rfl) (EL.cons (.inl rfl) (EL.cons (.inl rfl) (EL.cons (.inr (by first | rfl | (simp only [hg4, els]; done) | (simp only [hg4, els]; rfl) | simp [hg4])) (EL.cons (.inr (by first | rfl | (simp only [hg4, els]; done) | (simp only [hg4, els]; rfl) | simp [hg4])) (EL.cons (.inl rfl) (EL.cons (.inl rfl) (EL.cons (.inl rfl) (EL.cons (.inl rfl) (EL.cons (.inr rfl) (EL.cons (.inr rfl) (EL.cons (.inr rfl) (EL.cons (.inr rfl) (EL.cons (.inr rfl) (EL.refl _)))))))))))))))))))))
  refine snd_cond _ rfl (fun hc25 => ?_) (fun hc25 => ?_)
  · skip
    apply sr tokTB (by kernel_rfl)
    · intro RR hRR
      refine w_assign (by constructor) ?_
      exact hRR
    refine snd_ret ?_
    exact rt (T := TB) (fun V => m_bool (by symm; rw [decide_eq_false_iff_not]; intro h; rw [h.1.1, decide_eq_true h.1.2.1.1, decide_eq_true h.1.2.1.2, decide_eq_true h.1.2.2] at hc25; cases hc25))
  · skip
    refine snd_skip ?_
    refine snd_seq ?_
    apply sr tokTB (by kernel_rfl)
    · intro RR hRR
      refine w_assign (by constructor) ?_
      exact hRR
    refine snd_block ?_
    refine snd_loop (S := Nat) (fun i => ([(1, .cptr (algA p n T fo)), (3, .int .i64 (i : Int))], [])) (fun i => i ≤ 6 ∧ ∀ a, a < i → ∀ j, j < 6 → smP p (sizeAt n a j) (T a j)) (fun i => 6 - i) (0) ρ0 ?_ ?_ ?_
    · exact ⟨⟨m_calg, (mi), trivial⟩, trivial, trivial⟩
    · exact ⟨Nat.zero_le _, fun j hj => by omega⟩
    intro i hi0
    refine sq (env2 := [(1, .cptr (algA p n T fo)), (3, .int .i64 (i : Int))]) (ol2 := []) rfl rfl ?_
    obtain ⟨hi1, hi2⟩ := hi0
    refine snd_seq ?_
    apply sr tokTB (by kernel_rfl)
    · intro RR hRR
      refine w_move (by constructor) ?_
      refine w_lss rfl rfl ?_
      exact hRR
    refine snd_cond _ rfl (fun hc27 => ?_) (fun hc27 => ?_)
    · try simp only [hcs] at hc27
      refine snd_skip ?_
      refine snd_seq ?_
      refine snd_block ?_
      apply sr tokTB (by kernel_rfl)
      · intro RR hRR
        refine w_assign (by constructor) ?_
        exact hRR
      refine snd_block ?_
      refine snd_loop (S := Nat) (fun j => ([(1, .cptr (algA p n T fo)), (3, .int .i64 (i : Int)), (4, .int .i64 (j : Int))], [])) (fun j => j ≤ 6 ∧ ∀ b, b < j → smP p (sizeAt n i b) (T i b)) (fun j => 6 - j) (0) ρ0 ?_ ?_ ?_
      · exact ⟨⟨m_calg, (mi), (mi), trivial⟩, trivial, trivial⟩
      · exact ⟨Nat.zero_le _, fun j hj => by omega⟩
      intro j hi2
      refine sq (env2 := [(1, .cptr (algA p n T fo)), (3, .int .i64 (i : Int)), (4, .int .i64 (j : Int))]) (ol2 := []) rfl rfl ?_
      obtain ⟨hj1, hj2⟩ := hi2
      refine snd_seq ?_
      apply sr tokTB (by kernel_rfl)
      · intro RR hRR
        refine w_move (by constructor) ?_
        refine w_lss rfl rfl ?_
        exact hRR
      refine snd_cond _ rfl (fun hc31 => ?_) (fun hc31 => ?_)
      · try simp only [hcs] at hc31
        refine snd_skip ?_
        refine snd_seq ?_
        refine snd_block ?_
        apply sr tokTB (by kernel_rfl)
        · intro RR hRR
          refine w_fac rfl und34 rfl kn2 nz2 (by decide) rfl (by constructor) ?_
          refine w_ldc rfl kn2 (by constructor) (by exact sz2.symm) (by exact ag2.symm) ?_
          refine w_assign (by constructor) ?_
          exact hRR
        refine snd_seq ?_
        apply srG (env' := (43, .bool (decide (n ≤ (i : Int)) || decide (n ≤ (j : Int)))) :: (42, .any) :: (41, .any) :: (40, .any) :: (39, _) :: (38, _) :: (37, _) :: (36, _) :: _) tokTB (by kernel_rfl)
        · intro RR hRR
          refine w_move (by constructor) ?_
          refine w_move (by constructor) ?_
          refine w_geq rfl rfl ?_
          refine w_move (by constructor) ?_
          refine w_g rfl rfl (fun hg3 => ?_) (fun hg3 => ?_)
          · skip
            refine w_move (by constructor) ?_
            refine w_g_on rfl rfl hg3 ?_
            refine w_move (by constructor) ?_
            refine w_g_on rfl rfl hg3 ?_
            refine w_geq rfl rfl ?_
            refine w_pick_0 rfl hg3 (by constructor) ?_
            try simp only [Int.toNat_natCast] at hg3
            exact hRR _ (EL.cons (.inr (by first | rfl | (simp only [hg3, els]; done) | (simp only [hg3, els]; rfl) | simp [hg3])) (EL.cons (.inl rfl) (EL.cons (.inl rfl) (EL.cons (.inl rfl) (EL.cons (.inr rfl) (EL.cons (.inr rfl) (EL.cons (.inr rfl) (EL.cons (.inr rfl) (EL.refl _)))))))))
          · have hg3 := eq_true_of_ne_false hg3
            refine w_g_off rfl rfl (by rw [hg3]; decide) ?_
            refine w_g_off rfl rfl (by rw [hg3]; decide) ?_
            refine w_pick_1 rfl hg3 (by constructor) ?_
            try simp only [Int.toNat_natCast] at hg3
            exact hRR _ (EL.cons (.inr (by first | rfl | (simp only [hg3, els]; done) | (simp only [hg3, els]; rfl) | simp [hg3])) (EL.cons (.inl rfl) (EL.cons (.inl rfl) (EL.cons (.inl rfl) (EL.cons (.inr rfl) (EL.cons (.inr rfl) (EL.cons (.inr rfl) (EL.cons (.inr rfl) (EL.refl _)))))))))
        refine snd_cond _ rfl (fun hc43 => ?_) (fun hc43 => ?_)
        · skip
          have hs : sizeAt n i j = 0 := if_pos (by simpa using hc43)
          apply lr tokTB (by kernel_rfl)
          · intro RR hRR
            refine w_assign (by constructor) ?_
            exact hRR
          apply sd tokTB mixed (by kernel_rfl) (by kernel_rfl)
          · intro RR hRR
            refine w_fac rfl und34 rfl kn2 nz2 (by decide) rfl (by constructor) ?_
            refine w_ldc rfl kn2 (by constructor) (by exact sz2.symm) (by exact ag2.symm) ?_
            refine w_move (by constructor) ?_
            refine w_move (by constructor) ?_
            refine w_move (by constructor) ?_
            refine w_fac rfl und34 rfl kn24 nz24 (by decide) rfl (by constructor) ?_
            refine w_iac rfl rfl und24 kn23 (by exact sz23.symm) ?_ rfl ?_
            · exact ⟨by omega, by omega⟩
            refine w_iac rfl rfl und23 kn22 (by exact sz22.symm) ?_ rfl ?_
            · exact ⟨by omega, by omega⟩
            refine w_ldc rfl kn22 (by constructor) (by exact sz22.symm) (by exact ag22.symm) ?_
            refine y_call rfl (ec (ec (ec exn))) (c_l01Small (v := T i j) (hT i j)) ?_
            refine w_not rfl ?_
            exact hRR
          refine snd_cond _ rfl (fun hc54 => ?_) (fun hc54 => ?_)
          · skip
            apply sr tokTB (by kernel_rfl)
            · intro RR hRR
              refine w_assign (by constructor) ?_
              exact hRR
            refine snd_ret ?_
            exact rt (T := TB) (fun V => m_bool (by symm; rw [decide_eq_false_iff_not]; intro h; have h2 := h.2 i (by omega) j (by omega); rw [hs] at h2; rw [decide_eq_true h2] at hc54; cases hc54))
          · skip
            refine snd_skip ?_
            apply lr tokTB (by kernel_rfl)
            · intro RR hRR
              refine w_move (by constructor) ?_
              refine y_add rfl rfl ?_
              refine w_assign (by constructor) ?_
              exact hRR
            refine ⟨j + 1, ρ0, ?_, ⟨by omega, all_step hj2 (by rw [hs]; exact of_decide_eq_true (by simpa only [Bool.not_eq_false'] using hc54))⟩, (by dsimp only; omega)⟩
            exact ⟨⟨m_calg, (mi), (mi), trivial⟩, trivial, trivial⟩
        · skip
          have hs : sizeAt n i j = n := if_neg (by simpa using hc43)
          refine snd_skip ?_
          apply sd tokTB mixed (by kernel_rfl) (by kernel_rfl)
          · intro RR hRR
            refine w_fac rfl und34 rfl kn2 nz2 (by decide) rfl (by constructor) ?_
            refine w_ldc rfl kn2 (by constructor) (by exact sz2.symm) (by exact ag2.symm) ?_
            refine w_move (by constructor) ?_
            refine w_move (by constructor) ?_
            refine w_move (by constructor) ?_
            refine w_fac rfl und34 rfl kn24 nz24 (by decide) rfl (by constructor) ?_
            refine w_iac rfl rfl und24 kn23 (by exact sz23.symm) ?_ rfl ?_
            · exact ⟨by omega, by omega⟩
            refine w_iac rfl rfl und23 kn22 (by exact sz22.symm) ?_ rfl ?_
            · exact ⟨by omega, by omega⟩
            refine w_ldc rfl kn22 (by constructor) (by exact sz22.symm) (by exact ag22.symm) ?_
            refine y_call rfl (ec (ec (ec exn))) (c_l01Small (v := T i j) (hT i j)) ?_
            refine w_not rfl ?_
            exact hRR
          refine snd_cond _ rfl (fun hc54 => ?_) (fun hc54 => ?_)
          · skip
            apply sr tokTB (by kernel_rfl)
            · intro RR hRR
              refine w_assign (by constructor) ?_
              exact hRR
            refine snd_ret ?_
            exact rt (T := TB) (fun V => m_bool (by symm; rw [decide_eq_false_iff_not]; intro h; have h2 := h.2 i (by omega) j (by omega); rw [hs] at h2; rw [decide_eq_true h2] at hc54; cases hc54))
          · skip
            refine snd_skip ?_
            apply lr tokTB (by kernel_rfl)
            · intro RR hRR
              refine w_move (by constructor) ?_
              refine y_add rfl rfl ?_
              refine w_assign (by constructor) ?_
              exact hRR
            refine ⟨j + 1, ρ0, ?_, ⟨by omega, all_step hj2 (by rw [hs]; exact of_decide_eq_true (by simpa only [Bool.not_eq_false'] using hc54))⟩, (by dsimp only; omega)⟩
            exact ⟨⟨m_calg, (mi), (mi), trivial⟩, trivial, trivial⟩
      · try simp only [hcs] at hc31
        refine snd_exit ?_
        apply lr tokTB (by kernel_rfl)
        · intro RR hRR
          refine w_move (by constructor) ?_
          refine y_add rfl rfl ?_
          refine w_assign (by constructor) ?_
          exact hRR
        refine ⟨i + 1, ρ0, ?_, ⟨by omega, all_step hi2 (fun b hb => hj2 b (by omega))⟩, (by dsimp only; omega)⟩
        exact ⟨⟨m_calg, (mi), trivial⟩, trivial, trivial⟩
    · try simp only [hcs] at hc27
      refine snd_exit ?_
      apply sr tokTB (by kernel_rfl)
      · intro RR hRR
        refine w_assign (by constructor) ?_
        exact hRR
      refine snd_ret ?_
      exact rt (T := TB) (fun V => m_bool (by symm; rw [decide_eq_true_eq]; simp only [Bool.or_eq_false_iff, Bool.not_eq_false', Bool.and_eq_true, decide_eq_true_eq] at hc25; exact ⟨⟨hc25.1.1, hc25.1.2, hc25.2⟩, fun a ha b hb => hi2 a (by omega) b hb⟩))
theorem c_associative {p : Int} {n : Nat} {T : Nat → Nat → Nat → Int} {fo : Nat → Int} (hp : 0 < p) (hp2 : p < 256) (hn : n ≤ 6) (hT : B8T T) : ACalls Try.prog TB 132 [.cptr (algA p (n : Int) T fo)] (.bool (decide (assocP p n T))) [] := by
  refine acalls_of tokTB Try.func132 rfl rfl (Nat.le_of_ble_eq_true rfl) ?_
  apply sr tokTB (by kernel_rfl)
  · intro RR hRR
    refine w_assign (by constructor) ?_
    exact hRR
  refine snd_seq ?_
  apply sr tokTB (by kernel_rfl)
  · intro RR hRR
    refine w_move (by constructor) ?_
    refine y_call rfl (ec exn) (c_n) ?_
    refine w_move (by constructor) ?_
    exact hRR
  refine snd_block ?_
  refine snd_loop (S := Nat) (fun i => ([(0, .cptr (algA p (n : Int) T fo)), (7, .int .i64 (n : Int)), (8, .int .i64 (i : Int))], [])) (fun i => i ≤ n ∧ ∀ a, a < i → ∀ j, j < n → ∀ k, k < n → assocG p n T a j k) (fun i => n - i) (0) ρ0 ?_ ?_ ?_
  · exact ⟨⟨m_calg, (mi), (mi), trivial⟩, trivial, trivial⟩
  · exact ⟨Nat.zero_le _, fun j hj => by omega⟩
  intro i hi0
  refine sq (env2 := [(0, .cptr (algA p (n : Int) T fo)), (7, .int .i64 (n : Int)), (8, .int .i64 (i : Int))]) (ol2 := []) rfl rfl ?_
  obtain ⟨hi1, hi2⟩ := hi0
  apply sr tokTB (by kernel_rfl)
  · intro RR hRR
    refine w_lss rfl rfl ?_
    exact hRR
  refine snd_seq ?_
  refine snd_cond _ rfl (fun hc9 => ?_) (fun hc9 => ?_)
  · try simp only [hcs] at hc9
    refine snd_skip ?_
    refine snd_seq ?_
    refine snd_block ?_
    apply sr tokTB (by kernel_rfl)
    · intro RR hRR
      refine w_move (by constructor) ?_
      refine w_assign (by constructor) ?_
      exact hRR
    apply sr tokTB (by kernel_rfl)
    · intro RR hRR
      refine w_move (by constructor) ?_
      refine y_call rfl (ec exn) (c_n) ?_
      refine w_move (by constructor) ?_
      exact hRR
    refine snd_block ?_
    refine snd_loop (S := Nat) (fun j => ([(0, .cptr (algA p (n : Int) T fo)), (3, .int .i64 (i : Int)), (7, .int .i64 (n : Int)), (8, .int .i64 (i : Int)), (12, .int .i64 (n : Int)), (13, .int .i64 (j : Int))], [])) (fun j => j ≤ n ∧ ∀ b, b < j → ∀ k, k < n → assocG p n T i b k) (fun j => n - j) (0) ρ0 ?_ ?_ ?_
    · exact ⟨⟨m_calg, (mi), (mi), (mi), (mi), (mi), trivial⟩, trivial, trivial⟩
    · exact ⟨Nat.zero_le _, fun j hj => by omega⟩
    intro j hi2
    refine sq (env2 := [(0, .cptr (algA p (n : Int) T fo)), (3, .int .i64 (i : Int)), (7, .int .i64 (n : Int)), (8, .int .i64 (i : Int)), (12, .int .i64 (n : Int)), (13, .int .i64 (j : Int))]) (ol2 := []) rfl rfl ?_
    obtain ⟨hj1, hj2⟩ := hi2
    apply sr tokTB (by kernel_rfl)
    · intro RR hRR
      refine w_lss rfl rfl ?_
      exact hRR
    refine snd_seq ?_
    refine snd_cond _ rfl (fun hc14 => ?_) (fun hc14 => ?_)
    · try simp only [hcs] at hc14
      refine snd_skip ?_
      refine snd_seq ?_
      refine snd_block ?_
      apply sr tokTB (by kernel_rfl)
      · intro RR hRR
        refine w_move (by constructor) ?_
        refine w_assign (by constructor) ?_
        exact hRR
      apply sr tokTB (by kernel_rfl)
      · intro RR hRR
        refine w_move (by constructor) ?_
        refine y_call rfl (ec exn) (c_n) ?_
        refine w_move (by constructor) ?_
        exact hRR
      refine snd_block ?_
      refine snd_loop (S := Nat) (fun k => ([(0, .cptr (algA p (n : Int) T fo)), (3, .int .i64 (i : Int)), (4, .int .i64 (j : Int)), (7, .int .i64 (n : Int)), (8, .int .i64 (i : Int)), (12, .int .i64 (n : Int)), (13, .int .i64 (j : Int)), (17, .int .i64 (n : Int)), (18, .int .i64 (k : Int))], [])) (fun k => k ≤ n ∧ ∀ c, c < k → assocG p n T i j c) (fun k => n - k) (0) ρ0 ?_ ?_ ?_
      · exact ⟨⟨m_calg, (mi), (mi), (mi), (mi), (mi), (mi), (mi), (mi), trivial⟩, trivial, trivial⟩
      · exact ⟨Nat.zero_le _, fun j hj => by omega⟩
      intro k hi4
      refine sq (env2 := [(0, .cptr (algA p (n : Int) T fo)), (3, .int .i64 (i : Int)), (4, .int .i64 (j : Int)), (7, .int .i64 (n : Int)), (8, .int .i64 (i : Int)), (12, .int .i64 (n : Int)), (13, .int .i64 (j : Int)), (17, .int .i64 (n : Int)), (18, .int .i64 (k : Int))]) (ol2 := []) rfl rfl ?_
      obtain ⟨hk1, hk2⟩ := hi4
      apply sr tokTB (by kernel_rfl)
      · intro RR hRR
        refine w_lss rfl rfl ?_
        exact hRR
      refine snd_seq ?_
      refine snd_cond _ rfl (fun hc19 => ?_) (fun hc19 => ?_)
      · try simp only [hcs] at hc19
        refine snd_skip ?_
        refine snd_seq ?_
        refine snd_block ?_
        apply sr tokTB (by kernel_rfl)
        · intro RR hRR
          refine w_move (by constructor) ?_
          refine w_assign (by constructor) ?_
          exact hRR
        apply sd tokTB mixed (by kernel_rfl) (by kernel_rfl)
        · intro RR hRR
          refine w_move (by constructor) ?_
          refine w_move (by constructor) ?_
          refine w_move (by constructor) ?_
          refine w_move (by constructor) ?_
          refine w_nilc rfl ?_
          refine w_fac rfl und34 rfl kn24 nz24 (by decide) rfl (by constructor) ?_
          refine w_iac rfl rfl und24 kn23 (by exact sz23.symm) ?_ rfl ?_
          · exact ⟨by omega, by omega⟩
          refine w_iac rfl rfl und23 kn22 (by exact sz22.symm) ?_ rfl ?_
          · exact ⟨by omega, by omega⟩
          refine w_ldc rfl kn22 (by constructor) (by exact sz22.symm) (by exact ag22.symm) ?_
          refine w_move (by constructor) ?_
          refine y_call rfl (ec exn) (c_basis (by omega)) ?_
          refine y_call rfl (ec (ec (ec exn))) (c_times (u := T i j) (v := eF k) hp hp2 hn hT (hT i j) (eF_B8 k)) ?_
          refine w_move (by constructor) ?_
          refine w_move (by constructor) ?_
          refine y_call rfl (ec exn) (c_basis (by omega)) ?_
          refine w_move (by constructor) ?_
          refine w_move (by constructor) ?_
          refine w_move (by constructor) ?_
          refine w_nilc rfl ?_
          refine w_fac rfl und34 rfl kn24 nz24 (by decide) rfl (by constructor) ?_
          refine w_iac rfl rfl und24 kn23 (by exact sz23.symm) ?_ rfl ?_
          · exact ⟨by omega, by omega⟩
          refine w_iac rfl rfl und23 kn22 (by exact sz22.symm) ?_ rfl ?_
          · exact ⟨by omega, by omega⟩
          refine w_ldc rfl kn22 (by constructor) (by exact sz22.symm) (by exact ag22.symm) ?_
          refine y_call rfl (ec (ec (ec exn))) (c_times (u := eF i) (v := T j k) hp hp2 hn hT (eF_B8 i) (hT j k)) ?_
          refine w_aneq rfl rfl und32 und5 ?_
          exact hRR
        refine snd_cond _ rfl (fun hc45 => ?_) (fun hc45 => ?_)
        · skip
          apply sr tokTB (by kernel_rfl)
          · intro RR hRR
            refine w_assign (by constructor) ?_
            exact hRR
          refine snd_ret ?_
          exact rt (T := TB) (fun V => m_bool (by symm; rw [decide_eq_false_iff_not]; intro h; exact of_decide_eq_true (p := ¬ eqN 6 _ _) hc45 (h i (by omega) j (by omega) k (by omega))))
        · skip
          refine snd_skip ?_
          apply lr tokTB (by kernel_rfl)
          · intro RR hRR
            refine y_add rfl rfl ?_
            refine w_move (by constructor) ?_
            exact hRR
          refine ⟨k + 1, ρ0, ?_, ⟨by omega, all_step hk2 (Classical.not_not.1 (of_decide_eq_false (p := ¬ eqN 6 _ _) hc45))⟩, (by dsimp only; omega)⟩
          exact ⟨⟨m_calg, (mi), (mi), (mi), (mi), (mi), (mi), (mi), (mi), trivial⟩, trivial, trivial⟩
      · try simp only [hcs] at hc19
        refine snd_exit ?_
        apply lr tokTB (by kernel_rfl)
        · intro RR hRR
          refine y_add rfl rfl ?_
          refine w_move (by constructor) ?_
          exact hRR
        refine ⟨j + 1, ρ0, ?_, ⟨by omega, all_step hj2 (fun b hb => hk2 b (by omega))⟩, (by dsimp only; omega)⟩
        exact ⟨⟨m_calg, (mi), (mi), (mi), (mi), (mi), trivial⟩, trivial, trivial⟩
    · try simp only [hcs] at hc14
      refine snd_exit ?_
      apply lr tokTB (by kernel_rfl)
      · intro RR hRR
        refine y_add rfl rfl ?_
        refine w_move (by constructor) ?_
        exact hRR
      refine ⟨i + 1, ρ0, ?_, ⟨by omega, all_step hi2 (fun b hb => hj2 b (by omega))⟩, (by dsimp only; omega)⟩
      exact ⟨⟨m_calg, (mi), (mi), trivial⟩, trivial, trivial⟩
  · try simp only [hcs] at hc9
    refine snd_exit ?_
    apply sr tokTB (by kernel_rfl)
    · intro RR hRR
      refine w_assign (by constructor) ?_
      exact hRR
    refine snd_ret ?_
    exact rt (T := TB) (fun V => m_bool (by symm; rw [decide_eq_true_eq]; exact fun a ha b hb c hc => hi2 a (by omega) b hb c hc))
end Go.Am

set_option linter.unusedVariables false
set_option linter.unusedSimpArgs false
set_option maxRecDepth 4000
namespace Go.Am
attribute [local irreducible] retQ retQp
open Go.Proofs
theorem c_l01Own {m : Nat} {f : Nat → Int} (h0 : 0 < m) (hm : m ≤ 1000000) : ACalls Try.prog TB 138 [rowA m f] (.own 0 0 m 2) (HR m f) := by
  refine acalls_of tokTB Try.func138 rfl rfl (Nat.le_of_ble_eq_true rfl) ?_
  apply sr tokTB (by kernel_rfl)
  · intro RR hRR
    refine w_assign (by constructor) ?_
    exact hRR
  apply sr tokTB (by kernel_rfl)
  · intro RR hRR
    refine w_bsl und27 kn2 (by rw [sz2]; rfl) rfl trivial trivial rfl ?_
    refine w_move (by constructor) ?_
    refine w_app_o und27 rfl rfl kn2 rfl rfl (fun C h => ⟨by omega, fun _ => trivial, h⟩) (by rw [by2]; omega) (by omega) rfl ?_
    refine w_assign (by constructor) ?_
    exact hRR
  refine snd_ret ?_
  show retQ TB _ _ _ _ _ _
  exact rt_own rfl rfl (by omega) (fun _ => trivial) (fun V i hi => by rw [appF_ge (Nat.zero_le _) (by omega)]; rfl)
theorem c_IndexFunc1 {m : Nat} {f : Nat → Int} {g nc : Nat} {caps : Nat → AV} {P : Nat → Bool} (hm : m ≤ 1000000) (hcaps : (AV.fn g nc caps).closed) (hf : ∀ i, i < m → ACalls Try.prog TB g (.int .i64 (f i) :: capL nc caps) (.bool (P i)) []) : ACalls Try.prog TB 168 [rowA m f, .fn g nc caps] (.int .i64 (idxF P m)) [] := by
  refine acalls_of tokTB Try.func168 rfl rfl (Nat.le_of_ble_eq_true rfl) ?_
  apply sr tokTB (by kernel_rfl)
  · intro RR hRR
    refine w_assign (by constructor) ?_
    exact hRR
  refine snd_seq ?_
  apply sr tokTB (by kernel_rfl)
  · intro RR hRR
    refine w_move (by constructor) ?_
    refine w_len_r rfl rfl und27 ?_
    refine w_move (by constructor) ?_
    exact hRR
  refine snd_block ?_
  refine snd_loop (S := Nat) (fun i => ([(0, rowA m f), (1, .fn g nc caps), (7, .int .i64 (m : Int)), (8, .int .i64 (i : Int))], [])) (fun i => i ≤ m ∧ ∀ j, j < i → P j = false) (fun i => m - i) (0) ρ0 ?_ ?_ ?_
  · exact ⟨⟨(by first | exact mt_row (V := _) (fun _ _ => rfl) | exact mt_fz (by exact trivial) rfl (fun _ _ => rfl)), (Mt_closed (V := _) (by assumption) (fun _ _ _ => trivial) (by simp)), (mi), (mi), trivial⟩, trivial, trivial⟩
  · exact ⟨Nat.zero_le _, fun j hj => by omega⟩
  intro i hi0
  refine sq (env2 := [(0, rowA m f), (1, .fn g nc caps), (7, .int .i64 (m : Int)), (8, .int .i64 (i : Int))]) (ol2 := []) rfl rfl ?_
  obtain ⟨hi1, hi2⟩ := hi0
  apply sr tokTB (by kernel_rfl)
  · intro RR hRR
    refine w_lss rfl rfl ?_
    exact hRR
  refine snd_seq ?_
  refine snd_cond _ rfl (fun hc9 => ?_) (fun hc9 => ?_)
  · try simp only [hcs] at hc9
    refine snd_skip ?_
    refine snd_seq ?_
    refine snd_block ?_
    apply sr tokTB (by kernel_rfl)
    · intro RR hRR
      refine w_move (by constructor) ?_
      refine w_assign (by constructor) ?_
      exact hRR
    apply sr tokTB (by kernel_rfl)
    · intro RR hRR
      refine w_move (by constructor) ?_
      refine w_move (by constructor) ?_
      refine w_move (by constructor) ?_
      refine w_iar rfl rfl und27 kn2 (by exact sz2.symm) ?_ rfl ?_
      · exact ⟨by omega, by omega⟩
      first | refine w_ldc rfl kn2 (by constructor) (by exact sz2.symm) (by exact ag2.symm) ?_ | refine w_ldp rfl kn2 rfl (by constructor) (by exact sz2.symm) (by exact ag2.symm) ?_
      refine y_call rfl (exc (by exact rfl) (exp_capL hcaps)) (hf i (by omega)) ?_
      exact hRR
    refine snd_cond _ rfl (fun hc16 => ?_) (fun hc16 => ?_)
    · skip
      apply sr tokTB (by kernel_rfl)
      · intro RR hRR
        refine w_move (by constructor) ?_
        refine w_assign (by constructor) ?_
        exact hRR
      refine snd_ret ?_
      exact rt (T := TB) (fun V => m_int (idx_at (by omega) (by exact hc16) hi2).symm)
    · skip
      refine snd_skip ?_
      apply lr tokTB (by kernel_rfl)
      · intro RR hRR
        refine y_add rfl rfl ?_
        refine w_move (by constructor) ?_
        exact hRR
      refine ⟨i + 1, ρ0, ?_, ⟨by omega, all_step hi2 (by exact hc16)⟩, (by dsimp only; omega)⟩
      exact ⟨⟨(by first | exact mt_row (V := _) (fun _ _ => rfl) | exact mt_fz (by exact trivial) rfl (fun _ _ => rfl)), (Mt_closed (V := _) (by assumption) (fun _ _ _ => trivial) (by simp)), (mi), (mi), trivial⟩, trivial, trivial⟩
  · try simp only [hcs] at hc9
    refine snd_exit ?_
    apply sr tokTB (by kernel_rfl)
    · intro RR hRR
      refine w_assign (by constructor) ?_
      exact hRR
    refine snd_ret ?_
    exact rt (T := TB) (fun V => m_int (idx_none (fun j hj => hi2 j (by omega))).symm)
theorem c_leader1 {x : Int} : ACalls Try.prog TB 169 [.int .i64 x] (.bool (decide (x ≠ 0))) [] := by
  refine acalls_of tokTB Try.func169 rfl rfl (Nat.le_of_ble_eq_true rfl) ?_
  apply sr tokTB (by kernel_rfl)
  · intro RR hRR
    refine w_assign (by constructor) ?_
    exact hRR
  apply sr tokTB (by kernel_rfl)
  · intro RR hRR
    refine w_move (by constructor) ?_
    refine w_neq rfl rfl ?_
    refine w_assign (by constructor) ?_
    exact hRR
  refine snd_ret ?_
  exact rt (T := TB) (fun V => by first | exact m_bool rfl | exact m_int rfl)
theorem c_leader {m : Nat} {f : Nat → Int} (hm : m ≤ 1000000) : ACalls Try.prog TB 166 [rowA m f] (.int .i64 (idxF (fun i => decide (f i ≠ 0)) m)) [] := by
  refine acalls_of tokTB Try.func166 rfl rfl (Nat.le_of_ble_eq_true rfl) ?_
  apply sr tokTB (by kernel_rfl)
  · intro RR hRR
    refine w_assign (by constructor) ?_
    exact hRR
  apply sr tokTB (by kernel_rfl)
  · intro RR hRR
    refine w_move (by constructor) ?_
    refine y_call rfl (ec (ec exn)) (c_IndexFunc1 (nc := 0) (caps := fun _ => .any) (P := fun i => decide (f i ≠ 0)) hm (fun _ => trivial) (fun i _ => c_leader1)) ?_
    refine w_assign (by constructor) ?_
    exact hRR
  refine snd_ret ?_
  exact rt (T := TB) (fun V => by first | exact m_bool rfl | exact m_int rfl)
theorem c_l01Lead {m : Nat} {f : Nat → Int} (hm : m ≤ 1000000) : ACalls Try.prog TB 139 [rowA m f] (.int .i64 (idxF (fun i => decide (f i ≠ 0)) m)) [] := by
  refine acalls_of tokTB Try.func139 rfl rfl (Nat.le_of_ble_eq_true rfl) ?_
  apply sr tokTB (by kernel_rfl)
  · intro RR hRR
    refine w_assign (by constructor) ?_
    exact hRR
  refine snd_seq ?_
  apply sr tokTB (by kernel_rfl)
  · intro RR hRR
    refine w_assign (by constructor) ?_
    exact hRR
  refine snd_block ?_
  refine snd_loop (S := Nat) (fun i => ([(0, rowA m f), (3, .int .i64 (i : Int))], [])) (fun i => i ≤ m ∧ ∀ j, j < i → decide (f j ≠ 0) = false) (fun i => m - i) (0) ρ0 ?_ ?_ ?_
  · exact ⟨⟨(by first | exact mt_row (V := _) (fun _ _ => rfl) | exact mt_fz (by exact trivial) rfl (fun _ _ => rfl)), (mi), trivial⟩, trivial, trivial⟩
  · exact ⟨Nat.zero_le _, fun j hj => by omega⟩
  intro i hi0
  refine sq (env2 := [(0, rowA m f), (3, .int .i64 (i : Int))]) (ol2 := []) rfl rfl ?_
  obtain ⟨hi1, hi2⟩ := hi0
  refine snd_seq ?_
  apply sr tokTB (by kernel_rfl)
  · intro RR hRR
    refine w_move (by constructor) ?_
    refine w_move (by constructor) ?_
    refine w_len_r rfl rfl und27 ?_
    refine w_lss rfl rfl ?_
    exact hRR
  refine snd_cond _ rfl (fun hc7 => ?_) (fun hc7 => ?_)
  · try simp only [hcs] at hc7
    refine snd_skip ?_
    refine snd_seq ?_
    refine snd_block ?_
    apply sr tokTB (by kernel_rfl)
    · intro RR hRR
      refine w_move (by constructor) ?_
      refine w_move (by constructor) ?_
      refine w_iar rfl rfl und27 kn2 (by exact sz2.symm) ?_ rfl ?_
      · exact ⟨by omega, by omega⟩
      first | refine w_ldc rfl kn2 (by constructor) (by exact sz2.symm) (by exact ag2.symm) ?_ | refine w_ldp rfl kn2 rfl (by constructor) (by exact sz2.symm) (by exact ag2.symm) ?_
      refine w_neq rfl rfl ?_
      exact hRR
    refine snd_cond _ rfl (fun hc14 => ?_) (fun hc14 => ?_)
    · skip
      apply sr tokTB (by kernel_rfl)
      · intro RR hRR
        refine w_move (by constructor) ?_
        refine w_assign (by constructor) ?_
        exact hRR
      refine snd_ret ?_
      exact rt (T := TB) (fun V => m_int (idx_at (by omega) (by exact hc14) hi2).symm)
    · skip
      refine snd_skip ?_
      apply lr tokTB (by kernel_rfl)
      · intro RR hRR
        refine w_move (by constructor) ?_
        refine y_add rfl rfl ?_
        refine w_assign (by constructor) ?_
        exact hRR
      refine ⟨i + 1, ρ0, ?_, ⟨by omega, all_step hi2 (by exact hc14)⟩, (by dsimp only; omega)⟩
      exact ⟨⟨(by first | exact mt_row (V := _) (fun _ _ => rfl) | exact mt_fz (by exact trivial) rfl (fun _ _ => rfl)), (mi), trivial⟩, trivial, trivial⟩
  · try simp only [hcs] at hc7
    refine snd_exit ?_
    apply sr tokTB (by kernel_rfl)
    · intro RR hRR
      refine w_assign (by constructor) ?_
      exact hRR
    refine snd_ret ?_
    exact rt (T := TB) (fun V => m_int (idx_none (fun j hj => hi2 j (by omega))).symm)
theorem c_l01Less {m : Nat} {f g : Nat → Int} {p k : Int} (hm : m ≤ 1000000) (hp : 0 < p) (hp2 : p ≤ 256) (hf : B8 f) (hg : B8 g) (hk : 0 ≤ k ∧ k < 256) : ACalls Try.prog TB 140 [.int .i64 p, rowA m f, rowA m g, .int .i64 k] (.own 0 0 m 2) (HR m (lessF p f g k)) := by
  refine acalls_of tokTB Try.func140 rfl rfl (Nat.le_of_ble_eq_true rfl) ?_
  apply sr tokTB (by kernel_rfl)
  · intro RR hRR
    refine w_assign (by constructor) ?_
    exact hRR
  apply sr tokTB (by kernel_rfl)
  · intro RR hRR
    refine w_bsl und27 kn2 (by rw [sz2]; rfl) rfl trivial trivial rfl ?_
    refine w_assign (by constructor) ?_
    exact hRR
  refine snd_seq ?_
  apply sr tokTB (by kernel_rfl)
  · intro RR hRR
    refine w_assign (by constructor) ?_
    exact hRR
  refine snd_block ?_
  refine snd_loop (S := Nat) (fun i => ([(0, .int .i64 p), (1, rowA m f), (2, rowA m g), (3, .int .i64 k), (9, .own 900 0 i 2), (10, .int .i64 (i : Int))], [(900, .one (Z64 i) (C64 i (lessF p f g k)))])) (fun i => i ≤ m) (fun i => m - i) (0) (fun k i => bif Nat.beq k 900 then (11, i) else (k, i)) ?_ ?_ ?_
  · exact ⟨⟨(mi), (by first | exact mt_row (V := _) (fun _ _ => rfl) | exact mt_fz (by exact ⟨(ne_fst rfl), trivial⟩) rfl (fun _ _ => rfl)), (by first | exact mt_row (V := _) (fun _ _ => rfl) | exact mt_fz (by exact ⟨(ne_fst rfl), trivial⟩) rfl (fun _ _ => rfl)), (mi), (by first | exact ⟨rfl, rfl, rfl, rfl⟩ | exact ⟨rfl, by omega, rfl, rfl⟩), (mi), trivial⟩, ⟨⟨rfl, (sx), (by exact mt_arr0)⟩, trivial⟩, ⟨⟨(fun h => by first | exact ⟨rfl, rfl⟩ | exact absurd h (by decide)), trivial⟩, trivial⟩⟩
  · exact Nat.zero_le _
  intro i hi0
  refine sq (env2 := [(0, .int .i64 p), (1, rowA m f), (2, rowA m g), (3, .int .i64 k), (9, .own 900 0 i 2), (10, .int .i64 (i : Int))]) (ol2 := [(900, .one (Z64 i) (C64 i (lessF p f g k)))]) rfl rfl ?_
  refine snd_seq ?_
  apply sr tokTB (by kernel_rfl)
  · intro RR hRR
    refine w_move (by constructor) ?_
    refine w_move (by constructor) ?_
    refine w_len_r rfl rfl und27 ?_
    refine w_lss rfl rfl ?_
    exact hRR
  refine snd_cond _ rfl (fun hc15 => ?_) (fun hc15 => ?_)
  · try simp only [hcs] at hc15
    refine snd_skip ?_
    refine snd_seq ?_
    refine snd_block ?_
    apply ld tokTB mixed (by kernel_rfl) (by kernel_rfl)
    · intro RR hRR
      refine w_move (by constructor) ?_
      refine w_move (by constructor) ?_
      refine w_move (by constructor) ?_
      refine w_move (by constructor) ?_
      refine w_iar rfl rfl und27 kn2 (by exact sz2.symm) ?_ rfl ?_
      · exact ⟨by omega, by omega⟩
      first | refine w_ldc rfl kn2 (by constructor) (by exact sz2.symm) (by exact ag2.symm) ?_ | refine w_ldp rfl kn2 rfl (by constructor) (by exact sz2.symm) (by exact ag2.symm) ?_
      refine w_move (by constructor) ?_
      refine w_move (by constructor) ?_
      refine w_move (by constructor) ?_
      refine w_iar rfl rfl und27 kn2 (by exact sz2.symm) ?_ rfl ?_
      · exact ⟨by omega, by omega⟩
      first | refine w_ldc rfl kn2 (by constructor) (by exact sz2.symm) (by exact ag2.symm) ?_ | refine w_ldp rfl kn2 rfl (by constructor) (by exact sz2.symm) (by exact ag2.symm) ?_
      refine w_mul rfl rfl (by exact w_kg hk hg i) ?_
      refine w_sub rfl rfl (by exact w_fkg hf hk hg i) ?_
      refine y_call rfl (ec (ec exn)) (c_l01Mod (by omega) (by omega)) ?_
      refine w_bsl1 und27 kn2 (by rw [sz2]; rfl) rfl (by constructor) (by first | exact trivial | exact cel_cap2) (by exact sz2.symm) (by first | exact trivial | exact ssh_vec | exact ⟨rfl, fun _ => trivial⟩) ?_
      refine w_app_o und27 rfl rfl kn2 rfl rfl (fun C h => ⟨rfl, rfl, rfl, h⟩) (by rw [by2]; omega) (by omega) rfl ?_
      refine w_assign (by constructor) ?_
      exact hRR
    apply lr tokTB (by kernel_rfl)
    · intro RR hRR
      refine w_move (by constructor) ?_
      refine y_add rfl rfl ?_
      refine w_assign (by constructor) ?_
      exact hRR
    refine ⟨i + 1, (fun k i => bif Nat.beq k 900 then (33, i) else (k, i)), ?_, (by omega), (by dsimp only; omega)⟩
    exact ⟨⟨(mi), (by first | exact mt_row (V := _) (fun _ _ => rfl) | exact mt_fz (by exact ⟨(ne_fst rfl), trivial⟩) rfl (fun _ _ => rfl)), (by first | exact mt_row (V := _) (fun _ _ => rfl) | exact mt_fz (by exact ⟨(ne_fst rfl), trivial⟩) rfl (fun _ _ => rfl)), (mi), (by first | exact ⟨rfl, rfl, rfl, rfl⟩ | exact ⟨rfl, by omega, rfl, rfl⟩), (mi), trivial⟩, ⟨⟨rfl, (sx), (by exact mt_app (fun _ _ => rfl) rfl)⟩, trivial⟩, ⟨⟨(fun h => by first | exact ⟨rfl, rfl⟩ | exact absurd h (by decide)), trivial⟩, trivial⟩⟩
  · try simp only [hcs] at hc15
    have him : m = i := by omega
    subst him
    refine snd_exit ?_
    apply sr tokTB (by kernel_rfl)
    · intro RR hRR
      refine w_move (by constructor) ?_
      refine w_assign (by constructor) ?_
      exact hRR
    refine snd_ret ?_
    show retQ TB _ _ _ _ _ _
    exact rt_own rfl rfl rfl (fun _ => trivial) (fun V i hi => rfl)
theorem c_lessTimes {m : Nat} {f g : Nat → Int} {p k : Int} (hm : m ≤ 1000000) (hp : 0 < p) (hp2 : p ≤ 256) (hf : B8 f) (hg : B8 g) (hk : 0 ≤ k ∧ k < 256) : ACalls Try.prog TB 163 [rowA m f, rowA m g, .int .i64 k, .int .i64 p] (.own 0 0 m 2) (HR m (lessF p f g k)) := by
  refine acalls_of tokTB Try.func163 rfl rfl (Nat.le_of_ble_eq_true rfl) ?_
  apply sr tokTB (by kernel_rfl)
  · intro RR hRR
    refine w_assign (by constructor) ?_
    exact hRR
  apply sr tokTB (by kernel_rfl)
  · intro RR hRR
    refine w_bsl und27 kn2 (by rw [sz2]; rfl) rfl trivial trivial rfl ?_
    refine w_assign (by constructor) ?_
    exact hRR
  refine snd_seq ?_
  apply sr tokTB (by kernel_rfl)
  · intro RR hRR
    refine w_move (by constructor) ?_
    refine w_len_r rfl rfl und27 ?_
    refine w_move (by constructor) ?_
    exact hRR
  refine snd_block ?_
  refine snd_loop (S := Nat) (fun i => ([(1, rowA m g), (2, .int .i64 k), (3, .int .i64 p), (13, rowA m f), (14, .int .i64 (m : Int)), (9, .own 900 0 i 2), (15, .int .i64 (i : Int))], [(900, .one (Z64 i) (C64 i (lessF p f g k)))])) (fun i => i ≤ m) (fun i => m - i) (0) (fun k i => bif Nat.beq k 900 then (12, i) else (k, i)) ?_ ?_ ?_
  · exact ⟨⟨(by first | exact mt_row (V := _) (fun _ _ => rfl) | exact mt_fz (by exact ⟨(ne_fst rfl), trivial⟩) rfl (fun _ _ => rfl)), (mi), (mi), (by first | exact mt_row (V := _) (fun _ _ => rfl) | exact mt_fz (by exact ⟨(ne_fst rfl), trivial⟩) rfl (fun _ _ => rfl)), (mi), (by first | exact ⟨rfl, rfl, rfl, rfl⟩ | exact ⟨rfl, by omega, rfl, rfl⟩), (mi), trivial⟩, ⟨⟨rfl, (sx), (by exact mt_arr0)⟩, trivial⟩, ⟨⟨(fun h => by first | exact ⟨rfl, rfl⟩ | exact absurd h (by decide)), trivial⟩, trivial⟩⟩
  · exact Nat.zero_le _
  intro i hi0
  refine sq (env2 := [(1, rowA m g), (2, .int .i64 k), (3, .int .i64 p), (13, rowA m f), (14, .int .i64 (m : Int)), (9, .own 900 0 i 2), (15, .int .i64 (i : Int))]) (ol2 := [(900, .one (Z64 i) (C64 i (lessF p f g k)))]) rfl rfl ?_
  apply sr tokTB (by kernel_rfl)
  · intro RR hRR
    refine w_lss rfl rfl ?_
    exact hRR
  refine snd_seq ?_
  refine snd_cond _ rfl (fun hc16 => ?_) (fun hc16 => ?_)
  · try simp only [hcs] at hc16
    refine snd_skip ?_
    refine snd_seq ?_
    refine snd_block ?_
    apply sr tokTB (by kernel_rfl)
    · intro RR hRR
      refine w_move (by constructor) ?_
      refine w_iar rfl rfl und27 kn2 (by exact sz2.symm) ?_ rfl ?_
      · exact ⟨by omega, by omega⟩
      first | refine w_ldc rfl kn2 (by constructor) (by exact sz2.symm) (by exact ag2.symm) ?_ | refine w_ldp rfl kn2 rfl (by constructor) (by exact sz2.symm) (by exact ag2.symm) ?_
      refine w_assign (by constructor) ?_
      refine w_assign (by constructor) ?_
      exact hRR
    apply lr tokTB (by kernel_rfl)
    · intro RR hRR
      refine w_move (by constructor) ?_
      refine w_move (by constructor) ?_
      refine w_move (by constructor) ?_
      refine w_move (by constructor) ?_
      refine w_move (by constructor) ?_
      refine w_iar rfl rfl und27 kn2 (by exact sz2.symm) ?_ rfl ?_
      · exact ⟨by omega, by omega⟩
      first | refine w_ldc rfl kn2 (by constructor) (by exact sz2.symm) (by exact ag2.symm) ?_ | refine w_ldp rfl kn2 rfl (by constructor) (by exact sz2.symm) (by exact ag2.symm) ?_
      refine w_mul rfl rfl (by exact w_kg hk hg i) ?_
      refine w_sub rfl rfl (by exact w_fkg hf hk hg i) ?_
      refine w_move (by constructor) ?_
      refine y_call rfl (ec (ec exn)) (c_rest (by omega) (by omega)) ?_
      refine w_bsl1 und27 kn2 (by rw [sz2]; rfl) rfl (by constructor) (by first | exact trivial | exact cel_cap2) (by exact sz2.symm) (by first | exact trivial | exact ssh_vec | exact ⟨rfl, fun _ => trivial⟩) ?_
      refine w_app_o und27 rfl rfl kn2 rfl rfl (fun C h => ⟨rfl, rfl, rfl, h⟩) (by rw [by2]; omega) (by omega) rfl ?_
      refine w_assign (by constructor) ?_
      exact hRR
    apply lr tokTB (by kernel_rfl)
    · intro RR hRR
      refine y_add rfl rfl ?_
      refine w_move (by constructor) ?_
      exact hRR
    refine ⟨i + 1, (fun k i => bif Nat.beq k 900 then (32, i) else (k, i)), ?_, (by omega), (by dsimp only; omega)⟩
    exact ⟨⟨(by first | exact mt_row (V := _) (fun _ _ => rfl) | exact mt_fz (by exact ⟨(ne_fst rfl), trivial⟩) rfl (fun _ _ => rfl)), (mi), (mi), (by first | exact mt_row (V := _) (fun _ _ => rfl) | exact mt_fz (by exact ⟨(ne_fst rfl), trivial⟩) rfl (fun _ _ => rfl)), (mi), (by first | exact ⟨rfl, rfl, rfl, rfl⟩ | exact ⟨rfl, by omega, rfl, rfl⟩), (mi), trivial⟩, ⟨⟨rfl, (sx), (by exact mt_app (fun _ _ => rfl) rfl)⟩, trivial⟩, ⟨⟨(fun h => by first | exact ⟨rfl, rfl⟩ | exact absurd h (by decide)), trivial⟩, trivial⟩⟩
  · try simp only [hcs] at hc16
    have him : m = i := by omega
    subst him
    refine snd_exit ?_
    apply sr tokTB (by kernel_rfl)
    · intro RR hRR
      refine w_move (by constructor) ?_
      refine w_assign (by constructor) ?_
      exact hRR
    refine snd_ret ?_
    show retQ TB _ _ _ _ _ _
    exact rt_own rfl rfl rfl (fun _ => trivial) (fun V i hi => rfl)
theorem c_scaled {m : Nat} {f : Nat → Int} {p k : Int} (hm : m ≤ 1000000) (hp : 0 < p) (hp2 : p ≤ 256) (hf : B8 f) (hk : 0 ≤ k ∧ k < 256) : ACalls Try.prog TB 160 [rowA m f, .int .i64 k, .int .i64 p] (.own 0 0 m 2) (HR m (scaledF p f k)) := by
  refine acalls_of tokTB Try.func160 rfl rfl (Nat.le_of_ble_eq_true rfl) ?_
  apply sr tokTB (by kernel_rfl)
  · intro RR hRR
    refine w_assign (by constructor) ?_
    exact hRR
  apply sr tokTB (by kernel_rfl)
  · intro RR hRR
    refine w_bsl und27 kn2 (by rw [sz2]; rfl) rfl trivial trivial rfl ?_
    refine w_assign (by constructor) ?_
    exact hRR
  refine snd_seq ?_
  apply sr tokTB (by kernel_rfl)
  · intro RR hRR
    refine w_move (by constructor) ?_
    refine w_len_r rfl rfl und27 ?_
    refine w_move (by constructor) ?_
    exact hRR
  refine snd_block ?_
  refine snd_loop (S := Nat) (fun i => ([(1, .int .i64 k), (2, .int .i64 p), (11, rowA m f), (12, .int .i64 (m : Int)), (7, .own 900 0 i 2), (13, .int .i64 (i : Int))], [(900, .one (Z64 i) (C64 i (scaledF p f k)))])) (fun i => i ≤ m) (fun i => m - i) (0) (fun k i => bif Nat.beq k 900 then (10, i) else (k, i)) ?_ ?_ ?_
  · exact ⟨⟨(mi), (mi), (by first | exact mt_row (V := _) (fun _ _ => rfl) | exact mt_fz (by exact ⟨(ne_fst rfl), trivial⟩) rfl (fun _ _ => rfl)), (mi), (by first | exact ⟨rfl, rfl, rfl, rfl⟩ | exact ⟨rfl, by omega, rfl, rfl⟩), (mi), trivial⟩, ⟨⟨rfl, (sx), (by exact mt_arr0)⟩, trivial⟩, ⟨⟨(fun h => by first | exact ⟨rfl, rfl⟩ | exact absurd h (by decide)), trivial⟩, trivial⟩⟩
  · exact Nat.zero_le _
  intro i hi0
  refine sq (env2 := [(1, .int .i64 k), (2, .int .i64 p), (11, rowA m f), (12, .int .i64 (m : Int)), (7, .own 900 0 i 2), (13, .int .i64 (i : Int))]) (ol2 := [(900, .one (Z64 i) (C64 i (scaledF p f k)))]) rfl rfl ?_
  apply sr tokTB (by kernel_rfl)
  · intro RR hRR
    refine w_lss rfl rfl ?_
    exact hRR
  refine snd_seq ?_
  refine snd_cond _ rfl (fun hc14 => ?_) (fun hc14 => ?_)
  · try simp only [hcs] at hc14
    refine snd_skip ?_
    refine snd_seq ?_
    refine snd_block ?_
    apply sr tokTB (by kernel_rfl)
    · intro RR hRR
      refine w_iar rfl rfl und27 kn2 (by exact sz2.symm) ?_ rfl ?_
      · exact ⟨by omega, by omega⟩
      first | refine w_ldc rfl kn2 (by constructor) (by exact sz2.symm) (by exact ag2.symm) ?_ | refine w_ldp rfl kn2 rfl (by constructor) (by exact sz2.symm) (by exact ag2.symm) ?_
      refine w_assign (by constructor) ?_
      exact hRR
    apply lr tokTB (by kernel_rfl)
    · intro RR hRR
      refine w_move (by constructor) ?_
      refine w_move (by constructor) ?_
      refine w_move (by constructor) ?_
      refine w_mul rfl rfl (by exact w_fk hf hk i) ?_
      refine w_move (by constructor) ?_
      refine w_rem rfl rfl (by first | assumption | omega) ?_
      refine w_bsl1 und27 kn2 (by rw [sz2]; rfl) rfl (by constructor) (by first | exact trivial | exact cel_cap2) (by exact sz2.symm) (by first | exact trivial | exact ssh_vec | exact ⟨rfl, fun _ => trivial⟩) ?_
      refine w_app_o und27 rfl rfl kn2 rfl rfl (fun C h => ⟨rfl, rfl, rfl, h⟩) (by rw [by2]; omega) (by omega) rfl ?_
      refine w_assign (by constructor) ?_
      exact hRR
    apply lr tokTB (by kernel_rfl)
    · intro RR hRR
      refine y_add rfl rfl ?_
      refine w_move (by constructor) ?_
      exact hRR
    refine ⟨i + 1, (fun k i => bif Nat.beq k 900 then (24, i) else (k, i)), ?_, (by omega), (by dsimp only; omega)⟩
    exact ⟨⟨(mi), (mi), (by first | exact mt_row (V := _) (fun _ _ => rfl) | exact mt_fz (by exact ⟨(ne_fst rfl), trivial⟩) rfl (fun _ _ => rfl)), (mi), (by first | exact ⟨rfl, rfl, rfl, rfl⟩ | exact ⟨rfl, by omega, rfl, rfl⟩), (mi), trivial⟩, ⟨⟨rfl, (sx), (by exact mt_app (fun _ _ => rfl) (congrArg (AV.int .i64) (scaled_tmod hf hk i)))⟩, trivial⟩, ⟨⟨(fun h => by first | exact ⟨rfl, rfl⟩ | exact absurd h (by decide)), trivial⟩, trivial⟩⟩
  · try simp only [hcs] at hc14
    have him : m = i := by omega
    subst him
    refine snd_exit ?_
    apply sr tokTB (by kernel_rfl)
    · intro RR hRR
      refine w_move (by constructor) ?_
      refine w_assign (by constructor) ?_
      exact hRR
    refine snd_ret ?_
    show retQ TB _ _ _ _ _ _
    exact rt_own rfl rfl rfl (fun _ => trivial) (fun V i hi => rfl)
theorem c_powerI {x p : Int} {k : Nat} (hx : 0 ≤ x ∧ x < 256) (hp : 1 < p) (hp2 : p ≤ 256) (hk : k ≤ 1000000) : ACalls Try.prog TB 167 [.int .i64 x, .int .i64 (k : Int), .int .i64 p] (.int .i64 (powF x p k)) [] := by
  refine acalls_of tokTB Try.func167 rfl rfl (Nat.le_of_ble_eq_true rfl) ?_
  apply sr tokTB (by kernel_rfl)
  · intro RR hRR
    refine w_assign (by constructor) ?_
    exact hRR
  apply sr tokTB (by kernel_rfl)
  · intro RR hRR
    refine w_assign (by constructor) ?_
    exact hRR
  refine snd_seq ?_
  apply sr tokTB (by kernel_rfl)
  · intro RR hRR
    refine w_move (by constructor) ?_
    refine w_move (by constructor) ?_
    exact hRR
  refine snd_block ?_
  refine snd_loop (S := Nat) (fun i => ([(0, .int .i64 x), (2, .int .i64 p), (7, .int .i64 (powF x p i)), (8, .int .i64 (k : Int)), (9, .int .i64 (i : Int))], [])) (fun i => i ≤ k) (fun i => k - i) (0) ρ0 ?_ ?_ ?_
  · exact ⟨⟨(mi), (mi), (mi), (mi), (mi), trivial⟩, trivial, trivial⟩
  · exact Nat.zero_le _
  intro i hi0
  refine sq (env2 := [(0, .int .i64 x), (2, .int .i64 p), (7, .int .i64 (powF x p i)), (8, .int .i64 (k : Int)), (9, .int .i64 (i : Int))]) (ol2 := []) rfl rfl ?_
  apply sr tokTB (by kernel_rfl)
  · intro RR hRR
    refine w_lss rfl rfl ?_
    exact hRR
  refine snd_seq ?_
  refine snd_cond _ rfl (fun hc10 => ?_) (fun hc10 => ?_)
  · try simp only [hcs] at hc10
    refine snd_skip ?_
    refine snd_seq ?_
    refine snd_block ?_
    apply lr tokTB (by kernel_rfl)
    · intro RR hRR
      refine w_move (by constructor) ?_
      refine w_move (by constructor) ?_
      refine w_mul rfl rfl (by exact w_pow hx hp hp2 i) ?_
      refine w_move (by constructor) ?_
      refine w_rem rfl rfl (by first | assumption | omega) ?_
      refine w_assign (by constructor) ?_
      exact hRR
    apply lr tokTB (by kernel_rfl)
    · intro RR hRR
      refine y_add rfl rfl ?_
      refine w_move (by constructor) ?_
      exact hRR
    refine ⟨i + 1, ρ0, ?_, (by omega), (by dsimp only; omega)⟩
    exact ⟨⟨(mi), (mi), (by exact m_int (pow_tmod hx hp i)), (mi), (mi), trivial⟩, trivial, trivial⟩
  · try simp only [hcs] at hc10
    have him : k = i := by omega
    subst him
    refine snd_exit ?_
    apply sr tokTB (by kernel_rfl)
    · intro RR hRR
      refine w_move (by constructor) ?_
      refine w_assign (by constructor) ?_
      exact hRR
    refine snd_ret ?_
    exact rt (T := TB) (fun V => by first | exact m_bool rfl | exact m_int rfl)
theorem c_inverseI {x p : Int} (hx : 0 ≤ x ∧ x < 256) (hp : 1 < p) (hp2 : p ≤ 256) : ACalls Try.prog TB 161 [.int .i64 x, .int .i64 p] (.int .i64 (invF p x)) [] := by
  have hk : p - 2 = ((p - 2).toNat : Int) := by omega
  refine acalls_of tokTB Try.func161 rfl rfl (Nat.le_of_ble_eq_true rfl) ?_
  apply sr tokTB (by kernel_rfl)
  · intro RR hRR
    refine w_assign (by constructor) ?_
    exact hRR
  apply sr tokTB (by kernel_rfl)
  · intro RR hRR
    refine w_move (by constructor) ?_
    refine w_move (by constructor) ?_
    refine y_sub rfl rfl ?_
    refine w_move (by constructor) ?_
    refine y_call rfl (exc (by exact rfl) (exc (by exact congrArg (AV.int .i64) hk) (exc (by exact rfl) exn))) (c_powerI (k := (p - 2).toNat) hx hp hp2 (by omega)) ?_
    refine w_assign (by constructor) ?_
    exact hRR
  refine snd_ret ?_
  exact rt (T := TB) (fun V => by first | exact m_bool rfl | exact m_int rfl)
theorem c_l01Inverse {x p : Int} (hp : primeB p = true) (hx : 0 < x) (hx2 : x < p) : ACalls Try.prog TB 141 [.int .i64 p, .int .i64 x] (.int .i64 (invF p x)) [] := by
  have hpb := primeB_bd hp
  have hxp : x % p = x := Int.emod_eq_of_lt (by omega) hx2
  have hiv := (inv_ok hp hx hx2).1
  have h0p : decide (((0 : Nat) : Int) * x % p = 1) = false := by simp
  refine acalls_of tokTB Try.func141 rfl rfl (Nat.le_of_ble_eq_true rfl) ?_
  apply sr tokTB (by kernel_rfl)
  · intro RR hRR
    refine w_assign (by constructor) ?_
    exact hRR
  refine snd_seq ?_
  apply sr tokTB (by kernel_rfl)
  · intro RR hRR
    refine w_assign (by constructor) ?_
    exact hRR
  refine snd_block ?_
  refine snd_loop (S := Nat) (fun i => ([(0, .int .i64 p), (1, .int .i64 x), (5, .int .i64 (i : Int))], [])) (fun i => (1 ≤ i ∧ i ≤ p.toNat) ∧ ∀ j, j < i → decide ((j : Int) * x % p = 1) = false) (fun i => p.toNat - i) (1) ρ0 ?_ ?_ ?_
  · exact ⟨⟨(mi), (mi), (mi), trivial⟩, trivial, trivial⟩
  · exact ⟨by omega, fun j hj => by rw [show j = 0 by omega]; exact h0p⟩
  intro i hi0
  refine sq (env2 := [(0, .int .i64 p), (1, .int .i64 x), (5, .int .i64 (i : Int))]) (ol2 := []) rfl rfl ?_
  obtain ⟨hi1, hi2⟩ := hi0
  refine snd_seq ?_
  apply sr tokTB (by kernel_rfl)
  · intro RR hRR
    refine w_move (by constructor) ?_
    refine w_move (by constructor) ?_
    refine w_lss rfl rfl ?_
    exact hRR
  refine snd_cond _ rfl (fun hc8 => ?_) (fun hc8 => ?_)
  · try simp only [hcs] at hc8
    refine snd_skip ?_
    refine snd_seq ?_
    refine snd_block ?_
    apply sr tokTB (by kernel_rfl)
    · intro RR hRR
      refine w_move (by constructor) ?_
      refine w_move (by constructor) ?_
      refine w_move (by constructor) ?_
      refine y_call rfl (ec (ec exn)) (c_l01Mod (by omega) (by omega)) ?_
      refine w_mul rfl rfl (by exact w_inv (by omega) hxp hx hx2 hpb.2) ?_
      refine w_move (by constructor) ?_
      refine w_rem rfl rfl (by first | assumption | omega) ?_
      refine w_eql rfl rfl ?_
      exact hRR
    refine snd_cond _ rfl (fun hc18 => ?_) (fun hc18 => ?_)
    · skip
      apply sr tokTB (by kernel_rfl)
      · intro RR hRR
        refine w_move (by constructor) ?_
        refine w_assign (by constructor) ?_
        exact hRR
      refine snd_ret ?_
      exact rt (T := TB) (fun V => m_int (by rw [inv_tmod hx] at hc18; rw [← hiv, invS, idx_at (by omega) hc18 hi2, if_neg (by omega)]))
    · skip
      refine snd_skip ?_
      apply lr tokTB (by kernel_rfl)
      · intro RR hRR
        refine w_move (by constructor) ?_
        refine y_add rfl rfl ?_
        refine w_assign (by constructor) ?_
        exact hRR
      refine ⟨i + 1, ρ0, ?_, ⟨by omega, all_step hi2 (by rw [inv_tmod hx] at hc18; exact hc18)⟩, (by dsimp only; omega)⟩
      exact ⟨⟨(mi), (mi), (mi), trivial⟩, trivial, trivial⟩
  · try simp only [hcs] at hc8
    refine snd_exit ?_
    apply sr tokTB (by kernel_rfl)
    · intro RR hRR
      refine w_assign (by constructor) ?_
      exact hRR
    refine snd_ret ?_
    exact rt (T := TB) (fun V => m_int (by rw [← hiv, invS, idx_none (fun j hj => hi2 j (by omega))]; rfl))
end Go.Am

set_option linter.unusedVariables false
set_option linter.unusedSimpArgs false
set_option maxRecDepth 4000
namespace Go.Am
attribute [local irreducible] retQ retQp
open Go.Proofs
theorem c_CloneR {n m : Nat} {R : Nat → Nat → Int} (h0 : 0 < n) (hn : n ≤ 1000000) : ACalls Try.prog TB 157 [rowsA n m R] (.own 0 0 n 27) (HRR n m R) := by
  refine acalls_of tokTB Try.func157 rfl rfl (Nat.le_of_ble_eq_true rfl) ?_
  apply sr tokTB (by kernel_rfl)
  · intro RR hRR
    refine w_assign (by constructor) ?_
    exact hRR
  refine snd_seq ?_
  apply sr tokTB (by kernel_rfl)
  · intro RR hRR
    refine w_move (by constructor) ?_
    refine w_reqn rfl rfl (by omega) und78 ?_
    exact hRR
  refine snd_cond_false rfl ?_
  refine snd_skip ?_
  apply sr tokTB (by kernel_rfl)
  · intro RR hRR
    refine w_bsl und78 kn27 (by rw [sz27]; rfl) rfl trivial trivial rfl ?_
    refine w_move (by constructor) ?_
    refine w_app_o und78 rfl rfl kn27 rfl rfl (fun C h => ⟨by omega, fun _ => trivial, h⟩) (by rw [by27]; omega) (by omega) rfl ?_
    refine w_assign (by constructor) ?_
    exact hRR
  refine snd_ret ?_
  show retQ TB _ _ _ _ _ _
  exact rt_own rfl rfl (by omega) (fun _ => trivial) (fun V i hi => by rw [appF_ge (Nat.zero_le _) (by omega)]; exact mt_row (fun _ _ => rfl))
theorem c_IndexFunc2 {n m : Nat} {R : Nat → Nat → Int} {g nc : Nat} {caps : Nat → AV} {P : Nat → Bool} (hm : n ≤ 1000000) (hcaps : (AV.fn g nc caps).closed) (hf : ∀ i, i < n → ACalls Try.prog TB g (rowA m (R i) :: capL nc caps) (.bool (P i)) []) : ACalls Try.prog TB 158 [rowsA n m R, .fn g nc caps] (.int .i64 (idxF P n)) [] := by
  refine acalls_of tokTB Try.func158 rfl rfl (Nat.le_of_ble_eq_true rfl) ?_
  apply sr tokTB (by kernel_rfl)
  · intro RR hRR
    refine w_assign (by constructor) ?_
    exact hRR
  refine snd_seq ?_
  apply sr tokTB (by kernel_rfl)
  · intro RR hRR
    refine w_move (by constructor) ?_
    refine w_len_r rfl rfl und78 ?_
    refine w_move (by constructor) ?_
    exact hRR
  refine snd_block ?_
  refine snd_loop (S := Nat) (fun i => ([(0, rowsA n m R), (1, .fn g nc caps), (7, .int .i64 (n : Int)), (8, .int .i64 (i : Int))], [])) (fun i => i ≤ n ∧ ∀ j, j < i → P j = false) (fun i => n - i) (0) ρ0 ?_ ?_ ?_
  · exact ⟨⟨(mt_rows (V := _) (fun _ _ _ _ => rfl)), (Mt_closed (V := _) (by assumption) (fun _ _ _ => trivial) (by simp)), (mi), (mi), trivial⟩, trivial, trivial⟩
  · exact ⟨Nat.zero_le _, fun j hj => by omega⟩
  intro i hi0
  refine sq (env2 := [(0, rowsA n m R), (1, .fn g nc caps), (7, .int .i64 (n : Int)), (8, .int .i64 (i : Int))]) (ol2 := []) rfl rfl ?_
  obtain ⟨hi1, hi2⟩ := hi0
  apply sr tokTB (by kernel_rfl)
  · intro RR hRR
    refine w_lss rfl rfl ?_
    exact hRR
  refine snd_seq ?_
  refine snd_cond _ rfl (fun hc9 => ?_) (fun hc9 => ?_)
  · try simp only [hcs] at hc9
    refine snd_skip ?_
    refine snd_seq ?_
    refine snd_block ?_
    apply sr tokTB (by kernel_rfl)
    · intro RR hRR
      refine w_move (by constructor) ?_
      refine w_assign (by constructor) ?_
      exact hRR
    apply sr tokTB (by kernel_rfl)
    · intro RR hRR
      refine w_move (by constructor) ?_
      refine w_move (by constructor) ?_
      refine w_move (by constructor) ?_
      refine w_iar rfl rfl und78 kn27 (by exact sz27.symm) ?_ rfl ?_
      · exact ⟨by omega, by omega⟩
      first | refine w_ldc rfl kn27 (by constructor) (by exact sz27.symm) (by exact ag27.symm) ?_ | refine w_ldp rfl kn27 rfl (by constructor) (by exact sz27.symm) (by exact ag27.symm) ?_
      refine y_call rfl (exc (by exact rfl) (exp_capL hcaps)) (hf i (by omega)) ?_
      exact hRR
    refine snd_cond _ rfl (fun hc16 => ?_) (fun hc16 => ?_)
    · skip
      apply sr tokTB (by kernel_rfl)
      · intro RR hRR
        refine w_move (by constructor) ?_
        refine w_assign (by constructor) ?_
        exact hRR
      refine snd_ret ?_
      exact rt (T := TB) (fun V => m_int (idx_at (by omega) (by exact hc16) hi2).symm)
    · skip
      refine snd_skip ?_
      apply lr tokTB (by kernel_rfl)
      · intro RR hRR
        refine y_add rfl rfl ?_
        refine w_move (by constructor) ?_
        exact hRR
      refine ⟨i + 1, ρ0, ?_, ⟨by omega, all_step hi2 (by exact hc16)⟩, (by dsimp only; omega)⟩
      exact ⟨⟨(mt_rows (V := _) (fun _ _ _ _ => rfl)), (Mt_closed (V := _) (by assumption) (fun _ _ _ => trivial) (by simp)), (mi), (mi), trivial⟩, trivial, trivial⟩
  · try simp only [hcs] at hc9
    refine snd_exit ?_
    apply sr tokTB (by kernel_rfl)
    · intro RR hRR
      refine w_assign (by constructor) ?_
      exact hRR
    refine snd_ret ?_
    exact rt (T := TB) (fun V => m_int (idx_none (fun j hj => hi2 j (by omega))).symm)
theorem c_reduce1 {m c : Nat} {f : Nat → Int} (hc : c < m) : ACalls Try.prog TB 159 [rowA m f, .cptr (.int .i64 (c : Int))] (.bool (decide (f c ≠ 0))) [] := by
  refine acalls_of tokTB Try.func159 rfl rfl (Nat.le_of_ble_eq_true rfl) ?_
  apply sr tokTB (by kernel_rfl)
  · intro RR hRR
    refine w_assign (by constructor) ?_
    exact hRR
  apply sr tokTB (by kernel_rfl)
  · intro RR hRR
    refine w_move (by constructor) ?_
    refine w_ldc rfl kn3 (by constructor) (by exact sz3.symm) (by exact ag3.symm) ?_
    refine w_iar rfl rfl und27 kn2 (by exact sz2.symm) ?_ rfl ?_
    · exact ⟨by omega, by omega⟩
    first | refine w_ldc rfl kn2 (by constructor) (by exact sz2.symm) (by exact ag2.symm) ?_ | refine w_ldp rfl kn2 rfl (by constructor) (by exact sz2.symm) (by exact ag2.symm) ?_
    refine w_neq rfl rfl ?_
    refine w_assign (by constructor) ?_
    exact hRR
  refine snd_ret ?_
  exact rt (T := TB) (fun V => by first | exact m_bool rfl | exact m_int rfl)
theorem c_reduce {n m : Nat} {R : Nat → Nat → Int} {p : Int} (hp : primeB p = true) (hn : n ≤ 1000) (hm : m ≤ 1000) (hR : ∀ i, B8 (R i)) : ACalls Try.prog TB 143 [rowsA n m R, .int .i64 p] (.own 0 0 (redGo p n R m).no 27) (HRR (redGo p n R m).no m (redGo p n R m).O) := by
  have hpb := primeB_bd hp
  refine acalls_of tokTB Try.func143 rfl rfl (Nat.le_of_ble_eq_true rfl) ?_
  apply sr tokTB (by kernel_rfl)
  · intro RR hRR
    refine w_assign (by constructor) ?_
    exact hRR
  apply sr tokTB (by kernel_rfl)
  · intro RR hRR
    refine w_bsl und78 kn27 (by rw [sz27]; rfl) rfl trivial trivial rfl ?_
    refine w_assign (by constructor) ?_
    exact hRR
  refine snd_seq ?_
  apply sr tokTB (by kernel_rfl)
  · intro RR hRR
    refine w_move (by constructor) ?_
    refine w_len_r rfl rfl und78 ?_
    refine w_eql rfl rfl ?_
    exact hRR
  refine snd_cond _ rfl (fun hc17 => ?_) (fun hc17 => ?_)
  · try simp only [hcs] at hc17
    have hn0 : n = 0 := by omega
    have hno : (redGo p n R m).no = 0 := by have := (red_counts p n R m).2.2; omega
    apply sr tokTB (by kernel_rfl)
    · intro RR hRR
      refine w_move (by constructor) ?_
      refine w_assign (by constructor) ?_
      exact hRR
    refine snd_ret ?_
    show retQ TB _ _ _ _ _ _
    exact rt_own rfl rfl hno.symm (fun _ => trivial) (fun V i hi => by omega)
  · try simp only [hcs] at hc17
    refine snd_skip ?_
    apply sr tokTB (by kernel_rfl)
    · intro RR hRR
      refine w_move (by constructor) ?_
      refine w_call rfl (ec exn) (c_CloneR (m := m) (R := R) (by omega) (by omega)) (.inr ⟨closed_rows, trivial⟩) rfl (by constructor) rfl ?_
      refine w_assign (by constructor) ?_
      exact hRR
    refine snd_seq ?_
    apply sr tokTB (by kernel_rfl)
    · intro RR hRR
      refine w_move (by constructor) ?_
      refine w_iar rfl rfl und78 kn27 (by exact sz27.symm) ?_ rfl ?_
      · exact ⟨by omega, by omega⟩
      first | refine w_ldc rfl kn27 (by constructor) (by exact sz27.symm) (by exact ag27.symm) ?_ | refine w_ldp rfl kn27 rfl (by constructor) (by exact sz27.symm) (by exact ag27.symm) ?_
      first | refine w_len_r rfl rfl und27 ?_ | refine w_len_o rfl rfl und27 ?_ | refine w_len_n rfl rfl und27 ?_
      refine w_move (by constructor) ?_
      exact hRR
    refine snd_block ?_
    refine snd_loop (S := Nat) (fun c => ([(1, .int .i64 p), (24, .int .i64 (m : Int)), (25, .int .i64 (c : Int)), (5, .own 905 0 ((redGo p n R c).no) 27), (6, .own 906 0 ((redGo p n R c).nl) 27)], [(905, .one (ZR ((redGo p n R c).no)) (CR ((redGo p n R c).no) m ((redGo p n R c).O))), (906, .one (ZR ((redGo p n R c).nl)) (CR ((redGo p n R c).nl) m ((redGo p n R c).L)))])) (fun c => c ≤ m) (fun c => m - c) (0) (fun k i => bif Nat.beq k 906 then (21000, i) else bif Nat.beq k 905 then (14, i) else (k, i)) ?_ ?_ ?_
    · exact ⟨⟨(mi), (mi), (mi), (by first | exact ⟨rfl, rfl, rfl, rfl⟩ | exact ⟨rfl, by omega, rfl, rfl⟩), (by first | exact ⟨rfl, rfl, rfl, rfl⟩ | exact ⟨rfl, by omega, rfl, rfl⟩), trivial⟩, ⟨⟨rfl, (sx), (by exact mt_arr0)⟩, ⟨rfl, (sx), (by exact ⟨rfl, fun _ _ => mt_row (fun _ _ => rfl)⟩)⟩, trivial⟩, ⟨⟨(fun h => by first | exact ⟨rfl, rfl⟩ | exact absurd h (by decide)), (fun h => by first | exact ⟨rfl, rfl⟩ | exact absurd h (by decide)), trivial⟩, ⟨(fun h => by first | exact ⟨rfl, rfl⟩ | exact absurd h (by decide)), (fun h => by first | exact ⟨rfl, rfl⟩ | exact absurd h (by decide)), trivial⟩, trivial⟩⟩
    · exact Nat.zero_le _
    intro c hi0
    refine sq (env2 := [(1, .int .i64 p), (24, .int .i64 (m : Int)), (25, .int .i64 (c : Int)), (5, .own 905 0 ((redGo p n R c).no) 27), (6, .own 906 0 ((redGo p n R c).nl) 27)]) (ol2 := [(905, .one (ZR ((redGo p n R c).no)) (CR ((redGo p n R c).no) m ((redGo p n R c).O))), (906, .one (ZR ((redGo p n R c).nl)) (CR ((redGo p n R c).nl) m ((redGo p n R c).L)))]) rfl rfl ?_
    apply sr tokTB (by kernel_rfl)
    · intro RR hRR
      refine w_lss rfl rfl ?_
      exact hRR
    refine snd_seq ?_
    refine snd_cond _ rfl (fun hc26 => ?_) (fun hc26 => ?_)
    · try simp only [hcs] at hc26
      refine snd_skip ?_
      refine snd_seq ?_
      refine snd_block ?_
      apply sr tokTB (by kernel_rfl)
      · intro RR hRR
        refine w_move (by constructor) ?_
        refine w_alloc kn3 rfl zr3 ?_
        refine w_stw rfl (by constructor) kn3 rfl (by exact trivial) (sx) (by exact sz3.symm) ?_
        exact hRR
      obtain ⟨ix, hix⟩ : ∃ ix, ix = idxF (fun i => decide ((redGo p n R c).L i c ≠ 0)) (redGo p n R c).nl := ⟨_, rfl⟩
      have hcn0 := red_counts p n R c
      apply sr tokTB (by kernel_rfl)
      · intro RR hRR
        refine w_move (by constructor) ?_
        refine w_mkf1 (by constructor) ?_
        refine y_call rfl (exc (by exact rfl) (exc (by refine congrArg (AV.fn _ 1) (funext fun i => ?_); match i with | 0 => rfl | n + 1 => rfl) exn)) (hix ▸ c_IndexFunc2 (P := fun i => decide ((redGo p n R c).L i c ≠ 0)) (g := 159) (nc := 1) (caps := cap1 (.cptr (.int .i64 (c : Int)))) (by omega) (fun i => by match i with | 0 => exact trivial | n + 1 => exact trivial) (fun i _ => c_reduce1 (by omega))) ?_
        refine w_assign (by constructor) ?_
        exact hRR
      refine snd_seq ?_
      apply sr tokTB (by kernel_rfl)
      · intro RR hRR
        refine w_move (by constructor) ?_
        refine w_lss rfl rfl ?_
        exact hRR
      refine snd_cond _ rfl (fun hc32 => ?_) (fun hc32 => ?_)
      · try simp only [hcs] at hc32
        have hnx := red_miss (p := p) (n := n) (R := R) (c := c) (by rw [← hix]; exact hc32)
        refine snd_exit ?_
        apply lr tokTB (by kernel_rfl)
        · intro RR hRR
          refine y_add rfl rfl ?_
          refine w_move (by constructor) ?_
          exact hRR
        refine ⟨c + 1, ρ0, ?_, (by omega), (by dsimp only; omega)⟩
        dsimp only
        rw [hnx]
        exact ⟨⟨(mi), (mi), (mi), (by first | exact ⟨rfl, rfl, rfl, rfl⟩ | exact ⟨rfl, by omega, rfl, rfl⟩), (by first | exact ⟨rfl, rfl, rfl, rfl⟩ | exact ⟨rfl, by omega, rfl, rfl⟩), trivial⟩, ⟨⟨rfl, (sx), (by exact ⟨rfl, fun _ _ => mt_row (fun _ _ => rfl)⟩)⟩, ⟨rfl, (sx), (by exact ⟨rfl, fun _ _ => mt_row (fun _ _ => rfl)⟩)⟩, trivial⟩, ⟨⟨(fun h => by first | exact ⟨rfl, rfl⟩ | exact absurd h (by decide)), (fun h => by first | exact ⟨rfl, rfl⟩ | exact absurd h (by decide)), trivial⟩, ⟨(fun h => by first | exact ⟨rfl, rfl⟩ | exact absurd h (by decide)), (fun h => by first | exact ⟨rfl, rfl⟩ | exact absurd h (by decide)), trivial⟩, trivial⟩⟩
      · try simp only [hcs] at hc32
        obtain ⟨k, hk, hPk, hek⟩ : ∃ k : Nat, k < (redGo p n R c).nl ∧ (redGo p n R c).L k c ≠ 0 ∧ ix = (k : Int) := by
          rcases idx_cases (fun i => decide ((redGo p n R c).L i c ≠ 0)) (redGo p n R c).nl with ⟨k, hk, hPk, _, he⟩ | ⟨_, he⟩
          · exact ⟨k, hk, by simpa using hPk, hix.trans he⟩
          · rw [hix, he] at hc32; omega
        have hnx := red_hit (p := p) (n := n) (R := R) (c := c) (k := k) (hix.symm.trans hek)
        clear hix
        subst hek
        have hLk := (red_B8 (p := p) (n := n) (by omega) (by omega) hR c).1 k c
        have hiv := invF_bd (p := p) hLk.1 (by omega)
        have hB := red_B8 (p := p) (n := n) (by omega) (by omega) hR c
        have hpB : B8 (scaledF p ((redGo p n R c).L k) (invF p ((redGo p n R c).L k c))) := scaledF_B8 (by omega) (by omega) _ _
        have hcn := red_counts p n R c
        refine snd_skip ?_
        apply sd tokTB mixed (by kernel_rfl) (by kernel_rfl)
        · intro RR hRR
          refine w_move (by constructor) ?_
          refine w_move (by constructor) ?_
          refine w_iao rfl rfl und78 kn27 ?_ ?_
          · exact ⟨by omega, by omega⟩
          first | refine w_ldc rfl kn27 (by constructor) (by exact sz27.symm) (by exact ag27.symm) ?_ | refine w_ldp rfl kn27 rfl (by constructor) (by exact sz27.symm) (by exact ag27.symm) ?_
          refine w_move (by constructor) ?_
          refine w_move (by constructor) ?_
          refine w_iao rfl rfl und78 kn27 ?_ ?_
          · exact ⟨by omega, by omega⟩
          first | refine w_ldc rfl kn27 (by constructor) (by exact sz27.symm) (by exact ag27.symm) ?_ | refine w_ldp rfl kn27 rfl (by constructor) (by exact sz27.symm) (by exact ag27.symm) ?_
          refine w_ldp rfl kn3 rfl (by constructor) (by exact sz3.symm) (by exact ag3.symm) ?_
          first | refine w_iar rfl rfl und27 kn2 (by exact sz2.symm) ?_ rfl ?_ | refine w_iao rfl rfl und27 kn2 ?_ ?_
          · exact ⟨by omega, by omega⟩
          first | refine w_ldc rfl kn2 (by constructor) (by exact sz2.symm) (by exact ag2.symm) ?_ | refine w_ldp rfl kn2 rfl (by constructor) (by exact sz2.symm) (by exact ag2.symm) ?_
          refine w_move (by constructor) ?_
          refine y_call rfl (ec (ec exn)) (c_inverseI (x := (redGo p n R c).L k c) hLk (by omega) (by omega)) ?_
          refine w_move (by constructor) ?_
          refine w_call rfl (ec (ec (ec exn))) (c_scaled (f := (redGo p n R c).L k) (k := invF p ((redGo p n R c).L k c)) (by omega) (by omega) (by omega) (hB.1 k) (by omega)) (.inl ⟨trivial, ⟨fun _ => trivial, trivial⟩⟩) rfl (by constructor) rfl ?_
          refine w_assign (by constructor) ?_
          exact hRR
        apply srD tokTB (ops1 := [_, _, _, _]) (ops2 := [_]) (by kernel_rfl) rfl rfl
        · intro RR hRR
          refine w_move (by constructor) ?_
          refine w_move (by constructor) ?_
          refine w_move (by constructor) ?_
          refine w_add rfl rfl (by exact w64 (by omega) (by omega)) ?_
          exact hRR
        · exact del_mid tokTB (fun args w => by simp [callFunc, Try.func162]; rfl) del_low kn27 sz27 (a := k) (key := 52) rfl rfl rfl rfl hk rfl
        · intro RR hRR
          refine w_assign (by constructor) ?_
          exact hRR
        refine snd_seq ?_
        apply sr tokTB (by kernel_rfl)
        · intro RR hRR
          refine w_move (by constructor) ?_
          first | refine w_len_r rfl rfl und78 ?_ | refine w_len_o rfl rfl und78 ?_ | refine w_len_n rfl rfl und78 ?_
          refine w_move (by constructor) ?_
          exact hRR
        refine snd_block ?_
        refine snd_loop (S := Nat) (fun i => ([(1, .int .i64 p), (24, .int .i64 (m : Int)), (25, .int .i64 (c : Int)), (5, .own 905 0 ((redGo p n R c).no) 27), (6, .own 906 0 ((redGo p n R c).nl - 1) 27), (7, .ptr 7 0 [] 0 (.int .i64 0)), (9, rowA m (scaledF p ((redGo p n R c).L k) (invF p ((redGo p n R c).L k c)))), (53, .own 906 0 ((redGo p n R c).nl - 1) 27), (54, .int .i64 (((redGo p n R c).nl - 1 : Nat) : Int)), (55, .int .i64 (i : Int))], [(905, .one (ZR ((redGo p n R c).no)) (CR ((redGo p n R c).no) m ((redGo p n R c).O))), (906, .one (ZR ((redGo p n R c).nl - 1)) (CR ((redGo p n R c).nl - 1) m (mixG (fun a => lessF p ((cutR (redGo p n R c).L k) a) (scaledF p ((redGo p n R c).L k) (invF p ((redGo p n R c).L k c))) ((cutR (redGo p n R c).L k) a c)) (cutR (redGo p n R c).L k) i))), (7, .one (.int .i64 0) (.int .i64 (c : Int)))])) (fun i => i ≤ (redGo p n R c).nl - 1) (fun i => (redGo p n R c).nl - 1 - i) (0) (fun k i => bif Nat.beq k 906 then (52, i) else (k, i)) ?_ ?_ ?_
        · exact ⟨⟨(mi), (mi), (mi), (by first | exact ⟨rfl, rfl, rfl, rfl⟩ | exact ⟨rfl, by omega, rfl, rfl⟩), (by first | exact ⟨rfl, rfl, rfl, rfl⟩ | exact ⟨rfl, by omega, rfl, rfl⟩), ⟨rfl, rfl, rfl, rfl, rfl⟩, (by exact mt_fz (by exact ⟨(ne_fst rfl), (ne_fst rfl), (ne_fst rfl), trivial⟩) rfl (fun _ _ => rfl)), (by first | exact ⟨rfl, rfl, rfl, rfl⟩ | exact ⟨rfl, by omega, rfl, rfl⟩), (mi), (mi), trivial⟩, ⟨⟨rfl, (sx), (by exact ⟨rfl, fun _ _ => mt_row (fun _ _ => rfl)⟩)⟩, ⟨rfl, (sx), (by exact ⟨rfl, fun a _ => by rw [cutR_map]; exact mt_row (fun _ _ => by simp [mixG])⟩)⟩, ⟨rfl, (sx), (by exact rfl)⟩, trivial⟩, ⟨⟨(fun h => by first | exact ⟨rfl, rfl⟩ | exact absurd h (by decide)), (fun h => by first | exact ⟨rfl, rfl⟩ | exact absurd h (by decide)), (fun h => by first | exact ⟨rfl, rfl⟩ | exact absurd h (by decide)), trivial⟩, ⟨(fun h => by first | exact ⟨rfl, rfl⟩ | exact absurd h (by decide)), (fun h => by first | exact ⟨rfl, rfl⟩ | exact absurd h (by decide)), (fun h => by first | exact ⟨rfl, rfl⟩ | exact absurd h (by decide)), trivial⟩, ⟨(fun h => by first | exact ⟨rfl, rfl⟩ | exact absurd h (by decide)), (fun h => by first | exact ⟨rfl, rfl⟩ | exact absurd h (by decide)), (fun h => by first | exact ⟨rfl, rfl⟩ | exact absurd h (by decide)), trivial⟩, trivial⟩⟩
        · exact Nat.zero_le _
        intro i hi2
        refine sq (env2 := [(1, .int .i64 p), (24, .int .i64 (m : Int)), (25, .int .i64 (c : Int)), (5, .own 905 0 ((redGo p n R c).no) 27), (6, .own 906 0 ((redGo p n R c).nl - 1) 27), (7, .ptr 7 0 [] 0 (.int .i64 0)), (9, rowA m (scaledF p ((redGo p n R c).L k) (invF p ((redGo p n R c).L k c)))), (53, .own 906 0 ((redGo p n R c).nl - 1) 27), (54, .int .i64 (((redGo p n R c).nl - 1 : Nat) : Int)), (55, .int .i64 (i : Int))]) (ol2 := [(905, .one (ZR ((redGo p n R c).no)) (CR ((redGo p n R c).no) m ((redGo p n R c).O))), (906, .one (ZR ((redGo p n R c).nl - 1)) (CR ((redGo p n R c).nl - 1) m (mixG (fun a => lessF p ((cutR (redGo p n R c).L k) a) (scaledF p ((redGo p n R c).L k) (invF p ((redGo p n R c).L k c))) ((cutR (redGo p n R c).L k) a c)) (cutR (redGo p n R c).L k) i))), (7, .one (.int .i64 0) (.int .i64 (c : Int)))]) rfl rfl ?_
        apply sr tokTB (by kernel_rfl)
        · intro RR hRR
          refine w_lss rfl rfl ?_
          exact hRR
        refine snd_seq ?_
        refine snd_cond _ rfl (fun hc56 => ?_) (fun hc56 => ?_)
        · try simp only [hcs] at hc56
          refine snd_skip ?_
          refine snd_seq ?_
          refine snd_block ?_
          apply sr tokTB (by kernel_rfl)
          · intro RR hRR
            refine w_move (by constructor) ?_
            refine w_iao rfl rfl und78 kn27 ?_ ?_
            · exact ⟨by omega, by omega⟩
            first | refine w_ldc rfl kn27 (by constructor) (by exact sz27.symm) (by exact ag27.symm) ?_ | refine w_ldp rfl kn27 rfl (by constructor) (by exact sz27.symm) (by exact ag27.symm) ?_
            refine w_assign (by constructor) ?_
            refine w_assign (by constructor) ?_
            exact hRR
          apply lr tokTB (by kernel_rfl)
          · intro RR hRR
            refine w_move (by constructor) ?_
            refine w_move (by constructor) ?_
            refine w_move (by constructor) ?_
            refine w_move (by constructor) ?_
            refine w_move (by constructor) ?_
            refine w_ldp rfl kn3 rfl (by constructor) (by exact sz3.symm) (by exact ag3.symm) ?_
            first | refine w_iar rfl rfl und27 kn2 (by exact sz2.symm) ?_ rfl ?_ | refine w_iao rfl rfl und27 kn2 ?_ ?_
            · exact ⟨by omega, by omega⟩
            first | refine w_ldc rfl kn2 (by constructor) (by exact sz2.symm) (by exact ag2.symm) ?_ | refine w_ldp rfl kn2 rfl (by constructor) (by exact sz2.symm) (by exact ag2.symm) ?_
            refine w_move (by constructor) ?_
            refine w_call rfl (ec (ec (ec (ec exn)))) (c_lessTimes (f := mixG (fun a => lessF p ((cutR (redGo p n R c).L k) a) (scaledF p ((redGo p n R c).L k) (invF p ((redGo p n R c).L k c))) ((cutR (redGo p n R c).L k) a c)) (cutR (redGo p n R c).L k) i i) (g := (scaledF p ((redGo p n R c).L k) (invF p ((redGo p n R c).L k c)))) (k := mixG (fun a => lessF p ((cutR (redGo p n R c).L k) a) (scaledF p ((redGo p n R c).L k) (invF p ((redGo p n R c).L k c))) ((cutR (redGo p n R c).L k) a c)) (cutR (redGo p n R c).L k) i i c) (by omega) (by omega) (by omega) (mixG_B8 (fun _ => lessF_B8 (by omega) (by omega) _ _ _) (cutR_B8 hB.1 k) i i) hpB (mixG_B8 (fun _ => lessF_B8 (by omega) (by omega) _ _ _) (cutR_B8 hB.1 k) i i c)) (.inl ⟨trivial, ⟨fun _ => trivial, trivial⟩⟩) rfl (by constructor) rfl ?_
            refine w_iao rfl rfl und78 kn27 ?_ ?_
            · exact ⟨by omega, by omega⟩
            first | refine w_stw rfl (by constructor) kn27 rfl (by exact trivial) (sx) (by exact sz27.symm) ?_ | refine w_sti rfl rfl kn27 rfl (by exact trivial) (by exact sz27.symm) ?_ | refine w_store rfl (HV.eq (by constructor)) kn27 rfl (by exact trivial) (sx) (by exact sz27.symm) (put_in (by first | exact put_mat | exact put_tab | exact put_alg0 | exact put_pr0 | exact put_pr1 | exact put_pr2 | exact put_alg1 | exact put_alg2 | exact put_alg3 | exact put_alg3i | exact put_alg2ij | exact put_alg2ijk | exact put_mat2 | exact put_tab2 | exact put_tab3)) ?_ | refine w_store rfl (HV.eq (by constructor)) kn27 rfl (by exact trivial) (by exact trivial) (by exact sz27.symm) rfl ?_
            exact hRR
          apply lr tokTB (by kernel_rfl)
          · intro RR hRR
            refine y_add rfl rfl ?_
            refine w_move (by constructor) ?_
            exact hRR
          refine ⟨i + 1, ρ0, ?_, (by omega), (by dsimp only; omega)⟩
          exact ⟨⟨(mi), (mi), (mi), (by first | exact ⟨rfl, rfl, rfl, rfl⟩ | exact ⟨rfl, by omega, rfl, rfl⟩), (by first | exact ⟨rfl, rfl, rfl, rfl⟩ | exact ⟨rfl, by omega, rfl, rfl⟩), ⟨rfl, rfl, rfl, rfl, rfl⟩, (by first | exact mt_row (V := _) (fun _ _ => rfl) | exact mt_fz (by exact ⟨(ne_fst rfl), (ne_fst rfl), (ne_fst rfl), trivial⟩) rfl (fun _ _ => rfl)), (by first | exact ⟨rfl, rfl, rfl, rfl⟩ | exact ⟨rfl, by omega, rfl, rfl⟩), (mi), (mi), trivial⟩, ⟨⟨rfl, (sx), (by exact ⟨rfl, fun _ _ => mt_row (fun _ _ => rfl)⟩)⟩, ⟨rfl, (sx), (by exact mt_put (fun a ha hne => mt_row (fun j _ => by (by_cases h : a < i) <;> simp [mixG, h, show (a < i + 1) = (a < i) by (apply propext; omega)])) (mt_fz (by exact ⟨(ne_fst rfl), (ne_fst rfl), (ne_fst rfl), trivial⟩) rfl (fun j _ => congrArg (AV.int .i64) (by simp [mixG]))))⟩, ⟨rfl, (sx), (by exact rfl)⟩, trivial⟩, ⟨⟨(fun h => by first | exact ⟨rfl, rfl⟩ | exact absurd h (by decide)), (fun h => by first | exact ⟨rfl, rfl⟩ | exact absurd h (by decide)), (fun h => by first | exact ⟨rfl, rfl⟩ | exact absurd h (by decide)), trivial⟩, ⟨(fun h => by first | exact ⟨rfl, rfl⟩ | exact absurd h (by decide)), (fun h => by first | exact ⟨rfl, rfl⟩ | exact absurd h (by decide)), (fun h => by first | exact ⟨rfl, rfl⟩ | exact absurd h (by decide)), trivial⟩, ⟨(fun h => by first | exact ⟨rfl, rfl⟩ | exact absurd h (by decide)), (fun h => by first | exact ⟨rfl, rfl⟩ | exact absurd h (by decide)), (fun h => by first | exact ⟨rfl, rfl⟩ | exact absurd h (by decide)), trivial⟩, trivial⟩⟩
        · try simp only [hcs] at hc56
          have hin : (redGo p n R c).nl - 1 = i := by omega
          refine snd_exit ?_
          refine snd_seq ?_
          apply sr tokTB (by kernel_rfl)
          · intro RR hRR
            refine w_move (by constructor) ?_
            refine w_len_o rfl rfl und78 ?_
            refine w_move (by constructor) ?_
            exact hRR
          refine snd_block ?_
          refine snd_loop (S := Nat) (fun i => ([(1, .int .i64 p), (24, .int .i64 (m : Int)), (25, .int .i64 (c : Int)), (5, .own 905 0 ((redGo p n R c).no) 27), (6, .own 906 0 ((redGo p n R c).nl - 1) 27), (7, .ptr 7 0 [] 0 (.int .i64 0)), (9, rowA m (scaledF p ((redGo p n R c).L k) (invF p ((redGo p n R c).L k c)))), (72, .own 905 0 ((redGo p n R c).no) 27), (73, .int .i64 (((redGo p n R c).no : Nat) : Int)), (74, .int .i64 (i : Int))], [(905, .one (ZR ((redGo p n R c).no)) (CR ((redGo p n R c).no) m (mixG (fun a => lessF p ((redGo p n R c).O a) (scaledF p ((redGo p n R c).L k) (invF p ((redGo p n R c).L k c))) ((redGo p n R c).O a c)) (redGo p n R c).O i))), (906, .one (ZR ((redGo p n R c).nl - 1)) (CR ((redGo p n R c).nl - 1) m ((fun a => lessF p ((cutR (redGo p n R c).L k) a) (scaledF p ((redGo p n R c).L k) (invF p ((redGo p n R c).L k c))) ((cutR (redGo p n R c).L k) a c))))), (7, .one (.int .i64 0) (.int .i64 (c : Int)))])) (fun i => i ≤ (redGo p n R c).no) (fun i => (redGo p n R c).no - i) (0) ρ0 ?_ ?_ ?_
          · exact ⟨⟨(mi), (mi), (mi), (by first | exact ⟨rfl, rfl, rfl, rfl⟩ | exact ⟨rfl, by omega, rfl, rfl⟩), (by first | exact ⟨rfl, rfl, rfl, rfl⟩ | exact ⟨rfl, by omega, rfl, rfl⟩), ⟨rfl, rfl, rfl, rfl, rfl⟩, (by first | exact mt_row (V := _) (fun _ _ => rfl) | exact mt_fz (by exact ⟨(ne_fst rfl), (ne_fst rfl), (ne_fst rfl), trivial⟩) rfl (fun _ _ => rfl)), (by first | exact ⟨rfl, rfl, rfl, rfl⟩ | exact ⟨rfl, by omega, rfl, rfl⟩), (mi), (mi), trivial⟩, ⟨⟨rfl, (sx), (by exact ⟨rfl, fun a _ => mt_row (fun _ _ => by simp [mixG])⟩)⟩, ⟨rfl, (sx), (by exact ⟨rfl, fun a ha => mt_row (fun _ _ => by rw [mixG_lt _ _ (by omega)])⟩)⟩, ⟨rfl, (sx), (by exact rfl)⟩, trivial⟩, ⟨⟨(fun h => by first | exact ⟨rfl, rfl⟩ | exact absurd h (by decide)), (fun h => by first | exact ⟨rfl, rfl⟩ | exact absurd h (by decide)), (fun h => by first | exact ⟨rfl, rfl⟩ | exact absurd h (by decide)), trivial⟩, ⟨(fun h => by first | exact ⟨rfl, rfl⟩ | exact absurd h (by decide)), (fun h => by first | exact ⟨rfl, rfl⟩ | exact absurd h (by decide)), (fun h => by first | exact ⟨rfl, rfl⟩ | exact absurd h (by decide)), trivial⟩, ⟨(fun h => by first | exact ⟨rfl, rfl⟩ | exact absurd h (by decide)), (fun h => by first | exact ⟨rfl, rfl⟩ | exact absurd h (by decide)), (fun h => by first | exact ⟨rfl, rfl⟩ | exact absurd h (by decide)), trivial⟩, trivial⟩⟩
          · exact Nat.zero_le _
          intro i hi4
          refine sq (env2 := [(1, .int .i64 p), (24, .int .i64 (m : Int)), (25, .int .i64 (c : Int)), (5, .own 905 0 ((redGo p n R c).no) 27), (6, .own 906 0 ((redGo p n R c).nl - 1) 27), (7, .ptr 7 0 [] 0 (.int .i64 0)), (9, rowA m (scaledF p ((redGo p n R c).L k) (invF p ((redGo p n R c).L k c)))), (72, .own 905 0 ((redGo p n R c).no) 27), (73, .int .i64 (((redGo p n R c).no : Nat) : Int)), (74, .int .i64 (i : Int))]) (ol2 := [(905, .one (ZR ((redGo p n R c).no)) (CR ((redGo p n R c).no) m (mixG (fun a => lessF p ((redGo p n R c).O a) (scaledF p ((redGo p n R c).L k) (invF p ((redGo p n R c).L k c))) ((redGo p n R c).O a c)) (redGo p n R c).O i))), (906, .one (ZR ((redGo p n R c).nl - 1)) (CR ((redGo p n R c).nl - 1) m ((fun a => lessF p ((cutR (redGo p n R c).L k) a) (scaledF p ((redGo p n R c).L k) (invF p ((redGo p n R c).L k c))) ((cutR (redGo p n R c).L k) a c))))), (7, .one (.int .i64 0) (.int .i64 (c : Int)))]) rfl rfl ?_
          apply sr tokTB (by kernel_rfl)
          · intro RR hRR
            refine w_lss rfl rfl ?_
            exact hRR
          refine snd_seq ?_
          refine snd_cond _ rfl (fun hc75 => ?_) (fun hc75 => ?_)
          · try simp only [hcs] at hc75
            refine snd_skip ?_
            refine snd_seq ?_
            refine snd_block ?_
            apply sr tokTB (by kernel_rfl)
            · intro RR hRR
              refine w_move (by constructor) ?_
              refine w_iao rfl rfl und78 kn27 ?_ ?_
              · exact ⟨by omega, by omega⟩
              first | refine w_ldc rfl kn27 (by constructor) (by exact sz27.symm) (by exact ag27.symm) ?_ | refine w_ldp rfl kn27 rfl (by constructor) (by exact sz27.symm) (by exact ag27.symm) ?_
              refine w_assign (by constructor) ?_
              refine w_assign (by constructor) ?_
              exact hRR
            apply lr tokTB (by kernel_rfl)
            · intro RR hRR
              refine w_move (by constructor) ?_
              refine w_move (by constructor) ?_
              refine w_move (by constructor) ?_
              refine w_move (by constructor) ?_
              refine w_move (by constructor) ?_
              refine w_ldp rfl kn3 rfl (by constructor) (by exact sz3.symm) (by exact ag3.symm) ?_
              first | refine w_iar rfl rfl und27 kn2 (by exact sz2.symm) ?_ rfl ?_ | refine w_iao rfl rfl und27 kn2 ?_ ?_
              · exact ⟨by omega, by omega⟩
              first | refine w_ldc rfl kn2 (by constructor) (by exact sz2.symm) (by exact ag2.symm) ?_ | refine w_ldp rfl kn2 rfl (by constructor) (by exact sz2.symm) (by exact ag2.symm) ?_
              refine w_move (by constructor) ?_
              refine w_call rfl (ec (ec (ec (ec exn)))) (c_lessTimes (f := mixG (fun a => lessF p ((redGo p n R c).O a) (scaledF p ((redGo p n R c).L k) (invF p ((redGo p n R c).L k c))) ((redGo p n R c).O a c)) (redGo p n R c).O i i) (g := (scaledF p ((redGo p n R c).L k) (invF p ((redGo p n R c).L k c)))) (k := mixG (fun a => lessF p ((redGo p n R c).O a) (scaledF p ((redGo p n R c).L k) (invF p ((redGo p n R c).L k c))) ((redGo p n R c).O a c)) (redGo p n R c).O i i c) (by omega) (by omega) (by omega) (mixG_B8 (fun _ => lessF_B8 (by omega) (by omega) _ _ _) hB.2 i i) hpB (mixG_B8 (fun _ => lessF_B8 (by omega) (by omega) _ _ _) hB.2 i i c)) (.inl ⟨trivial, ⟨fun _ => trivial, trivial⟩⟩) rfl (by constructor) rfl ?_
              refine w_iao rfl rfl und78 kn27 ?_ ?_
              · exact ⟨by omega, by omega⟩
              first | refine w_stw rfl (by constructor) kn27 rfl (by exact trivial) (sx) (by exact sz27.symm) ?_ | refine w_sti rfl rfl kn27 rfl (by exact trivial) (by exact sz27.symm) ?_ | refine w_store rfl (HV.eq (by constructor)) kn27 rfl (by exact trivial) (sx) (by exact sz27.symm) (put_in (by first | exact put_mat | exact put_tab | exact put_alg0 | exact put_pr0 | exact put_pr1 | exact put_pr2 | exact put_alg1 | exact put_alg2 | exact put_alg3 | exact put_alg3i | exact put_alg2ij | exact put_alg2ijk | exact put_mat2 | exact put_tab2 | exact put_tab3)) ?_ | refine w_store rfl (HV.eq (by constructor)) kn27 rfl (by exact trivial) (by exact trivial) (by exact sz27.symm) rfl ?_
              exact hRR
            apply lr tokTB (by kernel_rfl)
            · intro RR hRR
              refine y_add rfl rfl ?_
              refine w_move (by constructor) ?_
              exact hRR
            refine ⟨i + 1, ρ0, ?_, (by omega), (by dsimp only; omega)⟩
            exact ⟨⟨(mi), (mi), (mi), (by first | exact ⟨rfl, rfl, rfl, rfl⟩ | exact ⟨rfl, by omega, rfl, rfl⟩), (by first | exact ⟨rfl, rfl, rfl, rfl⟩ | exact ⟨rfl, by omega, rfl, rfl⟩), ⟨rfl, rfl, rfl, rfl, rfl⟩, (by first | exact mt_row (V := _) (fun _ _ => rfl) | exact mt_fz (by exact ⟨(ne_fst rfl), (ne_fst rfl), (ne_fst rfl), trivial⟩) rfl (fun _ _ => rfl)), (by first | exact ⟨rfl, rfl, rfl, rfl⟩ | exact ⟨rfl, by omega, rfl, rfl⟩), (mi), (mi), trivial⟩, ⟨⟨rfl, (sx), (by exact mt_put (fun a ha hne => mt_row (fun j _ => by (by_cases h : a < i) <;> simp [mixG, h, show (a < i + 1) = (a < i) by (apply propext; omega)])) (mt_fz (by exact ⟨(ne_fst rfl), (ne_fst rfl), (ne_fst rfl), trivial⟩) rfl (fun j _ => congrArg (AV.int .i64) (by simp [mixG]))))⟩, ⟨rfl, (sx), (by exact ⟨rfl, fun _ _ => mt_row (fun _ _ => rfl)⟩)⟩, ⟨rfl, (sx), (by exact rfl)⟩, trivial⟩, ⟨⟨(fun h => by first | exact ⟨rfl, rfl⟩ | exact absurd h (by decide)), (fun h => by first | exact ⟨rfl, rfl⟩ | exact absurd h (by decide)), (fun h => by first | exact ⟨rfl, rfl⟩ | exact absurd h (by decide)), trivial⟩, ⟨(fun h => by first | exact ⟨rfl, rfl⟩ | exact absurd h (by decide)), (fun h => by first | exact ⟨rfl, rfl⟩ | exact absurd h (by decide)), (fun h => by first | exact ⟨rfl, rfl⟩ | exact absurd h (by decide)), trivial⟩, ⟨(fun h => by first | exact ⟨rfl, rfl⟩ | exact absurd h (by decide)), (fun h => by first | exact ⟨rfl, rfl⟩ | exact absurd h (by decide)), (fun h => by first | exact ⟨rfl, rfl⟩ | exact absurd h (by decide)), trivial⟩, trivial⟩⟩
          · try simp only [hcs] at hc75
            have hio : (redGo p n R c).no = i := by omega
            refine snd_exit ?_
            apply lr tokTB (by kernel_rfl)
            · intro RR hRR
              refine w_move (by constructor) ?_
              refine w_move (by constructor) ?_
              refine w_bsl1 und78 kn27 (by rw [sz27]; rfl) rfl (by constructor) (by first | exact trivial | exact cel_cap2) (by exact sz27.symm) (by first | exact trivial | exact ssh_vec | exact ⟨rfl, fun _ => trivial⟩) ?_
              refine w_app_o und78 rfl rfl kn27 rfl rfl (fun C h => ⟨rfl, rfl, rfl, h⟩) (by rw [by27]; omega) (by omega) rfl ?_
              refine w_assign (by constructor) ?_
              exact hRR
            apply lr tokTB (by kernel_rfl)
            · intro RR hRR
              refine y_add rfl rfl ?_
              refine w_move (by constructor) ?_
              exact hRR
            refine ⟨c + 1, (fun k i => bif Nat.beq k 905 then (94, i) else (k, i)), ?_, (by omega), (by dsimp only; omega)⟩
            dsimp only
            rw [hnx]
            exact ⟨⟨(mi), (mi), (mi), (by first | exact ⟨rfl, rfl, rfl, rfl⟩ | exact ⟨rfl, by omega, rfl, rfl⟩), (by first | exact ⟨rfl, rfl, rfl, rfl⟩ | exact ⟨rfl, by omega, rfl, rfl⟩), trivial⟩, ⟨⟨rfl, (sx), (by exact mt_app (fun a ha => mt_row (fun j _ => by simp [redHit, mixG, ← hio, ha, Nat.ne_of_lt ha])) (mt_row (fun _ _ => by simp [redHit])))⟩, ⟨rfl, (sx), (by exact ⟨rfl, fun _ _ => mt_row (fun _ _ => rfl)⟩)⟩, trivial⟩, ⟨⟨(fun h => by first | exact ⟨rfl, rfl⟩ | exact absurd h (by decide)), (fun h => by first | exact ⟨rfl, rfl⟩ | exact absurd h (by decide)), trivial⟩, ⟨(fun h => by first | exact ⟨rfl, rfl⟩ | exact absurd h (by decide)), (fun h => by first | exact ⟨rfl, rfl⟩ | exact absurd h (by decide)), trivial⟩, trivial⟩⟩
    · try simp only [hcs] at hc26
      have hcm : m = c := by omega
      subst hcm
      refine snd_exit ?_
      apply sr tokTB (by kernel_rfl)
      · intro RR hRR
        refine w_move (by constructor) ?_
        refine w_assign (by constructor) ?_
        exact hRR
      refine snd_ret ?_
      show retQ TB _ _ _ _ _ _
      exact rt_own rfl rfl rfl (fun _ => trivial) (fun V i hi => mt_row (fun _ _ => rfl))
end Go.Am

