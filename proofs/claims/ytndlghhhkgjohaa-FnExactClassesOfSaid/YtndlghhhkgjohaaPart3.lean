/- Part 3 of what the law stands on: abstract values, their walk, contracts of functions. My own work. Conditions: none. -/
import Derived.Test.YtndlghhhkgjohaaPart2
import Derived.Test.YtndlghhhkgjohaaProg
import Derived.WalkKit
import Derived.BigGuard
import Derived.BigCall
import Derived.CellFam
import Derived.Deep.Draws
import Derived.Deep.LoopGhost
import Derived.Deep.QuietTactic
import Derived.BigQuiet
import Derived.Lib.Walk
import Derived.Lib.SliceRun
import Derived.Lib.SlicesS
import Derived.Lib.SlicesCompact
import Derived.Sort.LotA
import Derived.Sort.Grow
set_option linter.unusedVariables false
namespace Go.Am
def theTab : Tab := [
  (1, .fnc, 1, 8),
  (2, .int .i64, 1, 8),
  (3, .int .i64, 1, 8),
  (4, .bool, 1, 1),
  (5, .int .u8, 1, 1),
  (9, .str, 1, 16),
  (12, .int .u64, 1, 8),
  (13, .sct [(9, 0), (12, 1)], 2, 24),
  (21, .int .i32, 1, 4),
  (22, .arr 6 5, 6, 6),
  (23, .arr 6 22, 36, 36),
  (24, .arr 6 23, 216, 216),
  (25, .arr 6 5, 6, 6),
  (26, .sct [(2, 0), (2, 1), (24, 2), (25, 218)], 224, 240),
  (27, .sct [(2, 0), (2, 1), (24, 2), (25, 218)], 224, 240),
  (28, .sct [(27, 0), (25, 224), (25, 230), (9, 236)], 237, 272),
  (29, .sct [(27, 0), (25, 224), (25, 230), (9, 236)], 237, 272),
  (30, .fnc, 1, 8),
  (31, .fnc, 1, 8),
  (32, .fnc, 1, 8),
  (33, .sct [(2, 0), (23, 1)], 37, 48),
  (34, .sct [(2, 0), (23, 1)], 37, 48),
  (35, .slc 62, 1, 24),
  (37, .fnc, 1, 8),
  (38, .sct [(2, 0), (23, 1)], 37, 48),
  (39, .fnc, 1, 8),
  (40, .fnc, 1, 8),
  (41, .fnc, 1, 8),
  (42, .fnc, 1, 8),
  (44, .fnc, 1, 8),
  (45, .fnc, 1, 8),
  (46, .fnc, 1, 8),
  (47, .slc 25, 1, 24),
  (49, .fnc, 1, 8),
  (50, .fnc, 1, 8),
  (51, .fnc, 1, 8),
  (53, .fnc, 1, 8),
  (54, .fnc, 1, 8),
  (55, .fnc, 1, 8),
  (56, .fnc, 1, 8),
  (57, .fnc, 1, 8),
  (58, .fnc, 1, 8),
  (59, .fnc, 1, 8),
  (60, .fnc, 1, 8),
  (61, .fnc, 1, 8),
  (62, .slc 2, 1, 24),
  (63, .fnc, 1, 8),
  (64, .fnc, 1, 8),
  (65, .arr 6 2, 6, 48),
  (66, .fnc, 1, 8),
  (67, .fnc, 1, 8),
  (68, .fnc, 1, 8),
  (69, .fnc, 1, 8),
  (70, .fnc, 1, 8),
  (71, .fnc, 1, 8),
  (72, .fnc, 1, 8),
  (73, .fnc, 1, 8),
  (74, .fnc, 1, 8),
  (76, .fnc, 1, 8),
  (77, .fnc, 1, 8),
  (78, .fnc, 1, 8),
  (79, .fnc, 1, 8),
  (80, .fnc, 1, 8),
  (81, .arr 6 4, 6, 6),
  (82, .fnc, 1, 8),
  (83, .fnc, 1, 8),
  (84, .fnc, 1, 8),
  (85, .ptr 38, 1, 8),
  (86, .fnc, 1, 8),
  (87, .fnc, 1, 8),
  (88, .fnc, 1, 8),
  (89, .fnc, 1, 8),
  (90, .fnc, 1, 8),
  (91, .fnc, 1, 8),
  (92, .fnc, 1, 8),
  (93, .slc 95, 1, 24),
  (94, .fnc, 1, 8),
  (95, .arr 3 3, 3, 24),
  (96, .fnc, 1, 8),
  (97, .ptr 27, 1, 8),
  (99, .fnc, 1, 8),
  (100, .fnc, 1, 8),
  (101, .fnc, 1, 8),
  (102, .fnc, 1, 8),
  (103, .fnc, 1, 8),
  (104, .arr 3 2, 3, 24),
  (105, .arr 6 104, 18, 144),
  (106, .fnc, 1, 8),
  (107, .slc 108, 1, 24),
  (108, .fnc, 1, 8),
  (109, .fnc, 1, 8),
  (110, .fnc, 1, 8),
  (111, .fnc, 1, 8),
  (112, .fnc, 1, 8),
  (113, .int .u64, 1, 8),
  (115, .fnc, 1, 8),
  (116, .fnc, 1, 8),
  (117, .fnc, 1, 8),
  (118, .fnc, 1, 8),
  (119, .fnc, 1, 8),
  (120, .fnc, 1, 8),
  (121, .fnc, 1, 8),
  (122, .fnc, 1, 8),
  (123, .int .i64, 1, 8),
  (125, .fnc, 1, 8),
  (126, .fnc, 1, 8),
  (127, .fnc, 1, 8),
  (128, .fnc, 1, 8),
  (130, .fnc, 1, 8),
  (131, .fnc, 1, 8),
  (132, .int .u32, 1, 4),
  (133, .fnc, 1, 8),
  (134, .int .u64, 1, 8),
  (135, .fnc, 1, 8),
  (136, .fnc, 1, 8),
  (137, .fnc, 1, 8),
  (138, .int .u64, 1, 8),
  (139, .fnc, 1, 8),
  (140, .fnc, 1, 8),
  (141, .fnc, 1, 8),
  (142, .ptr 3, 1, 8),
  (143, .fnc, 1, 8),
  (144, .fnc, 1, 8),
  (145, .fnc, 1, 8),
  (146, .fnc, 1, 8),
  (147, .fnc, 1, 8),
  (148, .fnc, 1, 8),
  (149, .fnc, 1, 8),
  (150, .ptr 138, 1, 8),
  (152, .fnc, 1, 8),
  (153, .fnc, 1, 8),
  (154, .fnc, 1, 8),
  (162, .fnc, 1, 8),
  (163, .ptr 5, 1, 8)]
def TB : TT := mkT theTab
theorem tokTB : TOk Go.Proofs.Try.prog TB := tok (by kernel_rfl)
theorem mixed : Go.Proofs.Try.prog.follows .mixedOrders = true := by kernel_rfl
theorem und2 : TB.und 2 = .int .i64 := by kernel_rfl
theorem sz2 : TB.sz 2 = 1 := by kernel_rfl
theorem by2 : TB.by_ 2 = 8 := by kernel_rfl
theorem kn2 : (TB.und 2).known = true := by kernel_rfl
theorem ag2 : (TB.und 2).isAgg = false := by kernel_rfl
theorem nz2 : TB.sz 2 ≠ 0 := by rw [sz2]; decide
theorem zr2 : TB.zero 2 = .int .i64 0 := by kernel_rfl
theorem und3 : TB.und 3 = .int .i64 := by kernel_rfl
theorem sz4 : TB.sz 4 = 1 := by kernel_rfl
theorem kn4 : (TB.und 4).known = true := by kernel_rfl
theorem ag4 : (TB.und 4).isAgg = false := by kernel_rfl
theorem und5 : TB.und 5 = .int .u8 := by kernel_rfl
theorem sz5 : TB.sz 5 = 1 := by kernel_rfl
theorem kn5 : (TB.und 5).known = true := by kernel_rfl
theorem ag5 : (TB.und 5).isAgg = false := by kernel_rfl
theorem und22 : TB.und 22 = .arr 6 5 := by kernel_rfl
theorem sz22 : TB.sz 22 = 6 := by kernel_rfl
theorem kn22 : (TB.und 22).known = true := by kernel_rfl
theorem ag22 : (TB.und 22).isAgg = true := by kernel_rfl
theorem zr22 : TB.zero 22 = .arr 6 (fun _ => .int .u8 0) := by kernel_rfl
theorem und23 : TB.und 23 = .arr 6 22 := by kernel_rfl
theorem sz23 : TB.sz 23 = 36 := by kernel_rfl
theorem kn23 : (TB.und 23).known = true := by kernel_rfl
theorem ag23 : (TB.und 23).isAgg = true := by kernel_rfl
theorem nz23 : TB.sz 23 ≠ 0 := by rw [sz23]; decide
theorem zr23 : TB.zero 23 = .arr 6 (fun _ => .arr 6 (fun _ => .int .u8 0)) := by kernel_rfl
theorem zr25 : TB.zero 25 = .arr 6 (fun _ => .int .u8 0) := by kernel_rfl
theorem und34 : TB.und 34 = .sct [(2, 0), (23, 1)] := by kernel_rfl
theorem sz34 : TB.sz 34 = 37 := by kernel_rfl
theorem kn34 : (TB.und 34).known = true := by kernel_rfl
theorem ag34 : (TB.und 34).isAgg = true := by kernel_rfl
theorem und35 : TB.und 35 = .slc 62 := by kernel_rfl
theorem und38 : TB.und 38 = .sct [(2, 0), (23, 1)] := by kernel_rfl
theorem sz38 : TB.sz 38 = 37 := by kernel_rfl
theorem kn38 : (TB.und 38).known = true := by kernel_rfl
theorem ag38 : (TB.und 38).isAgg = true := by kernel_rfl
theorem und62 : TB.und 62 = .slc 2 := by kernel_rfl
theorem sz62 : TB.sz 62 = 1 := by kernel_rfl
theorem by62 : TB.by_ 62 = 24 := by kernel_rfl
theorem kn62 : (TB.und 62).known = true := by kernel_rfl
theorem ag62 : (TB.und 62).isAgg = false := by kernel_rfl
theorem und81 : TB.und 81 = .arr 6 4 := by kernel_rfl
theorem sz81 : TB.sz 81 = 6 := by kernel_rfl
theorem kn81 : (TB.und 81).known = true := by kernel_rfl
theorem zr81 : TB.zero 81 = .arr 6 (fun _ => .bool false) := by kernel_rfl
theorem mi {V : Vw} {k : IntKind} {a b : Int} (h : b = a := by first | rfl | omega | (simp; done) | (simp; omega)) : MtE V (.int k a) (.int k b) := m_int h
theorem sx {a b : AV} (h : ssh a b := by first | exact trivial | exact ssh_vec | exact ssh_alg | exact ssh_grp | exact ssh_dsk | exact ssh_pr | exact sshTn trivial | exact ssh_tab | exact ssh_mat | exact ⟨rfl, fun _ => trivial⟩ | exact ⟨rfl, fun _ => by rw [zr25]; exact ssh_vec⟩ | exact ⟨rfl, fun k => by match k with | 0 => exact trivial | 1 => exact trivial | 2 => exact trivial | 3 => exact trivial | 4 => exact trivial | k + 5 => exact trivial⟩) : ssh a b := h
end Go.Am

set_option linter.unusedVariables false
namespace Go.Proofs
open Go.RowKit Go.Lib Go.Sort
def numOf64 : Value → Int | .int _ q => q | _ => 0
section
variable {α : Type} [Inhabited α] (lt : α → α → Bool)
theorem inner_go (a j : Nat) (d : Array α) (hj : a < j) (hl : lt d[j]! d[j - 1]! = true) : insInner lt a j d = insInner lt a (j - 1) (swp d j (j - 1)) := by
  obtain ⟨k, rfl⟩ : ∃ k, j = k + 1 := ⟨j - 1, by omega⟩
  rw [insInner]
  simp only [Nat.add_sub_cancel] at hl ⊢
  simp [hj, hl]
theorem inner_stop (a j : Nat) (d : Array α) (h : j ≤ a ∨ lt d[j]! d[j - 1]! = false) : insInner lt a j d = d := by
  cases j with
  | zero => rw [insInner]
  | succ k =>
    rw [insInner]
    simp only [Nat.add_sub_cancel] at h
    rcases h with h | h
    · simp [show ¬ k + 1 > a by omega]
    · simp [h]
theorem outer_go (a b i : Nat) (d : Array α) (h : i < b) : insOuter lt a b i d = insOuter lt a b (i + 1) (insInner lt a i d) := by rw [insOuter, if_pos h]
theorem outer_stop (a b i : Nat) (d : Array α) (h : ¬ i < b) : insOuter lt a b i d = d := by rw [insOuter, if_neg h]
end
section
variable {α : Type} [Inhabited α] (enc : α → Value)
theorem row_drewN (w : World) (m q blk off : Nat) (d : Array α) : (putRow enc (Sort.ahead w m) blk off d).drewN q = putRow enc (Sort.ahead w (m + q)) blk off d := by
  show Sort.ahead (putRow enc (Sort.ahead w m) blk off d) q = _
  rw [putRow_ahead enc w m, ahead_ahead, ← putRow_ahead]
theorem row_swap (w : World) (m q blk off : Nat) (d : Array α) (j k : Nat) (hj : j < d.size) (hk : k < d.size) :
    (((putRow enc (Sort.ahead w m) blk off d).drewN q).setCell ⟨blk, off + j, none⟩ (enc d[k]!)).setCell ⟨blk, off + k, none⟩ (enc d[j]!) = putRow enc (Sort.ahead w (m + q)) blk off (swp d j k) := by
  rw [row_drewN]
  exact putRow_swp enc _ blk off d j k hj hk
end
theorem row_store {w wr : World} {n blk off : Nat} {dk : Array Int} {i : Nat} (hi : i < dk.size) (hwr : wr = putRow (Value.int .i64) (Sort.ahead w n) blk off dk) (x : Int) :
    (wr.setCell ⟨blk, off + i, none⟩ (Value.int .i64 x)).drew = putRow (Value.int .i64) (Sort.ahead w (n + 1)) blk off (dk.setIfInBounds i x) := by
  subst hwr
  rw [putRow_set (Value.int .i64) _ blk off dk i x hi, ← ahead_drew]
  rfl
set_option maxHeartbeats 1000000 in
theorem isNaN64 (x : Int) (w : World) : Calls Try.prog 119 #[.int .i64 x] w fun e w' => e = .returned (.bool false) ∧ w' = w := by
  go_enter Try.func119, Try.ntmps119
  go_wp2
  go_ret
  exact ⟨by simp, rfl⟩
set_option maxHeartbeats 1000000 in
theorem less64 (x y : Int) (w : World) : Calls Try.prog 105 #[.int .i64 x, .int .i64 y] w fun e w' => e = .returned (.bool (Sort.ltInt x y)) ∧ w' = w := by
  go_enter Try.func105, Try.ntmps105
  go_wp2_with (go_at_call 119; refine (isNaN64 _ _).mono ?_; rintro e w' ⟨rfl, rfl⟩)
  go_ret
  exact ⟨rfl, rfl⟩
set_option maxHeartbeats 4000000 in
set_option maxRecDepth 100000 in
theorem insSort64 (blk off cap a b : Nat) (d : Array Int) (w : World) (hH : Holds (Value.int .i64) w blk off d) (hab : a ≤ b) (hb : b ≤ d.size) (hsz : d.size < 4611686018427387904) :
    Calls Try.prog 99 #[.slice (some ⟨blk, off, none⟩) d.size cap, .int .i64 a, .int .i64 b] w fun e w' =>
      e = .returned (.tuple #[]) ∧ ∃ n, w' = putRow (Value.int .i64) (Sort.ahead w n) blk off (Sort.insertionSort ltInt d a b) := by
  go_enter Try.func99, Try.ntmps99
  go_wp2
  go_loopw [6] (fun vi wr => ∃ (i n : Nat) (dk : Array Int), vi = .int .i64 i ∧ a < i ∧ i ≤ b + 1 ∧ dk.size = d.size ∧ wr = putRow (Value.int .i64) (Sort.ahead w n) blk off dk ∧
      insOuter ltInt a b i dk = insOuter ltInt a b (a + 1) d) (fun vi _ => b + 1 - (numOf64 vi).toNat)
  case atStart => exact ⟨a + 1, 0, d, by go_num, by omega, by omega, rfl, (putRow_self _ _ _ _ _ hH).symm, rfl⟩
  case round =>
    obtain ⟨i, n, dk, rfl, hai, hib, hsk, hwr, hO⟩ := hrel
    have HO : Hid (insOuter ltInt a b i dk = insOuter ltInt a b (a + 1) d) := hO
    clear hO
    go_wp2
    · go_loopw [7] (fun vj wr2 => ∃ (j m : Nat) (dj : Array Int), vj = .int .i64 j ∧ a ≤ j ∧ j ≤ i ∧ dj.size = d.size ∧ wr2 = putRow (Value.int .i64) (Sort.ahead w m) blk off dj ∧
          insInner ltInt a j dj = insInner ltInt a i dk) (fun vj _ => (numOf64 vj).toNat)
      case atStart => exact ⟨i, n, dk, rfl, by omega, Nat.le_refl _, hsk, rfl, rfl⟩
      case round =>
        obtain ⟨j, m, dj, rfl, haj, hji, hsj, hw2, hI⟩ := hrel
        have hlt : i < b := by assumption
        obtain ⟨G, hG⟩ : ∃ G : Nat → Int, ∀ t, G t = dj[t]! := ⟨fun t => dj[t]!, fun _ => rfl⟩
        have hcw : ∀ t, t < d.size → wr.cell? ⟨blk, off + t, none⟩ = some (.int .i64 (G t)) := fun t ht => by
          rw [hw2, hG]; exact cell?_putRow _ _ _ _ d dj (holds_ahead _ _ _ _ _ _ hH) hsj t (by omega)
        have hfw : ∀ t, t < d.size → wr.frozen? ⟨blk, off + t, none⟩ = false := fun t ht => by
          rw [hw2, frozen?_putRow]; exact ((holds_ahead _ _ m _ _ _ hH) t ht).2
        have HW : Hid (wr = putRow (Value.int .i64) (Sort.ahead w m) blk off dj) := hw2
        have HG : Hid (∀ t, G t = dj[t]!) := hG
        have HI : Hid (insInner ltInt a j dj = insInner ltInt a i dk) := hI
        clear hw2 hG hI hH
        have out : (j ≤ a ∨ ltInt dj[j]! dj[j - 1]! = false) → ∀ q, ∃ i' n' dk', Value.int .i64 ((i : Int) + 1) = .int .i64 (i' : Nat) ∧ a < i' ∧ i' ≤ b + 1 ∧ dk'.size = d.size ∧
            wr.drewN q = putRow (Value.int .i64) (Sort.ahead w n') blk off dk' ∧ insOuter ltInt a b i' dk' = insOuter ltInt a b (a + 1) d := fun hs q =>
          ⟨i + 1, m + q, dj, by go_num, by omega, by omega, hsj, by rw [HW.out]; exact row_drewN _ _ _ _ _ _ _,
            by rw [← HO.out, outer_go _ _ _ _ _ hlt, ← HI.out, inner_stop _ _ _ _ hs]⟩
        have OUT : Hid _ := out
        clear out
        go_wp2
        by_cases hja : a < j
        · go_quiet (first | (go_at_call 105; refine Calls.quiet_of_same (less64 _ _ _)))
          go_wp2
          · have hl : ltInt (G j) (G (j - 1)) = true := by assumption
            go_region
            all_goals go_wp2
            go_roundw
            case rel =>
              refine ⟨j - 1, m + (nq + 1), swp dj j (j - 1), by congr 1; omega, by omega, by omega, by rw [size_swp]; exact hsj, ?_, ?_⟩
              · rw [HW.out, HG.out, HG.out]
                exact row_swap _ w m (nq + 1) blk off dj j (j - 1) (by omega) (by omega)
              · rw [← HI.out, inner_go ltInt a j dj hja (by rw [← HG.out, ← HG.out]; exact hl)]
            case measure => simp [numOf64]; omega
          · have hl : ltInt (G j) (G (j - 1)) = false := by assumption
            go_roundw
            case rel => exact OUT.out (Or.inr (by rw [← HG.out, ← HG.out]; exact hl)) nq
            case measure => simp [numOf64]; omega
        · go_quiet (first | (go_at_call 105; refine Calls.quiet_of_same (less64 _ _ _)))
          go_wp2
          go_roundw
          case rel => exact OUT.out (Or.inl (by omega)) nq
          case measure => simp [numOf64]; omega
    · have hge : ¬ i < b := by assumption
      go_end0
      exact ⟨rfl, n, by unfold Sort.insertionSort; rw [← HO.out, outer_stop _ _ _ _ _ hge]⟩
set_option maxHeartbeats 4000000 in
set_option maxRecDepth 1000000 in
theorem comp64 (blk off cap : Nat) (d : Array Int) (w : World) (hH : Holds (Value.int .i64) w blk off d) (hsz : d.size ≤ 9223372036854775807) (hcap : d.size ≤ cap) :
    Calls Try.prog 80 #[.slice (some ⟨blk, off, none⟩) d.size cap] w fun e w' => e = .returned (.slice (some ⟨blk, off, none⟩) (compactUpTo d d.size).length cap) ∧ ∃ q, w' = putRow (Value.int .i64) (Sort.ahead w q) blk off (compactUpTo d d.size ++ List.replicate (d.size - (compactUpTo d d.size).length) 0).toArray := by
  have same : ∀ q, (∀ j, j < d.size → keeps d j = true) → (compactUpTo d d.size).length = d.size ∧ w.drewN q = putRow (Value.int .i64) (Sort.ahead w q) blk off (compactUpTo d d.size ++ List.replicate (d.size - (compactUpTo d d.size).length) 0).toArray := by
    intro q hall
    have e : compactUpTo d d.size = d.toList := by rw [compactUpTo_all d _ hall, range_map_get]
    rw [e]
    refine ⟨by simp, ?_⟩
    simp only [Array.length_toList, Nat.sub_self, List.replicate_zero, List.append_nil, Array.toArray_toList]
    exact (putRow_self (Value.int .i64) (Sort.ahead w q) blk off d (holds_ahead (Value.int .i64) w q blk off d hH)).symm
  have HS : Aside (∀ q, (∀ j, j < d.size → keeps d j = true) → (compactUpTo d d.size).length = d.size ∧ w.drewN q = putRow (Value.int .i64) (Sort.ahead w q) blk off (compactUpTo d d.size ++ List.replicate (d.size - (compactUpTo d d.size).length) 0).toArray) := same
  clear same
  by_cases h2 : d.size < 2
  · have HH : Aside (Holds (Value.int .i64) w blk off d) := hH
    clear hH
    go_enter Try.func80, Try.ntmps80
    go_wp2
    go_ret
    obtain ⟨e1, e2⟩ := HS.out 0 (fun j hj => keeps_lt_one d j (by omega))
    exact ⟨by rw [e1]; rfl, 0, e2⟩
  · go_enter Try.func80, Try.ntmps80
    go_wp2
    go_loopg [3] d.size (fun g s3 wr => ∃ k q : Nat, 1 ≤ k ∧ k ≤ d.size ∧ d.size - k ≤ g ∧ s3 = .int .i64 k ∧ wr = w.drewN q ∧ ∀ j, j < k → keeps d j = true)
    case atStart => exact ⟨1, 0, Nat.le_refl _, by omega, by omega, rfl, rfl, keeps_lt_one d⟩
    case round =>
      obtain ⟨k, q, hk1, hk, hg, rfl, rfl, hall⟩ := hrel
      by_cases hlt : k < d.size
      · obtain ⟨c1, f1⟩ := hH k hlt
        obtain ⟨c0, f0⟩ := hH (k - 1) (by omega)
        have A : Aside (∀ j, j < k → keeps d j = true) := hall
        have HH : Aside (Holds (Value.int .i64) w blk off d) := hH
        clear hall hH
        generalize hx : d[k]! = x at c1
        generalize hy : d[k - 1]! = y at c0
        have B : Aside (d[k]! = x ∧ d[k - 1]! = y) := ⟨hx, hy⟩
        clear hx hy
        by_cases hdup : x = y
        · subst hdup
          go_wp2_with fail
          go_region
          go_wp2
          clear c0 c1 f0 f1
          go_loopg [3, 5] d.size (fun g s3 s5 wr => ∃ (kk k2 q2 : Nat) (dk : Array Int), s3 = .int .i64 kk ∧ s5 = .int .i64 k2 ∧ 1 ≤ k2 ∧ k + k2 ≤ d.size ∧ d.size - (k + k2) ≤ g ∧ wr = putRow (Value.int .i64) (Sort.ahead w q2) blk off dk ∧ CompInv d (k + k2) kk dk)
          case atStart => exact ⟨k, 1, q + 1, d, rfl, rfl, Nat.le_refl _, by omega, by omega, (putRow_self (Value.int .i64) (Sort.ahead w (q + 1)) blk off d (holds_ahead (Value.int .i64) w (q + 1) blk off d HH.out)).symm, CompInv.start A.out (keeps_neg (by omega) (by rw [B.out.1, B.out.2]))⟩
          case round =>
            obtain ⟨kk, k2, q2, dk, rfl, rfl, h1, hle, hg2, hwr, hI⟩ := hrel
            have hkk := hI.lt
            have hds := hI.size
            have hHk : Holds (Value.int .i64) wr blk off dk := by rw [hwr]; exact holds_putRow (Value.int .i64) _ blk off d dk (holds_ahead (Value.int .i64) w q2 blk off d HH.out) hds
            have W2 : Aside (wr = putRow (Value.int .i64) (Sort.ahead w q2) blk off dk) := hwr
            have I2 : Aside (CompInv d (k + k2) kk dk) := hI
            clear hwr
            by_cases hlt2 : k + k2 < d.size
            · obtain ⟨cm, _⟩ := hHk (k + k2) (by omega)
              obtain ⟨cp, _⟩ := hHk (k + k2 - 1) (by omega)
              obtain ⟨ck, fk⟩ := hHk kk (by omega)
              rw [hI.high (k + k2) (by omega), show off + (k + k2) = off + k + k2 by omega] at cm
              rw [hI.high (k + k2 - 1) (by omega), show off + (k + k2 - 1) = off + k + (k2 - 1) by omega] at cp
              clear hHk hI
              generalize hu : d[k + k2]! = u at cm
              generalize hv : d[k + k2 - 1]! = v at cp
              generalize dk[kk]! = old at ck
              have C : Aside (d[k + k2]! = u ∧ d[k + k2 - 1]! = v) := ⟨hu, hv⟩
              clear hu hv
              by_cases huv : u = v
              · subst huv
                go_wp2_with fail
                go_region
                go_wp2
                go_roundg (d.size - (k + (k2 + 1)))
                case measure => omega
                case rel => exact ⟨kk, k2 + 1, q2 + 1, dk, rfl, by go_num, by omega, by omega, Nat.le_refl _, by rw [W2.out]; rfl, I2.out.skip (keeps_neg (by omega) (by rw [C.out.1, C.out.2]))⟩
              · go_wp2_with fail
                go_region
                go_wp2
                go_roundg (d.size - (k + (k2 + 1)))
                case measure => omega
                case rel => exact ⟨kk + 1, k2 + 1, q2 + 1, dk.setIfInBounds kk u, by go_num, by go_num, by omega, by omega, Nat.le_refl _, row_store (by omega) W2.out u, by have := I2.out.keep hlt2 (keeps_pos (by rw [C.out.1, C.out.2]; exact huv)); rwa [C.out.1] at this⟩
            · have hend : k + k2 = d.size := by omega
              have hcl : ∀ ty, (Builtin.clear_ #[62] ty #[.slice (some ⟨blk, off + kk, none⟩) (d.size - kk) (cap - kk)]).run Try.prog wr = .ok (.tuple #[]) (wr.setCells blk (off + kk) (List.replicate (d.size - kk) ((Value.int .i64) 0))) :=
                fun ty => Lib.run_clear_slice wr _ _ ty _ Try.underlying62 Try.zeroValue2 rfl rfl blk (off + kk) _ _ (by omega) (fun j hj => by rw [show off + kk + j = off + (kk + j) by omega, (hHk (kk + j) (by omega)).1]; rfl) (fun j hj => by rw [show off + kk + j = off + (kk + j) by omega]; exact (hHk (kk + j) (by omega)).2)
              clear hHk hI
              go_wp2
              go_ret
              have hI := I2.out
              rw [hend] at hI
              refine ⟨by rw [hI.len]; rfl, q2, ?_⟩
              rw [hI.len, ← hI.done 0, ← putRow_setCells (Value.int .i64) _ blk off _ dk kk (by simp; omega), ← W2.out, List.map_replicate]
        · go_wp2_with fail
          go_region
          go_wp2
          go_roundg (d.size - (k + 1))
          case measure => omega
          case rel =>
            refine ⟨k + 1, q + 1, by omega, by omega, Nat.le_refl _, by go_num, rfl, fun j hj => ?_⟩
            by_cases e : j = k
            · subst e
              exact keeps_pos (by rw [B.out.1, B.out.2]; exact hdup)
            · exact A.out j (by omega)
      · have : k = d.size := by omega
        subst this
        have HH : Aside (Holds (Value.int .i64) w blk off d) := hH
        clear hH
        go_wp2
        go_ret
        obtain ⟨e1, e2⟩ := HS.out q hall
        exact ⟨by rw [e1]; rfl, q, e2⟩
set_option maxHeartbeats 4000000 in
set_option maxRecDepth 100000 in
theorem pdq64 (blk off cap : Nat) (lim : Int) (d : Array Int) (w : World) (hH : Holds (Value.int .i64) w blk off d) (hsz : d.size ≤ 12) :
    Calls Try.prog 88 #[.slice (some ⟨blk, off, none⟩) d.size cap, .int .i64 0, .int .i64 d.size, .int .i64 lim] w fun e w' =>
      e = .returned (.tuple #[]) ∧ ∃ n, w' = putRow (Value.int .i64) (Sort.ahead w n) blk off (Sort.insertionSort ltInt d 0 d.size) := by
  have hins := insSort64 blk off cap 0 d.size d w hH (Nat.zero_le _) (Nat.le_refl _) (by omega)
  clear hH
  go_enter Try.func88, Try.ntmps88
  go_wp2
  go_loopg [1, 2] 0 (fun g s1 s2 wr => s1 = .int .i64 0 ∧ s2 = .int .i64 (d.size : Nat) ∧ wr = w)
  case atStart => exact ⟨rfl, rfl, rfl⟩
  case round =>
    obtain ⟨rfl, rfl, rfl⟩ := hrel
    have h12z : (d.size : Int) - 0 ≤ 12 := by omega
    have h12y : (d.size : Int) ≤ 12 := by omega
    go_wp2_with (go_at_call 99; refine hins.mono ?_; rintro e w' ⟨rfl, n, rfl⟩)
    (try simp only [Exit.inBlock, Exit.then]); refine bodyPost_ret (results_none rfl _ _ _) rfl ?_
    exact ⟨rfl, n, rfl⟩
set_option maxHeartbeats 4000000 in
set_option maxRecDepth 100000 in
theorem len64 (n : Nat) (hn : n ≤ 12) (w : World) : Calls Try.prog 109 #[.int .u64 (n : Int)] w fun e w' => (∃ v : Int, e = .returned (.int .i64 v)) ∧ w' = w := by
  have h : n = 0 ∨ n = 1 ∨ n = 2 ∨ n = 3 ∨ n = 4 ∨ n = 5 ∨ n = 6 ∨ n = 7 ∨ n = 8 ∨ n = 9 ∨ n = 10 ∨ n = 11 ∨ n = 12 := by omega
  rcases h with rfl | rfl | rfl | rfl | rfl | rfl | rfl | rfl | rfl | rfl | rfl | rfl | rfl
  all_goals
    go_enter Try.func109, Try.ntmps109
    go_wp2
    go_ret
    exact ⟨⟨_, rfl⟩, rfl⟩
set_option maxHeartbeats 1000000 in
theorem len64b (n : Nat) (hn : n ≤ 12) (w : World) : Calls Try.prog 89 #[.int .u64 (n : Int)] w fun e w' => (∃ v : Int, e = .returned (.int .i64 v)) ∧ w' = w := by
  have h := len64 n hn w
  go_enter Try.func89, Try.ntmps89
  go_wp2_with (go_at_call 109; refine h.mono ?_; rintro e w' ⟨⟨v, rfl⟩, rfl⟩)
  go_ret
  exact ⟨⟨_, rfl⟩, rfl⟩
set_option maxHeartbeats 1000000 in
theorem sort64 (blk off cap : Nat) (d : Array Int) (w : World) (hH : Holds (Value.int .i64) w blk off d) (hsz : d.size ≤ 12) :
    Calls Try.prog 79 #[.slice (some ⟨blk, off, none⟩) d.size cap] w fun e w' => e = .returned (.tuple #[]) ∧ ∃ n, w' = putRow (Value.int .i64) (Sort.ahead w n) blk off (Sort.insertionSort ltInt d 0 d.size) := by
  have hlen := len64b d.size hsz w
  have hpdq := fun lim => pdq64 blk off cap lim d w hH hsz
  clear hH
  go_enter Try.func79, Try.ntmps79
  go_wp2_with (first
    | (go_at_call 89; refine hlen.mono ?_; rintro e w' ⟨⟨v, rfl⟩, rfl⟩)
    | (go_at_call 88; refine (hpdq _).mono ?_; rintro e w' ⟨rfl, n, rfl⟩))
  go_end0
  exact ⟨rfl, n, rfl⟩
end Go.Proofs
namespace Go.Am
open Go.Proofs Go.Sort Go.Lib
theorem row_world {w : World} {b q n : Nat} {os : Array Obj} {cur : Array Value} {e : TypeId} {d : List Int} (hb : w.heap[b]? = some (.cells cur e (0, 0))) (hd : d.length = n) (hn : n ≤ cur.size) :
    ∃ cur2, (grow (putRow (Value.int .i64) (Sort.ahead w q) b 0 d.toArray) os).heap[b]? = some (.cells cur2 e (0, 0)) ∧ cur2.size = cur.size ∧ (∀ j, j < n → cur2.getD j undef = .int .i64 (d.getD j 0)) ∧
      (grow (putRow (Value.int .i64) (Sort.ahead w q) b 0 d.toArray) os).os = w.os ∧ (grow (putRow (Value.int .i64) (Sort.ahead w q) b 0 d.toArray) os).tape = w.tape ∧ (grow (putRow (Value.int .i64) (Sort.ahead w q) b 0 d.toArray) os).output = w.output ∧
      w.heap.size ≤ (grow (putRow (Value.int .i64) (Sort.ahead w q) b 0 d.toArray) os).heap.size ∧ ∀ b', b' < w.heap.size → b' ≠ b → (grow (putRow (Value.int .i64) (Sort.ahead w q) b 0 d.toArray) os).heap[b']? = w.heap[b']? := by
  have hlt : b < w.heap.size := (Array.getElem?_eq_some_iff.1 hb).1
  have hsz : (putRow (Value.int .i64) (Sort.ahead w q) b 0 d.toArray).heap.size = w.heap.size := by simp
  have hheap : ∀ b', b' < w.heap.size → (grow (putRow (Value.int .i64) (Sort.ahead w q) b 0 d.toArray) os).heap[b']? = if b = b' then (w.heap[b']?).map (onCells (putCells (Value.int .i64) 0 d.toArray)) else w.heap[b']? := fun b' hb' => by
    rw [heap_grow_old _ _ (by omega)]
    simp only [putRow, mapBlock, heap_ahead, Array.getElem?_modify]
  refine ⟨putCells (Value.int .i64) 0 d.toArray cur, ?_, by simp [putCells], fun j hj => ?_, rfl, rfl, rfl, by rw [size_grow, hsz]; omega, fun b' hb' hne => by rw [hheap b' hb', if_neg (Ne.symm hne)]⟩
  · rw [hheap b hlt, if_pos rfl, hb]; rfl
  · have h1 : j < cur.size := by omega
    simp [putCells, h1, hd, hj]
theorem row_holds {w : World} {b n : Nat} {cur : Array Value} {e : TypeId} {F : Nat → Int} (hb : w.heap[b]? = some (.cells cur e (0, 0))) (hn : n ≤ cur.size) (hF : ∀ j, j < n → cur.getD j undef = .int .i64 (F j)) :
    Holds (Value.int .i64) w b 0 ((List.range n).map F).toArray := by
  intro j hj
  have hj : j < n := by simpa using hj
  have h1 : j < cur.size := by omega
  have h2 := hF j hj
  refine ⟨?_, by simp [World.frozen?, hb]⟩
  simp only [Nat.zero_add, World.cell?, hb]
  rw [Array.getD_eq_getD_getElem?] at h2
  rw [Array.getElem?_eq_getElem h1] at h2 ⊢
  simp only [Option.getD_some] at h2
  simp [h2, hj]
theorem srt_list {n : Nat} {F : Nat → Int} : (Sort.insertionSort ltInt ((List.range n).map F).toArray 0 ((List.range n).map F).toArray.size).toList = ((List.range n).map F).mergeSort (fun x y => decide (x ≤ y)) := by
  obtain ⟨hP, hS⟩ := insertionSort_holds (lt := ltInt) swo_ltInt ((List.range n).map F).toArray 0 ((List.range n).map F).toArray.size (Nat.zero_le _) (Nat.le_refl _)
  have h := sorted_unique_holds swo_ltInt (fun x y h1 h2 => by simp only [ltInt, decide_eq_false_iff_not] at h1 h2; omega) ((List.range n).map F).toArray _ hP hS
  rw [h]
  congr 1
  funext x y
  simp only [ltInt, ← decide_not, Int.not_lt]
theorem sort_turn {n : Nat} {F : Nat → Int} (hn : n ≤ 12) : TurnC Try.prog 79 n n F (srtF n F) (fun _ _ => .tuple #[]) := by
  intro w b cap cur e hb hnc hcm hcs hF
  have hsz : ((List.range n).map F).toArray.size = n := by simp
  have h := sort64 b 0 cap ((List.range n).map F).toArray w (row_holds hb (by omega) hF) (by omega)
  have hl := srt_list (n := n) (F := F)
  rw [hsz] at h hl
  refine Calls.mono h ?_
  rintro ex w' ⟨rfl, q, rfl⟩
  have := row_world (w := w) (q := q) (os := #[]) (d := ((List.range n).map F).mergeSort (fun x y => decide (x ≤ y))) (n := n) hb (by rw [List.length_mergeSort]; simp) (by omega)
  rw [grow_empty, ← hl, Array.toArray_toList] at this
  refine ⟨rfl, ?_⟩
  rw [hl] at this
  exact this
theorem comp_turn {n : Nat} {F : Nat → Int} (hn : n ≤ 1000) : TurnC Try.prog 80 n (cmpN n F) F (cmpF n F) (fun b cap => .slice (some ⟨b, 0, none⟩) (cmpN n F) cap) := by
  intro w b cap cur e hb hnc hcm hcs hF
  have hsz : ((List.range n).map F).toArray.size = n := by simp
  have h := comp64 b 0 cap ((List.range n).map F).toArray w (row_holds hb (by omega) hF) (by rw [hsz]; omega) (by rw [hsz]; omega)
  rw [hsz] at h
  refine Calls.mono h ?_
  rintro ex w' ⟨rfl, q, rfl⟩
  have hle : (compactUpTo ((List.range n).map F).toArray n).length ≤ n := cmp_le n F
  obtain ⟨cur2, k1, k2, k3, k4⟩ := row_world (w := w) (q := q) (os := #[]) (d := compactUpTo ((List.range n).map F).toArray n ++ List.replicate (n - (compactUpTo ((List.range n).map F).toArray n).length) 0) (n := n) hb (by rw [List.length_append, List.length_replicate]; omega) (by omega)
  rw [grow_empty] at k1 k4
  refine ⟨rfl, cur2, k1, k2, fun j hj => ?_, k4⟩
  rw [k3 j (Nat.lt_of_lt_of_le hj hle)]
  congr 1
  have hj : j < (compactUpTo ((List.range n).map F).toArray n).length := hj
  show _ = (compactUpTo ((List.range n).map F).toArray n).getD j 0
  simp [List.getD, List.getElem?_append_left hj]
end Go.Am

set_option linter.unusedVariables false
set_option linter.unusedSimpArgs false
set_option maxRecDepth 4000
namespace Go.Am
attribute [local irreducible] retQ retQp
open Go.Proofs
theorem c_l01In {n lo hi : Int} : ACalls Try.prog TB 62 [.int .i64 n, .int .i64 lo, .int .i64 hi] (.bool (decide (lo ≤ n) && decide (n ≤ hi))) [] := by
  refine acalls_of tokTB Try.func62 rfl rfl (Nat.le_of_ble_eq_true rfl) ?_
  apply sr tokTB (by kernel_rfl)
  · intro RR hRR
    refine w_assign (by constructor) ?_
    exact hRR
  apply srG (env' := (6, .bool (decide (lo ≤ n) && decide (n ≤ hi))) :: (14, .bool (decide (lo ≤ n) && decide (n ≤ hi))) :: (13, .any) :: (12, .any) :: (11, .any) :: (10, _) :: (9, _) :: (8, _) :: (7, _) :: _) tokTB (by kernel_rfl)
  · intro RR hRR
    refine w_move (by constructor) ?_
    refine w_move (by constructor) ?_
    refine w_geq rfl rfl ?_
    refine w_move (by constructor) ?_
    refine w_g rfl rfl (fun hg3 => ?_) (fun hg3 => ?_)
    · skip
      refine w_move (by constructor) ?_
      refine w_g_on rfl rfl hg3 ?_
      refine w_move (by constructor) ?_
      refine w_g_on rfl rfl hg3 ?_
      refine w_leq rfl rfl ?_
      refine w_pick_1 rfl hg3 (by constructor) ?_
      refine w_assign (by constructor) ?_
      try simp only [Int.toNat_natCast] at hg3
      exact hRR _ (EL.cons (.inr (by first | rfl | (simp only [hg3, els]; done) | (simp only [hg3, els]; rfl) | (simp [hg3]; done) | (clear hRR; simp_all; done))) (EL.cons (.inr (by first | rfl | (simp only [hg3, els]; done) | (simp only [hg3, els]; rfl) | (simp [hg3]; done) | (clear hRR; simp_all; done))) (EL.cons (.inl rfl) (EL.cons (.inl rfl) (EL.cons (.inl rfl) (EL.cons (.inr rfl) (EL.cons (.inr rfl) (EL.cons (.inr rfl) (EL.cons (.inr rfl) (EL.refl _))))))))))
    · have hg3 := eq_false_of_ne_true hg3
      refine w_g_off rfl rfl (by rw [hg3]; decide) ?_
      refine w_g_off rfl rfl (by rw [hg3]; decide) ?_
      refine w_pick_0 rfl hg3 (by constructor) ?_
      refine w_assign (by constructor) ?_
      try simp only [Int.toNat_natCast] at hg3
      exact hRR _ (EL.cons (.inr (by first | rfl | (simp only [hg3, els]; done) | (simp only [hg3, els]; rfl) | (simp [hg3]; done) | (clear hRR; simp_all; done))) (EL.cons (.inr (by first | rfl | (simp only [hg3, els]; done) | (simp only [hg3, els]; rfl) | (simp [hg3]; done) | (clear hRR; simp_all; done))) (EL.cons (.inl rfl) (EL.cons (.inl rfl) (EL.cons (.inl rfl) (EL.cons (.inr rfl) (EL.cons (.inr rfl) (EL.cons (.inr rfl) (EL.cons (.inr rfl) (EL.refl _))))))))))
  refine snd_ret ?_
  exact rt (T := TB) (fun V => by first | exact m_bool rfl | exact m_int rfl)
theorem c_in {n lo hi : Int} : ACalls Try.prog TB 66 [.int .i64 n, .int .i64 lo, .int .i64 hi] (.bool (decide (lo ≤ n) && decide (n ≤ hi))) [] := by
  refine acalls_of tokTB Try.func66 rfl rfl (Nat.le_of_ble_eq_true rfl) ?_
  apply sr tokTB (by kernel_rfl)
  · intro RR hRR
    refine w_assign (by constructor) ?_
    exact hRR
  apply srG (env' := (6, .bool (decide (lo ≤ n) && decide (n ≤ hi))) :: (14, .bool (decide (lo ≤ n) && decide (n ≤ hi))) :: (13, .any) :: (12, .any) :: (11, .any) :: (10, _) :: (9, _) :: (8, _) :: (7, _) :: _) tokTB (by kernel_rfl)
  · intro RR hRR
    refine w_move (by constructor) ?_
    refine w_move (by constructor) ?_
    refine w_geq rfl rfl ?_
    refine w_move (by constructor) ?_
    refine w_g rfl rfl (fun hg3 => ?_) (fun hg3 => ?_)
    · skip
      refine w_move (by constructor) ?_
      refine w_g_on rfl rfl hg3 ?_
      refine w_move (by constructor) ?_
      refine w_g_on rfl rfl hg3 ?_
      refine w_leq rfl rfl ?_
      refine w_pick_1 rfl hg3 (by constructor) ?_
      refine w_assign (by constructor) ?_
      try simp only [Int.toNat_natCast] at hg3
      exact hRR _ (EL.cons (.inr (by first | rfl | (simp only [hg3, els]; done) | (simp only [hg3, els]; rfl) | (simp [hg3]; done) | (clear hRR; simp_all; done))) (EL.cons (.inr (by first | rfl | (simp only [hg3, els]; done) | (simp only [hg3, els]; rfl) | (simp [hg3]; done) | (clear hRR; simp_all; done))) (EL.cons (.inl rfl) (EL.cons (.inl rfl) (EL.cons (.inl rfl) (EL.cons (.inr rfl) (EL.cons (.inr rfl) (EL.cons (.inr rfl) (EL.cons (.inr rfl) (EL.refl _))))))))))
    · have hg3 := eq_false_of_ne_true hg3
      refine w_g_off rfl rfl (by rw [hg3]; decide) ?_
      refine w_g_off rfl rfl (by rw [hg3]; decide) ?_
      refine w_pick_0 rfl hg3 (by constructor) ?_
      refine w_assign (by constructor) ?_
      try simp only [Int.toNat_natCast] at hg3
      exact hRR _ (EL.cons (.inr (by first | rfl | (simp only [hg3, els]; done) | (simp only [hg3, els]; rfl) | (simp [hg3]; done) | (clear hRR; simp_all; done))) (EL.cons (.inr (by first | rfl | (simp only [hg3, els]; done) | (simp only [hg3, els]; rfl) | (simp [hg3]; done) | (clear hRR; simp_all; done))) (EL.cons (.inl rfl) (EL.cons (.inl rfl) (EL.cons (.inl rfl) (EL.cons (.inr rfl) (EL.cons (.inr rfl) (EL.cons (.inr rfl) (EL.cons (.inr rfl) (EL.refl _))))))))))
  refine snd_ret ?_
  exact rt (T := TB) (fun V => by first | exact m_bool rfl | exact m_int rfl)
end Go.Am

set_option linter.unusedVariables false
set_option linter.unusedSimpArgs false
set_option maxRecDepth 4000
namespace Go.Am
attribute [local irreducible] retQ retQp
open Go.Proofs
theorem c_toByteA6 {v : Nat → Int} : ACalls Try.prog TB 65 [vecA v] (vecA v) [] := by
  refine acalls_of tokTB Try.func65 rfl rfl (Nat.le_of_ble_eq_true rfl) ?_
  apply sr tokTB (by kernel_rfl)
  · intro RR hRR
    refine w_boxc (HV.eq (by constructor)) (by exact trivial) ?_
    refine w_alloc kn22 rfl zr22 ?_
    exact hRR
  apply sr tokTB (by kernel_rfl)
  · intro RR hRR
    refine w_alloc kn22 rfl zr22 ?_
    exact hRR
  refine snd_seq ?_
  apply sr tokTB (by kernel_rfl)
  · intro RR hRR
    refine w_assign (by constructor) ?_
    exact hRR
  refine snd_block ?_
  refine snd_loop (S := Nat) (fun i => ([(1, .cptr (vecA v)), (2, .ptr 2 0 [] 0 (vecA (fun _ => 0))), (3, .ptr 3 0 [] 0 (vecA (fun _ => 0))), (4, .int .i64 (i : Int))], [(2, .one (vecA (fun _ => 0)) (vecA (fun _ => 0))), (3, .one (vecA (fun _ => 0)) (vecA (cutG 0 v i)))])) (fun i => i ≤ 6) (fun i => 6 - i) (0) ρ0 ?_ ?_ ?_
  · exact ⟨⟨(by exact m_cvec (fun _ _ => rfl)), ⟨rfl, rfl, rfl, rfl, rfl⟩, ⟨rfl, rfl, rfl, rfl, rfl⟩, (mi), trivial⟩, ⟨⟨rfl, (sx), (by exact mt_vec (fun _ _ => rfl))⟩, ⟨rfl, (sx), (by exact mt_vec (fun _ _ => rfl))⟩, trivial⟩, ⟨⟨(fun h => by first | exact ⟨rfl, rfl⟩ | exact absurd h (by decide)), (fun h => by first | exact ⟨rfl, rfl⟩ | exact absurd h (by decide)), trivial⟩, ⟨(fun h => by first | exact ⟨rfl, rfl⟩ | exact absurd h (by decide)), (fun h => by first | exact ⟨rfl, rfl⟩ | exact absurd h (by decide)), trivial⟩, trivial⟩⟩
  · exact Nat.zero_le _
  intro i hi0
  refine sq (env2 := [(1, .cptr (vecA v)), (2, .ptr 2 0 [] 0 (vecA (fun _ => 0))), (3, .ptr 3 0 [] 0 (vecA (fun _ => 0))), (4, .int .i64 (i : Int))]) (ol2 := [(2, .one (vecA (fun _ => 0)) (vecA (fun _ => 0))), (3, .one (vecA (fun _ => 0)) (vecA (cutG 0 v i)))]) rfl rfl ?_
  refine snd_seq ?_
  apply sr tokTB (by kernel_rfl)
  · intro RR hRR
    refine w_move (by constructor) ?_
    refine w_lss rfl rfl ?_
    exact hRR
  refine snd_cond _ rfl (fun hc6 => ?_) (fun hc6 => ?_)
  · try simp only [hcs] at hc6
    refine snd_skip ?_
    refine snd_seq ?_
    refine snd_block ?_
    apply lr tokTB (by kernel_rfl)
    · intro RR hRR
      refine w_move (by constructor) ?_
      refine w_move (by constructor) ?_
      refine w_iac rfl rfl und22 kn5 (by exact sz5.symm) ?_ rfl ?_
      · exact ⟨by omega, by omega⟩
      first | refine w_ldc rfl kn5 (by constructor) (by exact sz5.symm) (by exact ag5.symm) ?_ | refine w_ldp rfl kn5 rfl (by constructor) (by exact sz5.symm) (by exact ag5.symm) ?_
      refine w_iap rfl rfl und22 kn5 rfl (by exact sz5.symm) rfl ?_ ?_
      · exact ⟨by omega, by omega⟩
      first | refine w_stw rfl (by constructor) kn5 rfl (by exact trivial) (sx) (by exact sz5.symm) ?_ | refine w_sti rfl rfl kn5 rfl (by exact trivial) (by exact sz5.symm) ?_ | refine w_store rfl (HV.eq (by constructor)) kn5 rfl (by exact trivial) (sx) (by exact sz5.symm) (put_in (by first | exact put_mat | exact put_tab | exact put_alg0 | exact put_pr0 | exact put_pr1 | exact put_pr2 | exact put_tn4 | exact put_grp0 | exact put_grp1 | exact put_alg1 | exact put_alg2 | exact put_alg3 | exact put_alg3i | exact put_alg2ij | exact put_alg2ijk | exact put_mat2 | exact put_tab2 | exact put_tab3)) ?_ | refine w_store rfl (HV.eq (by constructor)) kn5 rfl (by exact trivial) (by exact trivial) (by exact sz5.symm) rfl ?_
      exact hRR
    apply lr tokTB (by kernel_rfl)
    · intro RR hRR
      refine w_move (by constructor) ?_
      refine y_add rfl rfl ?_
      refine w_assign (by constructor) ?_
      exact hRR
    refine ⟨i + 1, ρ0, ?_, (by omega), (by dsimp only; omega)⟩
    exact ⟨⟨(by exact m_cvec (fun _ _ => rfl)), ⟨rfl, rfl, rfl, rfl, rfl⟩, ⟨rfl, rfl, rfl, rfl, rfl⟩, (mi), trivial⟩, ⟨⟨rfl, (sx), (by exact mt_vec (fun _ _ => rfl))⟩, ⟨rfl, (sx), (by exact mt_vec (fun z _ => upd_cutG _ _ i z))⟩, trivial⟩, ⟨⟨(fun h => by first | exact ⟨rfl, rfl⟩ | exact absurd h (by decide)), (fun h => by first | exact ⟨rfl, rfl⟩ | exact absurd h (by decide)), trivial⟩, ⟨(fun h => by first | exact ⟨rfl, rfl⟩ | exact absurd h (by decide)), (fun h => by first | exact ⟨rfl, rfl⟩ | exact absurd h (by decide)), trivial⟩, trivial⟩⟩
  · try simp only [hcs] at hc6
    have hi6 : i = 6 := by omega
    subst hi6
    refine snd_exit ?_
    apply sr tokTB (by kernel_rfl)
    · intro RR hRR
      refine w_ldp rfl kn22 rfl (by constructor) (by exact sz22.symm) (by exact ag22.symm) ?_
      refine w_stw rfl (by constructor) kn22 rfl (by exact trivial) (sx) (by exact sz22.symm) ?_
      exact hRR
    refine snd_ret ?_
    exact rt_c (T := TB) rfl kn22 rfl sz22.symm ag22.symm (fun V => m_vec (fun j hj => by simp [cutG, hj]))
theorem c_toByteA6A6 {M : Nat → Nat → Int} : ACalls Try.prog TB 33 [matA M] (matA M) [] := by
  refine acalls_of tokTB Try.func33 rfl rfl (Nat.le_of_ble_eq_true rfl) ?_
  apply sr tokTB (by kernel_rfl)
  · intro RR hRR
    refine w_boxc (HV.eq (by constructor)) (by exact trivial) ?_
    refine w_alloc kn23 rfl zr23 ?_
    exact hRR
  apply sr tokTB (by kernel_rfl)
  · intro RR hRR
    refine w_alloc kn23 rfl zr23 ?_
    exact hRR
  refine snd_seq ?_
  apply sr tokTB (by kernel_rfl)
  · intro RR hRR
    refine w_assign (by constructor) ?_
    exact hRR
  refine snd_block ?_
  refine snd_loop (S := Nat) (fun i => ([(1, .cptr (matA M)), (2, .ptr 2 0 [] 0 (matA (fun _ _ => 0))), (3, .ptr 3 0 [] 0 (matA (fun _ _ => 0))), (4, .int .i64 (i : Int))], [(2, .one (matA (fun _ _ => 0)) (matA (fun _ _ => 0))), (3, .one (matA (fun _ _ => 0)) (matA (cutG (fun _ => 0) M i)))])) (fun i => i ≤ 6) (fun i => 6 - i) (0) ρ0 ?_ ?_ ?_
  · exact ⟨⟨(by exact mt_mat (V := _) (fun _ _ _ _ => rfl)), ⟨rfl, rfl, rfl, rfl, rfl⟩, ⟨rfl, rfl, rfl, rfl, rfl⟩, (mi), trivial⟩, ⟨⟨rfl, (sx), (by exact mt_mat (fun _ _ _ _ => rfl))⟩, ⟨rfl, (sx), (by exact mt_mat (fun _ _ _ _ => rfl))⟩, trivial⟩, ⟨⟨(fun h => by first | exact ⟨rfl, rfl⟩ | exact absurd h (by decide)), (fun h => by first | exact ⟨rfl, rfl⟩ | exact absurd h (by decide)), trivial⟩, ⟨(fun h => by first | exact ⟨rfl, rfl⟩ | exact absurd h (by decide)), (fun h => by first | exact ⟨rfl, rfl⟩ | exact absurd h (by decide)), trivial⟩, trivial⟩⟩
  · exact Nat.zero_le _
  intro i hi0
  refine sq (env2 := [(1, .cptr (matA M)), (2, .ptr 2 0 [] 0 (matA (fun _ _ => 0))), (3, .ptr 3 0 [] 0 (matA (fun _ _ => 0))), (4, .int .i64 (i : Int))]) (ol2 := [(2, .one (matA (fun _ _ => 0)) (matA (fun _ _ => 0))), (3, .one (matA (fun _ _ => 0)) (matA (cutG (fun _ => 0) M i)))]) rfl rfl ?_
  refine snd_seq ?_
  apply sr tokTB (by kernel_rfl)
  · intro RR hRR
    refine w_move (by constructor) ?_
    refine w_lss rfl rfl ?_
    exact hRR
  refine snd_cond _ rfl (fun hc6 => ?_) (fun hc6 => ?_)
  · try simp only [hcs] at hc6
    refine snd_skip ?_
    refine snd_seq ?_
    refine snd_block ?_
    apply lr tokTB (by kernel_rfl)
    · intro RR hRR
      refine w_move (by constructor) ?_
      refine w_move (by constructor) ?_
      refine w_iac rfl rfl und23 kn22 (by exact sz22.symm) ?_ rfl ?_
      · exact ⟨by omega, by omega⟩
      refine w_ldc rfl kn22 (by constructor) (by exact sz22.symm) (by exact ag22.symm) ?_
      refine y_call rfl (ec exn) (c_toByteA6) ?_
      refine w_iap rfl rfl und23 kn22 rfl (by exact sz22.symm) rfl ?_ ?_
      · exact ⟨by omega, by omega⟩
      first | refine w_stw rfl (by constructor) kn22 rfl (by exact trivial) (sx) (by exact sz22.symm) ?_ | refine w_sti rfl rfl kn22 rfl (by exact trivial) (by exact sz22.symm) ?_ | refine w_store rfl (HV.eq (by constructor)) kn22 rfl (by exact trivial) (sx) (by exact sz22.symm) (put_in (by first | exact put_mat | exact put_tab | exact put_alg0 | exact put_pr0 | exact put_pr1 | exact put_pr2 | exact put_tn4 | exact put_grp0 | exact put_grp1 | exact put_alg1 | exact put_alg2 | exact put_alg3 | exact put_alg3i | exact put_alg2ij | exact put_alg2ijk | exact put_mat2 | exact put_tab2 | exact put_tab3)) ?_ | refine w_store rfl (HV.eq (by constructor)) kn22 rfl (by exact trivial) (by exact trivial) (by exact sz22.symm) rfl ?_
      exact hRR
    apply lr tokTB (by kernel_rfl)
    · intro RR hRR
      refine w_move (by constructor) ?_
      refine y_add rfl rfl ?_
      refine w_assign (by constructor) ?_
      exact hRR
    refine ⟨i + 1, ρ0, ?_, (by omega), (by dsimp only; omega)⟩
    exact ⟨⟨(by exact mt_mat (V := _) (fun _ _ _ _ => rfl)), ⟨rfl, rfl, rfl, rfl, rfl⟩, ⟨rfl, rfl, rfl, rfl, rfl⟩, (mi), trivial⟩, ⟨⟨rfl, (sx), (by exact mt_mat (fun _ _ _ _ => rfl))⟩, ⟨rfl, (sx), (by exact mt_mat (fun z w _ _ => congrFun (upd_cutG _ _ i z) w))⟩, trivial⟩, ⟨⟨(fun h => by first | exact ⟨rfl, rfl⟩ | exact absurd h (by decide)), (fun h => by first | exact ⟨rfl, rfl⟩ | exact absurd h (by decide)), trivial⟩, ⟨(fun h => by first | exact ⟨rfl, rfl⟩ | exact absurd h (by decide)), (fun h => by first | exact ⟨rfl, rfl⟩ | exact absurd h (by decide)), trivial⟩, trivial⟩⟩
  · try simp only [hcs] at hc6
    have hi6 : i = 6 := by omega
    subst hi6
    refine snd_exit ?_
    apply sr tokTB (by kernel_rfl)
    · intro RR hRR
      refine w_ldp rfl kn23 rfl (by constructor) (by exact sz23.symm) (by exact ag23.symm) ?_
      refine w_stw rfl (by constructor) kn23 rfl (by exact trivial) (sx) (by exact sz23.symm) ?_
      exact hRR
    refine snd_ret ?_
    exact rt_c (T := TB) rfl kn23 rfl sz23.symm ag23.symm (fun V => mt_mat (fun j k hj _ => by simp [cutG, hj]))
end Go.Am

set_option linter.unusedVariables false
set_option linter.unusedSimpArgs false
set_option maxRecDepth 4000
namespace Go.Am
attribute [local irreducible] retQ retQp
open Go.Proofs
end Go.Am

set_option linter.unusedVariables false
set_option linter.unusedSimpArgs false
set_option maxRecDepth 4000
namespace Go.Am
attribute [local irreducible] retQ retQp
open Go.Proofs
theorem c_eqInt64S {m : Nat} {f g : Nat → Int} (hm : m ≤ 1000) (h : ∀ j, j < m → f j = g j) : ACalls Try.prog TB 36 [rowA m f, rowA m g] (.bool true) [] := by
  refine acalls_of tokTB Try.func36 rfl rfl (Nat.le_of_ble_eq_true rfl) ?_
  apply sr tokTB (by kernel_rfl)
  · intro RR hRR
    refine w_assign (by constructor) ?_
    exact hRR
  refine snd_seq ?_
  apply sr tokTB (by kernel_rfl)
  · intro RR hRR
    refine w_move (by constructor) ?_
    refine w_len_r rfl rfl und62 ?_
    refine w_move (by constructor) ?_
    refine w_len_r rfl rfl und62 ?_
    refine w_neq rfl rfl ?_
    exact hRR
  refine snd_cond_false (by exact congrArg AV.bool (decide_eq_false (by simp))) ?_
  refine snd_skip ?_
  refine snd_seq ?_
  apply sr tokTB (by kernel_rfl)
  · intro RR hRR
    refine w_assign (by constructor) ?_
    exact hRR
  refine snd_block ?_
  refine snd_loop (S := Nat) (fun i => ([(0, rowA m f), (1, rowA m g), (5, .int .i64 (i : Int))], [])) (fun i => i ≤ m) (fun i => m - i) (0) ρ0 ?_ ?_ ?_
  · exact ⟨⟨(by first | exact mt_row (V := _) (fun _ _ => rfl) | exact mt_fz (by exact trivial) rfl (fun _ _ => rfl)), (by first | exact mt_row (V := _) (fun _ _ => rfl) | exact mt_fz (by exact trivial) rfl (fun _ _ => rfl)), (mi), trivial⟩, trivial, trivial⟩
  · exact Nat.zero_le _
  intro i hi0
  refine sq (env2 := [(0, rowA m f), (1, rowA m g), (5, .int .i64 (i : Int))]) (ol2 := []) rfl rfl ?_
  refine snd_seq ?_
  apply sr tokTB (by kernel_rfl)
  · intro RR hRR
    refine w_move (by constructor) ?_
    refine w_move (by constructor) ?_
    refine w_len_r rfl rfl und62 ?_
    refine w_lss rfl rfl ?_
    exact hRR
  refine snd_cond _ rfl (fun hc14 => ?_) (fun hc14 => ?_)
  · try simp only [hcs] at hc14
    have lt_i : i < m := by omega
    refine snd_skip ?_
    refine snd_seq ?_
    refine snd_block ?_
    apply sd tokTB mixed (by kernel_rfl) (by kernel_rfl)
    · intro RR hRR
      refine w_move (by constructor) ?_
      refine w_move (by constructor) ?_
      refine w_iar rfl rfl und62 kn2 (by exact sz2.symm) ?_ rfl ?_
      · exact ⟨by omega, by omega⟩
      first | refine w_ldc rfl kn2 (by constructor) (by exact sz2.symm) (by exact ag2.symm) ?_ | refine w_ldp rfl kn2 rfl (by constructor) (by exact sz2.symm) (by exact ag2.symm) ?_
      refine w_move (by constructor) ?_
      refine w_move (by constructor) ?_
      refine w_iar rfl rfl und62 kn2 (by exact sz2.symm) ?_ rfl ?_
      · exact ⟨by omega, by omega⟩
      first | refine w_ldc rfl kn2 (by constructor) (by exact sz2.symm) (by exact ag2.symm) ?_ | refine w_ldp rfl kn2 rfl (by constructor) (by exact sz2.symm) (by exact ag2.symm) ?_
      refine w_neq rfl rfl ?_
      exact hRR
    refine snd_cond _ rfl (fun hc25 => ?_) (fun hc25 => ?_)
    · skip
      exact absurd (h i (by omega)) (of_decide_eq_true hc25)
    · skip
      refine snd_skip ?_
      apply lr tokTB (by kernel_rfl)
      · intro RR hRR
        refine w_move (by constructor) ?_
        refine y_add rfl rfl ?_
        refine w_assign (by constructor) ?_
        exact hRR
      refine ⟨i + 1, ρ0, ?_, (by omega), (by dsimp only; omega)⟩
      exact ⟨⟨(by first | exact mt_row (V := _) (fun _ _ => rfl) | exact mt_fz (by exact trivial) rfl (fun _ _ => rfl)), (by first | exact mt_row (V := _) (fun _ _ => rfl) | exact mt_fz (by exact trivial) rfl (fun _ _ => rfl)), (mi), trivial⟩, trivial, trivial⟩
  · try simp only [hcs] at hc14
    have ge_i : m = i := by omega
    subst ge_i
    refine snd_exit ?_
    apply sr tokTB (by kernel_rfl)
    · intro RR hRR
      refine w_assign (by constructor) ?_
      exact hRR
    refine snd_ret ?_
    exact rt (T := TB) (fun V => rfl)
theorem c_markInt64S {m : Nat} {f : Nat → Int} {k : Int} (hm : m ≤ 1000) (hk : 0 ≤ k ∧ k ≤ 1000000) : MCalls Try.prog TB 37 [0] [.own 0 0 m 2, .int .i64 k] [(0, .one (Z64 m) (C64 m f))] (.int .i64 (k + m)) [(0, .one (Z64 m) (C64 m (fun j => k + (j : Nat))))] := by
  refine mcalls_of tokTB Try.func37 rfl rfl (Nat.le_of_ble_eq_true rfl) ⟨rfl, trivial⟩ ?_
  apply srp tokTB (by kernel_rfl)
  · intro RR hRR
    refine w_assign (by constructor) ?_
    exact hRR
  refine snp_seq ?_
  apply srp tokTB (by kernel_rfl)
  · intro RR hRR
    refine w_assign (by constructor) ?_
    exact hRR
  refine snp_block ?_
  refine snp_loop (S := Nat) (fun i => ([(0, .own 0 0 m 2), (1, .int .i64 (k + (i : Nat))), (5, .int .i64 (i : Int))], [(0, .one (Z64 m) (C64 m (mixF (fun j => k + (j : Nat)) f i)))])) (fun i => i ≤ m) (fun i => m - i) (0) ρ0 ?_ ?_ ?_
  · exact ⟨⟨⟨(by first | exact ⟨rfl, rfl, rfl, rfl⟩ | exact ⟨rfl, by omega, rfl, rfl⟩), (mi), (mi), trivial⟩, ⟨⟨rfl, (sx), (by exact mt_vec (fun z _ => by simp [mixF]))⟩, trivial⟩, ⟨⟨(fun h => by first | exact ⟨rfl, rfl⟩ | exact absurd h (by decide)), trivial⟩, trivial⟩⟩, ⟨⟨fun _ => rfl, rfl⟩, trivial⟩⟩
  · exact Nat.zero_le _
  intro i hi0
  refine sqp (env2 := [(0, .own 0 0 m 2), (1, .int .i64 (k + (i : Nat))), (5, .int .i64 (i : Int))]) (ol2 := [(0, .one (Z64 m) (C64 m (mixF (fun j => k + (j : Nat)) f i)))]) rfl rfl ?_
  refine snp_seq ?_
  apply srp tokTB (by kernel_rfl)
  · intro RR hRR
    refine w_move (by constructor) ?_
    refine w_move (by constructor) ?_
    refine w_len_o rfl rfl und62 ?_
    refine w_lss rfl rfl ?_
    exact hRR
  refine snp_cond _ rfl (fun hc9 => ?_) (fun hc9 => ?_)
  · try simp only [hcs] at hc9
    have lt_i : i < m := by omega
    refine snp_skip ?_
    refine snp_seq ?_
    refine snp_block ?_
    apply srp tokTB (by kernel_rfl)
    · intro RR hRR
      refine w_move (by constructor) ?_
      refine w_move (by constructor) ?_
      refine w_move (by constructor) ?_
      refine w_iao rfl rfl und62 kn2 ?_ ?_
      · exact ⟨by omega, by omega⟩
      first | refine w_stw rfl (by constructor) kn2 rfl (by exact trivial) (sx) (by exact sz2.symm) ?_ | refine w_sti rfl rfl kn2 rfl (by exact trivial) (by exact sz2.symm) ?_ | refine w_store rfl (HV.eq (by constructor)) kn2 rfl (by exact trivial) (sx) (by exact sz2.symm) (put_in (by first | exact put_mat | exact put_tab | exact put_alg0 | exact put_pr0 | exact put_pr1 | exact put_pr2 | exact put_tn4 | exact put_grp0 | exact put_grp1 | exact put_alg1 | exact put_alg2 | exact put_alg3 | exact put_alg3i | exact put_alg2ij | exact put_alg2ijk | exact put_mat2 | exact put_tab2 | exact put_tab3)) ?_ | refine w_store rfl (HV.eq (by constructor)) kn2 rfl (by exact trivial) (by exact trivial) (by exact sz2.symm) rfl ?_
      exact hRR
    apply lrp tokTB (by kernel_rfl)
    · intro RR hRR
      refine w_move (by constructor) ?_
      refine w_add rfl rfl (by exact w64 (by omega) (by omega)) ?_
      refine w_assign (by constructor) ?_
      exact hRR
    apply lrp tokTB (by kernel_rfl)
    · intro RR hRR
      refine w_move (by constructor) ?_
      refine y_add rfl rfl ?_
      refine w_assign (by constructor) ?_
      exact hRR
    refine ⟨i + 1, ρ0, ?_, (by omega), (by dsimp only; omega)⟩
    exact ⟨⟨⟨(by first | exact ⟨rfl, rfl, rfl, rfl⟩ | exact ⟨rfl, by omega, rfl, rfl⟩), (mi), (mi), trivial⟩, ⟨⟨rfl, (sx), (by exact mt_vec (fun z _ => upd_mix _ _ i z))⟩, trivial⟩, ⟨⟨(fun h => by first | exact ⟨rfl, rfl⟩ | exact absurd h (by decide)), trivial⟩, trivial⟩⟩, ⟨⟨fun _ => rfl, rfl⟩, trivial⟩⟩
  · try simp only [hcs] at hc9
    have ge_i : m = i := by omega
    subst ge_i
    refine snp_exit ?_
    apply srp tokTB (by kernel_rfl)
    · intro RR hRR
      refine w_move (by constructor) ?_
      refine w_assign (by constructor) ?_
      exact hRR
    refine snp_ret ?_
    exact rtp (ρ := ρ0) ⟨⟨m_int rfl, trivial⟩, ⟨⟨rfl, ⟨rfl, fun _ => trivial⟩, mt_vec (fun z hz => by simp [mixF, hz])⟩, trivial⟩, ⟨⟨fun _ => ⟨rfl, rfl⟩, trivial⟩, trivial⟩⟩ ⟨⟨fun _ => rfl, rfl⟩, trivial⟩
theorem c_heldInt64S {m : Nat} {f : Nat → Int} {k : Int} (hm : m ≤ 1000) (hk : 0 ≤ k ∧ k ≤ 1000000) (h : ∀ j, j < m → f j = k + (j : Nat)) : ACalls Try.prog TB 38 [rowA m f, .int .i64 k] (.int .i64 (k + m)) [] := by
  refine acalls_of tokTB Try.func38 rfl rfl (Nat.le_of_ble_eq_true rfl) ?_
  apply sr tokTB (by kernel_rfl)
  · intro RR hRR
    refine w_assign (by constructor) ?_
    exact hRR
  refine snd_seq ?_
  apply sr tokTB (by kernel_rfl)
  · intro RR hRR
    refine w_assign (by constructor) ?_
    exact hRR
  refine snd_block ?_
  refine snd_loop (S := Nat) (fun i => ([(0, rowA m f), (1, .int .i64 (k + (i : Nat))), (5, .int .i64 (i : Int))], [])) (fun i => i ≤ m) (fun i => m - i) (0) ρ0 ?_ ?_ ?_
  · exact ⟨⟨(by first | exact mt_row (V := _) (fun _ _ => rfl) | exact mt_fz (by exact trivial) rfl (fun _ _ => rfl)), (mi), (mi), trivial⟩, trivial, trivial⟩
  · exact Nat.zero_le _
  intro i hi0
  refine sq (env2 := [(0, rowA m f), (1, .int .i64 (k + (i : Nat))), (5, .int .i64 (i : Int))]) (ol2 := []) rfl rfl ?_
  refine snd_seq ?_
  apply sr tokTB (by kernel_rfl)
  · intro RR hRR
    refine w_move (by constructor) ?_
    refine w_move (by constructor) ?_
    refine w_len_r rfl rfl und62 ?_
    refine w_lss rfl rfl ?_
    exact hRR
  refine snd_cond _ rfl (fun hc9 => ?_) (fun hc9 => ?_)
  · try simp only [hcs] at hc9
    have lt_i : i < m := by omega
    refine snd_skip ?_
    refine snd_seq ?_
    refine snd_block ?_
    refine snd_seq ?_
    apply sr tokTB (by kernel_rfl)
    · intro RR hRR
      refine w_move (by constructor) ?_
      refine w_move (by constructor) ?_
      refine w_iar rfl rfl und62 kn2 (by exact sz2.symm) ?_ rfl ?_
      · exact ⟨by omega, by omega⟩
      first | refine w_ldc rfl kn2 (by constructor) (by exact sz2.symm) (by exact ag2.symm) ?_ | refine w_ldp rfl kn2 rfl (by constructor) (by exact sz2.symm) (by exact ag2.symm) ?_
      refine w_move (by constructor) ?_
      refine w_neq rfl rfl ?_
      exact hRR
    refine snd_cond _ rfl (fun hc17 => ?_) (fun hc17 => ?_)
    · skip
      exact absurd (h i (by omega)) (of_decide_eq_true hc17)
    · skip
      refine snd_skip ?_
      apply lr tokTB (by kernel_rfl)
      · intro RR hRR
        refine w_move (by constructor) ?_
        refine w_add rfl rfl (by exact w64 (by omega) (by omega)) ?_
        refine w_assign (by constructor) ?_
        exact hRR
      apply lr tokTB (by kernel_rfl)
      · intro RR hRR
        refine w_move (by constructor) ?_
        refine y_add rfl rfl ?_
        refine w_assign (by constructor) ?_
        exact hRR
      refine ⟨i + 1, ρ0, ?_, (by omega), (by dsimp only; omega)⟩
      exact ⟨⟨(by first | exact mt_row (V := _) (fun _ _ => rfl) | exact mt_fz (by exact trivial) rfl (fun _ _ => rfl)), (mi), (mi), trivial⟩, trivial, trivial⟩
  · try simp only [hcs] at hc9
    have ge_i : m = i := by omega
    subst ge_i
    refine snd_exit ?_
    apply sr tokTB (by kernel_rfl)
    · intro RR hRR
      refine w_move (by constructor) ?_
      refine w_assign (by constructor) ?_
      exact hRR
    refine snd_ret ?_
    exact rt (T := TB) (fun V => rfl)
theorem c_eqInt64SS {N m : Nat} {R S : Nat → Nat → Int} (hN : N ≤ 100) (hm : m ≤ 100) (h : ∀ i, i < N → ∀ j, j < m → R i j = S i j) : ACalls Try.prog TB 14 [rowsA N m R, rowsA N m S] (.bool true) [] := by
  refine acalls_of tokTB Try.func14 rfl rfl (Nat.le_of_ble_eq_true rfl) ?_
  apply sr tokTB (by kernel_rfl)
  · intro RR hRR
    refine w_assign (by constructor) ?_
    exact hRR
  refine snd_seq ?_
  apply sr tokTB (by kernel_rfl)
  · intro RR hRR
    refine w_move (by constructor) ?_
    refine w_len_r rfl rfl und35 ?_
    refine w_move (by constructor) ?_
    refine w_len_r rfl rfl und35 ?_
    refine w_neq rfl rfl ?_
    exact hRR
  refine snd_cond_false (by exact congrArg AV.bool (decide_eq_false (by simp))) ?_
  refine snd_skip ?_
  refine snd_seq ?_
  apply sr tokTB (by kernel_rfl)
  · intro RR hRR
    refine w_assign (by constructor) ?_
    exact hRR
  refine snd_block ?_
  refine snd_loop (S := Nat) (fun i => ([(0, rowsA N m R), (1, rowsA N m S), (5, .int .i64 (i : Int))], [])) (fun i => i ≤ N) (fun i => N - i) (0) ρ0 ?_ ?_ ?_
  · exact ⟨⟨(mt_rows (V := _) (fun _ _ _ _ => rfl)), (mt_rows (V := _) (fun _ _ _ _ => rfl)), (mi), trivial⟩, trivial, trivial⟩
  · exact Nat.zero_le _
  intro i hi0
  refine sq (env2 := [(0, rowsA N m R), (1, rowsA N m S), (5, .int .i64 (i : Int))]) (ol2 := []) rfl rfl ?_
  refine snd_seq ?_
  apply sr tokTB (by kernel_rfl)
  · intro RR hRR
    refine w_move (by constructor) ?_
    refine w_move (by constructor) ?_
    refine w_len_r rfl rfl und35 ?_
    refine w_lss rfl rfl ?_
    exact hRR
  refine snd_cond _ rfl (fun hc14 => ?_) (fun hc14 => ?_)
  · try simp only [hcs] at hc14
    have lt_i : i < N := by omega
    refine snd_skip ?_
    refine snd_seq ?_
    refine snd_block ?_
    apply sd tokTB mixed (by kernel_rfl) (by kernel_rfl)
    · intro RR hRR
      refine w_move (by constructor) ?_
      refine w_move (by constructor) ?_
      refine w_iar rfl rfl und35 kn62 (by exact sz62.symm) ?_ rfl ?_
      · exact ⟨by omega, by omega⟩
      first | refine w_ldc rfl kn62 (by constructor) (by exact sz62.symm) (by exact ag62.symm) ?_ | refine w_ldp rfl kn62 rfl (by constructor) (by exact sz62.symm) (by exact ag62.symm) ?_
      refine w_move (by constructor) ?_
      refine w_move (by constructor) ?_
      refine w_iar rfl rfl und35 kn62 (by exact sz62.symm) ?_ rfl ?_
      · exact ⟨by omega, by omega⟩
      first | refine w_ldc rfl kn62 (by constructor) (by exact sz62.symm) (by exact ag62.symm) ?_ | refine w_ldp rfl kn62 rfl (by constructor) (by exact sz62.symm) (by exact ag62.symm) ?_
      refine y_call rfl (ec (ec exn)) (c_eqInt64S (m := m) (f := R i) (g := S i) (by omega) (h i (by omega))) ?_
      refine w_not rfl ?_
      exact hRR
    refine snd_cond_false (by exact rfl) ?_
    refine snd_skip ?_
    apply lr tokTB (by kernel_rfl)
    · intro RR hRR
      refine w_move (by constructor) ?_
      refine y_add rfl rfl ?_
      refine w_assign (by constructor) ?_
      exact hRR
    refine ⟨i + 1, ρ0, ?_, (by omega), (by dsimp only; omega)⟩
    exact ⟨⟨(mt_rows (V := _) (fun _ _ _ _ => rfl)), (mt_rows (V := _) (fun _ _ _ _ => rfl)), (mi), trivial⟩, trivial, trivial⟩
  · try simp only [hcs] at hc14
    have ge_i : N = i := by omega
    subst ge_i
    refine snd_exit ?_
    apply sr tokTB (by kernel_rfl)
    · intro RR hRR
      refine w_assign (by constructor) ?_
      exact hRR
    refine snd_ret ?_
    exact rt (T := TB) (fun V => rfl)
theorem c_heldInt64SS {N m : Nat} {R : Nat → Nat → Int} {k : Int} (hN : N ≤ 100) (hm : m ≤ 100) (hk : 0 ≤ k ∧ k ≤ 100000) (h : ∀ i, i < N → ∀ j, j < m → R i j = mkF k m i j) : ACalls Try.prog TB 16 [rowsA N m R, .int .i64 k] (.int .i64 (k + (N * m : Nat))) [] := by
  refine acalls_of tokTB Try.func16 rfl rfl (Nat.le_of_ble_eq_true rfl) ?_
  apply sr tokTB (by kernel_rfl)
  · intro RR hRR
    refine w_assign (by constructor) ?_
    exact hRR
  refine snd_seq ?_
  apply sr tokTB (by kernel_rfl)
  · intro RR hRR
    refine w_assign (by constructor) ?_
    exact hRR
  refine snd_block ?_
  refine snd_loop (S := Nat) (fun i => ([(0, rowsA N m R), (1, .int .i64 (k + (i * m : Nat))), (5, .int .i64 (i : Int))], [])) (fun i => i ≤ N) (fun i => N - i) (0) ρ0 ?_ ?_ ?_
  · exact ⟨⟨(mt_rows (V := _) (fun _ _ _ _ => rfl)), (by exact m_int (by omega)), (mi), trivial⟩, trivial, trivial⟩
  · exact Nat.zero_le _
  intro i hi0
  refine sq (env2 := [(0, rowsA N m R), (1, .int .i64 (k + (i * m : Nat))), (5, .int .i64 (i : Int))]) (ol2 := []) rfl rfl ?_
  have hle : i * m ≤ 100 * 100 := Nat.mul_le_mul (by omega) hm
  refine snd_seq ?_
  apply sr tokTB (by kernel_rfl)
  · intro RR hRR
    refine w_move (by constructor) ?_
    refine w_move (by constructor) ?_
    refine w_len_r rfl rfl und35 ?_
    refine w_lss rfl rfl ?_
    exact hRR
  refine snd_cond _ rfl (fun hc9 => ?_) (fun hc9 => ?_)
  · try simp only [hcs] at hc9
    have lt_i : i < N := by omega
    refine snd_skip ?_
    refine snd_seq ?_
    refine snd_block ?_
    apply sr tokTB (by kernel_rfl)
    · intro RR hRR
      refine w_move (by constructor) ?_
      refine w_move (by constructor) ?_
      refine w_iar rfl rfl und35 kn62 (by exact sz62.symm) ?_ rfl ?_
      · exact ⟨by omega, by omega⟩
      first | refine w_ldc rfl kn62 (by constructor) (by exact sz62.symm) (by exact ag62.symm) ?_ | refine w_ldp rfl kn62 rfl (by constructor) (by exact sz62.symm) (by exact ag62.symm) ?_
      refine w_move (by constructor) ?_
      refine y_call rfl (ec (ec exn)) (c_heldInt64S (m := m) (f := R i) (k := k + (i * m : Nat)) (by omega) (by omega) (h i (by omega))) ?_
      refine w_assign (by constructor) ?_
      exact hRR
    apply sr tokTB (by kernel_rfl)
    · intro RR hRR
      refine w_move (by constructor) ?_
      refine w_lss rfl rfl ?_
      exact hRR
    refine snd_cond_false (by exact congrArg AV.bool (decide_eq_false (by omega))) ?_
    refine snd_skip ?_
    apply lr tokTB (by kernel_rfl)
    · intro RR hRR
      refine w_move (by constructor) ?_
      refine y_add rfl rfl ?_
      refine w_assign (by constructor) ?_
      exact hRR
    refine ⟨i + 1, ρ0, ?_, (by omega), (by dsimp only; omega)⟩
    exact ⟨⟨(mt_rows (V := _) (fun _ _ _ _ => rfl)), (by exact m_int (by rw [Nat.succ_mul]; omega)), (mi), trivial⟩, trivial, trivial⟩
  · try simp only [hcs] at hc9
    have ge_i : N = i := by omega
    subst ge_i
    refine snd_exit ?_
    apply sr tokTB (by kernel_rfl)
    · intro RR hRR
      refine w_move (by constructor) ?_
      refine w_assign (by constructor) ?_
      exact hRR
    refine snd_ret ?_
    exact rt (T := TB) (fun V => rfl)
theorem c_markNilInt64SS {k : Int} : ACalls Try.prog TB 15 [.nilsl, .int .i64 k] (.int .i64 k) [] := by
  refine acalls_of tokTB Try.func15 rfl rfl (Nat.le_of_ble_eq_true rfl) ?_
  apply sr tokTB (by kernel_rfl)
  · intro RR hRR
    refine w_assign (by constructor) ?_
    exact hRR
  refine snd_seq ?_
  apply sr tokTB (by kernel_rfl)
  · intro RR hRR
    refine w_assign (by constructor) ?_
    exact hRR
  refine snd_block ?_
  refine snd_loop (S := Nat) (fun i => ([(0, .nilsl), (1, .int .i64 k), (5, .int .i64 (i : Int))], [])) (fun i => i ≤ 0) (fun i => 0 - i) (0) ρ0 ?_ ?_ ?_
  · exact ⟨⟨rfl, (mi), (mi), trivial⟩, trivial, trivial⟩
  · exact Nat.zero_le _
  intro i hi0
  refine sq (env2 := [(0, .nilsl), (1, .int .i64 k), (5, .int .i64 (i : Int))]) (ol2 := []) rfl rfl ?_
  refine snd_seq ?_
  apply sr tokTB (by kernel_rfl)
  · intro RR hRR
    refine w_move (by constructor) ?_
    refine w_move (by constructor) ?_
    refine w_len_n rfl rfl und35 ?_
    refine w_lss rfl rfl ?_
    exact hRR
  refine snd_cond _ rfl (fun hc9 => ?_) (fun hc9 => ?_)
  · try simp only [hcs] at hc9
    have lt_i : i < 0 := by omega
    omega
  · try simp only [hcs] at hc9
    have ge_i : 0 = i := by omega
    subst ge_i
    refine snd_exit ?_
    apply sr tokTB (by kernel_rfl)
    · intro RR hRR
      refine w_move (by constructor) ?_
      refine w_assign (by constructor) ?_
      exact hRR
    refine snd_ret ?_
    exact rt (T := TB) (fun V => rfl)
end Go.Am

set_option linter.unusedVariables false
set_option linter.unusedSimpArgs false
set_option maxRecDepth 4000
namespace Go.Am
attribute [local irreducible] retQ retQp
open Go.Proofs
theorem c_gn {n : Int} {G : Nat → Nat → Nat} : ACalls Try.prog TB 42 [.cptr (grpA n G)] (.int .i64 n) [] := by
  refine acalls_of tokTB Try.func42 rfl rfl (Nat.le_of_ble_eq_true rfl) ?_
  apply sr tokTB (by kernel_rfl)
  · intro RR hRR
    refine w_assign (by constructor) ?_
    exact hRR
  apply sr tokTB (by kernel_rfl)
  · intro RR hRR
    refine w_move (by constructor) ?_
    refine w_nilc rfl ?_
    refine w_fac rfl und38 rfl kn2 nz2 (by decide) rfl (by constructor) ?_
    refine w_ldc rfl kn2 (by constructor) (by exact sz2.symm) (by exact ag2.symm) ?_
    refine w_assign (by constructor) ?_
    exact hRR
  refine snd_ret ?_
  exact rt (T := TB) (fun V => rfl)
theorem c_gtimes {n : Int} {G : Nat → Nat → Nat} {i j : Nat} (hG : RG G) (hi : i < 6) (hj : j < 6) : ACalls Try.prog TB 43 [.cptr (grpA n G), .int .i64 (i : Int), .int .i64 (j : Int)] (.int .i64 ((G i j : Nat) : Int)) [] := by
  refine acalls_of tokTB Try.func43 rfl rfl (Nat.le_of_ble_eq_true rfl) ?_
  apply sr tokTB (by kernel_rfl)
  · intro RR hRR
    refine w_assign (by constructor) ?_
    exact hRR
  apply sr tokTB (by kernel_rfl)
  · intro RR hRR
    refine w_move (by constructor) ?_
    refine w_move (by constructor) ?_
    refine w_move (by constructor) ?_
    refine w_nilc rfl ?_
    refine w_fac rfl und38 rfl kn23 nz23 (by decide) rfl (by constructor) ?_
    refine w_iac rfl rfl und23 kn22 (by exact sz22.symm) ?_ rfl ?_
    · exact ⟨by omega, by omega⟩
    refine w_iac rfl rfl und22 kn5 (by exact sz5.symm) ?_ rfl ?_
    · exact ⟨by omega, by omega⟩
    first | refine w_ldc rfl kn5 (by constructor) (by exact sz5.symm) (by exact ag5.symm) ?_ | refine w_ldp rfl kn5 rfl (by constructor) (by exact sz5.symm) (by exact ag5.symm) ?_
    refine w_conv rfl und5 und3 (by exact hG.w8 i j) ?_
    refine w_assign (by constructor) ?_
    exact hRR
  refine snd_ret ?_
  exact rt (T := TB) (fun V => rfl)
theorem c_ginverse {n : Nat} {G : Nat → Nat → Nat} (hG : RG G) {i : Nat} (hn : n ≤ 6) (hi : i < 6) : ACalls Try.prog TB 47 [.cptr (grpA (n : Int) G), .int .i64 (i : Int)] (.int .i64 (ivI n G i)) [] := by
  have hcl := closed_cgrp (n := (n : Int)) (G := G)
  have hcl2 := closed_grp (n := (n : Int)) (G := G)
  refine acalls_of tokTB Try.func47 rfl rfl (Nat.le_of_ble_eq_true rfl) ?_
  apply sr tokTB (by kernel_rfl)
  · intro RR hRR
    refine w_assign (by constructor) ?_
    exact hRR
  refine snd_seq ?_
  apply sr tokTB (by kernel_rfl)
  · intro RR hRR
    refine w_move (by constructor) ?_
    refine y_call rfl (exc exp_cgrp exn) (c_gn) ?_
    refine w_move (by constructor) ?_
    exact hRR
  refine snd_block ?_
  refine snd_loop (S := Nat) (fun j => ([(0, .cptr (grpA (n : Int) G)), (1, .int .i64 (i : Int)), (7, .int .i64 (n : Int)), (8, .int .i64 (j : Int))], [])) (fun j => j ≤ n ∧ (∀ a, a < j → ivB G i a = false)) (fun j => n - j) (0) ρ0 ?_ ?_ ?_
  · exact ⟨⟨m_cgrp, (mi), (mi), (mi), trivial⟩, trivial, trivial⟩
  · exact ⟨Nat.zero_le _, fun j hj => absurd hj (Nat.not_lt_zero _)⟩
  intro j hi0
  refine sq (env2 := [(0, .cptr (grpA (n : Int) G)), (1, .int .i64 (i : Int)), (7, .int .i64 (n : Int)), (8, .int .i64 (j : Int))]) (ol2 := []) rfl rfl ?_
  obtain ⟨le_j, inv_j⟩ := hi0
  apply sr tokTB (by kernel_rfl)
  · intro RR hRR
    refine w_lss rfl rfl ?_
    exact hRR
  refine snd_seq ?_
  refine snd_cond _ rfl (fun hc9 => ?_) (fun hc9 => ?_)
  · try simp only [hcs] at hc9
    have lt_j : j < n := by omega
    refine snd_skip ?_
    refine snd_seq ?_
    refine snd_block ?_
    apply sr tokTB (by kernel_rfl)
    · intro RR hRR
      refine w_move (by constructor) ?_
      refine w_assign (by constructor) ?_
      exact hRR
    apply srG (env' := (22, .bool (decide (((G i j : Nat) : Int) = 0) && decide (((G j i : Nat) : Int) = 0))) :: (21, .any) :: (20, .any) :: (19, .any) :: (18, .any) :: (17, .any) :: (16, _) :: (15, _) :: (14, _) :: (13, _) :: (12, _) :: (11, _) :: _) tokTB (by kernel_rfl)
    · intro RR hRR
      refine w_move (by constructor) ?_
      refine w_move (by constructor) ?_
      refine w_move (by constructor) ?_
      refine y_call rfl (ec (ec (ec exn))) (c_gtimes (i := i) (j := j) hG (by omega) (by omega)) ?_
      refine w_eql rfl rfl ?_
      refine w_move (by constructor) ?_
      refine w_g rfl rfl (fun hg5 => ?_) (fun hg5 => ?_)
      · skip
        refine w_move (by constructor) ?_
        refine w_g_on rfl rfl hg5 ?_
        refine w_move (by constructor) ?_
        refine w_g_on rfl rfl hg5 ?_
        refine w_move (by constructor) ?_
        refine w_g_on rfl rfl hg5 ?_
        refine y_call rfl (ec (ec (ec exn))) (c_gtimes (i := j) (j := i) hG (by omega) (by omega)) ?_
        refine w_g_on rfl rfl hg5 ?_
        refine w_eql rfl rfl ?_
        refine w_pick_1 rfl hg5 (by constructor) ?_
        try simp only [Int.toNat_natCast] at hg5
        exact hRR _ (EL.cons (.inr (by first | rfl | (simp only [hg5, els]; done) | (simp only [hg5, els]; rfl) | (simp [hg5]; done) | (clear hRR; simp_all; done))) (EL.cons (.inl rfl) (EL.cons (.inl rfl) (EL.cons (.inl rfl) (EL.cons (.inl rfl) (EL.cons (.inl rfl) (EL.cons (.inr rfl) (EL.cons (.inr rfl) (EL.cons (.inr rfl) (EL.cons (.inr rfl) (EL.cons (.inr rfl) (EL.cons (.inr rfl) (EL.refl _)))))))))))))
      · have hg5 := eq_false_of_ne_true hg5
        refine w_g_off rfl rfl (by rw [hg5]; decide) ?_
        refine w_g_off rfl rfl (by rw [hg5]; decide) ?_
        refine w_g_off rfl rfl (by rw [hg5]; decide) ?_
        refine w_g_off rfl rfl (by rw [hg5]; decide) ?_
        refine w_pick_0 rfl hg5 (by constructor) ?_
        try simp only [Int.toNat_natCast] at hg5
        exact hRR _ (EL.cons (.inr (by first | rfl | (simp only [hg5, els]; done) | (simp only [hg5, els]; rfl) | (simp [hg5]; done) | (clear hRR; simp_all; done))) (EL.cons (.inl rfl) (EL.cons (.inl rfl) (EL.cons (.inl rfl) (EL.cons (.inl rfl) (EL.cons (.inl rfl) (EL.cons (.inr rfl) (EL.cons (.inr rfl) (EL.cons (.inr rfl) (EL.cons (.inr rfl) (EL.cons (.inr rfl) (EL.cons (.inr rfl) (EL.refl _)))))))))))))
    refine snd_cond _ rfl (fun hc22 => ?_) (fun hc22 => ?_)
    · skip
      apply sr tokTB (by kernel_rfl)
      · intro RR hRR
        refine w_move (by constructor) ?_
        refine w_assign (by constructor) ?_
        exact hRR
      refine snd_ret ?_
      exact rt (T := TB) (fun V => m_int (idx_at (by omega) (by rw [← ivB_d]; exact hc22) (fun a ha => by rw [← ivB_d]; exact inv_j a ha)).symm)
    · skip
      refine snd_skip ?_
      apply lr tokTB (by kernel_rfl)
      · intro RR hRR
        refine y_add rfl rfl ?_
        refine w_move (by constructor) ?_
        exact hRR
      refine ⟨j + 1, ρ0, ?_, ⟨by omega, all_step inv_j (by exact hc22)⟩, (by dsimp only; omega)⟩
      exact ⟨⟨m_cgrp, (mi), (mi), (mi), trivial⟩, trivial, trivial⟩
  · try simp only [hcs] at hc9
    have ge_j : n = j := by omega
    subst ge_j
    refine snd_exit ?_
    apply sr tokTB (by kernel_rfl)
    · intro RR hRR
      refine w_assign (by constructor) ?_
      exact hRR
    refine snd_ret ?_
    exact rt (T := TB) (fun V => m_int (idx_none (fun a ha => by rw [← ivB_d]; exact inv_j a ha)).symm)
theorem c_entriesOk {n : Nat} {G : Nat → Nat → Nat} (hG : RG G) : ACalls Try.prog TB 67 [.cptr (grpA (n : Int) G)] (.bool (decide (entP n G))) [] := by
  have hcl := closed_cgrp (n := (n : Int)) (G := G)
  have hcl2 := closed_grp (n := (n : Int)) (G := G)
  refine acalls_of tokTB Try.func67 rfl rfl (Nat.le_of_ble_eq_true rfl) ?_
  apply sr tokTB (by kernel_rfl)
  · intro RR hRR
    refine w_assign (by constructor) ?_
    exact hRR
  refine snd_seq ?_
  apply sr tokTB (by kernel_rfl)
  · intro RR hRR
    refine w_move (by constructor) ?_
    refine w_nilc rfl ?_
    refine w_fac rfl und38 rfl kn23 nz23 (by decide) rfl (by constructor) ?_
    refine w_ldc rfl kn23 (by constructor) (by exact sz23.symm) (by exact ag23.symm) ?_
    refine w_move (by constructor) ?_
    exact hRR
  refine snd_block ?_
  refine snd_loop (S := Nat) (fun i => ([(0, .cptr (grpA (n : Int) G)), (11, matA (tb2 G)), (12, .int .i64 (i : Int))], [])) (fun i => i ≤ 6 ∧ (∀ a, a < i → ∀ b, b < 6 → entQ n G a b)) (fun i => 6 - i) (0) ρ0 ?_ ?_ ?_
  · exact ⟨⟨m_cgrp, (mt_mat (V := _) (fun _ _ _ _ => rfl)), (mi), trivial⟩, trivial, trivial⟩
  · exact ⟨Nat.zero_le _, fun j hj => absurd hj (Nat.not_lt_zero _)⟩
  intro i hi0
  refine sq (env2 := [(0, .cptr (grpA (n : Int) G)), (11, matA (tb2 G)), (12, .int .i64 (i : Int))]) (ol2 := []) rfl rfl ?_
  obtain ⟨le_i, inv_i⟩ := hi0
  apply sr tokTB (by kernel_rfl)
  · intro RR hRR
    refine w_lss rfl rfl ?_
    exact hRR
  refine snd_seq ?_
  refine snd_cond _ rfl (fun hc13 => ?_) (fun hc13 => ?_)
  · try simp only [hcs] at hc13
    have lt_i : i < 6 := by omega
    refine snd_skip ?_
    refine snd_seq ?_
    refine snd_block ?_
    apply sr tokTB (by kernel_rfl)
    · intro RR hRR
      refine w_move (by constructor) ?_
      refine w_ixa rfl rfl und23 kn22 (by exact sz22.symm) ?_ (by constructor) (by exact ag22.symm) ?_
      · exact ⟨by omega, by omega⟩
      refine w_alloc kn22 rfl zr22 ?_
      refine w_assign (by constructor) ?_
      refine w_stw rfl (by constructor) kn22 rfl (by exact trivial) (sx) (by exact sz22.symm) ?_
      exact hRR
    apply sr tokTB (by kernel_rfl)
    · intro RR hRR
      refine w_ldp rfl kn22 rfl (by constructor) (by exact sz22.symm) (by exact ag22.symm) ?_
      refine w_move (by constructor) ?_
      exact hRR
    refine snd_block ?_
    refine snd_loop (S := Nat) (fun j => ([(0, .cptr (grpA (n : Int) G)), (3, .int .i64 (i : Int)), (11, matA (tb2 G)), (12, .int .i64 (i : Int)), (16, vecA (tb2 G i)), (17, .int .i64 (j : Int))], [])) (fun j => j ≤ 6 ∧ (∀ b, b < j → entQ n G i b)) (fun j => 6 - j) (0) ρ0 ?_ ?_ ?_
    · exact ⟨⟨m_cgrp, (mi), (mt_mat (V := _) (fun _ _ _ _ => rfl)), (mi), (m_vec (fun _ _ => rfl)), (mi), trivial⟩, trivial, trivial⟩
    · exact ⟨Nat.zero_le _, fun j hj => absurd hj (Nat.not_lt_zero _)⟩
    intro j hi2
    refine sq (env2 := [(0, .cptr (grpA (n : Int) G)), (3, .int .i64 (i : Int)), (11, matA (tb2 G)), (12, .int .i64 (i : Int)), (16, vecA (tb2 G i)), (17, .int .i64 (j : Int))]) (ol2 := []) rfl rfl ?_
    obtain ⟨le_j, inv_j⟩ := hi2
    apply sr tokTB (by kernel_rfl)
    · intro RR hRR
      refine w_lss rfl rfl ?_
      exact hRR
    refine snd_seq ?_
    refine snd_cond _ rfl (fun hc18 => ?_) (fun hc18 => ?_)
    · try simp only [hcs] at hc18
      have lt_j : j < 6 := by omega
      refine snd_skip ?_
      refine snd_seq ?_
      refine snd_block ?_
      apply sr tokTB (by kernel_rfl)
      · intro RR hRR
        refine w_move (by constructor) ?_
        refine w_ixa rfl rfl und22 kn5 (by exact sz5.symm) ?_ (by constructor) (by exact ag5.symm) ?_
        · exact ⟨by omega, by omega⟩
        refine w_assign (by constructor) ?_
        refine w_assign (by constructor) ?_
        exact hRR
      apply srG (env' := (7, .bool (decide ((i : Int) < (n : Int)) && decide ((j : Int) < (n : Int)))) :: (30, .bool (decide ((i : Int) < (n : Int)) && decide ((j : Int) < (n : Int)))) :: (29, .any) :: (28, .any) :: (27, .any) :: (26, .any) :: (25, _) :: (24, _) :: (23, _) :: (22, _) :: (21, _) :: _) tokTB (by kernel_rfl)
      · intro RR hRR
        refine w_move (by constructor) ?_
        refine w_move (by constructor) ?_
        refine y_call rfl (ec exn) (c_gn) ?_
        refine w_lss rfl rfl ?_
        refine w_move (by constructor) ?_
        refine w_g rfl rfl (fun hg4 => ?_) (fun hg4 => ?_)
        · skip
          refine w_move (by constructor) ?_
          refine w_g_on rfl rfl hg4 ?_
          refine w_move (by constructor) ?_
          refine w_g_on rfl rfl hg4 ?_
          refine y_call rfl (ec exn) (c_gn) ?_
          refine w_g_on rfl rfl hg4 ?_
          refine w_lss rfl rfl ?_
          refine w_pick_1 rfl hg4 (by constructor) ?_
          refine w_assign (by constructor) ?_
          try simp only [Int.toNat_natCast] at hg4
          exact hRR _ (EL.cons (.inr (by first | rfl | (simp only [hg4, els]; done) | (simp only [hg4, els]; rfl) | (simp [hg4]; done) | (clear hRR; simp_all; done))) (EL.cons (.inr (by first | rfl | (simp only [hg4, els]; done) | (simp only [hg4, els]; rfl) | (simp [hg4]; done) | (clear hRR; simp_all; done))) (EL.cons (.inl rfl) (EL.cons (.inl rfl) (EL.cons (.inl rfl) (EL.cons (.inl rfl) (EL.cons (.inr rfl) (EL.cons (.inr rfl) (EL.cons (.inr rfl) (EL.cons (.inr rfl) (EL.cons (.inr rfl) (EL.refl _))))))))))))
        · have hg4 := eq_false_of_ne_true hg4
          refine w_g_off rfl rfl (by rw [hg4]; decide) ?_
          refine w_g_off rfl rfl (by rw [hg4]; decide) ?_
          refine w_g_off rfl rfl (by rw [hg4]; decide) ?_
          refine w_pick_0 rfl hg4 (by constructor) ?_
          refine w_assign (by constructor) ?_
          try simp only [Int.toNat_natCast] at hg4
          exact hRR _ (EL.cons (.inr (by first | rfl | (simp only [hg4, els]; done) | (simp only [hg4, els]; rfl) | (simp [hg4]; done) | (clear hRR; simp_all; done))) (EL.cons (.inr (by first | rfl | (simp only [hg4, els]; done) | (simp only [hg4, els]; rfl) | (simp [hg4]; done) | (clear hRR; simp_all; done))) (EL.cons (.inl rfl) (EL.cons (.inl rfl) (EL.cons (.inl rfl) (EL.cons (.inl rfl) (EL.cons (.inr rfl) (EL.cons (.inr rfl) (EL.cons (.inr rfl) (EL.cons (.inr rfl) (EL.cons (.inr rfl) (EL.refl _))))))))))))
      apply srG (env' := (48, .bool (((decide ((i : Int) < (n : Int)) && decide ((j : Int) < (n : Int))) && decide ((n : Int) ≤ ((G i j : Nat) : Int))) || (!(decide ((i : Int) < (n : Int)) && decide ((j : Int) < (n : Int))) && decide (((G i j : Nat) : Int) ≠ 0)))) :: (47, .any) :: (46, .any) :: (45, .any) :: (44, .any) :: (43, .any) :: (42, .any) :: (41, .bool ((decide ((i : Int) < (n : Int)) && decide ((j : Int) < (n : Int))) && decide ((n : Int) ≤ ((G i j : Nat) : Int)))) :: (40, .bool ((decide ((i : Int) < (n : Int)) && decide ((j : Int) < (n : Int))) && decide ((n : Int) ≤ ((G i j : Nat) : Int)))) :: (39, .any) :: (38, .any) :: (37, .any) :: (36, .any) :: (35, .any) :: (34, .any) :: (33, .any) :: (32, _) :: (31, _) :: _) tokTB (by kernel_rfl)
      · intro RR hRR
        refine w_move (by constructor) ?_
        refine w_move (by constructor) ?_
        refine w_g rfl rfl (fun hg1 => ?_) (fun hg1 => ?_)
        · skip
          refine w_move (by constructor) ?_
          refine w_g_on rfl rfl hg1 ?_
          refine w_conv rfl und5 und2 (by exact hG.w8 i j) ?_
          refine w_g_on rfl rfl hg1 ?_
          refine w_move (by constructor) ?_
          refine w_g_on rfl rfl hg1 ?_
          first | refine w_nilc rfl ?_ | refine w_nilp rfl ?_ | refine w_nilf rfl ?_
          refine w_g_on rfl rfl hg1 ?_
          first | refine w_fac rfl und38 rfl kn2 nz2 (by decide) rfl (by constructor) ?_ | refine w_fap rfl und38 rfl kn2 nz2 rfl (by decide) rfl ?_
          refine w_g_on rfl rfl hg1 ?_
          first | refine w_ldc rfl kn2 (by constructor) (by exact sz2.symm) (by exact ag2.symm) ?_ | refine w_ldp rfl kn2 rfl (by constructor) (by exact sz2.symm) (by exact ag2.symm) ?_
          refine w_g_on rfl rfl hg1 ?_
          refine w_geq rfl rfl ?_
          refine w_pick_1 rfl hg1 (by constructor) ?_
          refine w_move (by constructor) ?_
          refine w_g rfl rfl (fun hg10 => ?_) (fun hg10 => ?_)
          · skip
            refine w_move (by constructor) ?_
            refine w_g_on rfl rfl hg10 ?_
            refine w_not rfl ?_
            refine w_g_on rfl rfl hg10 ?_
            refine w_move (by constructor) ?_
            refine w_g rfl rfl (fun hg13 => ?_) (fun hg13 => ?_)
            · skip
              refine w_move (by constructor) ?_
              refine w_g_on rfl rfl hg13 ?_
              refine w_neq rfl rfl ?_
              refine w_g_on rfl rfl hg10 ?_
              refine w_pick_1 rfl hg13 (by constructor) ?_
              refine w_pick_0 rfl hg10 (by constructor) ?_
              try simp only [Int.toNat_natCast] at hg1 hg10 hg13
              exact hRR _ (EL.cons (.inr (by first | rfl | (simp only [hg1, hg10, hg13, els]; done) | (simp only [hg1, hg10, hg13, els]; rfl) | (simp [hg1, hg10, hg13]; done) | (clear hRR; simp_all; done) | (exfalso; simp only [hg1, Bool.not_false, Bool.not_true, reduceCtorEq] at hg10; done) | (exfalso; simp only [hg1, Bool.not_false, Bool.not_true, reduceCtorEq] at hg13; done) | (exfalso; simp only [hg10, Bool.not_false, Bool.not_true, reduceCtorEq] at hg13; done))) (EL.cons (.inl rfl) (EL.cons (.inl rfl) (EL.cons (.inl rfl) (EL.cons (.inl rfl) (EL.cons (.inl rfl) (EL.cons (.inl rfl) (EL.cons (.inr (by first | rfl | (simp only [hg1, hg10, hg13, els]; done) | (simp only [hg1, hg10, hg13, els]; rfl) | (simp [hg1, hg10, hg13]; done) | (clear hRR; simp_all; done) | (exfalso; simp only [hg1, Bool.not_false, Bool.not_true, reduceCtorEq] at hg10; done) | (exfalso; simp only [hg1, Bool.not_false, Bool.not_true, reduceCtorEq] at hg13; done) | (exfalso; simp only [hg10, Bool.not_false, Bool.not_true, reduceCtorEq] at hg13; done))) (EL.cons (.inr (by first | rfl | (simp only [hg1, hg10, hg13, els]; done) | (simp only [hg1, hg10, hg13, els]; rfl) | (simp [hg1, hg10, hg13]; done) | (clear hRR; simp_all; done) | (exfalso; simp only [hg1, Bool.not_false, Bool.not_true, reduceCtorEq] at hg10; done) | (exfalso; simp only [hg1, Bool.not_false, Bool.not_true, reduceCtorEq] at hg13; done) | (exfalso; simp only [hg10, Bool.not_false, Bool.not_true, reduceCtorEq] at hg13; done))) (EL.cons (.inl rfl) (EL.cons (.inl rfl) (EL.cons (.inl rfl) (EL.cons (.inl rfl) (EL.cons (.inl rfl) (EL.cons (.inl rfl) (EL.cons (.inl rfl) (EL.cons (.inr rfl) (EL.cons (.inr rfl) (EL.refl _)))))))))))))))))))
            · have hg13 := eq_false_of_ne_true hg13
              refine w_g_off rfl rfl (by rw [hg13]; decide) ?_
              refine w_g_on rfl rfl hg10 ?_
              refine w_pick_0 rfl hg13 (by constructor) ?_
              refine w_pick_0 rfl hg10 (by constructor) ?_
              try simp only [Int.toNat_natCast] at hg1 hg10 hg13
              exact hRR _ (EL.cons (.inr (by first | rfl | (simp only [hg1, hg10, hg13, els]; done) | (simp only [hg1, hg10, hg13, els]; rfl) | (simp [hg1, hg10, hg13]; done) | (clear hRR; simp_all; done) | (exfalso; simp only [hg1, Bool.not_false, Bool.not_true, reduceCtorEq] at hg10; done) | (exfalso; simp only [hg1, Bool.not_false, Bool.not_true, reduceCtorEq] at hg13; done) | (exfalso; simp only [hg10, Bool.not_false, Bool.not_true, reduceCtorEq] at hg13; done))) (EL.cons (.inl rfl) (EL.cons (.inl rfl) (EL.cons (.inl rfl) (EL.cons (.inl rfl) (EL.cons (.inl rfl) (EL.cons (.inl rfl) (EL.cons (.inr (by first | rfl | (simp only [hg1, hg10, hg13, els]; done) | (simp only [hg1, hg10, hg13, els]; rfl) | (simp [hg1, hg10, hg13]; done) | (clear hRR; simp_all; done) | (exfalso; simp only [hg1, Bool.not_false, Bool.not_true, reduceCtorEq] at hg10; done) | (exfalso; simp only [hg1, Bool.not_false, Bool.not_true, reduceCtorEq] at hg13; done) | (exfalso; simp only [hg10, Bool.not_false, Bool.not_true, reduceCtorEq] at hg13; done))) (EL.cons (.inr (by first | rfl | (simp only [hg1, hg10, hg13, els]; done) | (simp only [hg1, hg10, hg13, els]; rfl) | (simp [hg1, hg10, hg13]; done) | (clear hRR; simp_all; done) | (exfalso; simp only [hg1, Bool.not_false, Bool.not_true, reduceCtorEq] at hg10; done) | (exfalso; simp only [hg1, Bool.not_false, Bool.not_true, reduceCtorEq] at hg13; done) | (exfalso; simp only [hg10, Bool.not_false, Bool.not_true, reduceCtorEq] at hg13; done))) (EL.cons (.inl rfl) (EL.cons (.inl rfl) (EL.cons (.inl rfl) (EL.cons (.inl rfl) (EL.cons (.inl rfl) (EL.cons (.inl rfl) (EL.cons (.inl rfl) (EL.cons (.inr rfl) (EL.cons (.inr rfl) (EL.refl _)))))))))))))))))))
          · have hg10 := eq_true_of_ne_false hg10
            refine w_g_off rfl rfl (by rw [hg10]; decide) ?_
            refine w_g_off rfl rfl (by rw [hg10]; decide) ?_
            refine w_g_und rfl rfl ?_
            refine w_g_und rfl rfl ?_
            refine w_g_off rfl rfl (by rw [hg10]; decide) ?_
            refine w_pick_1 rfl hg10 (by constructor) ?_
            try simp only [Int.toNat_natCast] at hg1 hg10
            exact hRR _ (EL.cons (.inr (by first | rfl | (simp only [hg1, hg10, els]; done) | (simp only [hg1, hg10, els]; rfl) | (simp [hg1, hg10]; done) | (clear hRR; simp_all; done) | (exfalso; simp only [hg1, Bool.not_false, Bool.not_true, reduceCtorEq] at hg10; done))) (EL.cons (.inl rfl) (EL.cons (.inl rfl) (EL.cons (.inl rfl) (EL.cons (.inl rfl) (EL.cons (.inl rfl) (EL.cons (.inl rfl) (EL.cons (.inr (by first | rfl | (simp only [hg1, hg10, els]; done) | (simp only [hg1, hg10, els]; rfl) | (simp [hg1, hg10]; done) | (clear hRR; simp_all; done) | (exfalso; simp only [hg1, Bool.not_false, Bool.not_true, reduceCtorEq] at hg10; done))) (EL.cons (.inr (by first | rfl | (simp only [hg1, hg10, els]; done) | (simp only [hg1, hg10, els]; rfl) | (simp [hg1, hg10]; done) | (clear hRR; simp_all; done) | (exfalso; simp only [hg1, Bool.not_false, Bool.not_true, reduceCtorEq] at hg10; done))) (EL.cons (.inl rfl) (EL.cons (.inl rfl) (EL.cons (.inl rfl) (EL.cons (.inl rfl) (EL.cons (.inl rfl) (EL.cons (.inl rfl) (EL.cons (.inl rfl) (EL.cons (.inr rfl) (EL.cons (.inr rfl) (EL.refl _)))))))))))))))))))
        · have hg1 := eq_false_of_ne_true hg1
          refine w_g_off rfl rfl (by rw [hg1]; decide) ?_
          refine w_g_off rfl rfl (by rw [hg1]; decide) ?_
          refine w_g_off rfl rfl (by rw [hg1]; decide) ?_
          refine w_g_off rfl rfl (by rw [hg1]; decide) ?_
          refine w_g_off rfl rfl (by rw [hg1]; decide) ?_
          refine w_g_off rfl rfl (by rw [hg1]; decide) ?_
          refine w_pick_0 rfl hg1 (by constructor) ?_
          refine w_move (by constructor) ?_
          refine w_g_on rfl rfl rfl ?_
          refine w_move (by constructor) ?_
          refine w_g_on rfl rfl rfl ?_
          refine w_not rfl ?_
          refine w_g_on rfl rfl rfl ?_
          refine w_move (by constructor) ?_
          refine w_g rfl rfl (fun hg13 => ?_) (fun hg13 => ?_)
          · skip
            refine w_move (by constructor) ?_
            refine w_g_on rfl rfl hg13 ?_
            refine w_neq rfl rfl ?_
            refine w_g_on rfl rfl rfl ?_
            refine w_pick_1 rfl hg13 (by constructor) ?_
            refine w_pick_0 rfl rfl (by constructor) ?_
            try simp only [Int.toNat_natCast] at hg1 hg13
            exact hRR _ (EL.cons (.inr (by first | rfl | (simp only [hg1, hg13, els]; done) | (simp only [hg1, hg13, els]; rfl) | (simp [hg1, hg13]; done) | (clear hRR; simp_all; done) | (exfalso; simp only [hg1, Bool.not_false, Bool.not_true, reduceCtorEq] at hg13; done))) (EL.cons (.inl rfl) (EL.cons (.inl rfl) (EL.cons (.inl rfl) (EL.cons (.inl rfl) (EL.cons (.inl rfl) (EL.cons (.inl rfl) (EL.cons (.inr (by first | rfl | (simp only [hg1, hg13, els]; done) | (simp only [hg1, hg13, els]; rfl) | (simp [hg1, hg13]; done) | (clear hRR; simp_all; done) | (exfalso; simp only [hg1, Bool.not_false, Bool.not_true, reduceCtorEq] at hg13; done))) (EL.cons (.inr (by first | rfl | (simp only [hg1, hg13, els]; done) | (simp only [hg1, hg13, els]; rfl) | (simp [hg1, hg13]; done) | (clear hRR; simp_all; done) | (exfalso; simp only [hg1, Bool.not_false, Bool.not_true, reduceCtorEq] at hg13; done))) (EL.cons (.inl rfl) (EL.cons (.inl rfl) (EL.cons (.inl rfl) (EL.cons (.inl rfl) (EL.cons (.inl rfl) (EL.cons (.inl rfl) (EL.cons (.inl rfl) (EL.cons (.inr rfl) (EL.cons (.inr rfl) (EL.refl _)))))))))))))))))))
          · have hg13 := eq_false_of_ne_true hg13
            refine w_g_off rfl rfl (by rw [hg13]; decide) ?_
            refine w_g_on rfl rfl rfl ?_
            refine w_pick_0 rfl hg13 (by constructor) ?_
            refine w_pick_0 rfl rfl (by constructor) ?_
            try simp only [Int.toNat_natCast] at hg1 hg13
            exact hRR _ (EL.cons (.inr (by first | rfl | (simp only [hg1, hg13, els]; done) | (simp only [hg1, hg13, els]; rfl) | (simp [hg1, hg13]; done) | (clear hRR; simp_all; done) | (exfalso; simp only [hg1, Bool.not_false, Bool.not_true, reduceCtorEq] at hg13; done))) (EL.cons (.inl rfl) (EL.cons (.inl rfl) (EL.cons (.inl rfl) (EL.cons (.inl rfl) (EL.cons (.inl rfl) (EL.cons (.inl rfl) (EL.cons (.inr (by first | rfl | (simp only [hg1, hg13, els]; done) | (simp only [hg1, hg13, els]; rfl) | (simp [hg1, hg13]; done) | (clear hRR; simp_all; done) | (exfalso; simp only [hg1, Bool.not_false, Bool.not_true, reduceCtorEq] at hg13; done))) (EL.cons (.inr (by first | rfl | (simp only [hg1, hg13, els]; done) | (simp only [hg1, hg13, els]; rfl) | (simp [hg1, hg13]; done) | (clear hRR; simp_all; done) | (exfalso; simp only [hg1, Bool.not_false, Bool.not_true, reduceCtorEq] at hg13; done))) (EL.cons (.inl rfl) (EL.cons (.inl rfl) (EL.cons (.inl rfl) (EL.cons (.inl rfl) (EL.cons (.inl rfl) (EL.cons (.inl rfl) (EL.cons (.inl rfl) (EL.cons (.inr rfl) (EL.cons (.inr rfl) (EL.refl _)))))))))))))))))))
      refine snd_cond _ rfl (fun hc48 => ?_) (fun hc48 => ?_)
      · skip
        apply sr tokTB (by kernel_rfl)
        · intro RR hRR
          refine w_assign (by constructor) ?_
          exact hRR
        refine snd_ret ?_
        exact rt (T := TB) (fun V => m_bool (by symm; rw [decide_eq_false_iff_not]; intro h; exact entB_t hc48 (h i (by omega) j (by omega))))
      · skip
        refine snd_skip ?_
        apply lr tokTB (by kernel_rfl)
        · intro RR hRR
          refine y_add rfl rfl ?_
          refine w_move (by constructor) ?_
          exact hRR
        refine ⟨j + 1, ρ0, ?_, ⟨by omega, all_step inv_j (entB_f hc48)⟩, (by dsimp only; omega)⟩
        exact ⟨⟨m_cgrp, (mi), (mt_mat (V := _) (fun _ _ _ _ => rfl)), (mi), (m_vec (fun _ _ => rfl)), (mi), trivial⟩, trivial, trivial⟩
    · try simp only [hcs] at hc18
      have ge_j : 6 = j := by omega
      subst ge_j
      refine snd_exit ?_
      apply lr tokTB (by kernel_rfl)
      · intro RR hRR
        refine y_add rfl rfl ?_
        refine w_move (by constructor) ?_
        exact hRR
      refine ⟨i + 1, ρ0, ?_, ⟨by omega, all_step inv_i inv_j⟩, (by dsimp only; omega)⟩
      exact ⟨⟨m_cgrp, (mt_mat (V := _) (fun _ _ _ _ => rfl)), (mi), trivial⟩, trivial, trivial⟩
  · try simp only [hcs] at hc13
    have ge_i : 6 = i := by omega
    subst ge_i
    refine snd_exit ?_
    apply sr tokTB (by kernel_rfl)
    · intro RR hRR
      refine w_assign (by constructor) ?_
      exact hRR
    refine snd_ret ?_
    exact rt (T := TB) (fun V => m_bool (by symm; rw [decide_eq_true_eq]; exact inv_i))
end Go.Am

set_option linter.unusedVariables false
set_option linter.unusedSimpArgs false
set_option maxRecDepth 4000
namespace Go.Am
attribute [local irreducible] retQ retQp
open Go.Proofs
theorem c_IsGroupN {n : Nat} {G : Nat → Nat → Nat} (hG : RG G) : ACalls Try.prog TB 34 [grpA (n : Int) G] (.bool (decide (GN n G))) [] := by
  have hcl := closed_cgrp (n := (n : Int)) (G := G)
  have hcl2 := closed_grp (n := (n : Int)) (G := G)
  refine acalls_of tokTB Try.func34 rfl rfl (Nat.le_of_ble_eq_true rfl) ?_
  apply sr tokTB (by kernel_rfl)
  · intro RR hRR
    refine w_boxc (HV.eq (by constructor)) (by exact trivial) ?_
    refine w_assign (by constructor) ?_
    exact hRR
  refine snd_seq ?_
  apply srG (env' := (13, .bool (!(decide ((1 : Int) ≤ (n : Int)) && decide ((n : Int) ≤ 6)) || !(decide (entP n G)))) :: (12, .any) :: (11, .any) :: (10, _) :: (9, _) :: (8, _) :: (7, _) :: (6, _) :: _) tokTB (by kernel_rfl)
  · intro RR hRR
    refine w_fac rfl und38 rfl kn2 nz2 (by decide) rfl (by constructor) ?_
    first | refine w_ldc rfl kn2 (by constructor) (by exact sz2.symm) (by exact ag2.symm) ?_ | refine w_ldp rfl kn2 rfl (by constructor) (by exact sz2.symm) (by exact ag2.symm) ?_
    refine y_call rfl (ec (ec (ec exn))) (c_in) ?_
    refine w_not rfl ?_
    refine w_move (by constructor) ?_
    refine w_g rfl rfl (fun hg4 => ?_) (fun hg4 => ?_)
    · skip
      refine y_call rfl (exc exp_cgrp exn) (c_entriesOk hG) ?_
      refine w_g_on rfl rfl hg4 ?_
      refine w_not rfl ?_
      refine w_pick_0 rfl hg4 (by constructor) ?_
      try simp only [Int.toNat_natCast] at hg4
      exact hRR _ (EL.cons (.inr (by first | rfl | (simp only [hg4, els]; done) | (simp only [hg4, els]; rfl) | (simp [hg4]; done) | (clear hRR; simp_all; done))) (EL.cons (.inl rfl) (EL.cons (.inl rfl) (EL.cons (.inr rfl) (EL.cons (.inr rfl) (EL.cons (.inr rfl) (EL.cons (.inr rfl) (EL.cons (.inr rfl) (EL.refl _)))))))))
    · have hg4 := eq_true_of_ne_false hg4
      refine w_g_off rfl rfl (by rw [hg4]; decide) ?_
      refine w_pick_1 rfl hg4 (by constructor) ?_
      try simp only [Int.toNat_natCast] at hg4
      exact hRR _ (EL.cons (.inr (by first | rfl | (simp only [hg4, els]; done) | (simp only [hg4, els]; rfl) | (simp [hg4]; done) | (clear hRR; simp_all; done))) (EL.cons (.inl rfl) (EL.cons (.inl rfl) (EL.cons (.inr rfl) (EL.cons (.inr rfl) (EL.cons (.inr rfl) (EL.cons (.inr rfl) (EL.cons (.inr rfl) (EL.refl _)))))))))
  refine snd_cond _ rfl (fun hc13 => ?_) (fun hc13 => ?_)
  · skip
    apply sr tokTB (by kernel_rfl)
    · intro RR hRR
      refine w_assign (by constructor) ?_
      exact hRR
    refine snd_ret ?_
    exact rt (T := TB) (fun V => m_bool (by symm; rw [decide_eq_false_iff_not]; intro h; exact gn_in_t hc13 h))
  · skip
    obtain ⟨hn1, hn6, hE⟩ := gn_in hc13
    refine snd_skip ?_
    refine snd_seq ?_
    apply sr tokTB (by kernel_rfl)
    · intro RR hRR
      refine y_call rfl (exc exp_cgrp exn) (c_gn) ?_
      refine w_move (by constructor) ?_
      exact hRR
    refine snd_block ?_
    refine snd_loop (S := Nat) (fun i => ([(1, .cptr (grpA (n : Int) G)), (14, .int .i64 (n : Int)), (15, .int .i64 (i : Int))], [])) (fun i => i ≤ n ∧ (∀ a, a < i → gmI n G a)) (fun i => n - i) (0) ρ0 ?_ ?_ ?_
    · exact ⟨⟨m_cgrp, (mi), (mi), trivial⟩, trivial, trivial⟩
    · exact ⟨Nat.zero_le _, fun j hj => absurd hj (Nat.not_lt_zero _)⟩
    intro i hi0
    refine sq (env2 := [(1, .cptr (grpA (n : Int) G)), (14, .int .i64 (n : Int)), (15, .int .i64 (i : Int))]) (ol2 := []) rfl rfl ?_
    obtain ⟨le_i, inv_i⟩ := hi0
    apply sr tokTB (by kernel_rfl)
    · intro RR hRR
      refine w_lss rfl rfl ?_
      exact hRR
    refine snd_seq ?_
    refine snd_cond _ rfl (fun hc16 => ?_) (fun hc16 => ?_)
    · try simp only [hcs] at hc16
      have lt_i : i < n := by omega
      refine snd_skip ?_
      refine snd_seq ?_
      refine snd_block ?_
      apply sr tokTB (by kernel_rfl)
      · intro RR hRR
        refine w_move (by constructor) ?_
        refine w_assign (by constructor) ?_
        exact hRR
      refine snd_seq ?_
      apply srG (env' := (32, .bool ((decide (((G 0 i : Nat) : Int) ≠ (i : Int)) || decide (((G i 0 : Nat) : Int) ≠ (i : Int))) || decide (ivI n G i < 0))) :: (31, .any) :: (30, .any) :: (29, .any) :: (28, .bool (decide (((G 0 i : Nat) : Int) ≠ (i : Int)) || decide (((G i 0 : Nat) : Int) ≠ (i : Int)))) :: (27, .bool (decide (((G 0 i : Nat) : Int) ≠ (i : Int)) || decide (((G i 0 : Nat) : Int) ≠ (i : Int)))) :: (26, .any) :: (25, .any) :: (24, .any) :: (23, .any) :: (22, _) :: (21, _) :: (20, _) :: (19, _) :: (18, _) :: _) tokTB (by kernel_rfl)
      · intro RR hRR
        refine w_move (by constructor) ?_
        refine y_call rfl (exc exp_cgrp (ec (ec exn))) (c_gtimes (i := 0) (j := i) hG (by omega) (by omega)) ?_
        refine w_move (by constructor) ?_
        refine w_neq rfl rfl ?_
        refine w_move (by constructor) ?_
        refine w_g rfl rfl (fun hg4 => ?_) (fun hg4 => ?_)
        · skip
          refine w_move (by constructor) ?_
          refine w_g_on rfl rfl hg4 ?_
          refine y_call rfl (exc exp_cgrp (ec (ec exn))) (c_gtimes (i := i) (j := 0) hG (by omega) (by omega)) ?_
          refine w_g_on rfl rfl hg4 ?_
          refine w_move (by constructor) ?_
          refine w_g_on rfl rfl hg4 ?_
          refine w_neq rfl rfl ?_
          refine w_pick_0 rfl hg4 (by constructor) ?_
          refine w_move (by constructor) ?_
          refine w_g rfl rfl (fun hg10 => ?_) (fun hg10 => ?_)
          · skip
            refine w_move (by constructor) ?_
            refine w_g_on rfl rfl hg10 ?_
            refine y_call rfl (exc exp_cgrp (ec exn)) (c_ginverse (i := i) hG hn6 (by omega)) ?_
            refine w_g_on rfl rfl hg10 ?_
            refine w_lss rfl rfl ?_
            refine w_pick_0 rfl hg10 (by constructor) ?_
            try simp only [Int.toNat_natCast] at hg4 hg10
            exact hRR _ (EL.cons (.inr (by first | rfl | (simp only [hg4, hg10, els]; done) | (simp only [hg4, hg10, els]; rfl) | (simp [hg4, hg10]; done) | (clear hRR; simp_all; done) | (exfalso; simp only [hg4, Bool.not_false, Bool.not_true, reduceCtorEq] at hg10; done))) (EL.cons (.inl rfl) (EL.cons (.inl rfl) (EL.cons (.inl rfl) (EL.cons (.inr (by first | rfl | (simp only [hg4, hg10, els]; done) | (simp only [hg4, hg10, els]; rfl) | (simp [hg4, hg10]; done) | (clear hRR; simp_all; done) | (exfalso; simp only [hg4, Bool.not_false, Bool.not_true, reduceCtorEq] at hg10; done))) (EL.cons (.inr (by first | rfl | (simp only [hg4, hg10, els]; done) | (simp only [hg4, hg10, els]; rfl) | (simp [hg4, hg10]; done) | (clear hRR; simp_all; done) | (exfalso; simp only [hg4, Bool.not_false, Bool.not_true, reduceCtorEq] at hg10; done))) (EL.cons (.inl rfl) (EL.cons (.inl rfl) (EL.cons (.inl rfl) (EL.cons (.inl rfl) (EL.cons (.inr rfl) (EL.cons (.inr rfl) (EL.cons (.inr rfl) (EL.cons (.inr rfl) (EL.cons (.inr rfl) (EL.refl _))))))))))))))))
          · have hg10 := eq_true_of_ne_false hg10
            refine w_g_off rfl rfl (by rw [hg10]; decide) ?_
            refine w_g_off rfl rfl (by rw [hg10]; decide) ?_
            refine w_pick_1 rfl hg10 (by constructor) ?_
            try simp only [Int.toNat_natCast] at hg4 hg10
            exact hRR _ (EL.cons (.inr (by first | rfl | (simp only [hg4, hg10, els]; done) | (simp only [hg4, hg10, els]; rfl) | (simp [hg4, hg10]; done) | (clear hRR; simp_all; done) | (exfalso; simp only [hg4, Bool.not_false, Bool.not_true, reduceCtorEq] at hg10; done))) (EL.cons (.inl rfl) (EL.cons (.inl rfl) (EL.cons (.inl rfl) (EL.cons (.inr (by first | rfl | (simp only [hg4, hg10, els]; done) | (simp only [hg4, hg10, els]; rfl) | (simp [hg4, hg10]; done) | (clear hRR; simp_all; done) | (exfalso; simp only [hg4, Bool.not_false, Bool.not_true, reduceCtorEq] at hg10; done))) (EL.cons (.inr (by first | rfl | (simp only [hg4, hg10, els]; done) | (simp only [hg4, hg10, els]; rfl) | (simp [hg4, hg10]; done) | (clear hRR; simp_all; done) | (exfalso; simp only [hg4, Bool.not_false, Bool.not_true, reduceCtorEq] at hg10; done))) (EL.cons (.inl rfl) (EL.cons (.inl rfl) (EL.cons (.inl rfl) (EL.cons (.inl rfl) (EL.cons (.inr rfl) (EL.cons (.inr rfl) (EL.cons (.inr rfl) (EL.cons (.inr rfl) (EL.cons (.inr rfl) (EL.refl _))))))))))))))))
        · have hg4 := eq_true_of_ne_false hg4
          refine w_g_off rfl rfl (by rw [hg4]; decide) ?_
          refine w_g_off rfl rfl (by rw [hg4]; decide) ?_
          refine w_g_off rfl rfl (by rw [hg4]; decide) ?_
          refine w_pick_1 rfl hg4 (by constructor) ?_
          refine w_move (by constructor) ?_
          refine w_g_off rfl rfl (by decide) ?_
          refine w_g_off rfl rfl (by decide) ?_
          refine w_g_off rfl rfl (by decide) ?_
          refine w_pick_1 rfl rfl (by constructor) ?_
          try simp only [Int.toNat_natCast] at hg4
          exact hRR _ (EL.cons (.inr (by first | rfl | (simp only [hg4, els]; done) | (simp only [hg4, els]; rfl) | (simp [hg4]; done) | (clear hRR; simp_all; done))) (EL.cons (.inl rfl) (EL.cons (.inl rfl) (EL.cons (.inl rfl) (EL.cons (.inr (by first | rfl | (simp only [hg4, els]; done) | (simp only [hg4, els]; rfl) | (simp [hg4]; done) | (clear hRR; simp_all; done))) (EL.cons (.inr (by first | rfl | (simp only [hg4, els]; done) | (simp only [hg4, els]; rfl) | (simp [hg4]; done) | (clear hRR; simp_all; done))) (EL.cons (.inl rfl) (EL.cons (.inl rfl) (EL.cons (.inl rfl) (EL.cons (.inl rfl) (EL.cons (.inr rfl) (EL.cons (.inr rfl) (EL.cons (.inr rfl) (EL.cons (.inr rfl) (EL.cons (.inr rfl) (EL.refl _))))))))))))))))
      refine snd_cond _ rfl (fun hc32 => ?_) (fun hc32 => ?_)
      · skip
        apply sr tokTB (by kernel_rfl)
        · intro RR hRR
          refine w_assign (by constructor) ?_
          exact hRR
        refine snd_ret ?_
        exact rt (T := TB) (fun V => m_bool (by symm; rw [decide_eq_false_iff_not]; intro h; exact gi_t hc32 (h.gm lt_i)))
      · skip
        refine snd_skip ?_
        apply sr tokTB (by kernel_rfl)
        · intro RR hRR
          refine y_call rfl (exc exp_cgrp exn) (c_gn) ?_
          refine w_move (by constructor) ?_
          exact hRR
        refine snd_block ?_
        refine snd_loop (S := Nat) (fun j => ([(1, .cptr (grpA (n : Int) G)), (3, .int .i64 (i : Int)), (14, .int .i64 (n : Int)), (15, .int .i64 (i : Int)), (33, .int .i64 (n : Int)), (34, .int .i64 (j : Int))], [])) (fun j => j ≤ n ∧ (∀ b, b < j → ∀ c, c < n → G (G i b) c = G i (G b c))) (fun j => n - j) (0) ρ0 ?_ ?_ ?_
        · exact ⟨⟨m_cgrp, (mi), (mi), (mi), (mi), (mi), trivial⟩, trivial, trivial⟩
        · exact ⟨Nat.zero_le _, fun j hj => absurd hj (Nat.not_lt_zero _)⟩
        intro j hi2
        refine sq (env2 := [(1, .cptr (grpA (n : Int) G)), (3, .int .i64 (i : Int)), (14, .int .i64 (n : Int)), (15, .int .i64 (i : Int)), (33, .int .i64 (n : Int)), (34, .int .i64 (j : Int))]) (ol2 := []) rfl rfl ?_
        obtain ⟨le_j, inv_j⟩ := hi2
        apply sr tokTB (by kernel_rfl)
        · intro RR hRR
          refine w_lss rfl rfl ?_
          exact hRR
        refine snd_seq ?_
        refine snd_cond _ rfl (fun hc35 => ?_) (fun hc35 => ?_)
        · try simp only [hcs] at hc35
          have lt_j : j < n := by omega
          refine snd_skip ?_
          refine snd_seq ?_
          refine snd_block ?_
          apply sr tokTB (by kernel_rfl)
          · intro RR hRR
            refine w_move (by constructor) ?_
            refine w_assign (by constructor) ?_
            exact hRR
          apply sr tokTB (by kernel_rfl)
          · intro RR hRR
            refine y_call rfl (exc exp_cgrp exn) (c_gn) ?_
            refine w_move (by constructor) ?_
            exact hRR
          refine snd_block ?_
          refine snd_loop (S := Nat) (fun k => ([(1, .cptr (grpA (n : Int) G)), (3, .int .i64 (i : Int)), (4, .int .i64 (j : Int)), (14, .int .i64 (n : Int)), (15, .int .i64 (i : Int)), (33, .int .i64 (n : Int)), (34, .int .i64 (j : Int)), (37, .int .i64 (n : Int)), (38, .int .i64 (k : Int))], [])) (fun k => k ≤ n ∧ (∀ c, c < k → G (G i j) c = G i (G j c))) (fun k => n - k) (0) ρ0 ?_ ?_ ?_
          · exact ⟨⟨m_cgrp, (mi), (mi), (mi), (mi), (mi), (mi), (mi), (mi), trivial⟩, trivial, trivial⟩
          · exact ⟨Nat.zero_le _, fun j hj => absurd hj (Nat.not_lt_zero _)⟩
          intro k hi4
          refine sq (env2 := [(1, .cptr (grpA (n : Int) G)), (3, .int .i64 (i : Int)), (4, .int .i64 (j : Int)), (14, .int .i64 (n : Int)), (15, .int .i64 (i : Int)), (33, .int .i64 (n : Int)), (34, .int .i64 (j : Int)), (37, .int .i64 (n : Int)), (38, .int .i64 (k : Int))]) (ol2 := []) rfl rfl ?_
          obtain ⟨le_k, inv_k⟩ := hi4
          apply sr tokTB (by kernel_rfl)
          · intro RR hRR
            refine w_lss rfl rfl ?_
            exact hRR
          refine snd_seq ?_
          refine snd_cond _ rfl (fun hc39 => ?_) (fun hc39 => ?_)
          · try simp only [hcs] at hc39
            have lt_k : k < n := by omega
            have h1 := ent_lt hE hn6 lt_i lt_j
            have h2 := ent_lt hE hn6 lt_j lt_k
            refine snd_skip ?_
            refine snd_seq ?_
            refine snd_block ?_
            apply sr tokTB (by kernel_rfl)
            · intro RR hRR
              refine w_move (by constructor) ?_
              refine w_assign (by constructor) ?_
              exact hRR
            apply sr tokTB (by kernel_rfl)
            · intro RR hRR
              refine w_move (by constructor) ?_
              refine w_move (by constructor) ?_
              refine y_call rfl (exc exp_cgrp (ec (ec exn))) (c_gtimes (i := i) (j := j) hG (by omega) (by omega)) ?_
              refine w_move (by constructor) ?_
              refine y_call rfl (exc exp_cgrp (ec (ec exn))) (c_gtimes (i := G i j) (j := k) hG (by omega) (by omega)) ?_
              refine w_move (by constructor) ?_
              refine w_move (by constructor) ?_
              refine w_move (by constructor) ?_
              refine y_call rfl (exc exp_cgrp (ec (ec exn))) (c_gtimes (i := j) (j := k) hG (by omega) (by omega)) ?_
              refine y_call rfl (exc exp_cgrp (ec (ec exn))) (c_gtimes (i := i) (j := G j k) hG (by omega) (by omega)) ?_
              refine w_neq rfl rfl ?_
              exact hRR
            refine snd_cond _ rfl (fun hc51 => ?_) (fun hc51 => ?_)
            · skip
              apply sr tokTB (by kernel_rfl)
              · intro RR hRR
                refine w_assign (by constructor) ?_
                exact hRR
              refine snd_ret ?_
              exact rt (T := TB) (fun V => m_bool (by symm; rw [decide_eq_false_iff_not]; intro h; have q : ((G (G i j) k : Nat) : Int) ≠ ((G i (G j k) : Nat) : Int) := of_decide_eq_true hc51; have := h.as lt_i lt_j lt_k; omega))
            · skip
              refine snd_skip ?_
              apply lr tokTB (by kernel_rfl)
              · intro RR hRR
                refine y_add rfl rfl ?_
                refine w_move (by constructor) ?_
                exact hRR
              refine ⟨k + 1, ρ0, ?_, ⟨by omega, all_step inv_k (by have q : ((G (G i j) k : Nat) : Int) = ((G i (G j k) : Nat) : Int) := Classical.not_not.1 (of_decide_eq_false hc51); omega)⟩, (by dsimp only; omega)⟩
              exact ⟨⟨m_cgrp, (mi), (mi), (mi), (mi), (mi), (mi), (mi), (mi), trivial⟩, trivial, trivial⟩
          · try simp only [hcs] at hc39
            have ge_k : n = k := by omega
            subst ge_k
            refine snd_exit ?_
            apply lr tokTB (by kernel_rfl)
            · intro RR hRR
              refine y_add rfl rfl ?_
              refine w_move (by constructor) ?_
              exact hRR
            refine ⟨j + 1, ρ0, ?_, ⟨by omega, all_step inv_j inv_k⟩, (by dsimp only; omega)⟩
            exact ⟨⟨m_cgrp, (mi), (mi), (mi), (mi), (mi), trivial⟩, trivial, trivial⟩
        · try simp only [hcs] at hc35
          have ge_j : n = j := by omega
          subst ge_j
          refine snd_exit ?_
          apply lr tokTB (by kernel_rfl)
          · intro RR hRR
            refine y_add rfl rfl ?_
            refine w_move (by constructor) ?_
            exact hRR
          refine ⟨i + 1, ρ0, ?_, ⟨by omega, all_step inv_i ⟨gi_of hc32, inv_j⟩⟩, (by dsimp only; omega)⟩
          exact ⟨⟨m_cgrp, (mi), (mi), trivial⟩, trivial, trivial⟩
    · try simp only [hcs] at hc16
      have ge_i : n = i := by omega
      subst ge_i
      refine snd_exit ?_
      apply sr tokTB (by kernel_rfl)
      · intro RR hRR
        refine w_assign (by constructor) ?_
        exact hRR
      refine snd_ret ?_
      exact rt (T := TB) (fun V => m_bool (by symm; rw [decide_eq_true_eq]; exact gn_of hn1 hn6 hE inv_i))
theorem c_IsGroup0 {n : Int} {G : Nat → Nat → Nat} (hG : RG G) (hn : n < 0) : ACalls Try.prog TB 34 [grpA n G] (.bool false) [] := by
  have hcl := closed_cgrp (n := n) (G := G)
  have hcl2 := closed_grp (n := n) (G := G)
  refine acalls_of tokTB Try.func34 rfl rfl (Nat.le_of_ble_eq_true rfl) ?_
  apply sr tokTB (by kernel_rfl)
  · intro RR hRR
    refine w_boxc (HV.eq (by constructor)) (by exact trivial) ?_
    refine w_assign (by constructor) ?_
    exact hRR
  refine snd_seq ?_
  apply srG (env' := (13, .bool true) :: (12, .any) :: (11, .any) :: (10, _) :: (9, _) :: (8, _) :: (7, _) :: (6, _) :: _) tokTB (by kernel_rfl)
  · intro RR hRR
    refine w_fac rfl und38 rfl kn2 nz2 (by decide) rfl (by constructor) ?_
    first | refine w_ldc rfl kn2 (by constructor) (by exact sz2.symm) (by exact ag2.symm) ?_ | refine w_ldp rfl kn2 rfl (by constructor) (by exact sz2.symm) (by exact ag2.symm) ?_
    refine y_call rfl (ec (ec (ec exn))) (show ACalls Try.prog TB 66 [.int .i64 n, .int .i64 1, .int .i64 6] (.bool false) [] from in_neg hn ▸ c_in) ?_
    refine w_not rfl ?_
    refine w_move (by constructor) ?_
    refine w_g_off rfl rfl (by decide) ?_
    refine w_g_off rfl rfl (by decide) ?_
    refine w_pick_1 rfl rfl (by constructor) ?_
    exact hRR _ (EL.cons (.inr (by first | rfl | (simp only [els]; done) | simp)) (EL.cons (.inl rfl) (EL.cons (.inl rfl) (EL.cons (.inr rfl) (EL.cons (.inr rfl) (EL.cons (.inr rfl) (EL.cons (.inr rfl) (EL.cons (.inr rfl) (EL.refl _)))))))))
  refine snd_cond_true rfl ?_
  apply sr tokTB (by kernel_rfl)
  · intro RR hRR
    refine w_assign (by constructor) ?_
    exact hRR
  refine snd_ret ?_
  exact rt (T := TB) (fun V => rfl)
theorem c_IsGroup {n : Int} {G : Nat → Nat → Nat} (hG : RG G) : ACalls Try.prog TB 34 [grpA n G] (.bool (decide (GZ n G))) [] := by
  rcases Int.lt_or_le n 0 with h | h
  · rw [decide_eq_false (GZ_neg h)]; exact c_IsGroup0 hG h
  · obtain ⟨m, rfl⟩ : ∃ m : Nat, n = (m : Int) := ⟨n.toNat, by omega⟩
    rw [show decide (GZ (m : Int) G) = decide (GN m G) from decide_eq_decide.2 GZ_N]; exact c_IsGroupN hG
theorem c_l06IsN {n : Nat} {G : Nat → Nat → Nat} (hG : RG G) : ACalls Try.prog TB 31 [grpA (n : Int) G] (.bool (decide (GN n G))) [] := by
  have hcl := closed_cgrp (n := (n : Int)) (G := G)
  have hcl2 := closed_grp (n := (n : Int)) (G := G)
  refine acalls_of tokTB Try.func31 rfl rfl (Nat.le_of_ble_eq_true rfl) ?_
  apply sr tokTB (by kernel_rfl)
  · intro RR hRR
    refine w_boxc (HV.eq (by constructor)) (by exact trivial) ?_
    refine w_assign (by constructor) ?_
    exact hRR
  apply sr tokTB (by kernel_rfl)
  · intro RR hRR
    refine w_fac rfl und38 rfl kn2 nz2 (by decide) rfl (by constructor) ?_
    refine w_ldc rfl kn2 (by constructor) (by exact sz2.symm) (by exact ag2.symm) ?_
    refine w_assign (by constructor) ?_
    exact hRR
  refine snd_seq ?_
  apply sr tokTB (by kernel_rfl)
  · intro RR hRR
    refine w_move (by constructor) ?_
    refine y_call rfl (ec (ec (ec exn))) (c_l01In) ?_
    refine w_not rfl ?_
    exact hRR
  refine snd_cond _ rfl (fun hc14 => ?_) (fun hc14 => ?_)
  · skip
    apply sr tokTB (by kernel_rfl)
    · intro RR hRR
      refine w_assign (by constructor) ?_
      exact hRR
    refine snd_ret ?_
    exact rt (T := TB) (fun V => m_bool (by symm; rw [decide_eq_false_iff_not]; intro h; exact ing_t hc14 h))
  · skip
    obtain ⟨hn1, hn6⟩ := ing_of hc14
    refine snd_skip ?_
    refine snd_seq ?_
    apply sr tokTB (by kernel_rfl)
    · intro RR hRR
      refine w_assign (by constructor) ?_
      exact hRR
    refine snd_block ?_
    refine snd_loop (S := Nat) (fun i => ([(1, .cptr (grpA (n : Int) G)), (3, .int .i64 (n : Int)), (4, .int .i64 (i : Int))], [])) (fun i => i ≤ 6 ∧ (∀ a, a < i → ∀ b, b < 6 → entQ n G a b)) (fun i => 6 - i) (0) ρ0 ?_ ?_ ?_
    · exact ⟨⟨m_cgrp, (mi), (mi), trivial⟩, trivial, trivial⟩
    · exact ⟨Nat.zero_le _, fun j hj => absurd hj (Nat.not_lt_zero _)⟩
    intro i hi0
    refine sq (env2 := [(1, .cptr (grpA (n : Int) G)), (3, .int .i64 (n : Int)), (4, .int .i64 (i : Int))]) (ol2 := []) rfl rfl ?_
    obtain ⟨le_i, inv_i⟩ := hi0
    refine snd_seq ?_
    apply sr tokTB (by kernel_rfl)
    · intro RR hRR
      refine w_move (by constructor) ?_
      refine w_lss rfl rfl ?_
      exact hRR
    refine snd_cond _ rfl (fun hc16 => ?_) (fun hc16 => ?_)
    · try simp only [hcs] at hc16
      have lt_i : i < 6 := by omega
      refine snd_skip ?_
      refine snd_seq ?_
      refine snd_block ?_
      apply sr tokTB (by kernel_rfl)
      · intro RR hRR
        refine w_assign (by constructor) ?_
        exact hRR
      refine snd_block ?_
      refine snd_loop (S := Nat) (fun j => ([(1, .cptr (grpA (n : Int) G)), (3, .int .i64 (n : Int)), (4, .int .i64 (i : Int)), (5, .int .i64 (j : Int))], [])) (fun j => j ≤ 6 ∧ (∀ b, b < j → entQ n G i b)) (fun j => 6 - j) (0) ρ0 ?_ ?_ ?_
      · exact ⟨⟨m_cgrp, (mi), (mi), (mi), trivial⟩, trivial, trivial⟩
      · exact ⟨Nat.zero_le _, fun j hj => absurd hj (Nat.not_lt_zero _)⟩
      intro j hi2
      refine sq (env2 := [(1, .cptr (grpA (n : Int) G)), (3, .int .i64 (n : Int)), (4, .int .i64 (i : Int)), (5, .int .i64 (j : Int))]) (ol2 := []) rfl rfl ?_
      obtain ⟨le_j, inv_j⟩ := hi2
      refine snd_seq ?_
      apply sr tokTB (by kernel_rfl)
      · intro RR hRR
        refine w_move (by constructor) ?_
        refine w_lss rfl rfl ?_
        exact hRR
      refine snd_cond _ rfl (fun hc20 => ?_) (fun hc20 => ?_)
      · try simp only [hcs] at hc20
        have lt_j : j < 6 := by omega
        refine snd_skip ?_
        refine snd_seq ?_
        refine snd_block ?_
        apply srG (env' := (30, .bool (decide ((n : Int) ≤ (i : Int)) || decide ((n : Int) ≤ (j : Int)))) :: (29, .any) :: (28, .any) :: (27, .any) :: (26, _) :: (25, _) :: (24, _) :: (23, _) :: _) tokTB (by kernel_rfl)
        · intro RR hRR
          refine w_move (by constructor) ?_
          refine w_move (by constructor) ?_
          refine w_geq rfl rfl ?_
          refine w_move (by constructor) ?_
          refine w_g rfl rfl (fun hg3 => ?_) (fun hg3 => ?_)
          · skip
            refine w_move (by constructor) ?_
            refine w_g_on rfl rfl hg3 ?_
            refine w_move (by constructor) ?_
            refine w_g_on rfl rfl hg3 ?_
            refine w_geq rfl rfl ?_
            refine w_pick_0 rfl hg3 (by constructor) ?_
            try simp only [Int.toNat_natCast] at hg3
            exact hRR _ (EL.cons (.inr (by first | rfl | (simp only [hg3, els]; done) | (simp only [hg3, els]; rfl) | (simp [hg3]; done) | (clear hRR; simp_all; done))) (EL.cons (.inl rfl) (EL.cons (.inl rfl) (EL.cons (.inl rfl) (EL.cons (.inr rfl) (EL.cons (.inr rfl) (EL.cons (.inr rfl) (EL.cons (.inr rfl) (EL.refl _)))))))))
          · have hg3 := eq_true_of_ne_false hg3
            refine w_g_off rfl rfl (by rw [hg3]; decide) ?_
            refine w_g_off rfl rfl (by rw [hg3]; decide) ?_
            refine w_pick_1 rfl hg3 (by constructor) ?_
            try simp only [Int.toNat_natCast] at hg3
            exact hRR _ (EL.cons (.inr (by first | rfl | (simp only [hg3, els]; done) | (simp only [hg3, els]; rfl) | (simp [hg3]; done) | (clear hRR; simp_all; done))) (EL.cons (.inl rfl) (EL.cons (.inl rfl) (EL.cons (.inl rfl) (EL.cons (.inr rfl) (EL.cons (.inr rfl) (EL.cons (.inr rfl) (EL.cons (.inr rfl) (EL.refl _)))))))))
        refine snd_cond _ rfl (fun hc30 => ?_) (fun hc30 => ?_)
        · skip
          apply sr tokTB (by kernel_rfl)
          · intro RR hRR
            refine w_move (by constructor) ?_
            refine w_move (by constructor) ?_
            refine w_fac rfl und38 rfl kn23 nz23 (by decide) rfl (by constructor) ?_
            refine w_iac rfl rfl und23 kn22 (by exact sz22.symm) ?_ rfl ?_
            · exact ⟨by omega, by omega⟩
            refine w_iac rfl rfl und22 kn5 (by exact sz5.symm) ?_ rfl ?_
            · exact ⟨by omega, by omega⟩
            first | refine w_ldc rfl kn5 (by constructor) (by exact sz5.symm) (by exact ag5.symm) ?_ | refine w_ldp rfl kn5 rfl (by constructor) (by exact sz5.symm) (by exact ag5.symm) ?_
            refine w_neq rfl rfl ?_
            exact hRR
          refine snd_cond _ rfl (fun hc37 => ?_) (fun hc37 => ?_)
          · skip
            apply sr tokTB (by kernel_rfl)
            · intro RR hRR
              refine w_assign (by constructor) ?_
              exact hRR
            refine snd_ret ?_
            exact rt (T := TB) (fun V => m_bool (by symm; rw [decide_eq_false_iff_not]; intro h; have q : ((G i j : Nat) : Int) ≠ 0 := of_decide_eq_true hc37; exact entQ_on (eq_of hc30) (by omega) (h.ent i (by omega) j (by omega))))
          · skip
            refine snd_skip ?_
            apply lr tokTB (by kernel_rfl)
            · intro RR hRR
              refine w_move (by constructor) ?_
              refine y_add rfl rfl ?_
              refine w_assign (by constructor) ?_
              exact hRR
            refine ⟨j + 1, ρ0, ?_, ⟨by omega, all_step inv_j (by first | (have q : ((G i j : Nat) : Int) = 0 := Classical.not_not.1 (of_decide_eq_false hc37); exact entQ_o (eq_of hc30) (by omega)) | (have q : ¬ (n : Int) ≤ ((G i j : Nat) : Int) := of_decide_eq_false hc46; exact entQ_i (eq_in hc30) (by omega)))⟩, (by dsimp only; omega)⟩
            exact ⟨⟨m_cgrp, (mi), (mi), (mi), trivial⟩, trivial, trivial⟩
        · skip
          apply sr tokTB (by kernel_rfl)
          · intro RR hRR
            refine w_move (by constructor) ?_
            refine w_move (by constructor) ?_
            refine w_fac rfl und38 rfl kn23 nz23 (by decide) rfl (by constructor) ?_
            refine w_iac rfl rfl und23 kn22 (by exact sz22.symm) ?_ rfl ?_
            · exact ⟨by omega, by omega⟩
            refine w_iac rfl rfl und22 kn5 (by exact sz5.symm) ?_ rfl ?_
            · exact ⟨by omega, by omega⟩
            first | refine w_ldc rfl kn5 (by constructor) (by exact sz5.symm) (by exact ag5.symm) ?_ | refine w_ldp rfl kn5 rfl (by constructor) (by exact sz5.symm) (by exact ag5.symm) ?_
            refine w_conv rfl und5 und2 (by exact hG.w8 i j) ?_
            refine w_move (by constructor) ?_
            refine w_geq rfl rfl ?_
            exact hRR
          refine snd_cond _ rfl (fun hc46 => ?_) (fun hc46 => ?_)
          · skip
            apply sr tokTB (by kernel_rfl)
            · intro RR hRR
              refine w_assign (by constructor) ?_
              exact hRR
            refine snd_ret ?_
            exact rt (T := TB) (fun V => m_bool (by symm; rw [decide_eq_false_iff_not]; intro h; have q : (n : Int) ≤ ((G i j : Nat) : Int) := of_decide_eq_true hc46; exact entQ_in (eq_in hc30) (by omega) (h.ent i (by omega) j (by omega))))
          · skip
            refine snd_skip ?_
            apply lr tokTB (by kernel_rfl)
            · intro RR hRR
              refine w_move (by constructor) ?_
              refine y_add rfl rfl ?_
              refine w_assign (by constructor) ?_
              exact hRR
            refine ⟨j + 1, ρ0, ?_, ⟨by omega, all_step inv_j (by first | (have q : ((G i j : Nat) : Int) = 0 := Classical.not_not.1 (of_decide_eq_false hc37); exact entQ_o (eq_of hc30) (by omega)) | (have q : ¬ (n : Int) ≤ ((G i j : Nat) : Int) := of_decide_eq_false hc46; exact entQ_i (eq_in hc30) (by omega)))⟩, (by dsimp only; omega)⟩
            exact ⟨⟨m_cgrp, (mi), (mi), (mi), trivial⟩, trivial, trivial⟩
      · try simp only [hcs] at hc20
        have ge_j : 6 = j := by omega
        subst ge_j
        refine snd_exit ?_
        apply lr tokTB (by kernel_rfl)
        · intro RR hRR
          refine w_move (by constructor) ?_
          refine y_add rfl rfl ?_
          refine w_assign (by constructor) ?_
          exact hRR
        refine ⟨i + 1, ρ0, ?_, ⟨by omega, all_step inv_i inv_j⟩, (by dsimp only; omega)⟩
        exact ⟨⟨m_cgrp, (mi), (mi), trivial⟩, trivial, trivial⟩
    · try simp only [hcs] at hc16
      have ge_i : 6 = i := by omega
      subst ge_i
      have hE : entP n G := inv_i
      refine snd_exit ?_
      refine snd_seq ?_
      apply sr tokTB (by kernel_rfl)
      · intro RR hRR
        refine w_assign (by constructor) ?_
        exact hRR
      refine snd_block ?_
      refine snd_loop (S := Nat) (fun i => ([(1, .cptr (grpA (n : Int) G)), (3, .int .i64 (n : Int)), (6, .int .i64 (i : Int))], [])) (fun i => i ≤ n ∧ (∀ a, a < i → gmI n G a)) (fun i => n - i) (0) ρ0 ?_ ?_ ?_
      · exact ⟨⟨m_cgrp, (mi), (mi), trivial⟩, trivial, trivial⟩
      · exact ⟨Nat.zero_le _, fun j hj => absurd hj (Nat.not_lt_zero _)⟩
      intro i hi4
      refine sq (env2 := [(1, .cptr (grpA (n : Int) G)), (3, .int .i64 (n : Int)), (6, .int .i64 (i : Int))]) (ol2 := []) rfl rfl ?_
      obtain ⟨le_i, inv_i⟩ := hi4
      refine snd_seq ?_
      apply sr tokTB (by kernel_rfl)
      · intro RR hRR
        refine w_move (by constructor) ?_
        refine w_move (by constructor) ?_
        refine w_lss rfl rfl ?_
        exact hRR
      refine snd_cond _ rfl (fun hc49 => ?_) (fun hc49 => ?_)
      · try simp only [hcs] at hc49
        have lt_i : i < n := by omega
        refine snd_skip ?_
        refine snd_seq ?_
        refine snd_block ?_
        apply sr tokTB (by kernel_rfl)
        · intro RR hRR
          refine w_assign (by constructor) ?_
          exact hRR
        refine snd_seq ?_
        apply sr tokTB (by kernel_rfl)
        · intro RR hRR
          refine w_assign (by constructor) ?_
          exact hRR
        refine snd_block ?_
        refine snd_loop (S := Nat) (fun j => ([(1, .cptr (grpA (n : Int) G)), (3, .int .i64 (n : Int)), (6, .int .i64 (i : Int)), (7, .bool (anyB (ivB G i) j)), (8, .int .i64 (j : Int))], [])) (fun j => j ≤ n ∧ (∀ b, b < j → ∀ c, c < n → G (G i b) c = G i (G b c))) (fun j => n - j) (0) ρ0 ?_ ?_ ?_
        · exact ⟨⟨m_cgrp, (mi), (mi), (by first | exact m_bool rfl | exact m_bool (by simp)), (mi), trivial⟩, trivial, trivial⟩
        · exact ⟨Nat.zero_le _, fun j hj => absurd hj (Nat.not_lt_zero _)⟩
        intro j hi6
        refine sq (env2 := [(1, .cptr (grpA (n : Int) G)), (3, .int .i64 (n : Int)), (6, .int .i64 (i : Int)), (7, .bool (anyB (ivB G i) j)), (8, .int .i64 (j : Int))]) (ol2 := []) rfl rfl ?_
        obtain ⟨le_j, inv_j⟩ := hi6
        refine snd_seq ?_
        apply sr tokTB (by kernel_rfl)
        · intro RR hRR
          refine w_move (by constructor) ?_
          refine w_move (by constructor) ?_
          refine w_lss rfl rfl ?_
          exact hRR
        refine snd_cond _ rfl (fun hc54 => ?_) (fun hc54 => ?_)
        · try simp only [hcs] at hc54
          have lt_j : j < n := by omega
          refine snd_skip ?_
          refine snd_seq ?_
          refine snd_block ?_
          apply srG (env' := (7, .bool (anyB (ivB G i) j || (decide (((G i j : Nat) : Int) = 0) && decide (((G j i : Nat) : Int) = 0)))) :: (75, .bool (anyB (ivB G i) j || (decide (((G i j : Nat) : Int) = 0) && decide (((G j i : Nat) : Int) = 0)))) :: (74, .any) :: (73, .any) :: (72, .any) :: (71, .any) :: (70, .any) :: (69, .any) :: (68, .any) :: (67, .any) :: (66, .any) :: (65, .any) :: (64, .any) :: (63, .any) :: (62, .any) :: (61, .any) :: (60, .any) :: (59, .any) :: (58, _) :: (57, _) :: _) tokTB (by kernel_rfl)
          · intro RR hRR
            refine w_move (by constructor) ?_
            refine w_move (by constructor) ?_
            refine w_g rfl rfl (fun hg1 => ?_) (fun hg1 => ?_)
            · skip
              refine w_move (by constructor) ?_
              refine w_g_on rfl rfl hg1 ?_
              refine w_move (by constructor) ?_
              refine w_g_on rfl rfl hg1 ?_
              refine w_fac rfl und38 rfl kn23 nz23 (by decide) rfl (by constructor) ?_
              refine w_g_on rfl rfl hg1 ?_
              first | refine w_iac rfl rfl und23 kn22 (by exact sz22.symm) ?_ rfl ?_ | refine w_iap rfl rfl und23 kn22 rfl (by exact sz22.symm) rfl ?_ ?_
              · exact ⟨by omega, by omega⟩
              refine w_g_on rfl rfl hg1 ?_
              first | refine w_iac rfl rfl und22 kn5 (by exact sz5.symm) ?_ rfl ?_ | refine w_iap rfl rfl und22 kn5 rfl (by exact sz5.symm) rfl ?_ ?_
              · exact ⟨by omega, by omega⟩
              refine w_g_on rfl rfl hg1 ?_
              first | refine w_ldc rfl kn5 (by constructor) (by exact sz5.symm) (by exact ag5.symm) ?_ | refine w_ldp rfl kn5 rfl (by constructor) (by exact sz5.symm) (by exact ag5.symm) ?_
              refine w_g_on rfl rfl hg1 ?_
              refine w_eql rfl rfl ?_
              refine w_g_on rfl rfl hg1 ?_
              refine w_move (by constructor) ?_
              refine w_g rfl rfl (fun hg9 => ?_) (fun hg9 => ?_)
              · skip
                refine w_move (by constructor) ?_
                refine w_g_on rfl rfl hg9 ?_
                refine w_move (by constructor) ?_
                refine w_g_on rfl rfl hg9 ?_
                refine w_fac rfl und38 rfl kn23 nz23 (by decide) rfl (by constructor) ?_
                refine w_g_on rfl rfl hg9 ?_
                first | refine w_iac rfl rfl und23 kn22 (by exact sz22.symm) ?_ rfl ?_ | refine w_iap rfl rfl und23 kn22 rfl (by exact sz22.symm) rfl ?_ ?_
                · exact ⟨by omega, by omega⟩
                refine w_g_on rfl rfl hg9 ?_
                first | refine w_iac rfl rfl und22 kn5 (by exact sz5.symm) ?_ rfl ?_ | refine w_iap rfl rfl und22 kn5 rfl (by exact sz5.symm) rfl ?_ ?_
                · exact ⟨by omega, by omega⟩
                refine w_g_on rfl rfl hg9 ?_
                first | refine w_ldc rfl kn5 (by constructor) (by exact sz5.symm) (by exact ag5.symm) ?_ | refine w_ldp rfl kn5 rfl (by constructor) (by exact sz5.symm) (by exact ag5.symm) ?_
                refine w_g_on rfl rfl hg9 ?_
                refine w_eql rfl rfl ?_
                refine w_g_on rfl rfl hg1 ?_
                refine w_pick_1 rfl hg9 (by constructor) ?_
                refine w_pick_0 rfl hg1 (by constructor) ?_
                refine w_assign (by constructor) ?_
                try simp only [Int.toNat_natCast] at hg1 hg9
                exact hRR _ (EL.cons (.inr (by first | rfl | (simp only [hg1, hg9, els]; done) | (simp only [hg1, hg9, els]; rfl) | (simp [hg1, hg9]; done) | (clear hRR; simp_all; done) | (exfalso; simp only [hg1, Bool.not_false, Bool.not_true, reduceCtorEq] at hg9; done))) (EL.cons (.inr (by first | rfl | (simp only [hg1, hg9, els]; done) | (simp only [hg1, hg9, els]; rfl) | (simp [hg1, hg9]; done) | (clear hRR; simp_all; done) | (exfalso; simp only [hg1, Bool.not_false, Bool.not_true, reduceCtorEq] at hg9; done))) (EL.cons (.inl rfl) (EL.cons (.inl rfl) (EL.cons (.inl rfl) (EL.cons (.inl rfl) (EL.cons (.inl rfl) (EL.cons (.inl rfl) (EL.cons (.inl rfl) (EL.cons (.inl rfl) (EL.cons (.inl rfl) (EL.cons (.inl rfl) (EL.cons (.inl rfl) (EL.cons (.inl rfl) (EL.cons (.inl rfl) (EL.cons (.inl rfl) (EL.cons (.inl rfl) (EL.cons (.inl rfl) (EL.cons (.inr rfl) (EL.cons (.inr rfl) (EL.refl _)))))))))))))))))))))
              · have hg9 := eq_false_of_ne_true hg9
                refine w_g_off rfl rfl (by rw [hg9]; decide) ?_
                refine w_g_off rfl rfl (by rw [hg9]; decide) ?_
                refine w_g_off rfl rfl (by rw [hg9]; decide) ?_
                refine w_g_off rfl rfl (by rw [hg9]; decide) ?_
                refine w_g_off rfl rfl (by rw [hg9]; decide) ?_
                refine w_g_off rfl rfl (by rw [hg9]; decide) ?_
                refine w_g_on rfl rfl hg1 ?_
                refine w_pick_0 rfl hg9 (by constructor) ?_
                refine w_pick_0 rfl hg1 (by constructor) ?_
                refine w_assign (by constructor) ?_
                try simp only [Int.toNat_natCast] at hg1 hg9
                exact hRR _ (EL.cons (.inr (by first | rfl | (simp only [hg1, hg9, els]; done) | (simp only [hg1, hg9, els]; rfl) | (simp [hg1, hg9]; done) | (clear hRR; simp_all; done) | (exfalso; simp only [hg1, Bool.not_false, Bool.not_true, reduceCtorEq] at hg9; done))) (EL.cons (.inr (by first | rfl | (simp only [hg1, hg9, els]; done) | (simp only [hg1, hg9, els]; rfl) | (simp [hg1, hg9]; done) | (clear hRR; simp_all; done) | (exfalso; simp only [hg1, Bool.not_false, Bool.not_true, reduceCtorEq] at hg9; done))) (EL.cons (.inl rfl) (EL.cons (.inl rfl) (EL.cons (.inl rfl) (EL.cons (.inl rfl) (EL.cons (.inl rfl) (EL.cons (.inl rfl) (EL.cons (.inl rfl) (EL.cons (.inl rfl) (EL.cons (.inl rfl) (EL.cons (.inl rfl) (EL.cons (.inl rfl) (EL.cons (.inl rfl) (EL.cons (.inl rfl) (EL.cons (.inl rfl) (EL.cons (.inl rfl) (EL.cons (.inl rfl) (EL.cons (.inr rfl) (EL.cons (.inr rfl) (EL.refl _)))))))))))))))))))))
            · have hg1 := eq_true_of_ne_false hg1
              refine w_g_off rfl rfl (by rw [hg1]; decide) ?_
              refine w_g_off rfl rfl (by rw [hg1]; decide) ?_
              refine w_g_off rfl rfl (by rw [hg1]; decide) ?_
              refine w_g_off rfl rfl (by rw [hg1]; decide) ?_
              refine w_g_off rfl rfl (by rw [hg1]; decide) ?_
              refine w_g_off rfl rfl (by rw [hg1]; decide) ?_
              refine w_g_off rfl rfl (by rw [hg1]; decide) ?_
              refine w_g_und rfl rfl ?_
              refine w_g_und rfl rfl ?_
              refine w_g_und rfl rfl ?_
              refine w_g_und rfl rfl ?_
              refine w_g_und rfl rfl ?_
              refine w_g_und rfl rfl ?_
              refine w_g_und rfl rfl ?_
              refine w_g_off rfl rfl (by rw [hg1]; decide) ?_
              refine w_pick_1 rfl hg1 (by constructor) ?_
              refine w_assign (by constructor) ?_
              try simp only [Int.toNat_natCast] at hg1
              exact hRR _ (EL.cons (.inr (by first | rfl | (simp only [hg1, els]; done) | (simp only [hg1, els]; rfl) | (simp [hg1]; done) | (clear hRR; simp_all; done))) (EL.cons (.inr (by first | rfl | (simp only [hg1, els]; done) | (simp only [hg1, els]; rfl) | (simp [hg1]; done) | (clear hRR; simp_all; done))) (EL.cons (.inl rfl) (EL.cons (.inl rfl) (EL.cons (.inl rfl) (EL.cons (.inl rfl) (EL.cons (.inl rfl) (EL.cons (.inl rfl) (EL.cons (.inl rfl) (EL.cons (.inl rfl) (EL.cons (.inl rfl) (EL.cons (.inl rfl) (EL.cons (.inl rfl) (EL.cons (.inl rfl) (EL.cons (.inl rfl) (EL.cons (.inl rfl) (EL.cons (.inl rfl) (EL.cons (.inl rfl) (EL.cons (.inr rfl) (EL.cons (.inr rfl) (EL.refl _)))))))))))))))))))))
          apply sr tokTB (by kernel_rfl)
          · intro RR hRR
            refine w_assign (by constructor) ?_
            exact hRR
          refine snd_block ?_
          refine snd_loop (S := Nat) (fun k => ([(1, .cptr (grpA (n : Int) G)), (3, .int .i64 (n : Int)), (6, .int .i64 (i : Int)), (7, .bool (anyB (ivB G i) j || (decide (((G i j : Nat) : Int) = 0) && decide (((G j i : Nat) : Int) = 0)))), (8, .int .i64 (j : Int)), (9, .int .i64 (k : Int))], [])) (fun k => k ≤ n ∧ (∀ c, c < k → G (G i j) c = G i (G j c))) (fun k => n - k) (0) ρ0 ?_ ?_ ?_
          · exact ⟨⟨m_cgrp, (mi), (mi), (by first | exact m_bool rfl | exact m_bool (by simp)), (mi), (mi), trivial⟩, trivial, trivial⟩
          · exact ⟨Nat.zero_le _, fun j hj => absurd hj (Nat.not_lt_zero _)⟩
          intro k hi8
          refine sq (env2 := [(1, .cptr (grpA (n : Int) G)), (3, .int .i64 (n : Int)), (6, .int .i64 (i : Int)), (7, .bool (anyB (ivB G i) j || (decide (((G i j : Nat) : Int) = 0) && decide (((G j i : Nat) : Int) = 0)))), (8, .int .i64 (j : Int)), (9, .int .i64 (k : Int))]) (ol2 := []) rfl rfl ?_
          obtain ⟨le_k, inv_k⟩ := hi8
          refine snd_seq ?_
          apply sr tokTB (by kernel_rfl)
          · intro RR hRR
            refine w_move (by constructor) ?_
            refine w_move (by constructor) ?_
            refine w_lss rfl rfl ?_
            exact hRR
          refine snd_cond _ rfl (fun hc78 => ?_) (fun hc78 => ?_)
          · try simp only [hcs] at hc78
            have lt_k : k < n := by omega
            have h1 := ent_lt hE hn6 lt_i lt_j
            have h2 := ent_lt hE hn6 lt_j lt_k
            refine snd_skip ?_
            refine snd_seq ?_
            refine snd_block ?_
            apply sd tokTB mixed (by kernel_rfl) (by kernel_rfl)
            · intro RR hRR
              refine w_move (by constructor) ?_
              refine w_move (by constructor) ?_
              refine w_fac rfl und38 rfl kn23 nz23 (by decide) rfl (by constructor) ?_
              refine w_iac rfl rfl und23 kn22 (by exact sz22.symm) ?_ rfl ?_
              · exact ⟨by omega, by omega⟩
              refine w_iac rfl rfl und22 kn5 (by exact sz5.symm) ?_ rfl ?_
              · exact ⟨by omega, by omega⟩
              first | refine w_ldc rfl kn5 (by constructor) (by exact sz5.symm) (by exact ag5.symm) ?_ | refine w_ldp rfl kn5 rfl (by constructor) (by exact sz5.symm) (by exact ag5.symm) ?_
              refine w_move (by constructor) ?_
              refine w_fac rfl und38 rfl kn23 nz23 (by decide) rfl (by constructor) ?_
              refine w_iac rfl rfl und23 kn22 (by exact sz22.symm) ?_ rfl ?_
              · exact ⟨(show (0 : Int) ≤ ((G i j : Nat) : Int) by omega), (show ((G i j : Nat) : Int) < 6 by omega)⟩
              first | refine w_iac rfl rfl und22 kn5 (by exact sz5.symm) ?_ rfl ?_ | refine w_iap rfl rfl und22 kn5 rfl (by exact sz5.symm) rfl ?_ ?_
              · exact ⟨by omega, by omega⟩
              first | refine w_ldc rfl kn5 (by constructor) (by exact sz5.symm) (by exact ag5.symm) ?_ | refine w_ldp rfl kn5 rfl (by constructor) (by exact sz5.symm) (by exact ag5.symm) ?_
              refine w_move (by constructor) ?_
              refine w_move (by constructor) ?_
              refine w_move (by constructor) ?_
              refine w_fac rfl und38 rfl kn23 nz23 (by decide) rfl (by constructor) ?_
              refine w_iac rfl rfl und23 kn22 (by exact sz22.symm) ?_ rfl ?_
              · exact ⟨by omega, by omega⟩
              refine w_iac rfl rfl und22 kn5 (by exact sz5.symm) ?_ rfl ?_
              · exact ⟨by omega, by omega⟩
              first | refine w_ldc rfl kn5 (by constructor) (by exact sz5.symm) (by exact ag5.symm) ?_ | refine w_ldp rfl kn5 rfl (by constructor) (by exact sz5.symm) (by exact ag5.symm) ?_
              refine w_fac rfl und38 rfl kn23 nz23 (by decide) rfl (by constructor) ?_
              refine w_iac rfl rfl und23 kn22 (by exact sz22.symm) ?_ rfl ?_
              · exact ⟨by omega, by omega⟩
              refine w_iac rfl rfl und22 kn5 (by exact sz5.symm) ?_ rfl ?_
              · exact ⟨(show (0 : Int) ≤ ((G j k : Nat) : Int) by omega), (show ((G j k : Nat) : Int) < 6 by omega)⟩
              first | refine w_ldc rfl kn5 (by constructor) (by exact sz5.symm) (by exact ag5.symm) ?_ | refine w_ldp rfl kn5 rfl (by constructor) (by exact sz5.symm) (by exact ag5.symm) ?_
              refine w_neq rfl rfl ?_
              exact hRR
            refine snd_cond _ rfl (fun hc103 => ?_) (fun hc103 => ?_)
            · skip
              apply sr tokTB (by kernel_rfl)
              · intro RR hRR
                refine w_assign (by constructor) ?_
                exact hRR
              refine snd_ret ?_
              exact rt (T := TB) (fun V => m_bool (by symm; rw [decide_eq_false_iff_not]; intro h; have q : ((G (G i j) k : Nat) : Int) ≠ ((G i (G j k) : Nat) : Int) := of_decide_eq_true hc103; have := h.as lt_i lt_j lt_k; omega))
            · skip
              refine snd_skip ?_
              apply lr tokTB (by kernel_rfl)
              · intro RR hRR
                refine w_move (by constructor) ?_
                refine y_add rfl rfl ?_
                refine w_assign (by constructor) ?_
                exact hRR
              refine ⟨k + 1, ρ0, ?_, ⟨by omega, all_step inv_k (by have q : ((G (G i j) k : Nat) : Int) = ((G i (G j k) : Nat) : Int) := Classical.not_not.1 (of_decide_eq_false hc103); omega)⟩, (by dsimp only; omega)⟩
              exact ⟨⟨m_cgrp, (mi), (mi), (by first | exact m_bool rfl | exact m_bool (by simp)), (mi), (mi), trivial⟩, trivial, trivial⟩
          · try simp only [hcs] at hc78
            have ge_k : n = k := by omega
            subst ge_k
            refine snd_exit ?_
            apply lr tokTB (by kernel_rfl)
            · intro RR hRR
              refine w_move (by constructor) ?_
              refine y_add rfl rfl ?_
              refine w_assign (by constructor) ?_
              exact hRR
            refine ⟨j + 1, ρ0, ?_, ⟨by omega, all_step inv_j inv_k⟩, (by dsimp only; omega)⟩
            exact ⟨⟨m_cgrp, (mi), (mi), (by first | exact m_bool rfl | exact m_bool (by simp)), (mi), trivial⟩, trivial, trivial⟩
        · try simp only [hcs] at hc54
          have ge_j : n = j := by omega
          subst ge_j
          refine snd_exit ?_
          apply srG (env' := (125, .bool ((!(anyB (ivB G i) n) || decide (((G 0 i : Nat) : Int) ≠ (i : Int))) || decide (((G i 0 : Nat) : Int) ≠ (i : Int)))) :: (124, .any) :: (123, .any) :: (122, .any) :: (121, .any) :: (120, .any) :: (119, .any) :: (118, .any) :: (117, .any) :: (116, .bool (!(anyB (ivB G i) n) || decide (((G 0 i : Nat) : Int) ≠ (i : Int)))) :: (115, .bool (!(anyB (ivB G i) n) || decide (((G 0 i : Nat) : Int) ≠ (i : Int)))) :: (114, .any) :: (113, .any) :: (112, .any) :: (111, .any) :: (110, .any) :: (109, .any) :: (108, .any) :: (107, .any) :: (106, _) :: (105, _) :: (104, _) :: _) tokTB (by kernel_rfl)
          · intro RR hRR
            refine w_move (by constructor) ?_
            refine w_not rfl ?_
            refine w_move (by constructor) ?_
            refine w_g rfl rfl (fun hg2 => ?_) (fun hg2 => ?_)
            · skip
              refine w_move (by constructor) ?_
              refine w_g_on rfl rfl hg2 ?_
              refine w_fac rfl und38 rfl kn23 nz23 (by decide) rfl (by constructor) ?_
              refine w_g_on rfl rfl hg2 ?_
              first | refine w_iac rfl rfl und23 kn22 (by exact sz22.symm) ?_ rfl ?_ | refine w_iap rfl rfl und23 kn22 rfl (by exact sz22.symm) rfl ?_ ?_
              · exact ⟨by omega, by omega⟩
              refine w_g_on rfl rfl hg2 ?_
              first | refine w_iac rfl rfl und22 kn5 (by exact sz5.symm) ?_ rfl ?_ | refine w_iap rfl rfl und22 kn5 rfl (by exact sz5.symm) rfl ?_ ?_
              · exact ⟨by omega, by omega⟩
              refine w_g_on rfl rfl hg2 ?_
              first | refine w_ldc rfl kn5 (by constructor) (by exact sz5.symm) (by exact ag5.symm) ?_ | refine w_ldp rfl kn5 rfl (by constructor) (by exact sz5.symm) (by exact ag5.symm) ?_
              refine w_g_on rfl rfl hg2 ?_
              refine w_conv rfl und5 und2 (by exact hG.w8 0 i) ?_
              refine w_g_on rfl rfl hg2 ?_
              refine w_move (by constructor) ?_
              refine w_g_on rfl rfl hg2 ?_
              refine w_neq rfl rfl ?_
              refine w_pick_0 rfl hg2 (by constructor) ?_
              refine w_move (by constructor) ?_
              refine w_g rfl rfl (fun hg12 => ?_) (fun hg12 => ?_)
              · skip
                refine w_move (by constructor) ?_
                refine w_g_on rfl rfl hg12 ?_
                refine w_fac rfl und38 rfl kn23 nz23 (by decide) rfl (by constructor) ?_
                refine w_g_on rfl rfl hg12 ?_
                first | refine w_iac rfl rfl und23 kn22 (by exact sz22.symm) ?_ rfl ?_ | refine w_iap rfl rfl und23 kn22 rfl (by exact sz22.symm) rfl ?_ ?_
                · exact ⟨by omega, by omega⟩
                refine w_g_on rfl rfl hg12 ?_
                first | refine w_iac rfl rfl und22 kn5 (by exact sz5.symm) ?_ rfl ?_ | refine w_iap rfl rfl und22 kn5 rfl (by exact sz5.symm) rfl ?_ ?_
                · exact ⟨by omega, by omega⟩
                refine w_g_on rfl rfl hg12 ?_
                first | refine w_ldc rfl kn5 (by constructor) (by exact sz5.symm) (by exact ag5.symm) ?_ | refine w_ldp rfl kn5 rfl (by constructor) (by exact sz5.symm) (by exact ag5.symm) ?_
                refine w_g_on rfl rfl hg12 ?_
                refine w_conv rfl und5 und2 (by exact hG.w8 i 0) ?_
                refine w_g_on rfl rfl hg12 ?_
                refine w_move (by constructor) ?_
                refine w_g_on rfl rfl hg12 ?_
                refine w_neq rfl rfl ?_
                refine w_pick_0 rfl hg12 (by constructor) ?_
                try simp only [Int.toNat_natCast] at hg2 hg12
                exact hRR _ (EL.cons (.inr (by first | rfl | (simp only [hg2, hg12, els]; done) | (simp only [hg2, hg12, els]; rfl) | (simp [hg2, hg12]; done) | (clear hRR; simp_all; done) | (exfalso; simp only [hg2, Bool.not_false, Bool.not_true, reduceCtorEq] at hg12; done))) (EL.cons (.inl rfl) (EL.cons (.inl rfl) (EL.cons (.inl rfl) (EL.cons (.inl rfl) (EL.cons (.inl rfl) (EL.cons (.inl rfl) (EL.cons (.inl rfl) (EL.cons (.inl rfl) (EL.cons (.inr (by first | rfl | (simp only [hg2, hg12, els]; done) | (simp only [hg2, hg12, els]; rfl) | (simp [hg2, hg12]; done) | (clear hRR; simp_all; done) | (exfalso; simp only [hg2, Bool.not_false, Bool.not_true, reduceCtorEq] at hg12; done))) (EL.cons (.inr (by first | rfl | (simp only [hg2, hg12, els]; done) | (simp only [hg2, hg12, els]; rfl) | (simp [hg2, hg12]; done) | (clear hRR; simp_all; done) | (exfalso; simp only [hg2, Bool.not_false, Bool.not_true, reduceCtorEq] at hg12; done))) (EL.cons (.inl rfl) (EL.cons (.inl rfl) (EL.cons (.inl rfl) (EL.cons (.inl rfl) (EL.cons (.inl rfl) (EL.cons (.inl rfl) (EL.cons (.inl rfl) (EL.cons (.inl rfl) (EL.cons (.inr rfl) (EL.cons (.inr rfl) (EL.cons (.inr rfl) (EL.refl _)))))))))))))))))))))))
              · have hg12 := eq_true_of_ne_false hg12
                refine w_g_off rfl rfl (by rw [hg12]; decide) ?_
                refine w_g_off rfl rfl (by rw [hg12]; decide) ?_
                refine w_g_off rfl rfl (by rw [hg12]; decide) ?_
                refine w_g_off rfl rfl (by rw [hg12]; decide) ?_
                refine w_g_off rfl rfl (by rw [hg12]; decide) ?_
                refine w_g_off rfl rfl (by rw [hg12]; decide) ?_
                refine w_g_off rfl rfl (by rw [hg12]; decide) ?_
                refine w_pick_1 rfl hg12 (by constructor) ?_
                try simp only [Int.toNat_natCast] at hg2 hg12
                exact hRR _ (EL.cons (.inr (by first | rfl | (simp only [hg2, hg12, els]; done) | (simp only [hg2, hg12, els]; rfl) | (simp [hg2, hg12]; done) | (clear hRR; simp_all; done) | (exfalso; simp only [hg2, Bool.not_false, Bool.not_true, reduceCtorEq] at hg12; done))) (EL.cons (.inl rfl) (EL.cons (.inl rfl) (EL.cons (.inl rfl) (EL.cons (.inl rfl) (EL.cons (.inl rfl) (EL.cons (.inl rfl) (EL.cons (.inl rfl) (EL.cons (.inl rfl) (EL.cons (.inr (by first | rfl | (simp only [hg2, hg12, els]; done) | (simp only [hg2, hg12, els]; rfl) | (simp [hg2, hg12]; done) | (clear hRR; simp_all; done) | (exfalso; simp only [hg2, Bool.not_false, Bool.not_true, reduceCtorEq] at hg12; done))) (EL.cons (.inr (by first | rfl | (simp only [hg2, hg12, els]; done) | (simp only [hg2, hg12, els]; rfl) | (simp [hg2, hg12]; done) | (clear hRR; simp_all; done) | (exfalso; simp only [hg2, Bool.not_false, Bool.not_true, reduceCtorEq] at hg12; done))) (EL.cons (.inl rfl) (EL.cons (.inl rfl) (EL.cons (.inl rfl) (EL.cons (.inl rfl) (EL.cons (.inl rfl) (EL.cons (.inl rfl) (EL.cons (.inl rfl) (EL.cons (.inl rfl) (EL.cons (.inr rfl) (EL.cons (.inr rfl) (EL.cons (.inr rfl) (EL.refl _)))))))))))))))))))))))
            · have hg2 := eq_true_of_ne_false hg2
              refine w_g_off rfl rfl (by rw [hg2]; decide) ?_
              refine w_g_off rfl rfl (by rw [hg2]; decide) ?_
              refine w_g_off rfl rfl (by rw [hg2]; decide) ?_
              refine w_g_off rfl rfl (by rw [hg2]; decide) ?_
              refine w_g_off rfl rfl (by rw [hg2]; decide) ?_
              refine w_g_off rfl rfl (by rw [hg2]; decide) ?_
              refine w_g_off rfl rfl (by rw [hg2]; decide) ?_
              refine w_pick_1 rfl hg2 (by constructor) ?_
              refine w_move (by constructor) ?_
              refine w_g_off rfl rfl (by decide) ?_
              refine w_g_off rfl rfl (by decide) ?_
              refine w_g_off rfl rfl (by decide) ?_
              refine w_g_off rfl rfl (by decide) ?_
              refine w_g_off rfl rfl (by decide) ?_
              refine w_g_off rfl rfl (by decide) ?_
              refine w_g_off rfl rfl (by decide) ?_
              refine w_g_off rfl rfl (by decide) ?_
              refine w_pick_1 rfl rfl (by constructor) ?_
              try simp only [Int.toNat_natCast] at hg2
              exact hRR _ (EL.cons (.inr (by first | rfl | (simp only [hg2, els]; done) | (simp only [hg2, els]; rfl) | (simp [hg2]; done) | (clear hRR; simp_all; done))) (EL.cons (.inl rfl) (EL.cons (.inl rfl) (EL.cons (.inl rfl) (EL.cons (.inl rfl) (EL.cons (.inl rfl) (EL.cons (.inl rfl) (EL.cons (.inl rfl) (EL.cons (.inl rfl) (EL.cons (.inr (by first | rfl | (simp only [hg2, els]; done) | (simp only [hg2, els]; rfl) | (simp [hg2]; done) | (clear hRR; simp_all; done))) (EL.cons (.inr (by first | rfl | (simp only [hg2, els]; done) | (simp only [hg2, els]; rfl) | (simp [hg2]; done) | (clear hRR; simp_all; done))) (EL.cons (.inl rfl) (EL.cons (.inl rfl) (EL.cons (.inl rfl) (EL.cons (.inl rfl) (EL.cons (.inl rfl) (EL.cons (.inl rfl) (EL.cons (.inl rfl) (EL.cons (.inl rfl) (EL.cons (.inr rfl) (EL.cons (.inr rfl) (EL.cons (.inr rfl) (EL.refl _)))))))))))))))))))))))
          refine snd_cond _ rfl (fun hc125 => ?_) (fun hc125 => ?_)
          · skip
            apply sr tokTB (by kernel_rfl)
            · intro RR hRR
              refine w_assign (by constructor) ?_
              exact hRR
            refine snd_ret ?_
            exact rt (T := TB) (fun V => m_bool (by symm; rw [decide_eq_false_iff_not]; intro h; exact gs_t hc125 (h.gm lt_i)))
          · skip
            refine snd_skip ?_
            apply lr tokTB (by kernel_rfl)
            · intro RR hRR
              refine w_move (by constructor) ?_
              refine y_add rfl rfl ?_
              refine w_assign (by constructor) ?_
              exact hRR
            refine ⟨i + 1, ρ0, ?_, ⟨by omega, all_step inv_i ⟨gs_of hc125, inv_j⟩⟩, (by dsimp only; omega)⟩
            exact ⟨⟨m_cgrp, (mi), (mi), trivial⟩, trivial, trivial⟩
      · try simp only [hcs] at hc49
        have ge_i : n = i := by omega
        subst ge_i
        refine snd_exit ?_
        apply sr tokTB (by kernel_rfl)
        · intro RR hRR
          refine w_assign (by constructor) ?_
          exact hRR
        refine snd_ret ?_
        exact rt (T := TB) (fun V => m_bool (by symm; rw [decide_eq_true_eq]; exact gn_of hn1 hn6 hE inv_i))
theorem c_l06Is0 {n : Int} {G : Nat → Nat → Nat} (hG : RG G) (hn : n < 0) : ACalls Try.prog TB 31 [grpA n G] (.bool false) [] := by
  refine acalls_of tokTB Try.func31 rfl rfl (Nat.le_of_ble_eq_true rfl) ?_
  apply sr tokTB (by kernel_rfl)
  · intro RR hRR
    refine w_boxc (HV.eq (by constructor)) (by exact trivial) ?_
    refine w_assign (by constructor) ?_
    exact hRR
  apply sr tokTB (by kernel_rfl)
  · intro RR hRR
    refine w_fac rfl und38 rfl kn2 nz2 (by decide) rfl (by constructor) ?_
    refine w_ldc rfl kn2 (by constructor) (by exact sz2.symm) (by exact ag2.symm) ?_
    refine w_assign (by constructor) ?_
    exact hRR
  refine snd_seq ?_
  apply sr tokTB (by kernel_rfl)
  · intro RR hRR
    refine w_move (by constructor) ?_
    refine y_call rfl (ec (ec (ec exn))) ((show ACalls Try.prog TB 62 [.int .i64 n, .int .i64 1, .int .i64 6] (.bool false) [] from in_neg hn ▸ c_l01In)) ?_
    refine w_not rfl ?_
    exact hRR
  refine snd_cond_true rfl ?_
  apply sr tokTB (by kernel_rfl)
  · intro RR hRR
    refine w_assign (by constructor) ?_
    exact hRR
  refine snd_ret ?_
  exact rt (T := TB) (fun V => rfl)
theorem c_l06Is {n : Int} {G : Nat → Nat → Nat} (hG : RG G) : ACalls Try.prog TB 31 [grpA n G] (.bool (decide (GZ n G))) [] := by
  rcases Int.lt_or_le n 0 with h | h
  · rw [decide_eq_false (GZ_neg h)]; exact c_l06Is0 hG h
  · obtain ⟨m, rfl⟩ : ∃ m : Nat, n = (m : Int) := ⟨n.toNat, by omega⟩
    rw [show decide (GZ (m : Int) G) = decide (GN m G) from decide_eq_decide.2 GZ_N]; exact c_l06IsN hG
end Go.Am

set_option linter.unusedVariables false
set_option linter.unusedSimpArgs false
set_option maxRecDepth 4000
namespace Go.Am
attribute [local irreducible] retQ retQp
open Go.Proofs
theorem c_l06Inverse {n : Nat} {G : Nat → Nat → Nat} (hG : RG G) (h : GN n G) {i : Nat} (hi : i < n) : ACalls Try.prog TB 64 [grpA (n : Int) G, .int .i64 (i : Int)] (.int .i64 ((ivN n G i : Nat) : Int)) [] := by
  have hcl := closed_cgrp (n := (n : Int)) (G := G)
  have hcl2 := closed_grp (n := (n : Int)) (G := G)
  have hn6 := h.n6
  refine acalls_of tokTB Try.func64 rfl rfl (Nat.le_of_ble_eq_true rfl) ?_
  apply sr tokTB (by kernel_rfl)
  · intro RR hRR
    refine w_boxc (HV.eq (by constructor)) (by exact trivial) ?_
    refine w_assign (by constructor) ?_
    exact hRR
  refine snd_seq ?_
  apply sr tokTB (by kernel_rfl)
  · intro RR hRR
    refine w_assign (by constructor) ?_
    exact hRR
  refine snd_block ?_
  refine snd_loop (S := Nat) (fun j => ([(1, .int .i64 (i : Int)), (2, .cptr (grpA (n : Int) G)), (5, .int .i64 (j : Int))], [])) (fun j => j ≤ n ∧ (∀ a, a < j → G i a ≠ 0)) (fun j => n - j) (0) ρ0 ?_ ?_ ?_
  · exact ⟨⟨(mi), m_cgrp, (mi), trivial⟩, trivial, trivial⟩
  · exact ⟨Nat.zero_le _, fun j hj => absurd hj (Nat.not_lt_zero _)⟩
  intro j hi0
  refine sq (env2 := [(1, .int .i64 (i : Int)), (2, .cptr (grpA (n : Int) G)), (5, .int .i64 (j : Int))]) (ol2 := []) rfl rfl ?_
  obtain ⟨le_j, inv_j⟩ := hi0
  refine snd_seq ?_
  apply sr tokTB (by kernel_rfl)
  · intro RR hRR
    refine w_move (by constructor) ?_
    refine w_fac rfl und38 rfl kn2 nz2 (by decide) rfl (by constructor) ?_
    refine w_ldc rfl kn2 (by constructor) (by exact sz2.symm) (by exact ag2.symm) ?_
    refine w_lss rfl rfl ?_
    exact hRR
  refine snd_cond _ rfl (fun hc9 => ?_) (fun hc9 => ?_)
  · try simp only [hcs] at hc9
    have lt_j : j < n := by omega
    refine snd_skip ?_
    refine snd_seq ?_
    refine snd_block ?_
    apply sr tokTB (by kernel_rfl)
    · intro RR hRR
      refine w_move (by constructor) ?_
      refine w_move (by constructor) ?_
      refine w_fac rfl und38 rfl kn23 nz23 (by decide) rfl (by constructor) ?_
      refine w_iac rfl rfl und23 kn22 (by exact sz22.symm) ?_ rfl ?_
      · exact ⟨by omega, by omega⟩
      refine w_iac rfl rfl und22 kn5 (by exact sz5.symm) ?_ rfl ?_
      · exact ⟨by omega, by omega⟩
      first | refine w_ldc rfl kn5 (by constructor) (by exact sz5.symm) (by exact ag5.symm) ?_ | refine w_ldp rfl kn5 rfl (by constructor) (by exact sz5.symm) (by exact ag5.symm) ?_
      refine w_eql rfl rfl ?_
      exact hRR
    refine snd_cond _ rfl (fun hc18 => ?_) (fun hc18 => ?_)
    · skip
      apply sr tokTB (by kernel_rfl)
      · intro RR hRR
        refine w_move (by constructor) ?_
        refine w_assign (by constructor) ?_
        exact hRR
      refine snd_ret ?_
      exact rt (T := TB) (fun V => m_int ((idx_at (P := fun j => decide (G i j = 0)) lt_j (by have q : ((G i j : Nat) : Int) = 0 := of_decide_eq_true hc18; exact decide_eq_true (by omega)) (fun a ha => decide_eq_false (inv_j a ha))).symm.trans (h.iv hi).1))
    · skip
      refine snd_skip ?_
      apply lr tokTB (by kernel_rfl)
      · intro RR hRR
        refine w_move (by constructor) ?_
        refine y_add rfl rfl ?_
        refine w_assign (by constructor) ?_
        exact hRR
      refine ⟨j + 1, ρ0, ?_, ⟨by omega, all_step inv_j (by have q : ¬ ((G i j : Nat) : Int) = 0 := of_decide_eq_false hc18; omega)⟩, (by dsimp only; omega)⟩
      exact ⟨⟨(mi), m_cgrp, (mi), trivial⟩, trivial, trivial⟩
  · try simp only [hcs] at hc9
    have ge_j : n = j := by omega
    subst ge_j
    exact absurd (h.iv_r hi) (inv_j _ (by have := h.iv_lt hi; omega))
theorem c_l06Times {n : Nat} {G : Nat → Nat → Nat} (hG : RG G) (h : GN n G) {m : Nat} {f : Nat → Nat} (hm : m ≤ 100) (hf : ∀ r, r < m → f r < n) : ACalls Try.prog TB 63 [grpA (n : Int) G, rowA m (fun r => ((f r : Nat) : Int))] (.int .i64 ((gpN G f m : Nat) : Int)) [] := by
  have hcl := closed_cgrp (n := (n : Int)) (G := G)
  have hcl2 := closed_grp (n := (n : Int)) (G := G)
  have hn6 := h.n6
  refine acalls_of tokTB Try.func63 rfl rfl (Nat.le_of_ble_eq_true rfl) ?_
  apply sr tokTB (by kernel_rfl)
  · intro RR hRR
    refine w_boxc (HV.eq (by constructor)) (by exact trivial) ?_
    refine w_assign (by constructor) ?_
    exact hRR
  apply sr tokTB (by kernel_rfl)
  · intro RR hRR
    refine w_assign (by constructor) ?_
    exact hRR
  refine snd_seq ?_
  apply sr tokTB (by kernel_rfl)
  · intro RR hRR
    refine w_assign (by constructor) ?_
    exact hRR
  refine snd_block ?_
  refine snd_loop (S := Nat) (fun i => ([(1, rowA m (fun r => ((f r : Nat) : Int))), (2, .cptr (grpA (n : Int) G)), (5, .int .i64 ((gpN G f i : Nat) : Int)), (6, .int .i64 (i : Int))], [])) (fun i => i ≤ m) (fun i => m - i) (0) ρ0 ?_ ?_ ?_
  · exact ⟨⟨(by first | exact mt_row (V := _) (fun _ _ => rfl) | exact mt_fz (by exact trivial) rfl (fun _ _ => rfl)), m_cgrp, (by exact m_int rfl), (mi), trivial⟩, trivial, trivial⟩
  · exact Nat.zero_le _
  intro i hi0
  refine sq (env2 := [(1, rowA m (fun r => ((f r : Nat) : Int))), (2, .cptr (grpA (n : Int) G)), (5, .int .i64 ((gpN G f i : Nat) : Int)), (6, .int .i64 (i : Int))]) (ol2 := []) rfl rfl ?_
  refine snd_seq ?_
  apply sr tokTB (by kernel_rfl)
  · intro RR hRR
    refine w_move (by constructor) ?_
    refine w_move (by constructor) ?_
    refine w_len_r rfl rfl und62 ?_
    refine w_lss rfl rfl ?_
    exact hRR
  refine snd_cond _ rfl (fun hc10 => ?_) (fun hc10 => ?_)
  · try simp only [hcs] at hc10
    have lt_i : i < m := by omega
    have h1 := h.gp hf i (by omega)
    have h2 := hf i lt_i
    refine snd_skip ?_
    refine snd_seq ?_
    refine snd_block ?_
    apply ld tokTB mixed (by kernel_rfl) (by kernel_rfl)
    · intro RR hRR
      refine w_move (by constructor) ?_
      refine w_move (by constructor) ?_
      refine w_move (by constructor) ?_
      refine w_iar rfl rfl und62 kn2 (by exact sz2.symm) ?_ rfl ?_
      · exact ⟨by omega, by omega⟩
      first | refine w_ldc rfl kn2 (by constructor) (by exact sz2.symm) (by exact ag2.symm) ?_ | refine w_ldp rfl kn2 rfl (by constructor) (by exact sz2.symm) (by exact ag2.symm) ?_
      refine w_fac rfl und38 rfl kn23 nz23 (by decide) rfl (by constructor) ?_
      refine w_iac rfl rfl und23 kn22 (by exact sz22.symm) ?_ rfl ?_
      · exact ⟨(show (0 : Int) ≤ ((gpN G f i : Nat) : Int) by omega), (show ((gpN G f i : Nat) : Int) < 6 by omega)⟩
      first | refine w_iac rfl rfl und22 kn5 (by exact sz5.symm) ?_ rfl ?_ | refine w_iap rfl rfl und22 kn5 rfl (by exact sz5.symm) rfl ?_ ?_
      · exact ⟨(show (0 : Int) ≤ ((f i : Nat) : Int) by omega), (show ((f i : Nat) : Int) < 6 by omega)⟩
      first | refine w_ldc rfl kn5 (by constructor) (by exact sz5.symm) (by exact ag5.symm) ?_ | refine w_ldp rfl kn5 rfl (by constructor) (by exact sz5.symm) (by exact ag5.symm) ?_
      refine w_conv rfl und5 und2 (by exact hG.w8 _ _) ?_
      refine w_assign (by constructor) ?_
      exact hRR
    apply lr tokTB (by kernel_rfl)
    · intro RR hRR
      refine w_move (by constructor) ?_
      refine y_add rfl rfl ?_
      refine w_assign (by constructor) ?_
      exact hRR
    refine ⟨i + 1, ρ0, ?_, (by omega), (by dsimp only; omega)⟩
    exact ⟨⟨(by first | exact mt_row (V := _) (fun _ _ => rfl) | exact mt_fz (by exact trivial) rfl (fun _ _ => rfl)), m_cgrp, (by exact m_int rfl), (mi), trivial⟩, trivial, trivial⟩
  · try simp only [hcs] at hc10
    have ge_i : m = i := by omega
    subst ge_i
    refine snd_exit ?_
    apply sr tokTB (by kernel_rfl)
    · intro RR hRR
      refine w_move (by constructor) ?_
      refine w_assign (by constructor) ?_
      exact hRR
    refine snd_ret ?_
    exact rt (T := TB) (fun V => rfl)
theorem c_classOf {n : Nat} {G : Nat → Nat → Nat} (hG : RG G) (h : GN n G) {i : Nat} (hi : i < n) : ACalls Try.prog TB 68 [.cptr (grpA (n : Int) G), .int .i64 (i : Int)] (.own 0 0 (clN n G i) 2) (HR (clN n G i) (fun r => ((clF n G i r : Nat) : Int))) := by
  have hcl := closed_cgrp (n := (n : Int)) (G := G)
  have hcl2 := closed_grp (n := (n : Int)) (G := G)
  have hn6 := h.n6
  refine acalls_of tokTB Try.func68 rfl rfl (Nat.le_of_ble_eq_true rfl) ?_
  apply sr tokTB (by kernel_rfl)
  · intro RR hRR
    refine w_assign (by constructor) ?_
    exact hRR
  apply sr tokTB (by kernel_rfl)
  · intro RR hRR
    refine w_bsl und62 kn2 (by rw [sz2]; rfl) rfl trivial trivial rfl ?_
    refine w_assign (by constructor) ?_
    exact hRR
  refine snd_seq ?_
  apply sr tokTB (by kernel_rfl)
  · intro RR hRR
    refine w_move (by constructor) ?_
    refine y_call rfl (exc exp_cgrp exn) (c_gn) ?_
    refine w_move (by constructor) ?_
    exact hRR
  refine snd_block ?_
  refine snd_loop (S := Nat) (fun x => ([(0, .cptr (grpA (n : Int) G)), (1, .int .i64 (i : Int)), (5, .own 905 0 x 2), (9, .int .i64 (n : Int)), (10, .int .i64 (x : Int))], [(905, .one (Z64 x) (C64 x (fun x => ((cj n G i x : Nat) : Int))))])) (fun x => x ≤ n) (fun x => n - x) (0) (fun k i => bif Nat.beq k 905 then (7, i) else (k, i)) ?_ ?_ ?_
  · exact ⟨⟨m_cgrp, (mi), (by first | exact ⟨rfl, rfl, rfl, rfl⟩ | exact ⟨rfl, by omega, rfl, rfl⟩), (mi), (mi), trivial⟩, ⟨⟨rfl, (sx), (by exact mt_arr0)⟩, trivial⟩, ⟨⟨(fun h => by first | exact ⟨rfl, rfl⟩ | exact absurd h (by decide)), trivial⟩, trivial⟩⟩
  · exact Nat.zero_le _
  intro x hi0
  refine sq (env2 := [(0, .cptr (grpA (n : Int) G)), (1, .int .i64 (i : Int)), (5, .own 905 0 x 2), (9, .int .i64 (n : Int)), (10, .int .i64 (x : Int))]) (ol2 := [(905, .one (Z64 x) (C64 x (fun x => ((cj n G i x : Nat) : Int))))]) rfl rfl ?_
  apply sr tokTB (by kernel_rfl)
  · intro RR hRR
    refine w_lss rfl rfl ?_
    exact hRR
  refine snd_seq ?_
  refine snd_cond _ rfl (fun hc11 => ?_) (fun hc11 => ?_)
  · try simp only [hcs] at hc11
    have lt_x : x < n := by omega
    refine snd_skip ?_
    refine snd_seq ?_
    refine snd_block ?_
    apply sr tokTB (by kernel_rfl)
    · intro RR hRR
      refine w_move (by constructor) ?_
      refine w_assign (by constructor) ?_
      exact hRR
    apply lr tokTB (by kernel_rfl)
    · intro RR hRR
      refine w_move (by constructor) ?_
      refine w_move (by constructor) ?_
      refine w_move (by constructor) ?_
      refine w_move (by constructor) ?_
      refine w_move (by constructor) ?_
      refine y_call rfl (exc exp_cgrp (ec (ec exn))) (c_gtimes (i := x) (j := i) hG (by omega) (by omega)) ?_
      refine w_move (by constructor) ?_
      refine w_move (by constructor) ?_
      refine y_call rfl (exc exp_cgrp (ec exn)) (((h.iv lt_x).2.2.2.2 ▸ c_ginverse (i := x) hG hn6 (by omega))) ?_
      refine y_call rfl (exc exp_cgrp (ec (ec exn))) (c_gtimes (i := G x i) (j := ivN n G x) hG (h.e6 _ _ lt_x hi) (by have := h.iv_lt lt_x; omega)) ?_
      refine w_bsl1 und62 kn2 (by rw [sz2]; rfl) rfl (by constructor) (by first | exact trivial | exact cel_cap2) (by exact sz2.symm) (by first | exact trivial | exact ssh_vec | exact ⟨rfl, fun _ => trivial⟩) ?_
      refine w_app_o und62 rfl rfl kn2 rfl rfl (fun C h => ⟨rfl, rfl, rfl, h⟩) (by rw [by2]; omega) (by omega) rfl ?_
      refine w_assign (by constructor) ?_
      exact hRR
    apply lr tokTB (by kernel_rfl)
    · intro RR hRR
      refine y_add rfl rfl ?_
      refine w_move (by constructor) ?_
      exact hRR
    refine ⟨x + 1, (fun k i => bif Nat.beq k 905 then (24, i) else (k, i)), ?_, (by omega), (by dsimp only; omega)⟩
    exact ⟨⟨m_cgrp, (mi), (by first | exact ⟨rfl, rfl, rfl, rfl⟩ | exact ⟨rfl, by omega, rfl, rfl⟩), (mi), (mi), trivial⟩, ⟨⟨rfl, (sx), (by exact mt_app (fun _ _ => rfl) rfl)⟩, trivial⟩, ⟨⟨(fun h => by first | exact ⟨rfl, rfl⟩ | exact absurd h (by decide)), trivial⟩, trivial⟩⟩
  · try simp only [hcs] at hc11
    have ge_x : n = x := by omega
    subst ge_x
    refine snd_exit ?_
    apply srD tokTB (ops1 := [_]) (ops2 := []) (by kernel_rfl) rfl rfl
    · intro RR hRR
      refine w_move (by constructor) ?_
      exact hRR
    · exact mut_mid1 tokTB (mcalls_turn (fun args w => by simp [callFunc, Try.func79]; rfl) sz2 zr2 (sort_turn (F := (fun x => ((cj n G i x : Nat) : Int))) (by omega))) (args := []) (k := 905) (i := 0) rfl rfl trivial (fun _ => trivial) (fun _ => trivial) (fun _ => trivial) rfl
    · intro RR hRR
      exact hRR
    apply srD tokTB (ops1 := [_]) (ops2 := [_]) (by kernel_rfl) rfl rfl
    · intro RR hRR
      refine w_move (by constructor) ?_
      exact hRR
    · exact cut_mid tokTB (fun args w => by simp [callFunc, Try.func80]; rfl) sz2 zr2 (key := 950) (comp_turn (F := srtF n (fun x => ((cj n G i x : Nat) : Int))) (by omega)) (cmp_le _ _) rfl rfl rfl
    · intro RR hRR
      refine w_assign (by constructor) ?_
      exact hRR
    refine snd_ret ?_
    show retQ TB _ _ _ _ _ _
    show retQ TB _ _ _ _ _ _
    exact rt_own rfl rfl (h.class_eq hi).1 (fun _ => trivial) (fun V r hr => congrArg (AV.int .i64) ((h.class_eq hi).2 r hr))
end Go.Am

set_option linter.unusedVariables false
set_option linter.unusedSimpArgs false
set_option maxRecDepth 4000
namespace Go.Am
attribute [local irreducible] retQ retQp
open Go.Proofs
theorem c_classes {n : Nat} {G : Nat → Nat → Nat} (hG : RG G) (h : GN n G) : ACalls Try.prog TB 35 [.cptr (grpA (n : Int) G)] (.own 0 0 (ccN n G) 62) [(0, .one (ZR (ccN n G)) (CO 1 (ccN n G) (ccW n G) 2)), (1, .many (famF (ccN n G) (ccW n G) (ccF n G)))] := by
  have hcl := closed_cgrp (n := (n : Int)) (G := G)
  have hcl2 := closed_grp (n := (n : Int)) (G := G)
  have hn6 := h.n6
  refine acalls_of tokTB Try.func35 rfl rfl (Nat.le_of_ble_eq_true rfl) ?_
  apply sr tokTB (by kernel_rfl)
  · intro RR hRR
    refine w_assign (by constructor) ?_
    exact hRR
  apply sr tokTB (by kernel_rfl)
  · intro RR hRR
    refine w_bsl und35 kn62 (by rw [sz62]; rfl) rfl trivial trivial rfl ?_
    refine w_assign (by constructor) ?_
    exact hRR
  refine snd_seq ?_
  apply sr tokTB (by kernel_rfl)
  · intro RR hRR
    refine w_move (by constructor) ?_
    refine y_call rfl (exc exp_cgrp exn) (c_gn) ?_
    refine w_move (by constructor) ?_
    exact hRR
  refine snd_block ?_
  refine snd_loop (S := Nat) (fun i => ([(0, .cptr (grpA (n : Int) G)), (3, .own 905 0 (enN (repB n G) (i)) 62), (8, .int .i64 (n : Int)), (9, .int .i64 (i : Int))], [(905, .one (ZR (enN (repB n G) (i))) (CO 1 (enN (repB n G) (i)) (ccW n G) 2)), (1, .many (famF (enN (repB n G) (i)) (ccW n G) (ccF n G)))])) (fun i => i ≤ n) (fun i => n - i) (0) (ρL [(905, 6)] 1 0 912) ?_ ?_ ?_
  · exact emb_famL (by decide) rfl rfl rfl rfl (fun j hj => absurd hj (Nat.not_lt_zero _)) (fun q => absurd q (Nat.not_lt_zero _)) (fun q => absurd q (Nat.not_lt_zero _)) (fun r hr => absurd hr (Nat.not_lt_zero _)) trivial ⟨m_cgrp, (by first | exact ⟨rfl, rfl, rfl, rfl⟩ | exact ⟨rfl, by omega, rfl, rfl⟩), (mi), (mi), trivial⟩
  · exact Nat.zero_le _
  intro i hi0
  refine sq (env2 := [(0, .cptr (grpA (n : Int) G)), (3, .own 905 0 (enN (repB n G) (i)) 62), (8, .int .i64 (n : Int)), (9, .int .i64 (i : Int))]) (ol2 := [(905, .one (ZR (enN (repB n G) (i))) (CO 1 (enN (repB n G) (i)) (ccW n G) 2)), (1, .many (famF (enN (repB n G) (i)) (ccW n G) (ccF n G)))]) rfl rfl ?_
  apply sr tokTB (by kernel_rfl)
  · intro RR hRR
    refine w_lss rfl rfl ?_
    exact hRR
  refine snd_seq ?_
  refine snd_cond _ rfl (fun hc10 => ?_) (fun hc10 => ?_)
  · try simp only [hcs] at hc10
    have lt_i : i < n := by omega
    have hei := enN_le (repB n G) i
    refine snd_skip ?_
    refine snd_seq ?_
    refine snd_block ?_
    apply sr tokTB (by kernel_rfl)
    · intro RR hRR
      refine w_move (by constructor) ?_
      refine w_assign (by constructor) ?_
      exact hRR
    apply sr tokTB (by kernel_rfl)
    · intro RR hRR
      refine w_move (by constructor) ?_
      refine w_move (by constructor) ?_
      refine w_call rfl (exc exp_cgrp (ec exn)) (c_classOf hG h lt_i) (.inl ⟨trivial, ⟨fun _ => trivial, trivial⟩⟩) rfl (by constructor) rfl ?_
      refine w_assign (by constructor) ?_
      exact hRR
    apply sr tokTB (by kernel_rfl)
    · intro RR hRR
      refine w_move (by constructor) ?_
      refine w_iao rfl rfl und62 kn2 ?_ ?_
      · exact ⟨Int.le_refl _, (show (0 : Int) < ((clN n G i : Nat) : Int) by have := (h.cl_0 lt_i).1; omega)⟩
      first | refine w_ldc rfl kn2 (by constructor) (by exact sz2.symm) (by exact ag2.symm) ?_ | refine w_ldp rfl kn2 rfl (by constructor) (by exact sz2.symm) (by exact ag2.symm) ?_
      refine w_move (by constructor) ?_
      refine w_eql rfl rfl ?_
      exact hRR
    refine snd_cond _ rfl (fun hc19 => ?_) (fun hc19 => ?_)
    · skip
      have hrep : repB n G i = true := (h.cl_0 lt_i).2.1 (by have q : ((clF n G i 0 : Nat) : Int) = (i : Int) := of_decide_eq_true hc19; omega)
      obtain ⟨hen, hri⟩ := en_at hrep n lt_i
      have hri : rpF n G (enN (repB n G) i) = i := hri
      have hs := en_t hrep
      apply lr tokTB (by kernel_rfl)
      · intro RR hRR
        refine w_move (by constructor) ?_
        refine w_move (by constructor) ?_
        refine w_bsl1 und35 kn62 (by rw [sz62]; rfl) rfl (by constructor) (by first | exact trivial | exact cel_cap2) (by exact sz62.symm) (by first | exact trivial | exact ssh_vec | exact ⟨rfl, fun _ => trivial⟩) ?_
        refine w_app_o und35 rfl rfl kn62 rfl rfl (fun C h => ⟨rfl, rfl, rfl, h⟩) (by rw [by62]; omega) (by omega) rfl ?_
        refine w_assign (by constructor) ?_
        exact hRR
      apply lr tokTB (by kernel_rfl)
      · intro RR hRR
        refine y_add rfl rfl ?_
        refine w_move (by constructor) ?_
        exact hRR
      refine ⟨i + 1, (ρL [(905, 23)] 1 (enN (repB n G) i) 15000), ?_, (by omega), (by dsimp only; omega)⟩
      show Emb _ _ _ [(0, .cptr (grpA (n : Int) G)), (3, .own 905 0 (enN (repB n G) ((i + 1))) 62), (8, .int .i64 (n : Int)), (9, .int .i64 ((i + 1) : Int))] [(905, .one (ZR (enN (repB n G) ((i + 1)))) (CO 1 (enN (repB n G) ((i + 1))) (ccW n G) 2)), (1, .many (famF (enN (repB n G) ((i + 1))) (ccW n G) (ccF n G)))]
      rw [hs]
      exact emb_famL (by decide) rfl rfl rfl rfl (fun j hj hne => appF_lt (by omega)) (fun _ => (appF_ge (Nat.le_refl _) (by omega)).trans (by rw [Nat.sub_self]; show AV.own 15000 0 (clN n G i) 2 = AV.own 15000 0 (clN n G (rpF n G (enN (repB n G) i))) 2; rw [hri])) (fun _ => ⟨_, (by show _ = some (Z64 (clN n G (rpF n G (enN (repB n G) i))), _); rw [hri]; exact rfl), fun V => (by show Mt V (C64 (clN n G (rpF n G (enN (repB n G) i))) (fun z => ((clF n G (rpF n G (enN (repB n G) i)) z : Nat) : Int))) _; rw [hri]; exact mt_vec (fun _ _ => rfl))⟩) (fun r hr hne => ⟨_, famF_at (w := (ccW n G)) (F := (ccF n G)) (by omega), fun V => mt_vec (fun _ _ => rfl)⟩) trivial ⟨m_cgrp, (by first | exact ⟨rfl, rfl, rfl, rfl⟩ | exact ⟨rfl, by omega, rfl, rfl⟩), (mi), (mi), trivial⟩
    · skip
      have hs := en_f (Bool.eq_false_iff.2 (fun q => (of_decide_eq_false hc19) (by show ((clF n G i 0 : Nat) : Int) = (i : Int); have := (h.cl_0 lt_i).2.2 q; omega)))
      refine snd_skip ?_
      apply lr tokTB (by kernel_rfl)
      · intro RR hRR
        refine y_add rfl rfl ?_
        refine w_move (by constructor) ?_
        exact hRR
      refine ⟨i + 1, (ρL [(905, 905)] 1 (enN (repB n G) i) 912), ?_, (by omega), (by dsimp only; omega)⟩
      show Emb _ _ _ [(0, .cptr (grpA (n : Int) G)), (3, .own 905 0 (enN (repB n G) ((i + 1))) 62), (8, .int .i64 (n : Int)), (9, .int .i64 ((i + 1) : Int))] [(905, .one (ZR (enN (repB n G) ((i + 1)))) (CO 1 (enN (repB n G) ((i + 1))) (ccW n G) 2)), (1, .many (famF (enN (repB n G) ((i + 1))) (ccW n G) (ccF n G)))]
      rw [hs]
      exact emb_famL (by decide) rfl rfl rfl rfl (fun j hj hne => rfl) (fun q => absurd q (by omega)) (fun q => absurd q (by omega)) (fun r hr hne => ⟨_, famF_at (w := (ccW n G)) (F := (ccF n G)) (by omega), fun V => mt_vec (fun _ _ => rfl)⟩) trivial ⟨m_cgrp, (by first | exact ⟨rfl, rfl, rfl, rfl⟩ | exact ⟨rfl, by omega, rfl, rfl⟩), (mi), (mi), trivial⟩
  · try simp only [hcs] at hc10
    have ge_i : n = i := by omega
    subst ge_i
    refine snd_exit ?_
    apply sr tokTB (by kernel_rfl)
    · intro RR hRR
      refine w_move (by constructor) ?_
      refine w_assign (by constructor) ?_
      exact hRR
    refine snd_ret ?_
    show retQ TB _ _ _ _ _ _
    exact rt_fam (T := TB) (a := 905) rfl (by decide) rfl rfl (fun r hr => famF_at (c := ccN n G) (w := ccW n G) (F := ccF n G) hr)
theorem c_l06Classes {n : Nat} {G : Nat → Nat → Nat} (hG : RG G) (h : GN n G) : ACalls Try.prog TB 32 [grpA (n : Int) G] (.own 0 0 (ccN n G) 62) [(0, .one (ZR (ccN n G)) (CO 1 (ccN n G) (ccW n G) 2)), (1, .many (famF (ccN n G) (ccW n G) (ccF n G)))] := by
  have hcl := closed_cgrp (n := (n : Int)) (G := G)
  have hcl2 := closed_grp (n := (n : Int)) (G := G)
  have hn6 := h.n6
  refine acalls_of tokTB Try.func32 rfl rfl (Nat.le_of_ble_eq_true rfl) ?_
  apply sr tokTB (by kernel_rfl)
  · intro RR hRR
    refine w_boxc (HV.eq (by constructor)) (by exact trivial) ?_
    refine w_assign (by constructor) ?_
    exact hRR
  apply sr tokTB (by kernel_rfl)
  · intro RR hRR
    refine w_bld_a kn81 zr81 und81 kn4 (fun _ => (by exact sz4.symm)) trivial rfl (by exact sz4.symm) ?_
    refine w_bsl und35 kn62 (by rw [sz62]; rfl) rfl trivial trivial rfl ?_
    refine w_alloc kn81 rfl zr81 ?_
    refine w_stw rfl (by constructor) kn81 rfl (by exact trivial) (sx) (by exact sz81.symm) ?_
    refine w_assign (by constructor) ?_
    exact hRR
  refine snd_seq ?_
  apply sr tokTB (by kernel_rfl)
  · intro RR hRR
    refine w_assign (by constructor) ?_
    exact hRR
  refine snd_block ?_
  refine snd_loop (S := Nat) (fun i => ([(1, .cptr (grpA (n : Int) G)), (3, .ptr 3 0 [] 0 (.arr 6 (fun _ => .bool false))), (4, .own 905 0 (enN (repB n G) (i)) 62), (5, .int .i64 (i : Int))], [(905, .one (ZR (enN (repB n G) (i))) (CO 1 (enN (repB n G) (i)) (ccW n G) 2)), (1, .many (famF (enN (repB n G) (i)) (ccW n G) (ccF n G))), (3, .one (.arr 6 (fun _ => .bool false)) (.arr 6 (fun z => .bool (metF n G i z))))])) (fun i => i ≤ n) (fun i => n - i) (0) (ρL [(905, 11), (3, 3)] 1 0 912) ?_ ?_ ?_
  · exact emb_famL (by decide) rfl rfl rfl rfl (fun j hj => absurd hj (Nat.not_lt_zero _)) (fun q => absurd q (Nat.not_lt_zero _)) (fun q => absurd q (Nat.not_lt_zero _)) (fun r hr => absurd hr (Nat.not_lt_zero _)) ⟨⟨_, rfl, ⟨rfl, fun _ => trivial⟩, fun V => mt_bools (fun z hz => rfl)⟩, trivial⟩ ⟨m_cgrp, ⟨rfl, rfl, rfl, rfl, rfl⟩, (by first | exact ⟨rfl, rfl, rfl, rfl⟩ | exact ⟨rfl, by omega, rfl, rfl⟩), (mi), trivial⟩
  · exact Nat.zero_le _
  intro i hi0
  refine sq (env2 := [(1, .cptr (grpA (n : Int) G)), (3, .ptr 3 0 [] 0 (.arr 6 (fun _ => .bool false))), (4, .own 905 0 (enN (repB n G) (i)) 62), (5, .int .i64 (i : Int))]) (ol2 := [(905, .one (ZR (enN (repB n G) (i))) (CO 1 (enN (repB n G) (i)) (ccW n G) 2)), (1, .many (famF (enN (repB n G) (i)) (ccW n G) (ccF n G))), (3, .one (.arr 6 (fun _ => .bool false)) (.arr 6 (fun z => .bool (metF n G i z))))]) rfl rfl ?_
  refine snd_seq ?_
  apply sr tokTB (by kernel_rfl)
  · intro RR hRR
    refine w_move (by constructor) ?_
    refine w_fac rfl und38 rfl kn2 nz2 (by decide) rfl (by constructor) ?_
    refine w_ldc rfl kn2 (by constructor) (by exact sz2.symm) (by exact ag2.symm) ?_
    refine w_lss rfl rfl ?_
    exact hRR
  refine snd_cond _ rfl (fun hc15 => ?_) (fun hc15 => ?_)
  · try simp only [hcs] at hc15
    have lt_i : i < n := by omega
    have hei := enN_le (repB n G) i
    refine snd_skip ?_
    refine snd_seq ?_
    refine snd_block ?_
    refine snd_seq ?_
    apply sr tokTB (by kernel_rfl)
    · intro RR hRR
      refine w_move (by constructor) ?_
      refine w_iap rfl rfl und81 kn4 rfl (by exact sz4.symm) rfl ?_ ?_
      · exact ⟨by omega, by omega⟩
      first | refine w_ldc rfl kn4 (by constructor) (by exact sz4.symm) (by exact ag4.symm) ?_ | refine w_ldp rfl kn4 rfl (by constructor) (by exact sz4.symm) (by exact ag4.symm) ?_
      exact hRR
    refine snd_cond _ rfl (fun hc20 => ?_) (fun hc20 => ?_)
    · skip
      have hs := en_f (P := repB n G) (j := i) (by show (!metF n G i i) = false; rw [show metF n G i i = true from hc20]; rfl)
      refine snd_exit ?_
      apply lr tokTB (by kernel_rfl)
      · intro RR hRR
        refine w_move (by constructor) ?_
        refine y_add rfl rfl ?_
        refine w_assign (by constructor) ?_
        exact hRR
      refine ⟨i + 1, (ρL [(905, 905), (3, 3)] 1 (enN (repB n G) i) 912), ?_, (by omega), (by dsimp only; omega)⟩
      show Emb _ _ _ [(1, .cptr (grpA (n : Int) G)), (3, .ptr 3 0 [] 0 (.arr 6 (fun _ => .bool false))), (4, .own 905 0 (enN (repB n G) ((i + 1))) 62), (5, .int .i64 ((i + 1) : Int))] [(905, .one (ZR (enN (repB n G) ((i + 1)))) (CO 1 (enN (repB n G) ((i + 1))) (ccW n G) 2)), (1, .many (famF (enN (repB n G) ((i + 1))) (ccW n G) (ccF n G))), (3, .one (.arr 6 (fun _ => .bool false)) (.arr 6 (fun z => .bool (metF n G (i + 1) z))))]
      rw [hs]
      exact emb_famL (by decide) rfl rfl rfl rfl (fun j hj hne => rfl) (fun q => absurd q (by omega)) (fun q => absurd q (by omega)) (fun r hr hne => ⟨_, famF_at (w := (ccW n G)) (F := (ccF n G)) (by omega), fun V => mt_vec (fun _ _ => rfl)⟩) ⟨⟨_, rfl, ⟨rfl, fun _ => trivial⟩, fun V => mt_bools (fun z hz => (met_t hc20 z).symm)⟩, trivial⟩ ⟨m_cgrp, ⟨rfl, rfl, rfl, rfl, rfl⟩, (by first | exact ⟨rfl, rfl, rfl, rfl⟩ | exact ⟨rfl, by omega, rfl, rfl⟩), (mi), trivial⟩
    · skip
      have hmet : metF n G i i = false := hc20
      have hrep : repB n G i = true := by show (!metF n G i i) = true; rw [hmet]; rfl
      obtain ⟨hen, hri⟩ := en_at hrep n lt_i
      have hri : rpF n G (enN (repB n G) i) = i := hri
      have hs := en_t hrep
      refine snd_skip ?_
      apply sr tokTB (by kernel_rfl)
      · intro RR hRR
        refine w_bld_a kn81 zr81 und81 kn4 (fun _ => (by exact sz4.symm)) trivial rfl (by exact sz4.symm) ?_
        refine w_alloc kn81 rfl zr81 ?_
        refine w_stw rfl (by constructor) kn81 rfl (by exact trivial) (sx) (by exact sz81.symm) ?_
        exact hRR
      refine snd_seq ?_
      apply sr tokTB (by kernel_rfl)
      · intro RR hRR
        refine w_assign (by constructor) ?_
        exact hRR
      refine snd_block ?_
      refine snd_loop (S := Nat) (fun x => ([(1, .cptr (grpA (n : Int) G)), (3, .ptr 3 0 [] 0 (.arr 6 (fun _ => .bool false))), (4, .own 905 0 (enN (repB n G) (i)) 62), (5, .int .i64 (i : Int)), (6, .ptr 6 0 [] 0 (.arr 6 (fun _ => .bool false))), (7, .int .i64 (x : Int))], [(905, .one (ZR (enN (repB n G) (i))) (CO 1 (enN (repB n G) (i)) (ccW n G) 2)), (1, .many (famF (enN (repB n G) (i)) (ccW n G) (ccF n G))), (3, .one (.arr 6 (fun _ => .bool false)) (.arr 6 (fun z => .bool (metF n G i z)))), (6, .one (.arr 6 (fun _ => .bool false)) (.arr 6 (fun z => .bool (owF n G i (x) z))))])) (fun x => x ≤ n) (fun x => n - x) (0) (ρL [(905, 905), (3, 3), (6, 6)] 1 (enN (repB n G) i) 912) ?_ ?_ ?_
      · exact emb_famL (by decide) rfl rfl rfl rfl (fun j hj hne => rfl) (fun q => absurd q (by omega)) (fun q => absurd q (by omega)) (fun r hr hne => ⟨_, famF_at (w := (ccW n G)) (F := (ccF n G)) (by omega), fun V => mt_vec (fun _ _ => rfl)⟩) ⟨⟨_, rfl, ⟨rfl, fun _ => trivial⟩, fun V => mt_bools (fun z hz => rfl)⟩, ⟨_, rfl, ⟨rfl, fun _ => trivial⟩, fun V => mt_bools (fun z hz => rfl)⟩, trivial⟩ ⟨m_cgrp, ⟨rfl, rfl, rfl, rfl, rfl⟩, (by first | exact ⟨rfl, rfl, rfl, rfl⟩ | exact ⟨rfl, by omega, rfl, rfl⟩), (mi), ⟨rfl, rfl, rfl, rfl, rfl⟩, (mi), trivial⟩
      · exact Nat.zero_le _
      intro x hi2
      refine sq (env2 := [(1, .cptr (grpA (n : Int) G)), (3, .ptr 3 0 [] 0 (.arr 6 (fun _ => .bool false))), (4, .own 905 0 (enN (repB n G) (i)) 62), (5, .int .i64 (i : Int)), (6, .ptr 6 0 [] 0 (.arr 6 (fun _ => .bool false))), (7, .int .i64 (x : Int))]) (ol2 := [(905, .one (ZR (enN (repB n G) (i))) (CO 1 (enN (repB n G) (i)) (ccW n G) 2)), (1, .many (famF (enN (repB n G) (i)) (ccW n G) (ccF n G))), (3, .one (.arr 6 (fun _ => .bool false)) (.arr 6 (fun z => .bool (metF n G i z)))), (6, .one (.arr 6 (fun _ => .bool false)) (.arr 6 (fun z => .bool (owF n G i (x) z))))]) rfl rfl ?_
      refine snd_seq ?_
      apply sr tokTB (by kernel_rfl)
      · intro RR hRR
        refine w_move (by constructor) ?_
        refine w_fac rfl und38 rfl kn2 nz2 (by decide) rfl (by constructor) ?_
        refine w_ldc rfl kn2 (by constructor) (by exact sz2.symm) (by exact ag2.symm) ?_
        refine w_lss rfl rfl ?_
        exact hRR
      refine snd_cond _ rfl (fun hc25 => ?_) (fun hc25 => ?_)
      · try simp only [hcs] at hc25
        have lt_x : x < n := by omega
        refine snd_skip ?_
        refine snd_seq ?_
        refine snd_block ?_
        apply ldX tokTB mixed [0, 2] (by kernel_rfl) (by kernel_rfl)
        · intro RR hRR
          show WOps _ _ _ _ _ _ _
          show LoadC Try.prog TB _ _ _
          refine wx_ldc rfl kn38 (by constructor) (by exact sz38.symm) (by exact ag38.symm) ?_
          show WOps _ _ _ _ _ _ _
          refine w_move (by constructor) ?_
          refine w_move (by constructor) ?_
          show LoadC Try.prog TB _ _ _
          refine wx_ldc rfl kn38 (by constructor) (by exact sz38.symm) (by exact ag38.symm) ?_
          show WOps _ _ _ _ _ _ _
          refine w_move (by constructor) ?_
          refine y_call rfl (exc exp_grp (ec exn)) (c_l06Inverse hG h lt_x) ?_
          refine w_bsl und62 kn2 (by rw [sz2]; rfl) rfl (by exact ⟨⟨by decide, trivial, sz2.symm⟩, ⟨by decide, trivial, sz2.symm⟩, ⟨by decide, trivial, sz2.symm⟩, trivial⟩) (by exact ⟨(sx), (sx), (sx), trivial⟩) rfl ?_
          refine y_call rfl (exc exp_grp (exc (by refine congrArg (AV.ro 3) (funext fun i => ?_); match i with | 0 => rfl | 1 => rfl | 2 => rfl | n + 3 => rfl) exn)) ((h.gp3 lt_i lt_x ▸ c_l06Times (m := 3) (f := f3 x i (ivN n G x)) hG h (by omega) (fun r hr => by match r, hr with | 0, _ => exact lt_x | 1, _ => exact lt_i | 2, _ => exact h.iv_lt lt_x))) ?_
          refine w_iap rfl rfl und81 kn4 rfl (by exact sz4.symm) rfl ?_ ?_
          · exact ⟨(show (0 : Int) ≤ ((cj n G i x : Nat) : Int) by omega), (show ((cj n G i x : Nat) : Int) < 6 by have := h.cj_lt lt_i lt_x; omega)⟩
          refine w_stb rfl rfl kn4 rfl (by exact trivial) (by exact sz4.symm) ?_
          exact hRR
        apply lr tokTB (by kernel_rfl)
        · intro RR hRR
          refine w_move (by constructor) ?_
          refine y_add rfl rfl ?_
          refine w_assign (by constructor) ?_
          exact hRR
        refine ⟨x + 1, (ρL [(905, 905), (3, 3), (6, 6)] 1 (enN (repB n G) i) 912), ?_, (by omega), (by dsimp only; omega)⟩
        exact emb_famL (by decide) rfl rfl rfl rfl (fun j hj hne => rfl) (fun q => absurd q (by omega)) (fun q => absurd q (by omega)) (fun r hr hne => ⟨_, famF_at (w := (ccW n G)) (F := (ccF n G)) (by omega), fun V => mt_vec (fun _ _ => rfl)⟩) ⟨⟨_, rfl, ⟨rfl, fun _ => trivial⟩, fun V => mt_bools (fun z hz => rfl)⟩, ⟨_, rfl, ⟨rfl, fun _ => trivial⟩, fun V => mt_bools (fun z hz => rfl)⟩, trivial⟩ ⟨m_cgrp, ⟨rfl, rfl, rfl, rfl, rfl⟩, (by first | exact ⟨rfl, rfl, rfl, rfl⟩ | exact ⟨rfl, by omega, rfl, rfl⟩), (mi), ⟨rfl, rfl, rfl, rfl, rfl⟩, (mi), trivial⟩
      · try simp only [hcs] at hc25
        have ge_x : n = x := by omega
        subst ge_x
        refine snd_exit ?_
        apply sr tokTB (by kernel_rfl)
        · intro RR hRR
          refine w_bsl und62 kn2 (by rw [sz2]; rfl) rfl trivial trivial rfl ?_
          refine w_assign (by constructor) ?_
          exact hRR
        refine snd_seq ?_
        apply sr tokTB (by kernel_rfl)
        · intro RR hRR
          refine w_assign (by constructor) ?_
          exact hRR
        refine snd_block ?_
        refine snd_loop (S := Nat) (fun j => ([(1, .cptr (grpA (n : Int) G)), (3, .ptr 3 0 [] 0 (.arr 6 (fun _ => .bool false))), (4, .own 905 0 (enN (repB n G) (i)) 62), (5, .int .i64 (i : Int)), (6, .ptr 6 0 [] 0 (.arr 6 (fun _ => .bool false))), (8, .own 909 0 (enN (owF n G i n) (j)) 2), (9, .int .i64 (j : Int))], [(905, .one (ZR (enN (repB n G) (i))) (CO 1 (enN (repB n G) (i)) (ccW n G) 2)), (1, .many (famF (enN (repB n G) (i)) (ccW n G) (ccF n G))), (3, .one (.arr 6 (fun _ => .bool false)) (.arr 6 (fun z => .bool (metG n G i j z)))), (6, .one (.arr 6 (fun _ => .bool false)) (.arr 6 (fun z => .bool (owF n G i (n) z)))), (909, .one (Z64 (enN (owF n G i n) (j))) (C64 (enN (owF n G i n) (j)) (fun r => ((clF n G i r : Nat) : Int))))])) (fun j => j ≤ n) (fun j => n - j) (0) (ρL [(905, 905), (3, 3), (6, 6), (909, 37)] 1 (enN (repB n G) i) 912) ?_ ?_ ?_
        · exact emb_famL (by decide) rfl rfl rfl rfl (fun j hj hne => rfl) (fun q => absurd q (by omega)) (fun q => absurd q (by omega)) (fun r hr hne => ⟨_, famF_at (w := (ccW n G)) (F := (ccF n G)) (by omega), fun V => mt_vec (fun _ _ => rfl)⟩) ⟨⟨_, rfl, ⟨rfl, fun _ => trivial⟩, fun V => mt_bools (fun z hz => metG_0)⟩, ⟨_, rfl, ⟨rfl, fun _ => trivial⟩, fun V => mt_bools (fun z hz => rfl)⟩, ⟨_, rfl, ⟨rfl, fun _ => trivial⟩, fun V => mt_arr0⟩, trivial⟩ ⟨m_cgrp, ⟨rfl, rfl, rfl, rfl, rfl⟩, (by first | exact ⟨rfl, rfl, rfl, rfl⟩ | exact ⟨rfl, by omega, rfl, rfl⟩), (mi), ⟨rfl, rfl, rfl, rfl, rfl⟩, (by first | exact ⟨rfl, rfl, rfl, rfl⟩ | exact ⟨rfl, by omega, rfl, rfl⟩), (mi), trivial⟩
        · exact Nat.zero_le _
        intro j hi4
        refine sq (env2 := [(1, .cptr (grpA (n : Int) G)), (3, .ptr 3 0 [] 0 (.arr 6 (fun _ => .bool false))), (4, .own 905 0 (enN (repB n G) (i)) 62), (5, .int .i64 (i : Int)), (6, .ptr 6 0 [] 0 (.arr 6 (fun _ => .bool false))), (8, .own 909 0 (enN (owF n G i n) (j)) 2), (9, .int .i64 (j : Int))]) (ol2 := [(905, .one (ZR (enN (repB n G) (i))) (CO 1 (enN (repB n G) (i)) (ccW n G) 2)), (1, .many (famF (enN (repB n G) (i)) (ccW n G) (ccF n G))), (3, .one (.arr 6 (fun _ => .bool false)) (.arr 6 (fun z => .bool (metG n G i j z)))), (6, .one (.arr 6 (fun _ => .bool false)) (.arr 6 (fun z => .bool (owF n G i (n) z)))), (909, .one (Z64 (enN (owF n G i n) (j))) (C64 (enN (owF n G i n) (j)) (fun r => ((clF n G i r : Nat) : Int))))]) rfl rfl ?_
        refine snd_seq ?_
        apply sr tokTB (by kernel_rfl)
        · intro RR hRR
          refine w_move (by constructor) ?_
          refine w_fac rfl und38 rfl kn2 nz2 (by decide) rfl (by constructor) ?_
          refine w_ldc rfl kn2 (by constructor) (by exact sz2.symm) (by exact ag2.symm) ?_
          refine w_lss rfl rfl ?_
          exact hRR
        refine snd_cond _ rfl (fun hc41 => ?_) (fun hc41 => ?_)
        · try simp only [hcs] at hc41
          have lt_j : j < n := by omega
          refine snd_skip ?_
          refine snd_seq ?_
          refine snd_block ?_
          apply sr tokTB (by kernel_rfl)
          · intro RR hRR
            refine w_move (by constructor) ?_
            refine w_iap rfl rfl und81 kn4 rfl (by exact sz4.symm) rfl ?_ ?_
            · exact ⟨by omega, by omega⟩
            first | refine w_ldc rfl kn4 (by constructor) (by exact sz4.symm) (by exact ag4.symm) ?_ | refine w_ldp rfl kn4 rfl (by constructor) (by exact sz4.symm) (by exact ag4.symm) ?_
            exact hRR
          refine snd_cond _ rfl (fun hc46 => ?_) (fun hc46 => ?_)
          · skip
            have hown : owF n G i n j = true := hc46
            obtain ⟨hoe, hoi⟩ := en_at hown n lt_j
            have hsj := en_t hown
            have hej := enN_le (owF n G i n) j
            apply sr tokTB (by kernel_rfl)
            · intro RR hRR
              refine w_move (by constructor) ?_
              refine w_iap rfl rfl und81 kn4 rfl (by exact sz4.symm) rfl ?_ ?_
              · exact ⟨by omega, by omega⟩
              refine w_stb rfl rfl kn4 rfl (by exact trivial) (by exact sz4.symm) ?_
              exact hRR
            apply lr tokTB (by kernel_rfl)
            · intro RR hRR
              refine w_move (by constructor) ?_
              refine w_move (by constructor) ?_
              refine w_bsl1 und62 kn2 (by rw [sz2]; rfl) rfl (by constructor) (by first | exact trivial | exact cel_cap2) (by exact sz2.symm) (by first | exact trivial | exact ssh_vec | exact ⟨rfl, fun _ => trivial⟩) ?_
              refine w_app_o und62 rfl rfl kn2 rfl rfl (fun C h => ⟨rfl, rfl, rfl, h⟩) (by rw [by2]; omega) (by omega) rfl ?_
              refine w_assign (by constructor) ?_
              exact hRR
            apply lr tokTB (by kernel_rfl)
            · intro RR hRR
              refine w_move (by constructor) ?_
              refine y_add rfl rfl ?_
              refine w_assign (by constructor) ?_
              exact hRR
            refine ⟨j + 1, (ρL [(905, 905), (3, 3), (6, 6), (909, 52)] 1 (enN (repB n G) i) 912), ?_, (by omega), (by dsimp only; omega)⟩
            show Emb _ _ _ [(1, .cptr (grpA (n : Int) G)), (3, .ptr 3 0 [] 0 (.arr 6 (fun _ => .bool false))), (4, .own 905 0 (enN (repB n G) (i)) 62), (5, .int .i64 (i : Int)), (6, .ptr 6 0 [] 0 (.arr 6 (fun _ => .bool false))), (8, .own 909 0 (enN (owF n G i n) ((j + 1))) 2), (9, .int .i64 ((j + 1) : Int))] [(905, .one (ZR (enN (repB n G) (i))) (CO 1 (enN (repB n G) (i)) (ccW n G) 2)), (1, .many (famF (enN (repB n G) (i)) (ccW n G) (ccF n G))), (3, .one (.arr 6 (fun _ => .bool false)) (.arr 6 (fun z => .bool (metG n G i (j + 1) z)))), (6, .one (.arr 6 (fun _ => .bool false)) (.arr 6 (fun z => .bool (owF n G i (n) z)))), (909, .one (Z64 (enN (owF n G i n) ((j + 1)))) (C64 (enN (owF n G i n) ((j + 1))) (fun r => ((clF n G i r : Nat) : Int))))]
            rw [hsj]
            exact emb_famL (by decide) rfl rfl rfl rfl (fun j hj hne => rfl) (fun q => absurd q (by omega)) (fun q => absurd q (by omega)) (fun r hr hne => ⟨_, famF_at (w := (ccW n G)) (F := (ccF n G)) (by omega), fun V => mt_vec (fun _ _ => rfl)⟩) ⟨⟨_, rfl, ⟨rfl, fun _ => trivial⟩, fun V => mt_bools (fun z hz => metG_t hown z)⟩, ⟨_, rfl, ⟨rfl, fun _ => trivial⟩, fun V => mt_bools (fun z hz => rfl)⟩, ⟨_, rfl, ⟨rfl, fun _ => trivial⟩, fun V => by exact mt_app (fun _ _ => rfl) (congrArg (AV.int .i64) (congrArg Int.ofNat hoi.symm))⟩, trivial⟩ ⟨m_cgrp, ⟨rfl, rfl, rfl, rfl, rfl⟩, (by first | exact ⟨rfl, rfl, rfl, rfl⟩ | exact ⟨rfl, by omega, rfl, rfl⟩), (mi), ⟨rfl, rfl, rfl, rfl, rfl⟩, (by first | exact ⟨rfl, rfl, rfl, rfl⟩ | exact ⟨rfl, by omega, rfl, rfl⟩), (mi), trivial⟩
          · skip
            have hown : owF n G i n j = false := hc46
            have hsj := en_f hown
            refine snd_skip ?_
            apply lr tokTB (by kernel_rfl)
            · intro RR hRR
              refine w_move (by constructor) ?_
              refine y_add rfl rfl ?_
              refine w_assign (by constructor) ?_
              exact hRR
            refine ⟨j + 1, (ρL [(905, 905), (3, 3), (6, 6), (909, 909)] 1 (enN (repB n G) i) 912), ?_, (by omega), (by dsimp only; omega)⟩
            show Emb _ _ _ [(1, .cptr (grpA (n : Int) G)), (3, .ptr 3 0 [] 0 (.arr 6 (fun _ => .bool false))), (4, .own 905 0 (enN (repB n G) (i)) 62), (5, .int .i64 (i : Int)), (6, .ptr 6 0 [] 0 (.arr 6 (fun _ => .bool false))), (8, .own 909 0 (enN (owF n G i n) ((j + 1))) 2), (9, .int .i64 ((j + 1) : Int))] [(905, .one (ZR (enN (repB n G) (i))) (CO 1 (enN (repB n G) (i)) (ccW n G) 2)), (1, .many (famF (enN (repB n G) (i)) (ccW n G) (ccF n G))), (3, .one (.arr 6 (fun _ => .bool false)) (.arr 6 (fun z => .bool (metG n G i (j + 1) z)))), (6, .one (.arr 6 (fun _ => .bool false)) (.arr 6 (fun z => .bool (owF n G i (n) z)))), (909, .one (Z64 (enN (owF n G i n) ((j + 1)))) (C64 (enN (owF n G i n) ((j + 1))) (fun r => ((clF n G i r : Nat) : Int))))]
            rw [hsj]
            exact emb_famL (by decide) rfl rfl rfl rfl (fun j hj hne => rfl) (fun q => absurd q (by omega)) (fun q => absurd q (by omega)) (fun r hr hne => ⟨_, famF_at (w := (ccW n G)) (F := (ccF n G)) (by omega), fun V => mt_vec (fun _ _ => rfl)⟩) ⟨⟨_, rfl, ⟨rfl, fun _ => trivial⟩, fun V => mt_bools (fun z hz => metG_f hown z)⟩, ⟨_, rfl, ⟨rfl, fun _ => trivial⟩, fun V => mt_bools (fun z hz => rfl)⟩, ⟨_, rfl, ⟨rfl, fun _ => trivial⟩, fun V => mt_vec (fun _ _ => rfl)⟩, trivial⟩ ⟨m_cgrp, ⟨rfl, rfl, rfl, rfl, rfl⟩, (by first | exact ⟨rfl, rfl, rfl, rfl⟩ | exact ⟨rfl, by omega, rfl, rfl⟩), (mi), ⟨rfl, rfl, rfl, rfl, rfl⟩, (by first | exact ⟨rfl, rfl, rfl, rfl⟩ | exact ⟨rfl, by omega, rfl, rfl⟩), (mi), trivial⟩
        · try simp only [hcs] at hc41
          have ge_j : n = j := by omega
          subst ge_j
          have hel := enN_le (owF n G i n) n
          refine snd_exit ?_
          apply lr tokTB (by kernel_rfl)
          · intro RR hRR
            refine w_move (by constructor) ?_
            refine w_move (by constructor) ?_
            refine w_bsl1 und35 kn62 (by rw [sz62]; rfl) rfl (by constructor) (by first | exact trivial | exact cel_cap2) (by exact sz62.symm) (by first | exact trivial | exact ssh_vec | exact ⟨rfl, fun _ => trivial⟩) ?_
            refine w_app_o und35 rfl rfl kn62 rfl rfl (fun C h => ⟨rfl, rfl, rfl, h⟩) (by rw [by62]; omega) (by omega) rfl ?_
            refine w_assign (by constructor) ?_
            exact hRR
          apply lr tokTB (by kernel_rfl)
          · intro RR hRR
            refine w_move (by constructor) ?_
            refine y_add rfl rfl ?_
            refine w_assign (by constructor) ?_
            exact hRR
          refine ⟨i + 1, (ρL [(905, 56), (3, 3)] 1 (enN (repB n G) i) 909), ?_, (by omega), (by dsimp only; omega)⟩
          show Emb _ _ _ [(1, .cptr (grpA (n : Int) G)), (3, .ptr 3 0 [] 0 (.arr 6 (fun _ => .bool false))), (4, .own 905 0 (enN (repB n G) ((i + 1))) 62), (5, .int .i64 ((i + 1) : Int))] [(905, .one (ZR (enN (repB n G) ((i + 1)))) (CO 1 (enN (repB n G) ((i + 1))) (ccW n G) 2)), (1, .many (famF (enN (repB n G) ((i + 1))) (ccW n G) (ccF n G))), (3, .one (.arr 6 (fun _ => .bool false)) (.arr 6 (fun z => .bool (metF n G (i + 1) z))))]
          rw [hs]
          exact emb_famL (by decide) rfl rfl rfl rfl (fun j hj hne => appF_lt (by omega)) (fun _ => (appF_ge (Nat.le_refl _) (by omega)).trans (by rw [Nat.sub_self]; show AV.own 909 0 (enN (owF n G i n) n) 2 = AV.own 909 0 (clN n G (rpF n G (enN (repB n G) i))) 2; rw [hri])) (fun _ => ⟨_, (by show _ = some (Z64 (clN n G (rpF n G (enN (repB n G) i))), _); rw [hri]; exact rfl), fun V => (by show Mt V (C64 (clN n G (rpF n G (enN (repB n G) i))) (fun z => ((clF n G (rpF n G (enN (repB n G) i)) z : Nat) : Int))) _; rw [hri]; exact mt_vec (fun _ _ => rfl))⟩) (fun r hr hne => ⟨_, famF_at (w := (ccW n G)) (F := (ccF n G)) (by omega), fun V => mt_vec (fun _ _ => rfl)⟩) ⟨⟨_, rfl, ⟨rfl, fun _ => trivial⟩, fun V => mt_bools (fun z hz => h.metG_n lt_i hmet)⟩, trivial⟩ ⟨m_cgrp, ⟨rfl, rfl, rfl, rfl, rfl⟩, (by first | exact ⟨rfl, rfl, rfl, rfl⟩ | exact ⟨rfl, by omega, rfl, rfl⟩), (mi), trivial⟩
  · try simp only [hcs] at hc15
    have ge_i : n = i := by omega
    subst ge_i
    refine snd_exit ?_
    apply sr tokTB (by kernel_rfl)
    · intro RR hRR
      refine w_move (by constructor) ?_
      refine w_assign (by constructor) ?_
      exact hRR
    refine snd_ret ?_
    show retQ TB _ _ _ _ _ _
    exact rt_fam (T := TB) (a := 905) rfl (by decide) rfl rfl (fun r hr => famF_at (c := ccN n G) (w := ccW n G) (F := ccF n G) hr)
end Go.Am

set_option linter.unusedVariables false
set_option linter.unusedSimpArgs false
set_option maxRecDepth 4000
namespace Go.Am
attribute [local irreducible] retQ retQp
open Go.Proofs
theorem zr38 : TB.zero 38 = grpA 0 (fun _ _ => 0) := by
  refine congrArg (AV.sct 2) (funext fun i => ?_)
  match i with
  | 0 => rfl
  | 1 => rfl
  | n + 2 => rfl
theorem c_toGroup {n : Int} {G : Nat → Nat → Nat} : ACalls Try.prog TB 12 [grpA n G] (grpA n G) [] := by
  refine acalls_of tokTB Try.func12 rfl rfl (Nat.le_of_ble_eq_true rfl) ?_
  apply sr tokTB (by kernel_rfl)
  · intro RR hRR
    refine w_boxc (HV.eq (by constructor)) (by exact trivial) ?_
    refine w_alloc kn38 rfl zr38 ?_
    exact hRR
  apply sr tokTB (by kernel_rfl)
  · intro RR hRR
    refine w_alloc kn38 rfl zr38 ?_
    exact hRR
  apply sr tokTB (by kernel_rfl)
  · intro RR hRR
    refine w_fac rfl und34 rfl kn2 nz2 (by decide) rfl (by constructor) ?_
    refine w_ldc rfl kn2 (by constructor) (by exact sz2.symm) (by exact ag2.symm) ?_
    refine w_fap rfl und38 rfl kn2 nz2 rfl (by decide) rfl ?_
    first | refine w_stw rfl (by constructor) kn2 rfl (by exact trivial) (sx) (by exact sz2.symm) ?_ | refine w_sti rfl rfl kn2 rfl (by exact trivial) (by exact sz2.symm) ?_ | refine w_store rfl (HV.eq (by constructor)) kn2 rfl (by exact trivial) (sx) (by exact sz2.symm) (put_in (by first | exact put_mat | exact put_tab | exact put_alg0 | exact put_pr0 | exact put_pr1 | exact put_pr2 | exact put_tn4 | exact put_grp0 | exact put_grp1 | exact put_alg1 | exact put_alg2 | exact put_alg3 | exact put_alg3i | exact put_alg2ij | exact put_alg2ijk | exact put_mat2 | exact put_tab2 | exact put_tab3)) ?_ | refine w_store rfl (HV.eq (by constructor)) kn2 rfl (by exact trivial) (by exact trivial) (by exact sz2.symm) rfl ?_
    exact hRR
  apply sr tokTB (by kernel_rfl)
  · intro RR hRR
    refine w_fac rfl und34 rfl kn23 nz23 (by decide) rfl (by constructor) ?_
    refine w_ldc rfl kn23 (by constructor) (by exact sz23.symm) (by exact ag23.symm) ?_
    refine y_call rfl (ec exn) (c_toByteA6A6 (M := tb2 G)) ?_
    refine w_fap rfl und38 rfl kn23 nz23 rfl (by decide) rfl ?_
    first | refine w_stw rfl (by constructor) kn23 rfl (by exact trivial) (sx) (by exact sz23.symm) ?_ | refine w_sti rfl rfl kn23 rfl (by exact trivial) (by exact sz23.symm) ?_ | refine w_store rfl (HV.eq (by constructor)) kn23 rfl (by exact trivial) (sx) (by exact sz23.symm) (put_in (by first | exact put_mat | exact put_tab | exact put_alg0 | exact put_pr0 | exact put_pr1 | exact put_pr2 | exact put_tn4 | exact put_grp0 | exact put_grp1 | exact put_alg1 | exact put_alg2 | exact put_alg3 | exact put_alg3i | exact put_alg2ij | exact put_alg2ijk | exact put_mat2 | exact put_tab2 | exact put_tab3)) ?_ | refine w_store rfl (HV.eq (by constructor)) kn23 rfl (by exact trivial) (by exact trivial) (by exact sz23.symm) rfl ?_
    exact hRR
  apply sr tokTB (by kernel_rfl)
  · intro RR hRR
    refine w_ldp rfl kn38 rfl (by constructor) (by exact sz38.symm) (by exact ag38.symm) ?_
    refine w_stw rfl (by constructor) kn38 rfl (by exact trivial) (sx) (by exact sz38.symm) ?_
    exact hRR
  refine snd_ret ?_
  exact rt_c (T := TB) rfl kn38 rfl sz38.symm ag38.symm (fun V => m_grp)
theorem c_eqInt64SSW {N : Nat} {W : Nat → Nat} {R S : Nat → Nat → Int} (hN : N ≤ 100) (hW : ∀ i, W i ≤ 100) (h : ∀ i, i < N → ∀ j, j < W i → R i j = S i j) : ACalls Try.prog TB 14 [rowsW N W R, rowsW N W S] (.bool true) [] := by
  refine acalls_of tokTB Try.func14 rfl rfl (Nat.le_of_ble_eq_true rfl) ?_
  apply sr tokTB (by kernel_rfl)
  · intro RR hRR
    refine w_assign (by constructor) ?_
    exact hRR
  refine snd_seq ?_
  apply sr tokTB (by kernel_rfl)
  · intro RR hRR
    refine w_move (by constructor) ?_
    first | refine w_len_r rfl rfl und35 ?_ | refine w_len_o rfl rfl und35 ?_ | refine w_len_n rfl rfl und35 ?_
    refine w_move (by constructor) ?_
    first | refine w_len_r rfl rfl und35 ?_ | refine w_len_o rfl rfl und35 ?_ | refine w_len_n rfl rfl und35 ?_
    refine w_neq rfl rfl ?_
    exact hRR
  refine snd_cond_false (by exact congrArg AV.bool (decide_eq_false (by simp))) ?_
  refine snd_skip ?_
  refine snd_seq ?_
  apply sr tokTB (by kernel_rfl)
  · intro RR hRR
    refine w_assign (by constructor) ?_
    exact hRR
  refine snd_block ?_
  refine snd_loop (S := Nat) (fun i => ([(0, rowsW N W R), (1, rowsW N W S), (5, .int .i64 (i : Int))], [])) (fun i => i ≤ N) (fun i => N - i) (0) ρ0 ?_ ?_ ?_
  · exact ⟨⟨(mt_rowsW (V := _) (fun _ _ _ _ => rfl)), (mt_rowsW (V := _) (fun _ _ _ _ => rfl)), (mi), trivial⟩, trivial, trivial⟩
  · exact Nat.zero_le _
  intro i hi0
  refine sq (env2 := [(0, rowsW N W R), (1, rowsW N W S), (5, .int .i64 (i : Int))]) (ol2 := []) rfl rfl ?_
  have hWi := hW i
  refine snd_seq ?_
  apply sr tokTB (by kernel_rfl)
  · intro RR hRR
    refine w_move (by constructor) ?_
    refine w_move (by constructor) ?_
    first | refine w_len_r rfl rfl und35 ?_ | refine w_len_o rfl rfl und35 ?_ | refine w_len_n rfl rfl und35 ?_
    refine w_lss rfl rfl ?_
    exact hRR
  refine snd_cond _ rfl (fun hc14 => ?_) (fun hc14 => ?_)
  · try simp only [hcs] at hc14
    have lt_i : i < N := by omega
    refine snd_skip ?_
    refine snd_seq ?_
    refine snd_block ?_
    apply sd tokTB mixed (by kernel_rfl) (by kernel_rfl)
    · intro RR hRR
      refine w_move (by constructor) ?_
      refine w_move (by constructor) ?_
      refine w_iar rfl rfl und35 kn62 (by exact sz62.symm) ?_ rfl ?_
      · exact ⟨by omega, by omega⟩
      first | refine w_ldc rfl kn62 (by constructor) (by exact sz62.symm) (by exact ag62.symm) ?_ | refine w_ldp rfl kn62 rfl (by constructor) (by exact sz62.symm) (by exact ag62.symm) ?_
      refine w_move (by constructor) ?_
      refine w_move (by constructor) ?_
      refine w_iar rfl rfl und35 kn62 (by exact sz62.symm) ?_ rfl ?_
      · exact ⟨by omega, by omega⟩
      first | refine w_ldc rfl kn62 (by constructor) (by exact sz62.symm) (by exact ag62.symm) ?_ | refine w_ldp rfl kn62 rfl (by constructor) (by exact sz62.symm) (by exact ag62.symm) ?_
      refine y_call rfl (ec (ec exn)) (c_eqInt64S (m := W i) (f := R i) (g := S i) (by omega) (h i (by omega))) ?_
      refine w_not rfl ?_
      exact hRR
    refine snd_cond_false (by exact rfl) ?_
    refine snd_skip ?_
    apply lr tokTB (by kernel_rfl)
    · intro RR hRR
      refine w_move (by constructor) ?_
      refine y_add rfl rfl ?_
      refine w_assign (by constructor) ?_
      exact hRR
    refine ⟨i + 1, ρ0, ?_, (by omega), (by dsimp only; omega)⟩
    exact ⟨⟨(mt_rowsW (V := _) (fun _ _ _ _ => rfl)), (mt_rowsW (V := _) (fun _ _ _ _ => rfl)), (mi), trivial⟩, trivial, trivial⟩
  · try simp only [hcs] at hc14
    have ge_i : N = i := by omega
    subst ge_i
    refine snd_exit ?_
    apply sr tokTB (by kernel_rfl)
    · intro RR hRR
      refine w_assign (by constructor) ?_
      exact hRR
    refine snd_ret ?_
    exact rt (T := TB) (fun V => rfl)
theorem c_heldInt64SSW {N : Nat} {W : Nat → Nat} {R : Nat → Nat → Int} {k : Int} (hN : N ≤ 100) (hW : ∀ i, W i ≤ 100) (hk : 0 ≤ k ∧ k ≤ 100000) (h : ∀ i, i < N → ∀ j, j < W i → R i j = mkW W k i j) : ACalls Try.prog TB 16 [rowsW N W R, .int .i64 k] (.int .i64 (k + (sw W N : Nat))) [] := by
  refine acalls_of tokTB Try.func16 rfl rfl (Nat.le_of_ble_eq_true rfl) ?_
  apply sr tokTB (by kernel_rfl)
  · intro RR hRR
    refine w_assign (by constructor) ?_
    exact hRR
  refine snd_seq ?_
  apply sr tokTB (by kernel_rfl)
  · intro RR hRR
    refine w_assign (by constructor) ?_
    exact hRR
  refine snd_block ?_
  refine snd_loop (S := Nat) (fun i => ([(0, rowsW N W R), (1, .int .i64 (k + (sw W i : Nat))), (5, .int .i64 (i : Int))], [])) (fun i => i ≤ N) (fun i => N - i) (0) ρ0 ?_ ?_ ?_
  · exact ⟨⟨(mt_rowsW (V := _) (fun _ _ _ _ => rfl)), (by exact m_int (by show _ = k + ((0 : Nat) : Int); omega)), (mi), trivial⟩, trivial, trivial⟩
  · exact Nat.zero_le _
  intro i hi0
  refine sq (env2 := [(0, rowsW N W R), (1, .int .i64 (k + (sw W i : Nat))), (5, .int .i64 (i : Int))]) (ol2 := []) rfl rfl ?_
  have hle := sw_le hW i
  have hle2 : i * 100 ≤ 100 * 100 := Nat.mul_le_mul (by omega) (Nat.le_refl _)
  have hWi := hW i
  refine snd_seq ?_
  apply sr tokTB (by kernel_rfl)
  · intro RR hRR
    refine w_move (by constructor) ?_
    refine w_move (by constructor) ?_
    first | refine w_len_r rfl rfl und35 ?_ | refine w_len_o rfl rfl und35 ?_ | refine w_len_n rfl rfl und35 ?_
    refine w_lss rfl rfl ?_
    exact hRR
  refine snd_cond _ rfl (fun hc9 => ?_) (fun hc9 => ?_)
  · try simp only [hcs] at hc9
    have lt_i : i < N := by omega
    refine snd_skip ?_
    refine snd_seq ?_
    refine snd_block ?_
    apply sr tokTB (by kernel_rfl)
    · intro RR hRR
      refine w_move (by constructor) ?_
      refine w_move (by constructor) ?_
      refine w_iar rfl rfl und35 kn62 (by exact sz62.symm) ?_ rfl ?_
      · exact ⟨by omega, by omega⟩
      first | refine w_ldc rfl kn62 (by constructor) (by exact sz62.symm) (by exact ag62.symm) ?_ | refine w_ldp rfl kn62 rfl (by constructor) (by exact sz62.symm) (by exact ag62.symm) ?_
      refine w_move (by constructor) ?_
      refine y_call rfl (ec (ec exn)) (c_heldInt64S (m := W i) (f := R i) (k := k + (sw W i : Nat)) (by omega) (by omega) (h i (by omega))) ?_
      refine w_assign (by constructor) ?_
      exact hRR
    apply sr tokTB (by kernel_rfl)
    · intro RR hRR
      refine w_move (by constructor) ?_
      refine w_lss rfl rfl ?_
      exact hRR
    refine snd_cond_false (by exact congrArg AV.bool (decide_eq_false (by omega))) ?_
    refine snd_skip ?_
    apply lr tokTB (by kernel_rfl)
    · intro RR hRR
      refine w_move (by constructor) ?_
      refine y_add rfl rfl ?_
      refine w_assign (by constructor) ?_
      exact hRR
    refine ⟨i + 1, ρ0, ?_, (by omega), (by dsimp only; omega)⟩
    exact ⟨⟨(mt_rowsW (V := _) (fun _ _ _ _ => rfl)), (by exact m_int (by show _ = k + ((sw W i + W i : Nat) : Int); omega)), (mi), trivial⟩, trivial, trivial⟩
  · try simp only [hcs] at hc9
    have ge_i : N = i := by omega
    subst ge_i
    refine snd_exit ?_
    apply sr tokTB (by kernel_rfl)
    · intro RR hRR
      refine w_move (by constructor) ?_
      refine w_assign (by constructor) ?_
      exact hRR
    refine snd_ret ?_
    exact rt (T := TB) (fun V => rfl)
theorem c_markInt64SSW {N : Nat} {W : Nat → Nat} {F : Nat → Nat → Int} {k : Int} (hN : N ≤ 100) (hW : ∀ i, W i ≤ 100) (hk : 0 ≤ k ∧ k ≤ 100000) : MCalls Try.prog TB 15 [0, 1] [.own 0 0 N 62, .int .i64 k] [(0, .one (ZR N) (CO 1 N W 2)), (1, .many (famF N W F))] (.int .i64 (k + (sw W N : Nat))) [(0, .one (ZR N) (CO 1 N W 2)), (1, .many (famF N W (mkW W k)))] := by
  refine mcalls_of tokTB Try.func15 rfl rfl (Nat.le_of_ble_eq_true rfl) ⟨rfl, rfl, trivial⟩ ?_
  apply srp tokTB (by kernel_rfl)
  · intro RR hRR
    refine w_assign (by constructor) ?_
    exact hRR
  refine snp_seq ?_
  apply srp tokTB (by kernel_rfl)
  · intro RR hRR
    refine w_assign (by constructor) ?_
    exact hRR
  refine snp_block ?_
  refine snp_loop (S := Nat) (fun i => ([(0, .own 0 0 N 62), (1, .int .i64 (k + (sw W i : Nat))), (5, .int .i64 (i : Int))], [(0, .one (ZR N) (CO 1 N W 2)), (1, .many (famF N W (mixG (mkW W k) F i)))])) (fun i => i ≤ N) (fun i => N - i) (0) ρ0 ?_ ?_ ?_
  · exact ⟨emb_famR (ρ := ρ0) (fun _ => rfl) (fun _ => rfl) (by decide) (by decide) rfl (fun j hj => rfl) (fun r hr => ⟨_, famF_at (w := W) (F := F) hr, fun V => mt_vec (fun j _ => by rw [mixG_ge _ _ (Nat.zero_le _)])⟩) ⟨(by first | exact ⟨rfl, rfl, rfl, rfl⟩ | exact ⟨rfl, by omega, rfl, rfl⟩), (by exact m_int (by show _ = k + ((0 : Nat) : Int); omega)), (mi), trivial⟩, ⟨⟨fun _ => rfl, rfl⟩, ⟨fun _ => rfl, rfl⟩, trivial⟩⟩
  · exact Nat.zero_le _
  intro i hi0
  refine sqp (env2 := [(0, .own 0 0 N 62), (1, .int .i64 (k + (sw W i : Nat))), (5, .int .i64 (i : Int))]) (ol2 := [(0, .one (ZR N) (CO 1 N W 2)), (1, .many (famF N W (mixG (mkW W k) F i)))]) rfl rfl ?_
  have hle := sw_le hW i
  have hle2 : i * 100 ≤ 100 * 100 := Nat.mul_le_mul (by omega) (Nat.le_refl _)
  have hWi := hW i
  refine snp_seq ?_
  apply srp tokTB (by kernel_rfl)
  · intro RR hRR
    refine w_move (by constructor) ?_
    refine w_move (by constructor) ?_
    refine w_len_o rfl rfl und35 ?_
    refine w_lss rfl rfl ?_
    exact hRR
  refine snp_cond _ rfl (fun hc9 => ?_) (fun hc9 => ?_)
  · try simp only [hcs] at hc9
    have lt_i : i < N := by omega
    refine snp_skip ?_
    refine snp_seq ?_
    refine snp_block ?_
    apply lrDp tokTB (ops1 := [_, _, _, _, _]) (ops2 := [_]) (by kernel_rfl) rfl rfl
    · intro RR hRR
      refine w_move (by constructor) ?_
      refine w_move (by constructor) ?_
      refine w_iao rfl rfl und35 kn62 ?_ ?_
      · exact ⟨by omega, by omega⟩
      first | refine w_ldc rfl kn62 (by constructor) (by exact sz62.symm) (by exact ag62.symm) ?_ | refine w_ldp rfl kn62 rfl (by constructor) (by exact sz62.symm) (by exact ag62.symm) ?_
      refine w_move (by constructor) ?_
      exact hRR
    · exact mut_mid1 tokTB (c_markInt64S (m := W i) (f := F i) (k := k + (sw W i : Nat)) (by omega) (by omega)) (args := [.tmp 16]) (k := 1) (i := i) rfl rfl ⟨trivial, trivial⟩ trivial (fun _ => trivial) (fun _ => trivial) (by show famF N W (mixG (mkW W k) F i) i = _; rw [famF_at (by omega), mixG_self])
    · intro RR hRR
      refine w_assign (by constructor) ?_
      exact hRR
    apply lrp tokTB (by kernel_rfl)
    · intro RR hRR
      refine w_move (by constructor) ?_
      refine y_add rfl rfl ?_
      refine w_assign (by constructor) ?_
      exact hRR
    refine ⟨i + 1, ρ0, ?_, (by omega), (by dsimp only; omega)⟩
    exact ⟨emb_famR (ρ := ρ0) (fun _ => rfl) (fun _ => rfl) (by decide) (by decide) rfl (fun j hj => rfl) (fun r hr => fam_mset (f := fun j => k + (sw W i : Nat) + (j : Nat)) hr (fun j _ => rfl)) ⟨(by first | exact ⟨rfl, rfl, rfl, rfl⟩ | exact ⟨rfl, by omega, rfl, rfl⟩), (by exact m_int (by show _ = k + ((sw W i + W i : Nat) : Int); omega)), (mi), trivial⟩, ⟨⟨fun _ => rfl, rfl⟩, ⟨fun _ => rfl, rfl⟩, trivial⟩⟩
  · try simp only [hcs] at hc9
    have ge_i : N = i := by omega
    subst ge_i
    refine snp_exit ?_
    apply srp tokTB (by kernel_rfl)
    · intro RR hRR
      refine w_move (by constructor) ?_
      refine w_assign (by constructor) ?_
      exact hRR
    refine snp_ret ?_
    exact rtp (ρ := ρ0) (emb_famR (ρ := ρ0) (fun _ => rfl) (fun _ => rfl) (by decide) (by decide) rfl (fun j hj => rfl) (fun r hr => ⟨_, famF_at (w := W) (F := mixG (mkW W k) F N) hr, fun V => mt_vec (fun j _ => by rw [mixG_lt _ _ hr])⟩) ⟨m_int rfl, trivial⟩) ⟨⟨fun _ => rfl, rfl⟩, ⟨fun _ => rfl, rfl⟩, trivial⟩
theorem c_sClassesOf_ok {n : Nat} {G : Nat → Nat → Nat} (hG : RG G) (h : GN n G) : ACalls Try.prog TB 11 [grpA (n : Int) G] (.tup 2 (pairA (.own 0 0 (ccN n G) 62) (.int .i64 0))) [(0, .one (ZR (ccN n G)) (CO 1 (ccN n G) (ccW n G) 2)), (1, .many (famF (ccN n G) (ccW n G) (ccF n G)))] := by
  have hcl := closed_cgrp (n := (n : Int)) (G := G)
  have hcl2 := closed_grp (n := (n : Int)) (G := G)
  refine acalls_of tokTB Try.func11 rfl rfl (Nat.le_of_ble_eq_true rfl) ?_
  apply sr tokTB (by kernel_rfl)
  · intro RR hRR
    refine w_boxc (HV.eq (by constructor)) (by exact trivial) ?_
    refine w_assign (by constructor) ?_
    refine w_assign (by constructor) ?_
    exact hRR
  refine snd_seq ?_
  apply sr tokTB (by kernel_rfl)
  · intro RR hRR
    refine w_ldc rfl kn38 (by constructor) (by exact sz38.symm) (by exact ag38.symm) ?_
    refine y_call rfl (exc exp_grp exn) (c_l06Is hG) ?_
    refine w_not rfl ?_
    exact hRR
  refine snd_cond_false (by exact not_t h.gz) ?_
  refine snd_skip ?_
  apply sr tokTB (by kernel_rfl)
  · intro RR hRR
    refine w_ldc rfl kn38 (by constructor) (by exact sz38.symm) (by exact ag38.symm) ?_
    refine w_call rfl (exc exp_grp exn) (c_l06Classes hG h) (.inl ⟨trivial, ⟨fun _ => trivial, fun i sh c h => (by obtain ⟨_, _, rfl⟩ := famF_some h; exact fun _ => trivial), trivial⟩⟩) rfl (by constructor) rfl ?_
    refine w_assign (by constructor) ?_
    refine w_assign (by constructor) ?_
    exact hRR
  refine snd_ret ?_
  show retQ TB _ _ _ _ _ _
  exact rt_fam_u (T := TB) (a := 9000) (b := 9001) rfl (fun V => rfl) (by decide) rfl (fun j hj => rfl) (fun r hr => fam_sh (e := 2) (b := 9000) (ol := []) hr)
theorem c_sClassesOf_no {n : Int} {G : Nat → Nat → Nat} (hG : RG G) (h : ¬ GZ n G) : ACalls Try.prog TB 11 [grpA n G] (.tup 2 (pairA .nilsl (.int .i64 1))) [] := by
  have hcl2 := closed_grp (n := n) (G := G)
  refine acalls_of tokTB Try.func11 rfl rfl (Nat.le_of_ble_eq_true rfl) ?_
  apply sr tokTB (by kernel_rfl)
  · intro RR hRR
    refine w_boxc (HV.eq (by constructor)) (by exact trivial) ?_
    refine w_assign (by constructor) ?_
    refine w_assign (by constructor) ?_
    exact hRR
  refine snd_seq ?_
  apply sr tokTB (by kernel_rfl)
  · intro RR hRR
    refine w_ldc rfl kn38 (by constructor) (by exact sz38.symm) (by exact ag38.symm) ?_
    refine y_call rfl (exc exp_grp exn) (c_l06Is hG) ?_
    refine w_not rfl ?_
    exact hRR
  refine snd_cond_true (by exact not_f h) ?_
  apply sr tokTB (by kernel_rfl)
  · intro RR hRR
    refine w_assign (by constructor) ?_
    refine w_assign (by constructor) ?_
    exact hRR
  refine snd_ret ?_
  exact rt_tt (T := TB) (fun V => rfl) (fun V => rfl)
theorem c_iClassesOf_ok {n : Nat} {G : Nat → Nat → Nat} (hG : RG G) (h : GN n G) : ACalls Try.prog TB 13 [grpA (n : Int) G] (.tup 2 (pairA (.own 0 0 (ccN n G) 62) (.int .i64 0))) [(0, .one (ZR (ccN n G)) (CO 1 (ccN n G) (ccW n G) 2)), (1, .many (famF (ccN n G) (ccW n G) (ccF n G)))] := by
  have hcl := closed_cgrp (n := (n : Int)) (G := G)
  have hcl2 := closed_grp (n := (n : Int)) (G := G)
  refine acalls_of tokTB Try.func13 rfl rfl (Nat.le_of_ble_eq_true rfl) ?_
  apply sr tokTB (by kernel_rfl)
  · intro RR hRR
    refine w_boxc (HV.eq (by constructor)) (by exact trivial) ?_
    refine w_assign (by constructor) ?_
    refine w_assign (by constructor) ?_
    exact hRR
  refine snd_seq ?_
  apply sr tokTB (by kernel_rfl)
  · intro RR hRR
    refine w_ldc rfl kn38 (by constructor) (by exact sz38.symm) (by exact ag38.symm) ?_
    refine y_call rfl (exc exp_grp exn) (c_IsGroup hG) ?_
    refine w_not rfl ?_
    exact hRR
  refine snd_cond_false (by exact not_t h.gz) ?_
  refine snd_skip ?_
  apply sr tokTB (by kernel_rfl)
  · intro RR hRR
    refine w_call rfl (exc exp_cgrp exn) (c_classes hG h) (.inl ⟨trivial, ⟨fun _ => trivial, fun i sh c h => (by obtain ⟨_, _, rfl⟩ := famF_some h; exact fun _ => trivial), trivial⟩⟩) rfl (by constructor) rfl ?_
    refine w_assign (by constructor) ?_
    refine w_assign (by constructor) ?_
    exact hRR
  refine snd_ret ?_
  show retQ TB _ _ _ _ _ _
  exact rt_fam_u (T := TB) (a := 8000) (b := 8001) rfl (fun V => rfl) (by decide) rfl (fun j hj => rfl) (fun r hr => fam_sh (e := 2) (b := 8000) (ol := []) hr)
theorem c_iClassesOf_no {n : Int} {G : Nat → Nat → Nat} (hG : RG G) (h : ¬ GZ n G) : ACalls Try.prog TB 13 [grpA n G] (.tup 2 (pairA .nilsl (.int .i64 1))) [] := by
  have hcl2 := closed_grp (n := n) (G := G)
  refine acalls_of tokTB Try.func13 rfl rfl (Nat.le_of_ble_eq_true rfl) ?_
  apply sr tokTB (by kernel_rfl)
  · intro RR hRR
    refine w_boxc (HV.eq (by constructor)) (by exact trivial) ?_
    refine w_assign (by constructor) ?_
    refine w_assign (by constructor) ?_
    exact hRR
  refine snd_seq ?_
  apply sr tokTB (by kernel_rfl)
  · intro RR hRR
    refine w_ldc rfl kn38 (by constructor) (by exact sz38.symm) (by exact ag38.symm) ?_
    refine y_call rfl (exc exp_grp exn) (c_IsGroup hG) ?_
    refine w_not rfl ?_
    exact hRR
  refine snd_cond_true (by exact not_f h) ?_
  apply sr tokTB (by kernel_rfl)
  · intro RR hRR
    refine w_assign (by constructor) ?_
    refine w_assign (by constructor) ?_
    exact hRR
  refine snd_ret ?_
  exact rt_tt (T := TB) (fun V => rfl) (fun V => rfl)
theorem lClassesOf_ok {n : Nat} {G : Nat → Nat → Nat} (hG : RG G) (h : GN n G) : ACalls Try.prog TB 4 [grpA (n : Int) G] (.bool true) [] := by
  refine acalls_of tokTB Try.func4 rfl rfl (Nat.le_of_ble_eq_true rfl) ?_
  apply sr tokTB (by kernel_rfl)
  · intro RR hRR
    refine w_boxc (HV.eq (by constructor)) (by exact trivial) ?_
    refine w_assign (by constructor) ?_
    exact hRR
  apply sr tokTB (by kernel_rfl)
  · intro RR hRR
    refine w_ldc rfl kn34 (by constructor) (by exact sz34.symm) (by exact ag34.symm) ?_
    refine w_call0 rfl (exc exp_grp exn) (c_toGroup) nr_grp (fun _ => shift_grp) ?_
    refine w_call rfl (exc exp_grp exn) (c_sClassesOf_ok hG h) (.inl ⟨nr_pair trivial trivial, ⟨fun _ => trivial, fun i sh c h => (by obtain ⟨_, _, rfl⟩ := famF_some h; exact fun _ => trivial), trivial⟩⟩) rfl (by constructor) rfl ?_
    refine w_move (by constructor) ?_
    refine w_ext rfl (by decide) (by constructor) ?_
    refine w_ext rfl (by decide) (by constructor) ?_
    refine w_assign (by constructor) ?_
    refine w_assign (by constructor) ?_
    exact hRR
  apply sr tokTB (by kernel_rfl)
  · intro RR hRR
    refine w_ldc rfl kn34 (by constructor) (by exact sz34.symm) (by exact ag34.symm) ?_
    refine w_call0 rfl (exc exp_grp exn) (c_toGroup) nr_grp (fun _ => shift_grp) ?_
    refine w_call rfl (exc exp_grp exn) (c_iClassesOf_ok hG h) (.inl ⟨nr_pair trivial trivial, ⟨fun _ => trivial, fun i sh c h => (by obtain ⟨_, _, rfl⟩ := famF_some h; exact fun _ => trivial), trivial⟩⟩) rfl (by constructor) rfl ?_
    refine w_move (by constructor) ?_
    refine w_ext rfl (by decide) (by constructor) ?_
    refine w_ext rfl (by decide) (by constructor) ?_
    refine w_assign (by constructor) ?_
    refine w_assign (by constructor) ?_
    exact hRR
  refine snd_seq ?_
  apply srG (env' := (31, .bool (!true || decide ((0 : Int) ≠ 0))) :: (30, .any) :: (29, .any) :: (28, .any) :: (27, _) :: (26, _) :: (25, _) :: (24, _) :: (23, _) :: _) tokTB (by kernel_rfl)
  · intro RR hRR
    refine w_move (by constructor) ?_
    refine w_move (by constructor) ?_
    refine y_call rfl rfl ((c_eqInt64SSW (N := (ccN n G)) (W := (ccW n G)) (R := (ccF n G)) (S := (ccF n G)) (by have := h.cle; omega) h.wle2 (fun i _ => fun j _ => rfl)).mt ⟨mt_famW0 (w := (ccW n G)) (F := (ccF n G)) rfl (fun r hr => fam_sh (e := 2) (b := 21000) (ol := []) hr) (fun _ _ _ _ => rfl), mt_famW0 (w := (ccW n G)) (F := (ccF n G)) rfl (fun r hr => fam_sh (e := 2) (b := 15000) (ol := []) hr) (fun _ _ _ _ => rfl), trivial⟩) ?_
    refine w_not rfl ?_
    refine w_move (by constructor) ?_
    refine w_g rfl rfl (fun hg4 => ?_) (fun hg4 => ?_)
    · skip
      refine w_move (by constructor) ?_
      refine w_g_on rfl rfl hg4 ?_
      refine w_move (by constructor) ?_
      refine w_g_on rfl rfl hg4 ?_
      refine w_neq rfl rfl ?_
      refine w_pick_0 rfl hg4 (by constructor) ?_
      try simp only [Int.toNat_natCast] at hg4
      exact hRR _ (EL.cons (.inr (by first | rfl | (simp only [hg4, els]; done) | (simp only [hg4, els]; rfl) | (simp [hg4]; done) | (clear hRR; simp_all; done))) (EL.cons (.inl rfl) (EL.cons (.inl rfl) (EL.cons (.inl rfl) (EL.cons (.inr rfl) (EL.cons (.inr rfl) (EL.cons (.inr rfl) (EL.cons (.inr rfl) (EL.cons (.inr rfl) (EL.refl _))))))))))
    · have hg4 := eq_true_of_ne_false hg4
      refine w_g_off rfl rfl (by rw [hg4]; decide) ?_
      refine w_g_off rfl rfl (by rw [hg4]; decide) ?_
      refine w_pick_1 rfl hg4 (by constructor) ?_
      try simp only [Int.toNat_natCast] at hg4
      exact hRR _ (EL.cons (.inr (by first | rfl | (simp only [hg4, els]; done) | (simp only [hg4, els]; rfl) | (simp [hg4]; done) | (clear hRR; simp_all; done))) (EL.cons (.inl rfl) (EL.cons (.inl rfl) (EL.cons (.inl rfl) (EL.cons (.inr rfl) (EL.cons (.inr rfl) (EL.cons (.inr rfl) (EL.cons (.inr rfl) (EL.cons (.inr rfl) (EL.refl _))))))))))
  refine snd_cond _ rfl (fun hc31 => ?_) (fun hc31 => ?_)
  · skip
    exact absurd hc31 (by simp)
  · skip
    refine snd_skip ?_
    apply sr tokTB (by kernel_rfl)
    · intro RR hRR
      refine w_assign (by constructor) ?_
      exact hRR
    refine snd_emb (ρ := (ρ2 21000 21001)) (env2 := [(1, .cptr (grpA (n : Int) G)), (3, rowsW (ccN n G) (ccW n G) ((ccF n G))), (4, .int .i64 0), (5, .own 0 0 (ccN n G) 62), (7, .int .i64 1)]) (ol2 := [(0, .one (ZR (ccN n G)) (CO 1 (ccN n G) (ccW n G) 2)), (1, .many (famF (ccN n G) (ccW n G) ((ccF n G))))]) ?_ ?_
    · exact emb_famR (fun _ => rfl) (fun _ => rfl) (by decide) (by decide) rfl (fun j hj => rfl) (fun r hr => ⟨_, fam_sh (e := 2) (b := 21000) (ol := []) hr, fun V => mt_vec (fun _ _ => rfl)⟩) ⟨m_cgrp, mt_famW_fz (w := (ccW n G)) (F := (ccF n G)) ⟨ne_fst rfl, fun _ _ _ _ => ne_fst rfl, trivial⟩ (fun _ => ⟨ne_fst rfl, fun _ _ _ _ => ne_fst rfl, trivial⟩) rfl (fun r hr => fam_sh (e := 2) (b := 15000) (ol := []) hr), m_int rfl, ⟨rfl, rfl, rfl, rfl⟩, m_int rfl, trivial⟩
    apply srD tokTB (ops1 := [_, _]) (ops2 := [_]) (by kernel_rfl) rfl rfl
    · intro RR hRR
      refine w_move (by constructor) ?_
      refine w_move (by constructor) ?_
      exact hRR
    · exact mut_fam tokTB (c_markInt64SSW (N := (ccN n G)) (W := (ccW n G)) (F := (ccF n G)) (k := 1) (by have := h.cle; omega) h.wle2 (by omega)) (ol := []) rfl ⟨trivial, trivial⟩ trivial
    · intro RR hRR
      refine w_assign (by constructor) ?_
      exact hRR
    apply sr tokTB (by kernel_rfl)
    · intro RR hRR
      refine w_assign (by constructor) ?_
      exact hRR
    apply sr tokTB (by kernel_rfl)
    · intro RR hRR
      refine w_move (by constructor) ?_
      refine w_move (by constructor) ?_
      refine y_call rfl rfl ((c_heldInt64SSW (N := (ccN n G)) (W := (ccW n G)) (R := mkW (ccW n G) 1) (k := 1) (by have := h.cle; omega) h.wle2 (by omega) (fun i _ j _ => rfl)).mt ⟨mt_famW0 (w := (ccW n G)) (F := mkW (ccW n G) 1) rfl (fun r hr => famF_at (w := (ccW n G)) (F := mkW (ccW n G) 1) hr) (fun _ _ _ _ => rfl), mt_int0, trivial⟩) ?_
      refine w_assign (by constructor) ?_
      exact hRR
    refine snd_seq ?_
    apply sr tokTB (by kernel_rfl)
    · intro RR hRR
      refine w_move (by constructor) ?_
      refine w_lss rfl rfl ?_
      exact hRR
    refine snd_cond_false (by exact congrArg AV.bool (decide_eq_false (by omega))) ?_
    refine snd_skip ?_
    refine snd_seq ?_
    apply sr tokTB (by kernel_rfl)
    · intro RR hRR
      refine w_move (by constructor) ?_
      refine w_move (by constructor) ?_
      refine w_neq rfl rfl ?_
      exact hRR
    refine snd_cond_false (by exact congrArg AV.bool (decide_eq_false (by simp))) ?_
    refine snd_skip ?_
    apply sr tokTB (by kernel_rfl)
    · intro RR hRR
      refine w_ldc rfl kn34 (by constructor) (by exact sz34.symm) (by exact ag34.symm) ?_
      refine w_call0 rfl (exc exp_grp exn) (c_toGroup) nr_grp (fun _ => shift_grp) ?_
      refine w_call rfl (exc exp_grp exn) (c_iClassesOf_ok hG h) (.inl ⟨nr_pair trivial trivial, ⟨fun _ => trivial, fun i sh c h => (by obtain ⟨_, _, rfl⟩ := famF_some h; exact fun _ => trivial), trivial⟩⟩) rfl (by constructor) rfl ?_
      refine w_move (by constructor) ?_
      refine w_ext rfl (by decide) (by constructor) ?_
      refine w_ext rfl (by decide) (by constructor) ?_
      refine w_assign (by constructor) ?_
      refine w_assign (by constructor) ?_
      exact hRR
    refine snd_seq ?_
    apply srG (env' := (57, .bool (!true || decide ((0 : Int) ≠ 0))) :: (56, .any) :: (55, .any) :: (54, .any) :: (53, _) :: (52, _) :: (51, _) :: (50, _) :: (49, _) :: _) tokTB (by kernel_rfl)
    · intro RR hRR
      refine w_move (by constructor) ?_
      refine w_move (by constructor) ?_
      refine y_call rfl rfl ((c_eqInt64SSW (N := (ccN n G)) (W := (ccW n G)) (R := (ccF n G)) (S := (ccF n G)) (by have := h.cle; omega) h.wle2 (fun i _ => fun j _ => rfl)).mt ⟨mt_famW0 (w := (ccW n G)) (F := (ccF n G)) rfl (fun r hr => fam_sh (e := 2) (b := 47000) (ol := []) hr) (fun _ _ _ _ => rfl), mt_expc closed_rowsW (by simp), trivial⟩) ?_
      refine w_not rfl ?_
      refine w_move (by constructor) ?_
      refine w_g rfl rfl (fun hg4 => ?_) (fun hg4 => ?_)
      · skip
        refine w_move (by constructor) ?_
        refine w_g_on rfl rfl hg4 ?_
        refine w_move (by constructor) ?_
        refine w_g_on rfl rfl hg4 ?_
        refine w_neq rfl rfl ?_
        refine w_pick_0 rfl hg4 (by constructor) ?_
        try simp only [Int.toNat_natCast] at hg4
        exact hRR _ (EL.cons (.inr (by first | rfl | (simp only [hg4, els]; done) | (simp only [hg4, els]; rfl) | (simp [hg4]; done) | (clear hRR; simp_all; done))) (EL.cons (.inl rfl) (EL.cons (.inl rfl) (EL.cons (.inl rfl) (EL.cons (.inr rfl) (EL.cons (.inr rfl) (EL.cons (.inr rfl) (EL.cons (.inr rfl) (EL.cons (.inr rfl) (EL.refl _))))))))))
      · have hg4 := eq_true_of_ne_false hg4
        refine w_g_off rfl rfl (by rw [hg4]; decide) ?_
        refine w_g_off rfl rfl (by rw [hg4]; decide) ?_
        refine w_pick_1 rfl hg4 (by constructor) ?_
        try simp only [Int.toNat_natCast] at hg4
        exact hRR _ (EL.cons (.inr (by first | rfl | (simp only [hg4, els]; done) | (simp only [hg4, els]; rfl) | (simp [hg4]; done) | (clear hRR; simp_all; done))) (EL.cons (.inl rfl) (EL.cons (.inl rfl) (EL.cons (.inl rfl) (EL.cons (.inr rfl) (EL.cons (.inr rfl) (EL.cons (.inr rfl) (EL.cons (.inr rfl) (EL.cons (.inr rfl) (EL.refl _))))))))))
    refine snd_cond _ rfl (fun hc57 => ?_) (fun hc57 => ?_)
    · skip
      exact absurd hc57 (by simp)
    · skip
      refine snd_skip ?_
      apply sr tokTB (by kernel_rfl)
      · intro RR hRR
        refine w_assign (by constructor) ?_
        exact hRR
      apply sr tokTB (by kernel_rfl)
      · intro RR hRR
        refine w_move (by constructor) ?_
        refine w_move (by constructor) ?_
        refine y_call rfl rfl ((c_heldInt64SSW (N := (ccN n G)) (W := (ccW n G)) (R := mkW (ccW n G) 1) (k := 1) (by have := h.cle; omega) h.wle2 (by omega) (fun i _ j _ => rfl)).mt ⟨mt_famW0 (w := (ccW n G)) (F := mkW (ccW n G) 1) rfl (fun r hr => famF_at (w := (ccW n G)) (F := mkW (ccW n G) 1) hr) (fun _ _ _ _ => rfl), mt_int0, trivial⟩) ?_
        refine w_assign (by constructor) ?_
        exact hRR
      refine snd_seq ?_
      apply sr tokTB (by kernel_rfl)
      · intro RR hRR
        refine w_move (by constructor) ?_
        refine w_lss rfl rfl ?_
        exact hRR
      refine snd_cond_false (by exact congrArg AV.bool (decide_eq_false (by omega))) ?_
      refine snd_skip ?_
      refine snd_seq ?_
      apply sr tokTB (by kernel_rfl)
      · intro RR hRR
        refine w_move (by constructor) ?_
        refine w_move (by constructor) ?_
        refine w_neq rfl rfl ?_
        exact hRR
      refine snd_cond_false (by exact congrArg AV.bool (decide_eq_false (by simp))) ?_
      refine snd_skip ?_
      apply sr tokTB (by kernel_rfl)
      · intro RR hRR
        refine w_assign (by constructor) ?_
        exact hRR
      refine snd_ret ?_
      exact rt (T := TB) (fun V => rfl)
theorem lClassesOf_no {n : Int} {G : Nat → Nat → Nat} (hG : RG G) (h : ¬ GZ n G) : ACalls Try.prog TB 4 [grpA n G] (.bool true) [] := by
  refine acalls_of tokTB Try.func4 rfl rfl (Nat.le_of_ble_eq_true rfl) ?_
  apply sr tokTB (by kernel_rfl)
  · intro RR hRR
    refine w_boxc (HV.eq (by constructor)) (by exact trivial) ?_
    refine w_assign (by constructor) ?_
    exact hRR
  apply sr tokTB (by kernel_rfl)
  · intro RR hRR
    refine w_ldc rfl kn34 (by constructor) (by exact sz34.symm) (by exact ag34.symm) ?_
    refine w_call0 rfl (exc exp_grp exn) (c_toGroup) nr_grp (fun _ => shift_grp) ?_
    refine y_call rfl (exc exp_grp exn) (c_sClassesOf_no hG h) ?_
    refine w_move (by constructor) ?_
    refine w_ext rfl (by decide) (by constructor) ?_
    refine w_ext rfl (by decide) (by constructor) ?_
    refine w_assign (by constructor) ?_
    refine w_assign (by constructor) ?_
    exact hRR
  apply sr tokTB (by kernel_rfl)
  · intro RR hRR
    refine w_ldc rfl kn34 (by constructor) (by exact sz34.symm) (by exact ag34.symm) ?_
    refine w_call0 rfl (exc exp_grp exn) (c_toGroup) nr_grp (fun _ => shift_grp) ?_
    refine y_call rfl (exc exp_grp exn) (c_iClassesOf_no hG h) ?_
    refine w_move (by constructor) ?_
    refine w_ext rfl (by decide) (by constructor) ?_
    refine w_ext rfl (by decide) (by constructor) ?_
    refine w_assign (by constructor) ?_
    refine w_assign (by constructor) ?_
    exact hRR
  refine snd_seq ?_
  apply srG (env' := (31, .bool (!true || decide ((1 : Int) ≠ 1))) :: (30, .any) :: (29, .any) :: (28, .any) :: (27, _) :: (26, _) :: (25, _) :: (24, _) :: (23, _) :: _) tokTB (by kernel_rfl)
  · intro RR hRR
    refine w_move (by constructor) ?_
    refine w_move (by constructor) ?_
    refine y_call rfl rfl ((c_eqInt64SS (N := 0) (m := 0) (R := (fun _ _ => 0)) (S := (fun _ _ => 0)) (by omega) (by omega) (fun i h => absurd h (by omega))).mt ⟨mt_nil0, mt_nil0, trivial⟩) ?_
    refine w_not rfl ?_
    refine w_move (by constructor) ?_
    refine w_g rfl rfl (fun hg4 => ?_) (fun hg4 => ?_)
    · skip
      refine w_move (by constructor) ?_
      refine w_g_on rfl rfl hg4 ?_
      refine w_move (by constructor) ?_
      refine w_g_on rfl rfl hg4 ?_
      refine w_neq rfl rfl ?_
      refine w_pick_0 rfl hg4 (by constructor) ?_
      try simp only [Int.toNat_natCast] at hg4
      exact hRR _ (EL.cons (.inr (by first | rfl | (simp only [hg4, els]; done) | (simp only [hg4, els]; rfl) | (simp [hg4]; done) | (clear hRR; simp_all; done))) (EL.cons (.inl rfl) (EL.cons (.inl rfl) (EL.cons (.inl rfl) (EL.cons (.inr rfl) (EL.cons (.inr rfl) (EL.cons (.inr rfl) (EL.cons (.inr rfl) (EL.cons (.inr rfl) (EL.refl _))))))))))
    · have hg4 := eq_true_of_ne_false hg4
      refine w_g_off rfl rfl (by rw [hg4]; decide) ?_
      refine w_g_off rfl rfl (by rw [hg4]; decide) ?_
      refine w_pick_1 rfl hg4 (by constructor) ?_
      try simp only [Int.toNat_natCast] at hg4
      exact hRR _ (EL.cons (.inr (by first | rfl | (simp only [hg4, els]; done) | (simp only [hg4, els]; rfl) | (simp [hg4]; done) | (clear hRR; simp_all; done))) (EL.cons (.inl rfl) (EL.cons (.inl rfl) (EL.cons (.inl rfl) (EL.cons (.inr rfl) (EL.cons (.inr rfl) (EL.cons (.inr rfl) (EL.cons (.inr rfl) (EL.cons (.inr rfl) (EL.refl _))))))))))
  refine snd_cond _ rfl (fun hc31 => ?_) (fun hc31 => ?_)
  · skip
    exact absurd hc31 (by simp)
  · skip
    refine snd_skip ?_
    apply sr tokTB (by kernel_rfl)
    · intro RR hRR
      refine w_assign (by constructor) ?_
      exact hRR
    apply sr tokTB (by kernel_rfl)
    · intro RR hRR
      refine w_move (by constructor) ?_
      refine w_move (by constructor) ?_
      refine y_call rfl (ec (ec exn)) (c_markNilInt64SS (k := 1)) ?_
      refine w_assign (by constructor) ?_
      exact hRR
    apply sr tokTB (by kernel_rfl)
    · intro RR hRR
      refine w_assign (by constructor) ?_
      exact hRR
    apply sr tokTB (by kernel_rfl)
    · intro RR hRR
      refine w_move (by constructor) ?_
      refine w_move (by constructor) ?_
      refine y_call rfl rfl ((c_heldInt64SS (N := 0) (m := 0) (R := (fun _ _ => 0)) (k := 1) (by omega) (by omega) (by omega) (fun i h => absurd h (by omega))).mt ⟨mt_nil0, mt_int0, trivial⟩) ?_
      refine w_assign (by constructor) ?_
      exact hRR
    refine snd_seq ?_
    apply sr tokTB (by kernel_rfl)
    · intro RR hRR
      refine w_move (by constructor) ?_
      refine w_lss rfl rfl ?_
      exact hRR
    refine snd_cond_false (by exact congrArg AV.bool (decide_eq_false (by omega))) ?_
    refine snd_skip ?_
    refine snd_seq ?_
    apply sr tokTB (by kernel_rfl)
    · intro RR hRR
      refine w_move (by constructor) ?_
      refine w_move (by constructor) ?_
      refine w_neq rfl rfl ?_
      exact hRR
    refine snd_cond_false (by exact congrArg AV.bool (decide_eq_false (by simp))) ?_
    refine snd_skip ?_
    apply sr tokTB (by kernel_rfl)
    · intro RR hRR
      refine w_ldc rfl kn34 (by constructor) (by exact sz34.symm) (by exact ag34.symm) ?_
      refine w_call0 rfl (exc exp_grp exn) (c_toGroup) nr_grp (fun _ => shift_grp) ?_
      refine y_call rfl (exc exp_grp exn) (c_iClassesOf_no hG h) ?_
      refine w_move (by constructor) ?_
      refine w_ext rfl (by decide) (by constructor) ?_
      refine w_ext rfl (by decide) (by constructor) ?_
      refine w_assign (by constructor) ?_
      refine w_assign (by constructor) ?_
      exact hRR
    refine snd_seq ?_
    apply srG (env' := (57, .bool (!true || decide ((1 : Int) ≠ 1))) :: (56, .any) :: (55, .any) :: (54, .any) :: (53, _) :: (52, _) :: (51, _) :: (50, _) :: (49, _) :: _) tokTB (by kernel_rfl)
    · intro RR hRR
      refine w_move (by constructor) ?_
      refine w_move (by constructor) ?_
      refine y_call rfl rfl ((c_eqInt64SS (N := 0) (m := 0) (R := (fun _ _ => 0)) (S := (fun _ _ => 0)) (by omega) (by omega) (fun i h => absurd h (by omega))).mt ⟨mt_nil0, mt_nil0, trivial⟩) ?_
      refine w_not rfl ?_
      refine w_move (by constructor) ?_
      refine w_g rfl rfl (fun hg4 => ?_) (fun hg4 => ?_)
      · skip
        refine w_move (by constructor) ?_
        refine w_g_on rfl rfl hg4 ?_
        refine w_move (by constructor) ?_
        refine w_g_on rfl rfl hg4 ?_
        refine w_neq rfl rfl ?_
        refine w_pick_0 rfl hg4 (by constructor) ?_
        try simp only [Int.toNat_natCast] at hg4
        exact hRR _ (EL.cons (.inr (by first | rfl | (simp only [hg4, els]; done) | (simp only [hg4, els]; rfl) | (simp [hg4]; done) | (clear hRR; simp_all; done))) (EL.cons (.inl rfl) (EL.cons (.inl rfl) (EL.cons (.inl rfl) (EL.cons (.inr rfl) (EL.cons (.inr rfl) (EL.cons (.inr rfl) (EL.cons (.inr rfl) (EL.cons (.inr rfl) (EL.refl _))))))))))
      · have hg4 := eq_true_of_ne_false hg4
        refine w_g_off rfl rfl (by rw [hg4]; decide) ?_
        refine w_g_off rfl rfl (by rw [hg4]; decide) ?_
        refine w_pick_1 rfl hg4 (by constructor) ?_
        try simp only [Int.toNat_natCast] at hg4
        exact hRR _ (EL.cons (.inr (by first | rfl | (simp only [hg4, els]; done) | (simp only [hg4, els]; rfl) | (simp [hg4]; done) | (clear hRR; simp_all; done))) (EL.cons (.inl rfl) (EL.cons (.inl rfl) (EL.cons (.inl rfl) (EL.cons (.inr rfl) (EL.cons (.inr rfl) (EL.cons (.inr rfl) (EL.cons (.inr rfl) (EL.cons (.inr rfl) (EL.refl _))))))))))
    refine snd_cond _ rfl (fun hc57 => ?_) (fun hc57 => ?_)
    · skip
      exact absurd hc57 (by simp)
    · skip
      refine snd_skip ?_
      apply sr tokTB (by kernel_rfl)
      · intro RR hRR
        refine w_assign (by constructor) ?_
        exact hRR
      apply sr tokTB (by kernel_rfl)
      · intro RR hRR
        refine w_move (by constructor) ?_
        refine w_move (by constructor) ?_
        refine y_call rfl rfl ((c_heldInt64SS (N := 0) (m := 0) (R := (fun _ _ => 0)) (k := 1) (by omega) (by omega) (by omega) (fun i h => absurd h (by omega))).mt ⟨mt_nil0, mt_int0, trivial⟩) ?_
        refine w_assign (by constructor) ?_
        exact hRR
      refine snd_seq ?_
      apply sr tokTB (by kernel_rfl)
      · intro RR hRR
        refine w_move (by constructor) ?_
        refine w_lss rfl rfl ?_
        exact hRR
      refine snd_cond_false (by exact congrArg AV.bool (decide_eq_false (by omega))) ?_
      refine snd_skip ?_
      refine snd_seq ?_
      apply sr tokTB (by kernel_rfl)
      · intro RR hRR
        refine w_move (by constructor) ?_
        refine w_move (by constructor) ?_
        refine w_neq rfl rfl ?_
        exact hRR
      refine snd_cond_false (by exact congrArg AV.bool (decide_eq_false (by simp))) ?_
      refine snd_skip ?_
      apply sr tokTB (by kernel_rfl)
      · intro RR hRR
        refine w_assign (by constructor) ?_
        exact hRR
      refine snd_ret ?_
      exact rt (T := TB) (fun V => rfl)
theorem law_ClassesOf {n : Int} {G : Nat → Nat → Nat} (hG : RG G) : ACalls Try.prog TB 4 [grpA n G] (.bool true) [] := by
  by_cases h : GZ n G
  · obtain ⟨m, rfl, hm⟩ := GZ_of h
    exact lClassesOf_ok hG hm
  · exact lClassesOf_no hG h
end Go.Am

