/- Part 4 of what the law stands on: abstract values, their walk, contracts of functions. My own work. Conditions: none. -/
import Derived.Test.YtnmdenipfdgdgaaGreatPart3
import Derived.Test.YtnmdenipfdgdgaaGreatProg
import Derived.WalkKit
import Derived.Deep.RegionLaw
import Derived.Lib.SliceRun
import Derived.Lib.Walk
import Derived.RangeFuncBox
import Derived.RangeFuncLeaves
import Derived.RangeFuncNested
import Derived.Shelf.Abstract
import Derived.OwnWalkIn
import Derived.TacticsInMore
import Derived.LoopNIn
import Derived.LoopIn
set_option linter.unusedVariables false
set_option linter.unusedSimpArgs false
set_option linter.unusedSectionVars false
namespace Go.Am
def theTab : Tab := [
  (1, .fnc, 1, 8),
  (2, .int .i64, 1, 8),
  (3, .int .i64, 1, 8),
  (4, .bool, 1, 1),
  (5, .int .u8, 1, 1),
  (9, .str, 1, 16),
  (12, .int .u64, 1, 8),
  (13, .sct [(9, 0), (12, 1)], 2, 24),
  (21, .int .i32, 1, 4),
  (22, .slc 5, 1, 24),
  (23, .fnc, 1, 8),
  (24, .slc 2, 1, 24),
  (26, .fnc, 1, 8),
  (27, .arr 6 5, 6, 6),
  (28, .arr 6 27, 36, 36),
  (29, .arr 6 28, 216, 216),
  (30, .arr 6 5, 6, 6),
  (31, .sct [(2, 0), (2, 1), (29, 2), (30, 218)], 224, 240),
  (32, .sct [(2, 0), (2, 1), (29, 2), (30, 218)], 224, 240),
  (34, .fnc, 1, 8),
  (36, .fnc, 1, 8),
  (37, .fnc, 1, 8),
  (39, .fnc, 1, 8),
  (40, .fnc, 1, 8),
  (42, .fnc, 1, 8),
  (44, .fnc, 1, 8),
  (45, .fnc, 1, 8),
  (46, .fnc, 1, 8),
  (47, .ptr 81, 1, 8),
  (48, .fnc, 1, 8),
  (49, .fnc, 1, 8),
  (50, .fnc, 1, 8),
  (51, .fnc, 1, 8),
  (52, .fnc, 1, 8),
  (53, .fnc, 1, 8),
  (54, .fnc, 1, 8),
  (55, .fnc, 1, 8),
  (56, .fnc, 1, 8),
  (57, .fnc, 1, 8),
  (58, .ptr 32, 1, 8),
  (59, .fnc, 1, 8),
  (60, .fnc, 1, 8),
  (61, .slc 30, 1, 24),
  (62, .fnc, 1, 8),
  (63, .slc 24, 1, 24),
  (64, .fnc, 1, 8),
  (65, .fnc, 1, 8),
  (67, .fnc, 1, 8),
  (68, .fnc, 1, 8),
  (69, .fnc, 1, 8),
  (70, .fnc, 1, 8),
  (71, .fnc, 1, 8),
  (72, .fnc, 1, 8),
  (73, .fnc, 1, 8),
  (74, .fnc, 1, 8),
  (75, .fnc, 1, 8),
  (76, .fnc, 1, 8),
  (77, .fnc, 1, 8),
  (78, .fnc, 1, 8),
  (79, .int .u64, 1, 8),
  (80, .sct [(22, 0), (3, 1), (79, 2)], 3, 40),
  (81, .sct [(22, 0), (3, 1), (79, 2)], 3, 40),
  (82, .fnc, 1, 8),
  (83, .fnc, 1, 8),
  (84, .fnc, 1, 8),
  (85, .fnc, 1, 8),
  (86, .fnc, 1, 8),
  (87, .fnc, 1, 8),
  (88, .fnc, 1, 8),
  (90, .fnc, 1, 8),
  (91, .arr 6 2, 6, 48),
  (92, .fnc, 1, 8),
  (93, .int .u64, 1, 8),
  (94, .fnc, 1, 8),
  (95, .fnc, 1, 8),
  (96, .fnc, 1, 8),
  (97, .fnc, 1, 8),
  (98, .fnc, 1, 8),
  (99, .fnc, 1, 8),
  (100, .fnc, 1, 8),
  (101, .fnc, 1, 8),
  (102, .fnc, 1, 8),
  (103, .fnc, 1, 8),
  (104, .fnc, 1, 8),
  (105, .fnc, 1, 8),
  (106, .fnc, 1, 8),
  (107, .fnc, 1, 8),
  (108, .slc 109, 1, 24),
  (109, .fnc, 1, 8),
  (110, .fnc, 1, 8),
  (111, .fnc, 1, 8),
  (112, .fnc, 1, 8),
  (113, .fnc, 1, 8),
  (114, .fnc, 1, 8),
  (115, .fnc, 1, 8),
  (116, .fnc, 1, 8),
  (117, .fnc, 1, 8),
  (118, .fnc, 1, 8),
  (119, .fnc, 1, 8),
  (120, .fnc, 1, 8),
  (126, .int .u32, 1, 4),
  (129, .fnc, 1, 8),
  (130, .ptr 5, 1, 8)]
def TB : TT := mkT theTab
theorem tokTB : TOk Go.Proofs.Tryz.prog TB := tok (by kernel_rfl)
theorem mixed : Go.Proofs.Tryz.prog.follows .mixedOrders = true := by kernel_rfl
theorem und2 : TB.und 2 = .int .i64 := by kernel_rfl
theorem sz2 : TB.sz 2 = 1 := by kernel_rfl
theorem by2 : TB.by_ 2 = 8 := by kernel_rfl
theorem kn2 : (TB.und 2).known = true := by kernel_rfl
theorem ag2 : (TB.und 2).isAgg = false := by kernel_rfl
theorem nz2 : TB.sz 2 ≠ 0 := by rw [sz2]; decide
theorem und3 : TB.und 3 = .int .i64 := by kernel_rfl
theorem sz3 : TB.sz 3 = 1 := by kernel_rfl
theorem kn3 : (TB.und 3).known = true := by kernel_rfl
theorem ag3 : (TB.und 3).isAgg = false := by kernel_rfl
theorem nz3 : TB.sz 3 ≠ 0 := by rw [sz3]; decide
theorem zr3 : TB.zero 3 = .int .i64 0 := by kernel_rfl
theorem und5 : TB.und 5 = .int .u8 := by kernel_rfl
theorem sz5 : TB.sz 5 = 1 := by kernel_rfl
theorem kn5 : (TB.und 5).known = true := by kernel_rfl
theorem ag5 : (TB.und 5).isAgg = false := by kernel_rfl
theorem und22 : TB.und 22 = .slc 5 := by kernel_rfl
theorem sz22 : TB.sz 22 = 1 := by kernel_rfl
theorem kn22 : (TB.und 22).known = true := by kernel_rfl
theorem ag22 : (TB.und 22).isAgg = false := by kernel_rfl
theorem nz22 : TB.sz 22 ≠ 0 := by rw [sz22]; decide
theorem und24 : TB.und 24 = .slc 2 := by kernel_rfl
theorem sz24 : TB.sz 24 = 1 := by kernel_rfl
theorem by24 : TB.by_ 24 = 24 := by kernel_rfl
theorem kn24 : (TB.und 24).known = true := by kernel_rfl
theorem ag24 : (TB.und 24).isAgg = false := by kernel_rfl
theorem und27 : TB.und 27 = .arr 6 5 := by kernel_rfl
theorem sz27 : TB.sz 27 = 6 := by kernel_rfl
theorem kn27 : (TB.und 27).known = true := by kernel_rfl
theorem ag27 : (TB.und 27).isAgg = true := by kernel_rfl
theorem zr27 : TB.zero 27 = .arr 6 (fun _ => .int .u8 0) := by kernel_rfl
theorem und28 : TB.und 28 = .arr 6 27 := by kernel_rfl
theorem sz28 : TB.sz 28 = 36 := by kernel_rfl
theorem kn28 : (TB.und 28).known = true := by kernel_rfl
theorem ag28 : (TB.und 28).isAgg = true := by kernel_rfl
theorem zr28 : TB.zero 28 = .arr 6 (fun _ => .arr 6 (fun _ => .int .u8 0)) := by kernel_rfl
theorem und29 : TB.und 29 = .arr 6 28 := by kernel_rfl
theorem sz29 : TB.sz 29 = 216 := by kernel_rfl
theorem kn29 : (TB.und 29).known = true := by kernel_rfl
theorem ag29 : (TB.und 29).isAgg = true := by kernel_rfl
theorem nz29 : TB.sz 29 ≠ 0 := by rw [sz29]; decide
theorem und30 : TB.und 30 = .arr 6 5 := by kernel_rfl
theorem sz30 : TB.sz 30 = 6 := by kernel_rfl
theorem by30 : TB.by_ 30 = 6 := by kernel_rfl
theorem kn30 : (TB.und 30).known = true := by kernel_rfl
theorem ag30 : (TB.und 30).isAgg = true := by kernel_rfl
theorem nz30 : TB.sz 30 ≠ 0 := by rw [sz30]; decide
theorem zr30 : TB.zero 30 = .arr 6 (fun _ => .int .u8 0) := by kernel_rfl
theorem und32 : TB.und 32 = .sct [(2, 0), (2, 1), (29, 2), (30, 218)] := by kernel_rfl
theorem sz32 : TB.sz 32 = 224 := by kernel_rfl
theorem kn32 : (TB.und 32).known = true := by kernel_rfl
theorem ag32 : (TB.und 32).isAgg = true := by kernel_rfl
theorem sz58 : TB.sz 58 = 1 := by kernel_rfl
theorem kn58 : (TB.und 58).known = true := by kernel_rfl
theorem ag58 : (TB.und 58).isAgg = false := by kernel_rfl
theorem und61 : TB.und 61 = .slc 30 := by kernel_rfl
theorem und63 : TB.und 63 = .slc 24 := by kernel_rfl
theorem und79 : TB.und 79 = .int .u64 := by kernel_rfl
theorem sz79 : TB.sz 79 = 1 := by kernel_rfl
theorem kn79 : (TB.und 79).known = true := by kernel_rfl
theorem ag79 : (TB.und 79).isAgg = false := by kernel_rfl
theorem nz79 : TB.sz 79 ≠ 0 := by rw [sz79]; decide
theorem und81 : TB.und 81 = .sct [(22, 0), (3, 1), (79, 2)] := by kernel_rfl
theorem kn81 : (TB.und 81).known = true := by kernel_rfl
theorem und91 : TB.und 91 = .arr 6 2 := by kernel_rfl
theorem sz91 : TB.sz 91 = 6 := by kernel_rfl
theorem kn91 : (TB.und 91).known = true := by kernel_rfl
theorem ag91 : (TB.und 91).isAgg = true := by kernel_rfl
theorem zr91 : TB.zero 91 = .arr 6 (fun _ => .int .i64 0) := by kernel_rfl
theorem und108 : TB.und 108 = .slc 109 := by kernel_rfl
theorem sz109 : TB.sz 109 = 1 := by kernel_rfl
theorem by109 : TB.by_ 109 = 8 := by kernel_rfl
theorem kn109 : (TB.und 109).known = true := by kernel_rfl
theorem ag109 : (TB.und 109).isAgg = false := by kernel_rfl
theorem zr32 : TB.zero 32 = algA 0 0 (fun _ _ _ => 0) (fun _ => 0) := by
  refine congrArg (AV.sct 4) (funext fun i => ?_)
  match i with
  | 0 => rfl
  | 1 => rfl
  | 2 => rfl
  | 3 => rfl
  | n + 4 => rfl
theorem mi {V : Vw} {k : IntKind} {a b : Int} (h : b = a := by first | rfl | omega | (simp; done) | (simp; omega)) : MtE V (.int k a) (.int k b) := m_int h
theorem sx {a b : AV} (h : ssh a b := by first | exact trivial | exact ssh_vec | exact ssh_alg | exact ssh_grp | exact ssh_src | exact ssh_dsk | exact ssh_pr | exact sshTn trivial | exact ssh_tab | exact ssh_mat | exact ⟨rfl, fun _ => trivial⟩ | exact ⟨rfl, fun _ => by rw [zr30]; exact ssh_vec⟩ | exact ⟨rfl, fun k => by match k with | 0 => exact trivial | 1 => exact trivial | 2 => exact trivial | 3 => exact trivial | 4 => exact trivial | k + 5 => exact trivial⟩) : ssh a b := h
section
variable {P : Program} {T : TT} {all : Array Oper} {r : List Oper} {env : Env} {ol : OL} {R : Env → OL → Prop} {d : Nat} {ty : TypeId} {x : Operand} {pos : String} {af : Array Edge} {v : AV}
theorem wm (hr : WOps P T all r ((d, v) :: env) ol R) (h : HV (evE env x) v := by constructor) : WOps P T all (⟨some d, .move x, ty, pos, af, none⟩ :: r) env ol R := w_move h hr
theorem wa (hr : WOps P T all r ((d, v) :: env) ol R) (h : HV (evE env x) v := by constructor) : WOps P T all (⟨some d, .assign x, ty, pos, af, none⟩ :: r) env ol R := w_assign h hr
theorem we {n i : Nat} {g : Nat → AV} (hr : WOps P T all r ((d, v) :: env) ol R) (hx : evE env x = .tup n g := by exact rfl) (hi : i < n := by decide) (hv : HV (g i) v := by constructor) : WOps P T all (⟨some d, .extract x i, ty, pos, af, none⟩ :: r) env ol R := w_ext hx hi hv hr
end
theorem er {a b c : AV} (h : a = b := by first | rfl | (simp only [els]; done) | simp) : c = .any ∨ a = b := .inr h
theorem pin_ {ol : OL} {k i : Nat} {sh c v c' : AV} {p : List Nat} (h : put c p v = c' := by first | exact put_mat | exact put_tab | exact put_alg0 | exact put_pr0 | exact put_pr1 | exact put_pr2 | exact put_tn4 | exact put_grp0 | exact put_grp1 | exact put_alg1 | exact put_alg2 | exact put_alg3 | exact put_alg3i | exact put_alg2ij | exact put_alg2ijk | exact put_mat2 | exact put_tab2 | exact put_tab3) : ol.set k i (some (sh, put c p v)) = ol.set k i (some (sh, c')) := put_in h
end Go.Am

namespace Go.Am
open Go.Proofs Go.RowKit
set_option maxHeartbeats 4000000 in
set_option maxRecDepth 100000 in
theorem del_low : DelC Tryz.prog 87 (.slice none 0 0) := by
  intro w b cap n a cur e hb hn hcap hcs ha h1
  simp only [maxLen] at hcap
  obtain ⟨news, hnews⟩ : ∃ news, news = (cur.toList.drop (a + 1)).take (n - 1 - a) := ⟨_, rfl⟩
  rw [← hnews]
  have hlen : news.length = n - (a + 1) := by rw [hnews]; simp; omega
  have hget : ∀ t, t < n - (a + 1) → news[t]? = some (cur.getD (a + 1 + t) undef) := by
    intro t ht
    rw [hnews, List.getElem?_take, if_pos (by omega), List.getElem?_drop]
    simp [show a + 1 + t < cur.size by omega]
  have hcell : ∀ j, j < n → w.cell? ⟨b, j, none⟩ = some (cur.getD j undef) := by
    intro j hj
    simp [World.cell?, hb, show j < cur.size by omega]
  have hfr : ∀ (w' : World) (c' : Array Value) (e' : TypeId) j, w'.heap[b]? = some (.cells c' e' (0, 0)) → w'.frozen? ⟨b, j, none⟩ = false := by
    intro w' c' e' j h
    simp [World.frozen?, h]
  obtain ⟨A, hA, hsrc⟩ : ∃ A : Addr, (if cap = a + 1 then some (⟨b, 0, none⟩ : Addr) else some ⟨b, a + 1, none⟩) = some A ∧ Hid (∀ t u, news[t]? = some u → w.drew.cell? (A.add t) = some u) := by
    by_cases h : cap = a + 1
    · refine ⟨⟨b, 0, none⟩, by simp [h], fun t u hu => ?_⟩
      have h0 : news.length = 0 := by rw [hlen]; omega
      rw [List.length_eq_zero_iff.1 h0] at hu
      simp at hu
    · refine ⟨⟨b, a + 1, none⟩, by simp [h], fun t u hu => ?_⟩
      have ht : t < n - (a + 1) := by
        have := (List.getElem?_eq_some_iff.1 hu).1
        rwa [hlen] at this
      rw [hget t ht] at hu
      rw [Addr.add_lit]
      exact (hcell (a + 1 + t) (by omega)).trans hu
  have s1 : Hid (news.length = (n - (a + 1)) * 1) := by rw [Nat.mul_one]; exact hlen
  have s2 : Hid (∀ u ∈ news, u.oneCell' = true) := by
    intro u hu
    rw [hnews] at hu
    have := List.mem_of_mem_take hu
    refine h1 u ?_
    obtain ⟨j, hj⟩ := List.mem_iff_getElem?.1 hu
    have hjl : j < n - (a + 1) := by
      have := (List.getElem?_eq_some_iff.1 hj).1
      rw [← hnews, hlen] at this; exact this
    have := hget j hjl
    rw [hnews, hj] at this
    rw [List.mem_iff_getElem?]
    refine ⟨a + 1 + j, ?_⟩
    rw [List.getElem?_take, if_pos (by omega), this]
    simp [show a + 1 + j < cur.size by omega]
  have s3 : Hid (∀ t, t < news.length → (w.drew.cell? ⟨b, 0 + a * 1 + t, none⟩).isSome = true ∧ w.drew.frozen? ⟨b, 0 + a * 1 + t, none⟩ = false) := by
    intro t ht
    rw [hlen] at ht
    refine ⟨?_, hfr _ _ _ _ hb⟩
    show (w.cell? _).isSome = true
    rw [hcell _ (by omega)]; rfl
  obtain ⟨W1, hW1⟩ : ∃ W1, W1 = w.drew.setCells b (0 + a * 1) news := ⟨_, rfl⟩
  obtain ⟨c1, c2, c3, c4, c5, c6⟩ := setCells_facts b news (0 + a * 1) w.drew cur e (0, 0) hb
  rw [← hW1] at c1
  have hcl : ∀ ty, (Builtin.clear_ #[63] ty #[.slice (some ⟨b, a + (n - (a + 1)), none⟩) (n - (a + (n - (a + 1)))) (cap - (a + (n - (a + 1))))]).run Tryz.prog W1 = .ok (.tuple #[]) (W1.setCells b (a + (n - (a + 1))) (List.replicate (n - (a + (n - (a + 1)))) (.slice none 0 0))) :=
    fun ty => Lib.run_clear_slice W1 _ _ ty _ Tryz.underlying63 Tryz.zeroValue24 rfl rfl b _ _ _ (by omega) (fun t ht => by
      simp [World.cell?, c1, setL_size]; omega) (fun t ht => hfr _ _ _ _ c1)
  have hW : Hid (W1 = w.drew.setCells b (0 + a * 1) news) := hW1
  have hic : a ≤ cap := by omega
  have hjc : a + 1 ≤ cap := by omega
  have hq1 : (0 : Int) ≤ (a : Int) + 1 := by omega
  have hq2 : (a : Int) + 1 ≤ (n : Int) := by omega
  have hlast : n - (a + (n - (a + 1))) = 1 := by omega
  have hl2 : a + (n - (a + 1)) = n - 1 := by omega
  have X1 : Hid (n - (a + (n - (a + 1))) = 1) := hlast
  have X2 : Hid (a + (n - (a + 1)) = n - 1) := hl2
  clear hlast hl2 hW1
  clear c1 c2 c3 c4 c5 c6 hget hcell hfr hnews hlen h1
  go_enter Tryz.func87, Tryz.ntmps87
  go_wp2_with fail
  go_region_law (refine step_append_room rfl (.tmp 22) (.tmp 25) 63 rfl 24 Tryz.t24 1 Tryz.underlying63 (by kernel_rfl) (by kernel_rfl) b 0 a cap (by simp [Act.eval, Act.put]) A (n - (a + 1)) (cap - (a + 1)) news (by simp [Act.eval, Act.put]) s1.out hsrc.out s2.out (by omega) s3.out ?_; rw [← hW.out])
  go_wp2
  go_ret
  rw [X1.out, X2.out, hW.out, Nat.zero_add (n - 1)]
  exact ⟨rfl, rfl⟩
end Go.Am

namespace Go.Proofs
open Go.RowKit Go.Shelf
attribute [local go_sem] Oper.semAt_some
def uptoL {α : Type} (f : Nat → α) (k : Nat) : List α := (List.range k).map f
theorem uptoL_succ {α : Type} (f : Nat → α) (k : Nat) : uptoL f (k + 1) = uptoL f k ++ [f k] := by simp [uptoL, List.range_succ]
theorem uptoL_length {α : Type} (f : Nat → α) (k : Nat) : (uptoL f k).length = k := by simp [uptoL]
def bkF (f : Nat → Int) (len : Nat) (j : Nat) : Nat × Int := (len - 1 - j, f (len - 1 - j))
def KpB (n₀ Bs : Nat) (W W' : World) : Prop := Below n₀ W W' ∧ W'.heap[Bs]? = W.heap[Bs]?
theorem KpB.refl (n₀ Bs : Nat) (W : World) : KpB n₀ Bs W W := ⟨Below.refl _ _, rfl⟩
theorem KpB.t {n₀ Bs : Nat} {A B C : World} (h : KpB n₀ Bs A B) (k : KpB n₀ Bs B C) : KpB n₀ Bs A C := ⟨h.1.trans k.1, k.2.trans h.2⟩
theorem KpB.b {n₀ Bs : Nat} {w : World} (hn : n₀ ≤ w.heap.size) (hB : Bs < w.heap.size) (W : World) (l : Nat) (o o' : Obj) (hl : w.heap.size ≤ l) (h : W.heap[l]? = some o) (h1 : o.isCells = false) (h2 : o.isWalk = false) : KpB n₀ Bs W (W.putObj l o') :=
  ⟨belowK_b hn W l o o' hl h h1 h2, World.putObj_heap_other (by omega)⟩
theorem KpB.box {n₀ Bs : Nat} {W W' : World} (h : KpB n₀ Bs W W') {v : Value} (hc : W.cell? ⟨Bs, 0, none⟩ = some v) : W'.cell? ⟨Bs, 0, none⟩ = some v := by
  rw [← hc]; unfold World.cell?; rw [h.2]
set_option maxRecDepth 100000 in
set_option maxHeartbeats 2000000 in
theorem back1_in (F : Fence) (n : Nat) (hf : F.fn 98) (hro : F.round = none) (hn : 1 ≤ n) (l Bs n₀ b off len cap : Nat) (f : Nat → Int) (hlen : len ≤ 1000) (hb : b < n₀) (J Jx : List (Nat × Int) → World → Prop)
    (hY : ∀ pre x W, J pre W → pre.length < len → YieldAt F (n - 1) Tryz.prog l #[.int .i64 (x.1 : Int), .int .i64 x.2] W fun e W' =>
      (e = .returned (.bool true) ∧ J (pre ++ [x]) W' ∧ KpB n₀ Bs W W') ∨ (e = .returned (.bool false) ∧ Jx (pre ++ [x]) W'))
    (W : World) (hBs : W.cell? ⟨Bs, 0, none⟩ = some (.slice (some ⟨b, off, none⟩) len cap)) (hc : ∀ j, j < len → W.cell? ⟨b, off + j, none⟩ = some (.int .i64 (f j))) (h0 : J [] W) :
    CallsIn F n Tryz.prog 98 #[.func (.yield l) #[] #[], .pointer (some ⟨Bs, 0, none⟩)] W fun e W' => (∃ v, e = .returned v) ∧
      ((∃ ys, ys = uptoL (bkF f len) len ∧ J ys W') ∨ (∃ pre, (∃ k, k ≤ len ∧ pre = uptoL (bkF f len) k) ∧ Jx pre W')) := by
  refine callsIn_of_wp Tryz.func98 rfl hf ?_ hro
  simp only [Tryz.ntmps98, List.size_toArray, List.length_cons, List.length_nil, Nat.reduceAdd, Nat.reduceSub, Array.replicate_succ, Array.replicate_zero, List.push_toArray, List.append_toArray, List.nil_append, List.cons_append]
  gi_wp2
  gi_loopw [3] (fun i wr => ∃ (z : Int) (k : Nat), z + 1 + k = len ∧ -1 ≤ z ∧ i = .int .i64 z ∧ J (uptoL (bkF f len) k) wr ∧ KpB n₀ Bs W wr)
    (fun i _ => (intOf i + 1).toNat)
  case atStart => exact ⟨(len : Int) - 1, 0, by omega, by omega, by first | rfl | (congr 1; go_num), h0, KpB.refl _ _ _⟩
  case round =>
    obtain ⟨z, k, hk, hz, rfl, hJs, hnx⟩ := hrel
    have hbx := hnx.box hBs
    by_cases hlt : 0 ≤ z
    · obtain ⟨i, rfl⟩ : ∃ i : Nat, z = (i : Int) := ⟨z.toNat, by omega⟩
      have hi : len - 1 - k = i := by omega
      have hil : i < len := by omega
      have hcx : wr.cell? ⟨b, off + i, none⟩ = some (.int .i64 (f i)) := (hnx.1.cell (p := ⟨b, off + i, none⟩) hb).trans (hc i hil)
      obtain ⟨fn, tmps, assign, body, hy, hR⟩ := hY _ (i, f i) wr hJs (by rw [uptoL_length]; omega)
      dsimp only at hy
      gi_wp2
      refine hR.mono ?_
      rintro e W3 (⟨rfl, hJ3, hk3⟩ | ⟨rfl, hJx3⟩)
      · gi_wp2
        go_roundw
        case rel => exact ⟨(i : Int) - 1, k + 1, by omega, by omega, by first | rfl | (congr 1; go_num), by rw [uptoL_succ, show bkF f len k = (i, f i) by unfold bkF; rw [hi]]; exact hJ3, hnx.t hk3⟩
        case measure => simp [intOf]
      · gi_wp2
        refine bodyPost_ret (results_none rfl _ _ _) rfl ?_
        exact ⟨⟨_, rfl⟩, .inr ⟨_, ⟨k + 1, by omega, by rw [uptoL_succ, show bkF f len k = (i, f i) by unfold bkF; rw [hi]]⟩, hJx3⟩⟩
    · obtain rfl : z = -1 := by omega
      obtain rfl : k = len := by omega
      gi_wp2
      go_end0
      exact ⟨⟨_, rfl⟩, .inl hJs⟩
set_option maxHeartbeats 1000000 in
theorem back_in (F : Fence) (n : Nat) (hf : F.fn 80) (hro : F.round = none) (a : Option Addr) (len cap : Nat) (w : World) :
    CallsIn F n Tryz.prog 80 #[.slice a len cap] w fun e w' => e = .returned (.func (.func 98) #[] #[.pointer (some ⟨w.heap.size, 0, none⟩)]) ∧ w' = w.alloc (.cells #[.slice a len cap] 24) := by
  refine callsIn_of_wp Tryz.func80 rfl hf ?_ hro
  simp only [Tryz.ntmps80, List.size_toArray, List.length_cons, List.length_nil, Nat.reduceAdd, Nat.reduceSub, Array.replicate_succ, Array.replicate_zero, List.push_toArray, List.append_toArray, List.nil_append, List.cons_append]
  gi_wp2
  go_ret
  exact ⟨rfl, rfl⟩
set_option maxRecDepth 100000 in
set_option maxHeartbeats 1000000 in
theorem back1_nil (F : Fence) (n : Nat) (hf : F.fn 98) (hro : F.round = none) (l Bs cap : Nat) (a : Option Addr) (J : List (Nat × Int) → World → Prop) (W : World) (hBs : W.cell? ⟨Bs, 0, none⟩ = some (.slice a 0 cap)) (h0 : J [] W) :
    CallsIn F n Tryz.prog 98 #[.func (.yield l) #[] #[], .pointer (some ⟨Bs, 0, none⟩)] W fun e W' => (∃ v, e = .returned v) ∧ J [] W' := by
  refine callsIn_of_wp Tryz.func98 rfl hf ?_ hro
  simp only [Tryz.ntmps98, List.size_toArray, List.length_cons, List.length_nil, Nat.reduceAdd, Nat.reduceSub, Array.replicate_succ, Array.replicate_zero, List.push_toArray, List.append_toArray, List.nil_append, List.cons_append]
  gi_wp2
  gi_loopw [3] (fun i wr => i = .int .i64 (-1) ∧ J [] wr) (fun _ _ => 0)
  case atStart => exact ⟨rfl, h0⟩
  case round =>
    obtain ⟨rfl, hJs⟩ := hrel
    gi_wp2
    go_end0
    exact ⟨⟨_, rfl⟩, hJs⟩
def IntsB (n₀ : Nat) (W : World) (a : Option Addr) (len : Nat) (f : Nat → Int) : Prop := len = 0 ∨ ∃ b off, a = some ⟨b, off, none⟩ ∧ b < n₀ ∧ ∀ j, j < len → W.cell? ⟨b, off + j, none⟩ = some (.int .i64 (f j))
theorem IntsB.below {n₀ : Nat} {A B : World} (h : Below n₀ A B) {a : Option Addr} {len : Nat} {f : Nat → Int} : IntsB n₀ A a len f → IntsB n₀ B a len f
  | .inl e => .inl e
  | .inr ⟨b, off, e, hb, hc⟩ => .inr ⟨b, off, e, hb, fun j hj => (h.cell (p := ⟨b, off + j, none⟩) hb).trans (hc j hj)⟩
theorem back_stops (F : Fence) (n : Nat) (hf : F.fn 98) (hro : F.round = none) (hn : 1 ≤ n) (Bs n₀ len cap : Nat) (a : Option Addr) (f : Nat → Int) (hlen : len ≤ 1000) (w : World) (hBs : Bs < w.heap.size) (hn₀ : n₀ ≤ w.heap.size)
    (hc : w.cell? ⟨Bs, 0, none⟩ = some (.slice a len cap)) (hI : IntsB n₀ w a len f) :
    SeqStopsK F n Tryz.prog 98 #[.pointer (some ⟨Bs, 0, none⟩)] (fun x : Nat × Int => #[Value.int .i64 (x.1 : Int), Value.int .i64 x.2]) (KpB n₀ Bs) (fun ys => ys = uptoL (bkF f len) len)
      (fun pre => ∃ k, k ≤ len ∧ pre = uptoL (bkF f len) k) len w := fun l J Jx W hW _ _ hY h0 => by
  have hc' := (hW.cell (p := ⟨Bs, 0, none⟩) hBs).trans hc
  rcases hI.below (hW.mono hn₀) with rfl | ⟨b, off, rfl, hb, hcs⟩
  · exact (back1_nil F n hf hro l Bs cap a J W hc' h0).mono fun e W' ⟨he, hj⟩ => ⟨he, .inl ⟨_, rfl, hj⟩⟩
  · exact back1_in F n hf hro hn l Bs n₀ b off len cap f hlen hb J Jx hY W hc' hcs h0
def vaW (p r : Int) : List (Nat × Int) → Int := List.foldl (fun o x => (wrap64 (wrap64 (o * r) + x.2)).tmod p) 0
theorem vaW_snoc (p r : Int) (pre : List (Nat × Int)) (x : Nat × Int) : vaW p r (pre ++ [x]) = (wrap64 (wrap64 (vaW p r pre * r) + x.2)).tmod p := by simp [vaW]
set_option maxRecDepth 100000 in
set_option maxHeartbeats 2000000 in
theorem valueAt_in (F : Fence) (n : Nat) (h0 : F.fn 63) (h1 : F.fn 80) (h2 : F.fn 98) (hro : F.round = none) (hn : 3 ≤ n) (p r : Int) (hp : p ≠ 0) (a : Option Addr) (len cap : Nat) (f : Nat → Int) (hlen : len ≤ 1000) (w : World) (hI : IntsB w.heap.size w a len f) :
    CallsIn F n Tryz.prog 63 #[.int .i64 p, .slice a len cap, .int .i64 r] w fun e W' => e = .returned (.int .i64 (vaW p r (uptoL (bkF f len) len))) ∧ Below w.heap.size w W' := by
  have hn1 : 1 ≤ n := by omega
  refine callsIn_of_wp_marks Tryz.func63 rfl h0 ?_ hro
  simp only [Tryz.ntmps63, List.size_toArray, List.length_cons, List.length_nil, Nat.reduceAdd, Nat.reduceSub, Array.replicate_succ, Array.replicate_zero, List.push_toArray, List.append_toArray, List.nil_append, List.cons_append]
  gi_wp2_with (gi_at_call 80; refine (back_in F (n - 1) h1 hro _ _ _ _).mono ?_; rintro e w' ⟨rfl, rfl⟩)
  have bP := Boxed.new w 2 (.int .i64 p)
  have bR := Boxed.new (w.alloc (.cells #[.int .i64 p] 2)) 2 (.int .i64 r)
  have bS := Boxed.new ((w.alloc (.cells #[.int .i64 p] 2)).alloc (.cells #[.int .i64 r] 2)) 2 (.int .i64 0)
  have bN := Boxed.new (((w.alloc (.cells #[.int .i64 p] 2)).alloc (.cells #[.int .i64 r] 2)).alloc (.cells #[.int .i64 0] 2)) 24 (.slice a len cap)
  simp only [World.size_alloc] at bR bS bN
  have hB0 : Below w.heap.size w ((((w.alloc (.cells #[.int .i64 p] 2)).alloc (.cells #[.int .i64 r] 2)).alloc (.cells #[.int .i64 0] 2)).alloc (.cells #[.slice a len cap] 24)) :=
    ((((Below.refl _ w).alloc (Nat.le_refl _) _).alloc (by simp) _).alloc (by simp; omega) _).alloc (by simp; omega) _
  have bP3 := ((bP.alloc (.cells #[.int .i64 r] 2)).alloc (.cells #[.int .i64 0] 2)).alloc (.cells #[.slice a len cap] 24)
  have bR3 := (bR.alloc (.cells #[.int .i64 0] 2)).alloc (.cells #[.slice a len cap] 24)
  have bS3 := bS.alloc (.cells #[.slice a len cap] 24)
  refine wpIn_rangeFunc_ownG hro hn1 (gf := 98) (lb := #[.pointer (some ⟨w.heap.size + 1 + 1 + 1, 0, none⟩)]) rfl h2 (enters_of Tryz.func98 (by kernel_rfl) rfl)
    (back_stops F (n - 1) h2 hro (by omega) (w.heap.size + 1 + 1 + 1) w.heap.size len cap a f hlen _ (by simp) (by simp; omega) bN.cell (hI.below hB0)) KpB.t (KpB.b (by simp; omega) (by simp)) (Below.refl _ _) (fun _ => rfl)
    (fun pre W => ((Boxed W (w.heap.size + 1 + 1) 2 (.int .i64 (vaW p r pre)) ∧ Boxed W w.heap.size 2 (.int .i64 p) ∧ Boxed W (w.heap.size + 1) 2 (.int .i64 r)) ∧ Boxed W (w.heap.size + 1 + 1 + 1) 24 (.slice a len cap)) ∧ Below w.heap.size w W)
    (fun _ _ _ => False)
    (OwnFrom.and (OwnFrom.and (OwnFrom.and (Own.from (boxed_own _ _ _) _) (OwnFrom.and (Own.from (boxed_own _ _ _) _) (Own.from (boxed_own _ _ _) _))) (Own.from (boxed_own _ _ _) _)) (ownFrom_below (Nat.le_refl _) (by simp; omega)))
    (fun _ _ _ _ _ hs _ _ => hs)
    ⟨⟨⟨bS3, bP3, bR3⟩, bN⟩, hB0⟩
    (fun x => { tmps := #[.int .i64 p, .slice a len cap, .int .i64 r, .pointer (some ⟨w.heap.size, 0, none⟩), undef, .pointer (some ⟨w.heap.size + 1, 0, none⟩), .int .i64 0, .pointer (some ⟨w.heap.size + 1 + 1, 0, none⟩), undef, .int .i64 x.2, .slice a len cap,
      .func (.func 98) #[] #[.pointer (some ⟨w.heap.size + 1 + 1 + 1, 0, none⟩)], .int .i64 (x.1 : Int), .int .i64 x.2, undef, undef, undef, undef, undef, undef, undef, undef], defers := [] }) ?assign ?body ?done ?stop
  case assign =>
    intro l x W K hK
    gi_wp2
    exact hK
  case body =>
    rintro l pre x W ⟨⟨⟨hS, hP, hR⟩, hN⟩, hB⟩ _
    have c1 := hS.cell
    have c2 := hP.cell
    have c3 := hR.cell
    have f1 := hS.frozen
    gi_wp2
    refine ⟨(KeepsOthers.setCell _ _ _).from _, ⟨(Below.refl w.heap.size W).setCell (p := ⟨w.heap.size + 1 + 1, 0, none⟩) (by simp; omega) _, ?_⟩, ⟨⟨?_, hP.other (by omega) _, hR.other (by omega) _⟩, hN.other (by omega) _⟩, hB.setCell (p := ⟨w.heap.size + 1 + 1, 0, none⟩) (by simp; omega) _⟩
    · exact (hN.other (by omega) _).trans (Eq.symm hN)
    · rw [vaW_snoc]; exact hS.set _
  case done =>
    rintro D ys W hD rfl ⟨⟨⟨hS, hP, hR⟩, hN⟩, hB⟩ hK
    have c1 := hS.cell
    have f1 := hS.frozen
    gi_wp2
    refine ⟨by simp, .inl ⟨_, _, rfl, run_takeDeferred hK, ?_⟩⟩
    exact ⟨_, results_tmp rfl _ _ _, rfl, hB.trans (belowK_b (w := w) (Nat.le_refl _) W D _ _ (by simp at hD; omega) hK rfl rfl)⟩
  case stop =>
    rintro D c pre W _ _ h _
    exact h.elim
end Go.Proofs
namespace Go.Am
open Go.Proofs Go.RowKit
theorem flat_ones {g : Nat → List Value} {h : Nat → Value} : ∀ n, (∀ i, i < n → g i = [h i]) → (flat g n).length = n ∧ ∀ j, j < n → (flat g n)[j]? = some (h j)
  | 0, _ => ⟨rfl, fun j hj => absurd hj (Nat.not_lt_zero _)⟩
  | n + 1, hg => by
    obtain ⟨h1, h2⟩ := flat_ones n (fun i hi => hg i (by omega))
    have e : flat g (n + 1) = flat g n ++ [h n] := by show flat g n ++ g n = _; rw [hg n (by omega)]
    rw [e]
    refine ⟨by simp [h1], fun j hj => ?_⟩
    rcases Nat.lt_or_ge j n with q | q
    · rw [List.getElem?_append_left (by omega)]; exact h2 j q
    · obtain rfl : j = n := by omega
      rw [List.getElem?_append_right (by omega), h1, Nat.sub_self]; rfl
theorem wr64 (x : Int) (h : -9223372036854775808 ≤ x ∧ x ≤ 9223372036854775807) : wrap64 x = x := by unfold wrap64; omega
theorem vaW_h {p r : Int} {n : Nat} {f : Nat → Int} (hp : 0 < p ∧ p ≤ 1000) (hr : 0 ≤ r ∧ r ≤ 1000) (hf : ∀ j, j < n → 0 ≤ f j ∧ f j ≤ 1000) : ∀ k, k ≤ n → vaW p r (uptoL (bkF f n) k) = hG p r 0 f n k
  | 0, _ => rfl
  | k + 1, hk => by
    rw [uptoL_succ, vaW_snoc, vaW_h hp hr hf k (by omega)]
    have h1 := hG_bd (p := p) hp.1 r 0 f n ⟨Int.le_refl _, hp.1⟩ k
    have h2 := mul_bd (a := hG p r 0 f n k) (b := r) (A := 1000) (B := 1000) (by omega) hr
    have h3 := hf (n - 1 - k) (by omega)
    show (wrap64 (wrap64 (hG p r 0 f n k * r) + f (n - 1 - k))).tmod p = (hG p r 0 f n k * r + f (n - 1 - k)) % p
    rw [wr64 (hG p r 0 f n k * r) (by omega), wr64 _ (by omega), Int.tmod_eq_emod_of_nonneg (by omega)]
theorem c_valueAt {p r : Int} {n : Nat} {f : Nat → Int} (hn : n ≤ 1000) (hp : 0 < p ∧ p ≤ 1000) (hr : 0 ≤ r ∧ r ≤ 1000) (hf : ∀ j, j < n → 0 ≤ f j ∧ f j ≤ 1000) :
    ACalls Tryz.prog TB 63 [.int .i64 p, rowA n f, .int .i64 r] (.int .i64 (hG p r 0 f n n)) [] where
  ent := enters_of Tryz.func63 (by kernel_rfl) rfl
  go := fun w I cs hI ha => by
    match cs, ha with
    | [c0, c1, c2], ⟨h0, h1, h2, _⟩ =>
      have e0 : c0 = .int .i64 p := by have h : [c0] = [Value.int .i64 p] := h0; exact (List.cons.inj h).1
      have e2 : c2 = .int .i64 r := by have h : [c2] = [Value.int .i64 r] := h2; exact (List.cons.inj h).1
      subst e0 e2
      obtain ⟨A, cap, e1, _, _, h3⟩ := (show FL _ (rowA n f) [c1] from h1)
      obtain rfl : c1 = .slice A n cap := (List.cons.inj e1).1
      have hI2 : IntsB w.heap.size w A n f := by
        rcases h3 with h3 | ⟨b, o, g, rfl, hJ, ⟨cur, e, fr, hc, hs⟩, hg⟩
        · exact .inl h3
        · refine .inr ⟨b, o, rfl, hI b hJ, fun j hj => ?_⟩
          obtain ⟨_, h4⟩ := flat_ones (g := g) (h := fun j => .int .i64 (f j)) n (fun i hi => (hg i hi).1)
          have h5 := hs j _ (h4 j hj)
          have h6 : w.heap[b]? = some (.cells cur e fr) := hc
          simp only [World.cell?, h6]
          exact h5
      have h := (callsIn_wide (n := 3)).1 (valueAt_in Fence.wide 3 trivial trivial trivial rfl (Nat.le_refl _) p r (by omega) A n cap f hn w hI2)
      refine h.mono ?_
      rintro e w' ⟨rfl, hB⟩
      refine ⟨_, ⟨fun _ _ => 0, fun _ _ => .any⟩, rfl, ⟨hB.os, hB.tape, hB.output, hB.size, fun b hb _ => hB.block b hb, fun k i sh c e => ?_, fun k i k2 i2 e => ?_, fun k i e => ?_, fun b hb => ⟨hI b hb, fun h => h⟩, fun b h => h.elim⟩, ?_⟩
      · cases e
      · exact absurd rfl e
      · exact absurd rfl e
      · show [_] = [_]
        rw [vaW_h hp hr hf n (Nat.le_refl n)]
end Go.Am

set_option maxRecDepth 4000
namespace Go.Am
attribute [local irreducible] retQ retQp
open Go.Proofs
theorem c_n {p n : Int} {T : Nat → Nat → Nat → Int} {fo : Nat → Int} : ACalls Tryz.prog TB 38 [.cptr (algA p n T fo)] (.int .i64 n) [] := by
  refine acalls_of tokTB Tryz.func38 rfl rfl (Nat.le_of_ble_eq_true rfl) ?_
  apply sr tokTB (by kernel_rfl)
  · intro RR hRR
    refine wa ?_
    exact hRR
  apply sr tokTB (by kernel_rfl)
  · intro RR hRR
    refine wm ?_
    refine w_nilc rfl ?_
    refine w_fac rfl und32 rfl kn2 nz2 (by decide) rfl (by constructor) ?_
    refine w_ldc rfl kn2 (by constructor) (by exact sz2.symm) (by exact ag2.symm) ?_
    refine wa ?_
    exact hRR
  refine snd_ret ?_
  exact rt (T := TB) (fun V => by first | exact m_bool rfl | exact m_int rfl)
theorem c_l01In {n lo hi : Int} : ACalls Tryz.prog TB 49 [.int .i64 n, .int .i64 lo, .int .i64 hi] (.bool (decide (lo ≤ n) && decide (n ≤ hi))) [] := by
  refine acalls_of tokTB Tryz.func49 rfl rfl (Nat.le_of_ble_eq_true rfl) ?_
  apply sr tokTB (by kernel_rfl)
  · intro RR hRR
    refine wa ?_
    exact hRR
  apply srG (env' := (6, .bool (decide (lo ≤ n) && decide (n ≤ hi))) :: (14, .bool (decide (lo ≤ n) && decide (n ≤ hi))) :: (13, .any) :: (12, .any) :: (11, .any) :: (10, _) :: (9, _) :: (8, _) :: (7, _) :: _) tokTB (by kernel_rfl)
  · intro RR hRR
    refine wm ?_
    refine wm ?_
    refine w_geq rfl rfl ?_
    refine wm ?_
    refine w_g rfl rfl (fun hg3 => ?_) (fun hg3 => ?_)
    · skip
      refine wm ?_
      refine w_g_on rfl rfl hg3 ?_
      refine wm ?_
      refine w_g_on rfl rfl hg3 ?_
      refine w_leq rfl rfl ?_
      refine w_pick_1 rfl hg3 (by constructor) ?_
      refine wa ?_
      try simp only [Int.toNat_natCast] at hg3
      exact hRR _ (EL.cons (.inr (by first | rfl | (simp only [hg3, els]; done) | (simp only [hg3, els]; rfl) | (simp [hg3]; done) | (clear hRR; simp_all; done))) (EL.cons (.inr (by first | rfl | (simp only [hg3, els]; done) | (simp only [hg3, els]; rfl) | (simp [hg3]; done) | (clear hRR; simp_all; done))) (EL.cons (.inl rfl) (EL.cons (.inl rfl) (EL.cons (.inl rfl) (EL.cons (.inr rfl) (EL.cons (.inr rfl) (EL.cons (.inr rfl) (EL.cons (.inr rfl) (EL.refl _))))))))))
    · have hg3 := eq_false_of_ne_true hg3
      refine w_g_off rfl rfl (by rw [hg3]; decide) ?_
      refine w_g_off rfl rfl (by rw [hg3]; decide) ?_
      refine w_pick_0 rfl hg3 (by constructor) ?_
      refine wa ?_
      try simp only [Int.toNat_natCast] at hg3
      exact hRR _ (EL.cons (.inr (by first | rfl | (simp only [hg3, els]; done) | (simp only [hg3, els]; rfl) | (simp [hg3]; done) | (clear hRR; simp_all; done))) (EL.cons (.inr (by first | rfl | (simp only [hg3, els]; done) | (simp only [hg3, els]; rfl) | (simp [hg3]; done) | (clear hRR; simp_all; done))) (EL.cons (.inl rfl) (EL.cons (.inl rfl) (EL.cons (.inl rfl) (EL.cons (.inr rfl) (EL.cons (.inr rfl) (EL.cons (.inr rfl) (EL.cons (.inr rfl) (EL.refl _))))))))))
  refine snd_ret ?_
  exact rt (T := TB) (fun V => by first | exact m_bool rfl | exact m_int rfl)
theorem c_in {n lo hi : Int} : ACalls Tryz.prog TB 45 [.int .i64 n, .int .i64 lo, .int .i64 hi] (.bool (decide (lo ≤ n) && decide (n ≤ hi))) [] := by
  refine acalls_of tokTB Tryz.func45 rfl rfl (Nat.le_of_ble_eq_true rfl) ?_
  apply sr tokTB (by kernel_rfl)
  · intro RR hRR
    refine wa ?_
    exact hRR
  apply srG (env' := (6, .bool (decide (lo ≤ n) && decide (n ≤ hi))) :: (14, .bool (decide (lo ≤ n) && decide (n ≤ hi))) :: (13, .any) :: (12, .any) :: (11, .any) :: (10, _) :: (9, _) :: (8, _) :: (7, _) :: _) tokTB (by kernel_rfl)
  · intro RR hRR
    refine wm ?_
    refine wm ?_
    refine w_geq rfl rfl ?_
    refine wm ?_
    refine w_g rfl rfl (fun hg3 => ?_) (fun hg3 => ?_)
    · skip
      refine wm ?_
      refine w_g_on rfl rfl hg3 ?_
      refine wm ?_
      refine w_g_on rfl rfl hg3 ?_
      refine w_leq rfl rfl ?_
      refine w_pick_1 rfl hg3 (by constructor) ?_
      refine wa ?_
      try simp only [Int.toNat_natCast] at hg3
      exact hRR _ (EL.cons (.inr (by first | rfl | (simp only [hg3, els]; done) | (simp only [hg3, els]; rfl) | (simp [hg3]; done) | (clear hRR; simp_all; done))) (EL.cons (.inr (by first | rfl | (simp only [hg3, els]; done) | (simp only [hg3, els]; rfl) | (simp [hg3]; done) | (clear hRR; simp_all; done))) (EL.cons (.inl rfl) (EL.cons (.inl rfl) (EL.cons (.inl rfl) (EL.cons (.inr rfl) (EL.cons (.inr rfl) (EL.cons (.inr rfl) (EL.cons (.inr rfl) (EL.refl _))))))))))
    · have hg3 := eq_false_of_ne_true hg3
      refine w_g_off rfl rfl (by rw [hg3]; decide) ?_
      refine w_g_off rfl rfl (by rw [hg3]; decide) ?_
      refine w_pick_0 rfl hg3 (by constructor) ?_
      refine wa ?_
      try simp only [Int.toNat_natCast] at hg3
      exact hRR _ (EL.cons (.inr (by first | rfl | (simp only [hg3, els]; done) | (simp only [hg3, els]; rfl) | (simp [hg3]; done) | (clear hRR; simp_all; done))) (EL.cons (.inr (by first | rfl | (simp only [hg3, els]; done) | (simp only [hg3, els]; rfl) | (simp [hg3]; done) | (clear hRR; simp_all; done))) (EL.cons (.inl rfl) (EL.cons (.inl rfl) (EL.cons (.inl rfl) (EL.cons (.inr rfl) (EL.cons (.inr rfl) (EL.cons (.inr rfl) (EL.cons (.inr rfl) (EL.refl _))))))))))
  refine snd_ret ?_
  exact rt (T := TB) (fun V => by first | exact m_bool rfl | exact m_int rfl)
theorem c_l01Mod {p x : Int} (hp : 0 < p) (hp2 : p < 4294967296) : ACalls Tryz.prog TB 57 [.int .i64 p, .int .i64 x] (.int .i64 (x % p)) [] := by
  have h1 := tmod_lo x hp
  have h2 := tmod_hi x hp
  refine acalls_of tokTB Tryz.func57 rfl rfl (Nat.le_of_ble_eq_true rfl) ?_
  apply sr tokTB (by kernel_rfl)
  · intro RR hRR
    refine wa ?_
    exact hRR
  apply sr tokTB (by kernel_rfl)
  · intro RR hRR
    refine wm ?_
    refine wm ?_
    refine w_rem rfl rfl (by first | assumption | omega) ?_
    refine wm ?_
    refine y_add rfl rfl ?_
    refine wm ?_
    refine w_rem rfl rfl (by first | assumption | omega) ?_
    refine wa ?_
    exact hRR
  refine snd_ret ?_
  exact rt (T := TB) (fun V => m_int (tmod_add hp))
theorem c_rest {p x : Int} (hp : 0 < p) (hp2 : p < 4294967296) : ACalls Tryz.prog TB 39 [.int .i64 x, .int .i64 p] (.int .i64 (x % p)) [] := by
  have h1 := tmod_lo x hp
  have h2 := tmod_hi x hp
  refine acalls_of tokTB Tryz.func39 rfl rfl (Nat.le_of_ble_eq_true rfl) ?_
  apply sr tokTB (by kernel_rfl)
  · intro RR hRR
    refine wa ?_
    exact hRR
  apply sr tokTB (by kernel_rfl)
  · intro RR hRR
    refine wm ?_
    refine wm ?_
    refine w_rem rfl rfl (by first | assumption | omega) ?_
    refine wm ?_
    refine y_add rfl rfl ?_
    refine wm ?_
    refine w_rem rfl rfl (by first | assumption | omega) ?_
    refine wa ?_
    exact hRR
  refine snd_ret ?_
  exact rt (T := TB) (fun V => m_int (tmod_add hp))
theorem c_basis {i : Nat} (hi : i < 6) : ACalls Tryz.prog TB 90 [.int .i64 (i : Int)] (vecA (eF i)) [] := by
  refine acalls_of tokTB Tryz.func90 rfl rfl (Nat.le_of_ble_eq_true rfl) ?_
  apply sr tokTB (by kernel_rfl)
  · intro RR hRR
    refine w_alloc kn30 rfl zr30 ?_
    exact hRR
  apply sr tokTB (by kernel_rfl)
  · intro RR hRR
    refine w_bld_a kn30 zr30 und30 kn5 (fun _ => (by exact sz5.symm)) trivial rfl (by exact sz5.symm) ?_
    refine w_alloc kn30 rfl zr30 ?_
    refine w_stw rfl (by constructor) kn30 rfl (by exact trivial) (sx) (by exact sz30.symm) ?_
    exact hRR
  apply sr tokTB (by kernel_rfl)
  · intro RR hRR
    refine wm ?_
    refine w_iap rfl rfl und30 kn5 rfl (by exact sz5.symm) rfl ?_ ?_
    · exact ⟨by omega, by omega⟩
    first | refine w_stw rfl (by constructor) kn5 rfl (by exact trivial) (sx) (by exact sz5.symm) ?_ | refine w_sti rfl rfl kn5 rfl (by exact trivial) (by exact sz5.symm) ?_ | refine w_store rfl (HV.eq (by constructor)) kn5 rfl (by exact trivial) (sx) (by exact sz5.symm) (pin_) ?_ | refine w_store rfl (HV.eq (by constructor)) kn5 rfl (by exact trivial) (by exact trivial) (by exact sz5.symm) rfl ?_
    exact hRR
  apply sr tokTB (by kernel_rfl)
  · intro RR hRR
    refine w_ldp rfl kn30 rfl (by constructor) (by exact sz30.symm) (by exact ag30.symm) ?_
    refine w_stw rfl (by constructor) kn30 rfl (by exact trivial) (sx) (by exact sz30.symm) ?_
    exact hRR
  refine snd_ret ?_
  exact rt_c (T := TB) rfl kn30 rfl sz30.symm ag30.symm (fun V => m_vec (fun j hj => rfl))
end Go.Am

set_option maxRecDepth 4000
namespace Go.Am
attribute [local irreducible] retQ retQp
open Go.Proofs
theorem c_isVector {p n : Int} {v : Nat → Int} (hv : B8 v) : ACalls Tryz.prog TB 70 [vecA v, .int .i64 n, .int .i64 p] (.bool (decide (smP p n v))) [] := by
  refine acalls_of tokTB Tryz.func70 rfl rfl (Nat.le_of_ble_eq_true rfl) ?_
  apply sr tokTB (by kernel_rfl)
  · intro RR hRR
    refine w_boxc (HV.eq (by constructor)) (by exact trivial) ?_
    refine wa ?_
    exact hRR
  refine snd_seq ?_
  apply sr tokTB (by kernel_rfl)
  · intro RR hRR
    refine w_ldc rfl kn30 (by constructor) (by exact sz30.symm) (by exact ag30.symm) ?_
    refine wm ?_
    exact hRR
  refine snd_block ?_
  refine snd_loop (S := Nat) (fun i => ([(1, .int .i64 n), (2, .int .i64 p), (9, vecA v), (10, .int .i64 (i : Int))], [])) (fun i => i ≤ 6 ∧ ∀ j, j < i → smG p n v j) (fun i => 6 - i) (0) ρ0 ?_ ?_ ?_
  · exact ⟨⟨(mi), (mi), (m_vec (fun _ _ => rfl)), (mi), trivial⟩, trivial, trivial⟩
  · exact ⟨Nat.zero_le _, fun j hj => by omega⟩
  intro i hi0
  refine sq (env2 := [(1, .int .i64 n), (2, .int .i64 p), (9, vecA v), (10, .int .i64 (i : Int))]) (ol2 := []) rfl rfl ?_
  obtain ⟨hi1, hi2⟩ := hi0
  apply sr tokTB (by kernel_rfl)
  · intro RR hRR
    refine w_lss rfl rfl ?_
    exact hRR
  refine snd_seq ?_
  refine snd_cond _ rfl (fun hc11 => ?_) (fun hc11 => ?_)
  · try simp only [hcs] at hc11
    refine snd_skip ?_
    refine snd_seq ?_
    refine snd_block ?_
    apply sr tokTB (by kernel_rfl)
    · intro RR hRR
      refine wm ?_
      refine w_ixa rfl rfl und30 kn5 (by exact sz5.symm) ?_ (by constructor) (by exact ag5.symm) ?_
      · exact ⟨by omega, by omega⟩
      refine wa ?_
      refine wa ?_
      exact hRR
    apply srG (env' := (26, .bool (decide (p ≤ v i) || (decide (n ≤ (i : Int)) && decide (v i ≠ 0)))) :: (25, .any) :: (24, .any) :: (23, .any) :: (22, .any) :: (21, .any) :: (20, .any) :: (19, .any) :: (18, _) :: (17, _) :: (16, _) :: (15, _) :: (14, _) :: _) tokTB (by kernel_rfl)
    · intro RR hRR
      refine wm ?_
      refine y_conv rfl und5 und2 ?_
      refine wm ?_
      refine w_geq rfl rfl ?_
      refine wm ?_
      refine w_g rfl rfl (fun hg4 => ?_) (fun hg4 => ?_)
      · skip
        refine wm ?_
        refine w_g_on rfl rfl hg4 ?_
        refine wm ?_
        refine w_g_on rfl rfl hg4 ?_
        refine w_geq rfl rfl ?_
        refine w_g_on rfl rfl hg4 ?_
        refine wm ?_
        refine w_g rfl rfl (fun hg8 => ?_) (fun hg8 => ?_)
        · skip
          refine wm ?_
          refine w_g_on rfl rfl hg8 ?_
          refine w_neq rfl rfl ?_
          refine w_g_on rfl rfl hg4 ?_
          refine w_pick_1 rfl hg8 (by constructor) ?_
          refine w_pick_0 rfl hg4 (by constructor) ?_
          try simp only [Int.toNat_natCast] at hg4 hg8
          exact hRR _ (EL.cons (.inr (by first | rfl | (simp only [hg4, hg8, els]; done) | (simp only [hg4, hg8, els]; rfl) | (simp [hg4, hg8]; done) | (clear hRR; simp_all; done) | (exfalso; simp only [hg4, Bool.not_false, Bool.not_true, reduceCtorEq] at hg8; done))) (EL.cons (.inl rfl) (EL.cons (.inl rfl) (EL.cons (.inl rfl) (EL.cons (.inl rfl) (EL.cons (.inl rfl) (EL.cons (.inl rfl) (EL.cons (.inl rfl) (EL.cons (.inr rfl) (EL.cons (.inr rfl) (EL.cons (.inr rfl) (EL.cons (.inr rfl) (EL.cons (.inr rfl) (EL.refl _))))))))))))))
        · have hg8 := eq_false_of_ne_true hg8
          refine w_g_off rfl rfl (by rw [hg8]; decide) ?_
          refine w_g_on rfl rfl hg4 ?_
          refine w_pick_0 rfl hg8 (by constructor) ?_
          refine w_pick_0 rfl hg4 (by constructor) ?_
          try simp only [Int.toNat_natCast] at hg4 hg8
          exact hRR _ (EL.cons (.inr (by first | rfl | (simp only [hg4, hg8, els]; done) | (simp only [hg4, hg8, els]; rfl) | (simp [hg4, hg8]; done) | (clear hRR; simp_all; done) | (exfalso; simp only [hg4, Bool.not_false, Bool.not_true, reduceCtorEq] at hg8; done))) (EL.cons (.inl rfl) (EL.cons (.inl rfl) (EL.cons (.inl rfl) (EL.cons (.inl rfl) (EL.cons (.inl rfl) (EL.cons (.inl rfl) (EL.cons (.inl rfl) (EL.cons (.inr rfl) (EL.cons (.inr rfl) (EL.cons (.inr rfl) (EL.cons (.inr rfl) (EL.cons (.inr rfl) (EL.refl _))))))))))))))
      · have hg4 := eq_true_of_ne_false hg4
        refine w_g_off rfl rfl (by rw [hg4]; decide) ?_
        refine w_g_off rfl rfl (by rw [hg4]; decide) ?_
        refine w_g_off rfl rfl (by rw [hg4]; decide) ?_
        refine w_g_und rfl rfl ?_
        refine w_g_und rfl rfl ?_
        refine w_g_off rfl rfl (by rw [hg4]; decide) ?_
        refine w_pick_1 rfl hg4 (by constructor) ?_
        try simp only [Int.toNat_natCast] at hg4
        exact hRR _ (EL.cons (.inr (by first | rfl | (simp only [hg4, els]; done) | (simp only [hg4, els]; rfl) | (simp [hg4]; done) | (clear hRR; simp_all; done))) (EL.cons (.inl rfl) (EL.cons (.inl rfl) (EL.cons (.inl rfl) (EL.cons (.inl rfl) (EL.cons (.inl rfl) (EL.cons (.inl rfl) (EL.cons (.inl rfl) (EL.cons (.inr rfl) (EL.cons (.inr rfl) (EL.cons (.inr rfl) (EL.cons (.inr rfl) (EL.cons (.inr rfl) (EL.refl _))))))))))))))
    refine snd_cond _ rfl (fun hc26 => ?_) (fun hc26 => ?_)
    · skip
      apply sr tokTB (by kernel_rfl)
      · intro RR hRR
        refine wa ?_
        exact hRR
      refine snd_ret ?_
      exact rt (T := TB) (fun V => m_bool (by symm; rw [decide_eq_false_iff_not]; intro h; rw [smG_iff.1 (h i (by omega))] at hc26; cases hc26))
    · skip
      refine snd_skip ?_
      apply lr tokTB (by kernel_rfl)
      · intro RR hRR
        refine y_add rfl rfl ?_
        refine wm ?_
        exact hRR
      refine ⟨i + 1, ρ0, ?_, ⟨by omega, all_step hi2 (smG_iff.2 hc26)⟩, (by dsimp only; omega)⟩
      exact ⟨⟨(mi), (mi), (m_vec (fun _ _ => rfl)), (mi), trivial⟩, trivial, trivial⟩
  · try simp only [hcs] at hc11
    refine snd_exit ?_
    apply sr tokTB (by kernel_rfl)
    · intro RR hRR
      refine wa ?_
      exact hRR
    refine snd_ret ?_
    exact rt (T := TB) (fun V => m_bool (by symm; rw [decide_eq_true_eq]; exact fun j hj => hi2 j (by omega)))
end Go.Am

set_option maxRecDepth 4000
namespace Go.Am
attribute [local irreducible] retQ retQp
open Go.Proofs
theorem c_times {p : Int} {n : Nat} {T : Nat → Nat → Nat → Int} {fo u v : Nat → Int} (hp : 0 < p) (hp2 : p < 256) (hn : n ≤ 6) (hT : B8T T) (hu : B8 u) (hv : B8 v) : ACalls Tryz.prog TB 37 [.cptr (algA p (n : Int) T fo), vecA u, vecA v] (vecA (timesF p n T u v)) [] := by
  refine acalls_of tokTB Tryz.func37 rfl rfl (Nat.le_of_ble_eq_true rfl) ?_
  apply sr tokTB (by kernel_rfl)
  · intro RR hRR
    refine w_boxc (HV.eq (by constructor)) (by exact trivial) ?_
    refine w_boxc (HV.eq (by constructor)) (by exact trivial) ?_
    refine w_alloc kn30 rfl zr30 ?_
    exact hRR
  apply sr tokTB (by kernel_rfl)
  · intro RR hRR
    refine w_bld_a kn91 zr91 und91 kn2 (fun _ => (by exact sz2.symm)) trivial rfl (by exact sz2.symm) ?_
    refine w_alloc kn91 rfl zr91 ?_
    refine w_stw rfl (by constructor) kn91 rfl (by exact trivial) (sx) (by exact sz91.symm) ?_
    exact hRR
  refine snd_seq ?_
  apply sr tokTB (by kernel_rfl)
  · intro RR hRR
    refine wm ?_
    refine y_call rfl (ec exn) (c_n) ?_
    refine wm ?_
    exact hRR
  refine snd_block ?_
  refine snd_loop (S := Nat) (fun i => ([(0, .cptr (algA p (n : Int) T fo)), (4, .cptr (vecA u)), (5, .cptr (vecA v)), (6, .ptr 6 0 [] 0 (vecA (fun _ => 0))), (7, .ptr 7 0 [] 0 (v64A (fun _ => 0))), (17, .int .i64 (n : Int)), (18, .int .i64 (i : Int))], [(6, .one (vecA (fun _ => 0)) (vecA (fun _ => 0))), (7, .one (v64A (fun _ => 0)) (v64A (accF T u v n i 0)))])) (fun i => i ≤ n) (fun i => n - i) (0) ρ0 ?_ ?_ ?_
  · exact ⟨⟨m_calg, (m_cvec (fun _ _ => rfl)), (m_cvec (fun _ _ => rfl)), ⟨rfl, rfl, rfl, rfl, rfl⟩, ⟨rfl, rfl, rfl, rfl, rfl⟩, (mi), (mi), trivial⟩, ⟨⟨rfl, (sx), (by exact mt_vec (fun _ _ => rfl))⟩, ⟨rfl, (sx), (by exact mt_vec (fun k _ => by simp [accF, sumZ]))⟩, trivial⟩, ⟨⟨(fun h => by first | exact ⟨rfl, rfl⟩ | exact absurd h (by decide)), (fun h => by first | exact ⟨rfl, rfl⟩ | exact absurd h (by decide)), trivial⟩, ⟨(fun h => by first | exact ⟨rfl, rfl⟩ | exact absurd h (by decide)), (fun h => by first | exact ⟨rfl, rfl⟩ | exact absurd h (by decide)), trivial⟩, trivial⟩⟩
  · exact Nat.zero_le _
  intro i hi0
  refine sq (env2 := [(0, .cptr (algA p (n : Int) T fo)), (4, .cptr (vecA u)), (5, .cptr (vecA v)), (6, .ptr 6 0 [] 0 (vecA (fun _ => 0))), (7, .ptr 7 0 [] 0 (v64A (fun _ => 0))), (17, .int .i64 (n : Int)), (18, .int .i64 (i : Int))]) (ol2 := [(6, .one (vecA (fun _ => 0)) (vecA (fun _ => 0))), (7, .one (v64A (fun _ => 0)) (v64A (accF T u v n i 0)))]) rfl rfl ?_
  apply sr tokTB (by kernel_rfl)
  · intro RR hRR
    refine w_lss rfl rfl ?_
    exact hRR
  refine snd_seq ?_
  refine snd_cond _ rfl (fun hc19 => ?_) (fun hc19 => ?_)
  · try simp only [hcs] at hc19
    refine snd_skip ?_
    refine snd_seq ?_
    refine snd_block ?_
    apply sr tokTB (by kernel_rfl)
    · intro RR hRR
      refine wm ?_
      refine wa ?_
      exact hRR
    apply sr tokTB (by kernel_rfl)
    · intro RR hRR
      refine wm ?_
      refine y_call rfl (ec exn) (c_n) ?_
      refine wm ?_
      exact hRR
    refine snd_block ?_
    refine snd_loop (S := Nat) (fun j => ([(0, .cptr (algA p (n : Int) T fo)), (4, .cptr (vecA u)), (5, .cptr (vecA v)), (6, .ptr 6 0 [] 0 (vecA (fun _ => 0))), (7, .ptr 7 0 [] 0 (v64A (fun _ => 0))), (17, .int .i64 (n : Int)), (18, .int .i64 (i : Int)), (8, .int .i64 (i : Int)), (22, .int .i64 (n : Int)), (23, .int .i64 (j : Int))], [(6, .one (vecA (fun _ => 0)) (vecA (fun _ => 0))), (7, .one (v64A (fun _ => 0)) (v64A (accF T u v n i j)))])) (fun j => j ≤ n) (fun j => n - j) (0) ρ0 ?_ ?_ ?_
    · exact ⟨⟨m_calg, (m_cvec (fun _ _ => rfl)), (m_cvec (fun _ _ => rfl)), ⟨rfl, rfl, rfl, rfl, rfl⟩, ⟨rfl, rfl, rfl, rfl, rfl⟩, (mi), (mi), (mi), (mi), (mi), trivial⟩, ⟨⟨rfl, (sx), (by exact mt_vec (fun _ _ => rfl))⟩, ⟨rfl, (sx), (by exact mt_vec (fun _ _ => rfl))⟩, trivial⟩, ⟨⟨(fun h => by first | exact ⟨rfl, rfl⟩ | exact absurd h (by decide)), (fun h => by first | exact ⟨rfl, rfl⟩ | exact absurd h (by decide)), trivial⟩, ⟨(fun h => by first | exact ⟨rfl, rfl⟩ | exact absurd h (by decide)), (fun h => by first | exact ⟨rfl, rfl⟩ | exact absurd h (by decide)), trivial⟩, trivial⟩⟩
    · exact Nat.zero_le _
    intro j hi2
    refine sq (env2 := [(0, .cptr (algA p (n : Int) T fo)), (4, .cptr (vecA u)), (5, .cptr (vecA v)), (6, .ptr 6 0 [] 0 (vecA (fun _ => 0))), (7, .ptr 7 0 [] 0 (v64A (fun _ => 0))), (17, .int .i64 (n : Int)), (18, .int .i64 (i : Int)), (8, .int .i64 (i : Int)), (22, .int .i64 (n : Int)), (23, .int .i64 (j : Int))]) (ol2 := [(6, .one (vecA (fun _ => 0)) (vecA (fun _ => 0))), (7, .one (v64A (fun _ => 0)) (v64A (accF T u v n i j)))]) rfl rfl ?_
    apply sr tokTB (by kernel_rfl)
    · intro RR hRR
      refine w_lss rfl rfl ?_
      exact hRR
    refine snd_seq ?_
    refine snd_cond _ rfl (fun hc24 => ?_) (fun hc24 => ?_)
    · try simp only [hcs] at hc24
      refine snd_skip ?_
      refine snd_seq ?_
      refine snd_block ?_
      apply sr tokTB (by kernel_rfl)
      · intro RR hRR
        refine wm ?_
        refine wa ?_
        exact hRR
      apply sd tokTB mixed (by kernel_rfl) (by kernel_rfl)
      · intro RR hRR
        refine wm ?_
        refine w_iac rfl rfl und30 kn5 (by exact sz5.symm) ?_ rfl ?_
        · exact ⟨by omega, by omega⟩
        first | refine w_ldc rfl kn5 (by constructor) (by exact sz5.symm) (by exact ag5.symm) ?_ | refine w_ldp rfl kn5 rfl (by constructor) (by exact sz5.symm) (by exact ag5.symm) ?_
        refine y_conv rfl und5 und2 ?_
        refine wm ?_
        refine w_iac rfl rfl und30 kn5 (by exact sz5.symm) ?_ rfl ?_
        · exact ⟨by omega, by omega⟩
        first | refine w_ldc rfl kn5 (by constructor) (by exact sz5.symm) (by exact ag5.symm) ?_ | refine w_ldp rfl kn5 rfl (by constructor) (by exact sz5.symm) (by exact ag5.symm) ?_
        refine y_conv rfl und5 und2 ?_
        refine w_mul rfl rfl (by exact w_uv hu hv i j) ?_
        refine wa ?_
        exact hRR
      refine snd_seq ?_
      apply sr tokTB (by kernel_rfl)
      · intro RR hRR
        refine wm ?_
        refine w_eql rfl rfl ?_
        exact hRR
      refine snd_cond _ rfl (fun hc36 => ?_) (fun hc36 => ?_)
      · try simp only [hcs] at hc36
        refine snd_exit ?_
        apply lr tokTB (by kernel_rfl)
        · intro RR hRR
          refine y_add rfl rfl ?_
          refine wm ?_
          exact hRR
        refine ⟨j + 1, ρ0, ?_, (by omega), (by dsimp only; omega)⟩
        exact ⟨⟨m_calg, (m_cvec (fun _ _ => rfl)), (m_cvec (fun _ _ => rfl)), ⟨rfl, rfl, rfl, rfl, rfl⟩, ⟨rfl, rfl, rfl, rfl, rfl⟩, (mi), (mi), (mi), (mi), (mi), trivial⟩, ⟨⟨rfl, (sx), (by exact mt_vec (fun _ _ => rfl))⟩, ⟨rfl, (sx), (by first | exact mt_vec (fun z _ => mix_all) | exact mt_vec (fun z _ => (acc_zero hc36).symm))⟩, trivial⟩, ⟨⟨(fun h => by first | exact ⟨rfl, rfl⟩ | exact absurd h (by decide)), (fun h => by first | exact ⟨rfl, rfl⟩ | exact absurd h (by decide)), trivial⟩, ⟨(fun h => by first | exact ⟨rfl, rfl⟩ | exact absurd h (by decide)), (fun h => by first | exact ⟨rfl, rfl⟩ | exact absurd h (by decide)), trivial⟩, trivial⟩⟩
      · try simp only [hcs] at hc36
        refine snd_skip ?_
        apply sr tokTB (by kernel_rfl)
        · intro RR hRR
          refine wm ?_
          refine y_call rfl (ec exn) (c_n) ?_
          refine wm ?_
          exact hRR
        refine snd_block ?_
        refine snd_loop (S := Nat) (fun k => ([(0, .cptr (algA p (n : Int) T fo)), (4, .cptr (vecA u)), (5, .cptr (vecA v)), (6, .ptr 6 0 [] 0 (vecA (fun _ => 0))), (7, .ptr 7 0 [] 0 (v64A (fun _ => 0))), (17, .int .i64 (n : Int)), (18, .int .i64 (i : Int)), (8, .int .i64 (i : Int)), (22, .int .i64 (n : Int)), (23, .int .i64 (j : Int)), (9, .int .i64 (j : Int)), (10, .int .i64 (u i * v j)), (38, .int .i64 (n : Int)), (39, .int .i64 (k : Int))], [(6, .one (vecA (fun _ => 0)) (vecA (fun _ => 0))), (7, .one (v64A (fun _ => 0)) (v64A (mixF (accF T u v n i (j + 1)) (accF T u v n i j) k)))])) (fun k => k ≤ n) (fun k => n - k) (0) ρ0 ?_ ?_ ?_
        · exact ⟨⟨m_calg, (m_cvec (fun _ _ => rfl)), (m_cvec (fun _ _ => rfl)), ⟨rfl, rfl, rfl, rfl, rfl⟩, ⟨rfl, rfl, rfl, rfl, rfl⟩, (mi), (mi), (mi), (mi), (mi), (mi), (mi), (mi), (mi), trivial⟩, ⟨⟨rfl, (sx), (by exact mt_vec (fun _ _ => rfl))⟩, ⟨rfl, (sx), (by exact mt_vec (fun k _ => by simp [mixF]))⟩, trivial⟩, ⟨⟨(fun h => by first | exact ⟨rfl, rfl⟩ | exact absurd h (by decide)), (fun h => by first | exact ⟨rfl, rfl⟩ | exact absurd h (by decide)), trivial⟩, ⟨(fun h => by first | exact ⟨rfl, rfl⟩ | exact absurd h (by decide)), (fun h => by first | exact ⟨rfl, rfl⟩ | exact absurd h (by decide)), trivial⟩, trivial⟩⟩
        · exact Nat.zero_le _
        intro k hi4
        refine sq (env2 := [(0, .cptr (algA p (n : Int) T fo)), (4, .cptr (vecA u)), (5, .cptr (vecA v)), (6, .ptr 6 0 [] 0 (vecA (fun _ => 0))), (7, .ptr 7 0 [] 0 (v64A (fun _ => 0))), (17, .int .i64 (n : Int)), (18, .int .i64 (i : Int)), (8, .int .i64 (i : Int)), (22, .int .i64 (n : Int)), (23, .int .i64 (j : Int)), (9, .int .i64 (j : Int)), (10, .int .i64 (u i * v j)), (38, .int .i64 (n : Int)), (39, .int .i64 (k : Int))]) (ol2 := [(6, .one (vecA (fun _ => 0)) (vecA (fun _ => 0))), (7, .one (v64A (fun _ => 0)) (v64A (mixF (accF T u v n i (j + 1)) (accF T u v n i j) k)))]) rfl rfl ?_
        apply sr tokTB (by kernel_rfl)
        · intro RR hRR
          refine w_lss rfl rfl ?_
          exact hRR
        refine snd_seq ?_
        refine snd_cond _ rfl (fun hc40 => ?_) (fun hc40 => ?_)
        · try simp only [hcs] at hc40
          refine snd_skip ?_
          refine snd_seq ?_
          refine snd_block ?_
          apply sr tokTB (by kernel_rfl)
          · intro RR hRR
            refine wm ?_
            refine wa ?_
            exact hRR
          apply ld tokTB mixed (by kernel_rfl) (by kernel_rfl)
          · intro RR hRR
            refine wm ?_
            refine w_iap rfl rfl und91 kn2 rfl (by exact sz2.symm) rfl ?_ ?_
            · exact ⟨by omega, by omega⟩
            first | refine w_ldc rfl kn2 (by constructor) (by exact sz2.symm) (by exact ag2.symm) ?_ | refine w_ldp rfl kn2 rfl (by constructor) (by exact sz2.symm) (by exact ag2.symm) ?_
            refine wm ?_
            refine wm ?_
            refine wm ?_
            refine wm ?_
            refine wm ?_
            refine w_nilc rfl ?_
            refine w_fac rfl und32 rfl kn29 nz29 (by decide) rfl (by constructor) ?_
            refine w_iac rfl rfl und29 kn28 (by exact sz28.symm) ?_ rfl ?_
            · exact ⟨by omega, by omega⟩
            refine w_iac rfl rfl und28 kn27 (by exact sz27.symm) ?_ rfl ?_
            · exact ⟨by omega, by omega⟩
            refine w_iac rfl rfl und27 kn5 (by exact sz5.symm) ?_ rfl ?_
            · exact ⟨by omega, by omega⟩
            first | refine w_ldc rfl kn5 (by constructor) (by exact sz5.symm) (by exact ag5.symm) ?_ | refine w_ldp rfl kn5 rfl (by constructor) (by exact sz5.symm) (by exact ag5.symm) ?_
            refine y_conv rfl und5 und2 ?_
            refine w_mul rfl rfl (by exact w_tm hu hv hT k i j) ?_
            refine w_add rfl rfl (by exact w_acc2 hu hv hT hn (by omega) (by omega) (by omega)) ?_
            refine w_iap rfl rfl und91 kn2 rfl (by exact sz2.symm) rfl ?_ ?_
            · exact ⟨by omega, by omega⟩
            first | refine w_stw rfl (by constructor) kn2 rfl (by exact trivial) (sx) (by exact sz2.symm) ?_ | refine w_sti rfl rfl kn2 rfl (by exact trivial) (by exact sz2.symm) ?_ | refine w_store rfl (HV.eq (by constructor)) kn2 rfl (by exact trivial) (sx) (by exact sz2.symm) (pin_) ?_ | refine w_store rfl (HV.eq (by constructor)) kn2 rfl (by exact trivial) (by exact trivial) (by exact sz2.symm) rfl ?_
            exact hRR
          apply lr tokTB (by kernel_rfl)
          · intro RR hRR
            refine y_add rfl rfl ?_
            refine wm ?_
            exact hRR
          refine ⟨k + 1, ρ0, ?_, (by omega), (by dsimp only; omega)⟩
          exact ⟨⟨m_calg, (m_cvec (fun _ _ => rfl)), (m_cvec (fun _ _ => rfl)), ⟨rfl, rfl, rfl, rfl, rfl⟩, ⟨rfl, rfl, rfl, rfl, rfl⟩, (mi), (mi), (mi), (mi), (mi), (mi), (mi), (mi), (mi), trivial⟩, ⟨⟨rfl, (sx), (by exact mt_vec (fun _ _ => rfl))⟩, ⟨rfl, (sx), (by exact mt_vec (fun z _ => upd_mix _ _ k z))⟩, trivial⟩, ⟨⟨(fun h => by first | exact ⟨rfl, rfl⟩ | exact absurd h (by decide)), (fun h => by first | exact ⟨rfl, rfl⟩ | exact absurd h (by decide)), trivial⟩, ⟨(fun h => by first | exact ⟨rfl, rfl⟩ | exact absurd h (by decide)), (fun h => by first | exact ⟨rfl, rfl⟩ | exact absurd h (by decide)), trivial⟩, trivial⟩⟩
        · try simp only [hcs] at hc40
          have hkn : n = k := by omega
          subst hkn
          refine snd_exit ?_
          apply lr tokTB (by kernel_rfl)
          · intro RR hRR
            refine y_add rfl rfl ?_
            refine wm ?_
            exact hRR
          refine ⟨j + 1, ρ0, ?_, (by omega), (by dsimp only; omega)⟩
          exact ⟨⟨m_calg, (m_cvec (fun _ _ => rfl)), (m_cvec (fun _ _ => rfl)), ⟨rfl, rfl, rfl, rfl, rfl⟩, ⟨rfl, rfl, rfl, rfl, rfl⟩, (mi), (mi), (mi), (mi), (mi), trivial⟩, ⟨⟨rfl, (sx), (by exact mt_vec (fun _ _ => rfl))⟩, ⟨rfl, (sx), (by first | exact mt_vec (fun z _ => mix_all) | exact mt_vec (fun z _ => (acc_zero hc36).symm))⟩, trivial⟩, ⟨⟨(fun h => by first | exact ⟨rfl, rfl⟩ | exact absurd h (by decide)), (fun h => by first | exact ⟨rfl, rfl⟩ | exact absurd h (by decide)), trivial⟩, ⟨(fun h => by first | exact ⟨rfl, rfl⟩ | exact absurd h (by decide)), (fun h => by first | exact ⟨rfl, rfl⟩ | exact absurd h (by decide)), trivial⟩, trivial⟩⟩
    · try simp only [hcs] at hc24
      have hin : n = j := by omega
      subst hin
      refine snd_exit ?_
      apply lr tokTB (by kernel_rfl)
      · intro RR hRR
        refine y_add rfl rfl ?_
        refine wm ?_
        exact hRR
      refine ⟨i + 1, ρ0, ?_, (by omega), (by dsimp only; omega)⟩
      exact ⟨⟨m_calg, (m_cvec (fun _ _ => rfl)), (m_cvec (fun _ _ => rfl)), ⟨rfl, rfl, rfl, rfl, rfl⟩, ⟨rfl, rfl, rfl, rfl, rfl⟩, (mi), (mi), trivial⟩, ⟨⟨rfl, (sx), (by exact mt_vec (fun _ _ => rfl))⟩, ⟨rfl, (sx), (by exact mt_vec (fun k _ => acc_next))⟩, trivial⟩, ⟨⟨(fun h => by first | exact ⟨rfl, rfl⟩ | exact absurd h (by decide)), (fun h => by first | exact ⟨rfl, rfl⟩ | exact absurd h (by decide)), trivial⟩, ⟨(fun h => by first | exact ⟨rfl, rfl⟩ | exact absurd h (by decide)), (fun h => by first | exact ⟨rfl, rfl⟩ | exact absurd h (by decide)), trivial⟩, trivial⟩⟩
  · try simp only [hcs] at hc19
    have hkn : n = i := by omega
    subst hkn
    refine snd_exit ?_
    apply sr tokTB (by kernel_rfl)
    · intro RR hRR
      refine w_bld_a kn30 zr30 und30 kn5 (fun _ => (by exact sz5.symm)) trivial rfl (by exact sz5.symm) ?_
      refine w_alloc kn30 rfl zr30 ?_
      refine w_stw rfl (by constructor) kn30 rfl (by exact trivial) (sx) (by exact sz30.symm) ?_
      exact hRR
    refine snd_seq ?_
    apply sr tokTB (by kernel_rfl)
    · intro RR hRR
      refine w_ldp rfl kn91 rfl (by constructor) (by exact sz91.symm) (by exact ag91.symm) ?_
      refine wm ?_
      exact hRR
    refine snd_block ?_
    refine snd_loop (S := Nat) (fun k => ([(0, .cptr (algA p (n : Int) T fo)), (6, .ptr 6 0 [] 0 (vecA (fun _ => 0))), (12, .ptr 12 0 [] 0 (vecA (fun _ => 0))), (64, v64A (accF T u v n n 0)), (65, .int .i64 (k : Int))], [(6, .one (vecA (fun _ => 0)) (vecA (fun _ => 0))), (12, .one (vecA (fun _ => 0)) (vecA (cutF (timesF p n T u v) k)))])) (fun k => k ≤ 6) (fun k => 6 - k) (0) ρ0 ?_ ?_ ?_
    · exact ⟨⟨m_calg, ⟨rfl, rfl, rfl, rfl, rfl⟩, ⟨rfl, rfl, rfl, rfl, rfl⟩, (m_vec (fun _ _ => rfl)), (mi), trivial⟩, ⟨⟨rfl, (sx), (by exact mt_vec (fun _ _ => rfl))⟩, ⟨rfl, (sx), (by exact mt_vec (fun k _ => rfl))⟩, trivial⟩, ⟨⟨(fun h => by first | exact ⟨rfl, rfl⟩ | exact absurd h (by decide)), (fun h => by first | exact ⟨rfl, rfl⟩ | exact absurd h (by decide)), trivial⟩, ⟨(fun h => by first | exact ⟨rfl, rfl⟩ | exact absurd h (by decide)), (fun h => by first | exact ⟨rfl, rfl⟩ | exact absurd h (by decide)), trivial⟩, trivial⟩⟩
    · exact Nat.zero_le _
    intro k hi6
    refine sq (env2 := [(0, .cptr (algA p (n : Int) T fo)), (6, .ptr 6 0 [] 0 (vecA (fun _ => 0))), (12, .ptr 12 0 [] 0 (vecA (fun _ => 0))), (64, v64A (accF T u v n n 0)), (65, .int .i64 (k : Int))]) (ol2 := [(6, .one (vecA (fun _ => 0)) (vecA (fun _ => 0))), (12, .one (vecA (fun _ => 0)) (vecA (cutF (timesF p n T u v) k)))]) rfl rfl ?_
    apply sr tokTB (by kernel_rfl)
    · intro RR hRR
      refine w_lss rfl rfl ?_
      exact hRR
    refine snd_seq ?_
    refine snd_cond _ rfl (fun hc66 => ?_) (fun hc66 => ?_)
    · try simp only [hcs] at hc66
      refine snd_skip ?_
      refine snd_seq ?_
      refine snd_block ?_
      apply sr tokTB (by kernel_rfl)
      · intro RR hRR
        refine wm ?_
        refine w_ixa rfl rfl und91 kn2 (by exact sz2.symm) ?_ (by constructor) (by exact ag2.symm) ?_
        · exact ⟨by omega, by omega⟩
        refine wa ?_
        refine wa ?_
        exact hRR
      apply lr tokTB (by kernel_rfl)
      · intro RR hRR
        refine wm ?_
        refine wm ?_
        refine wm ?_
        refine w_nilc rfl ?_
        refine w_fac rfl und32 rfl kn2 nz2 (by decide) rfl (by constructor) ?_
        refine w_ldc rfl kn2 (by constructor) (by exact sz2.symm) (by exact ag2.symm) ?_
        refine w_rem rfl rfl (by first | assumption | omega) ?_
        refine w_conv rfl und2 und5 (by exact w_fin2 hu hv hT hn hp hp2) ?_
        refine w_iap rfl rfl und30 kn5 rfl (by exact sz5.symm) rfl ?_ ?_
        · exact ⟨by omega, by omega⟩
        first | refine w_stw rfl (by constructor) kn5 rfl (by exact trivial) (sx) (by exact sz5.symm) ?_ | refine w_sti rfl rfl kn5 rfl (by exact trivial) (by exact sz5.symm) ?_ | refine w_store rfl (HV.eq (by constructor)) kn5 rfl (by exact trivial) (sx) (by exact sz5.symm) (pin_) ?_ | refine w_store rfl (HV.eq (by constructor)) kn5 rfl (by exact trivial) (by exact trivial) (by exact sz5.symm) rfl ?_
        exact hRR
      apply lr tokTB (by kernel_rfl)
      · intro RR hRR
        refine y_add rfl rfl ?_
        refine wm ?_
        exact hRR
      refine ⟨k + 1, ρ0, ?_, (by omega), (by dsimp only; omega)⟩
      exact ⟨⟨m_calg, ⟨rfl, rfl, rfl, rfl, rfl⟩, ⟨rfl, rfl, rfl, rfl, rfl⟩, (m_vec (fun _ _ => rfl)), (mi), trivial⟩, ⟨⟨rfl, (sx), (by exact mt_vec (fun _ _ => rfl))⟩, ⟨rfl, (sx), (by exact mt_vec (fun z _ => upd_cut _ k z))⟩, trivial⟩, ⟨⟨(fun h => by first | exact ⟨rfl, rfl⟩ | exact absurd h (by decide)), (fun h => by first | exact ⟨rfl, rfl⟩ | exact absurd h (by decide)), trivial⟩, ⟨(fun h => by first | exact ⟨rfl, rfl⟩ | exact absurd h (by decide)), (fun h => by first | exact ⟨rfl, rfl⟩ | exact absurd h (by decide)), trivial⟩, trivial⟩⟩
    · try simp only [hcs] at hc66
      have hk6 : k = 6 := by omega
      subst hk6
      refine snd_exit ?_
      apply sr tokTB (by kernel_rfl)
      · intro RR hRR
        refine w_ldp rfl kn30 rfl (by constructor) (by exact sz30.symm) (by exact ag30.symm) ?_
        refine w_stw rfl (by constructor) kn30 rfl (by exact trivial) (sx) (by exact sz30.symm) ?_
        exact hRR
      refine snd_ret ?_
      exact rt_c (T := TB) rfl kn30 rfl sz30.symm ag30.symm (fun V => m_vec (fun j hj => by simp [cutF, hj]))
end Go.Am

set_option maxRecDepth 4000
namespace Go.Am
attribute [local irreducible] retQ retQp
open Go.Proofs
theorem c_Index {m : Nat} {f : Nat → Int} {x : Int} (hm : m ≤ 1000000) : ACalls Tryz.prog TB 97 [.ro m (fun i => .int .i64 (f i)), .int .i64 x] (.int .i64 (idxF (fun i => decide (x = f i)) m)) [] := by
  refine acalls_of tokTB Tryz.func97 rfl rfl (Nat.le_of_ble_eq_true rfl) ?_
  apply sr tokTB (by kernel_rfl)
  · intro RR hRR
    refine wa ?_
    exact hRR
  refine snd_seq ?_
  apply sr tokTB (by kernel_rfl)
  · intro RR hRR
    refine wm ?_
    refine w_len_r rfl rfl und24 ?_
    refine wm ?_
    exact hRR
  refine snd_block ?_
  refine snd_loop (S := Nat) (fun i => ([(0, .ro m (fun i => .int .i64 (f i))), (1, .int .i64 x), (7, .int .i64 (m : Int)), (8, .int .i64 (i : Int))], [])) (fun i => i ≤ m ∧ ∀ j, j < i → decide (x = f j) = false) (fun i => m - i) (0) ρ0 ?_ ?_ ?_
  · exact ⟨⟨(by exact ⟨rfl, fun _ _ => rfl⟩), (mi), (mi), (mi), trivial⟩, trivial, trivial⟩
  · exact ⟨Nat.zero_le _, fun j hj => by omega⟩
  intro i hi0
  refine sq (env2 := [(0, .ro m (fun i => .int .i64 (f i))), (1, .int .i64 x), (7, .int .i64 (m : Int)), (8, .int .i64 (i : Int))]) (ol2 := []) rfl rfl ?_
  obtain ⟨hi1, hi2⟩ := hi0
  apply sr tokTB (by kernel_rfl)
  · intro RR hRR
    refine w_lss rfl rfl ?_
    exact hRR
  refine snd_seq ?_
  refine snd_cond _ rfl (fun hc9 => ?_) (fun hc9 => ?_)
  · try simp only [hcs] at hc9
    refine snd_skip ?_
    refine snd_seq ?_
    refine snd_block ?_
    apply sr tokTB (by kernel_rfl)
    · intro RR hRR
      refine wm ?_
      refine wa ?_
      exact hRR
    apply sr tokTB (by kernel_rfl)
    · intro RR hRR
      refine wm ?_
      refine wm ?_
      refine wm ?_
      refine w_iar rfl rfl und24 kn2 (by exact sz2.symm) ?_ rfl ?_
      · exact ⟨by omega, by omega⟩
      first | refine w_ldc rfl kn2 (by constructor) (by exact sz2.symm) (by exact ag2.symm) ?_ | refine w_ldp rfl kn2 rfl (by constructor) (by exact sz2.symm) (by exact ag2.symm) ?_
      refine w_eql rfl rfl ?_
      exact hRR
    refine snd_cond _ rfl (fun hc16 => ?_) (fun hc16 => ?_)
    · skip
      apply sr tokTB (by kernel_rfl)
      · intro RR hRR
        refine wm ?_
        refine wa ?_
        exact hRR
      refine snd_ret ?_
      exact rt (T := TB) (fun V => m_int (idx_at (by omega) (by exact hc16) hi2).symm)
    · skip
      refine snd_skip ?_
      apply lr tokTB (by kernel_rfl)
      · intro RR hRR
        refine y_add rfl rfl ?_
        refine wm ?_
        exact hRR
      refine ⟨i + 1, ρ0, ?_, ⟨by omega, all_step hi2 (by exact hc16)⟩, (by dsimp only; omega)⟩
      exact ⟨⟨(by exact ⟨rfl, fun _ _ => rfl⟩), (mi), (mi), (mi), trivial⟩, trivial, trivial⟩
  · try simp only [hcs] at hc9
    refine snd_exit ?_
    apply sr tokTB (by kernel_rfl)
    · intro RR hRR
      refine wa ?_
      exact hRR
    refine snd_ret ?_
    exact rt (T := TB) (fun V => m_int (idx_none (fun j hj => hi2 j (by omega))).symm)
theorem c_Contains {m : Nat} {f : Nat → Int} {x : Int} (hm : m ≤ 1000000) : ACalls Tryz.prog TB 78 [.ro m (fun i => .int .i64 (f i)), .int .i64 x] (.bool (decide (0 ≤ idxF (fun i => decide (x = f i)) m))) [] := by
  refine acalls_of tokTB Tryz.func78 rfl rfl (Nat.le_of_ble_eq_true rfl) ?_
  apply sr tokTB (by kernel_rfl)
  · intro RR hRR
    refine wa ?_
    exact hRR
  apply sr tokTB (by kernel_rfl)
  · intro RR hRR
    refine wm ?_
    refine wm ?_
    refine y_call rfl (ec (ec exn)) (c_Index (by omega)) ?_
    refine w_geq rfl rfl ?_
    refine wa ?_
    exact hRR
  refine snd_ret ?_
  exact rt (T := TB) (fun V => by first | exact m_bool rfl | exact m_int rfl)
theorem c_isPrime {p : Int} : ACalls Tryz.prog TB 54 [.int .i64 p] (.bool (primeB p)) [] := by
  refine acalls_of tokTB Tryz.func54 rfl rfl (Nat.le_of_ble_eq_true rfl) ?_
  apply sr tokTB (by kernel_rfl)
  · intro RR hRR
    refine wa ?_
    exact hRR
  apply sr tokTB (by kernel_rfl)
  · intro RR hRR
    refine w_bsl und24 kn2 (by rw [sz2]; rfl) rfl (by exact ⟨⟨by decide, trivial, sz2.symm⟩, ⟨by decide, trivial, sz2.symm⟩, ⟨by decide, trivial, sz2.symm⟩, ⟨by decide, trivial, sz2.symm⟩, ⟨by decide, trivial, sz2.symm⟩, ⟨by decide, trivial, sz2.symm⟩, trivial⟩) (by exact ⟨(sx), (sx), (sx), (sx), (sx), (sx), trivial⟩) rfl ?_
    refine wm ?_
    refine y_call rfl (exc (by refine congrArg (AV.ro 6) (funext fun i => ?_); match i with | 0 => rfl | 1 => rfl | 2 => rfl | 3 => rfl | 4 => rfl | 5 => rfl | n + 6 => rfl) (exc (by exact rfl) exn)) (c_Contains (f := primesF) (by omega)) ?_
    refine wa ?_
    exact hRR
  refine snd_ret ?_
  exact rt (T := TB) (fun V => m_bool (prime_idx p))
theorem c_l01Prime {p : Int} : ACalls Tryz.prog TB 53 [.int .i64 p] (.bool (primeB p)) [] := by
  refine acalls_of tokTB Tryz.func53 rfl rfl (Nat.le_of_ble_eq_true rfl) ?_
  apply sr tokTB (by kernel_rfl)
  · intro RR hRR
    refine wa ?_
    exact hRR
  apply srG (env' := (2, .bool (decide (p = 2) || decide (p = 3) || decide (p = 5) || decide (p = 7) || decide (p = 11) || decide (p = 13))) :: (24, .bool (decide (p = 2) || decide (p = 3) || decide (p = 5) || decide (p = 7) || decide (p = 11) || decide (p = 13))) :: (23, .any) :: (22, .any) :: (21, .bool (decide (p = 2) || decide (p = 3) || decide (p = 5) || decide (p = 7) || decide (p = 11))) :: (20, .bool (decide (p = 2) || decide (p = 3) || decide (p = 5) || decide (p = 7) || decide (p = 11))) :: (19, .any) :: (18, .any) :: (17, .bool (decide (p = 2) || decide (p = 3) || decide (p = 5) || decide (p = 7))) :: (16, .bool (decide (p = 2) || decide (p = 3) || decide (p = 5) || decide (p = 7))) :: (15, .any) :: (14, .any) :: (13, .bool (decide (p = 2) || decide (p = 3) || decide (p = 5))) :: (12, .bool (decide (p = 2) || decide (p = 3) || decide (p = 5))) :: (11, .any) :: (10, .any) :: (9, .bool (decide (p = 2) || decide (p = 3))) :: (8, .bool (decide (p = 2) || decide (p = 3))) :: (7, .any) :: (6, .any) :: (5, _) :: (4, _) :: (3, _) :: _) tokTB (by kernel_rfl)
  · intro RR hRR
    refine wm ?_
    refine w_eql rfl rfl ?_
    refine wm ?_
    refine w_g rfl rfl (fun hg2 => ?_) (fun hg2 => ?_)
    · skip
      refine wm ?_
      refine w_g_on rfl rfl hg2 ?_
      refine w_eql rfl rfl ?_
      refine w_pick_0 rfl hg2 (by constructor) ?_
      refine wm ?_
      refine w_g rfl rfl (fun hg6 => ?_) (fun hg6 => ?_)
      · skip
        refine wm ?_
        refine w_g_on rfl rfl hg6 ?_
        refine w_eql rfl rfl ?_
        refine w_pick_0 rfl hg6 (by constructor) ?_
        refine wm ?_
        refine w_g rfl rfl (fun hg10 => ?_) (fun hg10 => ?_)
        · skip
          refine wm ?_
          refine w_g_on rfl rfl hg10 ?_
          refine w_eql rfl rfl ?_
          refine w_pick_0 rfl hg10 (by constructor) ?_
          refine wm ?_
          refine w_g rfl rfl (fun hg14 => ?_) (fun hg14 => ?_)
          · skip
            refine wm ?_
            refine w_g_on rfl rfl hg14 ?_
            refine w_eql rfl rfl ?_
            refine w_pick_0 rfl hg14 (by constructor) ?_
            refine wm ?_
            refine w_g rfl rfl (fun hg18 => ?_) (fun hg18 => ?_)
            · skip
              refine wm ?_
              refine w_g_on rfl rfl hg18 ?_
              refine w_eql rfl rfl ?_
              refine w_pick_0 rfl hg18 (by constructor) ?_
              refine wa ?_
              try simp only [Int.toNat_natCast] at hg2 hg6 hg10 hg14 hg18
              exact hRR _ (EL.cons (.inr (by first | rfl | (simp only [hg2, hg6, hg10, hg14, hg18, els]; done) | (simp only [hg2, hg6, hg10, hg14, hg18, els]; rfl) | (simp [hg2, hg6, hg10, hg14, hg18]; done) | (clear hRR; simp_all; done) | (exfalso; simp only [hg2, Bool.not_false, Bool.not_true, reduceCtorEq] at hg6; done) | (exfalso; simp only [hg2, Bool.not_false, Bool.not_true, reduceCtorEq] at hg10; done) | (exfalso; simp only [hg2, Bool.not_false, Bool.not_true, reduceCtorEq] at hg14; done) | (exfalso; simp only [hg2, Bool.not_false, Bool.not_true, reduceCtorEq] at hg18; done) | (exfalso; simp only [hg6, Bool.not_false, Bool.not_true, reduceCtorEq] at hg10; done) | (exfalso; simp only [hg6, Bool.not_false, Bool.not_true, reduceCtorEq] at hg14; done) | (exfalso; simp only [hg6, Bool.not_false, Bool.not_true, reduceCtorEq] at hg18; done) | (exfalso; simp only [hg10, Bool.not_false, Bool.not_true, reduceCtorEq] at hg14; done) | (exfalso; simp only [hg10, Bool.not_false, Bool.not_true, reduceCtorEq] at hg18; done) | (exfalso; simp only [hg14, Bool.not_false, Bool.not_true, reduceCtorEq] at hg18; done))) (EL.cons (.inr (by first | rfl | (simp only [hg2, hg6, hg10, hg14, hg18, els]; done) | (simp only [hg2, hg6, hg10, hg14, hg18, els]; rfl) | (simp [hg2, hg6, hg10, hg14, hg18]; done) | (clear hRR; simp_all; done) | (exfalso; simp only [hg2, Bool.not_false, Bool.not_true, reduceCtorEq] at hg6; done) | (exfalso; simp only [hg2, Bool.not_false, Bool.not_true, reduceCtorEq] at hg10; done) | (exfalso; simp only [hg2, Bool.not_false, Bool.not_true, reduceCtorEq] at hg14; done) | (exfalso; simp only [hg2, Bool.not_false, Bool.not_true, reduceCtorEq] at hg18; done) | (exfalso; simp only [hg6, Bool.not_false, Bool.not_true, reduceCtorEq] at hg10; done) | (exfalso; simp only [hg6, Bool.not_false, Bool.not_true, reduceCtorEq] at hg14; done) | (exfalso; simp only [hg6, Bool.not_false, Bool.not_true, reduceCtorEq] at hg18; done) | (exfalso; simp only [hg10, Bool.not_false, Bool.not_true, reduceCtorEq] at hg14; done) | (exfalso; simp only [hg10, Bool.not_false, Bool.not_true, reduceCtorEq] at hg18; done) | (exfalso; simp only [hg14, Bool.not_false, Bool.not_true, reduceCtorEq] at hg18; done))) (EL.cons (.inl rfl) (EL.cons (.inl rfl) (EL.cons (.inr (by first | rfl | (simp only [hg2, hg6, hg10, hg14, hg18, els]; done) | (simp only [hg2, hg6, hg10, hg14, hg18, els]; rfl) | (simp [hg2, hg6, hg10, hg14, hg18]; done) | (clear hRR; simp_all; done) | (exfalso; simp only [hg2, Bool.not_false, Bool.not_true, reduceCtorEq] at hg6; done) | (exfalso; simp only [hg2, Bool.not_false, Bool.not_true, reduceCtorEq] at hg10; done) | (exfalso; simp only [hg2, Bool.not_false, Bool.not_true, reduceCtorEq] at hg14; done) | (exfalso; simp only [hg2, Bool.not_false, Bool.not_true, reduceCtorEq] at hg18; done) | (exfalso; simp only [hg6, Bool.not_false, Bool.not_true, reduceCtorEq] at hg10; done) | (exfalso; simp only [hg6, Bool.not_false, Bool.not_true, reduceCtorEq] at hg14; done) | (exfalso; simp only [hg6, Bool.not_false, Bool.not_true, reduceCtorEq] at hg18; done) | (exfalso; simp only [hg10, Bool.not_false, Bool.not_true, reduceCtorEq] at hg14; done) | (exfalso; simp only [hg10, Bool.not_false, Bool.not_true, reduceCtorEq] at hg18; done) | (exfalso; simp only [hg14, Bool.not_false, Bool.not_true, reduceCtorEq] at hg18; done))) (EL.cons (.inr (by first | rfl | (simp only [hg2, hg6, hg10, hg14, hg18, els]; done) | (simp only [hg2, hg6, hg10, hg14, hg18, els]; rfl) | (simp [hg2, hg6, hg10, hg14, hg18]; done) | (clear hRR; simp_all; done) | (exfalso; simp only [hg2, Bool.not_false, Bool.not_true, reduceCtorEq] at hg6; done) | (exfalso; simp only [hg2, Bool.not_false, Bool.not_true, reduceCtorEq] at hg10; done) | (exfalso; simp only [hg2, Bool.not_false, Bool.not_true, reduceCtorEq] at hg14; done) | (exfalso; simp only [hg2, Bool.not_false, Bool.not_true, reduceCtorEq] at hg18; done) | (exfalso; simp only [hg6, Bool.not_false, Bool.not_true, reduceCtorEq] at hg10; done) | (exfalso; simp only [hg6, Bool.not_false, Bool.not_true, reduceCtorEq] at hg14; done) | (exfalso; simp only [hg6, Bool.not_false, Bool.not_true, reduceCtorEq] at hg18; done) | (exfalso; simp only [hg10, Bool.not_false, Bool.not_true, reduceCtorEq] at hg14; done) | (exfalso; simp only [hg10, Bool.not_false, Bool.not_true, reduceCtorEq] at hg18; done) | (exfalso; simp only [hg14, Bool.not_false, Bool.not_true, reduceCtorEq] at hg18; done))) (EL.cons (.inl rfl) (EL.cons (.inl rfl) (EL.cons (.inr (by first | rfl | (simp only [hg2, hg6, hg10, hg14, hg18, els]; done) | (simp only [hg2, hg6, hg10, hg14, hg18, els]; rfl) | (simp [hg2, hg6, hg10, hg14, hg18]; done) | (clear hRR; simp_all; done) | (exfalso; simp only [hg2, Bool.not_false, Bool.not_true, reduceCtorEq] at hg6; done) | (exfalso; simp only [hg2, Bool.not_false, Bool.not_true, reduceCtorEq] at hg10; done) | (exfalso; simp only [hg2, Bool.not_false, Bool.not_true, reduceCtorEq] at hg14; done) | (exfalso; simp only [hg2, Bool.not_false, Bool.not_true, reduceCtorEq] at hg18; done) | (exfalso; simp only [hg6, Bool.not_false, Bool.not_true, reduceCtorEq] at hg10; done) | (exfalso; simp only [hg6, Bool.not_false, Bool.not_true, reduceCtorEq] at hg14; done) | (exfalso; simp only [hg6, Bool.not_false, Bool.not_true, reduceCtorEq] at hg18; done) | (exfalso; simp only [hg10, Bool.not_false, Bool.not_true, reduceCtorEq] at hg14; done) | (exfalso; simp only [hg10, Bool.not_false, Bool.not_true, reduceCtorEq] at hg18; done) | (exfalso; simp only [hg14, Bool.not_false, Bool.not_true, reduceCtorEq] at hg18; done))) (EL.cons (.inr (by first | rfl | (simp only [hg2, hg6, hg10, hg14, hg18, els]; done) | (simp only [hg2, hg6, hg10, hg14, hg18, els]; rfl) | (simp [hg2, hg6, hg10, hg14, hg18]; done) | (clear hRR; simp_all; done) | (exfalso; simp only [hg2, Bool.not_false, Bool.not_true, reduceCtorEq] at hg6; done) | (exfalso; simp only [hg2, Bool.not_false, Bool.not_true, reduceCtorEq] at hg10; done) | (exfalso; simp only [hg2, Bool.not_false, Bool.not_true, reduceCtorEq] at hg14; done) | (exfalso; simp only [hg2, Bool.not_false, Bool.not_true, reduceCtorEq] at hg18; done) | (exfalso; simp only [hg6, Bool.not_false, Bool.not_true, reduceCtorEq] at hg10; done) | (exfalso; simp only [hg6, Bool.not_false, Bool.not_true, reduceCtorEq] at hg14; done) | (exfalso; simp only [hg6, Bool.not_false, Bool.not_true, reduceCtorEq] at hg18; done) | (exfalso; simp only [hg10, Bool.not_false, Bool.not_true, reduceCtorEq] at hg14; done) | (exfalso; simp only [hg10, Bool.not_false, Bool.not_true, reduceCtorEq] at hg18; done) | (exfalso; simp only [hg14, Bool.not_false, Bool.not_true, reduceCtorEq] at hg18; done))) (EL.cons (.inl rfl) (EL.cons (.inl rfl) (EL.cons (.inr (by first | rfl | (simp only [hg2, hg6, hg10, hg14, hg18, els]; done) | (simp only [hg2, hg6, hg10, hg14, hg18, els]; rfl) | (simp [hg2, hg6, hg10, hg14, hg18]; done) | (clear hRR; simp_all; done) | (exfalso; simp only [hg2, Bool.not_false, Bool.not_true, reduceCtorEq] at hg6; done) | (exfalso; simp only [hg2, Bool.not_false, Bool.not_true, reduceCtorEq] at hg10; done) | (exfalso; simp only [hg2, Bool.not_false, Bool.not_true, reduceCtorEq] at hg14; done) | (exfalso; simp only [hg2, Bool.not_false, Bool.not_true, reduceCtorEq] at hg18; done) | (exfalso; simp only [hg6, Bool.not_false, Bool.not_true, reduceCtorEq] at hg10; done) | (exfalso; simp only [hg6, Bool.not_false, Bool.not_true, reduceCtorEq] at hg14; done) | (exfalso; simp only [hg6, Bool.not_false, Bool.not_true, reduceCtorEq] at hg18; done) | (exfalso; simp only [hg10, Bool.not_false, Bool.not_true, reduceCtorEq] at hg14; done) | (exfalso; simp only [hg10, Bool.not_false, Bool.not_true, reduceCtorEq] at hg18; done) | (exfalso; simp only [hg14, Bool.not_false, Bool.not_true, reduceCtorEq] at hg18; done))) (EL.cons (.inr (by first | rfl | (simp only [hg2, hg6, hg10, hg14, hg18, els]; done) | (simp only [hg2, hg6, hg10, hg14, hg18, els]; rfl) | (simp [hg2, hg6, hg10, hg14, hg18]; done) | (clear hRR; simp_all; done) | (exfalso; simp only [hg2, Bool.not_false, Bool.not_true, reduceCtorEq] at hg6; done) | (exfalso; simp only [hg2, Bool.not_false, Bool.not_true, reduceCtorEq] at hg10; done) | (exfalso; simp only [hg2, Bool.not_false, Bool.not_true, reduceCtorEq] at hg14; done) | (exfalso; simp only [hg2, Bool.not_false, Bool.not_true, reduceCtorEq] at hg18; done) | (exfalso; simp only [hg6, Bool.not_false, Bool.not_true, reduceCtorEq] at hg10; done) | (exfalso; simp only [hg6, Bool.not_false, Bool.not_true, reduceCtorEq] at hg14; done) | (exfalso; simp only [hg6, Bool.not_false, Bool.not_true, reduceCtorEq] at hg18; done) | (exfalso; simp only [hg10, Bool.not_false, Bool.not_true, reduceCtorEq] at hg14; done) | (exfalso; simp only [hg10, Bool.not_false, Bool.not_true, reduceCtorEq] at hg18; done) | (exfalso; simp only [hg14, Bool.not_false, Bool.not_true, reduceCtorEq] at hg18; done))) (EL.cons (.inl rfl) (EL.cons (.inl rfl) (EL.cons (.inr (by first | rfl | (simp only [hg2, hg6, hg10, hg14, hg18, els]; done) | (simp only [hg2, hg6, hg10, hg14, hg18, els]; rfl) | (simp [hg2, hg6, hg10, hg14, hg18]; done) | (clear hRR; simp_all; done) | (exfalso; simp only [hg2, Bool.not_false, Bool.not_true, reduceCtorEq] at hg6; done) | (exfalso; simp only [hg2, Bool.not_false, Bool.not_true, reduceCtorEq] at hg10; done) | (exfalso; simp only [hg2, Bool.not_false, Bool.not_true, reduceCtorEq] at hg14; done) | (exfalso; simp only [hg2, Bool.not_false, Bool.not_true, reduceCtorEq] at hg18; done) | (exfalso; simp only [hg6, Bool.not_false, Bool.not_true, reduceCtorEq] at hg10; done) | (exfalso; simp only [hg6, Bool.not_false, Bool.not_true, reduceCtorEq] at hg14; done) | (exfalso; simp only [hg6, Bool.not_false, Bool.not_true, reduceCtorEq] at hg18; done) | (exfalso; simp only [hg10, Bool.not_false, Bool.not_true, reduceCtorEq] at hg14; done) | (exfalso; simp only [hg10, Bool.not_false, Bool.not_true, reduceCtorEq] at hg18; done) | (exfalso; simp only [hg14, Bool.not_false, Bool.not_true, reduceCtorEq] at hg18; done))) (EL.cons (.inr (by first | rfl | (simp only [hg2, hg6, hg10, hg14, hg18, els]; done) | (simp only [hg2, hg6, hg10, hg14, hg18, els]; rfl) | (simp [hg2, hg6, hg10, hg14, hg18]; done) | (clear hRR; simp_all; done) | (exfalso; simp only [hg2, Bool.not_false, Bool.not_true, reduceCtorEq] at hg6; done) | (exfalso; simp only [hg2, Bool.not_false, Bool.not_true, reduceCtorEq] at hg10; done) | (exfalso; simp only [hg2, Bool.not_false, Bool.not_true, reduceCtorEq] at hg14; done) | (exfalso; simp only [hg2, Bool.not_false, Bool.not_true, reduceCtorEq] at hg18; done) | (exfalso; simp only [hg6, Bool.not_false, Bool.not_true, reduceCtorEq] at hg10; done) | (exfalso; simp only [hg6, Bool.not_false, Bool.not_true, reduceCtorEq] at hg14; done) | (exfalso; simp only [hg6, Bool.not_false, Bool.not_true, reduceCtorEq] at hg18; done) | (exfalso; simp only [hg10, Bool.not_false, Bool.not_true, reduceCtorEq] at hg14; done) | (exfalso; simp only [hg10, Bool.not_false, Bool.not_true, reduceCtorEq] at hg18; done) | (exfalso; simp only [hg14, Bool.not_false, Bool.not_true, reduceCtorEq] at hg18; done))) (EL.cons (.inl rfl) (EL.cons (.inl rfl) (EL.cons (.inr rfl) (EL.cons (.inr rfl) (EL.cons (.inr rfl) (EL.refl _))))))))))))))))))))))))
            · have hg18 := eq_true_of_ne_false hg18
              refine w_g_off rfl rfl (by rw [hg18]; decide) ?_
              refine w_pick_1 rfl hg18 (by constructor) ?_
              refine wa ?_
              try simp only [Int.toNat_natCast] at hg2 hg6 hg10 hg14 hg18
              exact hRR _ (EL.cons (.inr (by first | rfl | (simp only [hg2, hg6, hg10, hg14, hg18, els]; done) | (simp only [hg2, hg6, hg10, hg14, hg18, els]; rfl) | (simp [hg2, hg6, hg10, hg14, hg18]; done) | (clear hRR; simp_all; done) | (exfalso; simp only [hg2, Bool.not_false, Bool.not_true, reduceCtorEq] at hg6; done) | (exfalso; simp only [hg2, Bool.not_false, Bool.not_true, reduceCtorEq] at hg10; done) | (exfalso; simp only [hg2, Bool.not_false, Bool.not_true, reduceCtorEq] at hg14; done) | (exfalso; simp only [hg2, Bool.not_false, Bool.not_true, reduceCtorEq] at hg18; done) | (exfalso; simp only [hg6, Bool.not_false, Bool.not_true, reduceCtorEq] at hg10; done) | (exfalso; simp only [hg6, Bool.not_false, Bool.not_true, reduceCtorEq] at hg14; done) | (exfalso; simp only [hg6, Bool.not_false, Bool.not_true, reduceCtorEq] at hg18; done) | (exfalso; simp only [hg10, Bool.not_false, Bool.not_true, reduceCtorEq] at hg14; done) | (exfalso; simp only [hg10, Bool.not_false, Bool.not_true, reduceCtorEq] at hg18; done) | (exfalso; simp only [hg14, Bool.not_false, Bool.not_true, reduceCtorEq] at hg18; done))) (EL.cons (.inr (by first | rfl | (simp only [hg2, hg6, hg10, hg14, hg18, els]; done) | (simp only [hg2, hg6, hg10, hg14, hg18, els]; rfl) | (simp [hg2, hg6, hg10, hg14, hg18]; done) | (clear hRR; simp_all; done) | (exfalso; simp only [hg2, Bool.not_false, Bool.not_true, reduceCtorEq] at hg6; done) | (exfalso; simp only [hg2, Bool.not_false, Bool.not_true, reduceCtorEq] at hg10; done) | (exfalso; simp only [hg2, Bool.not_false, Bool.not_true, reduceCtorEq] at hg14; done) | (exfalso; simp only [hg2, Bool.not_false, Bool.not_true, reduceCtorEq] at hg18; done) | (exfalso; simp only [hg6, Bool.not_false, Bool.not_true, reduceCtorEq] at hg10; done) | (exfalso; simp only [hg6, Bool.not_false, Bool.not_true, reduceCtorEq] at hg14; done) | (exfalso; simp only [hg6, Bool.not_false, Bool.not_true, reduceCtorEq] at hg18; done) | (exfalso; simp only [hg10, Bool.not_false, Bool.not_true, reduceCtorEq] at hg14; done) | (exfalso; simp only [hg10, Bool.not_false, Bool.not_true, reduceCtorEq] at hg18; done) | (exfalso; simp only [hg14, Bool.not_false, Bool.not_true, reduceCtorEq] at hg18; done))) (EL.cons (.inl rfl) (EL.cons (.inl rfl) (EL.cons (.inr (by first | rfl | (simp only [hg2, hg6, hg10, hg14, hg18, els]; done) | (simp only [hg2, hg6, hg10, hg14, hg18, els]; rfl) | (simp [hg2, hg6, hg10, hg14, hg18]; done) | (clear hRR; simp_all; done) | (exfalso; simp only [hg2, Bool.not_false, Bool.not_true, reduceCtorEq] at hg6; done) | (exfalso; simp only [hg2, Bool.not_false, Bool.not_true, reduceCtorEq] at hg10; done) | (exfalso; simp only [hg2, Bool.not_false, Bool.not_true, reduceCtorEq] at hg14; done) | (exfalso; simp only [hg2, Bool.not_false, Bool.not_true, reduceCtorEq] at hg18; done) | (exfalso; simp only [hg6, Bool.not_false, Bool.not_true, reduceCtorEq] at hg10; done) | (exfalso; simp only [hg6, Bool.not_false, Bool.not_true, reduceCtorEq] at hg14; done) | (exfalso; simp only [hg6, Bool.not_false, Bool.not_true, reduceCtorEq] at hg18; done) | (exfalso; simp only [hg10, Bool.not_false, Bool.not_true, reduceCtorEq] at hg14; done) | (exfalso; simp only [hg10, Bool.not_false, Bool.not_true, reduceCtorEq] at hg18; done) | (exfalso; simp only [hg14, Bool.not_false, Bool.not_true, reduceCtorEq] at hg18; done))) (EL.cons (.inr (by first | rfl | (simp only [hg2, hg6, hg10, hg14, hg18, els]; done) | (simp only [hg2, hg6, hg10, hg14, hg18, els]; rfl) | (simp [hg2, hg6, hg10, hg14, hg18]; done) | (clear hRR; simp_all; done) | (exfalso; simp only [hg2, Bool.not_false, Bool.not_true, reduceCtorEq] at hg6; done) | (exfalso; simp only [hg2, Bool.not_false, Bool.not_true, reduceCtorEq] at hg10; done) | (exfalso; simp only [hg2, Bool.not_false, Bool.not_true, reduceCtorEq] at hg14; done) | (exfalso; simp only [hg2, Bool.not_false, Bool.not_true, reduceCtorEq] at hg18; done) | (exfalso; simp only [hg6, Bool.not_false, Bool.not_true, reduceCtorEq] at hg10; done) | (exfalso; simp only [hg6, Bool.not_false, Bool.not_true, reduceCtorEq] at hg14; done) | (exfalso; simp only [hg6, Bool.not_false, Bool.not_true, reduceCtorEq] at hg18; done) | (exfalso; simp only [hg10, Bool.not_false, Bool.not_true, reduceCtorEq] at hg14; done) | (exfalso; simp only [hg10, Bool.not_false, Bool.not_true, reduceCtorEq] at hg18; done) | (exfalso; simp only [hg14, Bool.not_false, Bool.not_true, reduceCtorEq] at hg18; done))) (EL.cons (.inl rfl) (EL.cons (.inl rfl) (EL.cons (.inr (by first | rfl | (simp only [hg2, hg6, hg10, hg14, hg18, els]; done) | (simp only [hg2, hg6, hg10, hg14, hg18, els]; rfl) | (simp [hg2, hg6, hg10, hg14, hg18]; done) | (clear hRR; simp_all; done) | (exfalso; simp only [hg2, Bool.not_false, Bool.not_true, reduceCtorEq] at hg6; done) | (exfalso; simp only [hg2, Bool.not_false, Bool.not_true, reduceCtorEq] at hg10; done) | (exfalso; simp only [hg2, Bool.not_false, Bool.not_true, reduceCtorEq] at hg14; done) | (exfalso; simp only [hg2, Bool.not_false, Bool.not_true, reduceCtorEq] at hg18; done) | (exfalso; simp only [hg6, Bool.not_false, Bool.not_true, reduceCtorEq] at hg10; done) | (exfalso; simp only [hg6, Bool.not_false, Bool.not_true, reduceCtorEq] at hg14; done) | (exfalso; simp only [hg6, Bool.not_false, Bool.not_true, reduceCtorEq] at hg18; done) | (exfalso; simp only [hg10, Bool.not_false, Bool.not_true, reduceCtorEq] at hg14; done) | (exfalso; simp only [hg10, Bool.not_false, Bool.not_true, reduceCtorEq] at hg18; done) | (exfalso; simp only [hg14, Bool.not_false, Bool.not_true, reduceCtorEq] at hg18; done))) (EL.cons (.inr (by first | rfl | (simp only [hg2, hg6, hg10, hg14, hg18, els]; done) | (simp only [hg2, hg6, hg10, hg14, hg18, els]; rfl) | (simp [hg2, hg6, hg10, hg14, hg18]; done) | (clear hRR; simp_all; done) | (exfalso; simp only [hg2, Bool.not_false, Bool.not_true, reduceCtorEq] at hg6; done) | (exfalso; simp only [hg2, Bool.not_false, Bool.not_true, reduceCtorEq] at hg10; done) | (exfalso; simp only [hg2, Bool.not_false, Bool.not_true, reduceCtorEq] at hg14; done) | (exfalso; simp only [hg2, Bool.not_false, Bool.not_true, reduceCtorEq] at hg18; done) | (exfalso; simp only [hg6, Bool.not_false, Bool.not_true, reduceCtorEq] at hg10; done) | (exfalso; simp only [hg6, Bool.not_false, Bool.not_true, reduceCtorEq] at hg14; done) | (exfalso; simp only [hg6, Bool.not_false, Bool.not_true, reduceCtorEq] at hg18; done) | (exfalso; simp only [hg10, Bool.not_false, Bool.not_true, reduceCtorEq] at hg14; done) | (exfalso; simp only [hg10, Bool.not_false, Bool.not_true, reduceCtorEq] at hg18; done) | (exfalso; simp only [hg14, Bool.not_false, Bool.not_true, reduceCtorEq] at hg18; done))) (EL.cons (.inl rfl) (EL.cons (.inl rfl) (EL.cons (.inr (by first | rfl | (simp only [hg2, hg6, hg10, hg14, hg18, els]; done) | (simp only [hg2, hg6, hg10, hg14, hg18, els]; rfl) | (simp [hg2, hg6, hg10, hg14, hg18]; done) | (clear hRR; simp_all; done) | (exfalso; simp only [hg2, Bool.not_false, Bool.not_true, reduceCtorEq] at hg6; done) | (exfalso; simp only [hg2, Bool.not_false, Bool.not_true, reduceCtorEq] at hg10; done) | (exfalso; simp only [hg2, Bool.not_false, Bool.not_true, reduceCtorEq] at hg14; done) | (exfalso; simp only [hg2, Bool.not_false, Bool.not_true, reduceCtorEq] at hg18; done) | (exfalso; simp only [hg6, Bool.not_false, Bool.not_true, reduceCtorEq] at hg10; done) | (exfalso; simp only [hg6, Bool.not_false, Bool.not_true, reduceCtorEq] at hg14; done) | (exfalso; simp only [hg6, Bool.not_false, Bool.not_true, reduceCtorEq] at hg18; done) | (exfalso; simp only [hg10, Bool.not_false, Bool.not_true, reduceCtorEq] at hg14; done) | (exfalso; simp only [hg10, Bool.not_false, Bool.not_true, reduceCtorEq] at hg18; done) | (exfalso; simp only [hg14, Bool.not_false, Bool.not_true, reduceCtorEq] at hg18; done))) (EL.cons (.inr (by first | rfl | (simp only [hg2, hg6, hg10, hg14, hg18, els]; done) | (simp only [hg2, hg6, hg10, hg14, hg18, els]; rfl) | (simp [hg2, hg6, hg10, hg14, hg18]; done) | (clear hRR; simp_all; done) | (exfalso; simp only [hg2, Bool.not_false, Bool.not_true, reduceCtorEq] at hg6; done) | (exfalso; simp only [hg2, Bool.not_false, Bool.not_true, reduceCtorEq] at hg10; done) | (exfalso; simp only [hg2, Bool.not_false, Bool.not_true, reduceCtorEq] at hg14; done) | (exfalso; simp only [hg2, Bool.not_false, Bool.not_true, reduceCtorEq] at hg18; done) | (exfalso; simp only [hg6, Bool.not_false, Bool.not_true, reduceCtorEq] at hg10; done) | (exfalso; simp only [hg6, Bool.not_false, Bool.not_true, reduceCtorEq] at hg14; done) | (exfalso; simp only [hg6, Bool.not_false, Bool.not_true, reduceCtorEq] at hg18; done) | (exfalso; simp only [hg10, Bool.not_false, Bool.not_true, reduceCtorEq] at hg14; done) | (exfalso; simp only [hg10, Bool.not_false, Bool.not_true, reduceCtorEq] at hg18; done) | (exfalso; simp only [hg14, Bool.not_false, Bool.not_true, reduceCtorEq] at hg18; done))) (EL.cons (.inl rfl) (EL.cons (.inl rfl) (EL.cons (.inr (by first | rfl | (simp only [hg2, hg6, hg10, hg14, hg18, els]; done) | (simp only [hg2, hg6, hg10, hg14, hg18, els]; rfl) | (simp [hg2, hg6, hg10, hg14, hg18]; done) | (clear hRR; simp_all; done) | (exfalso; simp only [hg2, Bool.not_false, Bool.not_true, reduceCtorEq] at hg6; done) | (exfalso; simp only [hg2, Bool.not_false, Bool.not_true, reduceCtorEq] at hg10; done) | (exfalso; simp only [hg2, Bool.not_false, Bool.not_true, reduceCtorEq] at hg14; done) | (exfalso; simp only [hg2, Bool.not_false, Bool.not_true, reduceCtorEq] at hg18; done) | (exfalso; simp only [hg6, Bool.not_false, Bool.not_true, reduceCtorEq] at hg10; done) | (exfalso; simp only [hg6, Bool.not_false, Bool.not_true, reduceCtorEq] at hg14; done) | (exfalso; simp only [hg6, Bool.not_false, Bool.not_true, reduceCtorEq] at hg18; done) | (exfalso; simp only [hg10, Bool.not_false, Bool.not_true, reduceCtorEq] at hg14; done) | (exfalso; simp only [hg10, Bool.not_false, Bool.not_true, reduceCtorEq] at hg18; done) | (exfalso; simp only [hg14, Bool.not_false, Bool.not_true, reduceCtorEq] at hg18; done))) (EL.cons (.inr (by first | rfl | (simp only [hg2, hg6, hg10, hg14, hg18, els]; done) | (simp only [hg2, hg6, hg10, hg14, hg18, els]; rfl) | (simp [hg2, hg6, hg10, hg14, hg18]; done) | (clear hRR; simp_all; done) | (exfalso; simp only [hg2, Bool.not_false, Bool.not_true, reduceCtorEq] at hg6; done) | (exfalso; simp only [hg2, Bool.not_false, Bool.not_true, reduceCtorEq] at hg10; done) | (exfalso; simp only [hg2, Bool.not_false, Bool.not_true, reduceCtorEq] at hg14; done) | (exfalso; simp only [hg2, Bool.not_false, Bool.not_true, reduceCtorEq] at hg18; done) | (exfalso; simp only [hg6, Bool.not_false, Bool.not_true, reduceCtorEq] at hg10; done) | (exfalso; simp only [hg6, Bool.not_false, Bool.not_true, reduceCtorEq] at hg14; done) | (exfalso; simp only [hg6, Bool.not_false, Bool.not_true, reduceCtorEq] at hg18; done) | (exfalso; simp only [hg10, Bool.not_false, Bool.not_true, reduceCtorEq] at hg14; done) | (exfalso; simp only [hg10, Bool.not_false, Bool.not_true, reduceCtorEq] at hg18; done) | (exfalso; simp only [hg14, Bool.not_false, Bool.not_true, reduceCtorEq] at hg18; done))) (EL.cons (.inl rfl) (EL.cons (.inl rfl) (EL.cons (.inr rfl) (EL.cons (.inr rfl) (EL.cons (.inr rfl) (EL.refl _))))))))))))))))))))))))
          · have hg14 := eq_true_of_ne_false hg14
            refine w_g_off rfl rfl (by rw [hg14]; decide) ?_
            refine w_pick_1 rfl hg14 (by constructor) ?_
            refine wm ?_
            refine w_g_off rfl rfl (by decide) ?_
            refine w_g_off rfl rfl (by decide) ?_
            refine w_pick_1 rfl rfl (by constructor) ?_
            refine wa ?_
            try simp only [Int.toNat_natCast] at hg2 hg6 hg10 hg14
            exact hRR _ (EL.cons (.inr (by first | rfl | (simp only [hg2, hg6, hg10, hg14, els]; done) | (simp only [hg2, hg6, hg10, hg14, els]; rfl) | (simp [hg2, hg6, hg10, hg14]; done) | (clear hRR; simp_all; done) | (exfalso; simp only [hg2, Bool.not_false, Bool.not_true, reduceCtorEq] at hg6; done) | (exfalso; simp only [hg2, Bool.not_false, Bool.not_true, reduceCtorEq] at hg10; done) | (exfalso; simp only [hg2, Bool.not_false, Bool.not_true, reduceCtorEq] at hg14; done) | (exfalso; simp only [hg6, Bool.not_false, Bool.not_true, reduceCtorEq] at hg10; done) | (exfalso; simp only [hg6, Bool.not_false, Bool.not_true, reduceCtorEq] at hg14; done) | (exfalso; simp only [hg10, Bool.not_false, Bool.not_true, reduceCtorEq] at hg14; done))) (EL.cons (.inr (by first | rfl | (simp only [hg2, hg6, hg10, hg14, els]; done) | (simp only [hg2, hg6, hg10, hg14, els]; rfl) | (simp [hg2, hg6, hg10, hg14]; done) | (clear hRR; simp_all; done) | (exfalso; simp only [hg2, Bool.not_false, Bool.not_true, reduceCtorEq] at hg6; done) | (exfalso; simp only [hg2, Bool.not_false, Bool.not_true, reduceCtorEq] at hg10; done) | (exfalso; simp only [hg2, Bool.not_false, Bool.not_true, reduceCtorEq] at hg14; done) | (exfalso; simp only [hg6, Bool.not_false, Bool.not_true, reduceCtorEq] at hg10; done) | (exfalso; simp only [hg6, Bool.not_false, Bool.not_true, reduceCtorEq] at hg14; done) | (exfalso; simp only [hg10, Bool.not_false, Bool.not_true, reduceCtorEq] at hg14; done))) (EL.cons (.inl rfl) (EL.cons (.inl rfl) (EL.cons (.inr (by first | rfl | (simp only [hg2, hg6, hg10, hg14, els]; done) | (simp only [hg2, hg6, hg10, hg14, els]; rfl) | (simp [hg2, hg6, hg10, hg14]; done) | (clear hRR; simp_all; done) | (exfalso; simp only [hg2, Bool.not_false, Bool.not_true, reduceCtorEq] at hg6; done) | (exfalso; simp only [hg2, Bool.not_false, Bool.not_true, reduceCtorEq] at hg10; done) | (exfalso; simp only [hg2, Bool.not_false, Bool.not_true, reduceCtorEq] at hg14; done) | (exfalso; simp only [hg6, Bool.not_false, Bool.not_true, reduceCtorEq] at hg10; done) | (exfalso; simp only [hg6, Bool.not_false, Bool.not_true, reduceCtorEq] at hg14; done) | (exfalso; simp only [hg10, Bool.not_false, Bool.not_true, reduceCtorEq] at hg14; done))) (EL.cons (.inr (by first | rfl | (simp only [hg2, hg6, hg10, hg14, els]; done) | (simp only [hg2, hg6, hg10, hg14, els]; rfl) | (simp [hg2, hg6, hg10, hg14]; done) | (clear hRR; simp_all; done) | (exfalso; simp only [hg2, Bool.not_false, Bool.not_true, reduceCtorEq] at hg6; done) | (exfalso; simp only [hg2, Bool.not_false, Bool.not_true, reduceCtorEq] at hg10; done) | (exfalso; simp only [hg2, Bool.not_false, Bool.not_true, reduceCtorEq] at hg14; done) | (exfalso; simp only [hg6, Bool.not_false, Bool.not_true, reduceCtorEq] at hg10; done) | (exfalso; simp only [hg6, Bool.not_false, Bool.not_true, reduceCtorEq] at hg14; done) | (exfalso; simp only [hg10, Bool.not_false, Bool.not_true, reduceCtorEq] at hg14; done))) (EL.cons (.inl rfl) (EL.cons (.inl rfl) (EL.cons (.inr (by first | rfl | (simp only [hg2, hg6, hg10, hg14, els]; done) | (simp only [hg2, hg6, hg10, hg14, els]; rfl) | (simp [hg2, hg6, hg10, hg14]; done) | (clear hRR; simp_all; done) | (exfalso; simp only [hg2, Bool.not_false, Bool.not_true, reduceCtorEq] at hg6; done) | (exfalso; simp only [hg2, Bool.not_false, Bool.not_true, reduceCtorEq] at hg10; done) | (exfalso; simp only [hg2, Bool.not_false, Bool.not_true, reduceCtorEq] at hg14; done) | (exfalso; simp only [hg6, Bool.not_false, Bool.not_true, reduceCtorEq] at hg10; done) | (exfalso; simp only [hg6, Bool.not_false, Bool.not_true, reduceCtorEq] at hg14; done) | (exfalso; simp only [hg10, Bool.not_false, Bool.not_true, reduceCtorEq] at hg14; done))) (EL.cons (.inr (by first | rfl | (simp only [hg2, hg6, hg10, hg14, els]; done) | (simp only [hg2, hg6, hg10, hg14, els]; rfl) | (simp [hg2, hg6, hg10, hg14]; done) | (clear hRR; simp_all; done) | (exfalso; simp only [hg2, Bool.not_false, Bool.not_true, reduceCtorEq] at hg6; done) | (exfalso; simp only [hg2, Bool.not_false, Bool.not_true, reduceCtorEq] at hg10; done) | (exfalso; simp only [hg2, Bool.not_false, Bool.not_true, reduceCtorEq] at hg14; done) | (exfalso; simp only [hg6, Bool.not_false, Bool.not_true, reduceCtorEq] at hg10; done) | (exfalso; simp only [hg6, Bool.not_false, Bool.not_true, reduceCtorEq] at hg14; done) | (exfalso; simp only [hg10, Bool.not_false, Bool.not_true, reduceCtorEq] at hg14; done))) (EL.cons (.inl rfl) (EL.cons (.inl rfl) (EL.cons (.inr (by first | rfl | (simp only [hg2, hg6, hg10, hg14, els]; done) | (simp only [hg2, hg6, hg10, hg14, els]; rfl) | (simp [hg2, hg6, hg10, hg14]; done) | (clear hRR; simp_all; done) | (exfalso; simp only [hg2, Bool.not_false, Bool.not_true, reduceCtorEq] at hg6; done) | (exfalso; simp only [hg2, Bool.not_false, Bool.not_true, reduceCtorEq] at hg10; done) | (exfalso; simp only [hg2, Bool.not_false, Bool.not_true, reduceCtorEq] at hg14; done) | (exfalso; simp only [hg6, Bool.not_false, Bool.not_true, reduceCtorEq] at hg10; done) | (exfalso; simp only [hg6, Bool.not_false, Bool.not_true, reduceCtorEq] at hg14; done) | (exfalso; simp only [hg10, Bool.not_false, Bool.not_true, reduceCtorEq] at hg14; done))) (EL.cons (.inr (by first | rfl | (simp only [hg2, hg6, hg10, hg14, els]; done) | (simp only [hg2, hg6, hg10, hg14, els]; rfl) | (simp [hg2, hg6, hg10, hg14]; done) | (clear hRR; simp_all; done) | (exfalso; simp only [hg2, Bool.not_false, Bool.not_true, reduceCtorEq] at hg6; done) | (exfalso; simp only [hg2, Bool.not_false, Bool.not_true, reduceCtorEq] at hg10; done) | (exfalso; simp only [hg2, Bool.not_false, Bool.not_true, reduceCtorEq] at hg14; done) | (exfalso; simp only [hg6, Bool.not_false, Bool.not_true, reduceCtorEq] at hg10; done) | (exfalso; simp only [hg6, Bool.not_false, Bool.not_true, reduceCtorEq] at hg14; done) | (exfalso; simp only [hg10, Bool.not_false, Bool.not_true, reduceCtorEq] at hg14; done))) (EL.cons (.inl rfl) (EL.cons (.inl rfl) (EL.cons (.inr (by first | rfl | (simp only [hg2, hg6, hg10, hg14, els]; done) | (simp only [hg2, hg6, hg10, hg14, els]; rfl) | (simp [hg2, hg6, hg10, hg14]; done) | (clear hRR; simp_all; done) | (exfalso; simp only [hg2, Bool.not_false, Bool.not_true, reduceCtorEq] at hg6; done) | (exfalso; simp only [hg2, Bool.not_false, Bool.not_true, reduceCtorEq] at hg10; done) | (exfalso; simp only [hg2, Bool.not_false, Bool.not_true, reduceCtorEq] at hg14; done) | (exfalso; simp only [hg6, Bool.not_false, Bool.not_true, reduceCtorEq] at hg10; done) | (exfalso; simp only [hg6, Bool.not_false, Bool.not_true, reduceCtorEq] at hg14; done) | (exfalso; simp only [hg10, Bool.not_false, Bool.not_true, reduceCtorEq] at hg14; done))) (EL.cons (.inr (by first | rfl | (simp only [hg2, hg6, hg10, hg14, els]; done) | (simp only [hg2, hg6, hg10, hg14, els]; rfl) | (simp [hg2, hg6, hg10, hg14]; done) | (clear hRR; simp_all; done) | (exfalso; simp only [hg2, Bool.not_false, Bool.not_true, reduceCtorEq] at hg6; done) | (exfalso; simp only [hg2, Bool.not_false, Bool.not_true, reduceCtorEq] at hg10; done) | (exfalso; simp only [hg2, Bool.not_false, Bool.not_true, reduceCtorEq] at hg14; done) | (exfalso; simp only [hg6, Bool.not_false, Bool.not_true, reduceCtorEq] at hg10; done) | (exfalso; simp only [hg6, Bool.not_false, Bool.not_true, reduceCtorEq] at hg14; done) | (exfalso; simp only [hg10, Bool.not_false, Bool.not_true, reduceCtorEq] at hg14; done))) (EL.cons (.inl rfl) (EL.cons (.inl rfl) (EL.cons (.inr rfl) (EL.cons (.inr rfl) (EL.cons (.inr rfl) (EL.refl _))))))))))))))))))))))))
        · have hg10 := eq_true_of_ne_false hg10
          refine w_g_off rfl rfl (by rw [hg10]; decide) ?_
          refine w_pick_1 rfl hg10 (by constructor) ?_
          refine wm ?_
          refine w_g_off rfl rfl (by decide) ?_
          refine w_g_off rfl rfl (by decide) ?_
          refine w_pick_1 rfl rfl (by constructor) ?_
          refine wm ?_
          refine w_g_off rfl rfl (by decide) ?_
          refine w_g_off rfl rfl (by decide) ?_
          refine w_pick_1 rfl rfl (by constructor) ?_
          refine wa ?_
          try simp only [Int.toNat_natCast] at hg2 hg6 hg10
          exact hRR _ (EL.cons (.inr (by first | rfl | (simp only [hg2, hg6, hg10, els]; done) | (simp only [hg2, hg6, hg10, els]; rfl) | (simp [hg2, hg6, hg10]; done) | (clear hRR; simp_all; done) | (exfalso; simp only [hg2, Bool.not_false, Bool.not_true, reduceCtorEq] at hg6; done) | (exfalso; simp only [hg2, Bool.not_false, Bool.not_true, reduceCtorEq] at hg10; done) | (exfalso; simp only [hg6, Bool.not_false, Bool.not_true, reduceCtorEq] at hg10; done))) (EL.cons (.inr (by first | rfl | (simp only [hg2, hg6, hg10, els]; done) | (simp only [hg2, hg6, hg10, els]; rfl) | (simp [hg2, hg6, hg10]; done) | (clear hRR; simp_all; done) | (exfalso; simp only [hg2, Bool.not_false, Bool.not_true, reduceCtorEq] at hg6; done) | (exfalso; simp only [hg2, Bool.not_false, Bool.not_true, reduceCtorEq] at hg10; done) | (exfalso; simp only [hg6, Bool.not_false, Bool.not_true, reduceCtorEq] at hg10; done))) (EL.cons (.inl rfl) (EL.cons (.inl rfl) (EL.cons (.inr (by first | rfl | (simp only [hg2, hg6, hg10, els]; done) | (simp only [hg2, hg6, hg10, els]; rfl) | (simp [hg2, hg6, hg10]; done) | (clear hRR; simp_all; done) | (exfalso; simp only [hg2, Bool.not_false, Bool.not_true, reduceCtorEq] at hg6; done) | (exfalso; simp only [hg2, Bool.not_false, Bool.not_true, reduceCtorEq] at hg10; done) | (exfalso; simp only [hg6, Bool.not_false, Bool.not_true, reduceCtorEq] at hg10; done))) (EL.cons (.inr (by first | rfl | (simp only [hg2, hg6, hg10, els]; done) | (simp only [hg2, hg6, hg10, els]; rfl) | (simp [hg2, hg6, hg10]; done) | (clear hRR; simp_all; done) | (exfalso; simp only [hg2, Bool.not_false, Bool.not_true, reduceCtorEq] at hg6; done) | (exfalso; simp only [hg2, Bool.not_false, Bool.not_true, reduceCtorEq] at hg10; done) | (exfalso; simp only [hg6, Bool.not_false, Bool.not_true, reduceCtorEq] at hg10; done))) (EL.cons (.inl rfl) (EL.cons (.inl rfl) (EL.cons (.inr (by first | rfl | (simp only [hg2, hg6, hg10, els]; done) | (simp only [hg2, hg6, hg10, els]; rfl) | (simp [hg2, hg6, hg10]; done) | (clear hRR; simp_all; done) | (exfalso; simp only [hg2, Bool.not_false, Bool.not_true, reduceCtorEq] at hg6; done) | (exfalso; simp only [hg2, Bool.not_false, Bool.not_true, reduceCtorEq] at hg10; done) | (exfalso; simp only [hg6, Bool.not_false, Bool.not_true, reduceCtorEq] at hg10; done))) (EL.cons (.inr (by first | rfl | (simp only [hg2, hg6, hg10, els]; done) | (simp only [hg2, hg6, hg10, els]; rfl) | (simp [hg2, hg6, hg10]; done) | (clear hRR; simp_all; done) | (exfalso; simp only [hg2, Bool.not_false, Bool.not_true, reduceCtorEq] at hg6; done) | (exfalso; simp only [hg2, Bool.not_false, Bool.not_true, reduceCtorEq] at hg10; done) | (exfalso; simp only [hg6, Bool.not_false, Bool.not_true, reduceCtorEq] at hg10; done))) (EL.cons (.inl rfl) (EL.cons (.inl rfl) (EL.cons (.inr (by first | rfl | (simp only [hg2, hg6, hg10, els]; done) | (simp only [hg2, hg6, hg10, els]; rfl) | (simp [hg2, hg6, hg10]; done) | (clear hRR; simp_all; done) | (exfalso; simp only [hg2, Bool.not_false, Bool.not_true, reduceCtorEq] at hg6; done) | (exfalso; simp only [hg2, Bool.not_false, Bool.not_true, reduceCtorEq] at hg10; done) | (exfalso; simp only [hg6, Bool.not_false, Bool.not_true, reduceCtorEq] at hg10; done))) (EL.cons (.inr (by first | rfl | (simp only [hg2, hg6, hg10, els]; done) | (simp only [hg2, hg6, hg10, els]; rfl) | (simp [hg2, hg6, hg10]; done) | (clear hRR; simp_all; done) | (exfalso; simp only [hg2, Bool.not_false, Bool.not_true, reduceCtorEq] at hg6; done) | (exfalso; simp only [hg2, Bool.not_false, Bool.not_true, reduceCtorEq] at hg10; done) | (exfalso; simp only [hg6, Bool.not_false, Bool.not_true, reduceCtorEq] at hg10; done))) (EL.cons (.inl rfl) (EL.cons (.inl rfl) (EL.cons (.inr (by first | rfl | (simp only [hg2, hg6, hg10, els]; done) | (simp only [hg2, hg6, hg10, els]; rfl) | (simp [hg2, hg6, hg10]; done) | (clear hRR; simp_all; done) | (exfalso; simp only [hg2, Bool.not_false, Bool.not_true, reduceCtorEq] at hg6; done) | (exfalso; simp only [hg2, Bool.not_false, Bool.not_true, reduceCtorEq] at hg10; done) | (exfalso; simp only [hg6, Bool.not_false, Bool.not_true, reduceCtorEq] at hg10; done))) (EL.cons (.inr (by first | rfl | (simp only [hg2, hg6, hg10, els]; done) | (simp only [hg2, hg6, hg10, els]; rfl) | (simp [hg2, hg6, hg10]; done) | (clear hRR; simp_all; done) | (exfalso; simp only [hg2, Bool.not_false, Bool.not_true, reduceCtorEq] at hg6; done) | (exfalso; simp only [hg2, Bool.not_false, Bool.not_true, reduceCtorEq] at hg10; done) | (exfalso; simp only [hg6, Bool.not_false, Bool.not_true, reduceCtorEq] at hg10; done))) (EL.cons (.inl rfl) (EL.cons (.inl rfl) (EL.cons (.inr rfl) (EL.cons (.inr rfl) (EL.cons (.inr rfl) (EL.refl _))))))))))))))))))))))))
      · have hg6 := eq_true_of_ne_false hg6
        refine w_g_off rfl rfl (by rw [hg6]; decide) ?_
        refine w_pick_1 rfl hg6 (by constructor) ?_
        refine wm ?_
        refine w_g_off rfl rfl (by decide) ?_
        refine w_g_off rfl rfl (by decide) ?_
        refine w_pick_1 rfl rfl (by constructor) ?_
        refine wm ?_
        refine w_g_off rfl rfl (by decide) ?_
        refine w_g_off rfl rfl (by decide) ?_
        refine w_pick_1 rfl rfl (by constructor) ?_
        refine wm ?_
        refine w_g_off rfl rfl (by decide) ?_
        refine w_g_off rfl rfl (by decide) ?_
        refine w_pick_1 rfl rfl (by constructor) ?_
        refine wa ?_
        try simp only [Int.toNat_natCast] at hg2 hg6
        exact hRR _ (EL.cons (.inr (by first | rfl | (simp only [hg2, hg6, els]; done) | (simp only [hg2, hg6, els]; rfl) | (simp [hg2, hg6]; done) | (clear hRR; simp_all; done) | (exfalso; simp only [hg2, Bool.not_false, Bool.not_true, reduceCtorEq] at hg6; done))) (EL.cons (.inr (by first | rfl | (simp only [hg2, hg6, els]; done) | (simp only [hg2, hg6, els]; rfl) | (simp [hg2, hg6]; done) | (clear hRR; simp_all; done) | (exfalso; simp only [hg2, Bool.not_false, Bool.not_true, reduceCtorEq] at hg6; done))) (EL.cons (.inl rfl) (EL.cons (.inl rfl) (EL.cons (.inr (by first | rfl | (simp only [hg2, hg6, els]; done) | (simp only [hg2, hg6, els]; rfl) | (simp [hg2, hg6]; done) | (clear hRR; simp_all; done) | (exfalso; simp only [hg2, Bool.not_false, Bool.not_true, reduceCtorEq] at hg6; done))) (EL.cons (.inr (by first | rfl | (simp only [hg2, hg6, els]; done) | (simp only [hg2, hg6, els]; rfl) | (simp [hg2, hg6]; done) | (clear hRR; simp_all; done) | (exfalso; simp only [hg2, Bool.not_false, Bool.not_true, reduceCtorEq] at hg6; done))) (EL.cons (.inl rfl) (EL.cons (.inl rfl) (EL.cons (.inr (by first | rfl | (simp only [hg2, hg6, els]; done) | (simp only [hg2, hg6, els]; rfl) | (simp [hg2, hg6]; done) | (clear hRR; simp_all; done) | (exfalso; simp only [hg2, Bool.not_false, Bool.not_true, reduceCtorEq] at hg6; done))) (EL.cons (.inr (by first | rfl | (simp only [hg2, hg6, els]; done) | (simp only [hg2, hg6, els]; rfl) | (simp [hg2, hg6]; done) | (clear hRR; simp_all; done) | (exfalso; simp only [hg2, Bool.not_false, Bool.not_true, reduceCtorEq] at hg6; done))) (EL.cons (.inl rfl) (EL.cons (.inl rfl) (EL.cons (.inr (by first | rfl | (simp only [hg2, hg6, els]; done) | (simp only [hg2, hg6, els]; rfl) | (simp [hg2, hg6]; done) | (clear hRR; simp_all; done) | (exfalso; simp only [hg2, Bool.not_false, Bool.not_true, reduceCtorEq] at hg6; done))) (EL.cons (.inr (by first | rfl | (simp only [hg2, hg6, els]; done) | (simp only [hg2, hg6, els]; rfl) | (simp [hg2, hg6]; done) | (clear hRR; simp_all; done) | (exfalso; simp only [hg2, Bool.not_false, Bool.not_true, reduceCtorEq] at hg6; done))) (EL.cons (.inl rfl) (EL.cons (.inl rfl) (EL.cons (.inr (by first | rfl | (simp only [hg2, hg6, els]; done) | (simp only [hg2, hg6, els]; rfl) | (simp [hg2, hg6]; done) | (clear hRR; simp_all; done) | (exfalso; simp only [hg2, Bool.not_false, Bool.not_true, reduceCtorEq] at hg6; done))) (EL.cons (.inr (by first | rfl | (simp only [hg2, hg6, els]; done) | (simp only [hg2, hg6, els]; rfl) | (simp [hg2, hg6]; done) | (clear hRR; simp_all; done) | (exfalso; simp only [hg2, Bool.not_false, Bool.not_true, reduceCtorEq] at hg6; done))) (EL.cons (.inl rfl) (EL.cons (.inl rfl) (EL.cons (.inr rfl) (EL.cons (.inr rfl) (EL.cons (.inr rfl) (EL.refl _))))))))))))))))))))))))
    · have hg2 := eq_true_of_ne_false hg2
      refine w_g_off rfl rfl (by rw [hg2]; decide) ?_
      refine w_pick_1 rfl hg2 (by constructor) ?_
      refine wm ?_
      refine w_g_off rfl rfl (by decide) ?_
      refine w_g_off rfl rfl (by decide) ?_
      refine w_pick_1 rfl rfl (by constructor) ?_
      refine wm ?_
      refine w_g_off rfl rfl (by decide) ?_
      refine w_g_off rfl rfl (by decide) ?_
      refine w_pick_1 rfl rfl (by constructor) ?_
      refine wm ?_
      refine w_g_off rfl rfl (by decide) ?_
      refine w_g_off rfl rfl (by decide) ?_
      refine w_pick_1 rfl rfl (by constructor) ?_
      refine wm ?_
      refine w_g_off rfl rfl (by decide) ?_
      refine w_g_off rfl rfl (by decide) ?_
      refine w_pick_1 rfl rfl (by constructor) ?_
      refine wa ?_
      try simp only [Int.toNat_natCast] at hg2
      exact hRR _ (EL.cons (.inr (by first | rfl | (simp only [hg2, els]; done) | (simp only [hg2, els]; rfl) | (simp [hg2]; done) | (clear hRR; simp_all; done))) (EL.cons (.inr (by first | rfl | (simp only [hg2, els]; done) | (simp only [hg2, els]; rfl) | (simp [hg2]; done) | (clear hRR; simp_all; done))) (EL.cons (.inl rfl) (EL.cons (.inl rfl) (EL.cons (.inr (by first | rfl | (simp only [hg2, els]; done) | (simp only [hg2, els]; rfl) | (simp [hg2]; done) | (clear hRR; simp_all; done))) (EL.cons (.inr (by first | rfl | (simp only [hg2, els]; done) | (simp only [hg2, els]; rfl) | (simp [hg2]; done) | (clear hRR; simp_all; done))) (EL.cons (.inl rfl) (EL.cons (.inl rfl) (EL.cons (.inr (by first | rfl | (simp only [hg2, els]; done) | (simp only [hg2, els]; rfl) | (simp [hg2]; done) | (clear hRR; simp_all; done))) (EL.cons (.inr (by first | rfl | (simp only [hg2, els]; done) | (simp only [hg2, els]; rfl) | (simp [hg2]; done) | (clear hRR; simp_all; done))) (EL.cons (.inl rfl) (EL.cons (.inl rfl) (EL.cons (.inr (by first | rfl | (simp only [hg2, els]; done) | (simp only [hg2, els]; rfl) | (simp [hg2]; done) | (clear hRR; simp_all; done))) (EL.cons (.inr (by first | rfl | (simp only [hg2, els]; done) | (simp only [hg2, els]; rfl) | (simp [hg2]; done) | (clear hRR; simp_all; done))) (EL.cons (.inl rfl) (EL.cons (.inl rfl) (EL.cons (.inr (by first | rfl | (simp only [hg2, els]; done) | (simp only [hg2, els]; rfl) | (simp [hg2]; done) | (clear hRR; simp_all; done))) (EL.cons (.inr (by first | rfl | (simp only [hg2, els]; done) | (simp only [hg2, els]; rfl) | (simp [hg2]; done) | (clear hRR; simp_all; done))) (EL.cons (.inl rfl) (EL.cons (.inl rfl) (EL.cons (.inr rfl) (EL.cons (.inr rfl) (EL.cons (.inr rfl) (EL.refl _))))))))))))))))))))))))
  refine snd_ret ?_
  exact rt (T := TB) (fun V => by first | exact m_bool rfl | exact m_int rfl)
end Go.Am

set_option maxRecDepth 4000
namespace Go.Am
attribute [local irreducible] retQ retQp
open Go.Proofs
theorem c_tableOk {p n : Int} {T : Nat → Nat → Nat → Int} {fo : Nat → Int} (hT : B8T T) (hf : B8 fo) : ACalls Tryz.prog TB 81 [.cptr (algA p n T fo)] (.bool (decide (tabP p n T fo))) [] := by
  refine acalls_of tokTB Tryz.func81 rfl rfl (Nat.le_of_ble_eq_true rfl) ?_
  apply sr tokTB (by kernel_rfl)
  · intro RR hRR
    refine wa ?_
    exact hRR
  refine snd_seq ?_
  apply sr tokTB (by kernel_rfl)
  · intro RR hRR
    refine wm ?_
    refine w_nilc rfl ?_
    refine w_fac rfl und32 rfl kn29 nz29 (by decide) rfl (by constructor) ?_
    refine w_ldc rfl kn29 (by constructor) (by exact sz29.symm) (by exact ag29.symm) ?_
    refine wm ?_
    exact hRR
  refine snd_block ?_
  refine snd_loop (S := Nat) (fun i => ([(0, .cptr (algA p n T fo)), (10, tabA T), (11, .int .i64 (i : Int))], [])) (fun i => i ≤ 6 ∧ ∀ a, a < i → ∀ j, j < 6 → tabG p n T a j) (fun i => 6 - i) (0) ρ0 ?_ ?_ ?_
  · exact ⟨⟨m_calg, (by exact mt_tab (fun _ _ _ _ _ _ => rfl)), (mi), trivial⟩, trivial, trivial⟩
  · exact ⟨Nat.zero_le _, fun j hj => by omega⟩
  intro i hi0
  refine sq (env2 := [(0, .cptr (algA p n T fo)), (10, tabA T), (11, .int .i64 (i : Int))]) (ol2 := []) rfl rfl ?_
  obtain ⟨hi1, hi2⟩ := hi0
  apply sr tokTB (by kernel_rfl)
  · intro RR hRR
    refine w_lss rfl rfl ?_
    exact hRR
  refine snd_seq ?_
  refine snd_cond _ rfl (fun hc12 => ?_) (fun hc12 => ?_)
  · try simp only [hcs] at hc12
    refine snd_skip ?_
    refine snd_seq ?_
    refine snd_block ?_
    apply sr tokTB (by kernel_rfl)
    · intro RR hRR
      refine wm ?_
      refine w_ixa rfl rfl und29 kn28 (by exact sz28.symm) ?_ (by constructor) (by exact ag28.symm) ?_
      · exact ⟨by omega, by omega⟩
      refine w_alloc kn28 rfl zr28 ?_
      refine wa ?_
      refine w_stw rfl (by constructor) kn28 rfl (by exact trivial) (sx) (by exact sz28.symm) ?_
      exact hRR
    apply sr tokTB (by kernel_rfl)
    · intro RR hRR
      refine w_ldp rfl kn28 rfl (by constructor) (by exact sz28.symm) (by exact ag28.symm) ?_
      refine wm ?_
      exact hRR
    refine snd_block ?_
    refine snd_loop (S := Nat) (fun j => ([(0, .cptr (algA p n T fo)), (3, .int .i64 (i : Int)), (10, tabA T), (11, .int .i64 (i : Int)), (15, matA (T i)), (16, .int .i64 (j : Int))], [])) (fun j => j ≤ 6 ∧ ∀ b, b < j → tabG p n T i b) (fun j => 6 - j) (0) ρ0 ?_ ?_ ?_
    · exact ⟨⟨m_calg, (mi), (by exact mt_tab (fun _ _ _ _ _ _ => rfl)), (mi), (by exact mt_mat (fun _ _ _ _ => rfl)), (mi), trivial⟩, trivial, trivial⟩
    · exact ⟨Nat.zero_le _, fun j hj => by omega⟩
    intro j hi2
    refine sq (env2 := [(0, .cptr (algA p n T fo)), (3, .int .i64 (i : Int)), (10, tabA T), (11, .int .i64 (i : Int)), (15, matA (T i)), (16, .int .i64 (j : Int))]) (ol2 := []) rfl rfl ?_
    obtain ⟨hj1, hj2⟩ := hi2
    apply sr tokTB (by kernel_rfl)
    · intro RR hRR
      refine w_lss rfl rfl ?_
      exact hRR
    refine snd_seq ?_
    refine snd_cond _ rfl (fun hc17 => ?_) (fun hc17 => ?_)
    · try simp only [hcs] at hc17
      refine snd_skip ?_
      refine snd_seq ?_
      refine snd_block ?_
      apply sr tokTB (by kernel_rfl)
      · intro RR hRR
        refine wm ?_
        refine w_ixa rfl rfl und28 kn27 (by exact sz27.symm) ?_ (by constructor) (by exact ag27.symm) ?_
        · exact ⟨by omega, by omega⟩
        refine w_alloc kn27 rfl zr27 ?_
        refine wa ?_
        refine w_stw rfl (by constructor) kn27 rfl (by exact trivial) (sx) (by exact sz27.symm) ?_
        exact hRR
      apply sdG (env' := (47, .bool (!(decide (smP p n (T i j))) || ((decide (n ≤ (i : Int)) || decide (n ≤ (j : Int))) && decide (¬ eqN 6 (T i j) (fun _ => 0))))) :: (46, .any) :: (45, .any) :: (44, .any) :: (43, .any) :: (42, .any) :: (41, .any) :: (40, .any) :: (39, .any) :: (38, .any) :: (37, .any) :: (36, .any) :: (35, .any) :: (34, .any) :: (33, .any) :: (32, .any) :: (31, _) :: (30, _) :: (29, _) :: (28, _) :: (27, _) :: (26, _) :: (25, _) :: (24, _) :: (23, _) :: (22, _) :: (21, _) :: (20, _) :: _) tokTB mixed (by kernel_rfl) (by kernel_rfl)
      · intro RR hRR
        refine w_ldp rfl kn27 rfl (by constructor) (by exact sz27.symm) (by exact ag27.symm) ?_
        refine wm ?_
        first | refine w_nilc rfl ?_ | refine w_nilp rfl ?_ | refine w_nilf rfl ?_
        first | refine w_fac rfl und32 rfl kn2 nz2 (by decide) rfl (by constructor) ?_ | refine w_fap rfl und32 rfl kn2 nz2 rfl (by decide) rfl ?_
        first | refine w_ldc rfl kn2 (by constructor) (by exact sz2.symm) (by exact ag2.symm) ?_ | refine w_ldp rfl kn2 rfl (by constructor) (by exact sz2.symm) (by exact ag2.symm) ?_
        refine wm ?_
        first | refine w_nilc rfl ?_ | refine w_nilp rfl ?_ | refine w_nilf rfl ?_
        first | refine w_fac rfl und32 rfl kn2 nz2 (by decide) rfl (by constructor) ?_ | refine w_fap rfl und32 rfl kn2 nz2 rfl (by decide) rfl ?_
        first | refine w_ldc rfl kn2 (by constructor) (by exact sz2.symm) (by exact ag2.symm) ?_ | refine w_ldp rfl kn2 rfl (by constructor) (by exact sz2.symm) (by exact ag2.symm) ?_
        refine y_call rfl (ec (ec (ec exn))) (c_isVector (v := T i j) (hT i j)) ?_
        refine w_not rfl ?_
        refine wm ?_
        refine w_g rfl rfl (fun hg11 => ?_) (fun hg11 => ?_)
        · skip
          refine wm ?_
          refine w_g_on rfl rfl hg11 ?_
          refine wm ?_
          refine w_g_on rfl rfl hg11 ?_
          refine y_call rfl (ec exn) (c_n) ?_
          refine w_g_on rfl rfl hg11 ?_
          refine w_geq rfl rfl ?_
          refine w_g_on rfl rfl hg11 ?_
          refine wm ?_
          refine w_g rfl rfl (fun hg16 => ?_) (fun hg16 => ?_)
          · skip
            refine wm ?_
            refine w_g_on rfl rfl hg16 ?_
            refine wm ?_
            refine w_g_on rfl rfl hg16 ?_
            refine y_call rfl (ec exn) (c_n) ?_
            refine w_g_on rfl rfl hg16 ?_
            refine w_geq rfl rfl ?_
            refine w_g_on rfl rfl hg11 ?_
            refine w_pick_0 rfl hg16 (by constructor) ?_
            refine w_g_on rfl rfl hg11 ?_
            refine wm ?_
            refine w_g rfl rfl (fun hg22 => ?_) (fun hg22 => ?_)
            · skip
              refine w_ldp rfl kn27 rfl (by constructor) (by exact sz27.symm) (by exact ag27.symm) ?_
              refine w_g_on rfl rfl hg22 ?_
              refine w_bld_a kn27 zr27 und27 kn5 (fun _ => (by exact sz5.symm)) trivial rfl (by exact sz5.symm) ?_
              refine w_g_on rfl rfl hg22 ?_
              refine w_aneq rfl rfl und27 und5 ?_
              refine w_g_on rfl rfl hg11 ?_
              refine w_pick_1 rfl hg22 (by constructor) ?_
              refine w_pick_0 rfl hg11 (by constructor) ?_
              try simp only [Int.toNat_natCast] at hg11 hg16 hg22
              exact hRR _ (EL.cons (.inr (by first | rfl | (simp only [hg11, hg16, hg22, els]; done) | (simp only [hg11, hg16, hg22, els]; rfl) | (simp [hg11, hg16, hg22]; done) | (clear hRR; simp_all; done) | (exfalso; simp only [hg11, Bool.not_false, Bool.not_true, reduceCtorEq] at hg16; done) | (exfalso; simp only [hg11, Bool.not_false, Bool.not_true, reduceCtorEq] at hg22; done) | (exfalso; simp only [hg16, Bool.not_false, Bool.not_true, reduceCtorEq] at hg22; done))) (EL.cons (.inl rfl) (EL.cons (.inl rfl) (EL.cons (.inl rfl) (EL.cons (.inl rfl) (EL.cons (.inl rfl) (EL.cons (.inl rfl) (EL.cons (.inl rfl) (EL.cons (.inl rfl) (EL.cons (.inl rfl) (EL.cons (.inl rfl) (EL.cons (.inl rfl) (EL.cons (.inl rfl) (EL.cons (.inl rfl) (EL.cons (.inl rfl) (EL.cons (.inl rfl) (EL.cons (.inr rfl) (EL.cons (.inr rfl) (EL.cons (.inr rfl) (EL.cons (.inr rfl) (EL.cons (.inr rfl) (EL.cons (.inr rfl) (EL.cons (.inr rfl) (EL.cons (.inr rfl) (EL.cons (.inr rfl) (EL.cons (.inr rfl) (EL.cons (.inr rfl) (EL.cons (.inr rfl) (EL.refl _)))))))))))))))))))))))))))))
            · have hg22 := eq_false_of_ne_true hg22
              refine w_g_off rfl rfl (by rw [hg22]; decide) ?_
              refine w_g_off rfl rfl (by rw [hg22]; decide) ?_
              refine w_g_on rfl rfl hg11 ?_
              refine w_pick_0 rfl hg22 (by constructor) ?_
              refine w_pick_0 rfl hg11 (by constructor) ?_
              try simp only [Int.toNat_natCast] at hg11 hg16 hg22
              exact hRR _ (EL.cons (.inr (by first | rfl | (simp only [hg11, hg16, hg22, els]; done) | (simp only [hg11, hg16, hg22, els]; rfl) | (simp [hg11, hg16, hg22]; done) | (clear hRR; simp_all; done) | (exfalso; simp only [hg11, Bool.not_false, Bool.not_true, reduceCtorEq] at hg16; done) | (exfalso; simp only [hg11, Bool.not_false, Bool.not_true, reduceCtorEq] at hg22; done) | (exfalso; simp only [hg16, Bool.not_false, Bool.not_true, reduceCtorEq] at hg22; done))) (EL.cons (.inl rfl) (EL.cons (.inl rfl) (EL.cons (.inl rfl) (EL.cons (.inl rfl) (EL.cons (.inl rfl) (EL.cons (.inl rfl) (EL.cons (.inl rfl) (EL.cons (.inl rfl) (EL.cons (.inl rfl) (EL.cons (.inl rfl) (EL.cons (.inl rfl) (EL.cons (.inl rfl) (EL.cons (.inl rfl) (EL.cons (.inl rfl) (EL.cons (.inl rfl) (EL.cons (.inr rfl) (EL.cons (.inr rfl) (EL.cons (.inr rfl) (EL.cons (.inr rfl) (EL.cons (.inr rfl) (EL.cons (.inr rfl) (EL.cons (.inr rfl) (EL.cons (.inr rfl) (EL.cons (.inr rfl) (EL.cons (.inr rfl) (EL.cons (.inr rfl) (EL.cons (.inr rfl) (EL.refl _)))))))))))))))))))))))))))))
          · have hg16 := eq_true_of_ne_false hg16
            refine w_g_off rfl rfl (by rw [hg16]; decide) ?_
            refine w_g_off rfl rfl (by rw [hg16]; decide) ?_
            refine w_g_off rfl rfl (by rw [hg16]; decide) ?_
            refine w_g_on rfl rfl hg11 ?_
            refine w_pick_1 rfl hg16 (by constructor) ?_
            refine w_g_on rfl rfl hg11 ?_
            refine wm ?_
            refine w_g_on rfl rfl rfl ?_
            refine w_ldp rfl kn27 rfl (by constructor) (by exact sz27.symm) (by exact ag27.symm) ?_
            refine w_g_on rfl rfl rfl ?_
            refine w_bld_a kn27 zr27 und27 kn5 (fun _ => (by exact sz5.symm)) trivial rfl (by exact sz5.symm) ?_
            refine w_g_on rfl rfl rfl ?_
            refine w_aneq rfl rfl und27 und5 ?_
            refine w_g_on rfl rfl hg11 ?_
            refine w_pick_1 rfl rfl (by constructor) ?_
            refine w_pick_0 rfl hg11 (by constructor) ?_
            try simp only [Int.toNat_natCast] at hg11 hg16
            exact hRR _ (EL.cons (.inr (by first | rfl | (simp only [hg11, hg16, els]; done) | (simp only [hg11, hg16, els]; rfl) | (simp [hg11, hg16]; done) | (clear hRR; simp_all; done) | (exfalso; simp only [hg11, Bool.not_false, Bool.not_true, reduceCtorEq] at hg16; done))) (EL.cons (.inl rfl) (EL.cons (.inl rfl) (EL.cons (.inl rfl) (EL.cons (.inl rfl) (EL.cons (.inl rfl) (EL.cons (.inl rfl) (EL.cons (.inl rfl) (EL.cons (.inl rfl) (EL.cons (.inl rfl) (EL.cons (.inl rfl) (EL.cons (.inl rfl) (EL.cons (.inl rfl) (EL.cons (.inl rfl) (EL.cons (.inl rfl) (EL.cons (.inl rfl) (EL.cons (.inr rfl) (EL.cons (.inr rfl) (EL.cons (.inr rfl) (EL.cons (.inr rfl) (EL.cons (.inr rfl) (EL.cons (.inr rfl) (EL.cons (.inr rfl) (EL.cons (.inr rfl) (EL.cons (.inr rfl) (EL.cons (.inr rfl) (EL.cons (.inr rfl) (EL.cons (.inr rfl) (EL.refl _)))))))))))))))))))))))))))))
        · have hg11 := eq_true_of_ne_false hg11
          refine w_g_off rfl rfl (by rw [hg11]; decide) ?_
          refine w_g_off rfl rfl (by rw [hg11]; decide) ?_
          refine w_g_off rfl rfl (by rw [hg11]; decide) ?_
          refine w_g_off rfl rfl (by rw [hg11]; decide) ?_
          refine w_g_und rfl rfl ?_
          refine w_g_und rfl rfl ?_
          refine w_g_und rfl rfl ?_
          refine w_g_und rfl rfl ?_
          refine w_g_off rfl rfl (by rw [hg11]; decide) ?_
          refine w_g_off rfl rfl (by rw [hg11]; decide) ?_
          refine w_g_und rfl rfl ?_
          refine w_g_und rfl rfl ?_
          refine w_g_und rfl rfl ?_
          refine w_g_off rfl rfl (by rw [hg11]; decide) ?_
          refine w_pick_1 rfl hg11 (by constructor) ?_
          try simp only [Int.toNat_natCast] at hg11
          exact hRR _ (EL.cons (.inr (by first | rfl | (simp only [hg11, els]; done) | (simp only [hg11, els]; rfl) | (simp [hg11]; done) | (clear hRR; simp_all; done))) (EL.cons (.inl rfl) (EL.cons (.inl rfl) (EL.cons (.inl rfl) (EL.cons (.inl rfl) (EL.cons (.inl rfl) (EL.cons (.inl rfl) (EL.cons (.inl rfl) (EL.cons (.inl rfl) (EL.cons (.inl rfl) (EL.cons (.inl rfl) (EL.cons (.inl rfl) (EL.cons (.inl rfl) (EL.cons (.inl rfl) (EL.cons (.inl rfl) (EL.cons (.inl rfl) (EL.cons (.inr rfl) (EL.cons (.inr rfl) (EL.cons (.inr rfl) (EL.cons (.inr rfl) (EL.cons (.inr rfl) (EL.cons (.inr rfl) (EL.cons (.inr rfl) (EL.cons (.inr rfl) (EL.cons (.inr rfl) (EL.cons (.inr rfl) (EL.cons (.inr rfl) (EL.cons (.inr rfl) (EL.refl _)))))))))))))))))))))))))))))
      refine snd_cond _ rfl (fun hc47 => ?_) (fun hc47 => ?_)
      · skip
        apply sr tokTB (by kernel_rfl)
        · intro RR hRR
          refine wa ?_
          exact hRR
        refine snd_ret ?_
        exact rt (T := TB) (fun V => m_bool (by symm; rw [decide_eq_false_iff_not]; intro h; rw [tabG_iff.1 (h.1 i (by omega) j (by omega))] at hc47; cases hc47))
      · skip
        refine snd_skip ?_
        apply lr tokTB (by kernel_rfl)
        · intro RR hRR
          refine y_add rfl rfl ?_
          refine wm ?_
          exact hRR
        refine ⟨j + 1, ρ0, ?_, ⟨by omega, all_step hj2 (tabG_iff.2 hc47)⟩, (by dsimp only; omega)⟩
        exact ⟨⟨m_calg, (mi), (by exact mt_tab (fun _ _ _ _ _ _ => rfl)), (mi), (by exact mt_mat (fun _ _ _ _ => rfl)), (mi), trivial⟩, trivial, trivial⟩
    · try simp only [hcs] at hc17
      refine snd_exit ?_
      apply lr tokTB (by kernel_rfl)
      · intro RR hRR
        refine y_add rfl rfl ?_
        refine wm ?_
        exact hRR
      refine ⟨i + 1, ρ0, ?_, ⟨by omega, all_step hi2 (fun b hb => hj2 b (by omega))⟩, (by dsimp only; omega)⟩
      exact ⟨⟨m_calg, (by exact mt_tab (fun _ _ _ _ _ _ => rfl)), (mi), trivial⟩, trivial, trivial⟩
  · try simp only [hcs] at hc12
    refine snd_exit ?_
    apply sd tokTB mixed (by kernel_rfl) (by kernel_rfl)
    · intro RR hRR
      refine wm ?_
      refine w_nilc rfl ?_
      refine w_fac rfl und32 rfl kn30 nz30 (by decide) rfl (by constructor) ?_
      refine w_ldc rfl kn30 (by constructor) (by exact sz30.symm) (by exact ag30.symm) ?_
      refine wm ?_
      refine w_nilc rfl ?_
      refine w_fac rfl und32 rfl kn2 nz2 (by decide) rfl (by constructor) ?_
      refine w_ldc rfl kn2 (by constructor) (by exact sz2.symm) (by exact ag2.symm) ?_
      refine wm ?_
      refine w_nilc rfl ?_
      refine w_fac rfl und32 rfl kn2 nz2 (by decide) rfl (by constructor) ?_
      refine w_ldc rfl kn2 (by constructor) (by exact sz2.symm) (by exact ag2.symm) ?_
      refine y_call rfl (ec (ec (ec exn))) (c_isVector hf) ?_
      refine wa ?_
      exact hRR
    refine snd_ret ?_
    exact rt (T := TB) (fun V => m_bool (tab_end (fun a ha b hb => hi2 a (by omega) b hb)))
theorem c_associative {p : Int} {n : Nat} {T : Nat → Nat → Nat → Int} {fo : Nat → Int} (hp : 0 < p) (hp2 : p < 256) (hn : n ≤ 6) (hT : B8T T) : ACalls Tryz.prog TB 82 [.cptr (algA p (n : Int) T fo)] (.bool (decide (assocP p n T))) [] := by
  refine acalls_of tokTB Tryz.func82 rfl rfl (Nat.le_of_ble_eq_true rfl) ?_
  apply sr tokTB (by kernel_rfl)
  · intro RR hRR
    refine wa ?_
    exact hRR
  refine snd_seq ?_
  apply sr tokTB (by kernel_rfl)
  · intro RR hRR
    refine wm ?_
    refine y_call rfl (ec exn) (c_n) ?_
    refine wm ?_
    exact hRR
  refine snd_block ?_
  refine snd_loop (S := Nat) (fun i => ([(0, .cptr (algA p (n : Int) T fo)), (7, .int .i64 (n : Int)), (8, .int .i64 (i : Int))], [])) (fun i => i ≤ n ∧ ∀ a, a < i → ∀ j, j < n → ∀ k, k < n → assocG p n T a j k) (fun i => n - i) (0) ρ0 ?_ ?_ ?_
  · exact ⟨⟨m_calg, (mi), (mi), trivial⟩, trivial, trivial⟩
  · exact ⟨Nat.zero_le _, fun j hj => by omega⟩
  intro i hi0
  refine sq (env2 := [(0, .cptr (algA p (n : Int) T fo)), (7, .int .i64 (n : Int)), (8, .int .i64 (i : Int))]) (ol2 := []) rfl rfl ?_
  obtain ⟨hi1, hi2⟩ := hi0
  apply sr tokTB (by kernel_rfl)
  · intro RR hRR
    refine w_lss rfl rfl ?_
    exact hRR
  refine snd_seq ?_
  refine snd_cond _ rfl (fun hc9 => ?_) (fun hc9 => ?_)
  · try simp only [hcs] at hc9
    refine snd_skip ?_
    refine snd_seq ?_
    refine snd_block ?_
    apply sr tokTB (by kernel_rfl)
    · intro RR hRR
      refine wm ?_
      refine wa ?_
      exact hRR
    apply sr tokTB (by kernel_rfl)
    · intro RR hRR
      refine wm ?_
      refine y_call rfl (ec exn) (c_n) ?_
      refine wm ?_
      exact hRR
    refine snd_block ?_
    refine snd_loop (S := Nat) (fun j => ([(0, .cptr (algA p (n : Int) T fo)), (3, .int .i64 (i : Int)), (7, .int .i64 (n : Int)), (8, .int .i64 (i : Int)), (12, .int .i64 (n : Int)), (13, .int .i64 (j : Int))], [])) (fun j => j ≤ n ∧ ∀ b, b < j → ∀ k, k < n → assocG p n T i b k) (fun j => n - j) (0) ρ0 ?_ ?_ ?_
    · exact ⟨⟨m_calg, (mi), (mi), (mi), (mi), (mi), trivial⟩, trivial, trivial⟩
    · exact ⟨Nat.zero_le _, fun j hj => by omega⟩
    intro j hi2
    refine sq (env2 := [(0, .cptr (algA p (n : Int) T fo)), (3, .int .i64 (i : Int)), (7, .int .i64 (n : Int)), (8, .int .i64 (i : Int)), (12, .int .i64 (n : Int)), (13, .int .i64 (j : Int))]) (ol2 := []) rfl rfl ?_
    obtain ⟨hj1, hj2⟩ := hi2
    apply sr tokTB (by kernel_rfl)
    · intro RR hRR
      refine w_lss rfl rfl ?_
      exact hRR
    refine snd_seq ?_
    refine snd_cond _ rfl (fun hc14 => ?_) (fun hc14 => ?_)
    · try simp only [hcs] at hc14
      refine snd_skip ?_
      refine snd_seq ?_
      refine snd_block ?_
      apply sr tokTB (by kernel_rfl)
      · intro RR hRR
        refine wm ?_
        refine wa ?_
        exact hRR
      apply sr tokTB (by kernel_rfl)
      · intro RR hRR
        refine wm ?_
        refine y_call rfl (ec exn) (c_n) ?_
        refine wm ?_
        exact hRR
      refine snd_block ?_
      refine snd_loop (S := Nat) (fun k => ([(0, .cptr (algA p (n : Int) T fo)), (3, .int .i64 (i : Int)), (4, .int .i64 (j : Int)), (7, .int .i64 (n : Int)), (8, .int .i64 (i : Int)), (12, .int .i64 (n : Int)), (13, .int .i64 (j : Int)), (17, .int .i64 (n : Int)), (18, .int .i64 (k : Int))], [])) (fun k => k ≤ n ∧ ∀ c, c < k → assocG p n T i j c) (fun k => n - k) (0) ρ0 ?_ ?_ ?_
      · exact ⟨⟨m_calg, (mi), (mi), (mi), (mi), (mi), (mi), (mi), (mi), trivial⟩, trivial, trivial⟩
      · exact ⟨Nat.zero_le _, fun j hj => by omega⟩
      intro k hi4
      refine sq (env2 := [(0, .cptr (algA p (n : Int) T fo)), (3, .int .i64 (i : Int)), (4, .int .i64 (j : Int)), (7, .int .i64 (n : Int)), (8, .int .i64 (i : Int)), (12, .int .i64 (n : Int)), (13, .int .i64 (j : Int)), (17, .int .i64 (n : Int)), (18, .int .i64 (k : Int))]) (ol2 := []) rfl rfl ?_
      obtain ⟨hk1, hk2⟩ := hi4
      apply sr tokTB (by kernel_rfl)
      · intro RR hRR
        refine w_lss rfl rfl ?_
        exact hRR
      refine snd_seq ?_
      refine snd_cond _ rfl (fun hc19 => ?_) (fun hc19 => ?_)
      · try simp only [hcs] at hc19
        refine snd_skip ?_
        refine snd_seq ?_
        refine snd_block ?_
        apply sr tokTB (by kernel_rfl)
        · intro RR hRR
          refine wm ?_
          refine wa ?_
          exact hRR
        apply sd tokTB mixed (by kernel_rfl) (by kernel_rfl)
        · intro RR hRR
          refine wm ?_
          refine wm ?_
          refine wm ?_
          refine wm ?_
          refine w_nilc rfl ?_
          refine w_fac rfl und32 rfl kn29 nz29 (by decide) rfl (by constructor) ?_
          refine w_iac rfl rfl und29 kn28 (by exact sz28.symm) ?_ rfl ?_
          · exact ⟨by omega, by omega⟩
          refine w_iac rfl rfl und28 kn27 (by exact sz27.symm) ?_ rfl ?_
          · exact ⟨by omega, by omega⟩
          refine w_ldc rfl kn27 (by constructor) (by exact sz27.symm) (by exact ag27.symm) ?_
          refine wm ?_
          refine y_call rfl (ec exn) (c_basis (by omega)) ?_
          refine y_call rfl (ec (ec (ec exn))) (c_times (u := T i j) (v := eF k) hp hp2 hn hT (hT i j) (eF_B8 k)) ?_
          refine wm ?_
          refine wm ?_
          refine y_call rfl (ec exn) (c_basis (by omega)) ?_
          refine wm ?_
          refine wm ?_
          refine wm ?_
          refine w_nilc rfl ?_
          refine w_fac rfl und32 rfl kn29 nz29 (by decide) rfl (by constructor) ?_
          refine w_iac rfl rfl und29 kn28 (by exact sz28.symm) ?_ rfl ?_
          · exact ⟨by omega, by omega⟩
          refine w_iac rfl rfl und28 kn27 (by exact sz27.symm) ?_ rfl ?_
          · exact ⟨by omega, by omega⟩
          refine w_ldc rfl kn27 (by constructor) (by exact sz27.symm) (by exact ag27.symm) ?_
          refine y_call rfl (ec (ec (ec exn))) (c_times (u := eF i) (v := T j k) hp hp2 hn hT (eF_B8 i) (hT j k)) ?_
          refine w_aneq rfl rfl und30 und5 ?_
          exact hRR
        refine snd_cond _ rfl (fun hc45 => ?_) (fun hc45 => ?_)
        · skip
          apply sr tokTB (by kernel_rfl)
          · intro RR hRR
            refine wa ?_
            exact hRR
          refine snd_ret ?_
          exact rt (T := TB) (fun V => m_bool (by symm; rw [decide_eq_false_iff_not]; intro h; exact of_decide_eq_true (p := ¬ eqN 6 _ _) hc45 (h i (by omega) j (by omega) k (by omega))))
        · skip
          refine snd_skip ?_
          apply lr tokTB (by kernel_rfl)
          · intro RR hRR
            refine y_add rfl rfl ?_
            refine wm ?_
            exact hRR
          refine ⟨k + 1, ρ0, ?_, ⟨by omega, all_step hk2 (Classical.not_not.1 (of_decide_eq_false (p := ¬ eqN 6 _ _) hc45))⟩, (by dsimp only; omega)⟩
          exact ⟨⟨m_calg, (mi), (mi), (mi), (mi), (mi), (mi), (mi), (mi), trivial⟩, trivial, trivial⟩
      · try simp only [hcs] at hc19
        refine snd_exit ?_
        apply lr tokTB (by kernel_rfl)
        · intro RR hRR
          refine y_add rfl rfl ?_
          refine wm ?_
          exact hRR
        refine ⟨j + 1, ρ0, ?_, ⟨by omega, all_step hj2 (fun b hb => hk2 b (by omega))⟩, (by dsimp only; omega)⟩
        exact ⟨⟨m_calg, (mi), (mi), (mi), (mi), (mi), trivial⟩, trivial, trivial⟩
    · try simp only [hcs] at hc14
      refine snd_exit ?_
      apply lr tokTB (by kernel_rfl)
      · intro RR hRR
        refine y_add rfl rfl ?_
        refine wm ?_
        exact hRR
      refine ⟨i + 1, ρ0, ?_, ⟨by omega, all_step hi2 (fun b hb => hj2 b (by omega))⟩, (by dsimp only; omega)⟩
      exact ⟨⟨m_calg, (mi), (mi), trivial⟩, trivial, trivial⟩
  · try simp only [hcs] at hc9
    refine snd_exit ?_
    apply sr tokTB (by kernel_rfl)
    · intro RR hRR
      refine wa ?_
      exact hRR
    refine snd_ret ?_
    exact rt (T := TB) (fun V => m_bool (by symm; rw [decide_eq_true_eq]; exact fun a ha b hb c hc => hi2 a (by omega) b hb c hc))
end Go.Am

set_option maxRecDepth 4000
namespace Go.Am
attribute [local irreducible] retQ retQp
open Go.Proofs
theorem c_l01Own {m : Nat} {f : Nat → Int} (h0 : 0 < m) (hm : m ≤ 1000000) : ACalls Tryz.prog TB 58 [rowA m f] (.own 0 0 m 2) (HR m f) := by
  refine acalls_of tokTB Tryz.func58 rfl rfl (Nat.le_of_ble_eq_true rfl) ?_
  apply sr tokTB (by kernel_rfl)
  · intro RR hRR
    refine wa ?_
    exact hRR
  apply sr tokTB (by kernel_rfl)
  · intro RR hRR
    refine w_bsl und24 kn2 (by rw [sz2]; rfl) rfl trivial trivial rfl ?_
    refine wm ?_
    refine w_app_o und24 rfl rfl kn2 rfl rfl (fun C h => ⟨by omega, fun _ => trivial, h⟩) (by rw [by2]; omega) (by omega) rfl ?_
    refine wa ?_
    exact hRR
  refine snd_ret ?_
  show retQ TB _ _ _ _ _ _
  exact rt_own rfl rfl (by omega) (fun _ => trivial) (fun V i hi => by rw [appF_ge (Nat.zero_le _) (by omega)]; rfl)
theorem c_IndexFunc1 {m : Nat} {f : Nat → Int} {g nc : Nat} {caps : Nat → AV} {P : Nat → Bool} (hm : m ≤ 1000000) (hcaps : (AV.fn g nc caps).closed) (hf : ∀ i, i < m → ACalls Tryz.prog TB g (.int .i64 (f i) :: capL nc caps) (.bool (P i)) []) : ACalls Tryz.prog TB 79 [rowA m f, .fn g nc caps] (.int .i64 (idxF P m)) [] := by
  refine acalls_of tokTB Tryz.func79 rfl rfl (Nat.le_of_ble_eq_true rfl) ?_
  apply sr tokTB (by kernel_rfl)
  · intro RR hRR
    refine wa ?_
    exact hRR
  refine snd_seq ?_
  apply sr tokTB (by kernel_rfl)
  · intro RR hRR
    refine wm ?_
    refine w_len_r rfl rfl und24 ?_
    refine wm ?_
    exact hRR
  refine snd_block ?_
  refine snd_loop (S := Nat) (fun i => ([(0, rowA m f), (1, .fn g nc caps), (7, .int .i64 (m : Int)), (8, .int .i64 (i : Int))], [])) (fun i => i ≤ m ∧ ∀ j, j < i → P j = false) (fun i => m - i) (0) ρ0 ?_ ?_ ?_
  · exact ⟨⟨(by first | exact mt_row (V := _) (fun _ _ => rfl) | exact mt_fz (by exact trivial) rfl (fun _ _ => rfl)), (Mt_closed (V := _) (by assumption) (fun _ _ _ => trivial) (by simp)), (mi), (mi), trivial⟩, trivial, trivial⟩
  · exact ⟨Nat.zero_le _, fun j hj => by omega⟩
  intro i hi0
  refine sq (env2 := [(0, rowA m f), (1, .fn g nc caps), (7, .int .i64 (m : Int)), (8, .int .i64 (i : Int))]) (ol2 := []) rfl rfl ?_
  obtain ⟨hi1, hi2⟩ := hi0
  apply sr tokTB (by kernel_rfl)
  · intro RR hRR
    refine w_lss rfl rfl ?_
    exact hRR
  refine snd_seq ?_
  refine snd_cond _ rfl (fun hc9 => ?_) (fun hc9 => ?_)
  · try simp only [hcs] at hc9
    refine snd_skip ?_
    refine snd_seq ?_
    refine snd_block ?_
    apply sr tokTB (by kernel_rfl)
    · intro RR hRR
      refine wm ?_
      refine wa ?_
      exact hRR
    apply sr tokTB (by kernel_rfl)
    · intro RR hRR
      refine wm ?_
      refine wm ?_
      refine wm ?_
      refine w_iar rfl rfl und24 kn2 (by exact sz2.symm) ?_ rfl ?_
      · exact ⟨by omega, by omega⟩
      first | refine w_ldc rfl kn2 (by constructor) (by exact sz2.symm) (by exact ag2.symm) ?_ | refine w_ldp rfl kn2 rfl (by constructor) (by exact sz2.symm) (by exact ag2.symm) ?_
      refine y_call rfl (exc (by exact rfl) (exp_capL hcaps)) (hf i (by omega)) ?_
      exact hRR
    refine snd_cond _ rfl (fun hc16 => ?_) (fun hc16 => ?_)
    · skip
      apply sr tokTB (by kernel_rfl)
      · intro RR hRR
        refine wm ?_
        refine wa ?_
        exact hRR
      refine snd_ret ?_
      exact rt (T := TB) (fun V => m_int (idx_at (by omega) (by exact hc16) hi2).symm)
    · skip
      refine snd_skip ?_
      apply lr tokTB (by kernel_rfl)
      · intro RR hRR
        refine y_add rfl rfl ?_
        refine wm ?_
        exact hRR
      refine ⟨i + 1, ρ0, ?_, ⟨by omega, all_step hi2 (by exact hc16)⟩, (by dsimp only; omega)⟩
      exact ⟨⟨(by first | exact mt_row (V := _) (fun _ _ => rfl) | exact mt_fz (by exact trivial) rfl (fun _ _ => rfl)), (Mt_closed (V := _) (by assumption) (fun _ _ _ => trivial) (by simp)), (mi), (mi), trivial⟩, trivial, trivial⟩
  · try simp only [hcs] at hc9
    refine snd_exit ?_
    apply sr tokTB (by kernel_rfl)
    · intro RR hRR
      refine wa ?_
      exact hRR
    refine snd_ret ?_
    exact rt (T := TB) (fun V => m_int (idx_none (fun j hj => hi2 j (by omega))).symm)
theorem c_leader1 {x : Int} : ACalls Tryz.prog TB 93 [.int .i64 x] (.bool (decide (x ≠ 0))) [] := by
  refine acalls_of tokTB Tryz.func93 rfl rfl (Nat.le_of_ble_eq_true rfl) ?_
  apply sr tokTB (by kernel_rfl)
  · intro RR hRR
    refine wa ?_
    exact hRR
  apply sr tokTB (by kernel_rfl)
  · intro RR hRR
    refine wm ?_
    refine w_neq rfl rfl ?_
    refine wa ?_
    exact hRR
  refine snd_ret ?_
  exact rt (T := TB) (fun V => by first | exact m_bool rfl | exact m_int rfl)
theorem c_leader {m : Nat} {f : Nat → Int} (hm : m ≤ 1000000) : ACalls Tryz.prog TB 72 [rowA m f] (.int .i64 (idxF (fun i => decide (f i ≠ 0)) m)) [] := by
  refine acalls_of tokTB Tryz.func72 rfl rfl (Nat.le_of_ble_eq_true rfl) ?_
  apply sr tokTB (by kernel_rfl)
  · intro RR hRR
    refine wa ?_
    exact hRR
  apply sr tokTB (by kernel_rfl)
  · intro RR hRR
    refine wm ?_
    refine y_call rfl (ec (ec exn)) (c_IndexFunc1 (nc := 0) (caps := fun _ => .any) (P := fun i => decide (f i ≠ 0)) hm (fun _ => trivial) (fun i _ => c_leader1)) ?_
    refine wa ?_
    exact hRR
  refine snd_ret ?_
  exact rt (T := TB) (fun V => by first | exact m_bool rfl | exact m_int rfl)
theorem c_lessTimes {m : Nat} {f g : Nat → Int} {p k : Int} (hm : m ≤ 1000000) (hp : 0 < p) (hp2 : p ≤ 256) (hf : B8 f) (hg : B8 g) (hk : 0 ≤ k ∧ k < 256) : ACalls Tryz.prog TB 61 [rowA m f, rowA m g, .int .i64 k, .int .i64 p] (.own 0 0 m 2) (HR m (lessF p f g k)) := by
  refine acalls_of tokTB Tryz.func61 rfl rfl (Nat.le_of_ble_eq_true rfl) ?_
  apply sr tokTB (by kernel_rfl)
  · intro RR hRR
    refine wa ?_
    exact hRR
  apply sr tokTB (by kernel_rfl)
  · intro RR hRR
    refine w_bsl und24 kn2 (by rw [sz2]; rfl) rfl trivial trivial rfl ?_
    refine wa ?_
    exact hRR
  refine snd_seq ?_
  apply sr tokTB (by kernel_rfl)
  · intro RR hRR
    refine wm ?_
    refine w_len_r rfl rfl und24 ?_
    refine wm ?_
    exact hRR
  refine snd_block ?_
  refine snd_loop (S := Nat) (fun i => ([(1, rowA m g), (2, .int .i64 k), (3, .int .i64 p), (13, rowA m f), (14, .int .i64 (m : Int)), (9, .own 900 0 i 2), (15, .int .i64 (i : Int))], [(900, .one (Z64 i) (C64 i (lessF p f g k)))])) (fun i => i ≤ m) (fun i => m - i) (0) (fun k i => bif Nat.beq k 900 then (12, i) else (k, i)) ?_ ?_ ?_
  · exact ⟨⟨(by first | exact mt_row (V := _) (fun _ _ => rfl) | exact mt_fz (by exact ⟨(ne_fst rfl), trivial⟩) rfl (fun _ _ => rfl)), (mi), (mi), (by first | exact mt_row (V := _) (fun _ _ => rfl) | exact mt_fz (by exact ⟨(ne_fst rfl), trivial⟩) rfl (fun _ _ => rfl)), (mi), (by first | exact ⟨rfl, rfl, rfl, rfl⟩ | exact ⟨rfl, by omega, rfl, rfl⟩), (mi), trivial⟩, ⟨⟨rfl, (sx), (by exact mt_arr0)⟩, trivial⟩, ⟨⟨(fun h => by first | exact ⟨rfl, rfl⟩ | exact absurd h (by decide)), trivial⟩, trivial⟩⟩
  · exact Nat.zero_le _
  intro i hi0
  refine sq (env2 := [(1, rowA m g), (2, .int .i64 k), (3, .int .i64 p), (13, rowA m f), (14, .int .i64 (m : Int)), (9, .own 900 0 i 2), (15, .int .i64 (i : Int))]) (ol2 := [(900, .one (Z64 i) (C64 i (lessF p f g k)))]) rfl rfl ?_
  apply sr tokTB (by kernel_rfl)
  · intro RR hRR
    refine w_lss rfl rfl ?_
    exact hRR
  refine snd_seq ?_
  refine snd_cond _ rfl (fun hc16 => ?_) (fun hc16 => ?_)
  · try simp only [hcs] at hc16
    refine snd_skip ?_
    refine snd_seq ?_
    refine snd_block ?_
    apply sr tokTB (by kernel_rfl)
    · intro RR hRR
      refine wm ?_
      refine w_iar rfl rfl und24 kn2 (by exact sz2.symm) ?_ rfl ?_
      · exact ⟨by omega, by omega⟩
      first | refine w_ldc rfl kn2 (by constructor) (by exact sz2.symm) (by exact ag2.symm) ?_ | refine w_ldp rfl kn2 rfl (by constructor) (by exact sz2.symm) (by exact ag2.symm) ?_
      refine wa ?_
      refine wa ?_
      exact hRR
    apply lr tokTB (by kernel_rfl)
    · intro RR hRR
      refine wm ?_
      refine wm ?_
      refine wm ?_
      refine wm ?_
      refine wm ?_
      refine w_iar rfl rfl und24 kn2 (by exact sz2.symm) ?_ rfl ?_
      · exact ⟨by omega, by omega⟩
      first | refine w_ldc rfl kn2 (by constructor) (by exact sz2.symm) (by exact ag2.symm) ?_ | refine w_ldp rfl kn2 rfl (by constructor) (by exact sz2.symm) (by exact ag2.symm) ?_
      refine w_mul rfl rfl (by exact w_kg hk hg i) ?_
      refine w_sub rfl rfl (by exact w_fkg hf hk hg i) ?_
      refine wm ?_
      refine y_call rfl (ec (ec exn)) (c_rest (by omega) (by omega)) ?_
      refine w_bsl1 und24 kn2 (by rw [sz2]; rfl) rfl (by constructor) (by first | exact trivial | exact cel_cap2) (by exact sz2.symm) (by first | exact trivial | exact ssh_vec | exact ⟨rfl, fun _ => trivial⟩) ?_
      refine w_app_o und24 rfl rfl kn2 rfl rfl (fun C h => ⟨rfl, rfl, rfl, h⟩) (by rw [by2]; omega) (by omega) rfl ?_
      refine wa ?_
      exact hRR
    apply lr tokTB (by kernel_rfl)
    · intro RR hRR
      refine y_add rfl rfl ?_
      refine wm ?_
      exact hRR
    refine ⟨i + 1, (fun k i => bif Nat.beq k 900 then (32, i) else (k, i)), ?_, (by omega), (by dsimp only; omega)⟩
    exact ⟨⟨(by first | exact mt_row (V := _) (fun _ _ => rfl) | exact mt_fz (by exact ⟨(ne_fst rfl), trivial⟩) rfl (fun _ _ => rfl)), (mi), (mi), (by first | exact mt_row (V := _) (fun _ _ => rfl) | exact mt_fz (by exact ⟨(ne_fst rfl), trivial⟩) rfl (fun _ _ => rfl)), (mi), (by first | exact ⟨rfl, rfl, rfl, rfl⟩ | exact ⟨rfl, by omega, rfl, rfl⟩), (mi), trivial⟩, ⟨⟨rfl, (sx), (by exact mt_app (fun _ _ => rfl) rfl)⟩, trivial⟩, ⟨⟨(fun h => by first | exact ⟨rfl, rfl⟩ | exact absurd h (by decide)), trivial⟩, trivial⟩⟩
  · try simp only [hcs] at hc16
    have him : m = i := by omega
    subst him
    refine snd_exit ?_
    apply sr tokTB (by kernel_rfl)
    · intro RR hRR
      refine wm ?_
      refine wa ?_
      exact hRR
    refine snd_ret ?_
    show retQ TB _ _ _ _ _ _
    exact rt_own rfl rfl rfl (fun _ => trivial) (fun V i hi => rfl)
theorem c_scaled {m : Nat} {f : Nat → Int} {p k : Int} (hm : m ≤ 1000000) (hp : 0 < p) (hp2 : p ≤ 256) (hf : B8 f) (hk : 0 ≤ k ∧ k < 256) : ACalls Tryz.prog TB 86 [rowA m f, .int .i64 k, .int .i64 p] (.own 0 0 m 2) (HR m (scaledF p f k)) := by
  refine acalls_of tokTB Tryz.func86 rfl rfl (Nat.le_of_ble_eq_true rfl) ?_
  apply sr tokTB (by kernel_rfl)
  · intro RR hRR
    refine wa ?_
    exact hRR
  apply sr tokTB (by kernel_rfl)
  · intro RR hRR
    refine w_bsl und24 kn2 (by rw [sz2]; rfl) rfl trivial trivial rfl ?_
    refine wa ?_
    exact hRR
  refine snd_seq ?_
  apply sr tokTB (by kernel_rfl)
  · intro RR hRR
    refine wm ?_
    refine w_len_r rfl rfl und24 ?_
    refine wm ?_
    exact hRR
  refine snd_block ?_
  refine snd_loop (S := Nat) (fun i => ([(1, .int .i64 k), (2, .int .i64 p), (11, rowA m f), (12, .int .i64 (m : Int)), (7, .own 900 0 i 2), (13, .int .i64 (i : Int))], [(900, .one (Z64 i) (C64 i (scaledF p f k)))])) (fun i => i ≤ m) (fun i => m - i) (0) (fun k i => bif Nat.beq k 900 then (10, i) else (k, i)) ?_ ?_ ?_
  · exact ⟨⟨(mi), (mi), (by first | exact mt_row (V := _) (fun _ _ => rfl) | exact mt_fz (by exact ⟨(ne_fst rfl), trivial⟩) rfl (fun _ _ => rfl)), (mi), (by first | exact ⟨rfl, rfl, rfl, rfl⟩ | exact ⟨rfl, by omega, rfl, rfl⟩), (mi), trivial⟩, ⟨⟨rfl, (sx), (by exact mt_arr0)⟩, trivial⟩, ⟨⟨(fun h => by first | exact ⟨rfl, rfl⟩ | exact absurd h (by decide)), trivial⟩, trivial⟩⟩
  · exact Nat.zero_le _
  intro i hi0
  refine sq (env2 := [(1, .int .i64 k), (2, .int .i64 p), (11, rowA m f), (12, .int .i64 (m : Int)), (7, .own 900 0 i 2), (13, .int .i64 (i : Int))]) (ol2 := [(900, .one (Z64 i) (C64 i (scaledF p f k)))]) rfl rfl ?_
  apply sr tokTB (by kernel_rfl)
  · intro RR hRR
    refine w_lss rfl rfl ?_
    exact hRR
  refine snd_seq ?_
  refine snd_cond _ rfl (fun hc14 => ?_) (fun hc14 => ?_)
  · try simp only [hcs] at hc14
    refine snd_skip ?_
    refine snd_seq ?_
    refine snd_block ?_
    apply sr tokTB (by kernel_rfl)
    · intro RR hRR
      refine w_iar rfl rfl und24 kn2 (by exact sz2.symm) ?_ rfl ?_
      · exact ⟨by omega, by omega⟩
      first | refine w_ldc rfl kn2 (by constructor) (by exact sz2.symm) (by exact ag2.symm) ?_ | refine w_ldp rfl kn2 rfl (by constructor) (by exact sz2.symm) (by exact ag2.symm) ?_
      refine wa ?_
      exact hRR
    apply lr tokTB (by kernel_rfl)
    · intro RR hRR
      refine wm ?_
      refine wm ?_
      refine wm ?_
      refine w_mul rfl rfl (by exact w_fk hf hk i) ?_
      refine wm ?_
      refine w_rem rfl rfl (by first | assumption | omega) ?_
      refine w_bsl1 und24 kn2 (by rw [sz2]; rfl) rfl (by constructor) (by first | exact trivial | exact cel_cap2) (by exact sz2.symm) (by first | exact trivial | exact ssh_vec | exact ⟨rfl, fun _ => trivial⟩) ?_
      refine w_app_o und24 rfl rfl kn2 rfl rfl (fun C h => ⟨rfl, rfl, rfl, h⟩) (by rw [by2]; omega) (by omega) rfl ?_
      refine wa ?_
      exact hRR
    apply lr tokTB (by kernel_rfl)
    · intro RR hRR
      refine y_add rfl rfl ?_
      refine wm ?_
      exact hRR
    refine ⟨i + 1, (fun k i => bif Nat.beq k 900 then (24, i) else (k, i)), ?_, (by omega), (by dsimp only; omega)⟩
    exact ⟨⟨(mi), (mi), (by first | exact mt_row (V := _) (fun _ _ => rfl) | exact mt_fz (by exact ⟨(ne_fst rfl), trivial⟩) rfl (fun _ _ => rfl)), (mi), (by first | exact ⟨rfl, rfl, rfl, rfl⟩ | exact ⟨rfl, by omega, rfl, rfl⟩), (mi), trivial⟩, ⟨⟨rfl, (sx), (by exact mt_app (fun _ _ => rfl) (congrArg (AV.int .i64) (scaled_tmod hf hk i)))⟩, trivial⟩, ⟨⟨(fun h => by first | exact ⟨rfl, rfl⟩ | exact absurd h (by decide)), trivial⟩, trivial⟩⟩
  · try simp only [hcs] at hc14
    have him : m = i := by omega
    subst him
    refine snd_exit ?_
    apply sr tokTB (by kernel_rfl)
    · intro RR hRR
      refine wm ?_
      refine wa ?_
      exact hRR
    refine snd_ret ?_
    show retQ TB _ _ _ _ _ _
    exact rt_own rfl rfl rfl (fun _ => trivial) (fun V i hi => rfl)
theorem c_powerI {x p : Int} {k : Nat} (hx : 0 ≤ x ∧ x < 256) (hp : 1 < p) (hp2 : p ≤ 256) (hk : k ≤ 1000000) : ACalls Tryz.prog TB 48 [.int .i64 x, .int .i64 (k : Int), .int .i64 p] (.int .i64 (powF x p k)) [] := by
  refine acalls_of tokTB Tryz.func48 rfl rfl (Nat.le_of_ble_eq_true rfl) ?_
  apply sr tokTB (by kernel_rfl)
  · intro RR hRR
    refine wa ?_
    exact hRR
  apply sr tokTB (by kernel_rfl)
  · intro RR hRR
    refine wa ?_
    exact hRR
  refine snd_seq ?_
  apply sr tokTB (by kernel_rfl)
  · intro RR hRR
    refine wm ?_
    refine wm ?_
    exact hRR
  refine snd_block ?_
  refine snd_loop (S := Nat) (fun i => ([(0, .int .i64 x), (2, .int .i64 p), (7, .int .i64 (powF x p i)), (8, .int .i64 (k : Int)), (9, .int .i64 (i : Int))], [])) (fun i => i ≤ k) (fun i => k - i) (0) ρ0 ?_ ?_ ?_
  · exact ⟨⟨(mi), (mi), (mi), (mi), (mi), trivial⟩, trivial, trivial⟩
  · exact Nat.zero_le _
  intro i hi0
  refine sq (env2 := [(0, .int .i64 x), (2, .int .i64 p), (7, .int .i64 (powF x p i)), (8, .int .i64 (k : Int)), (9, .int .i64 (i : Int))]) (ol2 := []) rfl rfl ?_
  apply sr tokTB (by kernel_rfl)
  · intro RR hRR
    refine w_lss rfl rfl ?_
    exact hRR
  refine snd_seq ?_
  refine snd_cond _ rfl (fun hc10 => ?_) (fun hc10 => ?_)
  · try simp only [hcs] at hc10
    refine snd_skip ?_
    refine snd_seq ?_
    refine snd_block ?_
    apply lr tokTB (by kernel_rfl)
    · intro RR hRR
      refine wm ?_
      refine wm ?_
      refine w_mul rfl rfl (by exact w_pow hx hp hp2 i) ?_
      refine wm ?_
      refine w_rem rfl rfl (by first | assumption | omega) ?_
      refine wa ?_
      exact hRR
    apply lr tokTB (by kernel_rfl)
    · intro RR hRR
      refine y_add rfl rfl ?_
      refine wm ?_
      exact hRR
    refine ⟨i + 1, ρ0, ?_, (by omega), (by dsimp only; omega)⟩
    exact ⟨⟨(mi), (mi), (by exact m_int (pow_tmod hx hp i)), (mi), (mi), trivial⟩, trivial, trivial⟩
  · try simp only [hcs] at hc10
    have him : k = i := by omega
    subst him
    refine snd_exit ?_
    apply sr tokTB (by kernel_rfl)
    · intro RR hRR
      refine wm ?_
      refine wa ?_
      exact hRR
    refine snd_ret ?_
    exact rt (T := TB) (fun V => by first | exact m_bool rfl | exact m_int rfl)
theorem c_inverseI {x p : Int} (hx : 0 ≤ x ∧ x < 256) (hp : 1 < p) (hp2 : p ≤ 256) : ACalls Tryz.prog TB 47 [.int .i64 x, .int .i64 p] (.int .i64 (invF p x)) [] := by
  have hk : p - 2 = ((p - 2).toNat : Int) := by omega
  refine acalls_of tokTB Tryz.func47 rfl rfl (Nat.le_of_ble_eq_true rfl) ?_
  apply sr tokTB (by kernel_rfl)
  · intro RR hRR
    refine wa ?_
    exact hRR
  apply sr tokTB (by kernel_rfl)
  · intro RR hRR
    refine wm ?_
    refine wm ?_
    refine y_sub rfl rfl ?_
    refine wm ?_
    refine y_call rfl (exc (by exact rfl) (exc (by exact congrArg (AV.int .i64) hk) (exc (by exact rfl) exn))) (c_powerI (k := (p - 2).toNat) hx hp hp2 (by omega)) ?_
    refine wa ?_
    exact hRR
  refine snd_ret ?_
  exact rt (T := TB) (fun V => by first | exact m_bool rfl | exact m_int rfl)
theorem c_l01Inverse {x p : Int} (hp : primeB p = true) (hx : 0 < x) (hx2 : x < p) : ACalls Tryz.prog TB 51 [.int .i64 p, .int .i64 x] (.int .i64 (invF p x)) [] := by
  have hpb := primeB_bd hp
  have hxp : x % p = x := Int.emod_eq_of_lt (by omega) hx2
  have hiv := (inv_ok hp hx hx2).1
  have h0p : decide (((0 : Nat) : Int) * x % p = 1) = false := by simp
  refine acalls_of tokTB Tryz.func51 rfl rfl (Nat.le_of_ble_eq_true rfl) ?_
  apply sr tokTB (by kernel_rfl)
  · intro RR hRR
    refine wa ?_
    exact hRR
  refine snd_seq ?_
  apply sr tokTB (by kernel_rfl)
  · intro RR hRR
    refine wa ?_
    exact hRR
  refine snd_block ?_
  refine snd_loop (S := Nat) (fun i => ([(0, .int .i64 p), (1, .int .i64 x), (5, .int .i64 (i : Int))], [])) (fun i => (1 ≤ i ∧ i ≤ p.toNat) ∧ ∀ j, j < i → decide ((j : Int) * x % p = 1) = false) (fun i => p.toNat - i) (1) ρ0 ?_ ?_ ?_
  · exact ⟨⟨(mi), (mi), (mi), trivial⟩, trivial, trivial⟩
  · exact ⟨by omega, fun j hj => by rw [show j = 0 by omega]; exact h0p⟩
  intro i hi0
  refine sq (env2 := [(0, .int .i64 p), (1, .int .i64 x), (5, .int .i64 (i : Int))]) (ol2 := []) rfl rfl ?_
  obtain ⟨hi1, hi2⟩ := hi0
  refine snd_seq ?_
  apply sr tokTB (by kernel_rfl)
  · intro RR hRR
    refine wm ?_
    refine wm ?_
    refine w_lss rfl rfl ?_
    exact hRR
  refine snd_cond _ rfl (fun hc8 => ?_) (fun hc8 => ?_)
  · try simp only [hcs] at hc8
    refine snd_skip ?_
    refine snd_seq ?_
    refine snd_block ?_
    apply sr tokTB (by kernel_rfl)
    · intro RR hRR
      refine wm ?_
      refine wm ?_
      refine wm ?_
      refine y_call rfl (ec (ec exn)) (c_l01Mod (by omega) (by omega)) ?_
      refine w_mul rfl rfl (by exact w_inv (by omega) hxp hx hx2 hpb.2) ?_
      refine wm ?_
      refine w_rem rfl rfl (by first | assumption | omega) ?_
      refine w_eql rfl rfl ?_
      exact hRR
    refine snd_cond _ rfl (fun hc18 => ?_) (fun hc18 => ?_)
    · skip
      apply sr tokTB (by kernel_rfl)
      · intro RR hRR
        refine wm ?_
        refine wa ?_
        exact hRR
      refine snd_ret ?_
      exact rt (T := TB) (fun V => m_int (by rw [inv_tmod hx] at hc18; rw [← hiv, invS, idx_at (by omega) hc18 hi2, if_neg (by omega)]))
    · skip
      refine snd_skip ?_
      apply lr tokTB (by kernel_rfl)
      · intro RR hRR
        refine wm ?_
        refine y_add rfl rfl ?_
        refine wa ?_
        exact hRR
      refine ⟨i + 1, ρ0, ?_, ⟨by omega, all_step hi2 (by rw [inv_tmod hx] at hc18; exact hc18)⟩, (by dsimp only; omega)⟩
      exact ⟨⟨(mi), (mi), (mi), trivial⟩, trivial, trivial⟩
  · try simp only [hcs] at hc8
    refine snd_exit ?_
    apply sr tokTB (by kernel_rfl)
    · intro RR hRR
      refine wa ?_
      exact hRR
    refine snd_ret ?_
    exact rt (T := TB) (fun V => m_int (by rw [← hiv, invS, idx_none (fun j hj => hi2 j (by omega))]; rfl))
end Go.Am

set_option maxRecDepth 4000
namespace Go.Am
attribute [local irreducible] retQ retQp
open Go.Proofs
theorem c_CloneR {n m : Nat} {R : Nat → Nat → Int} (h0 : 0 < n) (hn : n ≤ 1000000) : ACalls Tryz.prog TB 83 [rowsA n m R] (.own 0 0 n 24) (HRR n m R) := by
  refine acalls_of tokTB Tryz.func83 rfl rfl (Nat.le_of_ble_eq_true rfl) ?_
  apply sr tokTB (by kernel_rfl)
  · intro RR hRR
    refine wa ?_
    exact hRR
  refine snd_seq ?_
  apply sr tokTB (by kernel_rfl)
  · intro RR hRR
    refine wm ?_
    refine w_reqn rfl rfl (by omega) und63 ?_
    exact hRR
  refine snd_cond_false rfl ?_
  refine snd_skip ?_
  apply sr tokTB (by kernel_rfl)
  · intro RR hRR
    refine w_bsl und63 kn24 (by rw [sz24]; rfl) rfl trivial trivial rfl ?_
    refine wm ?_
    refine w_app_o und63 rfl rfl kn24 rfl rfl (fun C h => ⟨by omega, fun _ => trivial, h⟩) (by rw [by24]; omega) (by omega) rfl ?_
    refine wa ?_
    exact hRR
  refine snd_ret ?_
  show retQ TB _ _ _ _ _ _
  exact rt_own rfl rfl (by omega) (fun _ => trivial) (fun V i hi => by rw [appF_ge (Nat.zero_le _) (by omega)]; exact mt_row (fun _ _ => rfl))
theorem c_IndexFunc2 {n m : Nat} {R : Nat → Nat → Int} {g nc : Nat} {caps : Nat → AV} {P : Nat → Bool} (hm : n ≤ 1000000) (hcaps : (AV.fn g nc caps).closed) (hf : ∀ i, i < n → ACalls Tryz.prog TB g (rowA m (R i) :: capL nc caps) (.bool (P i)) []) : ACalls Tryz.prog TB 84 [rowsA n m R, .fn g nc caps] (.int .i64 (idxF P n)) [] := by
  refine acalls_of tokTB Tryz.func84 rfl rfl (Nat.le_of_ble_eq_true rfl) ?_
  apply sr tokTB (by kernel_rfl)
  · intro RR hRR
    refine wa ?_
    exact hRR
  refine snd_seq ?_
  apply sr tokTB (by kernel_rfl)
  · intro RR hRR
    refine wm ?_
    refine w_len_r rfl rfl und63 ?_
    refine wm ?_
    exact hRR
  refine snd_block ?_
  refine snd_loop (S := Nat) (fun i => ([(0, rowsA n m R), (1, .fn g nc caps), (7, .int .i64 (n : Int)), (8, .int .i64 (i : Int))], [])) (fun i => i ≤ n ∧ ∀ j, j < i → P j = false) (fun i => n - i) (0) ρ0 ?_ ?_ ?_
  · exact ⟨⟨(mt_rows (V := _) (fun _ _ _ _ => rfl)), (Mt_closed (V := _) (by assumption) (fun _ _ _ => trivial) (by simp)), (mi), (mi), trivial⟩, trivial, trivial⟩
  · exact ⟨Nat.zero_le _, fun j hj => by omega⟩
  intro i hi0
  refine sq (env2 := [(0, rowsA n m R), (1, .fn g nc caps), (7, .int .i64 (n : Int)), (8, .int .i64 (i : Int))]) (ol2 := []) rfl rfl ?_
  obtain ⟨hi1, hi2⟩ := hi0
  apply sr tokTB (by kernel_rfl)
  · intro RR hRR
    refine w_lss rfl rfl ?_
    exact hRR
  refine snd_seq ?_
  refine snd_cond _ rfl (fun hc9 => ?_) (fun hc9 => ?_)
  · try simp only [hcs] at hc9
    refine snd_skip ?_
    refine snd_seq ?_
    refine snd_block ?_
    apply sr tokTB (by kernel_rfl)
    · intro RR hRR
      refine wm ?_
      refine wa ?_
      exact hRR
    apply sr tokTB (by kernel_rfl)
    · intro RR hRR
      refine wm ?_
      refine wm ?_
      refine wm ?_
      refine w_iar rfl rfl und63 kn24 (by exact sz24.symm) ?_ rfl ?_
      · exact ⟨by omega, by omega⟩
      first | refine w_ldc rfl kn24 (by constructor) (by exact sz24.symm) (by exact ag24.symm) ?_ | refine w_ldp rfl kn24 rfl (by constructor) (by exact sz24.symm) (by exact ag24.symm) ?_
      refine y_call rfl (exc (by exact rfl) (exp_capL hcaps)) (hf i (by omega)) ?_
      exact hRR
    refine snd_cond _ rfl (fun hc16 => ?_) (fun hc16 => ?_)
    · skip
      apply sr tokTB (by kernel_rfl)
      · intro RR hRR
        refine wm ?_
        refine wa ?_
        exact hRR
      refine snd_ret ?_
      exact rt (T := TB) (fun V => m_int (idx_at (by omega) (by exact hc16) hi2).symm)
    · skip
      refine snd_skip ?_
      apply lr tokTB (by kernel_rfl)
      · intro RR hRR
        refine y_add rfl rfl ?_
        refine wm ?_
        exact hRR
      refine ⟨i + 1, ρ0, ?_, ⟨by omega, all_step hi2 (by exact hc16)⟩, (by dsimp only; omega)⟩
      exact ⟨⟨(mt_rows (V := _) (fun _ _ _ _ => rfl)), (Mt_closed (V := _) (by assumption) (fun _ _ _ => trivial) (by simp)), (mi), (mi), trivial⟩, trivial, trivial⟩
  · try simp only [hcs] at hc9
    refine snd_exit ?_
    apply sr tokTB (by kernel_rfl)
    · intro RR hRR
      refine wa ?_
      exact hRR
    refine snd_ret ?_
    exact rt (T := TB) (fun V => m_int (idx_none (fun j hj => hi2 j (by omega))).symm)
theorem c_reduce1 {m c : Nat} {f : Nat → Int} (hc : c < m) : ACalls Tryz.prog TB 85 [rowA m f, .cptr (.int .i64 (c : Int))] (.bool (decide (f c ≠ 0))) [] := by
  refine acalls_of tokTB Tryz.func85 rfl rfl (Nat.le_of_ble_eq_true rfl) ?_
  apply sr tokTB (by kernel_rfl)
  · intro RR hRR
    refine wa ?_
    exact hRR
  apply sr tokTB (by kernel_rfl)
  · intro RR hRR
    refine wm ?_
    refine w_ldc rfl kn3 (by constructor) (by exact sz3.symm) (by exact ag3.symm) ?_
    refine w_iar rfl rfl und24 kn2 (by exact sz2.symm) ?_ rfl ?_
    · exact ⟨by omega, by omega⟩
    first | refine w_ldc rfl kn2 (by constructor) (by exact sz2.symm) (by exact ag2.symm) ?_ | refine w_ldp rfl kn2 rfl (by constructor) (by exact sz2.symm) (by exact ag2.symm) ?_
    refine w_neq rfl rfl ?_
    refine wa ?_
    exact hRR
  refine snd_ret ?_
  exact rt (T := TB) (fun V => by first | exact m_bool rfl | exact m_int rfl)
theorem c_reduce {n m : Nat} {R : Nat → Nat → Int} {p : Int} (hp : primeB p = true) (hn : n ≤ 1000) (hm : m ≤ 1000) (hR : ∀ i, B8 (R i)) : ACalls Tryz.prog TB 66 [rowsA n m R, .int .i64 p] (.own 0 0 (redGo p n R m).no 24) (HRR (redGo p n R m).no m (redGo p n R m).O) := by
  have hpb := primeB_bd hp
  refine acalls_of tokTB Tryz.func66 rfl rfl (Nat.le_of_ble_eq_true rfl) ?_
  apply sr tokTB (by kernel_rfl)
  · intro RR hRR
    refine wa ?_
    exact hRR
  apply sr tokTB (by kernel_rfl)
  · intro RR hRR
    refine w_bsl und63 kn24 (by rw [sz24]; rfl) rfl trivial trivial rfl ?_
    refine wa ?_
    exact hRR
  refine snd_seq ?_
  apply sr tokTB (by kernel_rfl)
  · intro RR hRR
    refine wm ?_
    refine w_len_r rfl rfl und63 ?_
    refine w_eql rfl rfl ?_
    exact hRR
  refine snd_cond _ rfl (fun hc17 => ?_) (fun hc17 => ?_)
  · try simp only [hcs] at hc17
    have hn0 : n = 0 := by omega
    have hno : (redGo p n R m).no = 0 := by have := (red_counts p n R m).2.2; omega
    apply sr tokTB (by kernel_rfl)
    · intro RR hRR
      refine wm ?_
      refine wa ?_
      exact hRR
    refine snd_ret ?_
    show retQ TB _ _ _ _ _ _
    exact rt_own rfl rfl hno.symm (fun _ => trivial) (fun V i hi => by omega)
  · try simp only [hcs] at hc17
    refine snd_skip ?_
    apply sr tokTB (by kernel_rfl)
    · intro RR hRR
      refine wm ?_
      refine w_call rfl (ec exn) (c_CloneR (m := m) (R := R) (by omega) (by omega)) (.inr ⟨closed_rows, trivial⟩) rfl (by constructor) rfl ?_
      refine wa ?_
      exact hRR
    refine snd_seq ?_
    apply sr tokTB (by kernel_rfl)
    · intro RR hRR
      refine wm ?_
      refine w_iar rfl rfl und63 kn24 (by exact sz24.symm) ?_ rfl ?_
      · exact ⟨by omega, by omega⟩
      first | refine w_ldc rfl kn24 (by constructor) (by exact sz24.symm) (by exact ag24.symm) ?_ | refine w_ldp rfl kn24 rfl (by constructor) (by exact sz24.symm) (by exact ag24.symm) ?_
      first | refine w_len_r rfl rfl und24 ?_ | refine w_len_o rfl rfl und24 ?_ | refine w_len_n rfl rfl und24 ?_
      refine wm ?_
      exact hRR
    refine snd_block ?_
    refine snd_loop (S := Nat) (fun c => ([(1, .int .i64 p), (24, .int .i64 (m : Int)), (25, .int .i64 (c : Int)), (5, .own 905 0 ((redGo p n R c).no) 24), (6, .own 906 0 ((redGo p n R c).nl) 24)], [(905, .one (ZR ((redGo p n R c).no)) (CR ((redGo p n R c).no) m ((redGo p n R c).O))), (906, .one (ZR ((redGo p n R c).nl)) (CR ((redGo p n R c).nl) m ((redGo p n R c).L)))])) (fun c => c ≤ m) (fun c => m - c) (0) (fun k i => bif Nat.beq k 906 then (21000, i) else bif Nat.beq k 905 then (14, i) else (k, i)) ?_ ?_ ?_
    · exact ⟨⟨(mi), (mi), (mi), (by first | exact ⟨rfl, rfl, rfl, rfl⟩ | exact ⟨rfl, by omega, rfl, rfl⟩), (by first | exact ⟨rfl, rfl, rfl, rfl⟩ | exact ⟨rfl, by omega, rfl, rfl⟩), trivial⟩, ⟨⟨rfl, (sx), (by exact mt_arr0)⟩, ⟨rfl, (sx), (by exact ⟨rfl, fun _ _ => mt_row (fun _ _ => rfl)⟩)⟩, trivial⟩, ⟨⟨(fun h => by first | exact ⟨rfl, rfl⟩ | exact absurd h (by decide)), (fun h => by first | exact ⟨rfl, rfl⟩ | exact absurd h (by decide)), trivial⟩, ⟨(fun h => by first | exact ⟨rfl, rfl⟩ | exact absurd h (by decide)), (fun h => by first | exact ⟨rfl, rfl⟩ | exact absurd h (by decide)), trivial⟩, trivial⟩⟩
    · exact Nat.zero_le _
    intro c hi0
    refine sq (env2 := [(1, .int .i64 p), (24, .int .i64 (m : Int)), (25, .int .i64 (c : Int)), (5, .own 905 0 ((redGo p n R c).no) 24), (6, .own 906 0 ((redGo p n R c).nl) 24)]) (ol2 := [(905, .one (ZR ((redGo p n R c).no)) (CR ((redGo p n R c).no) m ((redGo p n R c).O))), (906, .one (ZR ((redGo p n R c).nl)) (CR ((redGo p n R c).nl) m ((redGo p n R c).L)))]) rfl rfl ?_
    apply sr tokTB (by kernel_rfl)
    · intro RR hRR
      refine w_lss rfl rfl ?_
      exact hRR
    refine snd_seq ?_
    refine snd_cond _ rfl (fun hc26 => ?_) (fun hc26 => ?_)
    · try simp only [hcs] at hc26
      refine snd_skip ?_
      refine snd_seq ?_
      refine snd_block ?_
      apply sr tokTB (by kernel_rfl)
      · intro RR hRR
        refine wm ?_
        refine w_alloc kn3 rfl zr3 ?_
        refine w_stw rfl (by constructor) kn3 rfl (by exact trivial) (sx) (by exact sz3.symm) ?_
        exact hRR
      obtain ⟨ix, hix⟩ : ∃ ix, ix = idxF (fun i => decide ((redGo p n R c).L i c ≠ 0)) (redGo p n R c).nl := ⟨_, rfl⟩
      have hcn0 := red_counts p n R c
      apply sr tokTB (by kernel_rfl)
      · intro RR hRR
        refine wm ?_
        refine w_mkf1 (by constructor) ?_
        refine y_call rfl (exc (by exact rfl) (exc (by refine congrArg (AV.fn _ 1) (funext fun i => ?_); match i with | 0 => rfl | n + 1 => rfl) exn)) (hix ▸ c_IndexFunc2 (P := fun i => decide ((redGo p n R c).L i c ≠ 0)) (g := 85) (nc := 1) (caps := cap1 (.cptr (.int .i64 (c : Int)))) (by omega) (fun i => by match i with | 0 => exact trivial | n + 1 => exact trivial) (fun i _ => c_reduce1 (by omega))) ?_
        refine wa ?_
        exact hRR
      refine snd_seq ?_
      apply sr tokTB (by kernel_rfl)
      · intro RR hRR
        refine wm ?_
        refine w_lss rfl rfl ?_
        exact hRR
      refine snd_cond _ rfl (fun hc32 => ?_) (fun hc32 => ?_)
      · try simp only [hcs] at hc32
        have hnx := red_miss (p := p) (n := n) (R := R) (c := c) (by rw [← hix]; exact hc32)
        refine snd_exit ?_
        apply lr tokTB (by kernel_rfl)
        · intro RR hRR
          refine y_add rfl rfl ?_
          refine wm ?_
          exact hRR
        refine ⟨c + 1, ρ0, ?_, (by omega), (by dsimp only; omega)⟩
        dsimp only
        rw [hnx]
        exact ⟨⟨(mi), (mi), (mi), (by first | exact ⟨rfl, rfl, rfl, rfl⟩ | exact ⟨rfl, by omega, rfl, rfl⟩), (by first | exact ⟨rfl, rfl, rfl, rfl⟩ | exact ⟨rfl, by omega, rfl, rfl⟩), trivial⟩, ⟨⟨rfl, (sx), (by exact ⟨rfl, fun _ _ => mt_row (fun _ _ => rfl)⟩)⟩, ⟨rfl, (sx), (by exact ⟨rfl, fun _ _ => mt_row (fun _ _ => rfl)⟩)⟩, trivial⟩, ⟨⟨(fun h => by first | exact ⟨rfl, rfl⟩ | exact absurd h (by decide)), (fun h => by first | exact ⟨rfl, rfl⟩ | exact absurd h (by decide)), trivial⟩, ⟨(fun h => by first | exact ⟨rfl, rfl⟩ | exact absurd h (by decide)), (fun h => by first | exact ⟨rfl, rfl⟩ | exact absurd h (by decide)), trivial⟩, trivial⟩⟩
      · try simp only [hcs] at hc32
        obtain ⟨k, hk, hPk, hek⟩ : ∃ k : Nat, k < (redGo p n R c).nl ∧ (redGo p n R c).L k c ≠ 0 ∧ ix = (k : Int) := by
          rcases idx_cases (fun i => decide ((redGo p n R c).L i c ≠ 0)) (redGo p n R c).nl with ⟨k, hk, hPk, _, he⟩ | ⟨_, he⟩
          · exact ⟨k, hk, by simpa using hPk, hix.trans he⟩
          · rw [hix, he] at hc32; omega
        have hnx := red_hit (p := p) (n := n) (R := R) (c := c) (k := k) (hix.symm.trans hek)
        clear hix
        subst hek
        have hLk := (red_B8 (p := p) (n := n) (by omega) (by omega) hR c).1 k c
        have hiv := invF_bd (p := p) hLk.1 (by omega)
        have hB := red_B8 (p := p) (n := n) (by omega) (by omega) hR c
        have hpB : B8 (scaledF p ((redGo p n R c).L k) (invF p ((redGo p n R c).L k c))) := scaledF_B8 (by omega) (by omega) _ _
        have hcn := red_counts p n R c
        refine snd_skip ?_
        apply sd tokTB mixed (by kernel_rfl) (by kernel_rfl)
        · intro RR hRR
          refine wm ?_
          refine wm ?_
          refine w_iao rfl rfl und63 kn24 ?_ ?_
          · exact ⟨by omega, by omega⟩
          first | refine w_ldc rfl kn24 (by constructor) (by exact sz24.symm) (by exact ag24.symm) ?_ | refine w_ldp rfl kn24 rfl (by constructor) (by exact sz24.symm) (by exact ag24.symm) ?_
          refine wm ?_
          refine wm ?_
          refine w_iao rfl rfl und63 kn24 ?_ ?_
          · exact ⟨by omega, by omega⟩
          first | refine w_ldc rfl kn24 (by constructor) (by exact sz24.symm) (by exact ag24.symm) ?_ | refine w_ldp rfl kn24 rfl (by constructor) (by exact sz24.symm) (by exact ag24.symm) ?_
          refine w_ldp rfl kn3 rfl (by constructor) (by exact sz3.symm) (by exact ag3.symm) ?_
          first | refine w_iar rfl rfl und24 kn2 (by exact sz2.symm) ?_ rfl ?_ | refine w_iao rfl rfl und24 kn2 ?_ ?_
          · exact ⟨by omega, by omega⟩
          first | refine w_ldc rfl kn2 (by constructor) (by exact sz2.symm) (by exact ag2.symm) ?_ | refine w_ldp rfl kn2 rfl (by constructor) (by exact sz2.symm) (by exact ag2.symm) ?_
          refine wm ?_
          refine y_call rfl (ec (ec exn)) (c_inverseI (x := (redGo p n R c).L k c) hLk (by omega) (by omega)) ?_
          refine wm ?_
          refine w_call rfl (ec (ec (ec exn))) (c_scaled (f := (redGo p n R c).L k) (k := invF p ((redGo p n R c).L k c)) (by omega) (by omega) (by omega) (hB.1 k) (by omega)) (.inl ⟨trivial, ⟨fun _ => trivial, trivial⟩⟩) rfl (by constructor) rfl ?_
          refine wa ?_
          exact hRR
        apply srD tokTB (ops1 := [_, _, _, _]) (ops2 := [_]) (by kernel_rfl) rfl rfl
        · intro RR hRR
          refine wm ?_
          refine wm ?_
          refine wm ?_
          refine w_add rfl rfl (by exact w64 (by omega) (by omega)) ?_
          exact hRR
        · exact del_mid tokTB (fun args w => by simp [callFunc, Tryz.func87]; rfl) del_low kn24 sz24 (a := k) (key := 52) rfl rfl rfl rfl hk rfl
        · intro RR hRR
          refine wa ?_
          exact hRR
        refine snd_seq ?_
        apply sr tokTB (by kernel_rfl)
        · intro RR hRR
          refine wm ?_
          first | refine w_len_r rfl rfl und63 ?_ | refine w_len_o rfl rfl und63 ?_ | refine w_len_n rfl rfl und63 ?_
          refine wm ?_
          exact hRR
        refine snd_block ?_
        refine snd_loop (S := Nat) (fun i => ([(1, .int .i64 p), (24, .int .i64 (m : Int)), (25, .int .i64 (c : Int)), (5, .own 905 0 ((redGo p n R c).no) 24), (6, .own 906 0 ((redGo p n R c).nl - 1) 24), (7, .ptr 7 0 [] 0 (.int .i64 0)), (9, rowA m (scaledF p ((redGo p n R c).L k) (invF p ((redGo p n R c).L k c)))), (53, .own 906 0 ((redGo p n R c).nl - 1) 24), (54, .int .i64 (((redGo p n R c).nl - 1 : Nat) : Int)), (55, .int .i64 (i : Int))], [(905, .one (ZR ((redGo p n R c).no)) (CR ((redGo p n R c).no) m ((redGo p n R c).O))), (906, .one (ZR ((redGo p n R c).nl - 1)) (CR ((redGo p n R c).nl - 1) m (mixG (fun a => lessF p ((cutR (redGo p n R c).L k) a) (scaledF p ((redGo p n R c).L k) (invF p ((redGo p n R c).L k c))) ((cutR (redGo p n R c).L k) a c)) (cutR (redGo p n R c).L k) i))), (7, .one (.int .i64 0) (.int .i64 (c : Int)))])) (fun i => i ≤ (redGo p n R c).nl - 1) (fun i => (redGo p n R c).nl - 1 - i) (0) (fun k i => bif Nat.beq k 906 then (52, i) else (k, i)) ?_ ?_ ?_
        · exact ⟨⟨(mi), (mi), (mi), (by first | exact ⟨rfl, rfl, rfl, rfl⟩ | exact ⟨rfl, by omega, rfl, rfl⟩), (by first | exact ⟨rfl, rfl, rfl, rfl⟩ | exact ⟨rfl, by omega, rfl, rfl⟩), ⟨rfl, rfl, rfl, rfl, rfl⟩, (by exact mt_fz (by exact ⟨(ne_fst rfl), (ne_fst rfl), (ne_fst rfl), trivial⟩) rfl (fun _ _ => rfl)), (by first | exact ⟨rfl, rfl, rfl, rfl⟩ | exact ⟨rfl, by omega, rfl, rfl⟩), (mi), (mi), trivial⟩, ⟨⟨rfl, (sx), (by exact ⟨rfl, fun _ _ => mt_row (fun _ _ => rfl)⟩)⟩, ⟨rfl, (sx), (by exact ⟨rfl, fun a _ => by rw [cutR_map]; exact mt_row (fun _ _ => by simp [mixG])⟩)⟩, ⟨rfl, (sx), (by exact rfl)⟩, trivial⟩, ⟨⟨(fun h => by first | exact ⟨rfl, rfl⟩ | exact absurd h (by decide)), (fun h => by first | exact ⟨rfl, rfl⟩ | exact absurd h (by decide)), (fun h => by first | exact ⟨rfl, rfl⟩ | exact absurd h (by decide)), trivial⟩, ⟨(fun h => by first | exact ⟨rfl, rfl⟩ | exact absurd h (by decide)), (fun h => by first | exact ⟨rfl, rfl⟩ | exact absurd h (by decide)), (fun h => by first | exact ⟨rfl, rfl⟩ | exact absurd h (by decide)), trivial⟩, ⟨(fun h => by first | exact ⟨rfl, rfl⟩ | exact absurd h (by decide)), (fun h => by first | exact ⟨rfl, rfl⟩ | exact absurd h (by decide)), (fun h => by first | exact ⟨rfl, rfl⟩ | exact absurd h (by decide)), trivial⟩, trivial⟩⟩
        · exact Nat.zero_le _
        intro i hi2
        refine sq (env2 := [(1, .int .i64 p), (24, .int .i64 (m : Int)), (25, .int .i64 (c : Int)), (5, .own 905 0 ((redGo p n R c).no) 24), (6, .own 906 0 ((redGo p n R c).nl - 1) 24), (7, .ptr 7 0 [] 0 (.int .i64 0)), (9, rowA m (scaledF p ((redGo p n R c).L k) (invF p ((redGo p n R c).L k c)))), (53, .own 906 0 ((redGo p n R c).nl - 1) 24), (54, .int .i64 (((redGo p n R c).nl - 1 : Nat) : Int)), (55, .int .i64 (i : Int))]) (ol2 := [(905, .one (ZR ((redGo p n R c).no)) (CR ((redGo p n R c).no) m ((redGo p n R c).O))), (906, .one (ZR ((redGo p n R c).nl - 1)) (CR ((redGo p n R c).nl - 1) m (mixG (fun a => lessF p ((cutR (redGo p n R c).L k) a) (scaledF p ((redGo p n R c).L k) (invF p ((redGo p n R c).L k c))) ((cutR (redGo p n R c).L k) a c)) (cutR (redGo p n R c).L k) i))), (7, .one (.int .i64 0) (.int .i64 (c : Int)))]) rfl rfl ?_
        apply sr tokTB (by kernel_rfl)
        · intro RR hRR
          refine w_lss rfl rfl ?_
          exact hRR
        refine snd_seq ?_
        refine snd_cond _ rfl (fun hc56 => ?_) (fun hc56 => ?_)
        · try simp only [hcs] at hc56
          refine snd_skip ?_
          refine snd_seq ?_
          refine snd_block ?_
          apply sr tokTB (by kernel_rfl)
          · intro RR hRR
            refine wm ?_
            refine w_iao rfl rfl und63 kn24 ?_ ?_
            · exact ⟨by omega, by omega⟩
            first | refine w_ldc rfl kn24 (by constructor) (by exact sz24.symm) (by exact ag24.symm) ?_ | refine w_ldp rfl kn24 rfl (by constructor) (by exact sz24.symm) (by exact ag24.symm) ?_
            refine wa ?_
            refine wa ?_
            exact hRR
          apply lr tokTB (by kernel_rfl)
          · intro RR hRR
            refine wm ?_
            refine wm ?_
            refine wm ?_
            refine wm ?_
            refine wm ?_
            refine w_ldp rfl kn3 rfl (by constructor) (by exact sz3.symm) (by exact ag3.symm) ?_
            first | refine w_iar rfl rfl und24 kn2 (by exact sz2.symm) ?_ rfl ?_ | refine w_iao rfl rfl und24 kn2 ?_ ?_
            · exact ⟨by omega, by omega⟩
            first | refine w_ldc rfl kn2 (by constructor) (by exact sz2.symm) (by exact ag2.symm) ?_ | refine w_ldp rfl kn2 rfl (by constructor) (by exact sz2.symm) (by exact ag2.symm) ?_
            refine wm ?_
            refine w_call rfl (ec (ec (ec (ec exn)))) (c_lessTimes (f := mixG (fun a => lessF p ((cutR (redGo p n R c).L k) a) (scaledF p ((redGo p n R c).L k) (invF p ((redGo p n R c).L k c))) ((cutR (redGo p n R c).L k) a c)) (cutR (redGo p n R c).L k) i i) (g := (scaledF p ((redGo p n R c).L k) (invF p ((redGo p n R c).L k c)))) (k := mixG (fun a => lessF p ((cutR (redGo p n R c).L k) a) (scaledF p ((redGo p n R c).L k) (invF p ((redGo p n R c).L k c))) ((cutR (redGo p n R c).L k) a c)) (cutR (redGo p n R c).L k) i i c) (by omega) (by omega) (by omega) (mixG_B8 (fun _ => lessF_B8 (by omega) (by omega) _ _ _) (cutR_B8 hB.1 k) i i) hpB (mixG_B8 (fun _ => lessF_B8 (by omega) (by omega) _ _ _) (cutR_B8 hB.1 k) i i c)) (.inl ⟨trivial, ⟨fun _ => trivial, trivial⟩⟩) rfl (by constructor) rfl ?_
            refine w_iao rfl rfl und63 kn24 ?_ ?_
            · exact ⟨by omega, by omega⟩
            first | refine w_stw rfl (by constructor) kn24 rfl (by exact trivial) (sx) (by exact sz24.symm) ?_ | refine w_sti rfl rfl kn24 rfl (by exact trivial) (by exact sz24.symm) ?_ | refine w_store rfl (HV.eq (by constructor)) kn24 rfl (by exact trivial) (sx) (by exact sz24.symm) (pin_) ?_ | refine w_store rfl (HV.eq (by constructor)) kn24 rfl (by exact trivial) (by exact trivial) (by exact sz24.symm) rfl ?_
            exact hRR
          apply lr tokTB (by kernel_rfl)
          · intro RR hRR
            refine y_add rfl rfl ?_
            refine wm ?_
            exact hRR
          refine ⟨i + 1, ρ0, ?_, (by omega), (by dsimp only; omega)⟩
          exact ⟨⟨(mi), (mi), (mi), (by first | exact ⟨rfl, rfl, rfl, rfl⟩ | exact ⟨rfl, by omega, rfl, rfl⟩), (by first | exact ⟨rfl, rfl, rfl, rfl⟩ | exact ⟨rfl, by omega, rfl, rfl⟩), ⟨rfl, rfl, rfl, rfl, rfl⟩, (by first | exact mt_row (V := _) (fun _ _ => rfl) | exact mt_fz (by exact ⟨(ne_fst rfl), (ne_fst rfl), (ne_fst rfl), trivial⟩) rfl (fun _ _ => rfl)), (by first | exact ⟨rfl, rfl, rfl, rfl⟩ | exact ⟨rfl, by omega, rfl, rfl⟩), (mi), (mi), trivial⟩, ⟨⟨rfl, (sx), (by exact ⟨rfl, fun _ _ => mt_row (fun _ _ => rfl)⟩)⟩, ⟨rfl, (sx), (by exact mt_put (fun a ha hne => mt_row (fun j _ => by (by_cases h : a < i) <;> simp [mixG, h, show (a < i + 1) = (a < i) by (apply propext; omega)])) (mt_fz (by exact ⟨(ne_fst rfl), (ne_fst rfl), (ne_fst rfl), trivial⟩) rfl (fun j _ => congrArg (AV.int .i64) (by simp [mixG]))))⟩, ⟨rfl, (sx), (by exact rfl)⟩, trivial⟩, ⟨⟨(fun h => by first | exact ⟨rfl, rfl⟩ | exact absurd h (by decide)), (fun h => by first | exact ⟨rfl, rfl⟩ | exact absurd h (by decide)), (fun h => by first | exact ⟨rfl, rfl⟩ | exact absurd h (by decide)), trivial⟩, ⟨(fun h => by first | exact ⟨rfl, rfl⟩ | exact absurd h (by decide)), (fun h => by first | exact ⟨rfl, rfl⟩ | exact absurd h (by decide)), (fun h => by first | exact ⟨rfl, rfl⟩ | exact absurd h (by decide)), trivial⟩, ⟨(fun h => by first | exact ⟨rfl, rfl⟩ | exact absurd h (by decide)), (fun h => by first | exact ⟨rfl, rfl⟩ | exact absurd h (by decide)), (fun h => by first | exact ⟨rfl, rfl⟩ | exact absurd h (by decide)), trivial⟩, trivial⟩⟩
        · try simp only [hcs] at hc56
          have hin : (redGo p n R c).nl - 1 = i := by omega
          refine snd_exit ?_
          refine snd_seq ?_
          apply sr tokTB (by kernel_rfl)
          · intro RR hRR
            refine wm ?_
            refine w_len_o rfl rfl und63 ?_
            refine wm ?_
            exact hRR
          refine snd_block ?_
          refine snd_loop (S := Nat) (fun i => ([(1, .int .i64 p), (24, .int .i64 (m : Int)), (25, .int .i64 (c : Int)), (5, .own 905 0 ((redGo p n R c).no) 24), (6, .own 906 0 ((redGo p n R c).nl - 1) 24), (7, .ptr 7 0 [] 0 (.int .i64 0)), (9, rowA m (scaledF p ((redGo p n R c).L k) (invF p ((redGo p n R c).L k c)))), (72, .own 905 0 ((redGo p n R c).no) 24), (73, .int .i64 (((redGo p n R c).no : Nat) : Int)), (74, .int .i64 (i : Int))], [(905, .one (ZR ((redGo p n R c).no)) (CR ((redGo p n R c).no) m (mixG (fun a => lessF p ((redGo p n R c).O a) (scaledF p ((redGo p n R c).L k) (invF p ((redGo p n R c).L k c))) ((redGo p n R c).O a c)) (redGo p n R c).O i))), (906, .one (ZR ((redGo p n R c).nl - 1)) (CR ((redGo p n R c).nl - 1) m ((fun a => lessF p ((cutR (redGo p n R c).L k) a) (scaledF p ((redGo p n R c).L k) (invF p ((redGo p n R c).L k c))) ((cutR (redGo p n R c).L k) a c))))), (7, .one (.int .i64 0) (.int .i64 (c : Int)))])) (fun i => i ≤ (redGo p n R c).no) (fun i => (redGo p n R c).no - i) (0) ρ0 ?_ ?_ ?_
          · exact ⟨⟨(mi), (mi), (mi), (by first | exact ⟨rfl, rfl, rfl, rfl⟩ | exact ⟨rfl, by omega, rfl, rfl⟩), (by first | exact ⟨rfl, rfl, rfl, rfl⟩ | exact ⟨rfl, by omega, rfl, rfl⟩), ⟨rfl, rfl, rfl, rfl, rfl⟩, (by first | exact mt_row (V := _) (fun _ _ => rfl) | exact mt_fz (by exact ⟨(ne_fst rfl), (ne_fst rfl), (ne_fst rfl), trivial⟩) rfl (fun _ _ => rfl)), (by first | exact ⟨rfl, rfl, rfl, rfl⟩ | exact ⟨rfl, by omega, rfl, rfl⟩), (mi), (mi), trivial⟩, ⟨⟨rfl, (sx), (by exact ⟨rfl, fun a _ => mt_row (fun _ _ => by simp [mixG])⟩)⟩, ⟨rfl, (sx), (by exact ⟨rfl, fun a ha => mt_row (fun _ _ => by rw [mixG_lt _ _ (by omega)])⟩)⟩, ⟨rfl, (sx), (by exact rfl)⟩, trivial⟩, ⟨⟨(fun h => by first | exact ⟨rfl, rfl⟩ | exact absurd h (by decide)), (fun h => by first | exact ⟨rfl, rfl⟩ | exact absurd h (by decide)), (fun h => by first | exact ⟨rfl, rfl⟩ | exact absurd h (by decide)), trivial⟩, ⟨(fun h => by first | exact ⟨rfl, rfl⟩ | exact absurd h (by decide)), (fun h => by first | exact ⟨rfl, rfl⟩ | exact absurd h (by decide)), (fun h => by first | exact ⟨rfl, rfl⟩ | exact absurd h (by decide)), trivial⟩, ⟨(fun h => by first | exact ⟨rfl, rfl⟩ | exact absurd h (by decide)), (fun h => by first | exact ⟨rfl, rfl⟩ | exact absurd h (by decide)), (fun h => by first | exact ⟨rfl, rfl⟩ | exact absurd h (by decide)), trivial⟩, trivial⟩⟩
          · exact Nat.zero_le _
          intro i hi4
          refine sq (env2 := [(1, .int .i64 p), (24, .int .i64 (m : Int)), (25, .int .i64 (c : Int)), (5, .own 905 0 ((redGo p n R c).no) 24), (6, .own 906 0 ((redGo p n R c).nl - 1) 24), (7, .ptr 7 0 [] 0 (.int .i64 0)), (9, rowA m (scaledF p ((redGo p n R c).L k) (invF p ((redGo p n R c).L k c)))), (72, .own 905 0 ((redGo p n R c).no) 24), (73, .int .i64 (((redGo p n R c).no : Nat) : Int)), (74, .int .i64 (i : Int))]) (ol2 := [(905, .one (ZR ((redGo p n R c).no)) (CR ((redGo p n R c).no) m (mixG (fun a => lessF p ((redGo p n R c).O a) (scaledF p ((redGo p n R c).L k) (invF p ((redGo p n R c).L k c))) ((redGo p n R c).O a c)) (redGo p n R c).O i))), (906, .one (ZR ((redGo p n R c).nl - 1)) (CR ((redGo p n R c).nl - 1) m ((fun a => lessF p ((cutR (redGo p n R c).L k) a) (scaledF p ((redGo p n R c).L k) (invF p ((redGo p n R c).L k c))) ((cutR (redGo p n R c).L k) a c))))), (7, .one (.int .i64 0) (.int .i64 (c : Int)))]) rfl rfl ?_
          apply sr tokTB (by kernel_rfl)
          · intro RR hRR
            refine w_lss rfl rfl ?_
            exact hRR
          refine snd_seq ?_
          refine snd_cond _ rfl (fun hc75 => ?_) (fun hc75 => ?_)
          · try simp only [hcs] at hc75
            refine snd_skip ?_
            refine snd_seq ?_
            refine snd_block ?_
            apply sr tokTB (by kernel_rfl)
            · intro RR hRR
              refine wm ?_
              refine w_iao rfl rfl und63 kn24 ?_ ?_
              · exact ⟨by omega, by omega⟩
              first | refine w_ldc rfl kn24 (by constructor) (by exact sz24.symm) (by exact ag24.symm) ?_ | refine w_ldp rfl kn24 rfl (by constructor) (by exact sz24.symm) (by exact ag24.symm) ?_
              refine wa ?_
              refine wa ?_
              exact hRR
            apply lr tokTB (by kernel_rfl)
            · intro RR hRR
              refine wm ?_
              refine wm ?_
              refine wm ?_
              refine wm ?_
              refine wm ?_
              refine w_ldp rfl kn3 rfl (by constructor) (by exact sz3.symm) (by exact ag3.symm) ?_
              first | refine w_iar rfl rfl und24 kn2 (by exact sz2.symm) ?_ rfl ?_ | refine w_iao rfl rfl und24 kn2 ?_ ?_
              · exact ⟨by omega, by omega⟩
              first | refine w_ldc rfl kn2 (by constructor) (by exact sz2.symm) (by exact ag2.symm) ?_ | refine w_ldp rfl kn2 rfl (by constructor) (by exact sz2.symm) (by exact ag2.symm) ?_
              refine wm ?_
              refine w_call rfl (ec (ec (ec (ec exn)))) (c_lessTimes (f := mixG (fun a => lessF p ((redGo p n R c).O a) (scaledF p ((redGo p n R c).L k) (invF p ((redGo p n R c).L k c))) ((redGo p n R c).O a c)) (redGo p n R c).O i i) (g := (scaledF p ((redGo p n R c).L k) (invF p ((redGo p n R c).L k c)))) (k := mixG (fun a => lessF p ((redGo p n R c).O a) (scaledF p ((redGo p n R c).L k) (invF p ((redGo p n R c).L k c))) ((redGo p n R c).O a c)) (redGo p n R c).O i i c) (by omega) (by omega) (by omega) (mixG_B8 (fun _ => lessF_B8 (by omega) (by omega) _ _ _) hB.2 i i) hpB (mixG_B8 (fun _ => lessF_B8 (by omega) (by omega) _ _ _) hB.2 i i c)) (.inl ⟨trivial, ⟨fun _ => trivial, trivial⟩⟩) rfl (by constructor) rfl ?_
              refine w_iao rfl rfl und63 kn24 ?_ ?_
              · exact ⟨by omega, by omega⟩
              first | refine w_stw rfl (by constructor) kn24 rfl (by exact trivial) (sx) (by exact sz24.symm) ?_ | refine w_sti rfl rfl kn24 rfl (by exact trivial) (by exact sz24.symm) ?_ | refine w_store rfl (HV.eq (by constructor)) kn24 rfl (by exact trivial) (sx) (by exact sz24.symm) (pin_) ?_ | refine w_store rfl (HV.eq (by constructor)) kn24 rfl (by exact trivial) (by exact trivial) (by exact sz24.symm) rfl ?_
              exact hRR
            apply lr tokTB (by kernel_rfl)
            · intro RR hRR
              refine y_add rfl rfl ?_
              refine wm ?_
              exact hRR
            refine ⟨i + 1, ρ0, ?_, (by omega), (by dsimp only; omega)⟩
            exact ⟨⟨(mi), (mi), (mi), (by first | exact ⟨rfl, rfl, rfl, rfl⟩ | exact ⟨rfl, by omega, rfl, rfl⟩), (by first | exact ⟨rfl, rfl, rfl, rfl⟩ | exact ⟨rfl, by omega, rfl, rfl⟩), ⟨rfl, rfl, rfl, rfl, rfl⟩, (by first | exact mt_row (V := _) (fun _ _ => rfl) | exact mt_fz (by exact ⟨(ne_fst rfl), (ne_fst rfl), (ne_fst rfl), trivial⟩) rfl (fun _ _ => rfl)), (by first | exact ⟨rfl, rfl, rfl, rfl⟩ | exact ⟨rfl, by omega, rfl, rfl⟩), (mi), (mi), trivial⟩, ⟨⟨rfl, (sx), (by exact mt_put (fun a ha hne => mt_row (fun j _ => by (by_cases h : a < i) <;> simp [mixG, h, show (a < i + 1) = (a < i) by (apply propext; omega)])) (mt_fz (by exact ⟨(ne_fst rfl), (ne_fst rfl), (ne_fst rfl), trivial⟩) rfl (fun j _ => congrArg (AV.int .i64) (by simp [mixG]))))⟩, ⟨rfl, (sx), (by exact ⟨rfl, fun _ _ => mt_row (fun _ _ => rfl)⟩)⟩, ⟨rfl, (sx), (by exact rfl)⟩, trivial⟩, ⟨⟨(fun h => by first | exact ⟨rfl, rfl⟩ | exact absurd h (by decide)), (fun h => by first | exact ⟨rfl, rfl⟩ | exact absurd h (by decide)), (fun h => by first | exact ⟨rfl, rfl⟩ | exact absurd h (by decide)), trivial⟩, ⟨(fun h => by first | exact ⟨rfl, rfl⟩ | exact absurd h (by decide)), (fun h => by first | exact ⟨rfl, rfl⟩ | exact absurd h (by decide)), (fun h => by first | exact ⟨rfl, rfl⟩ | exact absurd h (by decide)), trivial⟩, ⟨(fun h => by first | exact ⟨rfl, rfl⟩ | exact absurd h (by decide)), (fun h => by first | exact ⟨rfl, rfl⟩ | exact absurd h (by decide)), (fun h => by first | exact ⟨rfl, rfl⟩ | exact absurd h (by decide)), trivial⟩, trivial⟩⟩
          · try simp only [hcs] at hc75
            have hio : (redGo p n R c).no = i := by omega
            refine snd_exit ?_
            apply lr tokTB (by kernel_rfl)
            · intro RR hRR
              refine wm ?_
              refine wm ?_
              refine w_bsl1 und63 kn24 (by rw [sz24]; rfl) rfl (by constructor) (by first | exact trivial | exact cel_cap2) (by exact sz24.symm) (by first | exact trivial | exact ssh_vec | exact ⟨rfl, fun _ => trivial⟩) ?_
              refine w_app_o und63 rfl rfl kn24 rfl rfl (fun C h => ⟨rfl, rfl, rfl, h⟩) (by rw [by24]; omega) (by omega) rfl ?_
              refine wa ?_
              exact hRR
            apply lr tokTB (by kernel_rfl)
            · intro RR hRR
              refine y_add rfl rfl ?_
              refine wm ?_
              exact hRR
            refine ⟨c + 1, (fun k i => bif Nat.beq k 905 then (94, i) else (k, i)), ?_, (by omega), (by dsimp only; omega)⟩
            dsimp only
            rw [hnx]
            exact ⟨⟨(mi), (mi), (mi), (by first | exact ⟨rfl, rfl, rfl, rfl⟩ | exact ⟨rfl, by omega, rfl, rfl⟩), (by first | exact ⟨rfl, rfl, rfl, rfl⟩ | exact ⟨rfl, by omega, rfl, rfl⟩), trivial⟩, ⟨⟨rfl, (sx), (by exact mt_app (fun a ha => mt_row (fun j _ => by simp [redHit, mixG, ← hio, ha, Nat.ne_of_lt ha])) (mt_row (fun _ _ => by simp [redHit])))⟩, ⟨rfl, (sx), (by exact ⟨rfl, fun _ _ => mt_row (fun _ _ => rfl)⟩)⟩, trivial⟩, ⟨⟨(fun h => by first | exact ⟨rfl, rfl⟩ | exact absurd h (by decide)), (fun h => by first | exact ⟨rfl, rfl⟩ | exact absurd h (by decide)), trivial⟩, ⟨(fun h => by first | exact ⟨rfl, rfl⟩ | exact absurd h (by decide)), (fun h => by first | exact ⟨rfl, rfl⟩ | exact absurd h (by decide)), trivial⟩, trivial⟩⟩
    · try simp only [hcs] at hc26
      have hcm : m = c := by omega
      subst hcm
      refine snd_exit ?_
      apply sr tokTB (by kernel_rfl)
      · intro RR hRR
        refine wm ?_
        refine wa ?_
        exact hRR
      refine snd_ret ?_
      show retQ TB _ _ _ _ _ _
      exact rt_own rfl rfl rfl (fun _ => trivial) (fun V i hi => mt_row (fun _ _ => rfl))
end Go.Am

set_option maxRecDepth 4000
namespace Go.Am
attribute [local irreducible] retQ retQp
open Go.Proofs
theorem c_behind1 {p : Int} {n : Nat} {T : Nat → Nat → Nat → Int} {fo v w : Nat → Int} (hp : 0 < p) (hp2 : p < 256) (hn : n ≤ 6) (hT : B8T T) (hv : B8 v) (hw : B8 w) : ACalls Tryz.prog TB 99 [vecA v, .cptr (.cptr (algA p (n : Int) T fo)), .cptr (vecA w)] (vecA (timesF p n T v w)) [] := by
  refine acalls_of tokTB Tryz.func99 rfl rfl (Nat.le_of_ble_eq_true rfl) ?_
  apply sr tokTB (by kernel_rfl)
  · intro RR hRR
    refine w_boxc (HV.eq (by constructor)) (by exact trivial) ?_
    refine w_alloc kn30 rfl zr30 ?_
    exact hRR
  apply sr tokTB (by kernel_rfl)
  · intro RR hRR
    refine w_ldc rfl kn58 (by constructor) (by exact sz58.symm) (by exact ag58.symm) ?_
    refine w_ldc rfl kn30 (by constructor) (by exact sz30.symm) (by exact ag30.symm) ?_
    refine w_ldc rfl kn30 (by constructor) (by exact sz30.symm) (by exact ag30.symm) ?_
    refine y_call rfl (ec (ec (ec exn))) (c_times (u := v) (v := w) hp hp2 hn hT hv hw) ?_
    refine w_stw rfl (by constructor) kn30 rfl (by exact trivial) (sx) (by exact sz30.symm) ?_
    exact hRR
  refine snd_ret ?_
  exact rt_c (T := TB) rfl kn30 rfl sz30.symm ag30.symm (fun V => m_vec (fun j hj => rfl))
theorem c_ahead1 {p : Int} {n : Nat} {T : Nat → Nat → Nat → Int} {fo v w : Nat → Int} (hp : 0 < p) (hp2 : p < 256) (hn : n ≤ 6) (hT : B8T T) (hv : B8 v) (hw : B8 w) : ACalls Tryz.prog TB 100 [vecA v, .cptr (.cptr (algA p (n : Int) T fo)), .cptr (vecA w)] (vecA (timesF p n T w v)) [] := by
  refine acalls_of tokTB Tryz.func100 rfl rfl (Nat.le_of_ble_eq_true rfl) ?_
  apply sr tokTB (by kernel_rfl)
  · intro RR hRR
    refine w_boxc (HV.eq (by constructor)) (by exact trivial) ?_
    refine w_alloc kn30 rfl zr30 ?_
    exact hRR
  apply sr tokTB (by kernel_rfl)
  · intro RR hRR
    refine w_ldc rfl kn58 (by constructor) (by exact sz58.symm) (by exact ag58.symm) ?_
    refine w_ldc rfl kn30 (by constructor) (by exact sz30.symm) (by exact ag30.symm) ?_
    refine w_ldc rfl kn30 (by constructor) (by exact sz30.symm) (by exact ag30.symm) ?_
    refine y_call rfl (ec (ec (ec exn))) (c_times (u := w) (v := v) hp hp2 hn hT hw hv) ?_
    refine w_stw rfl (by constructor) kn30 rfl (by exact trivial) (sx) (by exact sz30.symm) ?_
    exact hRR
  refine snd_ret ?_
  exact rt_c (T := TB) rfl kn30 rfl sz30.symm ag30.symm (fun V => m_vec (fun j hj => rfl))
theorem c_behind {p n : Int} {T : Nat → Nat → Nat → Int} {fo w : Nat → Int} : ACalls Tryz.prog TB 89 [.cptr (algA p n T fo), vecA w] (.fn 99 2 (cap2 (.cptr (.cptr (algA p n T fo))) (.cptr (vecA w)))) [] := by
  refine acalls_of tokTB Tryz.func89 rfl rfl (Nat.le_of_ble_eq_true rfl) ?_
  apply sr tokTB (by kernel_rfl)
  · intro RR hRR
    refine w_boxc (HV.eq (by constructor)) (by exact trivial) ?_
    refine w_boxc (HV.eq (by constructor)) (by exact trivial) ?_
    refine wa ?_
    exact hRR
  apply sr tokTB (by kernel_rfl)
  · intro RR hRR
    refine w_mkf2 (by constructor) (by constructor) ?_
    refine wa ?_
    exact hRR
  refine snd_ret ?_
  exact rt (T := TB) (fun V => Mt_closed (v := .fn _ 2 (cap2 (.cptr (.cptr (algA p n T fo))) (.cptr (vecA w)))) (closed_cap2 closed_calg (closed_vec (n := 6) (k := .u8) (f := w))) (fun _ _ _ => trivial) (by simp))
theorem c_ahead {p n : Int} {T : Nat → Nat → Nat → Int} {fo w : Nat → Int} : ACalls Tryz.prog TB 91 [.cptr (algA p n T fo), vecA w] (.fn 100 2 (cap2 (.cptr (.cptr (algA p n T fo))) (.cptr (vecA w)))) [] := by
  refine acalls_of tokTB Tryz.func91 rfl rfl (Nat.le_of_ble_eq_true rfl) ?_
  apply sr tokTB (by kernel_rfl)
  · intro RR hRR
    refine w_boxc (HV.eq (by constructor)) (by exact trivial) ?_
    refine w_boxc (HV.eq (by constructor)) (by exact trivial) ?_
    refine wa ?_
    exact hRR
  apply sr tokTB (by kernel_rfl)
  · intro RR hRR
    refine w_mkf2 (by constructor) (by constructor) ?_
    refine wa ?_
    exact hRR
  refine snd_ret ?_
  exact rt (T := TB) (fun V => Mt_closed (v := .fn _ 2 (cap2 (.cptr (.cptr (algA p n T fo))) (.cptr (vecA w)))) (closed_cap2 closed_calg (closed_vec (n := 6) (k := .u8) (f := w))) (fun _ _ _ => trivial) (by simp))
theorem c_vector {m : Nat} {f : Nat → Int} (hm : m ≤ 6) (hf : B8 f) : ACalls Tryz.prog TB 27 [rowA m f] (vecA (cutF f m)) [] := by
  refine acalls_of tokTB Tryz.func27 rfl rfl (Nat.le_of_ble_eq_true rfl) ?_
  apply sr tokTB (by kernel_rfl)
  · intro RR hRR
    refine w_alloc kn30 rfl zr30 ?_
    exact hRR
  apply sr tokTB (by kernel_rfl)
  · intro RR hRR
    refine w_bld_a kn30 zr30 und30 kn5 (fun _ => (by exact sz5.symm)) trivial rfl (by exact sz5.symm) ?_
    refine w_alloc kn30 rfl zr30 ?_
    refine w_stw rfl (by constructor) kn30 rfl (by exact trivial) (sx) (by exact sz30.symm) ?_
    exact hRR
  refine snd_seq ?_
  apply sr tokTB (by kernel_rfl)
  · intro RR hRR
    refine wm ?_
    refine w_len_r rfl rfl und24 ?_
    refine wm ?_
    exact hRR
  refine snd_block ?_
  refine snd_loop (S := Nat) (fun i => ([(2, .ptr 2 0 [] 0 (vecA (fun _ => 0))), (3, .ptr 3 0 [] 0 (vecA (fun _ => 0))), (7, rowA m f), (8, .int .i64 (m : Int)), (9, .int .i64 (i : Int))], [(2, .one (vecA (fun _ => 0)) (vecA (fun _ => 0))), (3, .one (vecA (fun _ => 0)) (vecA (cutF f i)))])) (fun i => i ≤ m) (fun i => m - i) (0) ρ0 ?_ ?_ ?_
  · exact ⟨⟨⟨rfl, rfl, rfl, rfl, rfl⟩, ⟨rfl, rfl, rfl, rfl, rfl⟩, (by first | exact mt_row (V := _) (fun _ _ => rfl) | exact mt_fz (by exact ⟨(ne_fst rfl), (ne_fst rfl), trivial⟩) rfl (fun _ _ => rfl)), (mi), (mi), trivial⟩, ⟨⟨rfl, (sx), (by exact mt_vec (fun _ _ => rfl))⟩, ⟨rfl, (sx), (by exact mt_vec (fun _ _ => rfl))⟩, trivial⟩, ⟨⟨(fun h => by first | exact ⟨rfl, rfl⟩ | exact absurd h (by decide)), (fun h => by first | exact ⟨rfl, rfl⟩ | exact absurd h (by decide)), trivial⟩, ⟨(fun h => by first | exact ⟨rfl, rfl⟩ | exact absurd h (by decide)), (fun h => by first | exact ⟨rfl, rfl⟩ | exact absurd h (by decide)), trivial⟩, trivial⟩⟩
  · exact Nat.zero_le _
  intro i hi0
  refine sq (env2 := [(2, .ptr 2 0 [] 0 (vecA (fun _ => 0))), (3, .ptr 3 0 [] 0 (vecA (fun _ => 0))), (7, rowA m f), (8, .int .i64 (m : Int)), (9, .int .i64 (i : Int))]) (ol2 := [(2, .one (vecA (fun _ => 0)) (vecA (fun _ => 0))), (3, .one (vecA (fun _ => 0)) (vecA (cutF f i)))]) rfl rfl ?_
  apply sr tokTB (by kernel_rfl)
  · intro RR hRR
    refine w_lss rfl rfl ?_
    exact hRR
  refine snd_seq ?_
  refine snd_cond _ rfl (fun hc10 => ?_) (fun hc10 => ?_)
  · try simp only [hcs] at hc10
    refine snd_skip ?_
    refine snd_seq ?_
    refine snd_block ?_
    apply sr tokTB (by kernel_rfl)
    · intro RR hRR
      refine wm ?_
      refine w_iar rfl rfl und24 kn2 (by exact sz2.symm) ?_ rfl ?_
      · exact ⟨by omega, by omega⟩
      first | refine w_ldc rfl kn2 (by constructor) (by exact sz2.symm) (by exact ag2.symm) ?_ | refine w_ldp rfl kn2 rfl (by constructor) (by exact sz2.symm) (by exact ag2.symm) ?_
      refine wa ?_
      refine wa ?_
      exact hRR
    apply lr tokTB (by kernel_rfl)
    · intro RR hRR
      refine wm ?_
      refine wm ?_
      refine w_conv rfl und2 und5 (by exact w8b hf i) ?_
      refine w_iap rfl rfl und30 kn5 rfl (by exact sz5.symm) rfl ?_ ?_
      · exact ⟨by omega, by omega⟩
      first | refine w_stw rfl (by constructor) kn5 rfl (by exact trivial) (sx) (by exact sz5.symm) ?_ | refine w_sti rfl rfl kn5 rfl (by exact trivial) (by exact sz5.symm) ?_ | refine w_store rfl (HV.eq (by constructor)) kn5 rfl (by exact trivial) (sx) (by exact sz5.symm) (pin_) ?_ | refine w_store rfl (HV.eq (by constructor)) kn5 rfl (by exact trivial) (by exact trivial) (by exact sz5.symm) rfl ?_
      exact hRR
    apply lr tokTB (by kernel_rfl)
    · intro RR hRR
      refine y_add rfl rfl ?_
      refine wm ?_
      exact hRR
    refine ⟨i + 1, ρ0, ?_, (by omega), (by dsimp only; omega)⟩
    exact ⟨⟨⟨rfl, rfl, rfl, rfl, rfl⟩, ⟨rfl, rfl, rfl, rfl, rfl⟩, (by first | exact mt_row (V := _) (fun _ _ => rfl) | exact mt_fz (by exact ⟨(ne_fst rfl), (ne_fst rfl), trivial⟩) rfl (fun _ _ => rfl)), (mi), (mi), trivial⟩, ⟨⟨rfl, (sx), (by exact mt_vec (fun _ _ => rfl))⟩, ⟨rfl, (sx), (by exact mt_vec (fun z _ => upd_cut _ i z))⟩, trivial⟩, ⟨⟨(fun h => by first | exact ⟨rfl, rfl⟩ | exact absurd h (by decide)), (fun h => by first | exact ⟨rfl, rfl⟩ | exact absurd h (by decide)), trivial⟩, ⟨(fun h => by first | exact ⟨rfl, rfl⟩ | exact absurd h (by decide)), (fun h => by first | exact ⟨rfl, rfl⟩ | exact absurd h (by decide)), trivial⟩, trivial⟩⟩
  · try simp only [hcs] at hc10
    have him : m = i := by omega
    subst him
    refine snd_exit ?_
    apply sr tokTB (by kernel_rfl)
    · intro RR hRR
      refine w_ldp rfl kn30 rfl (by constructor) (by exact sz30.symm) (by exact ag30.symm) ?_
      refine w_stw rfl (by constructor) kn30 rfl (by exact trivial) (sx) (by exact sz30.symm) ?_
      exact hRR
    refine snd_ret ?_
    exact rt_c (T := TB) rfl kn30 rfl sz30.symm ag30.symm (fun V => m_vec (fun j hj => rfl))
theorem c_vectorN : ACalls Tryz.prog TB 27 [.nilsl] (vecA (fun _ => 0)) [] := by
  refine acalls_of tokTB Tryz.func27 rfl rfl (Nat.le_of_ble_eq_true rfl) ?_
  apply sr tokTB (by kernel_rfl)
  · intro RR hRR
    refine w_alloc kn30 rfl zr30 ?_
    exact hRR
  apply sr tokTB (by kernel_rfl)
  · intro RR hRR
    refine w_bld_a kn30 zr30 und30 kn5 (fun _ => (by exact sz5.symm)) trivial rfl (by exact sz5.symm) ?_
    refine w_alloc kn30 rfl zr30 ?_
    refine w_stw rfl (by constructor) kn30 rfl (by exact trivial) (sx) (by exact sz30.symm) ?_
    exact hRR
  refine snd_seq ?_
  apply sr tokTB (by kernel_rfl)
  · intro RR hRR
    refine wm ?_
    refine w_len_n rfl rfl und24 ?_
    refine wm ?_
    exact hRR
  refine snd_block ?_
  refine snd_loop (S := Nat) (fun i => ([(2, .ptr 2 0 [] 0 (vecA (fun _ => 0))), (3, .ptr 3 0 [] 0 (vecA (fun _ => 0))), (7, .nilsl), (8, .int .i64 0), (9, .int .i64 (i : Int))], [(2, .one (vecA (fun _ => 0)) (vecA (fun _ => 0))), (3, .one (vecA (fun _ => 0)) (vecA (fun _ => 0)))])) (fun i => i ≤ 0) (fun i => 0 - i) (0) ρ0 ?_ ?_ ?_
  · exact ⟨⟨⟨rfl, rfl, rfl, rfl, rfl⟩, ⟨rfl, rfl, rfl, rfl, rfl⟩, rfl, (mi), (mi), trivial⟩, ⟨⟨rfl, (sx), (by exact mt_vec (fun _ _ => rfl))⟩, ⟨rfl, (sx), (by exact mt_vec (fun _ _ => rfl))⟩, trivial⟩, ⟨⟨(fun h => by first | exact ⟨rfl, rfl⟩ | exact absurd h (by decide)), (fun h => by first | exact ⟨rfl, rfl⟩ | exact absurd h (by decide)), trivial⟩, ⟨(fun h => by first | exact ⟨rfl, rfl⟩ | exact absurd h (by decide)), (fun h => by first | exact ⟨rfl, rfl⟩ | exact absurd h (by decide)), trivial⟩, trivial⟩⟩
  · exact Nat.zero_le _
  intro i hi0
  refine sq (env2 := [(2, .ptr 2 0 [] 0 (vecA (fun _ => 0))), (3, .ptr 3 0 [] 0 (vecA (fun _ => 0))), (7, .nilsl), (8, .int .i64 0), (9, .int .i64 (i : Int))]) (ol2 := [(2, .one (vecA (fun _ => 0)) (vecA (fun _ => 0))), (3, .one (vecA (fun _ => 0)) (vecA (fun _ => 0)))]) rfl rfl ?_
  apply sr tokTB (by kernel_rfl)
  · intro RR hRR
    refine w_lss rfl rfl ?_
    exact hRR
  refine snd_seq ?_
  refine snd_cond_false (by exact congrArg AV.bool (decide_eq_false (by omega))) ?_
  refine snd_exit ?_
  apply sr tokTB (by kernel_rfl)
  · intro RR hRR
    refine w_ldp rfl kn30 rfl (by constructor) (by exact sz30.symm) (by exact ag30.symm) ?_
    refine w_stw rfl (by constructor) kn30 rfl (by exact trivial) (sx) (by exact sz30.symm) ?_
    exact hRR
  refine snd_ret ?_
  exact rt_c (T := TB) rfl kn30 rfl sz30.symm ag30.symm (fun V => m_vec (fun j hj => rfl))
end Go.Am

set_option maxRecDepth 4000
namespace Go.Am
attribute [local irreducible] retQ retQp
open Go.Proofs
theorem c_solve_ok {N n : Nat} {S : Nat → Nat → Int} {p : Int} (hp : primeB p = true) (hN : N ≤ 1000) (hn : n ≤ 900) (hS : ∀ i, Bp p (S i)) (hcon : conP n (redGo p N S (n + 1)).no (redGo p N S (n + 1)).O) : ACalls Tryz.prog TB 40 [rowsA N (n + 1) S, .int .i64 (n : Int), .int .i64 p] (.tup 2 (pairA (.own 0 0 n 2) (.bool true))) (HR n (solGo n (redGo p N S (n + 1)).O (redGo p N S (n + 1)).no)) := by
  have hpb := primeB_bd hp
  obtain ⟨⟨l, hrr⟩, _⟩ := red_ok (m := n + 1) (n := N) (R := S) hp (fun i _ => hS i)
  have hcn := red_counts p N S (n + 1)
  have hS8 : ∀ i, B8 (S i) := fun i => B8_of (by omega) (hS i)
  have hld : ∀ i, i < (redGo p N S (n + 1)).no → Lead (n + 1) ((redGo p N S (n + 1)).O i) (l i) := hrr.lead
  refine acalls_of tokTB Tryz.func40 rfl rfl (Nat.le_of_ble_eq_true rfl) ?_
  apply sr tokTB (by kernel_rfl)
  · intro RR hRR
    refine wa ?_
    refine wa ?_
    exact hRR
  apply sr tokTB (by kernel_rfl)
  · intro RR hRR
    refine wm ?_
    refine w_mks und24 rfl rfl kn2 rfl (by omega) (by rw [by2]; omega) (by omega) rfl ?_
    refine wa ?_
    exact hRR
  refine snd_seq ?_
  apply sr tokTB (by kernel_rfl)
  · intro RR hRR
    refine wm ?_
    refine wm ?_
    refine w_call rfl (ec (ec exn)) (c_reduce (n := N) (m := n + 1) (R := S) hp (by omega) (by omega) hS8) (.inr ⟨closed_rows, trivial, trivial⟩) rfl (by constructor) rfl ?_
    refine w_len_o rfl rfl und63 ?_
    refine wm ?_
    exact hRR
  refine snd_block ?_
  refine snd_loop (S := Nat) (fun i => ([(0, rowsA N (n + 1) S), (1, .int .i64 (n : Int)), (8, .own 908 0 n 2), (16, .own 916 0 ((redGo p N S (n + 1)).no) 24), (17, .int .i64 (((redGo p N S (n + 1)).no : Nat) : Int)), (18, .int .i64 (i : Int))], [(908, .one (Z64 n) (C64 n (solGo n (redGo p N S (n + 1)).O i))), (916, .one (ZR ((redGo p N S (n + 1)).no)) (CR ((redGo p N S (n + 1)).no) (n + 1) ((redGo p N S (n + 1)).O)))])) (fun i => i ≤ (redGo p N S (n + 1)).no ∧ conP n i (redGo p N S (n + 1)).O) (fun i => (redGo p N S (n + 1)).no - i) (0) (fun k i => bif Nat.beq k 916 then (17000, i) else bif Nat.beq k 908 then (13, i) else (k, i)) ?_ ?_ ?_
  · exact ⟨⟨(mt_rows (V := _) (fun _ _ _ _ => rfl)), (mi), (by first | exact ⟨rfl, rfl, rfl, rfl⟩ | exact ⟨rfl, by omega, rfl, rfl⟩), (by first | exact ⟨rfl, rfl, rfl, rfl⟩ | exact ⟨rfl, by omega, rfl, rfl⟩), (mi), (mi), trivial⟩, ⟨⟨rfl, (sx), (by exact mt_vec (fun _ _ => rfl))⟩, ⟨rfl, (sx), (by exact ⟨rfl, fun _ _ => mt_row (fun _ _ => rfl)⟩)⟩, trivial⟩, ⟨⟨(fun h => by first | exact ⟨rfl, rfl⟩ | exact absurd h (by decide)), (fun h => by first | exact ⟨rfl, rfl⟩ | exact absurd h (by decide)), trivial⟩, ⟨(fun h => by first | exact ⟨rfl, rfl⟩ | exact absurd h (by decide)), (fun h => by first | exact ⟨rfl, rfl⟩ | exact absurd h (by decide)), trivial⟩, trivial⟩⟩
  · exact ⟨Nat.zero_le _, fun j hj => absurd hj (Nat.not_lt_zero _)⟩
  intro i hi0
  refine sq (env2 := [(0, rowsA N (n + 1) S), (1, .int .i64 (n : Int)), (8, .own 908 0 n 2), (16, .own 916 0 ((redGo p N S (n + 1)).no) 24), (17, .int .i64 (((redGo p N S (n + 1)).no : Nat) : Int)), (18, .int .i64 (i : Int))]) (ol2 := [(908, .one (Z64 n) (C64 n (solGo n (redGo p N S (n + 1)).O i))), (916, .one (ZR ((redGo p N S (n + 1)).no)) (CR ((redGo p N S (n + 1)).no) (n + 1) ((redGo p N S (n + 1)).O)))]) rfl rfl ?_
  obtain ⟨hi1, hi2⟩ := hi0
  apply sr tokTB (by kernel_rfl)
  · intro RR hRR
    refine w_lss rfl rfl ?_
    exact hRR
  refine snd_seq ?_
  refine snd_cond _ rfl (fun hc19 => ?_) (fun hc19 => ?_)
  · try simp only [hcs] at hc19
    have hil : i < (redGo p N S (n + 1)).no := by omega
    have hcn2 := hcon i hil
    refine snd_skip ?_
    refine snd_seq ?_
    refine snd_block ?_
    apply sr tokTB (by kernel_rfl)
    · intro RR hRR
      refine w_iao rfl rfl und63 kn24 ?_ ?_
      · exact ⟨by omega, by omega⟩
      first | refine w_ldc rfl kn24 (by constructor) (by exact sz24.symm) (by exact ag24.symm) ?_ | refine w_ldp rfl kn24 rfl (by constructor) (by exact sz24.symm) (by exact ag24.symm) ?_
      refine wa ?_
      exact hRR
    apply sr tokTB (by kernel_rfl)
    · intro RR hRR
      refine wm ?_
      refine y_call rfl (ec exn) (c_leader (m := n + 1) (f := (redGo p N S (n + 1)).O i) (by omega)) ?_
      refine wa ?_
      exact hRR
    refine snd_seq ?_
    apply sr tokTB (by kernel_rfl)
    · intro RR hRR
      refine wm ?_
      refine wm ?_
      refine w_eql rfl rfl ?_
      exact hRR
    refine snd_cond_false (by exact congrArg AV.bool (decide_eq_false (by rw [lead_idx' (hld i hil)]; omega))) ?_
    refine snd_skip ?_
    apply lr tokTB (by kernel_rfl)
    · intro RR hRR
      refine wm ?_
      refine wm ?_
      refine wm ?_
      refine wm ?_
      first | refine w_iar rfl rfl und24 kn2 (by exact sz2.symm) ?_ rfl ?_ | refine w_iao rfl rfl und24 kn2 ?_ ?_
      · exact ⟨by omega, by omega⟩
      first | refine w_ldc rfl kn2 (by constructor) (by exact sz2.symm) (by exact ag2.symm) ?_ | refine w_ldp rfl kn2 rfl (by constructor) (by exact sz2.symm) (by exact ag2.symm) ?_
      refine w_iao rfl rfl und24 kn2 ?_ ?_
      · exact ⟨by rw [lead_idx' (hld i hil)]; omega, by rw [lead_idx' (hld i hil)]; have := hcn2; omega⟩
      first | refine w_stw rfl (by constructor) kn2 rfl (by exact trivial) (sx) (by exact sz2.symm) ?_ | refine w_sti rfl rfl kn2 rfl (by exact trivial) (by exact sz2.symm) ?_ | refine w_store rfl (HV.eq (by constructor)) kn2 rfl (by exact trivial) (sx) (by exact sz2.symm) (pin_) ?_ | refine w_store rfl (HV.eq (by constructor)) kn2 rfl (by exact trivial) (by exact trivial) (by exact sz2.symm) rfl ?_
      exact hRR
    apply lr tokTB (by kernel_rfl)
    · intro RR hRR
      refine y_add rfl rfl ?_
      refine wm ?_
      exact hRR
    refine ⟨i + 1, ρ0, ?_, ⟨by omega, all_step hi2 hcn2⟩, (by dsimp only; omega)⟩
    exact ⟨⟨(mt_rows (V := _) (fun _ _ _ _ => rfl)), (mi), (by first | exact ⟨rfl, rfl, rfl, rfl⟩ | exact ⟨rfl, by omega, rfl, rfl⟩), (by first | exact ⟨rfl, rfl, rfl, rfl⟩ | exact ⟨rfl, by omega, rfl, rfl⟩), (mi), (mi), trivial⟩, ⟨⟨rfl, (sx), (by exact mt_vec (fun z _ => by show upd _ (idxF (fun i_1 => decide ((redGo p N S (n + 1)).O i i_1 ≠ 0)) (n + 1)).toNat _ z = _; rw [lead_idx' (hld i hil)]; rfl))⟩, ⟨rfl, (sx), (by exact ⟨rfl, fun _ _ => mt_row (fun _ _ => rfl)⟩)⟩, trivial⟩, ⟨⟨(fun h => by first | exact ⟨rfl, rfl⟩ | exact absurd h (by decide)), (fun h => by first | exact ⟨rfl, rfl⟩ | exact absurd h (by decide)), trivial⟩, ⟨(fun h => by first | exact ⟨rfl, rfl⟩ | exact absurd h (by decide)), (fun h => by first | exact ⟨rfl, rfl⟩ | exact absurd h (by decide)), trivial⟩, trivial⟩⟩
  · try simp only [hcs] at hc19
    have hio : (redGo p N S (n + 1)).no = i := by omega
    refine snd_exit ?_
    apply sr tokTB (by kernel_rfl)
    · intro RR hRR
      refine wm ?_
      refine wa ?_
      refine wa ?_
      exact hRR
    refine snd_ret ?_
    show retQ TB _ _ _ _ _ _
    exact rt_own_t (T := TB) rfl rfl rfl rfl (fun _ => trivial) (fun V j hj => congrArg (AV.int .i64) (by rw [← hio]))
theorem c_solve_no {N n : Nat} {S : Nat → Nat → Int} {p : Int} (hp : primeB p = true) (hN : N ≤ 1000) (hn : n ≤ 900) (hS : ∀ i, Bp p (S i)) (hcon : ¬ conP n (redGo p N S (n + 1)).no (redGo p N S (n + 1)).O) : ACalls Tryz.prog TB 40 [rowsA N (n + 1) S, .int .i64 (n : Int), .int .i64 p] (.tup 2 (pairA .nilsl (.bool false))) [] := by
  have hpb := primeB_bd hp
  obtain ⟨⟨l, hrr⟩, _⟩ := red_ok (m := n + 1) (n := N) (R := S) hp (fun i _ => hS i)
  have hcn := red_counts p N S (n + 1)
  have hS8 : ∀ i, B8 (S i) := fun i => B8_of (by omega) (hS i)
  have hld : ∀ i, i < (redGo p N S (n + 1)).no → Lead (n + 1) ((redGo p N S (n + 1)).O i) (l i) := hrr.lead
  refine acalls_of tokTB Tryz.func40 rfl rfl (Nat.le_of_ble_eq_true rfl) ?_
  apply sr tokTB (by kernel_rfl)
  · intro RR hRR
    refine wa ?_
    refine wa ?_
    exact hRR
  apply sr tokTB (by kernel_rfl)
  · intro RR hRR
    refine wm ?_
    refine w_mks und24 rfl rfl kn2 rfl (by omega) (by rw [by2]; omega) (by omega) rfl ?_
    refine wa ?_
    exact hRR
  refine snd_seq ?_
  apply sr tokTB (by kernel_rfl)
  · intro RR hRR
    refine wm ?_
    refine wm ?_
    refine w_call rfl (ec (ec exn)) (c_reduce (n := N) (m := n + 1) (R := S) hp (by omega) (by omega) hS8) (.inr ⟨closed_rows, trivial, trivial⟩) rfl (by constructor) rfl ?_
    refine w_len_o rfl rfl und63 ?_
    refine wm ?_
    exact hRR
  refine snd_block ?_
  refine snd_loop (S := Nat) (fun i => ([(0, rowsA N (n + 1) S), (1, .int .i64 (n : Int)), (8, .own 908 0 n 2), (16, .own 916 0 ((redGo p N S (n + 1)).no) 24), (17, .int .i64 (((redGo p N S (n + 1)).no : Nat) : Int)), (18, .int .i64 (i : Int))], [(908, .one (Z64 n) (C64 n (solGo n (redGo p N S (n + 1)).O i))), (916, .one (ZR ((redGo p N S (n + 1)).no)) (CR ((redGo p N S (n + 1)).no) (n + 1) ((redGo p N S (n + 1)).O)))])) (fun i => i ≤ (redGo p N S (n + 1)).no ∧ conP n i (redGo p N S (n + 1)).O) (fun i => (redGo p N S (n + 1)).no - i) (0) (fun k i => bif Nat.beq k 916 then (17000, i) else bif Nat.beq k 908 then (13, i) else (k, i)) ?_ ?_ ?_
  · exact ⟨⟨(mt_rows (V := _) (fun _ _ _ _ => rfl)), (mi), (by first | exact ⟨rfl, rfl, rfl, rfl⟩ | exact ⟨rfl, by omega, rfl, rfl⟩), (by first | exact ⟨rfl, rfl, rfl, rfl⟩ | exact ⟨rfl, by omega, rfl, rfl⟩), (mi), (mi), trivial⟩, ⟨⟨rfl, (sx), (by exact mt_vec (fun _ _ => rfl))⟩, ⟨rfl, (sx), (by exact ⟨rfl, fun _ _ => mt_row (fun _ _ => rfl)⟩)⟩, trivial⟩, ⟨⟨(fun h => by first | exact ⟨rfl, rfl⟩ | exact absurd h (by decide)), (fun h => by first | exact ⟨rfl, rfl⟩ | exact absurd h (by decide)), trivial⟩, ⟨(fun h => by first | exact ⟨rfl, rfl⟩ | exact absurd h (by decide)), (fun h => by first | exact ⟨rfl, rfl⟩ | exact absurd h (by decide)), trivial⟩, trivial⟩⟩
  · exact ⟨Nat.zero_le _, fun j hj => absurd hj (Nat.not_lt_zero _)⟩
  intro i hi0
  refine sq (env2 := [(0, rowsA N (n + 1) S), (1, .int .i64 (n : Int)), (8, .own 908 0 n 2), (16, .own 916 0 ((redGo p N S (n + 1)).no) 24), (17, .int .i64 (((redGo p N S (n + 1)).no : Nat) : Int)), (18, .int .i64 (i : Int))]) (ol2 := [(908, .one (Z64 n) (C64 n (solGo n (redGo p N S (n + 1)).O i))), (916, .one (ZR ((redGo p N S (n + 1)).no)) (CR ((redGo p N S (n + 1)).no) (n + 1) ((redGo p N S (n + 1)).O)))]) rfl rfl ?_
  obtain ⟨hi1, hi2⟩ := hi0
  apply sr tokTB (by kernel_rfl)
  · intro RR hRR
    refine w_lss rfl rfl ?_
    exact hRR
  refine snd_seq ?_
  refine snd_cond _ rfl (fun hc19 => ?_) (fun hc19 => ?_)
  · try simp only [hcs] at hc19
    have hil : i < (redGo p N S (n + 1)).no := by omega
    refine snd_skip ?_
    refine snd_seq ?_
    refine snd_block ?_
    apply sr tokTB (by kernel_rfl)
    · intro RR hRR
      refine w_iao rfl rfl und63 kn24 ?_ ?_
      · exact ⟨by omega, by omega⟩
      first | refine w_ldc rfl kn24 (by constructor) (by exact sz24.symm) (by exact ag24.symm) ?_ | refine w_ldp rfl kn24 rfl (by constructor) (by exact sz24.symm) (by exact ag24.symm) ?_
      refine wa ?_
      exact hRR
    apply sr tokTB (by kernel_rfl)
    · intro RR hRR
      refine wm ?_
      refine y_call rfl (ec exn) (c_leader (m := n + 1) (f := (redGo p N S (n + 1)).O i) (by omega)) ?_
      refine wa ?_
      exact hRR
    refine snd_seq ?_
    apply sr tokTB (by kernel_rfl)
    · intro RR hRR
      refine wm ?_
      refine wm ?_
      refine w_eql rfl rfl ?_
      exact hRR
    refine snd_cond _ rfl (fun hc26 => ?_) (fun hc26 => ?_)
    · skip
      apply sr tokTB (by kernel_rfl)
      · intro RR hRR
        refine wa ?_
        refine wa ?_
        exact hRR
      refine snd_ret ?_
      exact rt_tt (T := TB) (fun V => rfl) (fun V => rfl)
    · skip
      have hcn2 : leadN (n + 1) ((redGo p N S (n + 1)).O i) < n := by
        have h1 := of_decide_eq_false hc26
        rw [lead_idx' (hld i hil)] at h1
        have h2 := (hld i hil).1
        rw [← leadN_of (hld i hil)] at h2
        omega
      refine snd_skip ?_
      apply lr tokTB (by kernel_rfl)
      · intro RR hRR
        refine wm ?_
        refine wm ?_
        refine wm ?_
        refine wm ?_
        first | refine w_iar rfl rfl und24 kn2 (by exact sz2.symm) ?_ rfl ?_ | refine w_iao rfl rfl und24 kn2 ?_ ?_
        · exact ⟨by omega, by omega⟩
        first | refine w_ldc rfl kn2 (by constructor) (by exact sz2.symm) (by exact ag2.symm) ?_ | refine w_ldp rfl kn2 rfl (by constructor) (by exact sz2.symm) (by exact ag2.symm) ?_
        refine w_iao rfl rfl und24 kn2 ?_ ?_
        · exact ⟨by rw [lead_idx' (hld i hil)]; omega, by rw [lead_idx' (hld i hil)]; have := hcn2; omega⟩
        first | refine w_stw rfl (by constructor) kn2 rfl (by exact trivial) (sx) (by exact sz2.symm) ?_ | refine w_sti rfl rfl kn2 rfl (by exact trivial) (by exact sz2.symm) ?_ | refine w_store rfl (HV.eq (by constructor)) kn2 rfl (by exact trivial) (sx) (by exact sz2.symm) (pin_) ?_ | refine w_store rfl (HV.eq (by constructor)) kn2 rfl (by exact trivial) (by exact trivial) (by exact sz2.symm) rfl ?_
        exact hRR
      apply lr tokTB (by kernel_rfl)
      · intro RR hRR
        refine y_add rfl rfl ?_
        refine wm ?_
        exact hRR
      refine ⟨i + 1, ρ0, ?_, ⟨by omega, all_step hi2 hcn2⟩, (by dsimp only; omega)⟩
      exact ⟨⟨(mt_rows (V := _) (fun _ _ _ _ => rfl)), (mi), (by first | exact ⟨rfl, rfl, rfl, rfl⟩ | exact ⟨rfl, by omega, rfl, rfl⟩), (by first | exact ⟨rfl, rfl, rfl, rfl⟩ | exact ⟨rfl, by omega, rfl, rfl⟩), (mi), (mi), trivial⟩, ⟨⟨rfl, (sx), (by exact mt_vec (fun z _ => by show upd _ (idxF (fun i_1 => decide ((redGo p N S (n + 1)).O i i_1 ≠ 0)) (n + 1)).toNat _ z = _; rw [lead_idx' (hld i hil)]; rfl))⟩, ⟨rfl, (sx), (by exact ⟨rfl, fun _ _ => mt_row (fun _ _ => rfl)⟩)⟩, trivial⟩, ⟨⟨(fun h => by first | exact ⟨rfl, rfl⟩ | exact absurd h (by decide)), (fun h => by first | exact ⟨rfl, rfl⟩ | exact absurd h (by decide)), trivial⟩, ⟨(fun h => by first | exact ⟨rfl, rfl⟩ | exact absurd h (by decide)), (fun h => by first | exact ⟨rfl, rfl⟩ | exact absurd h (by decide)), trivial⟩, trivial⟩⟩
  · try simp only [hcs] at hc19
    exact absurd (fun j hj => hi2 j (by omega)) hcon
end Go.Am

set_option maxRecDepth 4000
namespace Go.Am
attribute [local irreducible] retQ retQp
open Go.Proofs
theorem c_equations {M n : Nat} {G NC : Nat → Nat} {CP : Nat → Nat → AV} {Fv : Nat → Nat → Nat → Int} {p : Int} {T : Nat → Nat → Nat → Int} {fo : Nat → Int} (hM : M ≤ 100) (hn0 : 0 < n) (hn : n ≤ 6) (hcl : ∀ x, (AV.fn (G x) (NC x) (CP x)).closed) (hB : ∀ x i, x < M → B8 (Fv x i)) (hf : ∀ x, x < M → ∀ i, i < n → ACalls Tryz.prog TB (G x) (vecA (eF i) :: capL (NC x) (CP x)) (vecA (Fv x i)) []) : ACalls Tryz.prog TB 101 [.cptr (algA p (n : Int) T fo), .ro M (fun x => .fn (G x) (NC x) (CP x))] (.own 0 0 (M * n) 24) [(0, .one (ZR (M * n)) (CO 1 (M * n) (fun _ => n) 2)), (1, .many (famF (M * n) (fun _ => n) (eqR n Fv)))] := by
  refine acalls_of tokTB Tryz.func101 rfl rfl (Nat.le_of_ble_eq_true rfl) ?_
  apply sr tokTB (by kernel_rfl)
  · intro RR hRR
    refine wa ?_
    exact hRR
  apply sr tokTB (by kernel_rfl)
  · intro RR hRR
    refine w_bsl und63 kn24 (by rw [sz24]; rfl) rfl trivial trivial rfl ?_
    refine wa ?_
    exact hRR
  refine snd_seq ?_
  apply sr tokTB (by kernel_rfl)
  · intro RR hRR
    refine wm ?_
    refine w_len_r rfl rfl und108 ?_
    refine wm ?_
    exact hRR
  refine snd_block ?_
  refine snd_loop (S := Nat) (fun x => ([(5, .own 905 0 (x * n) 24), (0, .cptr (algA p (n : Int) T fo)), (12, .ro M (fun x => .fn (G x) (NC x) (CP x))), (13, .int .i64 (M : Int)), (14, .int .i64 (x : Int))], [(905, .one (ZR (x * n)) (CO 1 (x * n) (fun _ => n) 2)), (1, .many (famF (x * n) (fun _ => n) (eqR n Fv)))])) (fun x => x ≤ M) (fun x => M - x) (0) (ρP 905 1 11 912 0) ?_ ?_ ?_
  · exact emb_fam (by decide) (by decide) (by decide) (by decide) (by rw [Nat.zero_mul]; rfl) (fun j hj => absurd hj (by omega)) (fun h => absurd h (by omega)) (fun h => absurd h (by omega)) (fun r hr => absurd hr (by omega)) ⟨(by exact ⟨rfl, (Nat.zero_mul n).symm, rfl, rfl⟩), m_calg, (by exact Mt_closed (V := _) (v := .ro M (fun x => .fn (G x) (NC x) (CP x))) (fun x => hcl x) (fun _ _ _ => trivial) (by simp)), (mi), (mi), trivial⟩
  · exact Nat.zero_le _
  intro x hi0
  refine sq (env2 := [(5, .own 905 0 (x * n) 24), (0, .cptr (algA p (n : Int) T fo)), (12, .ro M (fun x => .fn (G x) (NC x) (CP x))), (13, .int .i64 (M : Int)), (14, .int .i64 (x : Int))]) (ol2 := [(905, .one (ZR (x * n)) (CO 1 (x * n) (fun _ => n) 2)), (1, .many (famF (x * n) (fun _ => n) (eqR n Fv)))]) rfl rfl ?_
  apply sr tokTB (by kernel_rfl)
  · intro RR hRR
    refine w_lss rfl rfl ?_
    exact hRR
  refine snd_seq ?_
  refine snd_cond _ rfl (fun hc15 => ?_) (fun hc15 => ?_)
  · try simp only [hcs] at hc15
    have hx : x < M := by omega
    have hxn : (x + 1) * n = x * n + n := by rw [Nat.add_mul]; omega
    have hle : x * n + n ≤ 100 * 6 := by rw [← hxn]; exact Nat.mul_le_mul (by omega) (by omega)
    refine snd_skip ?_
    refine snd_seq ?_
    refine snd_block ?_
    apply sr tokTB (by kernel_rfl)
    · intro RR hRR
      refine w_iar rfl rfl und108 kn109 (by exact sz109.symm) ?_ rfl ?_
      · exact ⟨by omega, by omega⟩
      first | refine w_ldc rfl kn109 (by constructor) (by exact sz109.symm) (by exact ag109.symm) ?_ | refine w_ldp rfl kn109 rfl (by constructor) (by exact sz109.symm) (by exact ag109.symm) ?_
      refine wa ?_
      exact hRR
    apply sr tokTB (by kernel_rfl)
    · intro RR hRR
      refine wm ?_
      refine y_call rfl (ec exn) (c_n) ?_
      refine wm ?_
      exact hRR
    refine snd_block ?_
    refine snd_loop (S := Nat) (fun k => ([(5, .own 905 0 (x * n + k) 24), (0, .cptr (algA p (n : Int) T fo)), (12, .ro M (fun x => .fn (G x) (NC x) (CP x))), (13, .int .i64 (M : Int)), (14, .int .i64 (x : Int)), (7, .fn (G x) (NC x) (CP x)), (19, .int .i64 (n : Int)), (20, .int .i64 (k : Int))], [(905, .one (ZR (x * n + k)) (CO 1 (x * n + k) (fun _ => n) 2)), (1, .many (famF (x * n + k) (fun _ => n) (eqR n Fv)))])) (fun k => k ≤ n) (fun k => n - k) (0) (ρP 905 1 905 912 (x * n)) ?_ ?_ ?_
    · exact emb_fam (by decide) (by decide) (by decide) (by decide) rfl (fun j hj hne => rfl) (fun h => absurd h (by omega)) (fun h => absurd h (by omega)) (fun r hr hne => fam_beside [] (by decide) r (by omega)) ⟨(by first | exact ⟨rfl, rfl, rfl, rfl⟩ | exact ⟨rfl, by omega, rfl, rfl⟩), m_calg, (by exact Mt_closed (V := _) (v := .ro M (fun x => .fn (G x) (NC x) (CP x))) (fun x => hcl x) (fun _ _ _ => trivial) (by simp)), (mi), (mi), (by exact Mt_closed (V := _) (v := .fn (G x) (NC x) (CP x)) (hcl x) (fun _ _ _ => trivial) (by simp)), (mi), (mi), trivial⟩
    · exact Nat.zero_le _
    intro k hi2
    refine sq (env2 := [(5, .own 905 0 (x * n + k) 24), (0, .cptr (algA p (n : Int) T fo)), (12, .ro M (fun x => .fn (G x) (NC x) (CP x))), (13, .int .i64 (M : Int)), (14, .int .i64 (x : Int)), (7, .fn (G x) (NC x) (CP x)), (19, .int .i64 (n : Int)), (20, .int .i64 (k : Int))]) (ol2 := [(905, .one (ZR (x * n + k)) (CO 1 (x * n + k) (fun _ => n) 2)), (1, .many (famF (x * n + k) (fun _ => n) (eqR n Fv)))]) rfl rfl ?_
    apply sr tokTB (by kernel_rfl)
    · intro RR hRR
      refine w_lss rfl rfl ?_
      exact hRR
    refine snd_seq ?_
    refine snd_cond _ rfl (fun hc21 => ?_) (fun hc21 => ?_)
    · try simp only [hcs] at hc21
      refine snd_skip ?_
      refine snd_seq ?_
      refine snd_block ?_
      apply sr tokTB (by kernel_rfl)
      · intro RR hRR
        refine wm ?_
        refine wa ?_
        exact hRR
      apply sr tokTB (by kernel_rfl)
      · intro RR hRR
        refine w_bsl und24 kn2 (by rw [sz2]; rfl) rfl trivial trivial rfl ?_
        refine wa ?_
        exact hRR
      refine snd_seq ?_
      apply sr tokTB (by kernel_rfl)
      · intro RR hRR
        refine wm ?_
        refine y_call rfl (ec exn) (c_n) ?_
        refine wm ?_
        exact hRR
      refine snd_block ?_
      refine snd_loop (S := Nat) (fun i => ([(5, .own 905 0 (x * n + k) 24), (0, .cptr (algA p (n : Int) T fo)), (12, .ro M (fun x => .fn (G x) (NC x) (CP x))), (13, .int .i64 (M : Int)), (14, .int .i64 (x : Int)), (7, .fn (G x) (NC x) (CP x)), (8, .int .i64 (k : Int)), (9, .own 909 0 i 2), (19, .int .i64 (n : Int)), (20, .int .i64 (k : Int)), (25, .int .i64 (n : Int)), (26, .int .i64 (i : Int))], [(905, .one (ZR (x * n + k)) (CO 1 (x * n + k) (fun _ => n) 2)), (1, .many (famF (x * n + k) (fun _ => n) (eqR n Fv))), (909, .one (Z64 i) (C64 i (fun a => Fv x a k)))])) (fun i => i ≤ n) (fun i => n - i) (0) (ρQ 905 1 905 912 (x * n + k) 909 23) ?_ ?_ ?_
      · exact emb_fam1 (by decide) (by decide) (by decide) (by decide) (by decide) (by decide) (by decide) (by decide) (by decide) rfl (fun j hj hne => rfl) (fun h => absurd h (by omega)) (fun h => absurd h (by omega)) (fun r hr hne => famF_at (c := x * n + k) (w := fun _ => n) (F := eqR n Fv) (by omega)) ⟨_, rfl, ⟨rfl, fun _ => trivial⟩, fun V => mt_arr0⟩ ⟨(by first | exact ⟨rfl, rfl, rfl, rfl⟩ | exact ⟨rfl, by omega, rfl, rfl⟩), m_calg, (by exact Mt_closed (V := _) (v := .ro M (fun x => .fn (G x) (NC x) (CP x))) (fun x => hcl x) (fun _ _ _ => trivial) (by simp)), (mi), (mi), (by exact Mt_closed (V := _) (v := .fn (G x) (NC x) (CP x)) (hcl x) (fun _ _ _ => trivial) (by simp)), (mi), (by first | exact ⟨rfl, rfl, rfl, rfl⟩ | exact ⟨rfl, by omega, rfl, rfl⟩), (mi), (mi), (mi), (mi), trivial⟩
      · exact Nat.zero_le _
      intro i hi4
      refine sq (env2 := [(5, .own 905 0 (x * n + k) 24), (0, .cptr (algA p (n : Int) T fo)), (12, .ro M (fun x => .fn (G x) (NC x) (CP x))), (13, .int .i64 (M : Int)), (14, .int .i64 (x : Int)), (7, .fn (G x) (NC x) (CP x)), (8, .int .i64 (k : Int)), (9, .own 909 0 i 2), (19, .int .i64 (n : Int)), (20, .int .i64 (k : Int)), (25, .int .i64 (n : Int)), (26, .int .i64 (i : Int))]) (ol2 := [(905, .one (ZR (x * n + k)) (CO 1 (x * n + k) (fun _ => n) 2)), (1, .many (famF (x * n + k) (fun _ => n) (eqR n Fv))), (909, .one (Z64 i) (C64 i (fun a => Fv x a k)))]) rfl rfl ?_
      apply sr tokTB (by kernel_rfl)
      · intro RR hRR
        refine w_lss rfl rfl ?_
        exact hRR
      refine snd_seq ?_
      refine snd_cond _ rfl (fun hc27 => ?_) (fun hc27 => ?_)
      · try simp only [hcs] at hc27
        refine snd_skip ?_
        refine snd_seq ?_
        refine snd_block ?_
        apply sr tokTB (by kernel_rfl)
        · intro RR hRR
          refine wm ?_
          refine wa ?_
          exact hRR
        apply lr tokTB (by kernel_rfl)
        · intro RR hRR
          refine wm ?_
          refine wm ?_
          refine wm ?_
          refine y_call rfl (ec exn) (c_basis (by omega)) ?_
          refine y_call rfl (exc (by exact rfl) (exp_capL (hcl x))) (hf x hx i (by omega)) ?_
          refine wm ?_
          refine w_ixa rfl rfl und30 kn5 (by exact sz5.symm) ?_ (by constructor) (by exact ag5.symm) ?_
          · exact ⟨by omega, by omega⟩
          refine w_conv rfl und5 und2 (by exact w64b (hB x i hx) _) ?_
          refine w_bsl1 und24 kn2 (by rw [sz2]; rfl) rfl (by constructor) (by first | exact trivial | exact cel_cap2) (by exact sz2.symm) (by first | exact trivial | exact ssh_vec | exact ⟨rfl, fun _ => trivial⟩) ?_
          refine w_app_o und24 rfl rfl kn2 rfl rfl (fun C h => ⟨rfl, rfl, rfl, h⟩) (by rw [by2]; omega) (by omega) rfl ?_
          refine wa ?_
          exact hRR
        apply lr tokTB (by kernel_rfl)
        · intro RR hRR
          refine y_add rfl rfl ?_
          refine wm ?_
          exact hRR
        refine ⟨i + 1, (ρQ 905 1 905 912 (x * n + k) 909 38), ?_, (by omega), (by dsimp only; omega)⟩
        exact emb_fam1 (by decide) (by decide) (by decide) (by decide) (by decide) (by decide) (by decide) (by decide) (by decide) rfl (fun j hj hne => rfl) (fun h => absurd h (by omega)) (fun h => absurd h (by omega)) (fun r hr hne => famF_at (c := x * n + k) (w := fun _ => n) (F := eqR n Fv) (by omega)) ⟨_, rfl, ⟨rfl, fun _ => trivial⟩, fun V => mt_app (fun _ _ => rfl) rfl⟩ ⟨(by first | exact ⟨rfl, rfl, rfl, rfl⟩ | exact ⟨rfl, by omega, rfl, rfl⟩), m_calg, (by exact Mt_closed (V := _) (v := .ro M (fun x => .fn (G x) (NC x) (CP x))) (fun x => hcl x) (fun _ _ _ => trivial) (by simp)), (mi), (mi), (by exact Mt_closed (V := _) (v := .fn (G x) (NC x) (CP x)) (hcl x) (fun _ _ _ => trivial) (by simp)), (mi), (by first | exact ⟨rfl, rfl, rfl, rfl⟩ | exact ⟨rfl, by omega, rfl, rfl⟩), (mi), (mi), (mi), (mi), trivial⟩
      · try simp only [hcs] at hc27
        have hin : n = i := by omega
        subst hin
        refine snd_exit ?_
        apply lr tokTB (by kernel_rfl)
        · intro RR hRR
          refine wm ?_
          refine wm ?_
          refine w_bsl1 und63 kn24 (by rw [sz24]; rfl) rfl (by constructor) (by first | exact trivial | exact cel_cap2) (by exact sz24.symm) (by first | exact trivial | exact ssh_vec | exact ⟨rfl, fun _ => trivial⟩) ?_
          refine w_app_o und63 rfl rfl kn24 rfl rfl (fun C h => ⟨rfl, rfl, rfl, h⟩) (by rw [by24]; omega) (by omega) rfl ?_
          refine wa ?_
          exact hRR
        apply lr tokTB (by kernel_rfl)
        · intro RR hRR
          refine y_add rfl rfl ?_
          refine wm ?_
          exact hRR
        refine ⟨k + 1, (ρP 905 1 43 909 (x * n + k)), ?_, (by omega), (by dsimp only; omega)⟩
        exact emb_fam (by decide) (by decide) (by decide) (by decide) rfl (fun j hj hne => appF_lt (by omega)) (fun h => (appF_ge (Nat.le_refl _) (by omega)).trans (by rw [Nat.sub_self]; rfl)) (fun h => ⟨_, rfl, fun V => mt_vec (fun j hj => (eqR_at (by omega)).symm)⟩) (fun r hr hne => famF_at (c := x * n + k) (w := fun _ => n) (F := eqR n Fv) (by omega)) ⟨(by first | exact ⟨rfl, rfl, rfl, rfl⟩ | exact ⟨rfl, by omega, rfl, rfl⟩), m_calg, (by exact Mt_closed (V := _) (v := .ro M (fun x => .fn (G x) (NC x) (CP x))) (fun x => hcl x) (fun _ _ _ => trivial) (by simp)), (mi), (mi), (by exact Mt_closed (V := _) (v := .fn (G x) (NC x) (CP x)) (hcl x) (fun _ _ _ => trivial) (by simp)), (mi), (mi), trivial⟩
    · try simp only [hcs] at hc21
      have hkn : n = k := by omega
      subst hkn
      refine snd_exit ?_
      apply lr tokTB (by kernel_rfl)
      · intro RR hRR
        refine y_add rfl rfl ?_
        refine wm ?_
        exact hRR
      refine ⟨x + 1, (ρP 905 1 905 912 ((x + 1) * n)), ?_, (by omega), (by dsimp only; omega)⟩
      exact emb_fam (by decide) (by decide) (by decide) (by decide) (by rw [hxn]; rfl) (fun j hj hne => rfl) (fun h => absurd h (by omega)) (fun h => absurd h (by omega)) (fun r hr hne => fam_beside [] (by decide) r (by omega)) ⟨(by exact ⟨rfl, hxn.symm, rfl, rfl⟩), m_calg, (by exact Mt_closed (V := _) (v := .ro M (fun x => .fn (G x) (NC x) (CP x))) (fun x => hcl x) (fun _ _ _ => trivial) (by simp)), (mi), (mi), trivial⟩
  · try simp only [hcs] at hc15
    have hxM : M = x := by omega
    subst hxM
    refine snd_exit ?_
    apply sr tokTB (by kernel_rfl)
    · intro RR hRR
      refine wm ?_
      refine wa ?_
      exact hRR
    refine snd_ret ?_
    show retQ TB _ _ _ _ _ _
    exact rt_fam (T := TB) (a := 905) rfl (by decide) rfl rfl (fun r hr => famF_at (c := M * n) (w := fun _ => n) (F := eqR n Fv) hr)
end Go.Am

