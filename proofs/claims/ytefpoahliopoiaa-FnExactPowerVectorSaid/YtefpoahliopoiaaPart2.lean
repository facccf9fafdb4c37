/- Part 2 of what the law stands on: abstract values, their walk, contracts of functions. My own work. Conditions: none. -/
import Derived.Test.YtefpoahliopoiaaPart1
import Derived.WalkKit
import Derived.ProofKit
import Derived.OpenShut
import Derived.ShutString
import Derived.ChangeOld
import Derived.Below
/- What comes in as data, read as abstract values. My own work. -/
set_option linter.unusedVariables false
set_option linter.unusedSimpArgs false
namespace Go.Am
def segF (f : Nat → Value) (o m : Nat) : List Value := (List.range m).map (fun j => f (o + j))
theorem seg_len (f : Nat → Value) (o m : Nat) : (segF f o m).length = m := by simp [segF]
theorem seg_add (f : Nat → Value) (o a b : Nat) : segF f o (a + b) = segF f o a ++ segF f (o + a) b := by
  refine List.ext_getElem? (fun i => ?_)
  simp only [segF, List.getElem?_append, List.length_map, List.length_range, List.getElem?_map, List.getElem?_range']
  by_cases h : i < a
  · simp [h, List.getElem?_range, show i < a + b by omega]
  · by_cases h2 : i < a + b
    · simp [h, List.getElem?_range, h2, show i - a < b by omega]; congr 1; omega
    · simp [h, List.getElem?_range, h2, show ¬ i - a < b by omega]
theorem seg_arr (f : Nat → Value) (o s : Nat) : ∀ n, segF f o (n * s) = flat (fun i => segF f (o + i * s) s) n
  | 0 => by simp [segF, flat]
  | n + 1 => by rw [Nat.add_mul, Nat.one_mul, seg_add, seg_arr f o s n]; rfl
theorem toList_seg (cs : Array Value) : cs.toList = segF (fun i => cs.getD i undef) 0 cs.size := by
  refine List.ext_getElem? (fun i => ?_)
  simp only [segF, List.getElem?_map, Array.getElem?_toList, Nat.zero_add]
  by_cases h : i < cs.size
  · simp [h, List.getElem?_range]
  · simp [h, List.getElem?_range]
theorem FL_int_seg {K : Kx} {f : Nat → Value} {o : Nat} {k : IntKind} {z : Int} (h : f o = .int k z) : FL K (.int k z) (segF f o 1) := by
  show segF f o 1 = [.int k z]
  simp [segF, List.range_succ, h]
theorem FL_arr_seg {K : Kx} {f : Nat → Value} {o n s : Nat} {F : Nat → AV} (h : ∀ i, i < n → FL K (F i) (segF f (o + i * s) s)) (hs : (F 0).size = s) : FL K (.arr n F) (segF f o (n * s)) := by
  rw [seg_arr]
  exact ⟨_, rfl, fun i hi => ⟨h i hi, by rw [seg_len, hs]⟩⟩
theorem FL_vec_seg {K : Kx} {f : Nat → Value} {o n : Nat} {k : IntKind} {z : Nat → Int} (h : ∀ i, i < n → f (o + i) = .int k (z i)) : FL K (.arr n (fun i => .int k (z i))) (segF f o n) := by
  have := FL_arr_seg (K := K) (f := f) (o := o) (n := n) (s := 1) (F := fun i => .int k (z i)) (fun i hi => by rw [Nat.mul_one]; exact FL_int_seg (h i hi)) rfl
  rwa [Nat.mul_one] at this

section
variable {P : Program} {w : World} {base : Nat} {t : TypeId} {v : Value}
/-- An array or a struct of whole numbers that came in: its cells. -/
theorem open_agg {N : Nat} {ts : List TypeId} {kd : Nat → IntKind} (hA : ∃ x, P.underlying t = some x ∧ ((∃ fs, x = .struct fs) ∨ ∃ n e, x = .array n e)) (hc : P.cellTypes P.depth t = some ts) (hn : P.cellsOf t = N) (hl : ts.length = N)
    (hk : ∀ i, i < N → ∀ u, ts[i]? = some u → P.underlying u = some (.int (kd i))) (h : Value.okWide P w .any base t v) :
    ∃ (cs : Array Value) (z : Nat → Int), v = .agg cs ∧ cs.size = N ∧ ∀ i, i < N → cs.getD i undef = .int (kd i) (z i) ∧ (kd i).has (z i) := by
  have h' : ∃ cs, v = .agg cs ∧ cs.size = P.cellsOf t ∧ Row.okWide P w .any base t cs := by
    obtain ⟨x, hx, hA⟩ := hA
    unfold Value.okWide at h
    rw [hx] at h
    rcases hA with ⟨fs, rfl⟩ | ⟨n, e, rfl⟩ <;> exact h
  obtain ⟨cs, rfl, hs, ts', h1, _, h3⟩ := h'
  rw [hc] at h1
  obtain rfl := Option.some.inj h1
  rw [hn] at hs
  refine ⟨cs, fun i => match cs.getD i undef with | .int _ m => m | _ => 0, rfl, hs, fun i hi => ?_⟩
  have hci : cs[i]? = some (cs.getD i undef) := by simp [hs, hi]
  obtain ⟨u, hu, hok⟩ := h3 i _ hci
  rw [hl, Nat.mod_eq_of_lt hi] at hu
  have hku := hk i hi u hu
  show cs.getD i undef = .int (kd i) (match cs.getD i undef with | .int _ m => m | _ => 0) ∧ (kd i).has (match cs.getD i undef with | .int _ m => m | _ => 0)
  generalize cs.getD i undef = c at hok ⊢
  unfold Cell.okWide at hok
  rw [hku] at hok
  unfold Cell.ok at hok
  rw [hku] at hok
  cases c <;> first | exact hok.elim | skip
  simp only at hok
  obtain ⟨rfl, hok⟩ := hok
  exact ⟨rfl, hok⟩
end
theorem has_u8 {n : Int} (h : IntKind.u8.has n) : 0 ≤ n ∧ n < 256 := by
  have h' : IntKind.u8.min ≤ n ∧ n ≤ IntKind.u8.max := h
  have e1 : IntKind.u8.min = 0 := rfl
  have e2 : IntKind.u8.max = 255 := rfl
  omega
/-- A vector that came in. -/
theorem vec_in {K : Kx} {cs : Array Value} {z : Nat → Int} {N : Nat} (hs : cs.size = N) (h : ∀ i, i < N → cs.getD i undef = .int .u8 (z i) ∧ IntKind.u8.has (z i)) : VR K (.arr N (fun i => .int .u8 (if i < N then z i else 0))) (.agg cs) := by
  refine ⟨cs, rfl, ?_⟩
  rw [toList_seg, hs]
  exact FL_vec_seg (fun i hi => by rw [Nat.zero_add, if_pos hi]; exact (h i hi).1)
theorem vec_RV {z : Nat → Int} (h : ∀ i, i < 6 → IntKind.u8.has (z i)) : RV (fun i => if i < 6 then z i else 0) :=
  ⟨fun i => by show 0 ≤ (if i < 6 then z i else 0) ∧ (if i < 6 then z i else 0) < 256; split; (exact has_u8 (h i (by assumption))); omega, fun i hi => if_neg (by omega)⟩
def kdA (i : Nat) : IntKind := if i < 2 then .i64 else .u8
def tbA (z : Nat → Int) (i j k : Nat) : Int := if i < 6 ∧ j < 6 ∧ k < 6 then z (2 + (i * 36 + (j * 6 + k))) else 0
def foA (z : Nat → Int) (k : Nat) : Int := if k < 6 then z (218 + k) else 0
theorem FL_tab_seg {K : Kx} {f : Nat → Value} {o : Nat} {T : Nat → Nat → Nat → Int} (h : ∀ i j k, i < 6 → j < 6 → k < 6 → f (o + (i * 36 + (j * 6 + k))) = .int .u8 (T i j k)) : FL K (tabA T) (segF f o 216) := by
  refine FL_arr_seg (n := 6) (s := 36) (fun i hi => ?_) rfl
  refine FL_arr_seg (n := 6) (s := 6) (fun j hj => ?_) rfl
  exact FL_vec_seg (fun k hk => by rw [show o + i * 36 + j * 6 + k = o + (i * 36 + (j * 6 + k)) by omega]; exact h i j k hi hj hk)
theorem alg_in {K : Kx} {cs : Array Value} {z : Nat → Int} (hs : cs.size = 224) (h : ∀ i, i < 224 → cs.getD i undef = .int (kdA i) (z i) ∧ (kdA i).has (z i)) : VR K (algA (z 0) (z 1) (tbA z) (foA z)) (.agg cs) := by
  refine ⟨cs, rfl, ?_⟩
  rw [toList_seg, hs]
  have h : ∀ i, i < 224 → (fun i => cs.getD i undef) i = .int (kdA i) (z i) ∧ (kdA i).has (z i) := h
  generalize (fun i => cs.getD i undef) = f at h ⊢
  refine ⟨fun i => match i with | 0 => segF f 0 1 | 1 => segF f 1 1 | 2 => segF f 2 216 | 3 => segF f 218 6 | _ => [], ?_, fun i hi => ?_⟩
  · show segF f 0 (((1 + 1) + 216) + 6) = _
    rw [seg_add, seg_add, seg_add]
    rfl
  · match i, hi with
    | 0, _ => exact FL_int_seg (h 0 (by omega)).1
    | 1, _ => exact FL_int_seg (h 1 (by omega)).1
    | 2, _ => exact FL_tab_seg (fun i j k hi hj hk => by
        rw [(h (2 + (i * 36 + (j * 6 + k))) (by omega)).1]
        unfold kdA tbA
        rw [if_neg (by omega), if_pos ⟨hi, hj, hk⟩])
    | 3, _ => exact FL_vec_seg (fun k hk => by
        rw [(h (218 + k) (by omega)).1]
        unfold kdA foA
        rw [if_neg (by omega), if_pos hk])
theorem alg_RB {z : Nat → Int} (h : ∀ i, i < 224 → (kdA i).has (z i)) : RB (tbA z) where
  b := fun i j k => by
    unfold tbA
    split
    · have := h (2 + (i * 36 + (j * 6 + k))) (by omega)
      unfold kdA at this
      rw [if_neg (by omega)] at this
      exact has_u8 this
    · omega
  z := fun i j k hz => by unfold tbA; rw [if_neg (by omega)]
theorem alg_RV {z : Nat → Int} (h : ∀ i, i < 224 → (kdA i).has (z i)) : RV (foA z) where
  b := fun k => by
    unfold foA
    split
    · have := h (218 + k) (by omega)
      unfold kdA at this
      rw [if_neg (by omega)] at this
      exact has_u8 this
    · omega
  z := fun k hz => by unfold foA; rw [if_neg (by omega)]
theorem kd_alg {P : Program} {a b : TypeId} (h1 : P.underlying a = some (.int .i64)) (h2 : P.underlying b = some (.int .u8)) (i : Nat) (hi : i < 224) (u : TypeId) (hu : (a :: a :: List.replicate 222 b)[i]? = some u) : P.underlying u = some (.int (kdA i)) := by
  match i, hi with
  | 0, _ => rw [← Option.some.inj (show some a = some u from hu)]; exact h1
  | 1, _ => rw [← Option.some.inj (show some a = some u from hu)]; exact h1
  | i + 2, hi =>
    rw [List.getElem?_cons_succ, List.getElem?_cons_succ, List.getElem?_replicate, if_pos (by omega)] at hu
    rw [← Option.some.inj hu]
    unfold kdA; rw [if_neg (by omega)]; exact h2
theorem kd_rep {P : Program} {b : TypeId} {k : IntKind} {N : Nat} (h2 : P.underlying b = some (.int k)) (i : Nat) (hi : i < N) (u : TypeId) (hu : (List.replicate N b)[i]? = some u) : P.underlying u = some (.int k) := by
  rw [List.getElem?_replicate, if_pos hi] at hu
  rw [← Option.some.inj hu]; exact h2
/-- What a law's contract gives the frame of its row. -/
theorem law_walk {P : Program} {T : TT} {f : FuncId} {ars : List AV} (h : ACalls P T f ars (.bool true) []) (w : World) (cs : List Value) (ha : VRs (K0 T (fun b => b < w.heap.size) w) ars cs) :
    Calls P f cs.toArray w fun e w' => e = .returned (.bool true) ∧ Go.RowKit.Below w.heap.size w w' := by
  refine (h.go w (fun b => b < w.heap.size) cs (fun b hb => hb) ha).mono ?_
  rintro e w' ⟨c, κ, rfl, hR, hv⟩
  rw [VR_bool hv]
  exact ⟨rfl, hR.os, hR.tape, hR.output, hR.size, fun b hb => hR.block b hb (fun h => h)⟩
end Go.Am
/- Plain functions: traces, powers, nilpotents, the table of the form. My own work. -/
set_option linter.unusedVariables false
set_option linter.unusedSimpArgs false
namespace Go.Am
section
variable {p : Int} {n : Nat} {T : Nat → Nat → Nat → Int}
theorem tF_bd (h : 2 ≤ p ∧ p ≤ 13) (u v : Nat → Int) (k : Nat) : 0 ≤ timesF p n T u v k ∧ timesF p n T u v k ≤ 12 := by
  have := timesF_Bp (p := p) (n := n) (T := T) (u := u) (v := v) (by omega) k
  omega
def trG (p : Int) (n : Nat) (T : Nat → Nat → Nat → Int) (v : Nat → Int) (j : Nat) : Int := timesF p n T v (eF j) j
def traceF (p : Int) (n : Nat) (T : Nat → Nat → Nat → Int) (v : Nat → Int) : Int := sumZ (trG p n T v) n % p
theorem tr_bd (h : 2 ≤ p ∧ p ≤ 13) (v : Nat → Int) {i : Nat} (hi : i ≤ 6) : 0 ≤ sumZ (trG p n T v) i ∧ sumZ (trG p n T v) i ≤ 6 * 12 := by
  have := sumZ_bd (f := trG p n T v) (M := 12) (fun j => tF_bd h _ _ _) i
  omega
/-- v, v^2, v^3, .. -/
def nilW (p : Int) (n : Nat) (T : Nat → Nat → Nat → Int) (v : Nat → Int) : Nat → Nat → Int
  | 0 => v
  | k + 1 => timesF p n T (nilW p n T v k) v
def nilB (p : Int) (n : Nat) (T : Nat → Nat → Nat → Int) (v : Nat → Int) (k : Nat) : Prop := eqN 6 (nilW p n T v k) (fun _ => 0)
noncomputable instance (p : Int) (n : Nat) (T : Nat → Nat → Nat → Int) (v : Nat → Int) (k : Nat) : Decidable (nilB p n T v k) := Classical.propDecidable _
noncomputable def nilI (p : Int) (n : Nat) (T : Nat → Nat → Nat → Int) (v : Nat → Int) : Int := idxF (fun k => decide (nilB p n T v k)) (n + 1) + 1
theorem nilW_Bp (h : 2 ≤ p) {v : Nat → Int} (hv : Bp p v) : ∀ k, Bp p (nilW p n T v k)
  | 0 => hv
  | k + 1 => timesF_Bp (by omega)
/-- u, u v, u v v, .. -/
def powV (p : Int) (n : Nat) (T : Nat → Nat → Nat → Int) (u v : Nat → Int) : Nat → Nat → Int
  | 0 => u
  | k + 1 => timesF p n T (powV p n T u v k) v
theorem powV_Bp (h : 2 ≤ p) {u v : Nat → Int} (hu : Bp p u) : ∀ k, Bp p (powV p n T u v k)
  | 0 => hu
  | k + 1 => timesF_Bp (by omega)
def formT (p : Int) (T : Nat → Nat → Nat → Int) (fo : Nat → Int) (i j : Nat) : Int := formF p fo (T i j)
theorem formT_Bp (h : 2 ≤ p) {fo : Nat → Int} (i : Nat) : Bp p (formT p T fo i) := fun j => formF_bd (by omega) _ _
/-- How many reduced rows the table of the form has. -/
def rankT (p : Int) (n : Nat) (T : Nat → Nat → Nat → Int) (fo : Nat → Int) : Nat := (redGo p n (formT p T fo) n).no
theorem VN.u_Bp {fo : Nat → Int} (h : VN p n T fo) : Bp p (uF p n T) := (uF_unit h.hp h.n0 h.hT h.u).2.2.1
theorem VN.u_V {fo : Nat → Int} (h : VN p n T fo) : VV p n (uF p n T) := ⟨(uF_unit h.hp h.n0 h.hT h.u).2.2.1, (uF_unit h.hp h.n0 h.hT h.u).2.2.2⟩
end
/-- A family of rows, handed to a callee. -/
theorem mt_fam0 {at_ : Nat → Nat → Option (AV × AV)} {ko kf N m e e2 : Nat} {w : Nat → Nat} {S F : Nat → Nat → Int} {sh : AV} (ha : at_ ko 0 = some (sh, CO kf N w e2)) (hf : ∀ r, r < N → at_ kf r = some (Z64 (w r), C64 (w r) (F r))) (hw : ∀ r, r < N → w r = m)
    (hS : ∀ r, r < N → ∀ j, j < m → F r j = S r j) : Mt V0 (rowsA N m S) (exp at_ 4 (.own ko 0 N e)) := by
  show Mt V0 _ (match at_ ko 0 with | some (_, .arr m f) => AV.ro m (fun j => exp at_ 3 (f j)) | _ => .any)
  rw [ha]
  refine ⟨rfl, fun r hr => ?_⟩
  show Mt V0 _ (match at_ kf r with | some (_, .arr m f) => AV.ro m (fun j => exp at_ 2 (f j)) | _ => .any)
  rw [hf r hr, hw r hr]
  exact ⟨rfl, fun j hj => congrArg (AV.int .i64) (hS r hr j hj)⟩
/-! ### Results seen another way -/
theorem ACalls.res {P : Program} {T : TT} {f : FuncId} {ars : List AV} {r r' : AV} {H H' : OL} {ρ : Nat → Nat → Nat × Nat} (h : ACalls P T f ars r H) (hm : Emb ρ [(0, r)] H [(0, r')] H') : ACalls P T f ars r' H' := by
  refine ⟨h.ent, fun w I cs hI ha => (h.go w I cs hI ha).mono ?_⟩
  rintro e w' ⟨c, κ, rfl, hR, hv⟩
  obtain ⟨κ2, hR2, hV⟩ := hm.rel hR
  exact ⟨c, κ2, rfl, hR2, MtE_VR hV hm.1.1 hv⟩
/-- Of rows the number alone. -/
theorem rows_len {P : Program} {T : TT} {f : FuncId} {ars : List AV} {no m e : Nat} {O : Nat → Nat → Int} (h : ACalls P T f ars (.own 0 0 no e) (HRR no m O)) : ACalls P T f ars (.own 0 0 no e) [(0, .one (ZR no) (.arr no (fun _ => .any)))] :=
  h.res (ρ := ρ0) ⟨⟨⟨rfl, rfl, rfl, rfl⟩, trivial⟩, ⟨⟨rfl, ⟨rfl, fun _ => trivial⟩, ⟨rfl, fun _ _ => rfl⟩⟩, trivial⟩, ⟨⟨fun _ => ⟨rfl, rfl⟩, trivial⟩, trivial⟩⟩
theorem rank_ech {p : Int} (hp : primeB p = true) {n : Nat} {T : Nat → Nat → Nat → Int} {fo : Nat → Int} : (echGo p n (formT p T fo) n).no = rankT p n T fo := by
  have := primeB_bd hp
  exact (ech_red hp (fun i _ => formT_Bp (by omega) i)).1
theorem w_mixc {F u : Nat → Int} (hu : B8 u) (i : Nat) : IntKind.i64.wrap (mixF F u i i) = u i := by rw [mixF_self]; exact w64b hu i
theorem add_tmod {p : Int} {u v : Nat → Int} {k : Int} (hu : B8 u) (hv : B8 v) (hk : 0 ≤ k) (i : Nat) : (u i + k * v i).tmod p = addF p u v k i :=
  tmod_nn (by have := hu i; have := Int.mul_nonneg hk (hv i).1; omega)
theorem w_addF {p : Int} (hp : 2 ≤ p ∧ p ≤ 13) (u v : Nat → Int) (k : Int) (i : Nat) : IntKind.u8.wrap (addF p u v k i) = addF p u v k i := by
  have := addF_Bp (p := p) (by omega) u v k i
  exact w8 this.1 (by omega)
theorem in_t {k a b : Int} (h : a ≤ k ∧ k ≤ b) : AV.bool (!(decide (a ≤ k) && decide (k ≤ b))) = .bool false := by rw [decide_eq_true h.1, decide_eq_true h.2]; rfl
theorem in_f {k a b : Int} (h : ¬ (a ≤ k ∧ k ≤ b)) : AV.bool (!(decide (a ≤ k) && decide (k ≤ b))) = .bool true := by
  refine congrArg AV.bool ?_
  rw [Bool.not_eq_true', Bool.and_eq_false_iff, decide_eq_false_iff_not, decide_eq_false_iff_not]
  omega
theorem not_t {p : Prop} [Decidable p] (h : p) : AV.bool (!(decide p)) = .bool false := by rw [decide_eq_true h]; rfl
theorem not_f {p : Prop} [Decidable p] (h : ¬ p) : AV.bool (!(decide p)) = .bool true := by rw [decide_eq_false h]; rfl
end Go.Am
/- The rules of the walk in short: what closes their small goals stands in them. My own work. -/
set_option linter.unusedVariables false
set_option linter.unusedSimpArgs false
namespace Go.Am
/-- Tests, as they are used. -/
theorem hcs : (∀ b : Bool, ((!b) = true) = (b = false)) ∧ (∀ b : Bool, ((!b) = false) = (b = true)) ∧ (∀ b : Bool, (¬ b = true) = (b = false)) ∧ (∀ b : Bool, (¬ b = false) = (b = true)) ∧
    (∀ (p : Prop) (_ : Decidable p), (decide p = true) = p) ∧ (∀ (p : Prop) (_ : Decidable p), (decide p = false) = ¬ p) ∧ (∀ a b : Int, (¬ a < b) = (b ≤ a)) ∧ (∀ a b : Int, (¬ a ≤ b) = (b < a)) ∧ (∀ p : Prop, (¬ ¬ p) = p) ∧ (∀ (a b : Int), (a ≠ b) = ¬ a = b) :=
  ⟨fun b => by cases b <;> simp, fun b => by cases b <;> simp, fun b => by cases b <;> simp, fun b => by cases b <;> simp, fun p _ => by simp, fun p _ => by simp, fun a b => by simp, fun a b => by simp, fun p => by simp, fun a b => rfl⟩
theorem els : (∀ b : Bool, (true || b) = true) ∧ (∀ b : Bool, (false || b) = b) ∧ (∀ b : Bool, (true && b) = b) ∧ (∀ b : Bool, (false && b) = false) ∧ (∀ b : Bool, (b || true) = true) ∧ (∀ b : Bool, (b || false) = b) :=
  ⟨fun _ => rfl, fun _ => rfl, fun _ => rfl, fun _ => rfl, fun b => by simp, fun b => by simp⟩
theorem ec {f : AV → AV} {a b : AV} {l bs : List AV} (ht : l.map f = bs) (h : f a = b := by first | exact rfl | exact exp_alg | exact exp_calg | exact ex_vl | exact exp_closed (by assumption)) : (a :: l).map f = b :: bs := exc h ht
section
variable {P : Program} {T : TT} {env : Env} {ol : OL}
variable {all : Array Oper} {r : List Oper} {R : Env → OL → Prop} {ty : TypeId} {pos : String} {af : Array Edge} {x y : Operand} {d : Nat} {t u : TypeId}
theorem y_call {f : Operand} {args : Array Operand} {aty : Array TypeId} {g n : Nat} {caps : Nat → AV} {ars : List AV} {v : AV} (hf : callee (evE env) f = .fn g n caps) (ha : (args.toList.map (evE env) ++ capL n caps).map (exp ol.at_ 4) = ars) (hc : ACalls P T g ars v [])
    (hr : WOps P T all r ((d, v) :: env) ol R)
    (hn : v.noref := by first | exact trivial | exact fun _ => trivial | exact fun _ _ => trivial | exact fun _ _ _ => trivial | exact nr_alg | exact nr_pair (by first | exact trivial | exact fun _ => trivial | exact nr_alg) (by first | exact trivial | exact fun _ => trivial))
    (hs : ∀ b, shift b v = v := by exact fun _ => by first | exact rfl | exact shift_alg | exact shift_pair rfl rfl | exact shift_pair shift_alg rfl) :
    WOps P T all (⟨some d, .call { callee := .value f, args := args, argTypes := aty }, ty, pos, af, none⟩ :: r) env ol R := w_call0 hf ha hc hn hs hr
theorem y_add {k : IntKind} {a b c : Int} (hx : evE env x = .int k a) (hy : evE env y = .int k b) (hr : WOps P T all r ((d, .int k c) :: env) ol R) (hc : k.wrap (a + b) = c := by first | exact w64 (by omega) (by omega) | exact w64b (by assumption) _ | exact w64t (by assumption) _ _ _ | exact w8 (by omega) (by omega) | exact w8b (by assumption) _ | exact rfl) : WOps P T all (⟨some d, .binOp .add t x y u, ty, pos, af, none⟩ :: r) env ol R := w_add hx hy hc hr
theorem y_sub {k : IntKind} {a b c : Int} (hx : evE env x = .int k a) (hy : evE env y = .int k b) (hr : WOps P T all r ((d, .int k c) :: env) ol R) (hc : k.wrap (a - b) = c := by first | exact w64 (by omega) (by omega) | exact w64b (by assumption) _ | exact w64t (by assumption) _ _ _ | exact w8 (by omega) (by omega) | exact w8b (by assumption) _ | exact rfl) : WOps P T all (⟨some d, .binOp .sub t x y u, ty, pos, af, none⟩ :: r) env ol R := w_sub hx hy hc hr
theorem y_mul {k : IntKind} {a b c : Int} (hx : evE env x = .int k a) (hy : evE env y = .int k b) (hr : WOps P T all r ((d, .int k c) :: env) ol R) (hc : k.wrap (a * b) = c := by first | exact w64 (by omega) (by omega) | exact w64b (by assumption) _ | exact w64t (by assumption) _ _ _ | exact w8 (by omega) (by omega) | exact w8b (by assumption) _ | exact rfl) : WOps P T all (⟨some d, .binOp .mul t x y u, ty, pos, af, none⟩ :: r) env ol R := w_mul hx hy hc hr
theorem y_conv {k k0 k' : IntKind} {n c : Int} (hx : evE env x = .int k n) (ht : T.und t = .int k0) (hu : T.und u = .int k') (hr : WOps P T all r ((d, .int k' c) :: env) ol R) (hc : k'.wrap n = c := by first | exact w64 (by omega) (by omega) | exact w64b (by assumption) _ | exact w64t (by assumption) _ _ _ | exact w8 (by omega) (by omega) | exact w8b (by assumption) _ | exact rfl) : WOps P T all (⟨some d, .convert t u x, ty, pos, af, none⟩ :: r) env ol R := w_conv hx ht hu hc hr
end
end Go.Am
