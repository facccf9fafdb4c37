/- Part 3 of what the law stands on: abstract values, their walk, contracts of functions. My own work. Conditions: none. -/
import Derived.Test.YtefpoahliopoiaaPart2
/- Plain functions: traces, powers, nilpotents, the table of the form. My own work. -/
set_option linter.unusedVariables false
set_option linter.unusedSimpArgs false
namespace Go.Am
section
variable {p : Int} {n : Nat} {T : Nat → Nat → Nat → Int}
theorem tF_bd (h : 2 ≤ p ∧ p ≤ 13) (u v : Nat → Int) (k : Nat) : 0 ≤ timesF p n T u v k ∧ timesF p n T u v k ≤ 12 := by
  have := timesF_Bp (p := p) (n := n) (T := T) (u := u) (v := v) (by omega) k
  omega
def trG (p : Int) (n : Nat) (T : Nat → Nat → Nat → Int) (v : Nat → Int) (j : Nat) : Int := timesF p n T v (eF j) j
def traceF (p : Int) (n : Nat) (T : Nat → Nat → Nat → Int) (v : Nat → Int) : Int := sumZ (trG p n T v) n % p
theorem tr_bd (h : 2 ≤ p ∧ p ≤ 13) (v : Nat → Int) {i : Nat} (hi : i ≤ 6) : 0 ≤ sumZ (trG p n T v) i ∧ sumZ (trG p n T v) i ≤ 6 * 12 := by
  have := sumZ_bd (f := trG p n T v) (M := 12) (fun j => tF_bd h _ _ _) i
  omega
/-- v, v^2, v^3, .. -/
def nilW (p : Int) (n : Nat) (T : Nat → Nat → Nat → Int) (v : Nat → Int) : Nat → Nat → Int
  | 0 => v
  | k + 1 => timesF p n T (nilW p n T v k) v
def nilB (p : Int) (n : Nat) (T : Nat → Nat → Nat → Int) (v : Nat → Int) (k : Nat) : Prop := eqN 6 (nilW p n T v k) (fun _ => 0)
noncomputable instance (p : Int) (n : Nat) (T : Nat → Nat → Nat → Int) (v : Nat → Int) (k : Nat) : Decidable (nilB p n T v k) := Classical.propDecidable _
noncomputable def nilI (p : Int) (n : Nat) (T : Nat → Nat → Nat → Int) (v : Nat → Int) : Int := idxF (fun k => decide (nilB p n T v k)) (n + 1) + 1
theorem nilW_Bp (h : 2 ≤ p) {v : Nat → Int} (hv : Bp p v) : ∀ k, Bp p (nilW p n T v k)
  | 0 => hv
  | k + 1 => timesF_Bp (by omega)
/-- u, u v, u v v, .. -/
def powV (p : Int) (n : Nat) (T : Nat → Nat → Nat → Int) (u v : Nat → Int) : Nat → Nat → Int
  | 0 => u
  | k + 1 => timesF p n T (powV p n T u v k) v
theorem powV_Bp (h : 2 ≤ p) {u v : Nat → Int} (hu : Bp p u) : ∀ k, Bp p (powV p n T u v k)
  | 0 => hu
  | k + 1 => timesF_Bp (by omega)
def formT (p : Int) (T : Nat → Nat → Nat → Int) (fo : Nat → Int) (i j : Nat) : Int := formF p fo (T i j)
theorem formT_Bp (h : 2 ≤ p) {fo : Nat → Int} (i : Nat) : Bp p (formT p T fo i) := fun j => formF_bd (by omega) _ _
/-- How many reduced rows the table of the form has. -/
def rankT (p : Int) (n : Nat) (T : Nat → Nat → Nat → Int) (fo : Nat → Int) : Nat := (redGo p n (formT p T fo) n).no
theorem VN.u_Bp {fo : Nat → Int} (h : VN p n T fo) : Bp p (uF p n T) := (uF_unit h.hp h.n0 h.hT h.u).2.2.1
theorem VN.u_V {fo : Nat → Int} (h : VN p n T fo) : VV p n (uF p n T) := ⟨(uF_unit h.hp h.n0 h.hT h.u).2.2.1, (uF_unit h.hp h.n0 h.hT h.u).2.2.2⟩
end
/-- A family of rows, handed to a callee. -/
theorem mt_fam0 {at_ : Nat → Nat → Option (AV × AV)} {ko kf N m e e2 : Nat} {w : Nat → Nat} {S F : Nat → Nat → Int} {sh : AV} (ha : at_ ko 0 = some (sh, CO kf N w e2)) (hf : ∀ r, r < N → at_ kf r = some (Z64 (w r), C64 (w r) (F r))) (hw : ∀ r, r < N → w r = m)
    (hS : ∀ r, r < N → ∀ j, j < m → F r j = S r j) : Mt V0 (rowsA N m S) (exp at_ 4 (.own ko 0 N e)) := by
  show Mt V0 _ (match at_ ko 0 with | some (_, .arr m f) => AV.ro m (fun j => exp at_ 3 (f j)) | _ => .any)
  rw [ha]
  refine ⟨rfl, fun r hr => ?_⟩
  show Mt V0 _ (match at_ kf r with | some (_, .arr m f) => AV.ro m (fun j => exp at_ 2 (f j)) | _ => .any)
  rw [hf r hr, hw r hr]
  exact ⟨rfl, fun j hj => congrArg (AV.int .i64) (hS r hr j hj)⟩
/-! ### Results seen another way -/
theorem ACalls.res {P : Program} {T : TT} {f : FuncId} {ars : List AV} {r r' : AV} {H H' : OL} {ρ : Nat → Nat → Nat × Nat} (h : ACalls P T f ars r H) (hm : Emb ρ [(0, r)] H [(0, r')] H') : ACalls P T f ars r' H' := by
  refine ⟨h.ent, fun w I cs hI ha => (h.go w I cs hI ha).mono ?_⟩
  rintro e w' ⟨c, κ, rfl, hR, hv⟩
  obtain ⟨κ2, hR2, hV⟩ := hm.rel hR
  exact ⟨c, κ2, rfl, hR2, MtE_VR hV hm.1.1 hv⟩
/-- Of rows the number alone. -/
theorem rows_len {P : Program} {T : TT} {f : FuncId} {ars : List AV} {no m e : Nat} {O : Nat → Nat → Int} (h : ACalls P T f ars (.own 0 0 no e) (HRR no m O)) : ACalls P T f ars (.own 0 0 no e) [(0, .one (ZR no) (.arr no (fun _ => .any)))] :=
  h.res (ρ := ρ0) ⟨⟨⟨rfl, rfl, rfl, rfl⟩, trivial⟩, ⟨⟨rfl, ⟨rfl, fun _ => trivial⟩, ⟨rfl, fun _ _ => rfl⟩⟩, trivial⟩, ⟨⟨fun _ => ⟨rfl, rfl⟩, trivial⟩, trivial⟩⟩
theorem rank_ech {p : Int} (hp : primeB p = true) {n : Nat} {T : Nat → Nat → Nat → Int} {fo : Nat → Int} : (echGo p n (formT p T fo) n).no = rankT p n T fo := by
  have := primeB_bd hp
  exact (ech_red hp (fun i _ => formT_Bp (by omega) i)).1
theorem w_mixc {F u : Nat → Int} (hu : B8 u) (i : Nat) : IntKind.i64.wrap (mixF F u i i) = u i := by rw [mixF_self]; exact w64b hu i
theorem add_tmod {p : Int} {u v : Nat → Int} {k : Int} (hu : B8 u) (hv : B8 v) (hk : 0 ≤ k) (i : Nat) : (u i + k * v i).tmod p = addF p u v k i :=
  tmod_nn (by have := hu i; have := Int.mul_nonneg hk (hv i).1; omega)
theorem w_addF {p : Int} (hp : 2 ≤ p ∧ p ≤ 13) (u v : Nat → Int) (k : Int) (i : Nat) : IntKind.u8.wrap (addF p u v k i) = addF p u v k i := by
  have := addF_Bp (p := p) (by omega) u v k i
  exact w8 this.1 (by omega)
theorem in_t {k a b : Int} (h : a ≤ k ∧ k ≤ b) : AV.bool (!(decide (a ≤ k) && decide (k ≤ b))) = .bool false := by rw [decide_eq_true h.1, decide_eq_true h.2]; rfl
theorem in_f {k a b : Int} (h : ¬ (a ≤ k ∧ k ≤ b)) : AV.bool (!(decide (a ≤ k) && decide (k ≤ b))) = .bool true := by
  refine congrArg AV.bool ?_
  rw [Bool.not_eq_true', Bool.and_eq_false_iff, decide_eq_false_iff_not, decide_eq_false_iff_not]
  omega
theorem not_t {p : Prop} [Decidable p] (h : p) : AV.bool (!(decide p)) = .bool false := by rw [decide_eq_true h]; rfl
theorem not_f {p : Prop} [Decidable p] (h : ¬ p) : AV.bool (!(decide p)) = .bool true := by rw [decide_eq_false h]; rfl
end Go.Am
/- The rules of the walk in short: what closes their small goals stands in them. My own work. -/
set_option linter.unusedVariables false
set_option linter.unusedSimpArgs false
namespace Go.Am
/-- Tests, as they are used. -/
theorem hcs : (∀ b : Bool, ((!b) = true) = (b = false)) ∧ (∀ b : Bool, ((!b) = false) = (b = true)) ∧ (∀ b : Bool, (¬ b = true) = (b = false)) ∧ (∀ b : Bool, (¬ b = false) = (b = true)) ∧
    (∀ (p : Prop) (_ : Decidable p), (decide p = true) = p) ∧ (∀ (p : Prop) (_ : Decidable p), (decide p = false) = ¬ p) ∧ (∀ a b : Int, (¬ a < b) = (b ≤ a)) ∧ (∀ a b : Int, (¬ a ≤ b) = (b < a)) ∧ (∀ p : Prop, (¬ ¬ p) = p) ∧ (∀ (a b : Int), (a ≠ b) = ¬ a = b) :=
  ⟨fun b => by cases b <;> simp, fun b => by cases b <;> simp, fun b => by cases b <;> simp, fun b => by cases b <;> simp, fun p _ => by simp, fun p _ => by simp, fun a b => by simp, fun a b => by simp, fun p => by simp, fun a b => rfl⟩
theorem els : (∀ b : Bool, (true || b) = true) ∧ (∀ b : Bool, (false || b) = b) ∧ (∀ b : Bool, (true && b) = b) ∧ (∀ b : Bool, (false && b) = false) ∧ (∀ b : Bool, (b || true) = true) ∧ (∀ b : Bool, (b || false) = b) :=
  ⟨fun _ => rfl, fun _ => rfl, fun _ => rfl, fun _ => rfl, fun b => by simp, fun b => by simp⟩
theorem ec {f : AV → AV} {a b : AV} {l bs : List AV} (ht : l.map f = bs) (h : f a = b := by first | exact rfl | exact exp_alg | exact exp_calg | exact ex_vl | exact exp_closed (by assumption)) : (a :: l).map f = b :: bs := exc h ht
section
variable {P : Program} {T : TT} {env : Env} {ol : OL}
variable {all : Array Oper} {r : List Oper} {R : Env → OL → Prop} {ty : TypeId} {pos : String} {af : Array Edge} {x y : Operand} {d : Nat} {t u : TypeId}
theorem y_call {f : Operand} {args : Array Operand} {aty : Array TypeId} {g n : Nat} {caps : Nat → AV} {ars : List AV} {v : AV} (hf : callee (evE env) f = .fn g n caps) (ha : (args.toList.map (evE env) ++ capL n caps).map (exp ol.at_ 4) = ars) (hc : ACalls P T g ars v [])
    (hr : WOps P T all r ((d, v) :: env) ol R)
    (hn : v.noref := by first | exact trivial | exact fun _ => trivial | exact fun _ _ => trivial | exact fun _ _ _ => trivial | exact nr_alg | exact nr_pair (by first | exact trivial | exact fun _ => trivial | exact nr_alg) (by first | exact trivial | exact fun _ => trivial))
    (hs : ∀ b, shift b v = v := by exact fun _ => by first | exact rfl | exact shift_alg | exact shift_pair rfl rfl | exact shift_pair shift_alg rfl) :
    WOps P T all (⟨some d, .call { callee := .value f, args := args, argTypes := aty }, ty, pos, af, none⟩ :: r) env ol R := w_call0 hf ha hc hn hs hr
theorem y_add {k : IntKind} {a b c : Int} (hx : evE env x = .int k a) (hy : evE env y = .int k b) (hr : WOps P T all r ((d, .int k c) :: env) ol R) (hc : k.wrap (a + b) = c := by first | exact w64 (by omega) (by omega) | exact w64b (by assumption) _ | exact w64t (by assumption) _ _ _ | exact w8 (by omega) (by omega) | exact w8b (by assumption) _ | exact rfl) : WOps P T all (⟨some d, .binOp .add t x y u, ty, pos, af, none⟩ :: r) env ol R := w_add hx hy hc hr
theorem y_sub {k : IntKind} {a b c : Int} (hx : evE env x = .int k a) (hy : evE env y = .int k b) (hr : WOps P T all r ((d, .int k c) :: env) ol R) (hc : k.wrap (a - b) = c := by first | exact w64 (by omega) (by omega) | exact w64b (by assumption) _ | exact w64t (by assumption) _ _ _ | exact w8 (by omega) (by omega) | exact w8b (by assumption) _ | exact rfl) : WOps P T all (⟨some d, .binOp .sub t x y u, ty, pos, af, none⟩ :: r) env ol R := w_sub hx hy hc hr
theorem y_mul {k : IntKind} {a b c : Int} (hx : evE env x = .int k a) (hy : evE env y = .int k b) (hr : WOps P T all r ((d, .int k c) :: env) ol R) (hc : k.wrap (a * b) = c := by first | exact w64 (by omega) (by omega) | exact w64b (by assumption) _ | exact w64t (by assumption) _ _ _ | exact w8 (by omega) (by omega) | exact w8b (by assumption) _ | exact rfl) : WOps P T all (⟨some d, .binOp .mul t x y u, ty, pos, af, none⟩ :: r) env ol R := w_mul hx hy hc hr
theorem y_conv {k k0 k' : IntKind} {n c : Int} (hx : evE env x = .int k n) (ht : T.und t = .int k0) (hu : T.und u = .int k') (hr : WOps P T all r ((d, .int k' c) :: env) ol R) (hc : k'.wrap n = c := by first | exact w64 (by omega) (by omega) | exact w64b (by assumption) _ | exact w64t (by assumption) _ _ _ | exact w8 (by omega) (by omega) | exact w8b (by assumption) _ | exact rfl) : WOps P T all (⟨some d, .convert t u x, ty, pos, af, none⟩ :: r) env ol R := w_conv hx ht hu hc hr
end
end Go.Am
/- Texts, slices of what is read: rules of the walk. My own work. -/
set_option linter.unusedVariables false
set_option linter.unusedSimpArgs false
namespace Go.Am
section
variable {P : Program} {T : TT} {env : Env} {ol : OL}
variable {all : Array Oper} {r : List Oper} {R : Env → OL → Prop} {ty : TypeId} {pos : String} {af : Array Edge} {x y : Operand} {d : Nat} {t u : TypeId}
theorem w_seql {a b : ByteArray} (hx : evE env x = .strg a) (hy : evE env y = .strg b) (ht : T.und t = .str) (hr : WOps P T all r ((d, .bool (decide (a.toList = b.toList))) :: env) ol R) : WOps P T all (⟨some d, .binOp .eql t x y u, ty, pos, af, none⟩ :: r) env ol R := by
  simp only [WOps, WOp, PW, putE]
  rw [hx, hy]; simp only [BW, ht]
  exact CmpW_dec hr
theorem w_sneq {a b : ByteArray} (hx : evE env x = .strg a) (hy : evE env y = .strg b) (ht : T.und t = .str) (hr : WOps P T all r ((d, .bool (decide (a.toList ≠ b.toList))) :: env) ol R) : WOps P T all (⟨some d, .binOp .neq t x y u, ty, pos, af, none⟩ :: r) env ol R := by
  simp only [WOps, WOp, PW, putE]
  rw [hx, hy]; simp only [BW, ht]
  exact CmpW_dec hr
theorem w_cstr {n e : Nat} {f : Nat → Int} (hx : evE env x = .ro n (fun i => .int .u8 (f i))) (ht : T.und t = .slc e) (he : T.und e = .int .u8) (hu : T.und u = .str) (hb : B8 f) (hr : WOps P T all r ((d, .strg (bytesF n f)) :: env) ol R) : WOps P T all (⟨some d, .convert t u x, ty, pos, af, none⟩ :: r) env ol R := by
  simp only [WOps, WOp, PW, putE]
  rw [hx]; simp only [ConvW, ht, hu, he]
  exact ⟨fun i _ => ⟨rfl, hb i⟩, hr⟩
theorem w_sl_ah {n e m : Nat} {g : Nat → AV} {k : IntKind} (hx : evE env x = .cptr (.arr n g)) (hy : evE env y = .int k (m : Int)) (ht : T.und t = .arr n e) (hk : (T.und e).known = true) (hz : (g 0).size = T.sz e) (hm : n ≤ maxLen) (hb : m ≤ n) (hr : WOps P T all r ((d, .ro m g) :: env) ol R) : WOps P T all (⟨some d, .slice t x none (some y) none, ty, pos, af, none⟩ :: r) env ol R := by
  simp only [WOps, WOp, PW, putE]
  rw [hx]; simp only [SliceW, ht, Option.map_some, Option.map_none, hy, bdW]
  refine ⟨trivial, hk, hz, hm, ⟨by omega, by omega, by omega, rfl⟩, ?_⟩
  have e1 : (m : Int).toNat - ((0 : Nat) : Int).toNat = m := by simp
  have e2 : (fun i => g (((0 : Nat) : Int).toNat + i)) = g := funext fun i => by simp
  rw [e1, e2]; exact hr
theorem w_sl_aa {n e : Nat} {g : Nat → AV} (hx : evE env x = .cptr (.arr n g)) (ht : T.und t = .arr n e) (hk : (T.und e).known = true) (hz : (g 0).size = T.sz e) (hm : n ≤ maxLen) (hr : WOps P T all r ((d, .ro n g) :: env) ol R) : WOps P T all (⟨some d, .slice t x none none none, ty, pos, af, none⟩ :: r) env ol R := by
  simp only [WOps, WOp, PW, putE]
  rw [hx]; simp only [SliceW, ht, Option.map_none, bdW]
  refine ⟨trivial, hk, hz, hm, ⟨by omega, by omega, by omega, rfl⟩, ?_⟩
  have e1 : (n : Int).toNat - ((0 : Nat) : Int).toNat = n := by simp
  have e2 : (fun i => g (((0 : Nat) : Int).toNat + i)) = g := funext fun i => by simp
  rw [e1, e2]; exact hr
theorem w_sl_rh {n e m : Nat} {g : Nat → AV} {k : IntKind} (hx : evE env x = .ro n g) (hy : evE env y = .int k (m : Int)) (ht : T.und t = .slc e) (hk : (T.und e).known = true) (hz : (g 0).size = T.sz e) (hb : m ≤ n) (hr : WOps P T all r ((d, .ro m g) :: env) ol R) : WOps P T all (⟨some d, .slice t x none (some y) none, ty, pos, af, none⟩ :: r) env ol R := by
  simp only [WOps, WOp, PW, putE]
  rw [hx]; simp only [SliceW, ht, Option.map_some, Option.map_none, hy, bdW]
  refine ⟨hk, hz, ⟨by omega, by omega, by omega, rfl⟩, ?_⟩
  have e1 : (m : Int).toNat - ((0 : Nat) : Int).toNat = m := by simp
  have e2 : (fun i => g (((0 : Nat) : Int).toNat + i)) = g := funext fun i => by simp
  rw [e1, e2]; exact hr
theorem w_sl_rl {n e m : Nat} {g : Nat → AV} {k : IntKind} (hx : evE env x = .ro n g) (hy : evE env y = .int k (m : Int)) (ht : T.und t = .slc e) (hk : (T.und e).known = true) (hz : (g 0).size = T.sz e) (hz2 : (g m).size = (g 0).size) (hb : m ≤ n) (hr : WOps P T all r ((d, .ro (n - m) (fun i => g (m + i))) :: env) ol R) : WOps P T all (⟨some d, .slice t x (some y) none none, ty, pos, af, none⟩ :: r) env ol R := by
  simp only [WOps, WOp, PW, putE]
  rw [hx]; simp only [SliceW, ht, Option.map_some, Option.map_none, hy, bdW]
  refine ⟨hk, hz, ⟨by omega, by omega, by omega, hz2⟩, ?_⟩
  have e1 : (n : Int).toNat - (m : Int).toNat = n - m := by simp
  have e2 : (fun i => g ((m : Int).toNat + i)) = fun i => g (m + i) := funext fun i => by simp
  rw [e1, e2]; exact hr
end
/-- A vector's letters. -/
def digF (x : Int) : Int := if x < 10 then 48 + x else 87 + x
theorem digF_tab : ∀ x : Nat, x < 13 → byteAt ⟨#[48, 49, 50, 51, 52, 53, 54, 55, 56, 57, 97, 98, 99]⟩ x = digF x := by decide
theorem digF_B8 {v : Nat → Int} (h : ∀ i, 0 ≤ v i ∧ v i < 13) : B8 (fun i => digF (v i)) := fun i => by
  have := h i
  show 0 ≤ digF (v i) ∧ digF (v i) < 256
  unfold digF; split <;> omega
/-- The text of a vector. -/
def txtF (n : Nat) (v : Nat → Int) : ByteArray := bytesF n (fun i => digF (v i))
theorem dig_lo {x : Int} (h : 0 ≤ x ∧ x < 10) : IntKind.u8.wrap (48 + x) = digF x := by
  unfold digF; rw [if_pos h.2]; exact w8 (by omega) (by omega)
theorem dig_hi {x : Int} (h : 10 ≤ x ∧ x < 13) : IntKind.u8.wrap (IntKind.u8.wrap (97 + x) - 10) = digF x := by
  have e : IntKind.u8.wrap (97 + x) = 97 + x := w8 (by omega) (by omega)
  rw [e]
  unfold digF; rw [if_neg (by omega)]
  have e2 : IntKind.u8.wrap (97 + x - 10) = 97 + x - 10 := w8 (by omega) (by omega)
  rw [e2]; omega
theorem dig_at {x : Int} (h : 0 ≤ x ∧ x < 13) : byteAt ⟨#[48, 49, 50, 51, 52, 53, 54, 55, 56, 57, 97, 98, 99]⟩ x.toNat = digF x := by
  rw [digF_tab x.toNat (by omega), Int.toNat_of_nonneg h.1]
theorem VV.v13 {p : Int} {n : Nat} {v : Nat → Int} (h : VV p n v) (hp : p ≤ 13) (i : Nat) : 0 ≤ v i ∧ v i < 13 := by have := h.b i; omega
end Go.Am
/- Calls that turn objects of the caller's own: names pinned to their blocks. My own work. -/
set_option linter.unusedVariables false
set_option linter.unusedSimpArgs false
namespace Go.Am
def allP (F : Nat → Prop) : List Nat → Prop
  | [] => True
  | k :: r => F k ∧ allP F r
theorem allP_mem {F : Nat → Prop} : ∀ {l : List Nat}, allP F l → ∀ k, k ∈ l → F k
  | a :: r, h, k, hk => by
    rcases List.mem_cons.1 hk with rfl | hk
    · exact h.1
    · exact allP_mem h.2 k hk

/-- The names are at their blocks; no block that was there has turned its size. -/
structure PinOk (ks : List Nat) (κ0 : Gh) (X : Cx) (κ : Gh) (ol : OL) (w : World) : Prop where
  has : ∀ k, k ∈ ks → ol.has k = true
  blk : ∀ k, k ∈ ks → ∀ i, κ.blk k i = κ0.blk k i ∧ κ.shp k i = κ0.shp k i
  size : ∀ (b : Nat) cur e fr, X.w0.heap[b]? = some (.cells cur e fr) → ∃ cur' fr', w.heap[b]? = some (.cells cur' e fr') ∧ cur'.size = cur.size
section
variable {ks : List Nat} {κ0 : Gh} {X : Cx}
theorem PinOk.le {κ κ' : Gh} {ol ol' : OL} {w w' : World} (h : PinOk ks κ0 X κ ol w) (hle : Le (KK X κ ol.ob w) (KK X κ' ol'.ob w')) : PinOk ks κ0 X κ' ol' w' where
  has := fun k hk => hle.dom k (h.has k hk)
  blk := fun k hk i => ⟨((hle.blk k i (h.has k hk)).1).trans (h.blk k hk i).1, ((hle.blk k i (h.has k hk)).2).trans (h.blk k hk i).2⟩
  size := fun b cur e fr hb => by
    obtain ⟨c1, f1, h1, e1⟩ := h.size b cur e fr hb
    obtain ⟨c2, f2, h2, e2⟩ := hle.size b c1 e f1 h1
    exact ⟨c2, f2, h2, e2.trans e1⟩
def pins (ks : List Nat) (ρ : Nat → Nat → Nat × Nat) (ol : OL) : Prop := allP (fun k => (∀ i, ρ k i = (k, i)) ∧ ol.has k = true) ks
theorem PinOk.emb {κ κ' : Gh} {ol ol' : OL} {w : World} {ρ : Nat → Nat → Nat × Nat} (h : PinOk ks κ0 X κ' ol' w) (hp : pins ks ρ ol) (hV : VwOk (vwOf ρ ol' ol) (KK X κ' ol'.ob w) (KK X κ ol.ob w)) : PinOk ks κ0 X κ ol w where
  has := fun k hk => (allP_mem hp k hk).2
  blk := fun k hk i => ⟨((hV.blk k i k i ((allP_mem hp k hk).1 i)).1).trans (h.blk k hk i).1, ((hV.blk k i k i ((allP_mem hp k hk).1 i)).2).trans (h.blk k hk i).2⟩
  size := h.size
end
def QQp (ks : List Nat) (κ0 : Gh) (X : Cx) (N : Nat) (Q : Exit → Env → OL → Prop) : Exit → Act → World → Prop := fun ex a w =>
  ∃ κ env ol, Q ex env ol ∧ Rel X κ ol.ob w ∧ EnvR (KK X κ ol.ob w) env a.tmps ∧ a.tmps.size = N ∧ a.defers = [] ∧ PinOk ks κ0 X κ ol w
section
variable {P : Program} {T : TT} {ks : List Nat}
theorem WOps_soundp (hT : TOk P T) (arr : Array Oper) {N : Nat} {κ0 : Gh} {Q : Exit → Env → OL → Prop} : ∀ (ops : List Oper) (env : Env) (ol : OL), WOps P T arr ops env ol (fun env' ol' => Q .normal env' ol') → dstOk N ops = true →
    ∀ (X : Cx) (κ : Gh) (a : Act) (w : World), X.P = P → X.T = T → Rel X κ ol.ob w → EnvR (KK X κ ol.ob w) env a.tmps → a.tmps.size = N → a.defers = [] → PinOk ks κ0 X κ ol w → wpList P arr (QQp ks κ0 X N Q) ops a w
  | [], env, ol, h, _, X, κ, a, w, hP, hTT, hR, hE, hN, hD, hp => ⟨κ, env, ol, h, hR, hE, hN, hD, hp⟩
  | o :: r, env, ol, h, hdst, X, κ, a, w, hP, hTT, hR, hE, hN, hD, hp => by
    simp only [dstOk, List.all_cons, Bool.and_eq_true] at hdst
    have hlt : ∀ t, o.dst = some t → t < a.tmps.size := fun t ht => by
      have := hdst.1
      rw [ht] at this
      rw [hN]; simpa [Nat.blt_eq] using this
    have run : WOp P T o (evE env) ol (fun v ol' => WOps P T arr r (putE o.dst v env) ol' (fun env' ol' => Q .normal env' ol')) → o.wp P a w (wpList P arr (QQp ks κ0 X N Q) r) (QQp ks κ0 X N Q) := by
      intro hw
      obtain ⟨v, ol', h1, h2⟩ := WOp_out hT hw
      have := h2 X κ w a hP hTT hR hE
      unfold Oper.wp
      rw [← hP]
      rw [← hP] at this
      refine upon_of_Out this (fun c w' κ' hR' hv hle => ?_)
      rw [hP]
      exact WOps_soundp hT arr r _ ol' h1 hdst.2 X κ' _ w' hP hTT hR' ((hE.mono hle).put hv hlt) (by rw [Act.put_size]; exact hN) (by rw [Act.put_defers]; exact hD) (hp.le hle)
    have skip : WOps P T arr r (putE o.dst undA env) ol (fun env' ol' => Q .normal env' ol') → wpList P arr (QQp ks κ0 X N Q) r (a.put o.dst undef) w := fun hw =>
      WOps_soundp hT arr r _ ol hw hdst.2 X κ _ w hP hTT hR (hE.put (undA_ok _) hlt) (by rw [Act.put_size]; exact hN) (by rw [Act.put_defers]; exact hD) hp
    unfold WOps at h
    unfold wpList
    split at h
    · rename_i hg
      rw [if_pos (by simp [Region.wanted, hg])]
      exact .inl (run h)
    · rename_i j want hg
      split at h
      · rename_i d hd
        split at h
        · rename_i b hb
          have hy := yielded_of hd hE hb (dst_lt_of_eq hE hb)
          split at h
          · rename_i hbw
            have : b = want := by simpa using hbw
            subst this
            rw [if_pos (by simp [Region.wanted, hg, hy])]
            exact .inl (run h)
          · rename_i hbw
            have : b ≠ want := by simpa using hbw
            rw [if_neg (by simp [Region.wanted, hg, hy, this])]
            exact skip h
        · rename_i f hb
          have hy := yielded_none hd hE hb
          rw [if_neg (by simp [Region.wanted, hg, hy])]
          exact skip h
        · exact h.elim
      · exact h.elim

/-- As Snd, the names ks staying where they are. -/
def Snp (ks : List Nat) (P : Program) (T : TT) (N : Nat) (c : Code) (env : Env) (ol : OL) (Q : Exit → Env → OL → Prop) : Prop :=
  ∀ (κ0 : Gh) (X : Cx) (κ : Gh) (a : Act) (w : World), X.P = P → X.T = T → Rel X κ ol.ob w → EnvR (KK X κ ol.ob w) env a.tmps → a.tmps.size = N → a.defers = [] → PinOk ks κ0 X κ ol w → c.wp P (QQp ks κ0 X N Q) a w
variable {N : Nat} {env : Env} {ol : OL} {Q : Exit → Env → OL → Prop}
theorem snp_skip (h : Q .normal env ol) : Snp ks P T N .skip env ol Q := fun κ0 X κ a w hP hTT hR hE hN hD hp => wp_skip ⟨κ, env, ol, h, hR, hE, hN, hD, hp⟩
theorem snp_exit {id : Nat} (h : Q (.exit id) env ol) : Snp ks P T N (.exit id) env ol Q := fun κ0 X κ a w hP hTT hR hE hN hD hp => wp_exit ⟨κ, env, ol, h, hR, hE, hN, hD, hp⟩
theorem snp_ret (h : Q .ret env ol) : Snp ks P T N .ret env ol Q := fun κ0 X κ a w hP hTT hR hE hN hD hp => wp_ret ⟨κ, env, ol, h, hR, hE, hN, hD, hp⟩
def thnp (ks : List Nat) (P : Program) (T : TT) (N : Nat) (y : Code) (Q : Exit → Env → OL → Prop) : Exit → Env → OL → Prop
  | .normal, env, ol => Snp ks P T N y env ol Q
  | e, env, ol => Q e env ol
theorem snp_seq {x y : Code} (h : Snp ks P T N x env ol (thnp ks P T N y Q)) : Snp ks P T N (.seq x y) env ol Q := by
  intro κ0 X κ a w hP hTT hR hE hN hD hp
  refine wp_seq (wp_mono (h κ0 X κ a w hP hTT hR hE hN hD hp) ?_)
  rintro ex a' w' ⟨κ', env', ol', hq, hR', hE', hN', hD', hp'⟩
  cases ex with
  | normal => exact hq κ0 X κ' a' w' hP hTT hR' hE' hN' hD' hp'
  | _ => exact ⟨κ', env', ol', hq, hR', hE', hN', hD', hp'⟩
theorem snp_region (hT : TOk P T) {id : Nat} {ops : Array Oper} (hd : dstOk N ops.toList = true) (h : WOps P T ops ops.toList env ol (fun env' ol' => Q .normal env' ol')) : Snp ks P T N (.region id ops false) env ol Q :=
  fun κ0 X κ a w hP hTT hR hE hN hD hp => wp_region_list (WOps_soundp hT ops ops.toList env ol h hd X κ a w hP hTT hR hE hN hD hp)
theorem snp_cond_true {c : Operand} {x y : Code} (hc : evE env c = .bool true) (h : Snp ks P T N x env ol Q) : Snp ks P T N (.cond c x y) env ol Q := by
  intro κ0 X κ a w hP hTT hR hE hN hD hp
  have := hE.ev c
  rw [hc] at this
  exact wp_cond_true (VR_bool this) (h κ0 X κ a w hP hTT hR hE hN hD hp)
theorem snp_cond_false {c : Operand} {x y : Code} (hc : evE env c = .bool false) (h : Snp ks P T N y env ol Q) : Snp ks P T N (.cond c x y) env ol Q := by
  intro κ0 X κ a w hP hTT hR hE hN hD hp
  have := hE.ev c
  rw [hc] at this
  exact wp_cond_false (VR_bool this) (h κ0 X κ a w hP hTT hR hE hN hD hp)
theorem snp_cond {c : Operand} {x y : Code} (b : Bool) (hc : evE env c = .bool b) (ht : b = true → Snp ks P T N x env ol Q) (hf : b = false → Snp ks P T N y env ol Q) : Snp ks P T N (.cond c x y) env ol Q := by
  cases b
  · exact snp_cond_false hc (hf rfl)
  · exact snp_cond_true hc (ht rfl)
theorem snp_block {id : Nat} {c : Code} (h : Snp ks P T N c env ol (inB id Q)) : Snp ks P T N (.block id c) env ol Q := by
  intro κ0 X κ a w hP hTT hR hE hN hD hp
  refine wp_block (wp_mono (h κ0 X κ a w hP hTT hR hE hN hD hp) ?_)
  rintro ex a' w' ⟨κ', env', ol', hq, hR', hE', hN', hD', hp'⟩
  cases ex with
  | exit id' =>
    simp only [Exit.inBlock]
    simp only [inB] at hq
    by_cases hid : id' = id
    · subst hid
      rw [if_pos rfl]
      simp only [Nat.beq_refl, cond_true] at hq
      exact ⟨κ', env', ol', hq, hR', hE', hN', hD', hp'⟩
    · rw [if_neg hid]
      simp only [beq_ff hid, cond_false] at hq
      exact ⟨κ', env', ol', hq, hR', hE', hN', hD', hp'⟩
  | _ => exact ⟨κ', env', ol', hq, hR', hE', hN', hD', hp'⟩
theorem snp_emb {ρ : Nat → Nat → Nat × Nat} {env2 : Env} {ol2 : OL} {c : Code} (h : Emb ρ env ol env2 ol2) (hpi : pins ks ρ ol2) (hs : Snp ks P T N c env2 ol2 Q) : Snp ks P T N c env ol Q := by
  intro κ0 X κ a w hP hTT hR hE hN hD hp
  obtain ⟨κ2, hR2, hV⟩ := h.rel hR
  exact hs κ0 X κ2 a w hP hTT hR2 (h.envR hV hE) hN hD (hp.emb hpi hV)
def rndp (ks : List Nat) {S : Type} (I : S → Env × OL) (Pr : S → Prop) (μ : S → Nat) (x : S) (Q : Exit → Env → OL → Prop) : Exit → Env → OL → Prop
  | .normal, env', ol' => ∃ x' ρ, (Emb ρ env' ol' (I x').1 (I x').2 ∧ pins ks ρ (I x').2) ∧ Pr x' ∧ μ x' < μ x
  | e, env', ol' => Q e env' ol'
theorem snp_loop {S : Type} {c : Code} (I : S → Env × OL) (Pr : S → Prop) (μ : S → Nat) (x0 : S) (ρ : Nat → Nat → Nat × Nat) (h0 : Emb ρ env ol (I x0).1 (I x0).2 ∧ pins ks ρ (I x0).2) (hp : Pr x0)
    (round : ∀ x, Pr x → Snp ks P T N c (I x).1 (I x).2 (rndp ks I Pr μ x Q)) : Snp ks P T N (.loop c) env ol Q := by
  refine snp_emb h0.1 h0.2 ?_
  intro κ0 X κ a w hP hTT hR hE hN hD hpin
  have key : ∀ n x, μ x = n → Pr x → ∀ (κ : Gh) (a : Act) (w : World), Rel X κ (I x).2.ob w → EnvR (KK X κ (I x).2.ob w) (I x).1 a.tmps → a.tmps.size = N → a.defers = [] → PinOk ks κ0 X κ (I x).2 w →
      ∀ (b : Frame) (k : List Item) (cs : List Frame), ∃ e a' w', QQp ks κ0 X N Q e a' w' ∧ Arrives P (lone (b.at a (.code c :: .inLoop c :: k)) cs w) b k cs e a' w' := by
    intro n
    induction n using Nat.strongRecOn with
    | _ n ih =>
      intro x hx hpx κ a w hR hE hN hD hpin b k cs
      obtain ⟨e, a1, w1, hq, harr⟩ := round x hpx κ0 X κ a w hP hTT hR hE hN hD hpin b (.inLoop c :: k) cs
      obtain ⟨κ', env', ol', hq, hR', hE', hN', hD', hpin'⟩ := hq
      cases e with
      | normal =>
        obtain ⟨x', ρ', ⟨hemb, hpi⟩, hpx', hlt⟩ := hq
        obtain ⟨κ2, hR2, hV⟩ := hemb.rel hR'
        obtain ⟨e2, a2, w2, hq2, harr2⟩ := ih (μ x') (hx ▸ hlt) x' rfl hpx' κ2 a1 w1 hR2 (hemb.envR hV hE') hN' hD' (hpin'.emb hpi hV) b k cs
        exact ⟨e2, a2, w2, hq2, .of_steps (Steps.trans harr (.one step_inLoop)) harr2⟩
      | exit id => exact ⟨_, a1, w1, ⟨κ', env', ol', hq, hR', hE', hN', hD', hpin'⟩, .pass (x := .inLoop c) rfl (fun _ _ => .inl (by simp)) harr⟩
      | goto l => exact ⟨_, a1, w1, ⟨κ', env', ol', hq, hR', hE', hN', hD', hpin'⟩, .pass (x := .inLoop c) rfl (fun _ _ => .inl (by simp)) harr⟩
      | ret => exact ⟨_, a1, w1, ⟨κ', env', ol', hq, hR', hE', hN', hD', hpin'⟩, .pass (x := .inLoop c) rfl (fun _ _ => .inl (by simp)) harr⟩
      | panic ch => exact ⟨_, a1, w1, ⟨κ', env', ol', hq, hR', hE', hN', hD', hpin'⟩, .pass (x := .inLoop c) rfl (fun _ _ => .inl (by simp)) harr⟩
      | outgrown => exact ⟨_, a1, w1, ⟨κ', env', ol', hq, hR', hE', hN', hD', hpin'⟩, .pass (x := .inLoop c) rfl (fun _ _ => .inl (by simp)) harr⟩
  intro b k cs
  obtain ⟨e, a', w', hq, harr⟩ := key _ x0 rfl hp κ a w hR hE hN hD hpin b k cs
  exact ⟨e, a', w', hq, .of_steps (.one step_loop) harr⟩
/-- A function that turns objects of its caller's: called with the objects ol0 it returns r and leaves them as ol1. -/
structure MCalls (P : Program) (T : TT) (f : FuncId) (ks : List Nat) (ars : List AV) (ol0 : OL) (r : AV) (ol1 : OL) : Prop where
  ent : Ent P f
  go : ∀ (X : Cx) (κ : Gh) (w : World) (cs : List Value), X.P = P → X.T = T → X.w0 = w → Rel X κ ol0.ob w → VRs (KK X κ ol0.ob w) ars cs →
    Calls P f cs.toArray w (fun e w' => ∃ c κ', e = .returned c ∧ Rel X κ' ol1.ob w' ∧ VR (KK X κ' ol1.ob w') r c ∧ PinOk ks κ X κ' ol1 w')
def retQp (ks : List Nat) (T : TT) (rs : List ResultVar) (r : AV) (H : OL) : Exit → Env → OL → Prop
  | .normal, env, ol => RetW T rs env ol (fun v => ∃ ρ, Emb ρ [(0, v)] ol [(0, r)] H ∧ pins ks ρ H)
  | .ret, env, ol => RetW T rs env ol (fun v => ∃ ρ, Emb ρ [(0, v)] ol [(0, r)] H ∧ pins ks ρ H)
  | _, _, _ => False
theorem mcalls_of (hT : TOk P T) {f : FuncId} {fn : Func} {c : Code} {ars : List AV} {r : AV} {ol0 H : OL} (hf : P.funcs[f]? = some fn) (hb : fn.body = some c) (hname : (fn.name == "runtime.NumGoroutine") = false)
    (hN : ars.length ≤ fn.ntmps) (hk : allP (fun k => ol0.has k = true) ks) (h : Snp ks P T fn.ntmps c (argsEnv 0 ars) ol0 (retQp ks T fn.results.toList r H)) : MCalls P T f ks ars ol0 r H := by
  refine ⟨fun args w => ?_, fun X κ w cs hP hTT hw0 hR hvs => ?_⟩
  · have hn2 : ¬ fn.name = "runtime.NumGoroutine" := by simpa using hname
    simp [callFunc, hf, hn2, hb]
  · have hlen : ∀ (ars : List AV) (cs : List Value) (K : Kx), VRs K ars cs → cs.length = ars.length := by
      intro ars
      induction ars with
      | nil => intro cs K h; cases cs with
        | nil => rfl
        | cons => exact h.elim
      | cons a ars ih => intro cs K h; cases cs with
        | nil => exact h.elim
        | cons c cs => simp [ih cs K h.2]
    have hl := hlen ars cs _ hvs
    refine calls_of_wp hf hb ?_
    have hp0 : PinOk ks κ X κ ol0 w := ⟨fun k hk' => allP_mem hk k hk', fun _ _ _ => ⟨rfl, rfl⟩, fun b cur e fr hb => ⟨cur, fr, by rw [← hw0]; exact hb, rfl⟩⟩
    refine wp_mono (h κ X κ _ w hP hTT hR (fun t => ?_) ?_ rfl hp0) ?_
    · have := argsEnv_ok ars cs 0 t hvs
      rw [if_pos (Nat.zero_le _), Nat.sub_zero] at this
      have e : (cs.toArray ++ Array.replicate (fn.ntmps - cs.toArray.size) undef).getD t undef = cs.getD t undef := by
        simp only [Array.getD_eq_getD_getElem?, List.getD_eq_getElem?_getD]
        rw [Array.getElem?_append]
        split
        · simp
        · rename_i hge
          rw [List.getElem?_eq_none (by simpa using hge)]
          rw [Array.getElem?_replicate]
          split <;> rfl
      rw [e]
      exact this
    · simp only [Array.size_append, List.size_toArray, Array.size_replicate]
      omega
    · rintro ex a' w' ⟨κ', env', ol', hq, hR', hE', hN', hD', hp'⟩
      have fin : RetW T fn.results.toList env' ol' (fun v => ∃ ρ, Emb ρ [(0, v)] ol' [(0, r)] H ∧ pins ks ρ H) → a'.defers = [] ∧ ∃ v, (results fn a'.tmps).run P w' = .ok v w' ∧ (∃ c κ', Ending.returned v = .returned c ∧ Rel X κ' H.ob w' ∧ VR (KK X κ' H.ob w') r c ∧ PinOk ks κ X κ' H w') := by
        intro hret
        obtain ⟨v, ⟨ρ, hemb, hpi⟩, hrun⟩ := RetW_run hT hret
        obtain ⟨c, h1, h2⟩ := hrun _ κ' w' a'.tmps hP hTT hR' hE'
        obtain ⟨κ2, hR2, hV⟩ := hemb.rel hR'
        refine ⟨hD', c, h1, c, κ2, rfl, hR2, ?_, hp'.emb hpi hV⟩
        exact MtE_VR hV hemb.1.1 h2
      cases ex with
      | normal => exact fin hq
      | ret => exact fin hq
      | _ => exact hq.elim
end
end Go.Am
/- The caller's side of a call that turns objects of his. My own work. -/
set_option linter.unusedVariables false
set_option linter.unusedSimpArgs false
namespace Go.Am
/-- Names only objects of D. -/
def AV.inner (D : Nat → Bool) : AV → Prop
  | .arr _ f => ∀ i, (f i).inner D
  | .sct _ f => ∀ i, (f i).inner D
  | .tup _ f => ∀ i, (f i).inner D
  | .own k _ _ _ => D k = true
  | .cptr _ => False
  | .ro _ _ => False
  | .ptr _ _ _ _ _ => False
  | .fn _ n _ => n = 0
  | _ => True
def innerH (D : Nat → Bool) : OL → Prop
  | [] => True
  | (_, .one _ c) :: r => c.inner D ∧ innerH D r
  | (_, .gone) :: r => innerH D r
  | (_, .many f) :: r => (∀ i sh c, f i = some (sh, c) → c.inner D) ∧ innerH D r
theorem innerH_at {D : Nat → Bool} {H : OL} (h : innerH D H) {k i : Nat} {sh c : AV} (hk : H.at_ k i = some (sh, c)) : c.inner D := by
  induction H with
  | nil => cases hk
  | cons p r ih =>
    obtain ⟨k', G⟩ := p
    simp only [OL.at_] at hk
    cases G with
    | one s1 c1 =>
      cases hb : Nat.beq k k'
      · rw [hb] at hk; exact ih h.2 hk
      · rw [hb] at hk
        simp only [cond_true, Fam.at_] at hk
        cases hi : Nat.beq i 0
        · rw [hi] at hk; cases hk
        · rw [hi] at hk
          simp only [cond_true, Option.some.injEq, Prod.mk.injEq] at hk
          rw [← hk.2]; exact h.1
    | gone =>
      cases hb : Nat.beq k k'
      · rw [hb] at hk; exact ih h hk
      · rw [hb] at hk; cases hk
    | many f =>
      cases hb : Nat.beq k k'
      · rw [hb] at hk; exact ih h.2 hk
      · rw [hb] at hk
        exact h.1 i sh c hk
/-- Two pictures of one memory in which the names of D stand alike. -/
structure SameD (D : Nat → Bool) (K K' : Kx) : Prop where
  heap : K'.heap = K.heap
  dom : ∀ k, D k = true → K'.dom k
  blk : ∀ k, D k = true → ∀ i, K'.blk k i = K.blk k i ∧ K'.shp k i = K.shp k i
  sz : K'.sz = K.sz
  zr : K'.zr = K.zr
theorem ownR_same {D : Nat → Bool} {K K' : Kx} (h : SameD D K K') {k i n : Nat} {e : TypeId} {c : Value} (hk : D k = true) (ho : K.ownR k i n e c) : K'.ownR k i n e c := by
  obtain ⟨_, hn, cap, cur, fr, rfl, h1, h2, h3, h4⟩ := ho
  obtain ⟨b1, b2⟩ := h.blk k hk i
  exact ⟨h.dom k hk, by rw [b2, h.zr]; exact hn, cap, cur, fr, by rw [b1], h1, h2, by rw [b1, h.heap]; exact h3, by rw [h.sz]; exact h4⟩
theorem FL_inner {D : Nat → Bool} {K K' : Kx} (h : SameD D K K') : ∀ {v : AV} {cs : List Value}, v.inner D → FL K v cs → FL K' v cs := by
  intro v
  induction v with
  | arr n f ih =>
    rintro cs hv ⟨g, rfl, hg⟩
    exact ⟨g, rfl, fun i hi => ⟨ih i (hv i) (hg i hi).1, (hg i hi).2⟩⟩
  | sct n f ih =>
    rintro cs hv ⟨g, rfl, hg⟩
    exact ⟨g, rfl, fun i hi => ih i (hv i) (hg i hi)⟩
  | own k i n e => rintro cs hv ⟨c, rfl, hc⟩; exact ⟨c, rfl, ownR_same h hv hc⟩
  | cptr v ih => intro cs hv; exact hv.elim
  | ro n f ih => intro cs hv; exact hv.elim
  | fn q n caps ih =>
    rintro cs hv ⟨cv, rfl, h1, h2⟩
    have hn : n = 0 := hv
    subst hn
    exact ⟨cv, rfl, h1, fun i hi => absurd hi (Nat.not_lt_zero _)⟩
  | tup n f _ => intro cs _ h; exact h.elim
  | ptr k i p o r _ => intro cs _ h; exact h.elim
  | _ => intro cs _ h; exact h
theorem VR_inner {D : Nat → Bool} {K K' : Kx} (h : SameD D K K') : ∀ {v : AV} {c : Value}, v.inner D → VR K v c → VR K' v c := by
  intro v
  induction v with
  | arr n f ih => rintro c hv ⟨cs, rfl, hc⟩; exact ⟨cs, rfl, FL_inner (v := .arr n f) h hv hc⟩
  | sct n f ih => rintro c hv ⟨cs, rfl, hc⟩; exact ⟨cs, rfl, FL_inner (v := .sct n f) h hv hc⟩
  | tup n f ih => rintro c hv ⟨vs, rfl, h1, h2⟩; exact ⟨vs, rfl, h1, fun i hi => ih i (hv i) (h2 i hi)⟩
  | fn q n caps ih =>
    rintro c hv ⟨cv, rfl, h1, h2⟩
    have hn : n = 0 := hv
    subst hn
    exact ⟨cv, rfl, h1, fun i hi => absurd hi (Nat.not_lt_zero _)⟩
  | ptr => intro c hv; exact hv.elim
  | cptr => intro c hv; exact hv.elim
  | ro => intro c hv; exact hv.elim
  | any => intro c _ _; trivial
  | own k i n e => intro c hv hc; exact FL_inner (v := .own k i n e) h hv hc
  | _ => intro c _ hc; exact hc
def innerL (D : Nat → Bool) : List AV → Prop
  | [] => True
  | a :: r => a.inner D ∧ innerL D r
theorem VRs_inner {D : Nat → Bool} {K K' : Kx} (h : SameD D K K') : ∀ {ars : List AV} {cs : List Value}, innerL D ars → VRs K ars cs → VRs K' ars cs
  | [], [], _, _ => trivial
  | [], _ :: _, _, h2 => h2.elim
  | a :: ars, [], _, h2 => h2.elim
  | a :: ars, c :: cs, hi, h2 => ⟨VR_inner h hi.1 h2.1, VRs_inner h hi.2 h2.2⟩
section
variable {P : Program} {T : TT}
theorem EnvR_args {K : Kx} {env : Env} {a : Act} (h : EnvR K env a.tmps) : ∀ (xs : List Operand), VRs K (xs.map (evE env)) (xs.map a.eval)
  | [] => trivial
  | x :: r => ⟨h.ev x, EnvR_args h r⟩
theorem run_call {f : FuncId} (hE : Ent P f) {dst : Option Nat} {ty : TypeId} {pos : String} {af : Array Edge} {gu : Option (Nat × Bool)} {args : Array Operand} {aty : Array TypeId} (act : Act) (w : World) :
    (execOp act.eval ⟨dst, .call { callee := .value (.func f), args := args, argTypes := aty }, ty, pos, af, gu⟩).run P w = .ok (.enter f (args.map act.eval)) w := by
  have h0 := hE (args.map act.eval) w
  have hf : act.eval (.func f) = .func (.func f) #[] #[] := rfl
  simp only [execOp, resolve, hf, Deferred.ofValue, Sem.run_bind, Sem.run_pure, Result.andThen_ok, invoke]
  simpa using h0
/-- The objects ol0 stand first in the caller's list, under the names that the callee gives them. -/
theorem mut_mid (hT : TOk P T) {f : FuncId} {ks : List Nat} {ars : List AV} {ol0 ol1 rest : OL} {r : AV} (hc : MCalls P T f ks ars ol0 r ol1) {dst : Option Nat} {ty : TypeId} {pos : String} {af : Array Edge} {gu : Option (Nat × Bool)} {args : Array Operand} {aty : Array TypeId} {env : Env}
    (ha : args.toList.map (evE env) = ars) (hin : innerL ol0.has ars) (hr : r.inner ol0.has) (h0 : innerH ol0.has ol0) (h1 : innerH ol0.has ol1)
    (hk : ∀ k, ol1.has k = ol0.has k) (hsh : ∀ k i, (ol1.at_ k i).map Prod.fst = (ol0.at_ k i).map Prod.fst) (hks : ∀ k, ol0.has k = true → k ∈ ks) :
    MidJ P T ⟨dst, .call { callee := .value (.func f), args := args, argTypes := aty }, ty, pos, af, gu⟩ env (ol0 ++ rest) r (ol1 ++ rest) := by
  intro X κ w act hP hTT hR hEn
  have at0 : ∀ {k i p}, ol0.at_ k i = some p → (ol0 ++ rest).at_ k i = some p := fun {k i p} h => by
    rw [OL.at_append, if_pos (OL.has_of_at (i := i) (by rw [h]; simp))]; exact h
  have ne0 : ∀ {k i}, ol0.at_ k i ≠ none → (ol0 ++ rest).at_ k i ≠ none := fun {k i} h => by
    cases hq : ol0.at_ k i with
    | none => exact absurd hq h
    | some p => rw [at0 hq]; simp
  have live1 : ∀ k i, ol1.at_ k i ≠ none ↔ ol0.at_ k i ≠ none := fun k i => by
    have := hsh k i
    cases h1 : ol1.at_ k i <;> cases h0 : ol0.at_ k i <;> rw [h1, h0] at this <;> simp at this <;> simp
  have liveA : ∀ k i, (ol1 ++ rest).at_ k i ≠ none ↔ (ol0 ++ rest).at_ k i ≠ none := fun k i => by
    rw [OL.at_append, OL.at_append, hk]
    by_cases h : ol0.has k = true
    · rw [if_pos h, if_pos h]; exact live1 k i
    · rw [if_neg h, if_neg h]
  have hasA : ∀ k, (ol1 ++ rest).has k = (ol0 ++ rest).has k := fun k => by rw [OL.has_append, OL.has_append, hk]
  let M' : Nat → Prop := fun b => ∃ k i, ol0.at_ k i ≠ none ∧ κ.blk k i = b
  let X' : Cx := ⟨P, T, w, fun _ => False, M'⟩
  have hD0 : SameD ol0.has (KK X κ (ol0 ++ rest).ob w) (KK X' κ ol0.ob w) :=
    ⟨rfl, fun k hk => hk, fun _ _ _ => ⟨rfl, rfl⟩, by show T.sz = X.T.sz; rw [hTT], by show T.zero = X.T.zero; rw [hTT]⟩
  have hR' : Rel X' κ ol0.ob w := by
    refine ⟨rfl, rfl, rfl, Nat.le_refl _, fun _ _ _ => rfl, fun k i sh c hq => ?_, fun k i k2 i2 hq hq2 he => hR.inj k i k2 i2 (ne0 hq) (ne0 hq2) he, fun k i hq => OL.has_of_at hq, fun b hb => hb.elim, fun b hb => ?_⟩
    · obtain ⟨cur, e, l1, l2, l3, l4, l5, l6, l7⟩ := hR.live k i sh c (at0 hq)
      exact ⟨cur, e, l1, l2, FL_inner hD0 (innerH_at h0 hq) l3, l4, l5, .inr ⟨k, i, by show ol0.at_ k i ≠ none; rw [show ol0.at_ k i = some (sh, c) from hq]; simp, rfl⟩, fun h => h⟩
    · obtain ⟨k, i, hq, rfl⟩ := hb
      exact hR.blk_lt (k := k) (i := i) (ne0 hq)
  have hvs : VRs (KK X' κ ol0.ob w) ars (args.map act.eval).toList := by
    have := EnvR_args hEn args.toList
    rw [ha] at this
    rw [Array.toList_map]
    exact VRs_inner hD0 hin this
  rw [run_call hc.ent]
  show Calls X.P f _ w _
  rw [hP]
  have := hc.go X' κ w (args.map act.eval).toList rfl rfl rfl hR' hvs
  rw [Array.toArray_toList] at this
  refine Calls.mono this ?_
  rintro ex w' ⟨c, κ', rfl, hR1, hv, hpin⟩
  have hb' : ∀ b, b < w.heap.size → ¬ M' b → w'.heap[b]? = w.heap[b]? := hR1.block
  have hs' : w.heap.size ≤ w'.heap.size := hR1.size
  have blkD : ∀ k, ol0.has k = true → ∀ i, κ.blk k i = κ'.blk k i ∧ κ.shp k i = κ'.shp k i := fun k hk i => ⟨(hpin.blk k (hks k hk) i).1.symm, (hpin.blk k (hks k hk) i).2.symm⟩
  have hJ : ∀ b, (KK X κ (ol0 ++ rest).ob w).J b → ¬ M' b := by
    rintro b hb ⟨k, i, hq, he⟩
    exact hb.2 k i (ne0 hq) he
  have hle : Le (KK X κ (ol0 ++ rest).ob w) (KK X κ (ol1 ++ rest).ob w') := by
    refine Le.step hs' (fun b hb => ⟨hb' b (hR.J_lt hb) (hJ b hb), fun k i hq => hb.2 k i ((liveA k i).1 hq)⟩) (fun k hk' => ⟨by show (ol1 ++ rest).has k = true; rw [hasA]; exact hk', fun i => ⟨rfl, rfl⟩⟩) hpin.size
  have hD1 : SameD ol0.has (KK X' κ' ol1.ob w') (KK X κ (ol1 ++ rest).ob w') :=
    ⟨rfl, fun k hk' => by show (ol1 ++ rest).has k = true; rw [hasA, OL.has_append, hk']; rfl, fun k hk' i => blkD k hk' i, by show X.T.sz = T.sz; rw [hTT], by show X.T.zero = T.zero; rw [hTT]⟩
  refine ⟨c, κ, rfl, ?_, VR_inner hD1 hr hv, hle⟩
  refine ⟨hR1.os.trans hR.os, hR1.tape.trans hR.tape, hR1.output.trans hR.output, Nat.le_trans hR.size hs', fun b hb hM => ?_, fun k i sh c2 hq => ?_, fun k i k2 i2 hq hq2 he => hR.inj k i k2 i2 ((liveA k i).1 hq) ((liveA k2 i2).1 hq2) he, fun k i hq => ?_, hR.hI, hR.hM⟩
  · have hnM : ¬ M' b := by
      rintro ⟨k, i, hq, rfl⟩
      cases hq' : ol0.at_ k i with
      | none => exact hq hq'
      | some p =>
        obtain ⟨_, _, _, _, _, _, _, l6, _⟩ := hR.live k i p.1 p.2 (at0 hq')
        rcases l6 with l6 | l6
        · omega
        · exact hM l6
    exact (hb' b (Nat.lt_of_lt_of_le hb hR.size) hnM).trans (hR.block b hb hM)
  · have hq : (ol1 ++ rest).at_ k i = some (sh, c2) := hq
    rw [OL.at_append, hk] at hq
    by_cases h : ol0.has k = true
    · rw [if_pos h] at hq
      obtain ⟨cur, e, l1, l2, l3, l4, l5, _, _⟩ := hR1.live k i sh c2 hq
      obtain ⟨p, hp⟩ : ∃ p, ol0.at_ k i = some p := by
        cases hq' : ol0.at_ k i with
        | none => exact absurd hq' ((live1 k i).1 (by rw [hq]; simp))
        | some p => exact ⟨p, rfl⟩
      obtain ⟨_, _, _, _, _, _, _, l6, l7⟩ := hR.live k i p.1 p.2 (at0 hp)
      refine ⟨cur, e, by rw [(blkD k h i).1]; exact l1, l2, FL_inner hD1 (innerH_at h1 hq) l3, l4, by rw [(blkD k h i).2]; exact l5, l6, l7⟩
    · rw [if_neg h] at hq
      have hq0 : (ol0 ++ rest).at_ k i = some (sh, c2) := by rw [OL.at_append, if_neg h]; exact hq
      obtain ⟨cur, e, l1, l2, l3, l4, l5, l6, l7⟩ := hR.live k i sh c2 hq0
      have hnM : ¬ M' (κ.blk k i) := by
        rintro ⟨k2, i2, hq2, he⟩
        obtain ⟨rfl, _⟩ := hR.inj k2 i2 k i (ne0 hq2) (by show (ol0 ++ rest).at_ k i ≠ none; rw [hq0]; simp) he
        exact h (OL.has_of_at hq2)
      exact ⟨cur, e, (hb' _ (Array.getElem?_eq_some_iff.1 l1).1 hnM).trans l1, l2, FL_mono hle l3, l4, l5, l6, l7⟩
  · have := OL.has_of_at ((liveA k i).1 hq)
    show (ol1 ++ rest).has k = true
    rw [hasA]; exact this
/-- One object, under another name. -/
theorem mut_mid1 (hT : TOk P T) {f : FuncId} {q n e : Nat} {sh c0 c1 r : AV} {more : List AV} (hc : MCalls P T f [q] (.own q 0 n e :: more) [(q, .one sh c0)] r [(q, .one sh c1)]) {dst : Option Nat} {ty : TypeId} {pos : String} {af : Array Edge} {gu : Option (Nat × Bool)} {s : Operand} {args : List Operand} {aty : Array TypeId} {env : Env} {ol : OL} {k i : Nat}
    (hs : evE env s = .own k i n e) (ha : args.map (evE env) = more) (hin : innerL (fun _ => false) more) (hr : r.inner (fun _ => false)) (h0 : c0.inner (fun _ => false)) (h1 : c1.inner (fun _ => false))
    (hat : ol.at_ k i = some (sh, c0)) :
    MidJ P T ⟨dst, .call { callee := .value (.func f), args := (s :: args).toArray, argTypes := aty }, ty, pos, af, gu⟩ env ol r (ol.set k i (some (sh, c1))) := by
  intro X κ w act hP hTT hR hEn
  have hhas : ol.has k = true := OL.has_of_at (i := i) (by rw [hat]; simp)
  have hlive : ol.ob.at_ k i ≠ none := by show ol.at_ k i ≠ none; rw [hat]; simp
  obtain ⟨cur0, e0, m1, m2, m3, m4, m5, m6, m7⟩ := hR.live k i sh c0 hat
  let X' : Cx := ⟨P, T, w, fun _ => False, fun b => b = κ.blk k i⟩
  let κ0 : Gh := ⟨fun _ _ => κ.blk k i, fun _ _ => κ.shp k i⟩
  have hq0 : ∀ k' i' sh' c', OL.at_ [(q, .one sh c0)] k' i' = some (sh', c') → k' = q ∧ i' = 0 ∧ sh' = sh ∧ c' = c0 := by
    intro k' i' sh' c' h
    simp only [OL.at_] at h
    cases hb : Nat.beq k' q
    · rw [hb] at h; cases h
    · rw [hb] at h
      simp only [cond_true, Fam.at_] at h
      cases hi : Nat.beq i' 0
      · rw [hi] at h; cases h
      · rw [hi] at h
        simp only [cond_true, Option.some.injEq, Prod.mk.injEq] at h
        exact ⟨Nat.eq_of_beq_eq_true hb, Nat.eq_of_beq_eq_true hi, h.1.symm, h.2.symm⟩
  have hqn : ∀ k' i', OL.at_ [(q, .one sh c0)] k' i' ≠ none → k' = q ∧ i' = 0 := by
    intro k' i' h
    cases hh : OL.at_ [(q, .one sh c0)] k' i' with
    | none => exact absurd hh h
    | some p => exact ⟨(hq0 k' i' p.1 p.2 hh).1, (hq0 k' i' p.1 p.2 hh).2.1⟩
  have hD0 : SameD (fun _ => false) (KK X κ ol.ob w) (KK X' κ0 (OL.ob [(q, .one sh c0)]) w) :=
    ⟨rfl, fun _ h => (by cases h), fun _ h => (by cases h), by show T.sz = X.T.sz; rw [hTT], by show T.zero = X.T.zero; rw [hTT]⟩
  have hR' : Rel X' κ0 (OL.ob [(q, .one sh c0)]) w := by
    refine ⟨rfl, rfl, rfl, Nat.le_refl _, fun _ _ _ => rfl, fun k' i' sh' c' hq => ?_, fun k' i' k2 i2 hq hq2 _ => ?_, fun k' i' hq => OL.has_of_at hq, fun b hb => hb.elim, fun b hb => ?_⟩
    · obtain ⟨_, _, rfl, rfl⟩ := hq0 k' i' sh' c' hq
      exact ⟨cur0, e0, m1, m2, FL_inner hD0 h0 m3, m4, m5, .inr rfl, fun h => h⟩
    · obtain ⟨rfl, rfl⟩ := hqn k' i' hq
      obtain ⟨rfl, rfl⟩ := hqn k2 i2 hq2
      exact ⟨rfl, rfl⟩
    · have hb' : b = κ.blk k i := hb
      rw [hb']
      exact (Array.getElem?_eq_some_iff.1 m1).1
  have hvs : VRs (KK X' κ0 (OL.ob [(q, .one sh c0)]) w) (.own q 0 n e :: more) ((s :: args).toArray.map act.eval).toList := by
    have h1 := EnvR_args hEn args
    rw [ha] at h1
    have h2 := hEn.ev s
    rw [hs] at h2
    simp only [List.map_toArray, List.map_cons]
    refine ⟨?_, VRs_inner hD0 hin h1⟩
    obtain ⟨_, hn, cap, cur, fr, hv, g1, g2, g3, g4⟩ := VR_own h2
    rw [hv]
    exact ⟨_, rfl, by show OL.has [(q, .one sh c0)] q = true; simp [OL.has], by show κ.shp k i = AV.arr n (fun _ => T.zero e); exact hn.trans (by show AV.arr n (fun _ => X.T.zero e) = _; rw [hTT]), cap, cur, fr, rfl, g1, g2, g3, by show cur.size = cap * T.sz e; rw [g4]; show cap * X.T.sz e = _; rw [hTT]⟩
  rw [run_call hc.ent]
  show Calls X.P f _ w _
  rw [hP]
  have := hc.go X' κ0 w ((s :: args).toArray.map act.eval).toList rfl rfl rfl hR' hvs
  rw [Array.toArray_toList] at this
  refine Calls.mono this ?_
  rintro ex w' ⟨c, κ', rfl, hR1, hv, hpin⟩
  have hb' : ∀ b, b < w.heap.size → b ≠ κ.blk k i → w'.heap[b]? = w.heap[b]? := hR1.block
  have hs' : w.heap.size ≤ w'.heap.size := hR1.size
  obtain ⟨cur1, e1, l1, l2, l3, l4, l5, _, _⟩ := hR1.live q 0 sh c1 (by show OL.at_ [(q, .one sh c1)] q 0 = _; simp [OL.at_, Fam.at_])
  have hblk : κ'.blk q 0 = κ.blk k i := (hpin.blk q (by simp) 0).1
  rw [hblk] at l1
  have hset : ∀ k' i', (ol.set k i (some (sh, c1))).at_ k' i' ≠ none ↔ ol.at_ k' i' ≠ none := fun k' i' => by
    rw [OL.at_set]
    split
    · rename_i h; obtain ⟨rfl, rfl⟩ := h; rw [hat]; simp
    · exact Iff.rfl
  have hhas' : ∀ k', (ol.set k i (some (sh, c1))).has k' = ol.has k' := fun k' => by
    rw [OL.has_set]
    cases hb : Nat.beq k' k
    · simp
    · rw [Nat.eq_of_beq_eq_true hb, hhas]; rfl
  have hle : Le (KK X κ ol.ob w) (KK X κ (OL.ob (ol.set k i (some (sh, c1)))) w') := by
    refine Le.step hs' (fun b hb => ⟨hb' b (hR.J_lt hb) (fun he => hb.2 k i hlive he.symm), fun k' i' hq => hb.2 k' i' ((hset k' i').1 hq)⟩) (fun k' hk' => ⟨by show OL.has _ k' = true; rw [hhas']; exact hk', fun i => ⟨rfl, rfl⟩⟩) hpin.size
  have hD1 : SameD (fun _ => false) (KK X' κ' (OL.ob [(q, .one sh c1)]) w') (KK X κ (OL.ob (ol.set k i (some (sh, c1)))) w') :=
    ⟨rfl, fun _ h => (by cases h), fun _ h => (by cases h), by show X.T.sz = T.sz; rw [hTT], by show X.T.zero = T.zero; rw [hTT]⟩
  refine ⟨c, κ, rfl, ?_, VR_inner hD1 hr hv, hle⟩
  refine ⟨hR1.os.trans hR.os, hR1.tape.trans hR.tape, hR1.output.trans hR.output, Nat.le_trans hR.size hs', fun b hb hM => ?_, fun k' i' sh' c' hq => ?_, fun k' i' k2 i2 hq hq2 he => hR.inj k' i' k2 i2 ((hset k' i').1 hq) ((hset k2 i2).1 hq2) he, fun k' i' hq => ?_, hR.hI, hR.hM⟩
  · refine (hb' b (Nat.lt_of_lt_of_le hb hR.size) (fun he => ?_)).trans (hR.block b hb hM)
    subst he
    rcases m6 with m6 | m6
    · omega
    · exact hM m6
  · have hq : (ol.set k i (some (sh, c1))).at_ k' i' = some (sh', c') := hq
    rw [OL.at_set] at hq
    by_cases h : k' = k ∧ i' = i
    · rw [if_pos h] at hq
      obtain ⟨q1, q2⟩ := Prod.mk.inj (Option.some.inj hq)
      obtain ⟨rfl, rfl⟩ := h
      subst q1; subst q2
      exact ⟨cur1, e1, l1, l2, FL_inner hD1 h1 l3, l4, m5, m6, m7⟩
    · rw [if_neg h] at hq
      obtain ⟨cur, e', g1, g2, g3, g4, g5, g6, g7⟩ := hR.live k' i' sh' c' hq
      have hne : κ.blk k' i' ≠ κ.blk k i := fun he => h (hR.inj k' i' k i (by show ol.at_ k' i' ≠ none; rw [hq]; simp) hlive he)
      exact ⟨cur, e', (hb' _ (Array.getElem?_eq_some_iff.1 g1).1 hne).trans g1, g2, FL_mono hle g3, g4, g5, g6, g7⟩
  · have := OL.has_of_at ((hset k' i').1 hq)
    show OL.has _ k' = true
    rw [hhas']; exact this
end
end Go.Am
/- The laws of products: linear, associative, with a unit. My own work. -/
set_option linter.unusedVariables false
set_option linter.unusedSimpArgs false
namespace Go.Am
section
variable {p : Int} {n : Nat} {T : Nat → Nat → Nat → Int}
/-- The product before it is taken modulo p. -/
def pz (n : Nat) (T : Nat → Nat → Nat → Int) (u v : Nat → Int) (k : Nat) : Int := sumZ (fun i => sumZ (fun j => u i * v j * T i j k) n) n
theorem times_pz {u v : Nat → Int} {k : Nat} (hk : k < n) : timesF p n T u v k = pz n T u v k % p := by
  unfold timesF; rw [if_pos hk]; rfl
/-- Alike modulo p. -/
def cg (p : Int) (n : Nat) (u v : Nat → Int) : Prop := ∀ j, j < n → p ∣ u j - v j
theorem cg.rf (u : Nat → Int) : cg p n u u := fun j _ => dvd_rf rfl
theorem cg.sy {u v : Nat → Int} (h : cg p n u v) : cg p n v u := fun j hj => dvd_sy (h j hj)
theorem cg.tr {u v w : Nat → Int} (h : cg p n u v) (h' : cg p n v w) : cg p n u w := fun j hj => dvd_tr (h j hj) (h' j hj)
theorem mul_dvd {a b c d : Int} (h : p ∣ a - b) (h' : p ∣ c - d) : p ∣ a * c - b * d := by
  have h1 : p ∣ (a - b) * c := Int.dvd_mul_of_dvd_left h
  have h2 : p ∣ b * (c - d) := Int.dvd_mul_of_dvd_right h'
  have := Int.dvd_add h1 h2
  rwa [Int.sub_mul, Int.mul_sub, show a * c - b * c + (b * c - b * d) = a * c - b * d by omega] at this
theorem pz_cg {u u' v v' : Nat → Int} (hu : cg p n u u') (hv : cg p n v v') (k : Nat) : p ∣ pz n T u v k - pz n T u' v' k :=
  sumZ_dvd n (fun i hi => sumZ_dvd n (fun j hj => mul_dvd (mul_dvd (hu i hi) (hv j hj)) (dvd_rf rfl)))
theorem times_cg {u u' v v' : Nat → Int} (hu : cg p n u u') (hv : cg p n v v') : timesF p n T u v = timesF p n T u' v' := by
  funext k
  by_cases hk : k < n
  · rw [times_pz hk, times_pz hk]; exact mod_eq_of_dvd (pz_cg hu hv k)
  · unfold timesF; rw [if_neg hk, if_neg hk]
theorem cg_times (u v : Nat → Int) : cg p n (timesF p n T u v) (pz n T u v) := fun k hk => by rw [times_pz hk]; exact dvd_mod p _
/-- What stands alike and is canonical is the same. -/
theorem VV.ext {u v : Nat → Int} (hu : VV p n u) (hv : VV p n v) (h : cg p n u v) : u = v := by
  funext k
  by_cases hk : k < n
  · exact eq_of_dvd (hu.b k) (hv.b k) (h k hk)
  · rw [hu.z k (by omega), hv.z k (by omega)]
theorem VV.times (hp : 0 < p) {u v : Nat → Int} : VV p n (timesF p n T u v) := ⟨timesF_Bp hp, fun k hk => by unfold timesF; rw [if_neg (by omega)]⟩
theorem VV.zero (hp : 0 < p) : VV p n (fun _ => 0) := ⟨fun _ => ⟨Int.le_refl _, hp⟩, fun _ _ => rfl⟩
theorem VV.eF (hp : 1 < p) {i : Nat} (hi : i < n) : VV p n (eF i) := ⟨eF_Bp hp i, fun k hk => by rw [eF_dl]; unfold dl; rw [if_neg (by omega)]⟩
theorem VV.add (hp : 0 < p) {u v : Nat → Int} (hu : VV p n u) (hv : VV p n v) (c : Int) : VV p n (addF p u v c) := ⟨addF_Bp hp u v c, fun k hk => by unfold addF; rw [hu.z k hk, hv.z k hk, Int.mul_zero]; rfl⟩
theorem VV.eqN {u v : Nat → Int} (h6 : n ≤ 6) (hu : VV p n u) (hv : VV p n v) : eqN 6 u v ↔ u = v := by
  constructor
  · intro h
    funext k
    by_cases hk : k < 6
    · exact h k hk
    · rw [hu.z k (by omega), hv.z k (by omega)]
  · rintro rfl k _; rfl

/-! ### Sums in another order -/
theorem sum_mul_sum (f g : Nat → Int) (m k : Nat) : sumZ f m * sumZ g k = sumZ (fun i => sumZ (fun j => f i * g j) k) m := by
  rw [← sumZ_mulr]
  exact sumZ_congr m (fun i _ => (sumZ_mul _ _ _).symm)
theorem pz_add_r (u v w : Nat → Int) (c : Int) (k : Nat) : pz n T u (fun j => v j + c * w j) k = pz n T u v k + c * pz n T u w k := by
  unfold pz
  rw [← sumZ_mul, ← sumZ_add]
  refine sumZ_congr n (fun i _ => ?_)
  rw [← sumZ_mul, ← sumZ_add]
  refine sumZ_congr n (fun j _ => ?_)
  rw [Int.mul_add, Int.add_mul]
  congr 1
  rw [Int.mul_left_comm (u i), Int.mul_assoc, Int.mul_assoc]
theorem pz_add_l (u v w : Nat → Int) (c : Int) (k : Nat) : pz n T (fun j => v j + c * w j) u k = pz n T v u k + c * pz n T w u k := by
  unfold pz
  rw [← sumZ_mul, ← sumZ_add]
  refine sumZ_congr n (fun i _ => ?_)
  rw [← sumZ_mul, ← sumZ_add]
  refine sumZ_congr n (fun j _ => ?_)
  rw [Int.add_mul, Int.add_mul]
  congr 1
  rw [Int.mul_assoc, Int.mul_assoc, Int.mul_assoc]
/-- The product with a sum of basis vectors. -/
theorem pz_basis_r (v x : Nat → Int) (k : Nat) : sumZ (fun i => x i * pz n T v (eF i) k) n = pz n T v x k := by
  unfold pz
  have e : ∀ i, i < n → x i * sumZ (fun a => sumZ (fun j => v a * eF i j * T a j k) n) n = sumZ (fun a => v a * x i * T a i k) n := fun i hi => by
    rw [← sumZ_mul]
    refine sumZ_congr n (fun a _ => ?_)
    rw [sumZ_one (c := i) n hi (fun j _ hne => by rw [eF_dl]; unfold dl; rw [if_neg (Ne.symm hne)]; simp)]
    rw [eF_dl]; unfold dl; rw [if_pos rfl, Int.mul_one, Int.mul_left_comm, Int.mul_assoc]
  rw [sumZ_congr n e, sumZ_swap]
theorem pz_basis_l (v x : Nat → Int) (k : Nat) : sumZ (fun i => x i * pz n T (eF i) v k) n = pz n T x v k := by
  unfold pz
  refine sumZ_congr n (fun i hi => ?_)
  rw [sumZ_one (c := i) n hi (fun a _ hne => ?_)]
  · rw [← sumZ_mul]
    refine sumZ_congr n (fun j _ => ?_)
    rw [eF_dl]; unfold dl; rw [if_pos rfl, Int.one_mul, Int.mul_assoc]
  · rw [sumZ_congr (g := fun _ => 0) n (fun j _ => by rw [eF_dl]; unfold dl; rw [if_neg (Ne.symm hne)]; simp), sumZ_zero]
theorem times_basis_r (v x : Nat → Int) {k : Nat} (hk : k < n) : p ∣ sumZ (fun i => timesF p n T v (eF i) k * x i) n - pz n T v x k := by
  rw [← pz_basis_r]
  refine sumZ_dvd n (fun i hi => ?_)
  rw [Int.mul_comm (x i)]
  refine mul_dvd ?_ (dvd_rf rfl)
  rw [times_pz hk]; exact dvd_mod p _
theorem times_basis_l (v x : Nat → Int) {k : Nat} (hk : k < n) : p ∣ sumZ (fun i => timesF p n T (eF i) v k * x i) n - pz n T x v k := by
  rw [← pz_basis_l]
  refine sumZ_dvd n (fun i hi => ?_)
  rw [Int.mul_comm (x i)]
  refine mul_dvd ?_ (dvd_rf rfl)
  rw [times_pz hk]; exact dvd_mod p _

/-! ### Associativity -/
theorem asc_basis (h6 : n ≤ 6) (h : assocP p n T) {i j k l : Nat} (hi : i < n) (hj : j < n) (hk : k < n) (hl : l < n) :
    p ∣ sumZ (fun a => T i j a * T a k l) n - sumZ (fun b => T j k b * T i b l) n := by
  have := h i hi j hj k hk l (by omega)
  rw [times_er hk hl, times_el hi hl] at this
  have h2 := dvd_sy (dvd_mod p (sumZ (fun a => T a k l * T i j a) n))
  rw [this] at h2
  have h3 := dvd_tr h2 (dvd_mod p _)
  rw [sumZ_congr (g := fun a => T a k l * T i j a) n (fun a _ => Int.mul_comm _ _), sumZ_congr (f := fun b => T j k b * T i b l) (g := fun b => T i b l * T j k b) n (fun b _ => Int.mul_comm _ _)]
  exact h3
/-- Three sums. -/
def s3 (n : Nat) (f : Nat → Nat → Nat → Int) : Int := sumZ (fun i => sumZ (fun j => sumZ (f i j) n) n) n
theorem s3_dvd {f g : Nat → Nat → Nat → Int} (h : ∀ i j k, i < n → j < n → k < n → p ∣ f i j k - g i j k) : p ∣ s3 n f - s3 n g :=
  sumZ_dvd n (fun i hi => sumZ_dvd n (fun j hj => sumZ_dvd n (fun k hk => h i j k hi hj hk)))
theorem pz_left (u v w : Nat → Int) (l : Nat) : pz n T (pz n T u v) w l = s3 n (fun i j k => u i * v j * w k * sumZ (fun a => T i j a * T a k l) n) := by
  have e1 : pz n T (pz n T u v) w l = sumZ (fun a => sumZ (fun k => sumZ (fun i => sumZ (fun j => u i * v j * T i j a * w k * T a k l) n) n) n) n := by
    refine sumZ_congr n (fun a _ => sumZ_congr n (fun k _ => ?_))
    show sumZ (fun i => sumZ (fun j => u i * v j * T i j a) n) n * w k * T a k l = _
    rw [Int.mul_assoc, ← sumZ_mulr]
    refine sumZ_congr n (fun i _ => ?_)
    rw [← sumZ_mulr]
    exact sumZ_congr n (fun j _ => by rw [Int.mul_assoc (u i * v j * T i j a)])
  rw [e1]
  unfold s3
  -- a k i j  to  i j k a
  have e2 : ∀ a, sumZ (fun k => sumZ (fun i => sumZ (fun j => u i * v j * T i j a * w k * T a k l) n) n) n = sumZ (fun i => sumZ (fun j => sumZ (fun k => u i * v j * T i j a * w k * T a k l) n) n) n := fun a => by
    rw [sumZ_swap (fun k i => sumZ (fun j => u i * v j * T i j a * w k * T a k l) n)]
    exact sumZ_congr n (fun i _ => sumZ_swap (fun k j => u i * v j * T i j a * w k * T a k l) n n)
  rw [sumZ_congr n (fun a _ => e2 a), sumZ_swap]
  refine sumZ_congr n (fun i _ => ?_)
  rw [sumZ_swap]
  refine sumZ_congr n (fun j _ => ?_)
  rw [sumZ_swap]
  refine sumZ_congr n (fun k _ => ?_)
  show _ = u i * v j * w k * sumZ (fun a => T i j a * T a k l) n
  rw [← sumZ_mul]
  exact sumZ_congr n (fun a _ => by simp only [Int.mul_assoc, Int.mul_comm, Int.mul_left_comm])
theorem pz_right (u v w : Nat → Int) (l : Nat) : pz n T u (pz n T v w) l = s3 n (fun i j k => u i * v j * w k * sumZ (fun b => T j k b * T i b l) n) := by
  unfold s3
  refine sumZ_congr n (fun i _ => ?_)
  have e1 : ∀ b, u i * pz n T v w b * T i b l = sumZ (fun j => sumZ (fun k => u i * v j * w k * (T j k b * T i b l)) n) n := fun b => by
    show u i * sumZ (fun j => sumZ (fun k => v j * w k * T j k b) n) n * T i b l = _
    rw [← sumZ_mul, ← sumZ_mulr]
    refine sumZ_congr n (fun j _ => ?_)
    show u i * sumZ (fun k => v j * w k * T j k b) n * T i b l = _
    rw [← sumZ_mul, ← sumZ_mulr]
    exact sumZ_congr n (fun k _ => by simp only [Int.mul_assoc, Int.mul_comm, Int.mul_left_comm])
  rw [sumZ_congr n (fun b _ => e1 b), sumZ_swap]
  refine sumZ_congr n (fun j _ => ?_)
  rw [sumZ_swap]
  refine sumZ_congr n (fun k _ => ?_)
  show _ = u i * v j * w k * sumZ (fun b => T j k b * T i b l) n
  rw [← sumZ_mul]
/-- Products of three. -/
theorem times_asc (h6 : n ≤ 6) (h : assocP p n T) (u v w : Nat → Int) : timesF p n T (timesF p n T u v) w = timesF p n T u (timesF p n T v w) := by
  rw [times_cg (cg_times u v) (cg.rf w), times_cg (cg.rf u) (cg_times v w)]
  funext l
  by_cases hl : l < n
  · rw [times_pz hl, times_pz hl]
    refine mod_eq_of_dvd ?_
    rw [pz_left, pz_right]
    exact s3_dvd (fun i j k hi hj hk => mul_dvd (dvd_rf rfl) (asc_basis h6 h hi hj hk hl))
  · unfold timesF; rw [if_neg hl, if_neg hl]
/-- The unit. -/
theorem pz_one_l {u v : Nat → Int} (hu : LU p n T u) {k : Nat} (hk : k < n) : p ∣ pz n T u v k - v k := by
  unfold pz
  rw [sumZ_swap]
  have : p ∣ sumZ (fun j => v j * sumZ (fun i => T i j k * u i) n) n - v k := by
    have h := sumZ_dvd (p := p) (f := fun j => v j * sumZ (fun i => T i j k * u i) n) (g := fun j => v j * dl j k) n (fun j hj => mul_dvd (dvd_rf rfl) (hu j hj k hk))
    rwa [sum_dl v hk] at h
  rw [sumZ_congr (g := fun j => v j * sumZ (fun i => T i j k * u i) n) n (fun j _ => by
    rw [← sumZ_mul]
    exact sumZ_congr n (fun i _ => by simp only [Int.mul_assoc, Int.mul_comm, Int.mul_left_comm]))]
  exact this
theorem pz_one_r {u v : Nat → Int} (hu : RU p n T u) {k : Nat} (hk : k < n) : p ∣ pz n T v u k - v k := by
  unfold pz
  have : p ∣ sumZ (fun i => v i * sumZ (fun j => T i j k * u j) n) n - v k := by
    have h := sumZ_dvd (p := p) (f := fun i => v i * sumZ (fun j => T i j k * u j) n) (g := fun i => v i * dl i k) n (fun i hi => mul_dvd (dvd_rf rfl) (hu i hi k hk))
    rwa [sum_dl v hk] at h
  rw [sumZ_congr (g := fun i => v i * sumZ (fun j => T i j k * u j) n) n (fun i _ => by
    rw [← sumZ_mul]
    exact sumZ_congr n (fun j _ => by simp only [Int.mul_assoc, Int.mul_comm, Int.mul_left_comm]))]
  exact this
end
section
variable {p : Int} {n : Nat} {T : Nat → Nat → Nat → Int} {fo : Nat → Int}
theorem VN.asc' (h : VN p n T fo) (u v w : Nat → Int) : timesF p n T (timesF p n T u v) w = timesF p n T u (timesF p n T v w) := times_asc h.n6 h.asc u v w
theorem VN.pp (h : VN p n T fo) : 0 < p := by have := h.p0; omega
theorem VN.LU (h : VN p n T fo) : LU p n T (uF p n T) := (uF_unit h.hp h.n0 h.hT h.u).1
theorem VN.RU (h : VN p n T fo) : RU p n T (uF p n T) := (uF_unit h.hp h.n0 h.hT h.u).2.1
theorem VN.one_l (h : VN p n T fo) {v : Nat → Int} (hv : VV p n v) : timesF p n T (uF p n T) v = v :=
  VV.ext (VV.times h.pp) hv (fun k hk => dvd_tr (by rw [times_pz hk]; exact dvd_mod p _) (pz_one_l h.LU hk))
theorem VN.one_r (h : VN p n T fo) {v : Nat → Int} (hv : VV p n v) : timesF p n T v (uF p n T) = v :=
  VV.ext (VV.times h.pp) hv (fun k hk => dvd_tr (by rw [times_pz hk]; exact dvd_mod p _) (pz_one_r h.RU hk))

/-! ### Inverses -/
/-- The maps of inverse: ahead of v, behind v. -/
def iM (p : Int) (n : Nat) (T : Nat → Nat → Nat → Int) (v : Nat → Int) (x j : Nat) : Nat → Int := if x = 0 then timesF p n T v (eF j) else timesF p n T (eF j) v
noncomputable abbrev iR (p : Int) (n : Nat) (T : Nat → Nat → Nat → Int) (v : Nat → Int) : Nat → Nat → Int := sysR n (iM p n T v) (fun _ => uF p n T)
theorem iM_Bp (hp : 0 < p) (v : Nat → Int) (x j : Nat) : Bp p (iM p n T v x j) := by
  unfold iM; split <;> exact timesF_Bp hp
def iOk (p : Int) (n : Nat) (T : Nat → Nat → Nat → Int) (v : Nat → Int) : Prop := conP n (redGo p (2 * n) (iR p n T v) (n + 1)).no (redGo p (2 * n) (iR p n T v) (n + 1)).O
noncomputable instance (p : Int) (n : Nat) (T : Nat → Nat → Nat → Int) (v : Nat → Int) : Decidable (iOk p n T v) := Classical.propDecidable _
noncomputable def iF (p : Int) (n : Nat) (T : Nat → Nat → Nat → Int) (v : Nat → Int) : Nat → Int := if iOk p n T v then cutF (solGo n (redGo p (2 * n) (iR p n T v) (n + 1)).O (redGo p (2 * n) (iR p n T v) (n + 1)).no) n else fun _ => 0
/-- Number k of what a map gives, row by row. -/
theorem map_sol {M : Nat} {Fv : Nat → Nat → Nat → Int} {W : Nat → Nat → Int} {x : Nat → Int} (hn : 0 < n) : Sol p n (M * n) (sysR n Fv W) x ↔ ∀ a, a < M → ∀ k, k < n → p ∣ sumZ (fun j => Fv a j k * x j) n - W a k := by
  have row : ∀ a k, k < n → dot n (sysR n Fv W (a * n + k)) x - sysR n Fv W (a * n + k) n = sumZ (fun j => Fv a j k * x j) n - W a k := fun a k hk => by
    rw [sysR_n, div_of hk, mod_of hk]
    unfold dot
    rw [sumZ_congr (g := fun j => Fv a j k * x j) n (fun j hj => by rw [sysR_lt hj, eqR_at hk])]
  constructor
  · intro h a ha k hk
    have := h (a * n + k) (by have : (a + 1) * n ≤ M * n := Nat.mul_le_mul_right n ha; rw [Nat.add_mul] at this; omega)
    rwa [row a k hk] at this
  · intro h r hr
    have hk : r % n < n := Nat.mod_lt _ hn
    have ha : r / n < M := (Nat.div_lt_iff_lt_mul hn).2 hr
    have e : r = r / n * n + r % n := by have := Nat.div_add_mod r n; rw [Nat.mul_comm] at this; omega
    rw [e, row _ _ hk]
    exact h _ ha _ hk
theorem iR_sol (hn : 0 < n) {v x : Nat → Int} : Sol p n (2 * n) (iR p n T v) x ↔ cg p n (pz n T v x) (uF p n T) ∧ cg p n (pz n T x v) (uF p n T) := by
  unfold iR
  rw [map_sol hn]
  constructor
  · intro h
    refine ⟨fun k hk => dvd_tr (dvd_sy (times_basis_r v x hk)) ?_, fun k hk => dvd_tr (dvd_sy (times_basis_l v x hk)) ?_⟩
    · have := h 0 (by omega) k hk
      unfold iM at this; simpa using this
    · have := h 1 (by omega) k hk
      unfold iM at this; simpa using this
  · rintro ⟨h1, h2⟩ a ha k hk
    unfold iM
    by_cases h0 : a = 0
    · simp only [h0, if_true]; exact dvd_tr (times_basis_r v x hk) (h1 k hk)
    · simp only [h0, if_false]; exact dvd_tr (times_basis_l v x hk) (h2 k hk)
theorem iR_Bp (h : VN p n T fo) (v : Nat → Int) (r : Nat) : Bp p (iR p n T v r) := sysR_Bp (fun x j => iM_Bp h.pp v x j) (fun _ => h.u_Bp) r
/-- Two-sided inverses. -/
def IsInv (p : Int) (n : Nat) (T : Nat → Nat → Nat → Int) (v x : Nat → Int) : Prop := timesF p n T v x = uF p n T ∧ timesF p n T x v = uF p n T
theorem pz_times (h : VN p n T fo) {u v w : Nat → Int} (hw : VV p n w) : cg p n (pz n T u v) w ↔ timesF p n T u v = w := by
  constructor
  · intro hc; exact VV.ext (VV.times h.pp) hw ((cg_times u v).tr hc)
  · rintro rfl; exact (cg_times u v).sy
theorem iF_inv (h : VN p n T fo) {v : Nat → Int} (hok : iOk p n T v) : VV p n (iF p n T v) ∧ IsInv p n T v (iF p n T v) := by
  have hpb := h.p0
  obtain ⟨⟨l, hrr⟩, hnl⟩ := red_ok (m := n + 1) (n := 2 * n) (R := iR p n T v) h.hp (fun i _ => iR_Bp h v i)
  have h2 : Sol p n (2 * n) (iR p n T v) _ := sol_null.2 ((hnl _).1 (sol_null.1 (sol_of_con hrr hok)))
  obtain ⟨h3, h4⟩ := (iR_sol h.n0).1 h2
  have hc : cg p n (cutF (solGo n (redGo p (2 * n) (iR p n T v) (n + 1)).O (redGo p (2 * n) (iR p n T v) (n + 1)).no) n) (solGo n (redGo p (2 * n) (iR p n T v) (n + 1)).O (redGo p (2 * n) (iR p n T v) (n + 1)).no) := fun j hj => dvd_rf (by unfold cutF; rw [if_pos hj])
  have hB := solGo_Bp h.pp hrr _ (Nat.le_refl _)
  unfold iF
  rw [if_pos hok]
  refine ⟨⟨fun j => ?_, fun j hj => by unfold cutF; rw [if_neg (by omega)]⟩, ?_, ?_⟩
  · unfold cutF; split
    · exact hB j
    · omega
  · rw [times_cg (cg.rf v) hc]; exact (pz_times h h.u_V).1 h3
  · rw [times_cg hc (cg.rf v)]; exact (pz_times h h.u_V).1 h4
theorem iOk_iff (h : VN p n T fo) {v : Nat → Int} (hv : VV p n v) : iOk p n T v ↔ ∃ x, VV p n x ∧ IsInv p n T v x := by
  have hpb := h.p0
  obtain ⟨⟨l, hrr⟩, hnl⟩ := red_ok (m := n + 1) (n := 2 * n) (R := iR p n T v) h.hp (fun i _ => iR_Bp h v i)
  constructor
  · intro hok
    exact ⟨_, (iF_inv h hok).1, (iF_inv h hok).2⟩
  · rintro ⟨x, hx, h1, h2⟩
    exact con_of_sol (u := x) (by omega) hrr (sol_null.2 ((hnl _).2 (sol_null.1 ((iR_sol h.n0).2 ⟨(pz_times h h.u_V).2 h1, (pz_times h h.u_V).2 h2⟩))))
theorem inv_uniq (h : VN p n T fo) {v x y : Nat → Int} (hx : VV p n x) (hy : VV p n y) (h1 : timesF p n T x v = uF p n T) (h2 : timesF p n T v y = uF p n T) : x = y := by
  have e := h.asc' x v y
  rw [h1, h2, h.one_l hy, h.one_r hx] at e
  exact e.symm
/-- The reference's one map: one row for each number. -/
theorem one_sol_map {M1 : Nat → Nat → Int} {u x : Nat → Int} (hn : 0 < n) : Sol p n n (sysR n (fun _ => M1) (fun _ => u)) x ↔ ∀ k, k < n → p ∣ sumZ (fun j => M1 j k * x j) n - u k := by
  have := map_sol (p := p) (M := 1) (Fv := fun _ => M1) (W := fun _ => u) (x := x) hn
  rw [Nat.one_mul] at this
  rw [this]
  exact ⟨fun h k hk => h 0 (by omega) k hk, fun h _ _ k hk => h k hk⟩
/-- x v = 1: the reference's equations of an inverse. -/
noncomputable abbrev bR (p : Int) (n : Nat) (T : Nat → Nat → Nat → Int) (v : Nat → Int) : Nat → Nat → Int := sysR n (fun _ j => timesF p n T (eF j) v) (fun _ => uF p n T)
/-- v x = 1. -/
noncomputable abbrev fR (p : Int) (n : Nat) (T : Nat → Nat → Nat → Int) (v : Nat → Int) : Nat → Nat → Int := sysR n (fun _ j => timesF p n T v (eF j)) (fun _ => uF p n T)
theorem bR_sol (h : VN p n T fo) {v x : Nat → Int} : Sol p n n (bR p n T v) x ↔ timesF p n T x v = uF p n T := by
  rw [← pz_times h h.u_V]
  refine (one_sol_map h.n0).trans ⟨fun q k hk => dvd_tr (dvd_sy (times_basis_l v x hk)) (q k hk), fun q k hk => dvd_tr (times_basis_l v x hk) (q k hk)⟩
theorem fR_sol (h : VN p n T fo) {v x : Nat → Int} : Sol p n n (fR p n T v) x ↔ timesF p n T v x = uF p n T := by
  rw [← pz_times h h.u_V]
  refine (one_sol_map h.n0).trans ⟨fun q k hk => dvd_tr (dvd_sy (times_basis_r v x hk)) (q k hk), fun q k hk => dvd_tr (times_basis_r v x hk) (q k hk)⟩
theorem bR_Bp (h : VN p n T fo) (v : Nat → Int) (r : Nat) : Bp p (bR p n T v r) := sysR_Bp (fun _ j => timesF_Bp h.pp) (fun _ => h.u_Bp) r
theorem fR_Bp (h : VN p n T fo) (v : Nat → Int) (r : Nat) : Bp p (fR p n T v r) := sysR_Bp (fun _ j => timesF_Bp h.pp) (fun _ => h.u_Bp) r
/-- The reference's solution of rows S. -/
def sS (p : Int) (n N : Nat) (S : Nat → Nat → Int) : Nat → Int := cutF (fun a => (echGo p (n + 1) S N).O a n) n
def oS (p : Int) (n N : Nat) (S : Nat → Nat → Int) : Prop := oneP n (echGo p (n + 1) S N).no (echGo p (n + 1) S N).O
noncomputable instance (p : Int) (n N : Nat) (S : Nat → Nat → Int) : Decidable (oS p n N S) := Classical.propDecidable _
theorem oS_sol {N : Nat} {S : Nat → Nat → Int} (hp : primeB p = true) (hS : ∀ i, Bp p (S i)) (h : oS p n N S) : Sol p n N S (sS p n N S) ∧ VV p n (sS p n N S) ∧ ∀ x, Sol p n N S x → cg p n x (sS p n N S) := by
  have hpb := primeB_bd hp
  obtain ⟨⟨l, hrr⟩, hnl⟩ := ech_ok (m := n + 1) (R := S) hp N (fun i _ => hS i)
  refine ⟨sol_null.2 ((hnl _).1 (sol_null.1 (one_sol hrr h))), ⟨fun j => ?_, fun j hj => by unfold sS cutF; rw [if_neg (by omega)]⟩, fun x hx j hj => ?_⟩
  · unfold sS cutF
    split
    · exact hrr.bp j (by have := h.1; omega) n
    · omega
  · have := one_uniq hrr h (sol_null.2 ((hnl _).2 (sol_null.1 hx))) hj
    unfold sS cutF
    rwa [if_pos hj]
theorem oS_of {N : Nat} {S : Nat → Nat → Int} (hp : primeB p = true) (hS : ∀ i, Bp p (S i)) {x : Nat → Int} (hx : Sol p n N S x) (hu : ∀ y, Sol p n N S y → cg p n y x) : oS p n N S := by
  have hpb := primeB_bd hp
  obtain ⟨⟨l, hrr⟩, hnl⟩ := ech_ok (m := n + 1) (R := S) hp N (fun i _ => hS i)
  have hs : ∀ y, Sol p n _ (echGo p (n + 1) S N).O y ↔ Sol p n N S y := fun y => by rw [sol_null, sol_null]; exact hnl _
  exact one_of_uniq (by omega) hrr (con_of_sol (by omega) hrr ((hs x).2 hx)) (fun u v hu' hv' => (hu u ((hs u).1 hu')).tr (hu v ((hs v).1 hv')).sy)
/-- What canonical vectors solve. -/
theorem cut_sol {N : Nat} {S : Nat → Nat → Int} {x : Nat → Int} (hp : 0 < p) (h : Sol p n N S x) : ∃ y, VV p n y ∧ Sol p n N S y ∧ cg p n y x := by
  refine ⟨cutF (fun j => x j % p) n, ⟨fun j => ?_, fun j hj => by unfold cutF; rw [if_neg (by omega)]⟩, ?_, fun j hj => ?_⟩
  · unfold cutF; split
    · exact ⟨Int.emod_nonneg _ (by omega), Int.emod_lt_of_pos _ hp⟩
    · omega
  · intro r hr
    refine dvd_tr ?_ (h r hr)
    refine sumZ_dvd n (fun j hj => ?_)
    refine mul_dvd (dvd_rf rfl) ?_
    unfold cutF; rw [if_pos hj]; exact dvd_mod p _
  · unfold cutF; rw [if_pos hj]; exact dvd_mod p _
/-- l01Back: x v = 1 in one way, and v x = 1 for it. -/
theorem back_iff (h : VN p n T fo) {v : Nat → Int} (hv : VV p n v) : (oS p n n (bR p n T v) ∧ timesF p n T v (sS p n n (bR p n T v)) = uF p n T ↔ iOk p n T v) ∧ (iOk p n T v → sS p n n (bR p n T v) = iF p n T v) := by
  have key : iOk p n T v → oS p n n (bR p n T v) ∧ sS p n n (bR p n T v) = iF p n T v := by
    intro hok
    obtain ⟨h1, h2, h3⟩ := iF_inv h hok
    have hs : Sol p n n (bR p n T v) (iF p n T v) := (bR_sol h).2 h3
    have ho : oS p n n (bR p n T v) := oS_of h.hp (bR_Bp h v) hs (fun y hy => by
      obtain ⟨y', hy1, hy2, hy3⟩ := cut_sol h.pp hy
      rw [inv_uniq h hy1 h1 ((bR_sol h).1 hy2) h2] at hy3
      exact hy3.sy)
    obtain ⟨a1, a2, a3⟩ := oS_sol h.hp (bR_Bp h v) ho
    exact ⟨ho, inv_uniq h a2 h1 ((bR_sol h).1 a1) h2⟩
  refine ⟨⟨fun ⟨ho, hc⟩ => ?_, fun hok => ?_⟩, fun hok => (key hok).2⟩
  · obtain ⟨a1, a2, a3⟩ := oS_sol h.hp (bR_Bp h v) ho
    exact (iOk_iff h hv).2 ⟨_, a2, hc, (bR_sol h).1 a1⟩
  · obtain ⟨k1, k2⟩ := key hok
    exact ⟨k1, by rw [k2]; exact (iF_inv h hok).2.1⟩
/-- l02Inverse: v x = 1 in one way. -/
theorem fwd_iff (h : VN p n T fo) {v : Nat → Int} (hv : VV p n v) : oS p n n (fR p n T v) ↔ iOk p n T v := by
  constructor
  · intro ho
    obtain ⟨a1, a2, a3⟩ := oS_sol h.hp (fR_Bp h v) ho
    have hx : timesF p n T v (sS p n n (fR p n T v)) = uF p n T := (fR_sol h).1 a1
    generalize sS p n n (fR p n T v) = x at a1 a2 a3 hx
    refine (iOk_iff h hv).2 ⟨x, a2, hx, ?_⟩
    -- y = x v - 1 + x solves as well
    have hy : Sol p n n (fR p n T v) (fun j => (timesF p n T x v j + (-1) * uF p n T j) + 1 * x j) := by
      refine (fR_sol h).2 ?_
      refine VV.ext (VV.times h.pp) h.u_V (fun k hk => ?_)
      rw [times_pz hk]
      refine dvd_tr (dvd_mod p _) ?_
      rw [pz_add_r, pz_add_r]
      have e1 : p ∣ pz n T v (timesF p n T x v) k - v k := by
        have : timesF p n T v (timesF p n T x v) = v := by rw [← h.asc', hx, h.one_l hv]
        have h2 := cg_times (p := p) (T := T) v (timesF p n T x v) k hk
        rw [this] at h2
        exact dvd_sy h2
      have e2 : p ∣ pz n T v (uF p n T) k - v k := pz_one_r h.RU hk
      have e3 : p ∣ pz n T v x k - uF p n T k := (pz_times h h.u_V).2 hx k hk
      have := Int.dvd_add (Int.dvd_sub e1 e2) e3
      rwa [show pz n T v (timesF p n T x v) k - v k - (pz n T v (uF p n T) k - v k) + (pz n T v x k - uF p n T k) = pz n T v (timesF p n T x v) k + -1 * pz n T v (uF p n T) k + 1 * pz n T v x k - uF p n T k by omega] at this
    refine VV.ext (VV.times h.pp) h.u_V (fun k hk => ?_)
    have h1 := a3 _ hy k hk
    rwa [show timesF p n T x v k + -1 * uF p n T k + 1 * x k - x k = timesF p n T x v k - uF p n T k by omega] at h1
  · intro hok
    obtain ⟨h1, h2, h3⟩ := iF_inv h hok
    exact oS_of h.hp (fR_Bp h v) ((fR_sol h).2 h2) (fun y hy => by
      obtain ⟨y', hy1, hy2, hy3⟩ := cut_sol h.pp hy
      rw [← inv_uniq h h1 hy1 h3 ((fR_sol h).1 hy2)] at hy3
      exact hy3.sy)
end
end Go.Am
