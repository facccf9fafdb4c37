/- Part 3 of what the law stands on: abstract values, their walk, contracts of functions. My own work. Conditions: none. -/
import Derived.Test.YtfmnokjicnagaaaPart2
import Derived.ChangeSlices
/- Plain functions: traces, powers, nilpotents, the table of the form. My own work. -/
set_option linter.unusedVariables false
set_option linter.unusedSimpArgs false
namespace Go.Am
section
variable {p : Int} {n : Nat} {T : Nat → Nat → Nat → Int}
theorem tF_bd (h : 2 ≤ p ∧ p ≤ 13) (u v : Nat → Int) (k : Nat) : 0 ≤ timesF p n T u v k ∧ timesF p n T u v k ≤ 12 := by
  have := timesF_Bp (p := p) (n := n) (T := T) (u := u) (v := v) (by omega) k
  omega
def trG (p : Int) (n : Nat) (T : Nat → Nat → Nat → Int) (v : Nat → Int) (j : Nat) : Int := timesF p n T v (eF j) j
def traceF (p : Int) (n : Nat) (T : Nat → Nat → Nat → Int) (v : Nat → Int) : Int := sumZ (trG p n T v) n % p
theorem tr_bd (h : 2 ≤ p ∧ p ≤ 13) (v : Nat → Int) {i : Nat} (hi : i ≤ 6) : 0 ≤ sumZ (trG p n T v) i ∧ sumZ (trG p n T v) i ≤ 6 * 12 := by
  have := sumZ_bd (f := trG p n T v) (M := 12) (fun j => tF_bd h _ _ _) i
  omega
/-- v, v^2, v^3, .. -/
def nilW (p : Int) (n : Nat) (T : Nat → Nat → Nat → Int) (v : Nat → Int) : Nat → Nat → Int
  | 0 => v
  | k + 1 => timesF p n T (nilW p n T v k) v
def nilB (p : Int) (n : Nat) (T : Nat → Nat → Nat → Int) (v : Nat → Int) (k : Nat) : Prop := eqN 6 (nilW p n T v k) (fun _ => 0)
noncomputable instance (p : Int) (n : Nat) (T : Nat → Nat → Nat → Int) (v : Nat → Int) (k : Nat) : Decidable (nilB p n T v k) := Classical.propDecidable _
noncomputable def nilI (p : Int) (n : Nat) (T : Nat → Nat → Nat → Int) (v : Nat → Int) : Int := idxF (fun k => decide (nilB p n T v k)) (n + 1) + 1
theorem nilW_Bp (h : 2 ≤ p) {v : Nat → Int} (hv : Bp p v) : ∀ k, Bp p (nilW p n T v k)
  | 0 => hv
  | k + 1 => timesF_Bp (by omega)
/-- u, u v, u v v, .. -/
def powV (p : Int) (n : Nat) (T : Nat → Nat → Nat → Int) (u v : Nat → Int) : Nat → Nat → Int
  | 0 => u
  | k + 1 => timesF p n T (powV p n T u v k) v
theorem powV_Bp (h : 2 ≤ p) {u v : Nat → Int} (hu : Bp p u) : ∀ k, Bp p (powV p n T u v k)
  | 0 => hu
  | k + 1 => timesF_Bp (by omega)
def formT (p : Int) (T : Nat → Nat → Nat → Int) (fo : Nat → Int) (i j : Nat) : Int := formF p fo (T i j)
theorem formT_Bp (h : 2 ≤ p) {fo : Nat → Int} (i : Nat) : Bp p (formT p T fo i) := fun j => formF_bd (by omega) _ _
/-- How many reduced rows the table of the form has. -/
def rankT (p : Int) (n : Nat) (T : Nat → Nat → Nat → Int) (fo : Nat → Int) : Nat := (redGo p n (formT p T fo) n).no
theorem VN.u_Bp {fo : Nat → Int} (h : VN p n T fo) : Bp p (uF p n T) := (uF_unit h.hp h.n0 h.hT h.u).2.2.1
theorem VN.u_V {fo : Nat → Int} (h : VN p n T fo) : VV p n (uF p n T) := ⟨(uF_unit h.hp h.n0 h.hT h.u).2.2.1, (uF_unit h.hp h.n0 h.hT h.u).2.2.2⟩
end
/-- A family of rows, handed to a callee. -/
theorem mt_fam0 {at_ : Nat → Nat → Option (AV × AV)} {ko kf N m e e2 : Nat} {w : Nat → Nat} {S F : Nat → Nat → Int} {sh : AV} (ha : at_ ko 0 = some (sh, CO kf N w e2)) (hf : ∀ r, r < N → at_ kf r = some (Z64 (w r), C64 (w r) (F r))) (hw : ∀ r, r < N → w r = m)
    (hS : ∀ r, r < N → ∀ j, j < m → F r j = S r j) : Mt V0 (rowsA N m S) (exp at_ 4 (.own ko 0 N e)) := by
  show Mt V0 _ (match at_ ko 0 with | some (_, .arr m f) => AV.ro m (fun j => exp at_ 3 (f j)) | _ => .any)
  rw [ha]
  refine ⟨rfl, fun r hr => ?_⟩
  show Mt V0 _ (match at_ kf r with | some (_, .arr m f) => AV.ro m (fun j => exp at_ 2 (f j)) | _ => .any)
  rw [hf r hr, hw r hr]
  exact ⟨rfl, fun j hj => congrArg (AV.int .i64) (hS r hr j hj)⟩
/-! ### Results seen another way -/
theorem ACalls.res {P : Program} {T : TT} {f : FuncId} {ars : List AV} {r r' : AV} {H H' : OL} {ρ : Nat → Nat → Nat × Nat} (h : ACalls P T f ars r H) (hm : Emb ρ [(0, r)] H [(0, r')] H') : ACalls P T f ars r' H' := by
  refine ⟨h.ent, fun w I cs hI ha => (h.go w I cs hI ha).mono ?_⟩
  rintro e w' ⟨c, κ, rfl, hR, hv⟩
  obtain ⟨κ2, hR2, hV⟩ := hm.rel hR
  exact ⟨c, κ2, rfl, hR2, MtE_VR hV hm.1.1 hv⟩
/-- Of rows the number alone. -/
theorem rows_len {P : Program} {T : TT} {f : FuncId} {ars : List AV} {no m e : Nat} {O : Nat → Nat → Int} (h : ACalls P T f ars (.own 0 0 no e) (HRR no m O)) : ACalls P T f ars (.own 0 0 no e) [(0, .one (ZR no) (.arr no (fun _ => .any)))] :=
  h.res (ρ := ρ0) ⟨⟨⟨rfl, rfl, rfl, rfl⟩, trivial⟩, ⟨⟨rfl, ⟨rfl, fun _ => trivial⟩, ⟨rfl, fun _ _ => rfl⟩⟩, trivial⟩, ⟨⟨fun _ => ⟨rfl, rfl⟩, trivial⟩, trivial⟩⟩
theorem rank_ech {p : Int} (hp : primeB p = true) {n : Nat} {T : Nat → Nat → Nat → Int} {fo : Nat → Int} : (echGo p n (formT p T fo) n).no = rankT p n T fo := by
  have := primeB_bd hp
  exact (ech_red hp (fun i _ => formT_Bp (by omega) i)).1
theorem w_mixc {F u : Nat → Int} (hu : B8 u) (i : Nat) : IntKind.i64.wrap (mixF F u i i) = u i := by rw [mixF_self]; exact w64b hu i
theorem add_tmod {p : Int} {u v : Nat → Int} {k : Int} (hu : B8 u) (hv : B8 v) (hk : 0 ≤ k) (i : Nat) : (u i + k * v i).tmod p = addF p u v k i :=
  tmod_nn (by have := hu i; have := Int.mul_nonneg hk (hv i).1; omega)
theorem w_addF {p : Int} (hp : 2 ≤ p ∧ p ≤ 13) (u v : Nat → Int) (k : Int) (i : Nat) : IntKind.u8.wrap (addF p u v k i) = addF p u v k i := by
  have := addF_Bp (p := p) (by omega) u v k i
  exact w8 this.1 (by omega)
theorem in_t {k a b : Int} (h : a ≤ k ∧ k ≤ b) : AV.bool (!(decide (a ≤ k) && decide (k ≤ b))) = .bool false := by rw [decide_eq_true h.1, decide_eq_true h.2]; rfl
theorem in_f {k a b : Int} (h : ¬ (a ≤ k ∧ k ≤ b)) : AV.bool (!(decide (a ≤ k) && decide (k ≤ b))) = .bool true := by
  refine congrArg AV.bool ?_
  rw [Bool.not_eq_true', Bool.and_eq_false_iff, decide_eq_false_iff_not, decide_eq_false_iff_not]
  omega
theorem not_t {p : Prop} [Decidable p] (h : p) : AV.bool (!(decide p)) = .bool false := by rw [decide_eq_true h]; rfl
theorem not_f {p : Prop} [Decidable p] (h : ¬ p) : AV.bool (!(decide p)) = .bool true := by rw [decide_eq_false h]; rfl
end Go.Am
/- The rules of the walk in short: what closes their small goals stands in them. My own work. -/
set_option linter.unusedVariables false
set_option linter.unusedSimpArgs false
namespace Go.Am
/-- Tests, as they are used. -/
theorem hcs : (∀ b : Bool, ((!b) = true) = (b = false)) ∧ (∀ b : Bool, ((!b) = false) = (b = true)) ∧ (∀ b : Bool, (¬ b = true) = (b = false)) ∧ (∀ b : Bool, (¬ b = false) = (b = true)) ∧
    (∀ (p : Prop) (_ : Decidable p), (decide p = true) = p) ∧ (∀ (p : Prop) (_ : Decidable p), (decide p = false) = ¬ p) ∧ (∀ a b : Int, (¬ a < b) = (b ≤ a)) ∧ (∀ a b : Int, (¬ a ≤ b) = (b < a)) ∧ (∀ p : Prop, (¬ ¬ p) = p) ∧ (∀ (a b : Int), (a ≠ b) = ¬ a = b) :=
  ⟨fun b => by cases b <;> simp, fun b => by cases b <;> simp, fun b => by cases b <;> simp, fun b => by cases b <;> simp, fun p _ => by simp, fun p _ => by simp, fun a b => by simp, fun a b => by simp, fun p => by simp, fun a b => rfl⟩
theorem els : (∀ b : Bool, (true || b) = true) ∧ (∀ b : Bool, (false || b) = b) ∧ (∀ b : Bool, (true && b) = b) ∧ (∀ b : Bool, (false && b) = false) ∧ (∀ b : Bool, (b || true) = true) ∧ (∀ b : Bool, (b || false) = b) :=
  ⟨fun _ => rfl, fun _ => rfl, fun _ => rfl, fun _ => rfl, fun b => by simp, fun b => by simp⟩
theorem ec {f : AV → AV} {a b : AV} {l bs : List AV} (ht : l.map f = bs) (h : f a = b := by first | exact rfl | exact exp_alg | exact exp_calg | exact ex_vl | exact exp_closed (by assumption)) : (a :: l).map f = b :: bs := exc h ht
section
variable {P : Program} {T : TT} {env : Env} {ol : OL}
variable {all : Array Oper} {r : List Oper} {R : Env → OL → Prop} {ty : TypeId} {pos : String} {af : Array Edge} {x y : Operand} {d : Nat} {t u : TypeId}
theorem y_call {f : Operand} {args : Array Operand} {aty : Array TypeId} {g n : Nat} {caps : Nat → AV} {ars : List AV} {v : AV} (hf : callee (evE env) f = .fn g n caps) (ha : (args.toList.map (evE env) ++ capL n caps).map (exp ol.at_ 4) = ars) (hc : ACalls P T g ars v [])
    (hr : WOps P T all r ((d, v) :: env) ol R)
    (hn : v.noref := by first | exact trivial | exact fun _ => trivial | exact fun _ _ => trivial | exact fun _ _ _ => trivial | exact nr_alg | exact nr_pair (by first | exact trivial | exact fun _ => trivial | exact nr_alg) (by first | exact trivial | exact fun _ => trivial))
    (hs : ∀ b, shift b v = v := by exact fun _ => by first | exact rfl | exact shift_alg | exact shift_pair rfl rfl | exact shift_pair shift_alg rfl) :
    WOps P T all (⟨some d, .call { callee := .value f, args := args, argTypes := aty }, ty, pos, af, none⟩ :: r) env ol R := w_call0 hf ha hc hn hs hr
theorem y_add {k : IntKind} {a b c : Int} (hx : evE env x = .int k a) (hy : evE env y = .int k b) (hr : WOps P T all r ((d, .int k c) :: env) ol R) (hc : k.wrap (a + b) = c := by first | exact w64 (by omega) (by omega) | exact w64b (by assumption) _ | exact w64t (by assumption) _ _ _ | exact w8 (by omega) (by omega) | exact w8b (by assumption) _ | exact rfl) : WOps P T all (⟨some d, .binOp .add t x y u, ty, pos, af, none⟩ :: r) env ol R := w_add hx hy hc hr
theorem y_sub {k : IntKind} {a b c : Int} (hx : evE env x = .int k a) (hy : evE env y = .int k b) (hr : WOps P T all r ((d, .int k c) :: env) ol R) (hc : k.wrap (a - b) = c := by first | exact w64 (by omega) (by omega) | exact w64b (by assumption) _ | exact w64t (by assumption) _ _ _ | exact w8 (by omega) (by omega) | exact w8b (by assumption) _ | exact rfl) : WOps P T all (⟨some d, .binOp .sub t x y u, ty, pos, af, none⟩ :: r) env ol R := w_sub hx hy hc hr
theorem y_mul {k : IntKind} {a b c : Int} (hx : evE env x = .int k a) (hy : evE env y = .int k b) (hr : WOps P T all r ((d, .int k c) :: env) ol R) (hc : k.wrap (a * b) = c := by first | exact w64 (by omega) (by omega) | exact w64b (by assumption) _ | exact w64t (by assumption) _ _ _ | exact w8 (by omega) (by omega) | exact w8b (by assumption) _ | exact rfl) : WOps P T all (⟨some d, .binOp .mul t x y u, ty, pos, af, none⟩ :: r) env ol R := w_mul hx hy hc hr
theorem y_conv {k k0 k' : IntKind} {n c : Int} (hx : evE env x = .int k n) (ht : T.und t = .int k0) (hu : T.und u = .int k') (hr : WOps P T all r ((d, .int k' c) :: env) ol R) (hc : k'.wrap n = c := by first | exact w64 (by omega) (by omega) | exact w64b (by assumption) _ | exact w64t (by assumption) _ _ _ | exact w8 (by omega) (by omega) | exact w8b (by assumption) _ | exact rfl) : WOps P T all (⟨some d, .convert t u x, ty, pos, af, none⟩ :: r) env ol R := w_conv hx ht hu hc hr
end
end Go.Am
/- Texts, slices of what is read: rules of the walk. My own work. -/
set_option linter.unusedVariables false
set_option linter.unusedSimpArgs false
namespace Go.Am
section
variable {P : Program} {T : TT} {env : Env} {ol : OL}
variable {all : Array Oper} {r : List Oper} {R : Env → OL → Prop} {ty : TypeId} {pos : String} {af : Array Edge} {x y : Operand} {d : Nat} {t u : TypeId}
theorem w_seql {a b : ByteArray} (hx : evE env x = .strg a) (hy : evE env y = .strg b) (ht : T.und t = .str) (hr : WOps P T all r ((d, .bool (decide (a.toList = b.toList))) :: env) ol R) : WOps P T all (⟨some d, .binOp .eql t x y u, ty, pos, af, none⟩ :: r) env ol R := by
  simp only [WOps, WOp, PW, putE]
  rw [hx, hy]; simp only [BW, ht]
  exact CmpW_dec hr
theorem w_sneq {a b : ByteArray} (hx : evE env x = .strg a) (hy : evE env y = .strg b) (ht : T.und t = .str) (hr : WOps P T all r ((d, .bool (decide (a.toList ≠ b.toList))) :: env) ol R) : WOps P T all (⟨some d, .binOp .neq t x y u, ty, pos, af, none⟩ :: r) env ol R := by
  simp only [WOps, WOp, PW, putE]
  rw [hx, hy]; simp only [BW, ht]
  exact CmpW_dec hr
theorem w_cstr {n e : Nat} {f : Nat → Int} (hx : evE env x = .ro n (fun i => .int .u8 (f i))) (ht : T.und t = .slc e) (he : T.und e = .int .u8) (hu : T.und u = .str) (hb : B8 f) (hr : WOps P T all r ((d, .strg (bytesF n f)) :: env) ol R) : WOps P T all (⟨some d, .convert t u x, ty, pos, af, none⟩ :: r) env ol R := by
  simp only [WOps, WOp, PW, putE]
  rw [hx]; simp only [ConvW, ht, hu, he]
  exact ⟨fun i _ => ⟨rfl, hb i⟩, hr⟩
theorem w_sl_ah {n e m : Nat} {g : Nat → AV} {k : IntKind} (hx : evE env x = .cptr (.arr n g)) (hy : evE env y = .int k (m : Int)) (ht : T.und t = .arr n e) (hk : (T.und e).known = true) (hz : (g 0).size = T.sz e) (hm : n ≤ maxLen) (hb : m ≤ n) (hr : WOps P T all r ((d, .ro m g) :: env) ol R) : WOps P T all (⟨some d, .slice t x none (some y) none, ty, pos, af, none⟩ :: r) env ol R := by
  simp only [WOps, WOp, PW, putE]
  rw [hx]; simp only [SliceW, ht, Option.map_some, Option.map_none, hy, bdW]
  refine ⟨trivial, hk, hz, hm, ⟨by omega, by omega, by omega, rfl⟩, ?_⟩
  have e1 : (m : Int).toNat - ((0 : Nat) : Int).toNat = m := by simp
  have e2 : (fun i => g (((0 : Nat) : Int).toNat + i)) = g := funext fun i => by simp
  rw [e1, e2]; exact hr
theorem w_sl_aa {n e : Nat} {g : Nat → AV} (hx : evE env x = .cptr (.arr n g)) (ht : T.und t = .arr n e) (hk : (T.und e).known = true) (hz : (g 0).size = T.sz e) (hm : n ≤ maxLen) (hr : WOps P T all r ((d, .ro n g) :: env) ol R) : WOps P T all (⟨some d, .slice t x none none none, ty, pos, af, none⟩ :: r) env ol R := by
  simp only [WOps, WOp, PW, putE]
  rw [hx]; simp only [SliceW, ht, Option.map_none, bdW]
  refine ⟨trivial, hk, hz, hm, ⟨by omega, by omega, by omega, rfl⟩, ?_⟩
  have e1 : (n : Int).toNat - ((0 : Nat) : Int).toNat = n := by simp
  have e2 : (fun i => g (((0 : Nat) : Int).toNat + i)) = g := funext fun i => by simp
  rw [e1, e2]; exact hr
theorem w_sl_rh {n e m : Nat} {g : Nat → AV} {k : IntKind} (hx : evE env x = .ro n g) (hy : evE env y = .int k (m : Int)) (ht : T.und t = .slc e) (hk : (T.und e).known = true) (hz : (g 0).size = T.sz e) (hb : m ≤ n) (hr : WOps P T all r ((d, .ro m g) :: env) ol R) : WOps P T all (⟨some d, .slice t x none (some y) none, ty, pos, af, none⟩ :: r) env ol R := by
  simp only [WOps, WOp, PW, putE]
  rw [hx]; simp only [SliceW, ht, Option.map_some, Option.map_none, hy, bdW]
  refine ⟨hk, hz, ⟨by omega, by omega, by omega, rfl⟩, ?_⟩
  have e1 : (m : Int).toNat - ((0 : Nat) : Int).toNat = m := by simp
  have e2 : (fun i => g (((0 : Nat) : Int).toNat + i)) = g := funext fun i => by simp
  rw [e1, e2]; exact hr
theorem w_sl_rl {n e m : Nat} {g : Nat → AV} {k : IntKind} (hx : evE env x = .ro n g) (hy : evE env y = .int k (m : Int)) (ht : T.und t = .slc e) (hk : (T.und e).known = true) (hz : (g 0).size = T.sz e) (hz2 : (g m).size = (g 0).size) (hb : m ≤ n) (hr : WOps P T all r ((d, .ro (n - m) (fun i => g (m + i))) :: env) ol R) : WOps P T all (⟨some d, .slice t x (some y) none none, ty, pos, af, none⟩ :: r) env ol R := by
  simp only [WOps, WOp, PW, putE]
  rw [hx]; simp only [SliceW, ht, Option.map_some, Option.map_none, hy, bdW]
  refine ⟨hk, hz, ⟨by omega, by omega, by omega, hz2⟩, ?_⟩
  have e1 : (n : Int).toNat - (m : Int).toNat = n - m := by simp
  have e2 : (fun i => g ((m : Int).toNat + i)) = fun i => g (m + i) := funext fun i => by simp
  rw [e1, e2]; exact hr
end
/-- A vector's letters. -/
def digF (x : Int) : Int := if x < 10 then 48 + x else 87 + x
theorem digF_tab : ∀ x : Nat, x < 13 → byteAt ⟨#[48, 49, 50, 51, 52, 53, 54, 55, 56, 57, 97, 98, 99]⟩ x = digF x := by decide
theorem digF_B8 {v : Nat → Int} (h : ∀ i, 0 ≤ v i ∧ v i < 13) : B8 (fun i => digF (v i)) := fun i => by
  have := h i
  show 0 ≤ digF (v i) ∧ digF (v i) < 256
  unfold digF; split <;> omega
/-- The text of a vector. -/
def txtF (n : Nat) (v : Nat → Int) : ByteArray := bytesF n (fun i => digF (v i))
theorem dig_lo {x : Int} (h : 0 ≤ x ∧ x < 10) : IntKind.u8.wrap (48 + x) = digF x := by
  unfold digF; rw [if_pos h.2]; exact w8 (by omega) (by omega)
theorem dig_hi {x : Int} (h : 10 ≤ x ∧ x < 13) : IntKind.u8.wrap (IntKind.u8.wrap (97 + x) - 10) = digF x := by
  have e : IntKind.u8.wrap (97 + x) = 97 + x := w8 (by omega) (by omega)
  rw [e]
  unfold digF; rw [if_neg (by omega)]
  have e2 : IntKind.u8.wrap (97 + x - 10) = 97 + x - 10 := w8 (by omega) (by omega)
  rw [e2]; omega
theorem dig_at {x : Int} (h : 0 ≤ x ∧ x < 13) : byteAt ⟨#[48, 49, 50, 51, 52, 53, 54, 55, 56, 57, 97, 98, 99]⟩ x.toNat = digF x := by
  rw [digF_tab x.toNat (by omega), Int.toNat_of_nonneg h.1]
theorem VV.v13 {p : Int} {n : Nat} {v : Nat → Int} (h : VV p n v) (hp : p ≤ 13) (i : Nat) : 0 ≤ v i ∧ v i < 13 := by have := h.b i; omega
end Go.Am
/- Calls that turn objects of the caller's own: names pinned to their blocks. My own work. -/
set_option linter.unusedVariables false
set_option linter.unusedSimpArgs false
namespace Go.Am
def allP (F : Nat → Prop) : List Nat → Prop
  | [] => True
  | k :: r => F k ∧ allP F r
theorem allP_mem {F : Nat → Prop} : ∀ {l : List Nat}, allP F l → ∀ k, k ∈ l → F k
  | a :: r, h, k, hk => by
    rcases List.mem_cons.1 hk with rfl | hk
    · exact h.1
    · exact allP_mem h.2 k hk

/-- The names are at their blocks; no block that was there has turned its size. -/
structure PinOk (ks : List Nat) (κ0 : Gh) (X : Cx) (κ : Gh) (ol : OL) (w : World) : Prop where
  has : ∀ k, k ∈ ks → ol.has k = true
  blk : ∀ k, k ∈ ks → ∀ i, κ.blk k i = κ0.blk k i ∧ κ.shp k i = κ0.shp k i
  size : ∀ (b : Nat) cur e fr, X.w0.heap[b]? = some (.cells cur e fr) → ∃ cur' fr', w.heap[b]? = some (.cells cur' e fr') ∧ cur'.size = cur.size
section
variable {ks : List Nat} {κ0 : Gh} {X : Cx}
theorem PinOk.le {κ κ' : Gh} {ol ol' : OL} {w w' : World} (h : PinOk ks κ0 X κ ol w) (hle : Le (KK X κ ol.ob w) (KK X κ' ol'.ob w')) : PinOk ks κ0 X κ' ol' w' where
  has := fun k hk => hle.dom k (h.has k hk)
  blk := fun k hk i => ⟨((hle.blk k i (h.has k hk)).1).trans (h.blk k hk i).1, ((hle.blk k i (h.has k hk)).2).trans (h.blk k hk i).2⟩
  size := fun b cur e fr hb => by
    obtain ⟨c1, f1, h1, e1⟩ := h.size b cur e fr hb
    obtain ⟨c2, f2, h2, e2⟩ := hle.size b c1 e f1 h1
    exact ⟨c2, f2, h2, e2.trans e1⟩
def pins (ks : List Nat) (ρ : Nat → Nat → Nat × Nat) (ol : OL) : Prop := allP (fun k => (∀ i, ρ k i = (k, i)) ∧ ol.has k = true) ks
theorem PinOk.emb {κ κ' : Gh} {ol ol' : OL} {w : World} {ρ : Nat → Nat → Nat × Nat} (h : PinOk ks κ0 X κ' ol' w) (hp : pins ks ρ ol) (hV : VwOk (vwOf ρ ol' ol) (KK X κ' ol'.ob w) (KK X κ ol.ob w)) : PinOk ks κ0 X κ ol w where
  has := fun k hk => (allP_mem hp k hk).2
  blk := fun k hk i => ⟨((hV.blk k i k i ((allP_mem hp k hk).1 i)).1).trans (h.blk k hk i).1, ((hV.blk k i k i ((allP_mem hp k hk).1 i)).2).trans (h.blk k hk i).2⟩
  size := h.size
end
def QQp (ks : List Nat) (κ0 : Gh) (X : Cx) (N : Nat) (Q : Exit → Env → OL → Prop) : Exit → Act → World → Prop := fun ex a w =>
  ∃ κ env ol, Q ex env ol ∧ Rel X κ ol.ob w ∧ EnvR (KK X κ ol.ob w) env a.tmps ∧ a.tmps.size = N ∧ a.defers = [] ∧ PinOk ks κ0 X κ ol w
section
variable {P : Program} {T : TT} {ks : List Nat}
theorem WOps_soundp (hT : TOk P T) (arr : Array Oper) {N : Nat} {κ0 : Gh} {Q : Exit → Env → OL → Prop} : ∀ (ops : List Oper) (env : Env) (ol : OL), WOps P T arr ops env ol (fun env' ol' => Q .normal env' ol') → dstOk N ops = true →
    ∀ (X : Cx) (κ : Gh) (a : Act) (w : World), X.P = P → X.T = T → Rel X κ ol.ob w → EnvR (KK X κ ol.ob w) env a.tmps → a.tmps.size = N → a.defers = [] → PinOk ks κ0 X κ ol w → wpList P arr (QQp ks κ0 X N Q) ops a w
  | [], env, ol, h, _, X, κ, a, w, hP, hTT, hR, hE, hN, hD, hp => ⟨κ, env, ol, h, hR, hE, hN, hD, hp⟩
  | o :: r, env, ol, h, hdst, X, κ, a, w, hP, hTT, hR, hE, hN, hD, hp => by
    simp only [dstOk, List.all_cons, Bool.and_eq_true] at hdst
    have hlt : ∀ t, o.dst = some t → t < a.tmps.size := fun t ht => by
      have := hdst.1
      rw [ht] at this
      rw [hN]; simpa [Nat.blt_eq] using this
    have run : WOp P T o (evE env) ol (fun v ol' => WOps P T arr r (putE o.dst v env) ol' (fun env' ol' => Q .normal env' ol')) → o.wp P a w (wpList P arr (QQp ks κ0 X N Q) r) (QQp ks κ0 X N Q) := by
      intro hw
      obtain ⟨v, ol', h1, h2⟩ := WOp_out hT hw
      have := h2 X κ w a hP hTT hR hE
      unfold Oper.wp
      rw [← hP]
      rw [← hP] at this
      refine upon_of_Out this (fun c w' κ' hR' hv hle => ?_)
      rw [hP]
      exact WOps_soundp hT arr r _ ol' h1 hdst.2 X κ' _ w' hP hTT hR' ((hE.mono hle).put hv hlt) (by rw [Act.put_size]; exact hN) (by rw [Act.put_defers]; exact hD) (hp.le hle)
    have skip : WOps P T arr r (putE o.dst undA env) ol (fun env' ol' => Q .normal env' ol') → wpList P arr (QQp ks κ0 X N Q) r (a.put o.dst undef) w := fun hw =>
      WOps_soundp hT arr r _ ol hw hdst.2 X κ _ w hP hTT hR (hE.put (undA_ok _) hlt) (by rw [Act.put_size]; exact hN) (by rw [Act.put_defers]; exact hD) hp
    unfold WOps at h
    unfold wpList
    split at h
    · rename_i hg
      rw [if_pos (by simp [Region.wanted, hg])]
      exact .inl (run h)
    · rename_i j want hg
      split at h
      · rename_i d hd
        split at h
        · rename_i b hb
          have hy := yielded_of hd hE hb (dst_lt_of_eq hE hb)
          split at h
          · rename_i hbw
            have : b = want := by simpa using hbw
            subst this
            rw [if_pos (by simp [Region.wanted, hg, hy])]
            exact .inl (run h)
          · rename_i hbw
            have : b ≠ want := by simpa using hbw
            rw [if_neg (by simp [Region.wanted, hg, hy, this])]
            exact skip h
        · rename_i f hb
          have hy := yielded_none hd hE hb
          rw [if_neg (by simp [Region.wanted, hg, hy])]
          exact skip h
        · exact h.elim
      · exact h.elim

/-- As Snd, the names ks staying where they are. -/
def Snp (ks : List Nat) (P : Program) (T : TT) (N : Nat) (c : Code) (env : Env) (ol : OL) (Q : Exit → Env → OL → Prop) : Prop :=
  ∀ (κ0 : Gh) (X : Cx) (κ : Gh) (a : Act) (w : World), X.P = P → X.T = T → Rel X κ ol.ob w → EnvR (KK X κ ol.ob w) env a.tmps → a.tmps.size = N → a.defers = [] → PinOk ks κ0 X κ ol w → c.wp P (QQp ks κ0 X N Q) a w
variable {N : Nat} {env : Env} {ol : OL} {Q : Exit → Env → OL → Prop}
theorem snp_skip (h : Q .normal env ol) : Snp ks P T N .skip env ol Q := fun κ0 X κ a w hP hTT hR hE hN hD hp => wp_skip ⟨κ, env, ol, h, hR, hE, hN, hD, hp⟩
theorem snp_exit {id : Nat} (h : Q (.exit id) env ol) : Snp ks P T N (.exit id) env ol Q := fun κ0 X κ a w hP hTT hR hE hN hD hp => wp_exit ⟨κ, env, ol, h, hR, hE, hN, hD, hp⟩
theorem snp_ret (h : Q .ret env ol) : Snp ks P T N .ret env ol Q := fun κ0 X κ a w hP hTT hR hE hN hD hp => wp_ret ⟨κ, env, ol, h, hR, hE, hN, hD, hp⟩
def thnp (ks : List Nat) (P : Program) (T : TT) (N : Nat) (y : Code) (Q : Exit → Env → OL → Prop) : Exit → Env → OL → Prop
  | .normal, env, ol => Snp ks P T N y env ol Q
  | e, env, ol => Q e env ol
theorem snp_seq {x y : Code} (h : Snp ks P T N x env ol (thnp ks P T N y Q)) : Snp ks P T N (.seq x y) env ol Q := by
  intro κ0 X κ a w hP hTT hR hE hN hD hp
  refine wp_seq (wp_mono (h κ0 X κ a w hP hTT hR hE hN hD hp) ?_)
  rintro ex a' w' ⟨κ', env', ol', hq, hR', hE', hN', hD', hp'⟩
  cases ex with
  | normal => exact hq κ0 X κ' a' w' hP hTT hR' hE' hN' hD' hp'
  | _ => exact ⟨κ', env', ol', hq, hR', hE', hN', hD', hp'⟩
theorem snp_region (hT : TOk P T) {id : Nat} {ops : Array Oper} (hd : dstOk N ops.toList = true) (h : WOps P T ops ops.toList env ol (fun env' ol' => Q .normal env' ol')) : Snp ks P T N (.region id ops false) env ol Q :=
  fun κ0 X κ a w hP hTT hR hE hN hD hp => wp_region_list (WOps_soundp hT ops ops.toList env ol h hd X κ a w hP hTT hR hE hN hD hp)
theorem snp_cond_true {c : Operand} {x y : Code} (hc : evE env c = .bool true) (h : Snp ks P T N x env ol Q) : Snp ks P T N (.cond c x y) env ol Q := by
  intro κ0 X κ a w hP hTT hR hE hN hD hp
  have := hE.ev c
  rw [hc] at this
  exact wp_cond_true (VR_bool this) (h κ0 X κ a w hP hTT hR hE hN hD hp)
theorem snp_cond_false {c : Operand} {x y : Code} (hc : evE env c = .bool false) (h : Snp ks P T N y env ol Q) : Snp ks P T N (.cond c x y) env ol Q := by
  intro κ0 X κ a w hP hTT hR hE hN hD hp
  have := hE.ev c
  rw [hc] at this
  exact wp_cond_false (VR_bool this) (h κ0 X κ a w hP hTT hR hE hN hD hp)
theorem snp_cond {c : Operand} {x y : Code} (b : Bool) (hc : evE env c = .bool b) (ht : b = true → Snp ks P T N x env ol Q) (hf : b = false → Snp ks P T N y env ol Q) : Snp ks P T N (.cond c x y) env ol Q := by
  cases b
  · exact snp_cond_false hc (hf rfl)
  · exact snp_cond_true hc (ht rfl)
theorem snp_block {id : Nat} {c : Code} (h : Snp ks P T N c env ol (inB id Q)) : Snp ks P T N (.block id c) env ol Q := by
  intro κ0 X κ a w hP hTT hR hE hN hD hp
  refine wp_block (wp_mono (h κ0 X κ a w hP hTT hR hE hN hD hp) ?_)
  rintro ex a' w' ⟨κ', env', ol', hq, hR', hE', hN', hD', hp'⟩
  cases ex with
  | exit id' =>
    simp only [Exit.inBlock]
    simp only [inB] at hq
    by_cases hid : id' = id
    · subst hid
      rw [if_pos rfl]
      simp only [Nat.beq_refl, cond_true] at hq
      exact ⟨κ', env', ol', hq, hR', hE', hN', hD', hp'⟩
    · rw [if_neg hid]
      simp only [beq_ff hid, cond_false] at hq
      exact ⟨κ', env', ol', hq, hR', hE', hN', hD', hp'⟩
  | _ => exact ⟨κ', env', ol', hq, hR', hE', hN', hD', hp'⟩
theorem snp_emb {ρ : Nat → Nat → Nat × Nat} {env2 : Env} {ol2 : OL} {c : Code} (h : Emb ρ env ol env2 ol2) (hpi : pins ks ρ ol2) (hs : Snp ks P T N c env2 ol2 Q) : Snp ks P T N c env ol Q := by
  intro κ0 X κ a w hP hTT hR hE hN hD hp
  obtain ⟨κ2, hR2, hV⟩ := h.rel hR
  exact hs κ0 X κ2 a w hP hTT hR2 (h.envR hV hE) hN hD (hp.emb hpi hV)
def rndp (ks : List Nat) {S : Type} (I : S → Env × OL) (Pr : S → Prop) (μ : S → Nat) (x : S) (Q : Exit → Env → OL → Prop) : Exit → Env → OL → Prop
  | .normal, env', ol' => ∃ x' ρ, (Emb ρ env' ol' (I x').1 (I x').2 ∧ pins ks ρ (I x').2) ∧ Pr x' ∧ μ x' < μ x
  | e, env', ol' => Q e env' ol'
theorem snp_loop {S : Type} {c : Code} (I : S → Env × OL) (Pr : S → Prop) (μ : S → Nat) (x0 : S) (ρ : Nat → Nat → Nat × Nat) (h0 : Emb ρ env ol (I x0).1 (I x0).2 ∧ pins ks ρ (I x0).2) (hp : Pr x0)
    (round : ∀ x, Pr x → Snp ks P T N c (I x).1 (I x).2 (rndp ks I Pr μ x Q)) : Snp ks P T N (.loop c) env ol Q := by
  refine snp_emb h0.1 h0.2 ?_
  intro κ0 X κ a w hP hTT hR hE hN hD hpin
  have key : ∀ n x, μ x = n → Pr x → ∀ (κ : Gh) (a : Act) (w : World), Rel X κ (I x).2.ob w → EnvR (KK X κ (I x).2.ob w) (I x).1 a.tmps → a.tmps.size = N → a.defers = [] → PinOk ks κ0 X κ (I x).2 w →
      ∀ (b : Frame) (k : List Item) (cs : List Frame), ∃ e a' w', QQp ks κ0 X N Q e a' w' ∧ Arrives P (lone (b.at a (.code c :: .inLoop c :: k)) cs w) b k cs e a' w' := by
    intro n
    induction n using Nat.strongRecOn with
    | _ n ih =>
      intro x hx hpx κ a w hR hE hN hD hpin b k cs
      obtain ⟨e, a1, w1, hq, harr⟩ := round x hpx κ0 X κ a w hP hTT hR hE hN hD hpin b (.inLoop c :: k) cs
      obtain ⟨κ', env', ol', hq, hR', hE', hN', hD', hpin'⟩ := hq
      cases e with
      | normal =>
        obtain ⟨x', ρ', ⟨hemb, hpi⟩, hpx', hlt⟩ := hq
        obtain ⟨κ2, hR2, hV⟩ := hemb.rel hR'
        obtain ⟨e2, a2, w2, hq2, harr2⟩ := ih (μ x') (hx ▸ hlt) x' rfl hpx' κ2 a1 w1 hR2 (hemb.envR hV hE') hN' hD' (hpin'.emb hpi hV) b k cs
        exact ⟨e2, a2, w2, hq2, .of_steps (Steps.trans harr (.one step_inLoop)) harr2⟩
      | exit id => exact ⟨_, a1, w1, ⟨κ', env', ol', hq, hR', hE', hN', hD', hpin'⟩, .pass (x := .inLoop c) rfl (fun _ _ => .inl (by simp)) harr⟩
      | goto l => exact ⟨_, a1, w1, ⟨κ', env', ol', hq, hR', hE', hN', hD', hpin'⟩, .pass (x := .inLoop c) rfl (fun _ _ => .inl (by simp)) harr⟩
      | ret => exact ⟨_, a1, w1, ⟨κ', env', ol', hq, hR', hE', hN', hD', hpin'⟩, .pass (x := .inLoop c) rfl (fun _ _ => .inl (by simp)) harr⟩
      | panic ch => exact ⟨_, a1, w1, ⟨κ', env', ol', hq, hR', hE', hN', hD', hpin'⟩, .pass (x := .inLoop c) rfl (fun _ _ => .inl (by simp)) harr⟩
      | outgrown => exact ⟨_, a1, w1, ⟨κ', env', ol', hq, hR', hE', hN', hD', hpin'⟩, .pass (x := .inLoop c) rfl (fun _ _ => .inl (by simp)) harr⟩
  intro b k cs
  obtain ⟨e, a', w', hq, harr⟩ := key _ x0 rfl hp κ a w hR hE hN hD hpin b k cs
  exact ⟨e, a', w', hq, .of_steps (.one step_loop) harr⟩
/-- A function that turns objects of its caller's: called with the objects ol0 it returns r and leaves them as ol1. -/
structure MCalls (P : Program) (T : TT) (f : FuncId) (ks : List Nat) (ars : List AV) (ol0 : OL) (r : AV) (ol1 : OL) : Prop where
  ent : Ent P f
  go : ∀ (X : Cx) (κ : Gh) (w : World) (cs : List Value), X.P = P → X.T = T → X.w0 = w → Rel X κ ol0.ob w → VRs (KK X κ ol0.ob w) ars cs →
    Calls P f cs.toArray w (fun e w' => ∃ c κ', e = .returned c ∧ Rel X κ' ol1.ob w' ∧ VR (KK X κ' ol1.ob w') r c ∧ PinOk ks κ X κ' ol1 w')
def retQp (ks : List Nat) (T : TT) (rs : List ResultVar) (r : AV) (H : OL) : Exit → Env → OL → Prop
  | .normal, env, ol => RetW T rs env ol (fun v => ∃ ρ, Emb ρ [(0, v)] ol [(0, r)] H ∧ pins ks ρ H)
  | .ret, env, ol => RetW T rs env ol (fun v => ∃ ρ, Emb ρ [(0, v)] ol [(0, r)] H ∧ pins ks ρ H)
  | _, _, _ => False
theorem mcalls_of (hT : TOk P T) {f : FuncId} {fn : Func} {c : Code} {ars : List AV} {r : AV} {ol0 H : OL} (hf : P.funcs[f]? = some fn) (hb : fn.body = some c) (hname : (fn.name == "runtime.NumGoroutine") = false)
    (hN : ars.length ≤ fn.ntmps) (hk : allP (fun k => ol0.has k = true) ks) (h : Snp ks P T fn.ntmps c (argsEnv 0 ars) ol0 (retQp ks T fn.results.toList r H)) : MCalls P T f ks ars ol0 r H := by
  refine ⟨fun args w => ?_, fun X κ w cs hP hTT hw0 hR hvs => ?_⟩
  · have hn2 : ¬ fn.name = "runtime.NumGoroutine" := by simpa using hname
    simp [callFunc, hf, hn2, hb]
  · have hlen : ∀ (ars : List AV) (cs : List Value) (K : Kx), VRs K ars cs → cs.length = ars.length := by
      intro ars
      induction ars with
      | nil => intro cs K h; cases cs with
        | nil => rfl
        | cons => exact h.elim
      | cons a ars ih => intro cs K h; cases cs with
        | nil => exact h.elim
        | cons c cs => simp [ih cs K h.2]
    have hl := hlen ars cs _ hvs
    refine calls_of_wp hf hb ?_
    have hp0 : PinOk ks κ X κ ol0 w := ⟨fun k hk' => allP_mem hk k hk', fun _ _ _ => ⟨rfl, rfl⟩, fun b cur e fr hb => ⟨cur, fr, by rw [← hw0]; exact hb, rfl⟩⟩
    refine wp_mono (h κ X κ _ w hP hTT hR (fun t => ?_) ?_ rfl hp0) ?_
    · have := argsEnv_ok ars cs 0 t hvs
      rw [if_pos (Nat.zero_le _), Nat.sub_zero] at this
      have e : (cs.toArray ++ Array.replicate (fn.ntmps - cs.toArray.size) undef).getD t undef = cs.getD t undef := by
        simp only [Array.getD_eq_getD_getElem?, List.getD_eq_getElem?_getD]
        rw [Array.getElem?_append]
        split
        · simp
        · rename_i hge
          rw [List.getElem?_eq_none (by simpa using hge)]
          rw [Array.getElem?_replicate]
          split <;> rfl
      rw [e]
      exact this
    · simp only [Array.size_append, List.size_toArray, Array.size_replicate]
      omega
    · rintro ex a' w' ⟨κ', env', ol', hq, hR', hE', hN', hD', hp'⟩
      have fin : RetW T fn.results.toList env' ol' (fun v => ∃ ρ, Emb ρ [(0, v)] ol' [(0, r)] H ∧ pins ks ρ H) → a'.defers = [] ∧ ∃ v, (results fn a'.tmps).run P w' = .ok v w' ∧ (∃ c κ', Ending.returned v = .returned c ∧ Rel X κ' H.ob w' ∧ VR (KK X κ' H.ob w') r c ∧ PinOk ks κ X κ' H w') := by
        intro hret
        obtain ⟨v, ⟨ρ, hemb, hpi⟩, hrun⟩ := RetW_run hT hret
        obtain ⟨c, h1, h2⟩ := hrun _ κ' w' a'.tmps hP hTT hR' hE'
        obtain ⟨κ2, hR2, hV⟩ := hemb.rel hR'
        refine ⟨hD', c, h1, c, κ2, rfl, hR2, ?_, hp'.emb hpi hV⟩
        exact MtE_VR hV hemb.1.1 h2
      cases ex with
      | normal => exact fin hq
      | ret => exact fin hq
      | _ => exact hq.elim
end
end Go.Am
/- The caller's side of a call that turns objects of his. My own work. -/
set_option linter.unusedVariables false
set_option linter.unusedSimpArgs false
namespace Go.Am
/-- Names only objects of D. -/
def AV.inner (D : Nat → Bool) : AV → Prop
  | .arr _ f => ∀ i, (f i).inner D
  | .sct _ f => ∀ i, (f i).inner D
  | .tup _ f => ∀ i, (f i).inner D
  | .own k _ _ _ => D k = true
  | .cptr _ => False
  | .ro _ _ => False
  | .ptr _ _ _ _ _ => False
  | .fn _ n _ => n = 0
  | _ => True
def innerH (D : Nat → Bool) : OL → Prop
  | [] => True
  | (_, .one _ c) :: r => c.inner D ∧ innerH D r
  | (_, .gone) :: r => innerH D r
  | (_, .many f) :: r => (∀ i sh c, f i = some (sh, c) → c.inner D) ∧ innerH D r
theorem innerH_at {D : Nat → Bool} {H : OL} (h : innerH D H) {k i : Nat} {sh c : AV} (hk : H.at_ k i = some (sh, c)) : c.inner D := by
  induction H with
  | nil => cases hk
  | cons p r ih =>
    obtain ⟨k', G⟩ := p
    simp only [OL.at_] at hk
    cases G with
    | one s1 c1 =>
      cases hb : Nat.beq k k'
      · rw [hb] at hk; exact ih h.2 hk
      · rw [hb] at hk
        simp only [cond_true, Fam.at_] at hk
        cases hi : Nat.beq i 0
        · rw [hi] at hk; cases hk
        · rw [hi] at hk
          simp only [cond_true, Option.some.injEq, Prod.mk.injEq] at hk
          rw [← hk.2]; exact h.1
    | gone =>
      cases hb : Nat.beq k k'
      · rw [hb] at hk; exact ih h hk
      · rw [hb] at hk; cases hk
    | many f =>
      cases hb : Nat.beq k k'
      · rw [hb] at hk; exact ih h.2 hk
      · rw [hb] at hk
        exact h.1 i sh c hk
/-- Two pictures of one memory in which the names of D stand alike. -/
structure SameD (D : Nat → Bool) (K K' : Kx) : Prop where
  heap : K'.heap = K.heap
  dom : ∀ k, D k = true → K'.dom k
  blk : ∀ k, D k = true → ∀ i, K'.blk k i = K.blk k i ∧ K'.shp k i = K.shp k i
  sz : K'.sz = K.sz
  zr : K'.zr = K.zr
theorem ownR_same {D : Nat → Bool} {K K' : Kx} (h : SameD D K K') {k i n : Nat} {e : TypeId} {c : Value} (hk : D k = true) (ho : K.ownR k i n e c) : K'.ownR k i n e c := by
  obtain ⟨_, hn, cap, cur, fr, rfl, h1, h2, h3, h4⟩ := ho
  obtain ⟨b1, b2⟩ := h.blk k hk i
  exact ⟨h.dom k hk, by rw [b2, h.zr]; exact hn, cap, cur, fr, by rw [b1], h1, h2, by rw [b1, h.heap]; exact h3, by rw [h.sz]; exact h4⟩
theorem FL_inner {D : Nat → Bool} {K K' : Kx} (h : SameD D K K') : ∀ {v : AV} {cs : List Value}, v.inner D → FL K v cs → FL K' v cs := by
  intro v
  induction v with
  | arr n f ih =>
    rintro cs hv ⟨g, rfl, hg⟩
    exact ⟨g, rfl, fun i hi => ⟨ih i (hv i) (hg i hi).1, (hg i hi).2⟩⟩
  | sct n f ih =>
    rintro cs hv ⟨g, rfl, hg⟩
    exact ⟨g, rfl, fun i hi => ih i (hv i) (hg i hi)⟩
  | own k i n e => rintro cs hv ⟨c, rfl, hc⟩; exact ⟨c, rfl, ownR_same h hv hc⟩
  | cptr v ih => intro cs hv; exact hv.elim
  | ro n f ih => intro cs hv; exact hv.elim
  | fn q n caps ih =>
    rintro cs hv ⟨cv, rfl, h1, h2⟩
    have hn : n = 0 := hv
    subst hn
    exact ⟨cv, rfl, h1, fun i hi => absurd hi (Nat.not_lt_zero _)⟩
  | tup n f _ => intro cs _ h; exact h.elim
  | ptr k i p o r _ => intro cs _ h; exact h.elim
  | _ => intro cs _ h; exact h
theorem VR_inner {D : Nat → Bool} {K K' : Kx} (h : SameD D K K') : ∀ {v : AV} {c : Value}, v.inner D → VR K v c → VR K' v c := by
  intro v
  induction v with
  | arr n f ih => rintro c hv ⟨cs, rfl, hc⟩; exact ⟨cs, rfl, FL_inner (v := .arr n f) h hv hc⟩
  | sct n f ih => rintro c hv ⟨cs, rfl, hc⟩; exact ⟨cs, rfl, FL_inner (v := .sct n f) h hv hc⟩
  | tup n f ih => rintro c hv ⟨vs, rfl, h1, h2⟩; exact ⟨vs, rfl, h1, fun i hi => ih i (hv i) (h2 i hi)⟩
  | fn q n caps ih =>
    rintro c hv ⟨cv, rfl, h1, h2⟩
    have hn : n = 0 := hv
    subst hn
    exact ⟨cv, rfl, h1, fun i hi => absurd hi (Nat.not_lt_zero _)⟩
  | ptr => intro c hv; exact hv.elim
  | cptr => intro c hv; exact hv.elim
  | ro => intro c hv; exact hv.elim
  | any => intro c _ _; trivial
  | own k i n e => intro c hv hc; exact FL_inner (v := .own k i n e) h hv hc
  | _ => intro c _ hc; exact hc
def innerL (D : Nat → Bool) : List AV → Prop
  | [] => True
  | a :: r => a.inner D ∧ innerL D r
theorem VRs_inner {D : Nat → Bool} {K K' : Kx} (h : SameD D K K') : ∀ {ars : List AV} {cs : List Value}, innerL D ars → VRs K ars cs → VRs K' ars cs
  | [], [], _, _ => trivial
  | [], _ :: _, _, h2 => h2.elim
  | a :: ars, [], _, h2 => h2.elim
  | a :: ars, c :: cs, hi, h2 => ⟨VR_inner h hi.1 h2.1, VRs_inner h hi.2 h2.2⟩
section
variable {P : Program} {T : TT}
theorem EnvR_args {K : Kx} {env : Env} {a : Act} (h : EnvR K env a.tmps) : ∀ (xs : List Operand), VRs K (xs.map (evE env)) (xs.map a.eval)
  | [] => trivial
  | x :: r => ⟨h.ev x, EnvR_args h r⟩
theorem run_call {f : FuncId} (hE : Ent P f) {dst : Option Nat} {ty : TypeId} {pos : String} {af : Array Edge} {gu : Option (Nat × Bool)} {args : Array Operand} {aty : Array TypeId} (act : Act) (w : World) :
    (execOp act.eval ⟨dst, .call { callee := .value (.func f), args := args, argTypes := aty }, ty, pos, af, gu⟩).run P w = .ok (.enter f (args.map act.eval)) w := by
  have h0 := hE (args.map act.eval) w
  have hf : act.eval (.func f) = .func (.func f) #[] #[] := rfl
  simp only [execOp, resolve, hf, Deferred.ofValue, Sem.run_bind, Sem.run_pure, Result.andThen_ok, invoke]
  simpa using h0
/-- The objects ol0 stand first in the caller's list, under the names that the callee gives them. -/
theorem mut_mid (hT : TOk P T) {f : FuncId} {ks : List Nat} {ars : List AV} {ol0 ol1 rest : OL} {r : AV} (hc : MCalls P T f ks ars ol0 r ol1) {dst : Option Nat} {ty : TypeId} {pos : String} {af : Array Edge} {gu : Option (Nat × Bool)} {args : Array Operand} {aty : Array TypeId} {env : Env}
    (ha : args.toList.map (evE env) = ars) (hin : innerL ol0.has ars) (hr : r.inner ol0.has) (h0 : innerH ol0.has ol0) (h1 : innerH ol0.has ol1)
    (hk : ∀ k, ol1.has k = ol0.has k) (hsh : ∀ k i, (ol1.at_ k i).map Prod.fst = (ol0.at_ k i).map Prod.fst) (hks : ∀ k, ol0.has k = true → k ∈ ks) :
    MidJ P T ⟨dst, .call { callee := .value (.func f), args := args, argTypes := aty }, ty, pos, af, gu⟩ env (ol0 ++ rest) r (ol1 ++ rest) := by
  intro X κ w act hP hTT hR hEn
  have at0 : ∀ {k i p}, ol0.at_ k i = some p → (ol0 ++ rest).at_ k i = some p := fun {k i p} h => by
    rw [OL.at_append, if_pos (OL.has_of_at (i := i) (by rw [h]; simp))]; exact h
  have ne0 : ∀ {k i}, ol0.at_ k i ≠ none → (ol0 ++ rest).at_ k i ≠ none := fun {k i} h => by
    cases hq : ol0.at_ k i with
    | none => exact absurd hq h
    | some p => rw [at0 hq]; simp
  have live1 : ∀ k i, ol1.at_ k i ≠ none ↔ ol0.at_ k i ≠ none := fun k i => by
    have := hsh k i
    cases h1 : ol1.at_ k i <;> cases h0 : ol0.at_ k i <;> rw [h1, h0] at this <;> simp at this <;> simp
  have liveA : ∀ k i, (ol1 ++ rest).at_ k i ≠ none ↔ (ol0 ++ rest).at_ k i ≠ none := fun k i => by
    rw [OL.at_append, OL.at_append, hk]
    by_cases h : ol0.has k = true
    · rw [if_pos h, if_pos h]; exact live1 k i
    · rw [if_neg h, if_neg h]
  have hasA : ∀ k, (ol1 ++ rest).has k = (ol0 ++ rest).has k := fun k => by rw [OL.has_append, OL.has_append, hk]
  let M' : Nat → Prop := fun b => ∃ k i, ol0.at_ k i ≠ none ∧ κ.blk k i = b
  let X' : Cx := ⟨P, T, w, fun _ => False, M'⟩
  have hD0 : SameD ol0.has (KK X κ (ol0 ++ rest).ob w) (KK X' κ ol0.ob w) :=
    ⟨rfl, fun k hk => hk, fun _ _ _ => ⟨rfl, rfl⟩, by show T.sz = X.T.sz; rw [hTT], by show T.zero = X.T.zero; rw [hTT]⟩
  have hR' : Rel X' κ ol0.ob w := by
    refine ⟨rfl, rfl, rfl, Nat.le_refl _, fun _ _ _ => rfl, fun k i sh c hq => ?_, fun k i k2 i2 hq hq2 he => hR.inj k i k2 i2 (ne0 hq) (ne0 hq2) he, fun k i hq => OL.has_of_at hq, fun b hb => hb.elim, fun b hb => ?_⟩
    · obtain ⟨cur, e, l1, l2, l3, l4, l5, l6, l7⟩ := hR.live k i sh c (at0 hq)
      exact ⟨cur, e, l1, l2, FL_inner hD0 (innerH_at h0 hq) l3, l4, l5, .inr ⟨k, i, by show ol0.at_ k i ≠ none; rw [show ol0.at_ k i = some (sh, c) from hq]; simp, rfl⟩, fun h => h⟩
    · obtain ⟨k, i, hq, rfl⟩ := hb
      exact hR.blk_lt (k := k) (i := i) (ne0 hq)
  have hvs : VRs (KK X' κ ol0.ob w) ars (args.map act.eval).toList := by
    have := EnvR_args hEn args.toList
    rw [ha] at this
    rw [Array.toList_map]
    exact VRs_inner hD0 hin this
  rw [run_call hc.ent]
  show Calls X.P f _ w _
  rw [hP]
  have := hc.go X' κ w (args.map act.eval).toList rfl rfl rfl hR' hvs
  rw [Array.toArray_toList] at this
  refine Calls.mono this ?_
  rintro ex w' ⟨c, κ', rfl, hR1, hv, hpin⟩
  have hb' : ∀ b, b < w.heap.size → ¬ M' b → w'.heap[b]? = w.heap[b]? := hR1.block
  have hs' : w.heap.size ≤ w'.heap.size := hR1.size
  have blkD : ∀ k, ol0.has k = true → ∀ i, κ.blk k i = κ'.blk k i ∧ κ.shp k i = κ'.shp k i := fun k hk i => ⟨(hpin.blk k (hks k hk) i).1.symm, (hpin.blk k (hks k hk) i).2.symm⟩
  have hJ : ∀ b, (KK X κ (ol0 ++ rest).ob w).J b → ¬ M' b := by
    rintro b hb ⟨k, i, hq, he⟩
    exact hb.2 k i (ne0 hq) he
  have hle : Le (KK X κ (ol0 ++ rest).ob w) (KK X κ (ol1 ++ rest).ob w') := by
    refine Le.step hs' (fun b hb => ⟨hb' b (hR.J_lt hb) (hJ b hb), fun k i hq => hb.2 k i ((liveA k i).1 hq)⟩) (fun k hk' => ⟨by show (ol1 ++ rest).has k = true; rw [hasA]; exact hk', fun i => ⟨rfl, rfl⟩⟩) hpin.size
  have hD1 : SameD ol0.has (KK X' κ' ol1.ob w') (KK X κ (ol1 ++ rest).ob w') :=
    ⟨rfl, fun k hk' => by show (ol1 ++ rest).has k = true; rw [hasA, OL.has_append, hk']; rfl, fun k hk' i => blkD k hk' i, by show X.T.sz = T.sz; rw [hTT], by show X.T.zero = T.zero; rw [hTT]⟩
  refine ⟨c, κ, rfl, ?_, VR_inner hD1 hr hv, hle⟩
  refine ⟨hR1.os.trans hR.os, hR1.tape.trans hR.tape, hR1.output.trans hR.output, Nat.le_trans hR.size hs', fun b hb hM => ?_, fun k i sh c2 hq => ?_, fun k i k2 i2 hq hq2 he => hR.inj k i k2 i2 ((liveA k i).1 hq) ((liveA k2 i2).1 hq2) he, fun k i hq => ?_, hR.hI, hR.hM⟩
  · have hnM : ¬ M' b := by
      rintro ⟨k, i, hq, rfl⟩
      cases hq' : ol0.at_ k i with
      | none => exact hq hq'
      | some p =>
        obtain ⟨_, _, _, _, _, _, _, l6, _⟩ := hR.live k i p.1 p.2 (at0 hq')
        rcases l6 with l6 | l6
        · omega
        · exact hM l6
    exact (hb' b (Nat.lt_of_lt_of_le hb hR.size) hnM).trans (hR.block b hb hM)
  · have hq : (ol1 ++ rest).at_ k i = some (sh, c2) := hq
    rw [OL.at_append, hk] at hq
    by_cases h : ol0.has k = true
    · rw [if_pos h] at hq
      obtain ⟨cur, e, l1, l2, l3, l4, l5, _, _⟩ := hR1.live k i sh c2 hq
      obtain ⟨p, hp⟩ : ∃ p, ol0.at_ k i = some p := by
        cases hq' : ol0.at_ k i with
        | none => exact absurd hq' ((live1 k i).1 (by rw [hq]; simp))
        | some p => exact ⟨p, rfl⟩
      obtain ⟨_, _, _, _, _, _, _, l6, l7⟩ := hR.live k i p.1 p.2 (at0 hp)
      refine ⟨cur, e, by rw [(blkD k h i).1]; exact l1, l2, FL_inner hD1 (innerH_at h1 hq) l3, l4, by rw [(blkD k h i).2]; exact l5, l6, l7⟩
    · rw [if_neg h] at hq
      have hq0 : (ol0 ++ rest).at_ k i = some (sh, c2) := by rw [OL.at_append, if_neg h]; exact hq
      obtain ⟨cur, e, l1, l2, l3, l4, l5, l6, l7⟩ := hR.live k i sh c2 hq0
      have hnM : ¬ M' (κ.blk k i) := by
        rintro ⟨k2, i2, hq2, he⟩
        obtain ⟨rfl, _⟩ := hR.inj k2 i2 k i (ne0 hq2) (by show (ol0 ++ rest).at_ k i ≠ none; rw [hq0]; simp) he
        exact h (OL.has_of_at hq2)
      exact ⟨cur, e, (hb' _ (Array.getElem?_eq_some_iff.1 l1).1 hnM).trans l1, l2, FL_mono hle l3, l4, l5, l6, l7⟩
  · have := OL.has_of_at ((liveA k i).1 hq)
    show (ol1 ++ rest).has k = true
    rw [hasA]; exact this
/-- One object, under another name. -/
theorem mut_mid1 (hT : TOk P T) {f : FuncId} {q n e : Nat} {sh c0 c1 r : AV} {more : List AV} (hc : MCalls P T f [q] (.own q 0 n e :: more) [(q, .one sh c0)] r [(q, .one sh c1)]) {dst : Option Nat} {ty : TypeId} {pos : String} {af : Array Edge} {gu : Option (Nat × Bool)} {s : Operand} {args : List Operand} {aty : Array TypeId} {env : Env} {ol : OL} {k i : Nat}
    (hs : evE env s = .own k i n e) (ha : args.map (evE env) = more) (hin : innerL (fun _ => false) more) (hr : r.inner (fun _ => false)) (h0 : c0.inner (fun _ => false)) (h1 : c1.inner (fun _ => false))
    (hat : ol.at_ k i = some (sh, c0)) :
    MidJ P T ⟨dst, .call { callee := .value (.func f), args := (s :: args).toArray, argTypes := aty }, ty, pos, af, gu⟩ env ol r (ol.set k i (some (sh, c1))) := by
  intro X κ w act hP hTT hR hEn
  have hhas : ol.has k = true := OL.has_of_at (i := i) (by rw [hat]; simp)
  have hlive : ol.ob.at_ k i ≠ none := by show ol.at_ k i ≠ none; rw [hat]; simp
  obtain ⟨cur0, e0, m1, m2, m3, m4, m5, m6, m7⟩ := hR.live k i sh c0 hat
  let X' : Cx := ⟨P, T, w, fun _ => False, fun b => b = κ.blk k i⟩
  let κ0 : Gh := ⟨fun _ _ => κ.blk k i, fun _ _ => κ.shp k i⟩
  have hq0 : ∀ k' i' sh' c', OL.at_ [(q, .one sh c0)] k' i' = some (sh', c') → k' = q ∧ i' = 0 ∧ sh' = sh ∧ c' = c0 := by
    intro k' i' sh' c' h
    simp only [OL.at_] at h
    cases hb : Nat.beq k' q
    · rw [hb] at h; cases h
    · rw [hb] at h
      simp only [cond_true, Fam.at_] at h
      cases hi : Nat.beq i' 0
      · rw [hi] at h; cases h
      · rw [hi] at h
        simp only [cond_true, Option.some.injEq, Prod.mk.injEq] at h
        exact ⟨Nat.eq_of_beq_eq_true hb, Nat.eq_of_beq_eq_true hi, h.1.symm, h.2.symm⟩
  have hqn : ∀ k' i', OL.at_ [(q, .one sh c0)] k' i' ≠ none → k' = q ∧ i' = 0 := by
    intro k' i' h
    cases hh : OL.at_ [(q, .one sh c0)] k' i' with
    | none => exact absurd hh h
    | some p => exact ⟨(hq0 k' i' p.1 p.2 hh).1, (hq0 k' i' p.1 p.2 hh).2.1⟩
  have hD0 : SameD (fun _ => false) (KK X κ ol.ob w) (KK X' κ0 (OL.ob [(q, .one sh c0)]) w) :=
    ⟨rfl, fun _ h => (by cases h), fun _ h => (by cases h), by show T.sz = X.T.sz; rw [hTT], by show T.zero = X.T.zero; rw [hTT]⟩
  have hR' : Rel X' κ0 (OL.ob [(q, .one sh c0)]) w := by
    refine ⟨rfl, rfl, rfl, Nat.le_refl _, fun _ _ _ => rfl, fun k' i' sh' c' hq => ?_, fun k' i' k2 i2 hq hq2 _ => ?_, fun k' i' hq => OL.has_of_at hq, fun b hb => hb.elim, fun b hb => ?_⟩
    · obtain ⟨_, _, rfl, rfl⟩ := hq0 k' i' sh' c' hq
      exact ⟨cur0, e0, m1, m2, FL_inner hD0 h0 m3, m4, m5, .inr rfl, fun h => h⟩
    · obtain ⟨rfl, rfl⟩ := hqn k' i' hq
      obtain ⟨rfl, rfl⟩ := hqn k2 i2 hq2
      exact ⟨rfl, rfl⟩
    · have hb' : b = κ.blk k i := hb
      rw [hb']
      exact (Array.getElem?_eq_some_iff.1 m1).1
  have hvs : VRs (KK X' κ0 (OL.ob [(q, .one sh c0)]) w) (.own q 0 n e :: more) ((s :: args).toArray.map act.eval).toList := by
    have h1 := EnvR_args hEn args
    rw [ha] at h1
    have h2 := hEn.ev s
    rw [hs] at h2
    simp only [List.map_toArray, List.map_cons]
    refine ⟨?_, VRs_inner hD0 hin h1⟩
    obtain ⟨_, hn, cap, cur, fr, hv, g1, g2, g3, g4⟩ := VR_own h2
    rw [hv]
    exact ⟨_, rfl, by show OL.has [(q, .one sh c0)] q = true; simp [OL.has], by show κ.shp k i = AV.arr n (fun _ => T.zero e); exact hn.trans (by show AV.arr n (fun _ => X.T.zero e) = _; rw [hTT]), cap, cur, fr, rfl, g1, g2, g3, by show cur.size = cap * T.sz e; rw [g4]; show cap * X.T.sz e = _; rw [hTT]⟩
  rw [run_call hc.ent]
  show Calls X.P f _ w _
  rw [hP]
  have := hc.go X' κ0 w ((s :: args).toArray.map act.eval).toList rfl rfl rfl hR' hvs
  rw [Array.toArray_toList] at this
  refine Calls.mono this ?_
  rintro ex w' ⟨c, κ', rfl, hR1, hv, hpin⟩
  have hb' : ∀ b, b < w.heap.size → b ≠ κ.blk k i → w'.heap[b]? = w.heap[b]? := hR1.block
  have hs' : w.heap.size ≤ w'.heap.size := hR1.size
  obtain ⟨cur1, e1, l1, l2, l3, l4, l5, _, _⟩ := hR1.live q 0 sh c1 (by show OL.at_ [(q, .one sh c1)] q 0 = _; simp [OL.at_, Fam.at_])
  have hblk : κ'.blk q 0 = κ.blk k i := (hpin.blk q (by simp) 0).1
  rw [hblk] at l1
  have hset : ∀ k' i', (ol.set k i (some (sh, c1))).at_ k' i' ≠ none ↔ ol.at_ k' i' ≠ none := fun k' i' => by
    rw [OL.at_set]
    split
    · rename_i h; obtain ⟨rfl, rfl⟩ := h; rw [hat]; simp
    · exact Iff.rfl
  have hhas' : ∀ k', (ol.set k i (some (sh, c1))).has k' = ol.has k' := fun k' => by
    rw [OL.has_set]
    cases hb : Nat.beq k' k
    · simp
    · rw [Nat.eq_of_beq_eq_true hb, hhas]; rfl
  have hle : Le (KK X κ ol.ob w) (KK X κ (OL.ob (ol.set k i (some (sh, c1)))) w') := by
    refine Le.step hs' (fun b hb => ⟨hb' b (hR.J_lt hb) (fun he => hb.2 k i hlive he.symm), fun k' i' hq => hb.2 k' i' ((hset k' i').1 hq)⟩) (fun k' hk' => ⟨by show OL.has _ k' = true; rw [hhas']; exact hk', fun i => ⟨rfl, rfl⟩⟩) hpin.size
  have hD1 : SameD (fun _ => false) (KK X' κ' (OL.ob [(q, .one sh c1)]) w') (KK X κ (OL.ob (ol.set k i (some (sh, c1)))) w') :=
    ⟨rfl, fun _ h => (by cases h), fun _ h => (by cases h), by show X.T.sz = T.sz; rw [hTT], by show X.T.zero = T.zero; rw [hTT]⟩
  refine ⟨c, κ, rfl, ?_, VR_inner hD1 hr hv, hle⟩
  refine ⟨hR1.os.trans hR.os, hR1.tape.trans hR.tape, hR1.output.trans hR.output, Nat.le_trans hR.size hs', fun b hb hM => ?_, fun k' i' sh' c' hq => ?_, fun k' i' k2 i2 hq hq2 he => hR.inj k' i' k2 i2 ((hset k' i').1 hq) ((hset k2 i2).1 hq2) he, fun k' i' hq => ?_, hR.hI, hR.hM⟩
  · refine (hb' b (Nat.lt_of_lt_of_le hb hR.size) (fun he => ?_)).trans (hR.block b hb hM)
    subst he
    rcases m6 with m6 | m6
    · omega
    · exact hM m6
  · have hq : (ol.set k i (some (sh, c1))).at_ k' i' = some (sh', c') := hq
    rw [OL.at_set] at hq
    by_cases h : k' = k ∧ i' = i
    · rw [if_pos h] at hq
      obtain ⟨q1, q2⟩ := Prod.mk.inj (Option.some.inj hq)
      obtain ⟨rfl, rfl⟩ := h
      subst q1; subst q2
      exact ⟨cur1, e1, l1, l2, FL_inner hD1 h1 l3, l4, m5, m6, m7⟩
    · rw [if_neg h] at hq
      obtain ⟨cur, e', g1, g2, g3, g4, g5, g6, g7⟩ := hR.live k' i' sh' c' hq
      have hne : κ.blk k' i' ≠ κ.blk k i := fun he => h (hR.inj k' i' k i (by show ol.at_ k' i' ≠ none; rw [hq]; simp) hlive he)
      exact ⟨cur, e', (hb' _ (Array.getElem?_eq_some_iff.1 g1).1 hne).trans g1, g2, FL_mono hle g3, g4, g5, g6, g7⟩
  · have := OL.has_of_at ((hset k' i').1 hq)
    show OL.has _ k' = true
    rw [hhas']; exact this
end
end Go.Am
/- The laws of products: linear, associative, with a unit. My own work. -/
set_option linter.unusedVariables false
set_option linter.unusedSimpArgs false
namespace Go.Am
section
variable {p : Int} {n : Nat} {T : Nat → Nat → Nat → Int}
/-- The product before it is taken modulo p. -/
def pz (n : Nat) (T : Nat → Nat → Nat → Int) (u v : Nat → Int) (k : Nat) : Int := sumZ (fun i => sumZ (fun j => u i * v j * T i j k) n) n
theorem times_pz {u v : Nat → Int} {k : Nat} (hk : k < n) : timesF p n T u v k = pz n T u v k % p := by
  unfold timesF; rw [if_pos hk]; rfl
/-- Alike modulo p. -/
def cg (p : Int) (n : Nat) (u v : Nat → Int) : Prop := ∀ j, j < n → p ∣ u j - v j
theorem cg.rf (u : Nat → Int) : cg p n u u := fun j _ => dvd_rf rfl
theorem cg.sy {u v : Nat → Int} (h : cg p n u v) : cg p n v u := fun j hj => dvd_sy (h j hj)
theorem cg.tr {u v w : Nat → Int} (h : cg p n u v) (h' : cg p n v w) : cg p n u w := fun j hj => dvd_tr (h j hj) (h' j hj)
theorem mul_dvd {a b c d : Int} (h : p ∣ a - b) (h' : p ∣ c - d) : p ∣ a * c - b * d := by
  have h1 : p ∣ (a - b) * c := Int.dvd_mul_of_dvd_left h
  have h2 : p ∣ b * (c - d) := Int.dvd_mul_of_dvd_right h'
  have := Int.dvd_add h1 h2
  rwa [Int.sub_mul, Int.mul_sub, show a * c - b * c + (b * c - b * d) = a * c - b * d by omega] at this
theorem pz_cg {u u' v v' : Nat → Int} (hu : cg p n u u') (hv : cg p n v v') (k : Nat) : p ∣ pz n T u v k - pz n T u' v' k :=
  sumZ_dvd n (fun i hi => sumZ_dvd n (fun j hj => mul_dvd (mul_dvd (hu i hi) (hv j hj)) (dvd_rf rfl)))
theorem times_cg {u u' v v' : Nat → Int} (hu : cg p n u u') (hv : cg p n v v') : timesF p n T u v = timesF p n T u' v' := by
  funext k
  by_cases hk : k < n
  · rw [times_pz hk, times_pz hk]; exact mod_eq_of_dvd (pz_cg hu hv k)
  · unfold timesF; rw [if_neg hk, if_neg hk]
theorem cg_times (u v : Nat → Int) : cg p n (timesF p n T u v) (pz n T u v) := fun k hk => by rw [times_pz hk]; exact dvd_mod p _
/-- What stands alike and is canonical is the same. -/
theorem VV.ext {u v : Nat → Int} (hu : VV p n u) (hv : VV p n v) (h : cg p n u v) : u = v := by
  funext k
  by_cases hk : k < n
  · exact eq_of_dvd (hu.b k) (hv.b k) (h k hk)
  · rw [hu.z k (by omega), hv.z k (by omega)]
theorem VV.times (hp : 0 < p) {u v : Nat → Int} : VV p n (timesF p n T u v) := ⟨timesF_Bp hp, fun k hk => by unfold timesF; rw [if_neg (by omega)]⟩
theorem VV.zero (hp : 0 < p) : VV p n (fun _ => 0) := ⟨fun _ => ⟨Int.le_refl _, hp⟩, fun _ _ => rfl⟩
theorem VV.eF (hp : 1 < p) {i : Nat} (hi : i < n) : VV p n (eF i) := ⟨eF_Bp hp i, fun k hk => by rw [eF_dl]; unfold dl; rw [if_neg (by omega)]⟩
theorem VV.add (hp : 0 < p) {u v : Nat → Int} (hu : VV p n u) (hv : VV p n v) (c : Int) : VV p n (addF p u v c) := ⟨addF_Bp hp u v c, fun k hk => by unfold addF; rw [hu.z k hk, hv.z k hk, Int.mul_zero]; rfl⟩
theorem VV.eqN {u v : Nat → Int} (h6 : n ≤ 6) (hu : VV p n u) (hv : VV p n v) : eqN 6 u v ↔ u = v := by
  constructor
  · intro h
    funext k
    by_cases hk : k < 6
    · exact h k hk
    · rw [hu.z k (by omega), hv.z k (by omega)]
  · rintro rfl k _; rfl

/-! ### Sums in another order -/
theorem sum_mul_sum (f g : Nat → Int) (m k : Nat) : sumZ f m * sumZ g k = sumZ (fun i => sumZ (fun j => f i * g j) k) m := by
  rw [← sumZ_mulr]
  exact sumZ_congr m (fun i _ => (sumZ_mul _ _ _).symm)
theorem pz_add_r (u v w : Nat → Int) (c : Int) (k : Nat) : pz n T u (fun j => v j + c * w j) k = pz n T u v k + c * pz n T u w k := by
  unfold pz
  rw [← sumZ_mul, ← sumZ_add]
  refine sumZ_congr n (fun i _ => ?_)
  rw [← sumZ_mul, ← sumZ_add]
  refine sumZ_congr n (fun j _ => ?_)
  rw [Int.mul_add, Int.add_mul]
  congr 1
  rw [Int.mul_left_comm (u i), Int.mul_assoc, Int.mul_assoc]
theorem pz_add_l (u v w : Nat → Int) (c : Int) (k : Nat) : pz n T (fun j => v j + c * w j) u k = pz n T v u k + c * pz n T w u k := by
  unfold pz
  rw [← sumZ_mul, ← sumZ_add]
  refine sumZ_congr n (fun i _ => ?_)
  rw [← sumZ_mul, ← sumZ_add]
  refine sumZ_congr n (fun j _ => ?_)
  rw [Int.add_mul, Int.add_mul]
  congr 1
  rw [Int.mul_assoc, Int.mul_assoc, Int.mul_assoc]
/-- The product with a sum of basis vectors. -/
theorem pz_basis_r (v x : Nat → Int) (k : Nat) : sumZ (fun i => x i * pz n T v (eF i) k) n = pz n T v x k := by
  unfold pz
  have e : ∀ i, i < n → x i * sumZ (fun a => sumZ (fun j => v a * eF i j * T a j k) n) n = sumZ (fun a => v a * x i * T a i k) n := fun i hi => by
    rw [← sumZ_mul]
    refine sumZ_congr n (fun a _ => ?_)
    rw [sumZ_one (c := i) n hi (fun j _ hne => by rw [eF_dl]; unfold dl; rw [if_neg (Ne.symm hne)]; simp)]
    rw [eF_dl]; unfold dl; rw [if_pos rfl, Int.mul_one, Int.mul_left_comm, Int.mul_assoc]
  rw [sumZ_congr n e, sumZ_swap]
theorem pz_basis_l (v x : Nat → Int) (k : Nat) : sumZ (fun i => x i * pz n T (eF i) v k) n = pz n T x v k := by
  unfold pz
  refine sumZ_congr n (fun i hi => ?_)
  rw [sumZ_one (c := i) n hi (fun a _ hne => ?_)]
  · rw [← sumZ_mul]
    refine sumZ_congr n (fun j _ => ?_)
    rw [eF_dl]; unfold dl; rw [if_pos rfl, Int.one_mul, Int.mul_assoc]
  · rw [sumZ_congr (g := fun _ => 0) n (fun j _ => by rw [eF_dl]; unfold dl; rw [if_neg (Ne.symm hne)]; simp), sumZ_zero]
theorem times_basis_r (v x : Nat → Int) {k : Nat} (hk : k < n) : p ∣ sumZ (fun i => timesF p n T v (eF i) k * x i) n - pz n T v x k := by
  rw [← pz_basis_r]
  refine sumZ_dvd n (fun i hi => ?_)
  rw [Int.mul_comm (x i)]
  refine mul_dvd ?_ (dvd_rf rfl)
  rw [times_pz hk]; exact dvd_mod p _
theorem times_basis_l (v x : Nat → Int) {k : Nat} (hk : k < n) : p ∣ sumZ (fun i => timesF p n T (eF i) v k * x i) n - pz n T x v k := by
  rw [← pz_basis_l]
  refine sumZ_dvd n (fun i hi => ?_)
  rw [Int.mul_comm (x i)]
  refine mul_dvd ?_ (dvd_rf rfl)
  rw [times_pz hk]; exact dvd_mod p _

/-! ### Associativity -/
theorem asc_basis (h6 : n ≤ 6) (h : assocP p n T) {i j k l : Nat} (hi : i < n) (hj : j < n) (hk : k < n) (hl : l < n) :
    p ∣ sumZ (fun a => T i j a * T a k l) n - sumZ (fun b => T j k b * T i b l) n := by
  have := h i hi j hj k hk l (by omega)
  rw [times_er hk hl, times_el hi hl] at this
  have h2 := dvd_sy (dvd_mod p (sumZ (fun a => T a k l * T i j a) n))
  rw [this] at h2
  have h3 := dvd_tr h2 (dvd_mod p _)
  rw [sumZ_congr (g := fun a => T a k l * T i j a) n (fun a _ => Int.mul_comm _ _), sumZ_congr (f := fun b => T j k b * T i b l) (g := fun b => T i b l * T j k b) n (fun b _ => Int.mul_comm _ _)]
  exact h3
/-- Three sums. -/
def s3 (n : Nat) (f : Nat → Nat → Nat → Int) : Int := sumZ (fun i => sumZ (fun j => sumZ (f i j) n) n) n
theorem s3_dvd {f g : Nat → Nat → Nat → Int} (h : ∀ i j k, i < n → j < n → k < n → p ∣ f i j k - g i j k) : p ∣ s3 n f - s3 n g :=
  sumZ_dvd n (fun i hi => sumZ_dvd n (fun j hj => sumZ_dvd n (fun k hk => h i j k hi hj hk)))
theorem pz_left (u v w : Nat → Int) (l : Nat) : pz n T (pz n T u v) w l = s3 n (fun i j k => u i * v j * w k * sumZ (fun a => T i j a * T a k l) n) := by
  have e1 : pz n T (pz n T u v) w l = sumZ (fun a => sumZ (fun k => sumZ (fun i => sumZ (fun j => u i * v j * T i j a * w k * T a k l) n) n) n) n := by
    refine sumZ_congr n (fun a _ => sumZ_congr n (fun k _ => ?_))
    show sumZ (fun i => sumZ (fun j => u i * v j * T i j a) n) n * w k * T a k l = _
    rw [Int.mul_assoc, ← sumZ_mulr]
    refine sumZ_congr n (fun i _ => ?_)
    rw [← sumZ_mulr]
    exact sumZ_congr n (fun j _ => by rw [Int.mul_assoc (u i * v j * T i j a)])
  rw [e1]
  unfold s3
  -- a k i j  to  i j k a
  have e2 : ∀ a, sumZ (fun k => sumZ (fun i => sumZ (fun j => u i * v j * T i j a * w k * T a k l) n) n) n = sumZ (fun i => sumZ (fun j => sumZ (fun k => u i * v j * T i j a * w k * T a k l) n) n) n := fun a => by
    rw [sumZ_swap (fun k i => sumZ (fun j => u i * v j * T i j a * w k * T a k l) n)]
    exact sumZ_congr n (fun i _ => sumZ_swap (fun k j => u i * v j * T i j a * w k * T a k l) n n)
  rw [sumZ_congr n (fun a _ => e2 a), sumZ_swap]
  refine sumZ_congr n (fun i _ => ?_)
  rw [sumZ_swap]
  refine sumZ_congr n (fun j _ => ?_)
  rw [sumZ_swap]
  refine sumZ_congr n (fun k _ => ?_)
  show _ = u i * v j * w k * sumZ (fun a => T i j a * T a k l) n
  rw [← sumZ_mul]
  exact sumZ_congr n (fun a _ => by simp only [Int.mul_assoc, Int.mul_comm, Int.mul_left_comm])
theorem pz_right (u v w : Nat → Int) (l : Nat) : pz n T u (pz n T v w) l = s3 n (fun i j k => u i * v j * w k * sumZ (fun b => T j k b * T i b l) n) := by
  unfold s3
  refine sumZ_congr n (fun i _ => ?_)
  have e1 : ∀ b, u i * pz n T v w b * T i b l = sumZ (fun j => sumZ (fun k => u i * v j * w k * (T j k b * T i b l)) n) n := fun b => by
    show u i * sumZ (fun j => sumZ (fun k => v j * w k * T j k b) n) n * T i b l = _
    rw [← sumZ_mul, ← sumZ_mulr]
    refine sumZ_congr n (fun j _ => ?_)
    show u i * sumZ (fun k => v j * w k * T j k b) n * T i b l = _
    rw [← sumZ_mul, ← sumZ_mulr]
    exact sumZ_congr n (fun k _ => by simp only [Int.mul_assoc, Int.mul_comm, Int.mul_left_comm])
  rw [sumZ_congr n (fun b _ => e1 b), sumZ_swap]
  refine sumZ_congr n (fun j _ => ?_)
  rw [sumZ_swap]
  refine sumZ_congr n (fun k _ => ?_)
  show _ = u i * v j * w k * sumZ (fun b => T j k b * T i b l) n
  rw [← sumZ_mul]
/-- Products of three. -/
theorem times_asc (h6 : n ≤ 6) (h : assocP p n T) (u v w : Nat → Int) : timesF p n T (timesF p n T u v) w = timesF p n T u (timesF p n T v w) := by
  rw [times_cg (cg_times u v) (cg.rf w), times_cg (cg.rf u) (cg_times v w)]
  funext l
  by_cases hl : l < n
  · rw [times_pz hl, times_pz hl]
    refine mod_eq_of_dvd ?_
    rw [pz_left, pz_right]
    exact s3_dvd (fun i j k hi hj hk => mul_dvd (dvd_rf rfl) (asc_basis h6 h hi hj hk hl))
  · unfold timesF; rw [if_neg hl, if_neg hl]
/-- The unit. -/
theorem pz_one_l {u v : Nat → Int} (hu : LU p n T u) {k : Nat} (hk : k < n) : p ∣ pz n T u v k - v k := by
  unfold pz
  rw [sumZ_swap]
  have : p ∣ sumZ (fun j => v j * sumZ (fun i => T i j k * u i) n) n - v k := by
    have h := sumZ_dvd (p := p) (f := fun j => v j * sumZ (fun i => T i j k * u i) n) (g := fun j => v j * dl j k) n (fun j hj => mul_dvd (dvd_rf rfl) (hu j hj k hk))
    rwa [sum_dl v hk] at h
  rw [sumZ_congr (g := fun j => v j * sumZ (fun i => T i j k * u i) n) n (fun j _ => by
    rw [← sumZ_mul]
    exact sumZ_congr n (fun i _ => by simp only [Int.mul_assoc, Int.mul_comm, Int.mul_left_comm]))]
  exact this
theorem pz_one_r {u v : Nat → Int} (hu : RU p n T u) {k : Nat} (hk : k < n) : p ∣ pz n T v u k - v k := by
  unfold pz
  have : p ∣ sumZ (fun i => v i * sumZ (fun j => T i j k * u j) n) n - v k := by
    have h := sumZ_dvd (p := p) (f := fun i => v i * sumZ (fun j => T i j k * u j) n) (g := fun i => v i * dl i k) n (fun i hi => mul_dvd (dvd_rf rfl) (hu i hi k hk))
    rwa [sum_dl v hk] at h
  rw [sumZ_congr (g := fun i => v i * sumZ (fun j => T i j k * u j) n) n (fun i _ => by
    rw [← sumZ_mul]
    exact sumZ_congr n (fun j _ => by simp only [Int.mul_assoc, Int.mul_comm, Int.mul_left_comm]))]
  exact this
end
section
variable {p : Int} {n : Nat} {T : Nat → Nat → Nat → Int} {fo : Nat → Int}
theorem VN.asc' (h : VN p n T fo) (u v w : Nat → Int) : timesF p n T (timesF p n T u v) w = timesF p n T u (timesF p n T v w) := times_asc h.n6 h.asc u v w
theorem VN.pp (h : VN p n T fo) : 0 < p := by have := h.p0; omega
theorem VN.LU (h : VN p n T fo) : LU p n T (uF p n T) := (uF_unit h.hp h.n0 h.hT h.u).1
theorem VN.RU (h : VN p n T fo) : RU p n T (uF p n T) := (uF_unit h.hp h.n0 h.hT h.u).2.1
theorem VN.one_l (h : VN p n T fo) {v : Nat → Int} (hv : VV p n v) : timesF p n T (uF p n T) v = v :=
  VV.ext (VV.times h.pp) hv (fun k hk => dvd_tr (by rw [times_pz hk]; exact dvd_mod p _) (pz_one_l h.LU hk))
theorem VN.one_r (h : VN p n T fo) {v : Nat → Int} (hv : VV p n v) : timesF p n T v (uF p n T) = v :=
  VV.ext (VV.times h.pp) hv (fun k hk => dvd_tr (by rw [times_pz hk]; exact dvd_mod p _) (pz_one_r h.RU hk))

/-! ### Inverses -/
/-- The maps of inverse: ahead of v, behind v. -/
def iM (p : Int) (n : Nat) (T : Nat → Nat → Nat → Int) (v : Nat → Int) (x j : Nat) : Nat → Int := if x = 0 then timesF p n T v (eF j) else timesF p n T (eF j) v
noncomputable abbrev iR (p : Int) (n : Nat) (T : Nat → Nat → Nat → Int) (v : Nat → Int) : Nat → Nat → Int := sysR n (iM p n T v) (fun _ => uF p n T)
theorem iM_Bp (hp : 0 < p) (v : Nat → Int) (x j : Nat) : Bp p (iM p n T v x j) := by
  unfold iM; split <;> exact timesF_Bp hp
def iOk (p : Int) (n : Nat) (T : Nat → Nat → Nat → Int) (v : Nat → Int) : Prop := conP n (redGo p (2 * n) (iR p n T v) (n + 1)).no (redGo p (2 * n) (iR p n T v) (n + 1)).O
noncomputable instance (p : Int) (n : Nat) (T : Nat → Nat → Nat → Int) (v : Nat → Int) : Decidable (iOk p n T v) := Classical.propDecidable _
noncomputable def iF (p : Int) (n : Nat) (T : Nat → Nat → Nat → Int) (v : Nat → Int) : Nat → Int := if iOk p n T v then cutF (solGo n (redGo p (2 * n) (iR p n T v) (n + 1)).O (redGo p (2 * n) (iR p n T v) (n + 1)).no) n else fun _ => 0
/-- Number k of what a map gives, row by row. -/
theorem map_sol {M : Nat} {Fv : Nat → Nat → Nat → Int} {W : Nat → Nat → Int} {x : Nat → Int} (hn : 0 < n) : Sol p n (M * n) (sysR n Fv W) x ↔ ∀ a, a < M → ∀ k, k < n → p ∣ sumZ (fun j => Fv a j k * x j) n - W a k := by
  have row : ∀ a k, k < n → dot n (sysR n Fv W (a * n + k)) x - sysR n Fv W (a * n + k) n = sumZ (fun j => Fv a j k * x j) n - W a k := fun a k hk => by
    rw [sysR_n, div_of hk, mod_of hk]
    unfold dot
    rw [sumZ_congr (g := fun j => Fv a j k * x j) n (fun j hj => by rw [sysR_lt hj, eqR_at hk])]
  constructor
  · intro h a ha k hk
    have := h (a * n + k) (by have : (a + 1) * n ≤ M * n := Nat.mul_le_mul_right n ha; rw [Nat.add_mul] at this; omega)
    rwa [row a k hk] at this
  · intro h r hr
    have hk : r % n < n := Nat.mod_lt _ hn
    have ha : r / n < M := (Nat.div_lt_iff_lt_mul hn).2 hr
    have e : r = r / n * n + r % n := by have := Nat.div_add_mod r n; rw [Nat.mul_comm] at this; omega
    rw [e, row _ _ hk]
    exact h _ ha _ hk
theorem iR_sol (hn : 0 < n) {v x : Nat → Int} : Sol p n (2 * n) (iR p n T v) x ↔ cg p n (pz n T v x) (uF p n T) ∧ cg p n (pz n T x v) (uF p n T) := by
  unfold iR
  rw [map_sol hn]
  constructor
  · intro h
    refine ⟨fun k hk => dvd_tr (dvd_sy (times_basis_r v x hk)) ?_, fun k hk => dvd_tr (dvd_sy (times_basis_l v x hk)) ?_⟩
    · have := h 0 (by omega) k hk
      unfold iM at this; simpa using this
    · have := h 1 (by omega) k hk
      unfold iM at this; simpa using this
  · rintro ⟨h1, h2⟩ a ha k hk
    unfold iM
    by_cases h0 : a = 0
    · simp only [h0, if_true]; exact dvd_tr (times_basis_r v x hk) (h1 k hk)
    · simp only [h0, if_false]; exact dvd_tr (times_basis_l v x hk) (h2 k hk)
theorem iR_Bp (h : VN p n T fo) (v : Nat → Int) (r : Nat) : Bp p (iR p n T v r) := sysR_Bp (fun x j => iM_Bp h.pp v x j) (fun _ => h.u_Bp) r
/-- Two-sided inverses. -/
def IsInv (p : Int) (n : Nat) (T : Nat → Nat → Nat → Int) (v x : Nat → Int) : Prop := timesF p n T v x = uF p n T ∧ timesF p n T x v = uF p n T
theorem pz_times (h : VN p n T fo) {u v w : Nat → Int} (hw : VV p n w) : cg p n (pz n T u v) w ↔ timesF p n T u v = w := by
  constructor
  · intro hc; exact VV.ext (VV.times h.pp) hw ((cg_times u v).tr hc)
  · rintro rfl; exact (cg_times u v).sy
theorem iF_inv (h : VN p n T fo) {v : Nat → Int} (hok : iOk p n T v) : VV p n (iF p n T v) ∧ IsInv p n T v (iF p n T v) := by
  have hpb := h.p0
  obtain ⟨⟨l, hrr⟩, hnl⟩ := red_ok (m := n + 1) (n := 2 * n) (R := iR p n T v) h.hp (fun i _ => iR_Bp h v i)
  have h2 : Sol p n (2 * n) (iR p n T v) _ := sol_null.2 ((hnl _).1 (sol_null.1 (sol_of_con hrr hok)))
  obtain ⟨h3, h4⟩ := (iR_sol h.n0).1 h2
  have hc : cg p n (cutF (solGo n (redGo p (2 * n) (iR p n T v) (n + 1)).O (redGo p (2 * n) (iR p n T v) (n + 1)).no) n) (solGo n (redGo p (2 * n) (iR p n T v) (n + 1)).O (redGo p (2 * n) (iR p n T v) (n + 1)).no) := fun j hj => dvd_rf (by unfold cutF; rw [if_pos hj])
  have hB := solGo_Bp h.pp hrr _ (Nat.le_refl _)
  unfold iF
  rw [if_pos hok]
  refine ⟨⟨fun j => ?_, fun j hj => by unfold cutF; rw [if_neg (by omega)]⟩, ?_, ?_⟩
  · unfold cutF; split
    · exact hB j
    · omega
  · rw [times_cg (cg.rf v) hc]; exact (pz_times h h.u_V).1 h3
  · rw [times_cg hc (cg.rf v)]; exact (pz_times h h.u_V).1 h4
theorem iOk_iff (h : VN p n T fo) {v : Nat → Int} (hv : VV p n v) : iOk p n T v ↔ ∃ x, VV p n x ∧ IsInv p n T v x := by
  have hpb := h.p0
  obtain ⟨⟨l, hrr⟩, hnl⟩ := red_ok (m := n + 1) (n := 2 * n) (R := iR p n T v) h.hp (fun i _ => iR_Bp h v i)
  constructor
  · intro hok
    exact ⟨_, (iF_inv h hok).1, (iF_inv h hok).2⟩
  · rintro ⟨x, hx, h1, h2⟩
    exact con_of_sol (u := x) (by omega) hrr (sol_null.2 ((hnl _).2 (sol_null.1 ((iR_sol h.n0).2 ⟨(pz_times h h.u_V).2 h1, (pz_times h h.u_V).2 h2⟩))))
theorem inv_uniq (h : VN p n T fo) {v x y : Nat → Int} (hx : VV p n x) (hy : VV p n y) (h1 : timesF p n T x v = uF p n T) (h2 : timesF p n T v y = uF p n T) : x = y := by
  have e := h.asc' x v y
  rw [h1, h2, h.one_l hy, h.one_r hx] at e
  exact e.symm
/-- The reference's one map: one row for each number. -/
theorem one_sol_map {M1 : Nat → Nat → Int} {u x : Nat → Int} (hn : 0 < n) : Sol p n n (sysR n (fun _ => M1) (fun _ => u)) x ↔ ∀ k, k < n → p ∣ sumZ (fun j => M1 j k * x j) n - u k := by
  have := map_sol (p := p) (M := 1) (Fv := fun _ => M1) (W := fun _ => u) (x := x) hn
  rw [Nat.one_mul] at this
  rw [this]
  exact ⟨fun h k hk => h 0 (by omega) k hk, fun h _ _ k hk => h k hk⟩
/-- x v = 1: the reference's equations of an inverse. -/
noncomputable abbrev bR (p : Int) (n : Nat) (T : Nat → Nat → Nat → Int) (v : Nat → Int) : Nat → Nat → Int := sysR n (fun _ j => timesF p n T (eF j) v) (fun _ => uF p n T)
/-- v x = 1. -/
noncomputable abbrev fR (p : Int) (n : Nat) (T : Nat → Nat → Nat → Int) (v : Nat → Int) : Nat → Nat → Int := sysR n (fun _ j => timesF p n T v (eF j)) (fun _ => uF p n T)
theorem bR_sol (h : VN p n T fo) {v x : Nat → Int} : Sol p n n (bR p n T v) x ↔ timesF p n T x v = uF p n T := by
  rw [← pz_times h h.u_V]
  refine (one_sol_map h.n0).trans ⟨fun q k hk => dvd_tr (dvd_sy (times_basis_l v x hk)) (q k hk), fun q k hk => dvd_tr (times_basis_l v x hk) (q k hk)⟩
theorem fR_sol (h : VN p n T fo) {v x : Nat → Int} : Sol p n n (fR p n T v) x ↔ timesF p n T v x = uF p n T := by
  rw [← pz_times h h.u_V]
  refine (one_sol_map h.n0).trans ⟨fun q k hk => dvd_tr (dvd_sy (times_basis_r v x hk)) (q k hk), fun q k hk => dvd_tr (times_basis_r v x hk) (q k hk)⟩
theorem bR_Bp (h : VN p n T fo) (v : Nat → Int) (r : Nat) : Bp p (bR p n T v r) := sysR_Bp (fun _ j => timesF_Bp h.pp) (fun _ => h.u_Bp) r
theorem fR_Bp (h : VN p n T fo) (v : Nat → Int) (r : Nat) : Bp p (fR p n T v r) := sysR_Bp (fun _ j => timesF_Bp h.pp) (fun _ => h.u_Bp) r
/-- The reference's solution of rows S. -/
def sS (p : Int) (n N : Nat) (S : Nat → Nat → Int) : Nat → Int := cutF (fun a => (echGo p (n + 1) S N).O a n) n
def oS (p : Int) (n N : Nat) (S : Nat → Nat → Int) : Prop := oneP n (echGo p (n + 1) S N).no (echGo p (n + 1) S N).O
noncomputable instance (p : Int) (n N : Nat) (S : Nat → Nat → Int) : Decidable (oS p n N S) := Classical.propDecidable _
theorem oS_sol {N : Nat} {S : Nat → Nat → Int} (hp : primeB p = true) (hS : ∀ i, Bp p (S i)) (h : oS p n N S) : Sol p n N S (sS p n N S) ∧ VV p n (sS p n N S) ∧ ∀ x, Sol p n N S x → cg p n x (sS p n N S) := by
  have hpb := primeB_bd hp
  obtain ⟨⟨l, hrr⟩, hnl⟩ := ech_ok (m := n + 1) (R := S) hp N (fun i _ => hS i)
  refine ⟨sol_null.2 ((hnl _).1 (sol_null.1 (one_sol hrr h))), ⟨fun j => ?_, fun j hj => by unfold sS cutF; rw [if_neg (by omega)]⟩, fun x hx j hj => ?_⟩
  · unfold sS cutF
    split
    · exact hrr.bp j (by have := h.1; omega) n
    · omega
  · have := one_uniq hrr h (sol_null.2 ((hnl _).2 (sol_null.1 hx))) hj
    unfold sS cutF
    rwa [if_pos hj]
theorem oS_of {N : Nat} {S : Nat → Nat → Int} (hp : primeB p = true) (hS : ∀ i, Bp p (S i)) {x : Nat → Int} (hx : Sol p n N S x) (hu : ∀ y, Sol p n N S y → cg p n y x) : oS p n N S := by
  have hpb := primeB_bd hp
  obtain ⟨⟨l, hrr⟩, hnl⟩ := ech_ok (m := n + 1) (R := S) hp N (fun i _ => hS i)
  have hs : ∀ y, Sol p n _ (echGo p (n + 1) S N).O y ↔ Sol p n N S y := fun y => by rw [sol_null, sol_null]; exact hnl _
  exact one_of_uniq (by omega) hrr (con_of_sol (by omega) hrr ((hs x).2 hx)) (fun u v hu' hv' => (hu u ((hs u).1 hu')).tr (hu v ((hs v).1 hv')).sy)
/-- What canonical vectors solve. -/
theorem cut_sol {N : Nat} {S : Nat → Nat → Int} {x : Nat → Int} (hp : 0 < p) (h : Sol p n N S x) : ∃ y, VV p n y ∧ Sol p n N S y ∧ cg p n y x := by
  refine ⟨cutF (fun j => x j % p) n, ⟨fun j => ?_, fun j hj => by unfold cutF; rw [if_neg (by omega)]⟩, ?_, fun j hj => ?_⟩
  · unfold cutF; split
    · exact ⟨Int.emod_nonneg _ (by omega), Int.emod_lt_of_pos _ hp⟩
    · omega
  · intro r hr
    refine dvd_tr ?_ (h r hr)
    refine sumZ_dvd n (fun j hj => ?_)
    refine mul_dvd (dvd_rf rfl) ?_
    unfold cutF; rw [if_pos hj]; exact dvd_mod p _
  · unfold cutF; rw [if_pos hj]; exact dvd_mod p _
/-- l01Back: x v = 1 in one way, and v x = 1 for it. -/
theorem back_iff (h : VN p n T fo) {v : Nat → Int} (hv : VV p n v) : (oS p n n (bR p n T v) ∧ timesF p n T v (sS p n n (bR p n T v)) = uF p n T ↔ iOk p n T v) ∧ (iOk p n T v → sS p n n (bR p n T v) = iF p n T v) := by
  have key : iOk p n T v → oS p n n (bR p n T v) ∧ sS p n n (bR p n T v) = iF p n T v := by
    intro hok
    obtain ⟨h1, h2, h3⟩ := iF_inv h hok
    have hs : Sol p n n (bR p n T v) (iF p n T v) := (bR_sol h).2 h3
    have ho : oS p n n (bR p n T v) := oS_of h.hp (bR_Bp h v) hs (fun y hy => by
      obtain ⟨y', hy1, hy2, hy3⟩ := cut_sol h.pp hy
      rw [inv_uniq h hy1 h1 ((bR_sol h).1 hy2) h2] at hy3
      exact hy3.sy)
    obtain ⟨a1, a2, a3⟩ := oS_sol h.hp (bR_Bp h v) ho
    exact ⟨ho, inv_uniq h a2 h1 ((bR_sol h).1 a1) h2⟩
  refine ⟨⟨fun ⟨ho, hc⟩ => ?_, fun hok => ?_⟩, fun hok => (key hok).2⟩
  · obtain ⟨a1, a2, a3⟩ := oS_sol h.hp (bR_Bp h v) ho
    exact (iOk_iff h hv).2 ⟨_, a2, hc, (bR_sol h).1 a1⟩
  · obtain ⟨k1, k2⟩ := key hok
    exact ⟨k1, by rw [k2]; exact (iF_inv h hok).2.1⟩
/-- l02Inverse: v x = 1 in one way. -/
theorem fwd_iff (h : VN p n T fo) {v : Nat → Int} (hv : VV p n v) : oS p n n (fR p n T v) ↔ iOk p n T v := by
  constructor
  · intro ho
    obtain ⟨a1, a2, a3⟩ := oS_sol h.hp (fR_Bp h v) ho
    have hx : timesF p n T v (sS p n n (fR p n T v)) = uF p n T := (fR_sol h).1 a1
    generalize sS p n n (fR p n T v) = x at a1 a2 a3 hx
    refine (iOk_iff h hv).2 ⟨x, a2, hx, ?_⟩
    -- y = x v - 1 + x solves as well
    have hy : Sol p n n (fR p n T v) (fun j => (timesF p n T x v j + (-1) * uF p n T j) + 1 * x j) := by
      refine (fR_sol h).2 ?_
      refine VV.ext (VV.times h.pp) h.u_V (fun k hk => ?_)
      rw [times_pz hk]
      refine dvd_tr (dvd_mod p _) ?_
      rw [pz_add_r, pz_add_r]
      have e1 : p ∣ pz n T v (timesF p n T x v) k - v k := by
        have : timesF p n T v (timesF p n T x v) = v := by rw [← h.asc', hx, h.one_l hv]
        have h2 := cg_times (p := p) (T := T) v (timesF p n T x v) k hk
        rw [this] at h2
        exact dvd_sy h2
      have e2 : p ∣ pz n T v (uF p n T) k - v k := pz_one_r h.RU hk
      have e3 : p ∣ pz n T v x k - uF p n T k := (pz_times h h.u_V).2 hx k hk
      have := Int.dvd_add (Int.dvd_sub e1 e2) e3
      rwa [show pz n T v (timesF p n T x v) k - v k - (pz n T v (uF p n T) k - v k) + (pz n T v x k - uF p n T k) = pz n T v (timesF p n T x v) k + -1 * pz n T v (uF p n T) k + 1 * pz n T v x k - uF p n T k by omega] at this
    refine VV.ext (VV.times h.pp) h.u_V (fun k hk => ?_)
    have h1 := a3 _ hy k hk
    rwa [show timesF p n T x v k + -1 * uF p n T k + 1 * x k - x k = timesF p n T x v k - uF p n T k by omega] at h1
  · intro hok
    obtain ⟨h1, h2, h3⟩ := iF_inv h hok
    exact oS_of h.hp (fR_Bp h v) ((fR_sol h).2 h2) (fun y hy => by
      obtain ⟨y', hy1, hy2, hy3⟩ := cut_sol h.pp hy
      rw [← inv_uniq h h1 hy1 h3 ((fR_sol h).1 hy2)] at hy3
      exact hy3.sy)
end
end Go.Am
/- Lists of vectors that come in as data. My own work. -/
set_option linter.unusedVariables false
set_option linter.unusedSimpArgs false
namespace Go.Am
section
variable {H : Type} {enc : TypeId × Value → H} {P : Program} {w : World} {base : Nat} {spare : Nat → Bool} {held : Bool}
/-- A slice of arrays of whole numbers that came in. -/
theorem open_vecs {t e u : TypeId} {N : Nat} {k : IntKind} {fuel : Nat} {cs : List Value} {x : DataW H × List MemPlace} (ht : P.underlying t = some (.slice e)) (he : P.underlying e = some (.array N u)) (hu : P.underlying u = some (.int k)) (hce : P.cellsOf e = N) (hcu : P.cellsOf u = 1)
    (h : DataW.trod enc P w base spare held fuel t cs = some x) :
    cs = [.slice none 0 0] ∨
    ∃ (a : Addr) (len cap : Nat) (z : Nat → Nat → Int), cs = [.slice (some a) len cap] ∧ len ≤ cap ∧ cap ≤ maxLen ∧
      (∀ i j, i < len → j < N → w.cell? (a.add (i * N + j)) = some (.int k (z i j)) ∧ k.has (z i j)) := by
  rcases DataW.trod_slice ht h with h0 | ⟨a, len, cap, elems, rest, n, _, rfl, rfl, hb, hl, hm, hlen, hel, hsp, hns⟩
  · exact Or.inl h0.1
  right
  refine ⟨a, len, cap, fun i j => match w.cell? (a.add (i * N + j)) with | some (.int _ m) => m | _ => 0, rfl, hl, hm, fun i j hi hj => ?_⟩
  have hE := hel i hi
  rw [hce] at hE
  rw [List.getElem?_eq_getElem (by omega), Option.bind_eq_some_iff] at hE
  obtain ⟨cs', hcs, hy⟩ := hE
  obtain ⟨hb1, hlen', hcell⟩ := World.cells?_some hcs
  obtain ⟨xs, m, _, _, hlc, hxl, hx⟩ := DataW.trod_array he hy
  have hxj := hx j hj
  rw [hcu, Nat.mul_one, List.getElem?_eq_getElem (by omega)] at hxj
  obtain ⟨q, hq1, hq2, hq3⟩ := DataW.trod_int hu hxj
  have hj' : j < cs'.length := by rw [hlen']; exact hj
  have hcj : cs'[j]? = some (.int k q) := by
    have : ((cs'.drop j).take 1)[0]? = some (.int k q) := by rw [hq1]; rfl
    rw [List.getElem?_take, if_pos (by omega), List.getElem?_drop, Nat.add_zero] at this
    exact this
  have hc := hcell j hj
  have hadd : (a.add (i * N)).add j = a.add (i * N + j) := by
    obtain ⟨b, o, s⟩ := a
    unfold Addr.add
    split <;> split <;> simp_all <;> omega
  rw [hadd, hcj] at hc
  show w.cell? (a.add (i * N + j)) = some (.int k (match w.cell? (a.add (i * N + j)) with | some (.int _ m) => m | _ => 0)) ∧ k.has (match w.cell? (a.add (i * N + j)) with | some (.int _ m) => m | _ => 0)
  rw [hc]
  refine ⟨rfl, ?_⟩
  have hwf : (Lit.int k q).wf = true := hq3
  simpa [Lit.wf, IntKind.has] using hwf
end
/-- Its reading as an abstract value. -/
def lsF (len : Nat) (z : Nat → Nat → Int) (i : Nat) : Nat → Int := fun k => if i < len ∧ k < 6 then z i k else 0
theorem lsF_RV {len : Nat} {z : Nat → Nat → Int} (h : ∀ i j, i < len → j < 6 → IntKind.u8.has (z i j)) (i : Nat) : RV (lsF len z i) where
  b := fun k => by
    unfold lsF; split
    · rename_i hk; exact has_u8 (h i k hk.1 hk.2)
    · omega
  z := fun k hk => by unfold lsF; rw [if_neg (by omega)]
theorem vecs_in {T : TT} {w : World} {I : Nat → Prop} (hI : ∀ b, b < w.heap.size → I b) {a : Addr} {len cap : Nat} {z : Nat → Nat → Int} (hl : len ≤ cap) (hm : cap ≤ maxLen)
    (h : ∀ i j, i < len → j < 6 → w.cell? (a.add (i * 6 + j)) = some (.int .u8 (z i j))) : VR (K0 T I w) (vlA len (lsF len z)) (.slice (some a) len cap) := by
  refine ⟨some a, cap, rfl, hl, hm, ?_⟩
  by_cases h0 : len = 0
  · exact .inl h0
  right
  have h1 := h 0 0 (by omega) (by omega)
  obtain ⟨b, o, s⟩ := a
  have hs : s = none := by
    have := World.cell?_spot h1
    unfold Addr.add at this
    split at this <;> simp_all
  subst hs
  have hc : ∀ i j, i < len → j < 6 → w.cell? ⟨b, o + (i * 6 + j), none⟩ = some (.int .u8 (z i j)) := fun i j hi hj => by have := h i j hi hj; rwa [addr_add] at this
  cases hb : w.heap[b]? with
  | none => have := hc 0 0 (by omega) (by omega); simp [World.cell?, hb] at this
  | some ob =>
    cases ob with
    | cells cur e fr =>
      refine ⟨b, o, fun i => [.int .u8 (z i 0), .int .u8 (z i 1), .int .u8 (z i 2), .int .u8 (z i 3), .int .u8 (z i 4), .int .u8 (z i 5)], rfl, hI b (Array.getElem?_eq_some_iff.1 hb).1, ⟨cur, e, fr, hb, ?_⟩, fun i hi => ⟨⟨fun j => [.int .u8 (lsF len z i j)], ?_, fun j hj => ⟨rfl, rfl⟩⟩, rfl⟩⟩
      · have hget : ∀ i j, i < len → j < 6 → cur[o + (i * 6 + j)]? = some (.int .u8 (z i j)) := fun i j hi hj => by
          have := hc i j hi hj
          simp only [World.cell?, hb] at this
          simpa using this
        have key : ∀ m, m ≤ len → ∀ (q : Nat) (x : Value), (flat (fun i => [Value.int .u8 (z i 0), .int .u8 (z i 1), .int .u8 (z i 2), .int .u8 (z i 3), .int .u8 (z i 4), .int .u8 (z i 5)]) m)[q]? = some x → cur[o + q]? = some x := by
          intro m
          induction m with
          | zero => intro _ q x hq; simp [flat] at hq
          | succ m ih =>
            intro hm q x hq
            simp only [flat] at hq
            have hlen : (flat (fun i => [Value.int .u8 (z i 0), .int .u8 (z i 1), .int .u8 (z i 2), .int .u8 (z i 3), .int .u8 (z i 4), .int .u8 (z i 5)]) m).length = m * 6 := by
              rw [flat_len]; exact (sumTo_congr (g := fun _ => 6) (fun _ _ => rfl)).trans (sumTo_const 6 m)
            by_cases hlt : q < m * 6
            · rw [List.getElem?_append_left (by omega)] at hq
              exact ih (by omega) q x hq
            · rw [List.getElem?_append_right (by omega), hlen] at hq
              have hq6 : q - m * 6 < 6 := by
                have := (List.getElem?_eq_some_iff.1 hq).1
                simpa using this
              have hg := hget m (q - m * 6) (by omega) hq6
              rw [show m * 6 + (q - m * 6) = q by omega] at hg
              rw [hg]
              have : ∀ j, j < 6 → [Value.int .u8 (z m 0), .int .u8 (z m 1), .int .u8 (z m 2), .int .u8 (z m 3), .int .u8 (z m 4), .int .u8 (z m 5)][j]? = some (.int .u8 (z m j)) := by
                intro j hj
                match j, hj with
                | 0, _ => rfl
                | 1, _ => rfl
                | 2, _ => rfl
                | 3, _ => rfl
                | 4, _ => rfl
                | 5, _ => rfl
              rw [← this _ hq6]; exact hq
        exact key len (Nat.le_refl _)
      · have : ∀ j, j < 6 → lsF len z i j = z i j := fun j hj => if_pos ⟨hi, hj⟩
        simp only [flat, List.nil_append, List.singleton_append, List.cons_append]
        rw [this 0 (by omega), this 1 (by omega), this 2 (by omega), this 3 (by omega), this 4 (by omega), this 5 (by omega)]
    | _ => have := hc 0 0 (by omega) (by omega); simp [World.cell?, hb] at this
theorem vecs_nil {T : TT} {w : World} {I : Nat → Prop} {F : Nat → Nat → Int} : VR (K0 T I w) (vlA 0 F) (.slice none 0 0) := ⟨none, 0, rfl, Nat.le_refl _, Nat.zero_le _, .inl rfl⟩
theorem vecs_arg {H : Type} {enc : TypeId × Value → H} {P : Program} {T : TT} {w : World} {base : Nat} {spare : Nat → Bool} {held : Bool} {t e u : TypeId} {a : Option Addr} {len cap : Nat} {d : DataW H} {ps : List MemPlace}
    (ht : P.underlying t = some (.slice e)) (he : P.underlying e = some (.array 6 u)) (hu : P.underlying u = some (.int .u8)) (hce : P.cellsOf e = 6) (hcu : P.cellsOf u = 1) (h : DataW.Trod enc P w base spare held t (.slice a len cap) d ps) :
    ∃ (M : Nat) (F : Nat → Nat → Int), (∀ i, RV (F i)) ∧ VR (K0 T (fun b => b < w.heap.size) w) (vlA M F) (.slice a len cap) := by
  obtain ⟨fuel, hf⟩ := h
  rcases open_vecs (N := 6) (k := .u8) ht he hu hce hcu hf with hcs | ⟨x, l, c, z, hcs, hl, hm, hz⟩
  · simp [Value.cells] at hcs
    obtain ⟨rfl, rfl, rfl⟩ := hcs
    exact ⟨0, fun _ _ => 0, fun _ => ⟨B8_0, fun _ _ => rfl⟩, vecs_nil⟩
  · simp [Value.cells] at hcs
    obtain ⟨rfl, rfl, rfl⟩ := hcs
    exact ⟨len, lsF len z, fun i => lsF_RV (fun i j hi hj => (hz i j hi hj).2) i, vecs_in (fun b hb => hb) hl hm (fun i j hi hj => (hz i j hi hj).1)⟩
def mtA (z : Nat → Int) (o i j : Nat) : Int := if i < 6 ∧ j < 6 then z (o + (i * 6 + j)) else 0
end Go.Am
/- The kernel: the reduced rows of all solutions, as both programs make them. My own work. -/
set_option linter.unusedVariables false
set_option linter.unusedSimpArgs false
namespace Go.Am
section
variable {p : Int} {m : Nat}
theorem dot_congr {f g x : Nat → Int} : ∀ m, (∀ j, j < m → f j = g j) → dot m f x = dot m g x := fun m h => sumZ_congr m (fun j hj => by rw [h j hj])
theorem null_congr {n : Nat} {R S : Nat → Nat → Int} (h : ∀ i, i < n → ∀ j, j < m → R i j = S i j) (x : Nat → Int) : Null p m n R x ↔ Null p m n S x := by
  unfold Null Z
  constructor
  · intro q i hi; rw [← dot_congr m (h i hi)]; exact q i hi
  · intro q i hi; rw [dot_congr m (h i hi)]; exact q i hi
/-- Rows with the same solutions have the same reduced rows. -/
theorem red_null {n n' : Nat} {R S : Nat → Nat → Int} (hp : primeB p = true) (hR : ∀ i, i < n → Bp p (R i)) (hS : ∀ i, i < n' → Bp p (S i)) (h : ∀ x, Null p m n R x ↔ Null p m n' S x) :
    (redGo p n R m).no = (redGo p n' S m).no ∧ ∀ i, i < (redGo p n R m).no → ∀ j, j < m → (redGo p n R m).O i j = (redGo p n' S m).O i j := by
  have hpb := primeB_bd hp
  obtain ⟨⟨l, h1⟩, h2⟩ := red_ok (m := m) hp hR
  obtain ⟨⟨l', h3⟩, h4⟩ := red_ok (m := m) hp hS
  exact rref_unique (by omega) h1 h3 (fun x => (h2 x).trans ((h x).trans (h4 x).symm))
theorem red_congr {n : Nat} {R S : Nat → Nat → Int} (hp : primeB p = true) (hR : ∀ i, i < n → Bp p (R i)) (hS : ∀ i, i < n → Bp p (S i)) (h : ∀ i, i < n → ∀ j, j < m → R i j = S i j) :
    (redGo p n R m).no = (redGo p n S m).no ∧ ∀ i, i < (redGo p n R m).no → ∀ j, j < m → (redGo p n R m).O i j = (redGo p n S m).O i j := red_null hp hR hS (null_congr h)
theorem red_Bp {n : Nat} {R : Nat → Nat → Int} (hp : primeB p = true) (hR : ∀ i, i < n → Bp p (R i)) {i : Nat} (hi : i < (redGo p n R m).no) : Bp p ((redGo p n R m).O i) := by
  obtain ⟨⟨l, h1⟩, _⟩ := red_ok (m := m) hp hR
  exact h1.bp i hi
theorem ech_Bp {n : Nat} {R : Nat → Nat → Int} (hp : primeB p = true) (hR : ∀ i, i < n → Bp p (R i)) {i : Nat} (hi : i < (echGo p m R n).no) : Bp p ((echGo p m R n).O i) := by
  obtain ⟨⟨l, h1⟩, _⟩ := ech_ok (m := m) hp n hR
  exact h1.bp i hi
theorem red_le {n : Nat} {R : Nat → Nat → Int} : (redGo p n R m).no ≤ m ∧ (redGo p n R m).no ≤ n := by
  have := red_counts p n R m
  omega
end

/-! ### The basis of the solutions -/
/-- Does a row begin at j? -/
def ldB (m no : Nat) (O : Nat → Nat → Int) (j : Nat) : Bool := decide (0 ≤ idxF (fun i => decide (leadN m (O i) = j)) no)
/-- The solution with 1 at c. -/
def kvF (p : Int) (m no : Nat) (O : Nat → Nat → Int) (c j : Nat) : Int := if j = c then 1 else if ldB m no O j then (- O (idxF (fun i => decide (leadN m (O i) = j)) no).toNat c) % p else 0
/-- How many places below c are none where a row begins. -/
def kcN (m no : Nat) (O : Nat → Nat → Int) : Nat → Nat
  | 0 => 0
  | c + 1 => bif ldB m no O c then kcN m no O c else kcN m no O c + 1
/-- The solutions for these places. -/
def kbF (p : Int) (m no : Nat) (O : Nat → Nat → Int) : Nat → Nat → Nat → Int
  | 0 => fun _ _ => 0
  | c + 1 => bif ldB m no O c then kbF p m no O c else fun i => if i = kcN m no O c then kvF p m no O c else kbF p m no O c i
theorem kcN_le (m no : Nat) (O : Nat → Nat → Int) : ∀ c, kcN m no O c ≤ c
  | 0 => Nat.le_refl _
  | c + 1 => by
    have := kcN_le m no O c
    unfold kcN
    cases ldB m no O c <;> simp <;> omega
theorem kvF_Bp {p : Int} (hp : 1 < p) (m no : Nat) (O : Nat → Nat → Int) (c : Nat) : Bp p (kvF p m no O c) := fun j => by
  unfold kvF
  split
  · omega
  · split
    · exact ⟨Int.emod_nonneg _ (by omega), Int.emod_lt_of_pos _ (by omega)⟩
    · omega
theorem kbF_Bp {p : Int} (hp : 1 < p) (m no : Nat) (O : Nat → Nat → Int) : ∀ c i, Bp p (kbF p m no O c i)
  | 0, i => fun j => by show 0 ≤ (0 : Int) ∧ (0 : Int) < p; omega
  | c + 1, i => by
    unfold kbF
    cases ldB m no O c
    · show Bp p (if i = _ then _ else _)
      split
      · exact kvF_Bp hp m no O c
      · exact kbF_Bp hp m no O c i
    · exact kbF_Bp hp m no O c i
theorem idxF_congr {P Q : Nat → Bool} {m : Nat} (h : ∀ i, i < m → P i = Q i) : idxF P m = idxF Q m := by
  rcases idx_cases P m with ⟨i, hi, hP, hb, he⟩ | ⟨hn, he⟩
  · rw [he]; exact (idx_at hi (by rw [← h i hi]; exact hP) (fun j hj => by rw [← h j (by omega)]; exact hb j hj)).symm
  · rw [he]; exact (idx_none (fun j hj => by rw [← h j hj]; exact hn j hj)).symm
theorem leadN_congr {m : Nat} {f g : Nat → Int} (h : ∀ j, j < m → f j = g j) : leadN m f = leadN m g := by
  unfold leadN
  rw [idxF_congr (P := leadB f) (Q := leadB g) (fun j hj => by unfold leadB; rw [h j hj])]
section
variable {p : Int} {m no : Nat} {O O' : Nat → Nat → Int}
theorem ldB_congr (h : ∀ i, i < no → ∀ j, j < m → O i j = O' i j) (c : Nat) : idxF (fun i => decide (leadN m (O i) = c)) no = idxF (fun i => decide (leadN m (O' i) = c)) no :=
  idxF_congr (fun i hi => by rw [leadN_congr (h i hi)])
theorem kcN_congr (h : ∀ i, i < no → ∀ j, j < m → O i j = O' i j) : ∀ c, kcN m no O c = kcN m no O' c
  | 0 => rfl
  | c + 1 => by
    unfold kcN ldB
    rw [ldB_congr h c, kcN_congr h c]
theorem kvF_congr (h : ∀ i, i < no → ∀ j, j < m → O i j = O' i j) {c : Nat} (hc : c < m) (j : Nat) : kvF p m no O c j = kvF p m no O' c j := by
  unfold kvF ldB
  rw [ldB_congr h j]
  split
  · rfl
  · split
    · rename_i hb
      rcases idx_cases (fun i => decide (leadN m (O' i) = j)) no with ⟨i, hi, _, _, he⟩ | ⟨_, he⟩
      · rw [he]
        show (- O i c) % p = (- O' i c) % p
        rw [h i hi c hc]
      · rw [he] at hb; simp at hb
    · rfl
theorem kbF_congr (h : ∀ i, i < no → ∀ j, j < m → O i j = O' i j) : ∀ c, c ≤ m → ∀ i j, kbF p m no O c i j = kbF p m no O' c i j
  | 0, _, i, j => rfl
  | c + 1, hc, i, j => by
    unfold kbF ldB
    rw [ldB_congr h c, kcN_congr h c]
    cases decide (0 ≤ idxF (fun i => decide (leadN m (O' i) = c)) no)
    · simp only [cond_false]
      split
      · exact kvF_congr h (by omega) j
      · exact kbF_congr h c (by omega) i j
    · exact kbF_congr h c (by omega) i j
end
/-- The kernel of N rows of n numbers: how many rows, and the rows. -/
def kerS (p : Int) (n N : Nat) (R : Nat → Nat → Int) : RS := redGo p (kcN n (redGo p N R n).no (redGo p N R n).O n) (kbF p n (redGo p N R n).no (redGo p N R n).O n) n
/-- The reference's. -/
def kerE (p : Int) (n N : Nat) (R : Nat → Nat → Int) : ES := echGo p n (kbF p n (echGo p n R N).no (echGo p n R N).O n) (kcN n (echGo p n R N).no (echGo p n R N).O n)
theorem ker_eq {p : Int} (hp : primeB p = true) {n N : Nat} {R : Nat → Nat → Int} (hR : ∀ i, i < N → Bp p (R i)) :
    (kerE p n N R).no = (kerS p n N R).no ∧ ∀ i, i < (kerS p n N R).no → ∀ j, j < n → (kerE p n N R).O i j = (kerS p n N R).O i j := by
  have hpb := primeB_bd hp
  obtain ⟨h1, h2⟩ := ech_red (m := n) hp hR
  have e1 : kcN n (echGo p n R N).no (echGo p n R N).O n = kcN n (redGo p N R n).no (redGo p N R n).O n := by
    rw [kcN_congr h2 n, h1]
  have e2 : ∀ i j, kbF p n (echGo p n R N).no (echGo p n R N).O n i j = kbF p n (redGo p N R n).no (redGo p N R n).O n i j := fun i j => by
    rw [kbF_congr h2 n (Nat.le_refl _), h1]
  have e3 : kbF p n (echGo p n R N).no (echGo p n R N).O n = kbF p n (redGo p N R n).no (redGo p N R n).O n := funext fun i => funext fun j => e2 i j
  unfold kerE kerS
  rw [e1, e3]
  obtain ⟨h3, h4⟩ := ech_red (p := p) (m := n) (n := kcN n (redGo p N R n).no (redGo p N R n).O n) (R := kbF p n (redGo p N R n).no (redGo p N R n).O n) hp (fun i _ => kbF_Bp (by omega) _ _ _ _ i)
  exact ⟨h3, fun i hi => h4 i (by rw [h3]; exact hi)⟩
/-- Rows with the same solutions have the same kernel. -/
theorem ker_null {p : Int} (hp : primeB p = true) {n N N' : Nat} {R S : Nat → Nat → Int} (hR : ∀ i, i < N → Bp p (R i)) (hS : ∀ i, i < N' → Bp p (S i)) (h : ∀ x, Null p n N R x ↔ Null p n N' S x) :
    (kerS p n N R).no = (kerS p n N' S).no ∧ ∀ i, i < (kerS p n N R).no → ∀ j, j < n → (kerS p n N R).O i j = (kerS p n N' S).O i j := by
  have hpb := primeB_bd hp
  obtain ⟨h1, h2⟩ := red_null (m := n) hp hR hS h
  have e3 : kbF p n (redGo p N R n).no (redGo p N R n).O n = kbF p n (redGo p N' S n).no (redGo p N' S n).O n := funext fun i => funext fun j => by
    rw [kbF_congr h2 n (Nat.le_refl _), h1]
  have e1 : kcN n (redGo p N R n).no (redGo p N R n).O n = kcN n (redGo p N' S n).no (redGo p N' S n).O n := by rw [kcN_congr h2 n, h1]
  unfold kerS
  rw [e1, e3]
  exact ⟨rfl, fun _ _ _ _ => rfl⟩
end Go.Am
/- More that closes the walks' small goals; symmetric tables. My own work. -/
set_option linter.unusedVariables false
set_option linter.unusedSimpArgs false
namespace Go.Am
theorem fam_sh {b N e : Nat} {w : Nat → Nat} {F : Nat → Nat → Int} {ol : OL} {r : Nat} (hr : r < N) : OL.at_ (OL.shift b [(0, .one (ZR N) (CO 1 N w e)), (1, .many (famF N w F))] ++ ol) (b + 1) r = some (Z64 (w r), C64 (w r) (F r)) := by
  have e1 : Nat.beq (b + 1) (b + 0) = false := beq_ff (by omega)
  show (bif Nat.beq (b + 1) (b + 0) then _ else bif Nat.beq (b + 1) (b + 1) then (match famF N w F r with | some (sh, c) => some (sh, Am.shift b c) | none => none) else _) = _
  rw [e1, Nat.beq_refl, famF_at hr]
  rfl
def symA (n : Nat) (F : Nat → Nat → Int) : Prop := ∀ i, i < n → ∀ j, j < n → F j i = F i j
def symS (n : Nat) (F : Nat → Nat → Int) : Prop := ∀ i, i < n → ∀ j, j < i → F i j = F j i
noncomputable instance (n : Nat) (F : Nat → Nat → Int) : Decidable (symA n F) := Classical.propDecidable _
noncomputable instance (n : Nat) (F : Nat → Nat → Int) : Decidable (symS n F) := Classical.propDecidable _
theorem sym_iff {n : Nat} {F : Nat → Nat → Int} : symS n F ↔ symA n F := by
  constructor
  · intro h i hi j hj
    rcases Nat.lt_trichotomy i j with h1 | h1 | h1
    · exact h j hj i h1
    · subst h1; rfl
    · exact (h i hi j h1).symm
  · intro h i hi j hj; exact (h i hi j (by omega)).symm
theorem VN.ee {p : Int} {n : Nat} {T : Nat → Nat → Nat → Int} {fo : Nat → Int} (h : VN p n T fo) {i j : Nat} (hi : i < n) (hj : j < n) : timesF p n T (eF i) (eF j) = T i j := by
  funext k
  by_cases hk : k < n
  · exact times_ee hi hj hk (h.hT i j k)
  · unfold timesF; rw [if_neg hk, h.tz i j k (by omega)]
theorem sys1_lt {n : Nat} {M : Nat → Nat → Int} {u : Nat → Int} {k j : Nat} (hk : k < n) (hj : j < n) : sysR n (fun _ => M) (fun _ => u) k j = M j k := by
  rw [sysR_lt hj]; unfold eqR; rw [Nat.mod_eq_of_lt hk]
theorem sys1_n {n : Nat} {M : Nat → Nat → Int} {u : Nat → Int} {k : Nat} (hk : k < n) : sysR n (fun _ => M) (fun _ => u) k n = u k := by
  rw [sysR_n, Nat.mod_eq_of_lt hk]
/-- What l01Back answers: its vector. -/
noncomputable def bkV (p : Int) (n : Nat) (S : Nat → Nat → Int) : Nat → Int := if oS p n n S then sS p n n S else fun _ => 0
theorem Mt.rf {V : Vw} {v : AV} (h : v.closed) (hn : v ≠ .any) : Mt V v v := Mt_closed h (fun _ _ _ => trivial) hn
end Go.Am
/- Regions that draw their order, more of them: operations that only read or make may stand behind writing ones, and reads of what is frozen may stand anywhere. My own work. -/
set_option linter.unusedVariables false
set_option linter.unusedSimpArgs false
namespace Go.Am

def kdx (fr : Nat → Bool) (i : Nat) (o : Oper) : Nat := bif fr i then 0 else kind o
theorem kdx_le (fr : Nat → Bool) (i : Nat) (o : Oper) : kdx fr i o = 0 ∨ kdx fr i o = 1 ∨ kdx fr i o = 2 := by
  unfold kdx
  cases fr i
  · exact kind_le o
  · exact .inl rfl

def StepK (q : Nat) (P : Program) (T : TT) (arr : Array Oper) (o : Oper) (env : Env) (ol : OL) (v : AV) (ol' : OL) : Prop :=
  (gd arr o env = some false ∧ v = undA ∧ ol' = ol) ∨
  (gd arr o env = some true ∧
    ((q = 0 ∧ ol' = ol ∧ PureJ P T o (evE env) v) ∨
     (q = 1 ∧ ∃ A : OL, ol' = A ++ ol ∧ PassJ' P T o (evE env) ol.ob v A ∧ ∀ k, A.has k = true → ol.has k = false) ∨
     (q = 2 ∧ ActJ P T o (evE env) ol.ob v ol'.ob)))

structure DrawOkX (ops : Array Oper) (U : Nat → Nat → Bool) (fr : Nat → Bool) : Prop where
  back : ∀ i oi, ops[i]? = some oi → ∀ e ∈ oi.after, Region.binds .any e = true → e.on < i
  clos : ∀ i oi j, ops[i]? = some oi → j < ops.size → U i j = true → ∃ e ∈ oi.after, Region.binds .any e = true ∧ (e.on = j ∨ U e.on j = true)
  ap : ∀ i oi j oj, ops[i]? = some oi → ops[j]? = some oj → j < i → oj.apart ops oi = true ∨ U i j = true
  act1 : ∀ i oi j oj, ops[i]? = some oi → ops[j]? = some oj → kdx fr i oi = 2 → kdx fr j oj = 1 → j < i → U i j = true
  act1' : ∀ i oi j oj, ops[i]? = some oi → ops[j]? = some oj → kdx fr i oi = 2 → kdx fr j oj = 1 → i < j → U j i = true
  act2 : ∀ i oi j oj, ops[i]? = some oi → ops[j]? = some oj → kdx fr i oi = 2 → kdx fr j oj = 2 → j < i → U i j = true

def chkX (ops : Array Oper) (U : Nat → Nat → Bool) (fr : Nat → Bool) : Bool :=
  (List.range ops.size).all fun i => match ops[i]? with
    | none => true
    | some oi =>
      (oi.after.toList.all fun e => !Region.binds .any e || Nat.blt e.on i) &&
      (List.range ops.size).all fun j => match ops[j]? with
        | none => true
        | some oj =>
          (!U i j || oi.after.toList.any fun e => Region.binds .any e && (Nat.beq e.on j || U e.on j)) &&
          (!(Nat.blt j i) || (U i j || oj.apart ops oi)) &&
          (!(Nat.beq (kdx fr i oi) 2) || (!(Nat.beq (kdx fr j oj) 1) || ((!(Nat.blt j i) || U i j) && (!(Nat.blt i j) || U j i)))) &&
          (!(Nat.beq (kdx fr i oi) 2) || (!(Nat.beq (kdx fr j oj) 2) || (!(Nat.blt j i) || U i j)))

theorem chkX_ok {ops : Array Oper} {U : Nat → Nat → Bool} {fr : Nat → Bool} (h : chkX ops U fr = true) : DrawOkX ops U fr := by
  simp only [chkX, List.all_eq_true, List.mem_range] at h
  have lt : ∀ {i : Nat} {oi : Oper}, ops[i]? = some oi → i < ops.size := fun hi => (Array.getElem?_eq_some_iff.1 hi).1
  have g1 : ∀ i oi, ops[i]? = some oi → ∀ e ∈ oi.after.toList, (!Region.binds .any e || Nat.blt e.on i) = true := by
    intro i oi hi
    have := h i (lt hi)
    rw [hi] at this
    simp only [Bool.and_eq_true, List.all_eq_true] at this
    exact this.1
  have g2 : ∀ i oi j oj, ops[i]? = some oi → ops[j]? = some oj →
      ((((!U i j || oi.after.toList.any fun e => Region.binds .any e && (Nat.beq e.on j || U e.on j)) = true ∧ (!(Nat.blt j i) || (U i j || oj.apart ops oi)) = true) ∧
      (!(Nat.beq (kdx fr i oi) 2) || (!(Nat.beq (kdx fr j oj) 1) || ((!(Nat.blt j i) || U i j) && (!(Nat.blt i j) || U j i)))) = true) ∧ (!(Nat.beq (kdx fr i oi) 2) || (!(Nat.beq (kdx fr j oj) 2) || (!(Nat.blt j i) || U i j))) = true) := by
    intro i oi j oj hi hj
    have := h i (lt hi)
    rw [hi] at this
    simp only [Bool.and_eq_true, List.all_eq_true, List.mem_range] at this
    have := this.2 j (lt hj)
    rw [hj] at this
    simpa only [Bool.and_eq_true] using this
  refine ⟨fun i oi hi e he hb => ?_, fun i oi j hi hj hu => ?_, fun i oi j oj hi hj hlt => ?_, fun i oi j oj hi hj h2 h1 hlt => ?_, fun i oi j oj hi hj h2 h1 hlt => ?_, fun i oi j oj hi hj h2 h1 hlt => ?_⟩
  · have := (g1 i oi hi) e (by simpa using he)
    simpa [hb, Nat.blt_eq] using this
  · have := (g2 i oi j ops[j] hi (by simp [hj])).1.1.1
    simp only [hu, Bool.not_true, Bool.false_or, List.any_eq_true, Bool.and_eq_true, Bool.or_eq_true] at this
    obtain ⟨e, he, hb, hq⟩ := this
    exact ⟨e, by simpa using he, hb, hq.imp (fun h => Nat.eq_of_beq_eq_true h) id⟩
  · have := (g2 i oi j oj hi hj).1.1.2
    have hb : Nat.blt j i = true := by rw [Nat.blt_eq]; exact hlt
    simp only [hb, Bool.not_true, Bool.false_or, Bool.or_eq_true] at this
    exact this.symm
  · have := (g2 i oi j oj hi hj).1.2
    have hb : Nat.blt j i = true := by rw [Nat.blt_eq]; exact hlt
    simp [h2, h1, hb] at this
    exact this.1
  · have := (g2 i oi j oj hi hj).1.2
    have hb : Nat.blt i j = true := by rw [Nat.blt_eq]; exact hlt
    simp [h2, h1, hb] at this
    exact this.2
  · have := (g2 i oi j oj hi hj).2
    have hb : Nat.blt j i = true := by rw [Nat.blt_eq]; exact hlt
    simpa [h2, h1, hb] using this

def drawOkX (ops : Array Oper) (fr : Nat → Bool) : Bool := chkX ops (Uof (numsOf ops)) fr

structure TrX (P : Program) (T : TT) (ops : Array Oper) (fr : Nat → Bool) (env : Env) (V : Nat → AV) (O : Nat → OL) : Prop where
  step : ∀ k o, ops[k]? = some o → StepK (kdx fr k o) P T ops o (envOf V (fun j => decide (j < k)) 0 ops.toList env) (O k) (V k) (O (k + 1))

variable {P : Program} {T : TT} {ops : Array Oper} {U : Nat → Nat → Bool} {fr : Nat → Bool} {env : Env} {V : Nat → AV} {O : Nat → OL}

theorem TrX.same (ht : TrX P T ops fr env V O) {k : Nat} {o : Oper} (hk : ops[k]? = some o) (h0 : kdx fr k o = 0) : O (k + 1) = O k := by
  rcases ht.step k o hk with ⟨_, _, h⟩ | ⟨_, ⟨_, h, _⟩ | ⟨h, _⟩ | ⟨h, _⟩⟩
  · exact h
  · exact h
  · rw [h0] at h; cases h
  · rw [h0] at h; cases h
theorem TrX.up (ht : TrX P T ops fr env V O) {j : Nat} {o : Oper} (hj : ops[j]? = some o) (h2 : kdx fr j o ≠ 2) {k : Nat} (hk : (O j).has k = true) : (O (j + 1)).has k = true ∧ ∀ i, (O (j + 1)).at_ k i = (O j).at_ k i := by
  rcases ht.step j o hj with ⟨_, _, h⟩ | ⟨_, ⟨_, h, _⟩ | ⟨_, A, h, _, hf⟩ | ⟨h, _⟩⟩
  · rw [h]; exact ⟨hk, fun _ => rfl⟩
  · rw [h]; exact ⟨hk, fun _ => rfl⟩
  · rw [h]
    refine ⟨by rw [OL.has_append, hk]; simp, fun i => ?_⟩
    rw [OL.at_append]
    split
    · rename_i hA
      rw [hf k hA] at hk; cases hk
    · rfl
  · exact absurd h h2
/-- No writing from a up to b. -/
def noAct (ops : Array Oper) (fr : Nat → Bool) (a b : Nat) : Prop := ∀ i oi, ops[i]? = some oi → a ≤ i → i < b → kdx fr i oi ≠ 2
theorem noAct.sub {a b a' b' : Nat} (h : noAct ops fr a b) (ha : a ≤ a') (hb : b' ≤ b) : noAct ops fr a' b' := fun i oi hi h1 h2 => h i oi hi (by omega) (by omega)
theorem TrX.chain (ht : TrX P T ops fr env V O) {a : Nat} : ∀ d, a + d ≤ ops.size → noAct ops fr a (a + d) → ∀ {k : Nat}, (O a).has k = true → (O (a + d)).has k = true ∧ ∀ i, (O (a + d)).at_ k i = (O a).at_ k i
  | 0, _, _, k, hk => ⟨hk, fun _ => rfl⟩
  | d + 1, h, hn, k, hk => by
    obtain ⟨h1, h2⟩ := ht.chain d (by omega) (hn.sub (Nat.le_refl _) (by omega)) hk
    have hlt : a + d < ops.size := by omega
    have hx : ops[a + d]? = some ops[a + d] := by simp [hlt]
    obtain ⟨h3, h4⟩ := ht.up hx (hn _ _ hx (by omega) (by omega)) h1
    exact ⟨h3, fun i => (h4 i).trans (h2 i)⟩
theorem TrX.mono (ht : TrX P T ops fr env V O) {a b : Nat} (hab : a ≤ b) (hb : b ≤ ops.size) (hn : noAct ops fr a b) {k : Nat} (hk : (O a).has k = true) : (O b).has k = true ∧ ∀ i, (O b).at_ k i = (O a).at_ k i := by
  obtain ⟨d, rfl⟩ := Nat.exists_eq_add_of_le hab
  exact ht.chain d hb hn hk
theorem TrX.born (ht : TrX P T ops fr env V O) {a : Nat} {k : Nat} : ∀ d, (O (a + d)).has k = true → (O a).has k = true ∨ ∃ j, a ≤ j ∧ j < a + d ∧ (O (j + 1)).has k = true ∧ (O j).has k = false
  | 0, h => .inl h
  | d + 1, h => by
    cases hq : (O (a + d)).has k with
    | true =>
      rcases ht.born d hq with h | ⟨j, h1, h2, h3⟩
      · exact .inl h
      · exact .inr ⟨j, h1, by omega, h3⟩
    | false => exact .inr ⟨a + d, by omega, by omega, h, hq⟩
theorem nextAct (ops : Array Oper) (fr : Nat → Bool) : ∀ d m, m + d = ops.size → ∃ e, m ≤ e ∧ e ≤ ops.size ∧ noAct ops fr m e ∧ (e = ops.size ∨ ∃ oe, ops[e]? = some oe ∧ kdx fr e oe = 2)
  | 0, m, h => ⟨m, Nat.le_refl _, by omega, fun i oi _ h1 h2 => by omega, .inl (by omega)⟩
  | d + 1, m, h => by
    have hlt : m < ops.size := by omega
    have hx : ops[m]? = some ops[m] := by simp [hlt]
    by_cases h2 : kdx fr m ops[m] = 2
    · exact ⟨m, Nat.le_refl _, by omega, fun i oi _ h1 h2 => by omega, .inr ⟨_, hx, h2⟩⟩
    · obtain ⟨e, h3, h4, h5, h6⟩ := nextAct ops fr d (m + 1) (by omega)
      refine ⟨e, by omega, h4, fun i oi hi h7 h8 => ?_, h6⟩
      by_cases hi2 : i = m
      · subst hi2; rw [hx] at hi; cases hi; exact h2
      · exact h5 i oi hi (by omega) h8

/-- The memory between two writings: m behind the last that is through, e the next one. -/
structure Mem1 (ops : Array Oper) (fr : Nat → Bool) (O : Nat → OL) (D : Nat → Bool) (ob : Ob) (m e : Nat) : Prop where
  me : m ≤ e
  le : e ≤ ops.size
  acts : ∀ i oi, ops[i]? = some oi → kdx fr i oi = 2 → (D i = true ↔ i < m)
  no : noAct ops fr m e
  nx : e = ops.size ∨ ∃ oe, ops[e]? = some oe ∧ kdx fr e oe = 2
  p1 : ∀ i oi, ops[i]? = some oi → kdx fr i oi = 1 → i < m → D i = true
  p2 : ∀ i oi, ops[i]? = some oi → kdx fr i oi = 1 → e ≤ i → D i = false
  has : ∀ k, ob.has k = true ↔ (O m).has k = true ∨ ∃ j, m ≤ j ∧ j < e ∧ D j = true ∧ (O (j + 1)).has k = true ∧ (O j).has k = false
  at_ : ∀ k, ob.has k = true → ∀ i, ob.at_ k i = (O e).at_ k i
def MemX (ops : Array Oper) (fr : Nat → Bool) (O : Nat → OL) (D : Nat → Bool) (ob : Ob) : Prop := ∃ m e, Mem1 ops fr O D ob m e

theorem Mem1.turn (ht : TrX P T ops fr env V O) {D : Nat → Bool} {ob : Ob} {m e : Nat} (hob : ∀ k i, ob.at_ k i ≠ none → ob.has k = true) (hm : Mem1 ops fr O D ob m e)
    (h1 : ∀ i oi, ops[i]? = some oi → kdx fr i oi = 1 → m ≤ i → i < e → D i = true) : ob = (O e).ob := by
  have hh : ∀ k, ob.has k = true ↔ (O e).has k = true := by
    intro k
    rw [hm.has k]
    constructor
    · rintro (h | ⟨j, hj, hj2, _, h, _⟩)
      · exact (ht.mono hm.me hm.le hm.no h).1
      · exact (ht.mono (by omega : j + 1 ≤ e) hm.le (hm.no.sub (by omega) (Nat.le_refl _)) h).1
    · intro h
      obtain ⟨d, rfl⟩ := Nat.exists_eq_add_of_le hm.me
      rcases ht.born d h with h | ⟨j, hj, hj2, ha, hb⟩
      · exact .inl h
      · refine .inr ⟨j, hj, hj2, ?_, ha, hb⟩
        have hlt : j < ops.size := by have := hm.le; omega
        have hx : ops[j]? = some ops[j] := by simp [hlt]
        rcases kdx_le fr j ops[j] with h0 | h5 | h5
        · rw [ht.same hx h0, hb] at ha; cases ha
        · exact h1 _ _ hx h5 hj hj2
        · exact absurd h5 (hm.no _ _ hx hj hj2)
  refine Ob_ext (fun k i => ?_) (fun k => ?_)
  · cases hk : ob.has k with
    | true => exact hm.at_ k hk i
    | false =>
      have e1 : ob.at_ k i = none := by
        apply Classical.byContradiction
        intro hne
        rw [hob k i hne] at hk; cases hk
      have e2 : (O e).at_ k i = none := by
        apply Classical.byContradiction
        intro hne
        have := (hh k).2 (OL.has_of_at hne)
        rw [this] at hk; cases hk
      rw [e1]
      exact e2.symm
  · have := hh k
    show ob.has k = (O e).has k
    cases hx : ob.has k
    · rw [hx] at this
      cases hy : (O e).has k
      · rfl
      · exact absurd (this.2 hy) (by simp)
    · exact (this.1 hx).symm

section
variable {D D' : Nat → Bool} {i : Nat} {oi : Oper}
/-- An operation of kind 1 that is ready lies before the next writing. -/
theorem Mem1.before (hd : DrawOkX ops U fr) {ob : Ob} {m e : Nat} (hm : Mem1 ops fr O D ob m e) (hi : ops[i]? = some oi) (h1 : kdx fr i oi = 1) (hU : ∀ j, j < ops.size → U i j = true → D j = true) : i < e := by
  have lt : ∀ {i : Nat} {oi : Oper}, ops[i]? = some oi → i < ops.size := fun hi => (Array.getElem?_eq_some_iff.1 hi).1
  apply Nat.lt_of_not_le
  intro hle
  rcases hm.nx with h | ⟨oe, he, h2⟩
  · have := lt hi; omega
  · have hne : e ≠ i := by
      intro h; subst h; rw [hi] at he; cases he; rw [h1] at h2; cases h2
    have := hU e (lt he) (hd.act1' e oe i oi he hi h2 h1 (by omega))
    have := (hm.acts e oe he h2).1 this
    have := hm.me
    omega
theorem MemX.zero (ht : TrX P T ops fr env V O) (hd : DrawOkX ops U fr) (hi : ops[i]? = some oi) (h0 : kdx fr i oi ≠ 2) (hU : ∀ j, j < ops.size → U i j = true → D j = true)
    (hD' : ∀ j, D' j = if j = i then true else D j) (hsame : O (i + 1) = O i) {ob : Ob} (hm : MemX ops fr O D ob) : MemX ops fr O D' ob := by
  obtain ⟨m, e, hm⟩ := hm
  refine ⟨m, e, hm.me, hm.le, fun j oj hj hk => ?_, hm.no, hm.nx, fun j oj hj hk hlt => ?_, fun j oj hj hk hle => ?_, fun k => ?_, hm.at_⟩
  · by_cases hji : j = i
    · subst hji; rw [hi] at hj; cases hj; exact absurd hk h0
    · rw [hD' j, if_neg hji]; exact hm.acts j oj hj hk
  · rw [hD' j]; split
    · rfl
    · exact hm.p1 j oj hj hk hlt
  · by_cases hji : j = i
    · subst hji; rw [hi] at hj; cases hj
      have := hm.before hd hi hk hU
      omega
    · rw [hD' j, if_neg hji]; exact hm.p2 j oj hj hk hle
  · rw [hm.has k]
    constructor
    · rintro (h | ⟨j, ha, hb, hc, hd⟩)
      · exact .inl h
      · exact .inr ⟨j, ha, hb, by rw [hD' j]; split <;> simp_all, hd⟩
    · rintro (h | ⟨j, ha, ha2, hb, hc, hd⟩)
      · exact .inl h
      · by_cases hji : j = i
        · subst hji; rw [hsame, hd] at hc; cases hc
        · rw [hD' j, if_neg hji] at hb
          exact .inr ⟨j, ha, ha2, hb, hc, hd⟩
theorem MemX.one (ht : TrX P T ops fr env V O) (hd : DrawOkX ops U fr) (hi : ops[i]? = some oi) (h1 : kdx fr i oi = 1) (hDi : D i = false) (hU : ∀ j, j < ops.size → U i j = true → D j = true)
    (hD' : ∀ j, D' j = if j = i then true else D j) {A : OL} (hA : O (i + 1) = A ++ O i) (hf : ∀ k, A.has k = true → (O i).has k = false) {ob : Ob} (hm : MemX ops fr O D ob) :
    (∀ k, ob.has k = true → (O i).ob.has k = true → ∀ j, ob.at_ k j = (O i).ob.at_ k j) ∧ (∀ k, A.has k = true → ob.has k = false) ∧ MemX ops fr O D' (A.ob.ext ob) := by
  obtain ⟨m, e, hm⟩ := hm
  have hie := hm.before hd hi h1 hU
  have hmi : m ≤ i := by
    apply Nat.le_of_not_lt
    intro h
    have := hm.p1 i oi hi h1 h
    rw [hDi] at this; cases this
  refine ⟨fun k hk hk2 j => ?_, fun k hk => ?_, m, e, hm.me, hm.le, fun j oj hj hk => ?_, hm.no, hm.nx, fun j oj hj hk hlt => ?_, fun j oj hj hk hle => ?_, fun k => ?_, fun k hk j => ?_⟩
  · rw [hm.at_ k hk j]
    exact (ht.mono (Nat.le_of_lt hie) hm.le (hm.no.sub hmi (Nat.le_refl _)) hk2).2 j
  · have hn := hf k hk
    apply Classical.byContradiction
    intro hh
    have hh : ob.has k = true := by simpa using hh
    rcases (hm.has k).1 hh with h | ⟨j, ha, ha2, hb, hc, hdd⟩
    · have := (ht.mono hmi (by have := hm.le; omega) (hm.no.sub (Nat.le_refl _) (by omega)) h).1
      rw [hn] at this; cases this
    · by_cases hji : j < i
      · have := (ht.mono (by omega : j + 1 ≤ i) (by have := hm.le; omega) (hm.no.sub (by omega) (by omega)) hc).1
        rw [hn] at this; cases this
      · by_cases hij : j = i
        · subst hij; rw [hDi] at hb; cases hb
        · have : (O (i + 1)).has k = true := by rw [hA, OL.has_append, hk]; rfl
          have := (ht.mono (by omega : i + 1 ≤ j) (by have := hm.le; omega) (hm.no.sub (by omega) (by omega)) this).1
          rw [hdd] at this; cases this
  · by_cases hji : j = i
    · subst hji; rw [hi] at hj; cases hj; rw [h1] at hk; cases hk
    · rw [hD' j, if_neg hji]; exact hm.acts j oj hj hk
  · rw [hD' j]; split
    · rfl
    · exact hm.p1 j oj hj hk hlt
  · by_cases hji : j = i
    · omega
    · rw [hD' j, if_neg hji]; exact hm.p2 j oj hj hk hle
  · have e' : (A.ob.ext ob).has k = (A.has k || ob.has k) := rfl
    rw [e', Bool.or_eq_true, hm.has k]
    constructor
    · rintro (h | h | ⟨j, ha, ha2, hb, hc⟩)
      · exact .inr ⟨i, hmi, hie, by rw [hD' i, if_pos rfl], by rw [hA, OL.has_append, h]; rfl, hf k h⟩
      · exact .inl h
      · exact .inr ⟨j, ha, ha2, by rw [hD' j]; split <;> simp_all, hc⟩
    · rintro (h | ⟨j, ha, ha2, hb, hc, hdd⟩)
      · exact .inr (.inl h)
      · by_cases hji : j = i
        · subst hji
          rw [hA, OL.has_append, hdd] at hc
          exact .inl (by simpa using hc)
        · rw [hD' j, if_neg hji] at hb
          exact .inr (.inr ⟨j, ha, ha2, hb, hc, hdd⟩)
  · have e' : (A.ob.ext ob).at_ k j = if A.has k = true then A.at_ k j else ob.at_ k j := rfl
    rw [e']
    split
    · rename_i hAk
      have hx : (O (i + 1)).has k = true := by rw [hA, OL.has_append, hAk]; rfl
      rw [(ht.mono (by omega : i + 1 ≤ e) hm.le (hm.no.sub (by omega) (Nat.le_refl _)) hx).2 j, hA, OL.at_append, if_pos hAk]
    · rename_i hAk
      refine hm.at_ k ?_ j
      have : (A.has k || ob.has k) = true := hk
      simpa [hAk] using this
theorem Mem1.start (ht : TrX P T ops fr env V O) {m e : Nat} (hme : m ≤ e) (hle : e ≤ ops.size) (hno : noAct ops fr m e) (hnx : e = ops.size ∨ ∃ oe, ops[e]? = some oe ∧ kdx fr e oe = 2)
    (hacts : ∀ i oi, ops[i]? = some oi → kdx fr i oi = 2 → (D i = true ↔ i < m)) (hp1 : ∀ i oi, ops[i]? = some oi → kdx fr i oi = 1 → i < m → D i = true) (hp2 : ∀ i oi, ops[i]? = some oi → kdx fr i oi = 1 → m ≤ i → D i = false) :
    Mem1 ops fr O D (O m).ob m e where
  me := hme
  le := hle
  acts := hacts
  no := hno
  nx := hnx
  p1 := hp1
  p2 := fun i oi hi h1 h => hp2 i oi hi h1 (by omega)
  has := fun k => by
    constructor
    · exact fun h => .inl h
    · rintro (h | ⟨j, ha, hb, hc, hd, he⟩)
      · exact h
      · have hlt : j < ops.size := by omega
        have hx : ops[j]? = some ops[j] := by simp [hlt]
        rcases kdx_le fr j ops[j] with h0 | h1 | h2
        · rw [ht.same hx h0, he] at hd; cases hd
        · rw [hp2 j _ hx h1 ha] at hc; cases hc
        · exact absurd h2 (hno j _ hx ha hb)
  at_ := fun k hk i => ((ht.mono hme hle hno hk).2 i).symm
theorem MemX.two (ht : TrX P T ops fr env V O) (hd : DrawOkX ops U fr) (hi : ops[i]? = some oi) (h2 : kdx fr i oi = 2) (hDi : D i = false)
    (hD' : ∀ j, D' j = if j = i then true else D j) (hU : ∀ j, j < ops.size → U i j = true → D j = true) (hUn : ∀ k ok, ops[k]? = some ok → U k i = true → D k = false) {ob : Ob} (hob : ∀ k i, ob.at_ k i ≠ none → ob.has k = true) (hm : MemX ops fr O D ob) :
    ob = (O i).ob ∧ MemX ops fr O D' (O (i + 1)).ob := by
  obtain ⟨m, e, hm⟩ := hm
  have lt : ∀ {i : Nat} {oi : Oper}, ops[i]? = some oi → i < ops.size := fun hi => (Array.getElem?_eq_some_iff.1 hi).1
  have hin := lt hi
  have hmi : m ≤ i := by
    apply Nat.le_of_not_lt
    intro h
    have := (hm.acts i oi hi h2).2 h
    rw [hDi] at this; cases this
  have hei : e ≤ i := by
    apply Nat.le_of_not_lt
    intro h
    exact hm.no i oi hi hmi h h2
  have hee : e = i := by
    rcases hm.nx with h | ⟨oe, he, h3⟩
    · omega
    · apply Classical.byContradiction
      intro hne
      have := hU e (lt he) (hd.act2 i oi e oe hi he h2 h3 (by omega))
      have := (hm.acts e oe he h3).1 this
      have := hm.me
      omega
  subst hee
  refine ⟨hm.turn ht hob (fun j oj hj hk ha hb => hU j (lt hj) (hd.act1 e oi j oj hi hj h2 hk hb)), ?_⟩
  obtain ⟨e', q1, q2, q3, q4⟩ := nextAct ops fr (ops.size - (e + 1)) (e + 1) (by omega)
  refine ⟨e + 1, e', Mem1.start ht q1 q2 q3 q4 (fun j oj hj hk => ?_) (fun j oj hj hk hlt => ?_) (fun j oj hj hk hle => ?_)⟩
  · rw [hD' j]
    by_cases hji : j = e
    · subst hji; simp
    · rw [if_neg hji, hm.acts j oj hj hk]
      constructor
      · intro h; omega
      · intro h
        have := hU j (lt hj) (hd.act2 e oi j oj hi hj h2 hk (by omega))
        exact (hm.acts j oj hj hk).1 this
  · rw [hD' j]; split
    · rfl
    · rename_i hne
      exact hU j (lt hj) (hd.act1 e oi j oj hi hj h2 hk (by omega))
  · rw [hD' j, if_neg (by omega)]
    exact hUn j oj hj (hd.act1' e oi j oj hi hj h2 hk (by omega))
theorem MemX.all (ht : TrX P T ops fr env V O) {ob : Ob} (hob : ∀ k i, ob.at_ k i ≠ none → ob.has k = true) (hm : MemX ops fr O D ob) (hall : ∀ i, i < ops.size → D i = true) : ob = (O ops.size).ob := by
  obtain ⟨m, e, hm⟩ := hm
  have lt : ∀ {i : Nat} {oi : Oper}, ops[i]? = some oi → i < ops.size := fun hi => (Array.getElem?_eq_some_iff.1 hi).1
  have he : e = ops.size := by
    rcases hm.nx with h | ⟨oe, he, h2⟩
    · exact h
    · have := (hm.acts e oe he h2).1 (hall e (lt he))
      have := hm.me
      omega
  have := hm.turn ht hob (fun j oj hj _ _ _ => hall j (lt hj))
  rw [this, he]
end

theorem downX (hd : DrawOkX ops U fr) {D : Nat → Bool} (hcl : ∀ i oi, ops[i]? = some oi → D i = true → ∀ e ∈ oi.after, Region.binds .any e = true → D e.on = true) :
    ∀ i oi j, ops[i]? = some oi → j < ops.size → U i j = true → (∀ e ∈ oi.after, Region.binds .any e = true → D e.on = true) → D j = true := by
  intro i
  induction i using Nat.strongRecOn with
  | _ i ih =>
    intro oi j hi hj hu hr
    obtain ⟨e, he, hb, hq⟩ := hd.clos i oi j hi hj hu
    have hlt := hd.back i oi hi e he hb
    have hin := (Array.getElem?_eq_some_iff.1 hi).1
    have hD := hr e he hb
    rcases hq with hq | hq
    · exact hq ▸ hD
    · have hx : ops[e.on]? = some ops[e.on] := by simp [Nat.lt_trans hlt hin]
      exact ih e.on hlt _ j hx hj hq (hcl e.on _ hx hD)

theorem rdy_nilX (hd : DrawOkX ops U fr) {listed : Array Bool} (hs : listed.size = ops.size) (h : Region.ready .any ops listed = []) : ∀ i, i < ops.size → Dl listed i = true := by
  intro i
  induction i using Nat.strongRecOn with
  | _ i ih =>
    intro hi
    apply Classical.byContradiction
    intro hn
    have hx : ops[i]? = some ops[i] := by simp [hi]
    have : i ∈ Region.ready .any ops listed := by
      simp only [Region.ready, List.mem_filter, List.mem_range, Bool.and_eq_true, Bool.not_eq_true']
      refine ⟨hi, ?_, ?_⟩
      · have : Dl listed i = false := by simpa using hn
        simp only [Dl, Array.getD_eq_getD_getElem?] at this ⊢
        have hl : i < listed.size := hs ▸ hi
        simp only [hl, Array.getElem?_eq_getElem, Option.getD_some] at this ⊢
        exact this
      · rw [hx]
        simp only [Option.map_some, Option.getD_some, Array.all_eq_true_iff_forall_mem]
        intro e he
        cases hb : Region.binds .any e
        · rfl
        · have hlt := hd.back i _ hx e he hb
          have := ih e.on hlt (by omega)
          simp only [Dl] at this
          simp [this]
    rw [h] at this
    cases this

structure InvX (P : Program) (T : TT) (ops : Array Oper) (fr : Nat → Bool) (N : Nat) (env : Env) (V : Nat → AV) (O : Nat → OL) (X : Cx) (listed : Array Bool) (a : Act) (w : World) : Prop where
  sz : listed.size = ops.size
  cl : ∀ i oi, ops[i]? = some oi → Dl listed i = true → ∀ e ∈ oi.after, Region.binds .any e = true → Dl listed e.on = true
  pic : ∃ κ ob, Rel X κ ob w ∧ (∀ t, VR (KK X κ ob w) (get (envOf V (Dl listed) 0 ops.toList env) t) (a.tmps.getD t undef)) ∧ MemX ops fr O (Dl listed) ob
  size : a.tmps.size = N
  defers : a.defers = []

theorem draw_stepX (hd : DrawOkX ops U fr) (ht : TrX P T ops fr env V O) {N : Nat} (hdst : dstOk N ops.toList = true) {X : Cx} (hP : X.P = P) (hTT : X.T = T) {listed : Array Bool} {a : Act} {w : World}
    (h : InvX P T ops fr N env V O X listed a w) {i : Nat} (hi : i ∈ Region.ready .any ops listed) {Q : Exit → Act → World → Prop} {K : Act → World → Prop}
    (hK : ∀ a' w', InvX P T ops fr N env V O X (listed.setIfInBounds i true) a' w' → K a' w') : wpOp P ops Q i K a w := by
  obtain ⟨oi, hx, hli, hre⟩ := mem_rdy hi
  have lt : ∀ {i : Nat} {oi : Oper}, ops[i]? = some oi → i < ops.size := fun hi => (Array.getElem?_eq_some_iff.1 hi).1
  have hin := lt hx
  have hinl : i < listed.size := h.sz ▸ hin
  have hDi : Dl listed i = false := by
    simp only [Dl, Array.getD_eq_getD_getElem?, hinl, Array.getElem?_eq_getElem, Option.getD_some] at hli ⊢
    exact hli
  have hD' := listed_set (listed := listed) hinl
  have hU : ∀ j, j < ops.size → U i j = true → Dl listed j = true := fun j hj hu => downX hd h.cl i oi j hx hj hu hre
  have hUn : ∀ k ok, ops[k]? = some ok → U k i = true → Dl listed k = false := fun k ok hk hu => by
    apply Classical.byContradiction
    intro hn
    have hn : Dl listed k = true := by simpa using hn
    have := downX hd h.cl k ok i hk hin hu (h.cl k ok hk hn)
    rw [hDi] at this; cases this
  obtain ⟨κ, ob, hR, hE, hM⟩ := h.pic
  have hob : ∀ k i, ob.at_ k i ≠ none → ob.has k = true := hR.has
  -- what it looks at is what it looks at in the text's order
  have hag : ∀ t, t ∈ oi.looksAt ops → get (envOf V (Dl listed) 0 ops.toList env) t = get (envOf V (fun j => decide (j < i)) 0 ops.toList env) t := by
    intro t htl
    refine envOf_agree V _ _ t _ 0 env env rfl (fun k o hk ho => ?_)
    rw [Array.getElem?_toList] at hk
    rw [Nat.zero_add]
    rcases Nat.lt_trichotomy k i with hki | hki | hki
    · rw [decide_eq_true hki]
      rcases hd.ap i oi k o hx hk hki with hap | hu
      · exact absurd htl ((Oper.apart_spec hap).1 t ho)
      · exact hU k (lt hk) hu
    · subst hki
      rw [hDi]; simp
    · rw [decide_eq_false (by omega)]
      rcases hd.ap k o i oi hk hx hki with hap | hu
      · exact absurd htl ((Oper.apart_spec hap).2.2 t ho)
      · exact hUn k o hk hu
  have hput : ∀ t, get (envOf V (Dl (listed.setIfInBounds i true)) 0 ops.toList env) t = if oi.dst = some t then V i else get (envOf V (Dl listed) 0 ops.toList env) t := by
    intro t
    by_cases hdt : oi.dst = some t
    · rw [if_pos hdt, envOf_last V _ t ops.toList 0 i oi env (by rw [Array.getElem?_toList]; exact hx) hdt (by rw [Nat.zero_add, hD', if_pos rfl]) (fun k o hk hk2 ho => ?_), Nat.zero_add]
      rw [Array.getElem?_toList] at hk2
      rw [Nat.zero_add, hD', if_neg (by omega)]
      rcases hd.ap k o i oi hk2 hx hk with hap | hu
      · exact absurd ho ((Oper.apart_spec hap).2.1 t hdt)
      · exact hUn k o hk2 hu
    · rw [if_neg hdt]
      refine envOf_agree V _ _ t _ 0 env env rfl (fun k o hk ho => ?_)
      rw [Array.getElem?_toList] at hk
      rw [Nat.zero_add, hD', if_neg (fun e => by subst e; rw [hx] at hk; cases hk; exact hdt ho)]
  have hdstN : ∀ t, oi.dst = some t → t < a.tmps.size := fun t hdt => by
    simp only [dstOk, List.all_eq_true] at hdst
    have := hdst oi (by simpa using Array.mem_of_getElem? hx)
    rw [hdt] at this
    rw [h.size]; simpa [Nat.blt_eq] using this
  have hcl' : ∀ j oj, ops[j]? = some oj → Dl (listed.setIfInBounds i true) j = true → ∀ e ∈ oj.after, Region.binds .any e = true → Dl (listed.setIfInBounds i true) e.on = true := by
    intro j oj hj hDj e he hb
    rw [hD'] at hDj ⊢
    split
    · rfl
    · by_cases hji : j = i
      · subst hji; rw [hx] at hj; cases hj; exact hre e he hb
      · rw [if_neg hji] at hDj; exact h.cl j oj hj hDj e he hb
  -- the frame behind it
  have next : ∀ (c : Value) (w' : World) (κ' : Gh) (ob' : Ob), Rel X κ' ob' w' → VR (KK X κ' ob' w') (V i) c → Le (KK X κ ob w) (KK X κ' ob' w') → MemX ops fr O (Dl (listed.setIfInBounds i true)) ob' → K (a.put oi.dst c) w' := by
    intro c w' κ' ob' hR' hv hle hM'
    refine hK _ _ ⟨by simp [h.sz], hcl', ⟨κ', ob', hR', fun t => ?_, hM'⟩, by rw [Act.put_size]; exact h.size, by rw [Am.Act.put_defers]; exact h.defers⟩
    rw [hput t]
    by_cases hdt : oi.dst = some t
    · rw [if_pos hdt, hdt]
      have : (a.put (some t) c).tmps.getD t undef = c := by simp [Act.put, hdstN t hdt]
      rw [this]; exact hv
    · rw [if_neg hdt]
      have : (a.put oi.dst c).tmps.getD t undef = a.tmps.getD t undef := by
        cases hq : oi.dst with
        | none => rfl
        | some d =>
          have hne : d ≠ t := fun e => hdt (by rw [hq, e])
          simp [Act.put, Array.getElem?_setIfInBounds_ne hne]
      rw [this]; exact VR_mono hle (hE t)
  have hops : ∀ x ∈ oi.op.operands.toList, VR (KK X κ ob w) (evE (envOf V (fun j => decide (j < i)) 0 ops.toList env) x) (a.eval x) := by
    intro x hxo
    cases x with
    | tmp t => have := hE t; rw [hag t (looks_dst hxo)] at this; exact this
    | const v => exact constAV_ok _ v
    | global g => trivial
    | func g => exact ⟨#[], rfl, rfl, fun i hi => by omega⟩
  -- is it wanted
  have want : ∀ b, gd ops oi (envOf V (fun j => decide (j < i)) 0 ops.toList env) = some b → Region.wanted oi (yielded ops a.tmps) = b := by
    intro b hb
    unfold gd at hb
    split at hb
    · rename_i hg
      cases hb
      simp [Region.wanted, hg]
    · rename_i j wnt hg
      split at hb
      · rename_i d hdd
        split at hb
        · rename_i b' hb'
          cases hb
          rw [← hag d (looks_guard hg hdd)] at hb'
          have hy := yielded_of hdd hE hb' (dst_lt_of_eq hE hb')
          simp [Region.wanted, hg, hy]
        · rename_i hb'
          cases hb
          rw [← hag d (looks_guard hg hdd)] at hb'
          have hy := yielded_none hdd hE hb'
          simp [Region.wanted, hg, hy]
        · cases hb
      · cases hb
  have hsz : ∀ r, Oper.upon X.P oi a K Q r → Oper.upon P oi a K Q r := fun r hr => by rw [← hP]; exact hr
  unfold wpOp
  rw [hx]
  simp only
  have hst := ht.step i oi hx
  rcases hst with ⟨hg, hv, hs⟩ | ⟨hg, hst⟩
  · rw [if_neg (by rw [want _ hg]; simp)]
    have hvu : VR (KK X κ ob w) (V i) undef := by rw [hv]; exact undA_ok _
    rcases kdx_le fr i oi with h0 | h1 | h2
    · exact next undef w κ ob hR hvu (Le.refl _) (hM.zero ht hd hx (by omega) hU hD' hs)
    · exact next undef w κ ob hR hvu (Le.refl _) (hM.zero ht hd hx (by omega) hU hD' hs)
    · obtain ⟨e1, e2⟩ := hM.two ht hd hx h2 hDi hD' hU hUn hob
      rw [hs, ← e1] at e2
      exact next undef w κ ob hR hvu (Le.refl _) e2
  · rw [if_pos (want _ hg)]
    refine .inl ?_
    unfold Oper.wp
    rw [← hP]
    rcases hst with ⟨h0, hs, hj⟩ | ⟨h1, A, hs, hj, hf⟩ | ⟨h2, hj⟩
    · have := (PassJ.of_pure hj ob) X κ ob w a.eval hP hTT hR (fun _ _ _ _ => rfl) (fun k hk => by cases hk) hops
      rw [Ob.ext_nil, ← hP] at this
      exact upon_of_Out this (fun c w' κ' hR' hv hle => next c w' κ' ob hR' hv hle (hM.zero ht hd hx (by omega) hU hD' hs))
    · obtain ⟨e1, e2, e3⟩ := hM.one ht hd hx h1 hDi hU hD' hs hf
      have := hj X κ ob w a.eval hP hTT (fun _ => rfl) hR e1 e2 hops
      rw [← hP] at this
      exact upon_of_Out this (fun c w' κ' hR' hv hle => next c w' κ' _ hR' hv hle e3)
    · obtain ⟨e1, e2⟩ := hM.two ht hd hx h2 hDi hD' hU hUn hob
      subst e1
      have := hj X κ w a.eval hP hTT hR hops
      rw [← hP] at this
      exact upon_of_Out this (fun c w' κ' hR' hv hle => next c w' κ' _ hR' hv hle e2)

theorem draw_anyX (hd : DrawOkX ops U fr) (ht : TrX P T ops fr env V O) {N : Nat} (hdst : dstOk N ops.toList = true) {X : Cx} (hP : X.P = P) (hTT : X.T = T) {Q : Exit → Env → OL → Prop}
    (hK : Q .normal (envOf V (fun _ => true) 0 ops.toList env) (O ops.size)) :
    ∀ (fuel : Nat) (listed : Array Bool) (a : Act) (w : World), left ops listed ≤ fuel → InvX P T ops fr N env V O X listed a w → wpAny P .any ops (QQ X N Q) fuel listed a w := by
  have fin : ∀ (listed : Array Bool) (a : Act) (w : World), InvX P T ops fr N env V O X listed a w → (∀ i, i < ops.size → Dl listed i = true) → QQ X N Q .normal a w := by
    intro listed a w h hall
    obtain ⟨κ, ob, hR, hE, hM⟩ := h.pic
    have e := hM.all ht hR.has hall
    subst e
    refine ⟨κ, _, _, hK, hR, fun t => ?_, h.size, h.defers⟩
    have := hE t
    rwa [envOf_agree V (Dl listed) (fun _ => true) t _ 0 env env rfl (fun k o hk _ => by
      rw [Array.getElem?_toList] at hk
      rw [Nat.zero_add, hall k (Array.getElem?_eq_some_iff.1 hk).1])] at this
  intro fuel
  induction fuel with
  | zero =>
    intro listed a w hl h
    have hall : ∀ i, i < ops.size → Dl listed i = true := by
      intro i hi
      apply Classical.byContradiction
      intro hn
      have hn : Dl listed i = false := by simpa using hn
      have : i ∈ (List.range ops.size).filter fun i => !Dl listed i := by simp [hi, hn]
      have := List.length_pos_of_mem this
      unfold left at hl
      omega
    refine ⟨?_, fin listed a w h hall⟩
    apply Classical.byContradiction
    intro hne
    obtain ⟨i, hi⟩ := List.exists_mem_of_ne_nil _ hne
    obtain ⟨oi, hx, hli, _⟩ := mem_rdy hi
    have hin := (Array.getElem?_eq_some_iff.1 hx).1
    have hh := hall i hin
    have hl2 : i < listed.size := h.sz ▸ hin
    simp only [Dl, Array.getD_eq_getD_getElem?, hl2, Array.getElem?_eq_getElem, Option.getD_some] at hli hh
    rw [hh] at hli; cases hli
  | succ fuel ih =>
    intro listed a w hl h
    refine ⟨fun hr => fin listed a w h (rdy_nilX hd h.sz hr), fun i hi => ?_⟩
    obtain ⟨oi, hx, hli, _⟩ := mem_rdy hi
    have hin := (Array.getElem?_eq_some_iff.1 hx).1
    have hl2 : i < listed.size := h.sz ▸ hin
    have hDi : Dl listed i = false := by
      simp only [Dl, Array.getD_eq_getD_getElem?, hl2, Array.getElem?_eq_getElem, Option.getD_some] at hli ⊢
      exact hli
    have := left_lt hin hl2 hDi
    exact draw_stepX hd ht hdst hP hTT h hi (fun a' w' h' => ih _ a' w' (by omega) h')

/-! ### Traces -/
theorem WOps_cons (hT : TOk P T) (arr : Array Oper) {o : Oper} {r : List Oper} {env : Env} {ol : OL} {K : Env → OL → Prop} (h : WOps P T arr (o :: r) env ol K) :
    ∃ v ol1, StepJ P T arr o env ol v ol1 ∧ WOps P T arr r (putE o.dst v env) ol1 K := by
  unfold WOps at h
  have run : gd arr o env = some true → WOp P T o (evE env) ol (fun v ol' => WOps P T arr r (putE o.dst v env) ol' K) → ∃ v ol1, StepJ P T arr o env ol v ol1 ∧ WOps P T arr r (putE o.dst v env) ol1 K := by
    intro hg hw
    obtain ⟨v, hw⟩ := WOp_sound hT hw
    rcases hw with ⟨h0, h1, h2⟩ | ⟨h0, A, h1, h2, h3⟩ | ⟨h0, ol', h1, h2, _⟩
    · exact ⟨v, ol, .inr ⟨hg, .inl ⟨h0, rfl, h2⟩⟩, h1⟩
    · exact ⟨v, A ++ ol, .inr ⟨hg, .inr (.inl ⟨h0, A, rfl, h2, h3⟩)⟩, h1⟩
    · exact ⟨v, ol', .inr ⟨hg, .inr (.inr ⟨h0, h2⟩)⟩, h1⟩
  split at h
  · rename_i hg
    exact run (by simp [gd, hg]) h
  · rename_i j want hg
    split at h
    · rename_i d hd
      split at h
      · rename_i b hb
        split at h
        · rename_i hbw
          exact run (by simp only [gd, hg, hd, hb, hbw]) h
        · rename_i hbw
          exact ⟨undA, ol, .inl ⟨by simp only [gd, hg, hd, hb, hbw], rfl, rfl⟩, h⟩
      · rename_i hb
        exact ⟨undA, ol, .inl ⟨by simp only [gd, hg, hd, hb], rfl, rfl⟩, h⟩
      · exact h.elim
    · exact h.elim

def Ex (P : Program) (T : TT) (arr : Array Oper) (fr : Nat → Bool) (s : Nat) (ops : List Oper) (env : Env) (ol : OL) (K : Env → OL → Prop) : Prop :=
  ∃ (V : Nat → AV) (O : Nat → OL), O 0 = ol ∧ (∀ k o, ops[k]? = some o → StepK (kdx fr (s + k) o) P T arr o (envOf V (fun j => decide (j < k)) 0 ops env) (O k) (V k) (O (k + 1))) ∧ K (envOf V (fun _ => true) 0 ops env) (O ops.length)
theorem Ex.nil {arr : Array Oper} {s : Nat} {ol : OL} {K : Env → OL → Prop} (h : K env ol) : Ex P T arr fr s [] env ol K := ⟨fun _ => .any, fun _ => ol, rfl, fun k o hk => by simp at hk, h⟩
theorem Ex.cons {arr : Array Oper} {s : Nat} {o : Oper} {r : List Oper} {ol ol1 : OL} {v : AV} {K : Env → OL → Prop} (hs : StepK (kdx fr s o) P T arr o env ol v ol1) (h : Ex P T arr fr (s + 1) r (putE o.dst v env) ol1 K) : Ex P T arr fr s (o :: r) env ol K := by
  obtain ⟨V, O, hO, hst, hK⟩ := h
  refine ⟨fun | 0 => v | k + 1 => V k, fun | 0 => ol | k + 1 => O k, rfl, fun k o' hk => ?_, ?_⟩
  · cases k with
    | zero =>
      simp only [List.getElem?_cons_zero, Option.some.injEq] at hk
      subst hk
      have : (fun j : Nat => decide (j < 0)) = fun _ => false := by funext j; simp
      rw [this, envOf_none]
      simp only [Nat.zero_add, Nat.add_zero]
      rw [hO]
      exact hs
    | succ k =>
      have := hst k o' (by simpa using hk)
      simp only [envOf]
      rw [if_pos (by simp), envOf_shift]
      have e : (fun j : Nat => decide (j + 1 < k + 1)) = fun j => decide (j < k) := by funext j; simp
      rw [e, show s + (k + 1) = s + 1 + k from by omega]
      exact this
  · simp only [envOf, if_true]
    rw [envOf_shift]
    exact hK
theorem Ex.pre (hT : TOk P T) {arr : Array Oper} {r : List Oper} {K K' : Env → OL → Prop} : ∀ (l : List Oper) (s : Nat) (env : Env) (ol : OL), (∀ i, s ≤ i → i < s + l.length → fr i = false) → WOps P T arr l env ol K' → (∀ e o, K' e o → Ex P T arr fr (s + l.length) r e o K) → Ex P T arr fr s (l ++ r) env ol K
  | [], s, env, ol, _, h, hk => hk _ _ h
  | o :: l, s, env, ol, hf, h, hk' => by
    obtain ⟨v, ol1, hs, hw⟩ := WOps_cons hT arr h
    have hk : kdx fr s o = kind o := by unfold kdx; rw [hf s (Nat.le_refl _) (by simp)]; rfl
    refine Ex.cons (by rw [hk]; exact hs) (Ex.pre hT l (s + 1) _ _ (fun i h1 h2 => hf i (by omega) (by simp only [List.length_cons]; omega)) hw ?_)
    have e : s + (o :: l).length = s + 1 + l.length := by simp only [List.length_cons]; omega
    rw [e] at hk'
    exact hk'
/-- A read of what is frozen. -/
def LoadC (P : Program) (T : TT) (o : Oper) (env : Env) (K : AV → Prop) : Prop :=
  o.guard = none ∧ ∃ t x u, o.op = .load t x ∧ evE env x = .cptr u ∧ (T.und t).known = true ∧ u.size = T.sz t ∧ u.isAgg = (T.und t).isAgg ∧ K u
theorem LoadC.step (hT : TOk P T) {arr : Array Oper} {o : Oper} {ol : OL} {K : AV → Prop} (h : LoadC P T o env K) : ∃ v, K v ∧ StepK 0 P T arr o env ol v ol := by
  obtain ⟨hg, t, x, u, ho, hx, hk, h1, h2, h⟩ := h
  refine ⟨u, h, .inr ⟨by simp [gd, hg], .inl ⟨rfl, rfl, fun X κ ob w ρ hP hTT hR hv => ?_⟩⟩⟩
  have hx' := hv x (by simp [ho, Op.operands])
  rw [hx] at hx'
  obtain ⟨b, oo, seg, e1, hJ, hu, hs⟩ := VR_cptr hx'
  obtain ⟨c, hrun, hvc⟩ := load_fin hT hk (K := KK X κ ob w) rfl hu hs h1 h2
  exact ⟨c, by simp [execOp, ho, e1, Instr.loadAt, Instr.sureAddr, hrun], hvc⟩
/-- The operations by pieces; between two pieces a read of what is frozen. -/
def WSeg (P : Program) (T : TT) (arr : Array Oper) : List Nat → List Oper → Env → OL → (Env → OL → Prop) → Prop
  | [], ops, env, ol, K => WOps P T arr ops env ol K
  | n :: fl, ops, env, ol, K => WOps P T arr (ops.take n) env ol (fun env' ol' => match ops.drop n with
    | o :: r => LoadC P T o env' (fun v => WSeg P T arr fl r (putE o.dst v env') ol' K)
    | [] => False)
def frL : List Nat → Nat → List Nat
  | [], _ => []
  | n :: fl, s => (s + n) :: frL fl (s + n + 1)
def frF (fl : List Nat) (i : Nat) : Bool := (frL fl 0).any (Nat.beq i)
theorem frL_ge : ∀ (fl : List Nat) (s x : Nat), x ∈ frL fl s → s ≤ x
  | [], s, x, h => by cases h
  | n :: fl, s, x, h => by
    unfold frL at h
    rcases List.mem_cons.1 h with h | h
    · omega
    · have := frL_ge fl (s + n + 1) x h; omega
theorem frL_no (fl : List Nat) {s i : Nat} (h : i < s) : (frL fl s).any (Nat.beq i) = false := by
  cases hq : (frL fl s).any (Nat.beq i) with
  | false => rfl
  | true =>
    obtain ⟨x, h1, h2⟩ := List.any_eq_true.1 hq
    have := frL_ge fl s x h1
    have := Nat.eq_of_beq_eq_true h2
    omega
theorem WSeg.ex (hT : TOk P T) {arr : Array Oper} {K : Env → OL → Prop} : ∀ (fl : List Nat) (s : Nat) (ops : List Oper) (env : Env) (ol : OL), (∀ i, s ≤ i → fr i = (frL fl s).any (Nat.beq i)) → WSeg P T arr fl ops env ol K → Ex P T arr fr s ops env ol K
  | [], s, ops, env, ol, hf, h => by
    have := Ex.pre (r := []) hT ops s env ol (fun i h1 _ => by rw [hf i h1]; rfl) (K := K) (fr := fr) (arr := arr) (P := P) (T := T) h (fun _ _ h => Ex.nil h)
    rwa [List.append_nil] at this
  | n :: fl, s, ops, env, ol, hf, h => by
    have h : WOps P T arr (ops.take n) env ol (fun env' ol' => match ops.drop n with
      | o :: r => LoadC P T o env' (fun v => WSeg P T arr fl r (putE o.dst v env') ol' K)
      | [] => False) := h
    rcases Nat.lt_or_ge n ops.length with hn | hn
    · have hl : (ops.take n).length = n := by rw [List.length_take]; omega
      obtain ⟨o, r, hor⟩ : ∃ o r, ops.drop n = o :: r := by
        cases hq : ops.drop n with
        | nil => have := congrArg List.length hq; rw [List.length_drop, List.length_nil] at this; omega
        | cons o r => exact ⟨o, r, rfl⟩
      rw [hor] at h
      have hops : ops = ops.take n ++ (o :: r) := by rw [← hor, List.take_append_drop]
      rw [hops]
      refine Ex.pre hT (ops.take n) s env ol (fun i h1 h2 => ?_) h (fun env' ol' hh => ?_)
      · rw [hl] at h2
        rw [hf i h1]
        show (Nat.beq i (s + n) || (frL fl (s + n + 1)).any (Nat.beq i)) = false
        rw [frL_no fl (by omega), beq_ff (by omega)]; rfl
      · rw [hl]
        obtain ⟨v, hv, hs⟩ := LoadC.step hT (arr := arr) (ol := ol') hh
        have hfr : fr (s + n) = true := by
          rw [hf _ (by omega)]
          show (Nat.beq (s + n) (s + n) || _) = true
          rw [Nat.beq_refl]; rfl
        refine Ex.cons (v := v) (ol1 := ol') ?_ (WSeg.ex hT fl (s + n + 1) r _ _ (fun i hi => ?_) hv)
        · have : kdx fr (s + n) o = 0 := by unfold kdx; rw [hfr]; rfl
          rw [this]; exact hs
        · rw [hf i (by omega)]
          show (Nat.beq i (s + n) || _) = _
          rw [beq_ff (by omega)]; rfl
    · have e : ops.drop n = [] := List.drop_of_length_le hn
      rw [e] at h
      have := Ex.pre (r := []) hT (ops.take n) s env ol (fun i h1 h2 => ?_) (K := K) (fr := fr) (arr := arr) (P := P) (T := T) h (fun _ _ hh => hh.elim)
      · rwa [List.append_nil, List.take_of_length_le hn] at this
      · have : (ops.take n).length ≤ n := List.length_take_le _ _
        rw [hf i h1]
        show (Nat.beq i (s + n) || (frL fl (s + n + 1)).any (Nat.beq i)) = false
        rw [frL_no fl (by omega), beq_ff (by omega)]; rfl

theorem snd_drawX (hT : TOk P T) (hm : P.follows .mixedOrders = true) (fl : List Nat) {N id : Nat} {ol : OL} {Q : Exit → Env → OL → Prop} (hd : drawOkX ops (frF fl) = true) (hdst : dstOk N ops.toList = true)
    (h : WSeg P T ops fl ops.toList env ol (fun env' ol' => Q .normal env' ol')) : Snd P T N (.region id ops true) env ol Q := by
  intro X κ a w hP hTT hR hE hN hD
  obtain ⟨V, O, hO, hst, hK⟩ := WSeg.ex hT (fr := frF fl) fl 0 ops.toList env ol (fun i _ => rfl) h
  have hd := chkX_ok hd
  have ht : TrX P T ops (frF fl) env V O := ⟨fun k o hk => by have := hst k o (by rw [Array.getElem?_toList]; exact hk); rwa [Nat.zero_add] at this⟩
  have hDl : ∀ j, Dl (Array.replicate ops.size false) j = false := fun j => by
    simp only [Dl, Array.getD_eq_getD_getElem?, Array.getElem?_replicate]
    split <;> rfl
  have hM : MemX ops (frF fl) O (Dl (Array.replicate ops.size false)) ol.ob := by
    obtain ⟨e, q1, q2, q3, q4⟩ := nextAct ops (frF fl) ops.size 0 (by omega)
    rw [← hO]
    exact ⟨0, e, Mem1.start ht q1 q2 q3 q4 (fun i oi _ _ => by rw [hDl]; exact ⟨fun h => (by cases h), fun h => absurd h (Nat.not_lt_zero _)⟩) (fun i oi _ _ h => absurd h (Nat.not_lt_zero _)) (fun i oi _ _ _ => hDl i)⟩
  refine wp_region_any hm (draw_anyX hd ht hdst hP hTT (by rw [Array.length_toList] at hK; exact hK) _ _ a _ ?_ ⟨by simp, fun i oi _ hi => (by rw [hDl] at hi; cases hi), ⟨κ, ol.ob, hR.drew, fun t => ?_, hM⟩, hN, hD⟩)
  · unfold left
    exact Nat.le_trans (List.length_filter_le _ _) (by simp)
  · have e : Dl (Array.replicate ops.size false) = fun _ => false := funext hDl
    rw [e, envOf_none]
    exact hE t

section
variable {N : Nat} {id : Nat} {ol : OL} {Q : Exit → Env → OL → Prop}
theorem sdX (hT : TOk P T) (hm : P.follows .mixedOrders = true) (fl : List Nat) {y : Code} {env' : Env} {ol' : OL} (ho : drawOkX ops (frF fl) = true) (hd : dstOk N ops.toList = true)
    (h : ∀ R : Env → OL → Prop, R env' ol' → WSeg P T ops fl ops.toList env ol R) (hy : Snd P T N y env' ol' Q) : Snd P T N (.seq (.region id ops true) y) env ol Q :=
  snd_seq (snd_drawX hT hm fl ho hd (h _ hy))
theorem ldX (hT : TOk P T) (hm : P.follows .mixedOrders = true) (fl : List Nat) {env' : Env} {ol' : OL} (ho : drawOkX ops (frF fl) = true) (hd : dstOk N ops.toList = true)
    (h : ∀ R : Env → OL → Prop, R env' ol' → WSeg P T ops fl ops.toList env ol R) (hy : Q .normal env' ol') : Snd P T N (.region id ops true) env ol Q :=
  snd_drawX hT hm fl ho hd (h _ hy)
theorem wx_ldc {all : Array Oper} {fl : List Nat} {r : List Oper} {x : Operand} {t ty : TypeId} {d : Nat} {pos : String} {af : Array Edge} {K : Env → OL → Prop} {w v : AV} (hx : evE env x = .cptr w) (hk : (T.und t).known = true) (hv : HV w v) (hz : v.size = T.sz t) (ha : v.isAgg = (T.und t).isAgg)
    (hr : WSeg P T all fl r ((d, v) :: env) ol K) : LoadC P T ⟨some d, .load t x, ty, pos, af, none⟩ env (fun v => WSeg P T all fl r (putE (some d) v env) ol K) := by
  have := hv.eq; subst this
  exact ⟨rfl, t, x, _, rfl, hx, hk, hz, ha, hr⟩
end

theorem mt_exp2 {at_ : Nat → Nat → Option (AV × AV)} {k i e : Nat} {sh : AV} {F G : Nat → AV} (h : at_ k i = some (sh, .arr 2 G)) (h0 : Mt V0 (F 0) (exp at_ 3 (G 0))) (h1 : Mt V0 (F 1) (exp at_ 3 (G 1))) : Mt V0 (.ro 2 F) (exp at_ 4 (.own k i 2 e)) := by
  show Mt V0 _ (match at_ k i with | some (_, .arr m f) => AV.ro m (fun j => exp at_ 3 (f j)) | _ => .any)
  rw [h]
  refine ⟨rfl, fun j hj => ?_⟩
  match j, hj with
  | 0, _ => exact h0
  | 1, _ => exact h1
theorem mt_expc {at_ : Nat → Nat → Option (AV × AV)} {d : Nat} {v : AV} (h : v.closed) (hn : v ≠ .any) : Mt V0 v (exp at_ d v) := by
  rw [exp_closed h]; exact Mt.rf h hn
end Go.Am
/- Pinned walks: regions, calls that turn an object, families under other names. My own work. -/
set_option linter.unusedVariables false
set_option linter.unusedSimpArgs false
namespace Go.Am
section
variable {P : Program} {T : TT} {N : Nat} {ks : List Nat} {env : Env} {ol : OL} {Q : Exit → Env → OL → Prop}
theorem srp (hT : TOk P T) {id : Nat} {ops : Array Oper} {y : Code} {env' : Env} {ol' : OL} (hd : dstOk N ops.toList = true)
    (h : ∀ R : Env → OL → Prop, R env' ol' → WOps P T ops ops.toList env ol R) (hy : Snp ks P T N y env' ol' Q) : Snp ks P T N (.seq (.region id ops false) y) env ol Q :=
  snp_seq (snp_region hT hd (h _ hy))
theorem lrp (hT : TOk P T) {id : Nat} {ops : Array Oper} {env' : Env} {ol' : OL} (hd : dstOk N ops.toList = true)
    (h : ∀ R : Env → OL → Prop, R env' ol' → WOps P T ops ops.toList env ol R) (hy : Q .normal env' ol') : Snp ks P T N (.region id ops false) env ol Q :=
  snp_region hT hd (h _ hy)
theorem sqp {c : Code} {env2 : Env} {ol2 : OL} (he : env = env2) (ho : ol = ol2) (h : Snp ks P T N c env2 ol2 Q) : Snp ks P T N c env ol Q := by
  subst he; subst ho; exact h
/-- Operations, then what stands behind them. -/
theorem WOps_runp (hT : TOk P T) (arr : Array Oper) {X : Cx} (hP : X.P = P) (hTT : X.T = T) {κ0 : Gh} {K : Env → OL → Prop} {rest : List Oper} {Qx : Exit → Act → World → Prop}
    (hk : ∀ env ol κ a w, K env ol → Rel X κ ol.ob w → EnvR (KK X κ ol.ob w) env a.tmps → a.tmps.size = N → a.defers = [] → PinOk ks κ0 X κ ol w → wpList P arr Qx rest a w) :
    ∀ (ops : List Oper) (env : Env) (ol : OL), WOps P T arr ops env ol K → dstOk N ops = true → ∀ (κ : Gh) (a : Act) (w : World), Rel X κ ol.ob w → EnvR (KK X κ ol.ob w) env a.tmps → a.tmps.size = N → a.defers = [] → PinOk ks κ0 X κ ol w → wpList P arr Qx (ops ++ rest) a w
  | [], env, ol, h, _, κ, a, w, hR, hE, hN, hD, hp => hk env ol κ a w h hR hE hN hD hp
  | o :: r, env, ol, h, hdst, κ, a, w, hR, hE, hN, hD, hp => by
    simp only [dstOk, List.all_cons, Bool.and_eq_true] at hdst
    have hlt : ∀ t, o.dst = some t → t < a.tmps.size := fun t ht => by
      have := hdst.1
      rw [ht] at this
      rw [hN]; simpa [Nat.blt_eq] using this
    have run : WOp P T o (evE env) ol (fun v ol' => WOps P T arr r (putE o.dst v env) ol' K) → o.wp P a w (wpList P arr Qx (r ++ rest)) Qx := by
      intro hw
      obtain ⟨v, ol', h1, h2⟩ := WOp_out hT hw
      have := h2 X κ w a hP hTT hR hE
      unfold Oper.wp
      rw [← hP]
      rw [← hP] at this
      refine upon_of_Out this (fun c w' κ' hR' hv hle => ?_)
      rw [hP]
      exact WOps_runp hT arr hP hTT hk r _ ol' h1 hdst.2 κ' _ w' hR' ((hE.mono hle).put hv hlt) (by rw [Act.put_size]; exact hN) (by rw [Act.put_defers]; exact hD) (hp.le hle)
    have skip : WOps P T arr r (putE o.dst undA env) ol K → wpList P arr Qx (r ++ rest) (a.put o.dst undef) w := fun hw =>
      WOps_runp hT arr hP hTT hk r _ ol hw hdst.2 κ _ w hR (hE.put (undA_ok _) hlt) (by rw [Act.put_size]; exact hN) (by rw [Act.put_defers]; exact hD) hp
    unfold WOps at h
    show wpList P arr Qx (o :: (r ++ rest)) a w
    unfold wpList
    split at h
    · rename_i hg
      rw [if_pos (by simp [Region.wanted, hg])]
      exact .inl (run h)
    · rename_i j want hg
      split at h
      · rename_i d hd
        split at h
        · rename_i b hb
          have hy := yielded_of hd hE hb (dst_lt_of_eq hE hb)
          split at h
          · rename_i hbw
            have : b = want := by simpa using hbw
            subst this
            rw [if_pos (by simp [Region.wanted, hg, hy])]
            exact .inl (run h)
          · rename_i hbw
            have : b ≠ want := by simpa using hbw
            rw [if_neg (by simp [Region.wanted, hg, hy, this])]
            exact skip h
        · rename_i f hb
          have hy := yielded_none hd hE hb
          rw [if_neg (by simp [Region.wanted, hg, hy])]
          exact skip h
        · exact h.elim
      · exact h.elim
theorem lrDp (hT : TOk P T) {id : Nat} {ops : Array Oper} {ops1 ops2 : List Oper} {o : Oper} {env1 env' : Env} {ol1 ol2 ol' : OL} {v : AV} (hd : dstOk N ops.toList = true)
    (hops : ops.toList = ops1 ++ o :: ops2) (hg : o.guard = none)
    (h1 : ∀ R : Env → OL → Prop, R env1 ol1 → WOps P T ops ops1 env ol R) (hm : MidJ P T o env1 ol1 v ol2)
    (h2 : ∀ R : Env → OL → Prop, R env' ol' → WOps P T ops ops2 (putE o.dst v env1) ol2 R)
    (hy : Q .normal env' ol') : Snp ks P T N (.region id ops false) env ol Q := by
  intro κ0 X κ a w hP hTT hR hE hN hD hp
  refine wp_region_list ?_
  rw [hops] at hd ⊢
  simp only [dstOk, List.all_append, List.all_cons, Bool.and_eq_true] at hd
  have hlt : ∀ (a : Act), a.tmps.size = N → ∀ t, o.dst = some t → t < a.tmps.size := fun a hN t ht => by
    have := hd.2.1
    rw [ht] at this
    rw [hN]; simpa [Nat.blt_eq] using this
  refine WOps_runp hT ops hP hTT (K := fun e l => e = env1 ∧ l = ol1) ?_ ops1 env ol (h1 _ ⟨rfl, rfl⟩) hd.1 κ a w hR hE hN hD hp
  rintro e l κ1 a1 w1 ⟨rfl, rfl⟩ hR1 hE1 hN1 hD1 hp1
  unfold wpList
  rw [if_pos (by simp [Region.wanted, hg])]
  refine .inl ?_
  unfold Oper.wp
  have := hm X κ1 w1 a1 hP hTT hR1 hE1
  rw [← hP]
  rw [← hP] at this
  refine upon_of_Out this (fun c w' κ' hR' hv hle => ?_)
  rw [hP]
  exact WOps_soundp hT ops (Q := Q) ops2 _ _ (h2 _ hy) hd.2.2 X κ' (a1.put o.dst c) w' hP hTT hR' ((hE1.mono hle).put hv (hlt a1 hN1)) (by rw [Act.put_size]; exact hN1) (by rw [Act.put_defers]; exact hD1) (hp1.le hle)
theorem srDp (hT : TOk P T) {id : Nat} {ops : Array Oper} {ops1 ops2 : List Oper} {o : Oper} {y : Code} {env1 env' : Env} {ol1 ol2 ol' : OL} {v : AV} (hd : dstOk N ops.toList = true)
    (hops : ops.toList = ops1 ++ o :: ops2) (hg : o.guard = none)
    (h1 : ∀ R : Env → OL → Prop, R env1 ol1 → WOps P T ops ops1 env ol R) (hm : MidJ P T o env1 ol1 v ol2)
    (h2 : ∀ R : Env → OL → Prop, R env' ol' → WOps P T ops ops2 (putE o.dst v env1) ol2 R)
    (hy : Snp ks P T N y env' ol' Q) : Snp ks P T N (.seq (.region id ops false) y) env ol Q :=
  snp_seq (lrDp hT hd hops hg h1 hm h2 hy)
end
/-- A family of rows under other names. -/
theorem emb_famR {ρ : Nat → Nat → Nat × Nat} {ko kf ko' kf' N e : Nat} {w : Nat → Nat} {F : Nat → Nat → Int} {g : Nat → AV} {env' env : Env} {ol' : OL} (h1' : ∀ i, ρ ko i = (ko', i)) (h2' : ∀ i, ρ kf i = (kf', i)) (hne : ko' ≠ kf')
    (hk : ko ≠ kf) (h1 : ol'.at_ ko' 0 = some (ZR N, .arr N g)) (hg : ∀ j, j < N → g j = .own kf' j (w j) e)
    (h3 : ∀ r, r < N → ∃ C, ol'.at_ kf' r = some (Z64 (w r), C) ∧ ∀ V : Vw, Mt V (C64 (w r) (F r)) C)
    (henv : envAll (fun t v => MtE (vwOf ρ ol' [(ko, .one (ZR N) (CO kf N w e)), (kf, .many (famF N w F))]) v (get env' t)) env) :
    Emb ρ env' ol' env [(ko, .one (ZR N) (CO kf N w e)), (kf, .many (famF N w F))] := by
  have hdom : OL.has [(ko, .one (ZR N) (CO kf N w e)), (kf, .many (famF N w F))] kf = true := by simp [OL.has]
  refine ⟨henv, ⟨?_, fun r sh cc h => ?_, trivial⟩, ⟨⟨fun _ => ⟨rfl, rfl⟩, fun r sh cc h he => ?_, trivial⟩, fun r sh cc h => ⟨fun he => ?_, fun r2' sh2 cc2 h2 he => ?_, trivial⟩, trivial⟩⟩
  · dsimp only
    rw [h1']
    dsimp only
    rw [h1]
    exact ⟨rfl, ⟨rfl, fun _ => trivial⟩, rfl, fun j hj => by rw [hg j hj]; exact ⟨h2' j, rfl, rfl, hdom⟩⟩
  · obtain ⟨hr, rfl, rfl⟩ := famF_some h
    rw [h2']
    dsimp only
    obtain ⟨C, h3, h4⟩ := h3 r hr
    rw [h3]
    exact ⟨rfl, ⟨rfl, fun _ => trivial⟩, h4 _⟩
  · rw [h1', h2'] at he
    exact absurd (congrArg Prod.fst he) hne
  · rw [h1', h2'] at he
    exact absurd (congrArg Prod.fst he).symm hne
  · rw [h2', h2'] at he
    exact ⟨rfl, congrArg Prod.snd he⟩
/-- Numbers k, k+1, ... in rows of m. -/
def mkF (k : Int) (m : Nat) (r j : Nat) : Int := k + (r * m : Nat) + (j : Nat)
def mk8 (k : Int) (r j : Nat) : Int := (k + (r * 6 : Nat) + (j : Nat)) % 256
theorem innerL_nil {D : Nat → Bool} : innerL D [] := trivial
theorem famF_inner {D : Nat → Bool} {N : Nat} {w : Nat → Nat} {F : Nat → Nat → Int} : ∀ i sh c, famF N w F i = some (sh, c) → c.inner D := fun i sh c h => by
  obtain ⟨_, _, rfl⟩ := famF_some h
  exact fun _ => trivial
theorem fam_mset {x : Fam} {N i r : Nat} {w : Nat → Nat} {A B : Nat → Nat → Int} {f : Nat → Int} (hr : r < N) (hA : ∀ j, j < w i → A i j = f j) :
    ∃ C, (OL.set [(0, x), (1, .many (famF N w (mixG A B i)))] 1 i (some (Z64 (w i), C64 (w i) f))).at_ 1 r = some (Z64 (w r), C) ∧ ∀ V : Vw, Mt V (C64 (w r) (mixG A B (i + 1) r)) C := by
  rw [OL.at_set]
  by_cases h : r = i
  · subst h
    rw [if_pos ⟨rfl, rfl⟩]
    exact ⟨_, rfl, fun V => mt_vec (fun j hj => by rw [mixG_lt _ _ (by omega)]; exact (hA j hj).symm)⟩
  · rw [if_neg (fun q => h q.2)]
    refine ⟨C64 (w r) (mixG A B i r), ?_, fun V => mt_vec (fun j hj => ?_)⟩
    · show famF N w (mixG A B i) r = _
      exact famF_at hr
    · by_cases h2 : r < i
      · rw [mixG_lt _ _ h2, mixG_lt _ _ (by omega)]
      · rw [mixG_ge _ _ (by omega), mixG_ge _ _ (by omega)]
theorem rtp {T : TT} {ks : List Nat} {t : Nat} {env : Env} {ol H : OL} {r : AV} {ρ : Nat → Nat → Nat × Nat} (h : Emb ρ [(0, get env t)] ol [(0, r)] H) (hp : pins ks ρ H) : retQp ks T [.tmp t] r H .ret env ol := ⟨ρ, h, hp⟩
/-- Rows being turned, number j of row i. -/
def mixG2 (A B : Nat → Nat → Int) (i j r : Nat) : Nat → Int := if r = i then mixF (A i) (B i) j else mixG A B i r
theorem mixG2_0 (A B : Nat → Nat → Int) (i r : Nat) : mixG2 A B i 0 r = mixG A B i r := by
  unfold mixG2
  split
  · rename_i h; subst h
    rw [mixG_self]; funext j; simp [mixF]
  · rfl
theorem mixG2_6 (A B : Nat → Nat → Int) (i r j : Nat) (hj : j < 6) : mixG2 A B i 6 r j = mixG A B (i + 1) r j := by
  unfold mixG2
  split
  · rename_i h; subst h
    rw [mixG_lt _ _ (by omega)]; simp [mixF, hj]
  · rename_i h
    by_cases h2 : r < i
    · rw [mixG_lt _ _ h2, mixG_lt _ _ (by omega)]
    · rw [mixG_ge _ _ (by omega), mixG_ge _ _ (by omega)]
theorem mt_mark8 {V : Vw} {A B : Nat → Nat → Int} {i j r : Nat} {x : Int} (hx : x = A i j) :
    Mt V (vecA (mixG2 A B i (j + 1) r)) (bif Nat.beq r (i : Int).toNat then put (vecA (mixG2 A B i j (i : Int).toNat)) [(j : Int).toNat] (.int .u8 x) else vecA (mixG2 A B i j r)) := by
  rw [Int.toNat_natCast, Int.toNat_natCast]
  by_cases h : r = i
  · subst h
    rw [Nat.beq_refl]
    refine ⟨rfl, fun b hb => ?_⟩
    show (bif Nat.beq b j then AV.int .u8 x else AV.int .u8 (mixG2 A B r j r b)) = AV.int .u8 (mixG2 A B r (j + 1) r b)
    unfold mixG2
    rw [if_pos rfl, if_pos rfl]
    unfold mixF
    by_cases hbj : b = j
    · subst hbj
      rw [Nat.beq_refl]
      show AV.int .u8 x = AV.int .u8 (if b < b + 1 then A r b else B r b)
      rw [if_pos (Nat.lt_succ_self b), hx]
    · rw [beq_ff hbj]
      show AV.int .u8 _ = AV.int .u8 _
      by_cases h2 : b < j
      · rw [if_pos h2, if_pos (by omega)]
      · rw [if_neg h2, if_neg (by omega)]
  · rw [beq_ff h]
    exact mt_vec (fun z _ => by unfold mixG2; rw [if_neg h, if_neg h])
end Go.Am
/- Results that hold lists beside a code; lists seen by a call. My own work. -/
set_option linter.unusedVariables false
set_option linter.unusedSimpArgs false
namespace Go.Am
theorem rt_own_u {T : TT} {env : Env} {ol : OL} {t s key n m e : Nat} {F G : Nat → AV} {sh : Nat → AV} {u : AV} (hx : get env t = .own key 0 n e) (hu : ∀ V, Mt V u (get env s)) (ho : ol.at_ key 0 = some (.arr n sh, .arr n G)) (hn : n = m) (hs : ∀ i, ssh (sh i) (F i)) (hf : ∀ V : Vw, ∀ i, i < m → Mt V (F i) (G i)) :
    retQ T [.tmp t, .tmp s] (.tup 2 (pairA (.own 0 0 m e) u)) [(0, .one (.arr m sh) (.arr m F))] .ret env ol := by
  subst hn
  refine ⟨fun _ _ => (key, 0), ⟨⟨rfl, fun i hi => ?_⟩, trivial⟩, ⟨?_, trivial⟩, ⟨⟨fun _ => ⟨rfl, rfl⟩, trivial⟩, trivial⟩⟩
  · match i, hi with
    | 0, _ =>
      show Mt _ (.own 0 0 n e) (get env t)
      rw [hx]
      exact ⟨rfl, rfl, rfl, rfl⟩
    | 1, _ => exact hu _
  · show (match ol.at_ key 0 with | some (sh', c') => _ | none => False)
    rw [ho]
    exact ⟨rfl, ⟨rfl, hs⟩, rfl, hf _⟩
/-- New names 0 and 1 for the names a and b. -/
def ρ2 (a b : Nat) : Nat → Nat → Nat × Nat := fun k i => bif Nat.beq k 0 then (a, i) else bif Nat.beq k 1 then (b, i) else (k, i)
theorem rt_fam_u {T : TT} {env : Env} {ol : OL} {t s a b N e e2 : Nat} {w : Nat → Nat} {F : Nat → Nat → Int} {g : Nat → AV} {u : AV} (hx : get env t = .own a 0 N e2) (hu : ∀ V, Mt V u (get env s)) (hab : a ≠ b) (h1 : ol.at_ a 0 = some (ZR N, .arr N g)) (hg : ∀ j, j < N → g j = .own b j (w j) e)
    (h3 : ∀ r, r < N → ol.at_ b r = some (Z64 (w r), C64 (w r) (F r))) :
    retQ T [.tmp t, .tmp s] (.tup 2 (pairA (.own 0 0 N e2) u)) [(0, .one (ZR N) (CO 1 N w e)), (1, .many (famF N w F))] .ret env ol := by
  refine ⟨ρ2 a b, emb_famR (fun _ => rfl) (fun _ => rfl) hab (by decide) h1 hg (fun r hr => ⟨_, h3 r hr, fun V => mt_vec (fun _ _ => rfl)⟩) ⟨⟨rfl, fun i hi => ?_⟩, trivial⟩⟩
  match i, hi with
  | 0, _ =>
    show Mt _ (.own 0 0 N e2) (get env t)
    rw [hx]
    exact ⟨rfl, rfl, rfl, rfl⟩
  | 1, _ => exact hu _
theorem mt_vl0 {at_ : Nat → Nat → Option (AV × AV)} {k e N : Nat} {sh : AV} {S : Nat → Nat → Int} (h : at_ k 0 = some (sh, .arr N (fun i => vecA (S i)))) : Mt V0 (vlA N S) (exp at_ 4 (.own k 0 N e)) := by
  show Mt V0 _ (match at_ k 0 with | some (_, .arr m f) => AV.ro m (fun j => exp at_ 3 (f j)) | _ => .any)
  rw [h]
  exact ⟨rfl, fun j _ => mt_expc (closed_vec (n := 6)) (by simp)⟩
theorem mt_row0 {at_ : Nat → Nat → Option (AV × AV)} {k e N : Nat} {sh : AV} {f : Nat → Int} (h : at_ k 0 = some (sh, C64 N f)) : Mt V0 (rowA N f) (exp at_ 4 (.own k 0 N e)) := by
  show Mt V0 _ (match at_ k 0 with | some (_, .arr m f) => AV.ro m (fun j => exp at_ 3 (f j)) | _ => .any)
  rw [h]
  exact ⟨rfl, fun j _ => rfl⟩
theorem mt_int0 {at_ : Nat → Nat → Option (AV × AV)} {k : IntKind} {x : Int} : Mt V0 (.int k x) (exp at_ 4 (.int k x)) := rfl
theorem mt_nil0 {at_ : Nat → Nat → Option (AV × AV)} {S : Nat → AV} : Mt V0 (.ro 0 S) (exp at_ 4 .nilsl) := rfl
theorem mut_fam {P : Program} {T : TT} (hT : TOk P T) {f : FuncId} {N e e2 : Nat} {w : Nat → Nat} {F G : Nat → Nat → Int} {r : AV} {more : List AV}
    (hc : MCalls P T f [0, 1] (.own 0 0 N e2 :: more) [(0, .one (ZR N) (CO 1 N w e)), (1, .many (famF N w F))] r [(0, .one (ZR N) (CO 1 N w e)), (1, .many (famF N w G))]) {dst : Option Nat} {ty : TypeId} {pos : String} {af : Array Edge} {gu : Option (Nat × Bool)} {args : Array Operand} {aty : Array TypeId} {env : Env}
    (ha : args.toList.map (evE env) = .own 0 0 N e2 :: more) (hin : innerL (fun k => Nat.beq k 0 || Nat.beq k 1) more) (hr : r.inner (fun k => Nat.beq k 0 || Nat.beq k 1)) {ol : OL} :
    MidJ P T ⟨dst, .call { callee := .value (.func f), args := args, argTypes := aty }, ty, pos, af, gu⟩ env ([(0, .one (ZR N) (CO 1 N w e)), (1, .many (famF N w F))] ++ ol) r ([(0, .one (ZR N) (CO 1 N w e)), (1, .many (famF N w G))] ++ ol) := by
  have hD : OL.has [(0, .one (ZR N) (CO 1 N w e)), (1, .many (famF N w F))] = fun k => Nat.beq k 0 || Nat.beq k 1 := by
    funext k
    simp [OL.has]
  have hi : ∀ A : Nat → Nat → Int, innerH (fun k => Nat.beq k 0 || Nat.beq k 1) [(0, .one (ZR N) (CO 1 N w e)), (1, .many (famF N w A))] := fun A => ⟨fun i => rfl, famF_inner, trivial⟩
  refine mut_mid hT hc ha ?_ ?_ ?_ ?_ (fun k => rfl) (fun k i => ?_) (fun k hk => ?_)
  · rw [hD]; exact ⟨rfl, hin⟩
  · rw [hD]; exact hr
  · rw [hD]; exact hi F
  · rw [hD]; exact hi G
  · simp only [OL.at_]
    cases Nat.beq k 0
    · cases Nat.beq k 1
      · rfl
      · show Option.map Prod.fst (famF N w G i) = Option.map Prod.fst (famF N w F i)
        by_cases h : i < N
        · rw [famF_at h, famF_at h]; rfl
        · cases h1 : famF N w G i with
          | some p => exact absurd (famF_some (sh := p.1) (cc := p.2) h1).1 h
          | none => cases h2 : famF N w F i with
            | some p => exact absurd (famF_some (sh := p.1) (cc := p.2) h2).1 h
            | none => rfl
    · rfl
  · rw [hD] at hk
    simp only [Bool.or_eq_true] at hk
    rcases hk with hk | hk
    · simp [Nat.eq_of_beq_eq_true hk]
    · simp [Nat.eq_of_beq_eq_true hk]
end Go.Am
/- Algebras built number by number. My own work. -/
set_option linter.unusedVariables false
set_option linter.unusedSimpArgs false
namespace Go.Am
abbrev T3 := Nat → Nat → Nat → Int
def opT (T : T3) (i j : Nat) : T3 := fun a b => if a < i ∨ (a = i ∧ b < j) then T b a else T a b
theorem mt_op1 {V : Vw} {p n : Int} {T : T3} {fo : Nat → Int} {i j : Nat} {r : Nat → Int} (hr : ∀ k, k < 6 → r k = T j i k) :
    Mt V (algA p n (opT T i (j + 1)) fo) (algA p n (upd (opT T i j) (i : Int).toNat (upd (opT T i j (i : Int).toNat) (j : Int).toNat r)) fo) := by
  rw [Int.toNat_natCast, Int.toNat_natCast]
  refine mt_alg rfl rfl (fun a b k ha hb hk => ?_) (fun _ _ => rfl)
  unfold upd opT
  by_cases h1 : a = i
  · subst h1
    rw [if_pos rfl]
    by_cases h2 : b = j
    · subst h2
      rw [if_pos rfl, if_pos (.inr ⟨rfl, by omega⟩)]
      exact hr k hk
    · rw [if_neg h2]
      by_cases h3 : b < j
      · rw [if_pos (.inr ⟨rfl, h3⟩), if_pos (.inr ⟨rfl, by omega⟩)]
      · rw [if_neg (by omega), if_neg (by omega)]
  · rw [if_neg h1]
    by_cases h3 : a < i
    · rw [if_pos (.inl h3), if_pos (.inl h3)]
    · rw [if_neg (by omega), if_neg (by omega)]
theorem opT_6 {T : T3} {i a b k : Nat} (hb : b < 6) : opT T i 6 a b k = opT T (i + 1) 0 a b k := by
  unfold opT
  by_cases h : a < i ∨ (a = i ∧ b < 6)
  · rw [if_pos h, if_pos (by omega)]
  · rw [if_neg h, if_neg (by omega)]
theorem opT_00 {T : T3} {a b k : Nat} : opT T 0 0 a b k = T a b k := by
  unfold opT; rw [if_neg (by omega)]
theorem opT_60 {T : T3} {a b k : Nat} (ha : a < 6) : opT T 6 0 a b k = T b a k := by
  unfold opT; rw [if_pos (.inl ha)]
/-- The code of two algebras. -/
noncomputable def twoZ (p q n m : Int) (T S : T3) (fo go : Nat → Int) (z : Int) : Int := if VA p n T fo ∧ VA q m S go then (if p = q then (if z > 6 then 3 else 0) else 2) else 1
/-- The sum of two algebras: so many numbers of the second are there. -/
def sumF (n : Nat) (fo go : Nat → Int) (i : Nat) : Nat → Int := fun a => if n ≤ a ∧ a - n < i then go (a - n) else fo a
def sumT (n m : Nat) (T S : T3) (i j k : Nat) : T3 := fun a b c =>
  if n ≤ a ∧ n ≤ b ∧ n ≤ c ∧ b - n < m ∧ c - n < m ∧ (a - n < i ∨ (a - n = i ∧ (b - n < j ∨ (b - n = j ∧ c - n < k)))) then S (a - n) (b - n) (c - n) else T a b c
theorem sumT_0 {n m : Nat} {T S : T3} {a b c : Nat} : sumT n m T S 0 0 0 a b c = T a b c := by
  unfold sumT; rw [if_neg (by omega)]
theorem sumT_k {n m : Nat} {T S : T3} {i j a b c : Nat} : sumT n m T S i j m a b c = sumT n m T S i (j + 1) 0 a b c := by
  unfold sumT
  by_cases h : n ≤ a ∧ n ≤ b ∧ n ≤ c ∧ b - n < m ∧ c - n < m ∧ (a - n < i ∨ (a - n = i ∧ (b - n < j ∨ (b - n = j ∧ c - n < m))))
  · rw [if_pos h, if_pos (by omega)]
  · rw [if_neg h, if_neg (by omega)]
theorem sumT_j {n m : Nat} {T S : T3} {i a b c : Nat} : sumT n m T S i m 0 a b c = sumT n m T S (i + 1) 0 0 a b c := by
  unfold sumT
  by_cases h : n ≤ a ∧ n ≤ b ∧ n ≤ c ∧ b - n < m ∧ c - n < m ∧ (a - n < i ∨ (a - n = i ∧ (b - n < m ∨ (b - n = m ∧ c - n < 0))))
  · rw [if_pos h, if_pos (by omega)]
  · rw [if_neg h, if_neg (by omega)]
theorem mt_sum1 {V : Vw} {p z : Int} {n m i j k : Nat} {T S : T3} {f : Nat → Int} (hj : j < m) (hk : k < m) :
    Mt V (algA p z (sumT n m T S i j (k + 1)) f) (algA p z (upd (sumT n m T S i j k) (n + i) (upd (sumT n m T S i j k (n + i)) (n + j) (upd (sumT n m T S i j k (n + i) (n + j)) (n + k) (S i j k)))) f) := by
  refine mt_alg rfl rfl (fun a b c ha hb hc => ?_) (fun _ _ => rfl)
  unfold upd sumT
  by_cases h1 : a = n + i
  · subst h1
    rw [if_pos rfl]
    by_cases h2 : b = n + j
    · subst h2
      rw [if_pos rfl]
      by_cases h3 : c = n + k
      · subst h3
        rw [if_pos rfl, if_pos (by omega), Nat.add_sub_cancel_left, Nat.add_sub_cancel_left, Nat.add_sub_cancel_left]
      · rw [if_neg h3]
        by_cases h : n ≤ n + i ∧ n ≤ n + j ∧ n ≤ c ∧ n + j - n < m ∧ c - n < m ∧ (n + i - n < i ∨ (n + i - n = i ∧ (n + j - n < j ∨ (n + j - n = j ∧ c - n < k))))
        · rw [if_pos h, if_pos (by omega)]
        · rw [if_neg h, if_neg (by omega)]
    · rw [if_neg h2]
      by_cases h : n ≤ n + i ∧ n ≤ b ∧ n ≤ c ∧ b - n < m ∧ c - n < m ∧ (n + i - n < i ∨ (n + i - n = i ∧ (b - n < j ∨ (b - n = j ∧ c - n < k))))
      · rw [if_pos h, if_pos (by omega)]
      · rw [if_neg h, if_neg (by omega)]
  · rw [if_neg h1]
    by_cases h : n ≤ a ∧ n ≤ b ∧ n ≤ c ∧ b - n < m ∧ c - n < m ∧ (a - n < i ∨ (a - n = i ∧ (b - n < j ∨ (b - n = j ∧ c - n < k))))
    · rw [if_pos h, if_pos (by omega)]
    · rw [if_neg h, if_neg (by omega)]
theorem sumF_0 {n : Nat} {fo go : Nat → Int} {a : Nat} : sumF n fo go 0 a = fo a := by
  unfold sumF; rw [if_neg (by omega)]
theorem sumF_1 {n i a : Nat} {fo go : Nat → Int} : upd (sumF n fo go i) (n + i) (go i) a = sumF n fo go (i + 1) a := by
  unfold upd sumF
  by_cases h : a = n + i
  · subst h; rw [if_pos rfl, if_pos (by omega), Nat.add_sub_cancel_left]
  · rw [if_neg h]
    by_cases h2 : n ≤ a ∧ a - n < i
    · rw [if_pos h2, if_pos (by omega)]
    · rw [if_neg h2, if_neg (by omega)]
/-- The product of two algebras: so many numbers are there. -/
def tenF (p : Int) (m : Nat) (fo go : Nat → Int) (a : Nat) : Int := (fo (a / m) * go (a % m)) % p
def tenT (p : Int) (m : Nat) (T S : T3) : T3 := fun a b c => (T (a / m) (b / m) (c / m) * S (a % m) (b % m) (c % m)) % p
def fillF1 (F : Nat → Int) (i : Nat) : Nat → Int := fun a => if a < i then F a else 0
def fillT3 (N : Nat) (G : T3) (i j k : Nat) : T3 := fun a b c =>
  if b < N ∧ c < N ∧ (a < i ∨ (a = i ∧ (b < j ∨ (b = j ∧ c < k)))) then G a b c else 0
theorem fillT3_k {N : Nat} {G : T3} {i j a b c : Nat} : fillT3 N G i j N a b c = fillT3 N G i (j + 1) 0 a b c := by
  unfold fillT3
  by_cases h : b < N ∧ c < N ∧ (a < i ∨ (a = i ∧ (b < j ∨ (b = j ∧ c < N))))
  · rw [if_pos h, if_pos (by omega)]
  · rw [if_neg h, if_neg (by omega)]
theorem fillT3_j {N : Nat} {G : T3} {i a b c : Nat} : fillT3 N G i N 0 a b c = fillT3 N G (i + 1) 0 0 a b c := by
  unfold fillT3
  by_cases h : b < N ∧ c < N ∧ (a < i ∨ (a = i ∧ (b < N ∨ (b = N ∧ c < 0))))
  · rw [if_pos h, if_pos (by omega)]
  · rw [if_neg h, if_neg (by omega)]
theorem fillT3_0 {N : Nat} {G : T3} {a b c : Nat} : fillT3 N G 0 0 0 a b c = 0 := by
  unfold fillT3; rw [if_neg (by omega)]
theorem fillF1_0 {F : Nat → Int} {a : Nat} : fillF1 F 0 a = 0 := by
  unfold fillF1; rw [if_neg (by omega)]
theorem fillF1_1 {F : Nat → Int} {i a : Nat} : upd (fillF1 F i) i (F i) a = fillF1 F (i + 1) a := by
  unfold upd fillF1
  by_cases h : a = i
  · subst h; rw [if_pos rfl, if_pos (by omega)]
  · rw [if_neg h]
    by_cases h2 : a < i
    · rw [if_pos h2, if_pos (by omega)]
    · rw [if_neg h2, if_neg (by omega)]
theorem mt_ten1 {V : Vw} {p z : Int} {N i j k : Nat} {G : T3} {f : Nat → Int} (hj : j < N) (hk : k < N) :
    Mt V (algA p z (fillT3 N G i j (k + 1)) f) (algA p z (upd (fillT3 N G i j k) i (upd (fillT3 N G i j k i) j (upd (fillT3 N G i j k i j) k (G i j k)))) f) := by
  refine mt_alg rfl rfl (fun a b c ha hb hc => ?_) (fun _ _ => rfl)
  unfold upd fillT3
  by_cases h1 : a = i
  · subst h1
    rw [if_pos rfl]
    by_cases h2 : b = j
    · subst h2
      rw [if_pos rfl]
      by_cases h3 : c = k
      · subst h3
        rw [if_pos rfl, if_pos (by omega)]
      · rw [if_neg h3]
        by_cases h : b < N ∧ c < N ∧ (a < a ∨ (a = a ∧ (b < b ∨ (b = b ∧ c < k))))
        · rw [if_pos h, if_pos (by omega)]
        · rw [if_neg h, if_neg (by omega)]
    · rw [if_neg h2]
      by_cases h : b < N ∧ c < N ∧ (a < a ∨ (a = a ∧ (b < j ∨ (b = j ∧ c < k))))
      · rw [if_pos h, if_pos (by omega)]
      · rw [if_neg h, if_neg (by omega)]
  · rw [if_neg h1]
    by_cases h : b < N ∧ c < N ∧ (a < i ∨ (a = i ∧ (b < j ∨ (b = j ∧ c < k))))
    · rw [if_pos h, if_pos (by omega)]
    · rw [if_neg h, if_neg (by omega)]
theorem mul8 {x y : Int} (hx : 0 ≤ x ∧ x < 256) (hy : 0 ≤ y ∧ y < 256) : 0 ≤ x * y ∧ x * y ≤ 65025 := by
  refine ⟨Int.mul_nonneg hx.1 hy.1, ?_⟩
  have h1 : x * y ≤ 255 * y := Int.mul_le_mul_of_nonneg_right (by omega) hy.1
  omega
theorem tmod_mul8 {x y p : Int} (hx : 0 ≤ x ∧ x < 256) (hy : 0 ≤ y ∧ y < 256) : Int.tmod (x * y) p = (x * y) % p := Int.tmod_eq_emod_of_nonneg (mul8 hx hy).1
theorem w_ten {x y p : Int} (hx : 0 ≤ x ∧ x < 256) (hy : 0 ≤ y ∧ y < 256) (hp : 0 < p ∧ p ≤ 256) : IntKind.u8.wrap (Int.tmod (x * y) p) = (x * y) % p := by
  rw [tmod_mul8 hx hy]
  have h1 := Int.emod_nonneg (x * y) (show p ≠ 0 by omega)
  have h2 := Int.emod_lt_of_pos (x * y) hp.1
  exact w8 h1 (by omega)
theorem wNM {n m N : Nat} (h : n * m = N) (h6 : N ≤ 6) : IntKind.i64.wrap ((n : Int) * (m : Int)) = (N : Int) := by
  rw [← Int.natCast_mul, h]; exact w64 (by omega) (by omega)
theorem fillF1_z {F : Nat → Int} {N a : Nat} : fillF1 F N a = if a < N then F a else 0 := rfl
end Go.Am
