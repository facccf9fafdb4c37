/- Part 2 of what the law stands on: abstract values, their walk, contracts of functions. My own work. Conditions: none. -/
import Derived.Test.YtnmdenipfdgdgaaGreatPart1
import Derived.Orders
import Derived.CheckFast
import Derived.Laws.BitsLemmas
import Derived.Laws.IdiomCopy
import Derived.WalkKit
import Derived.ProofKit
import Derived.OpenShut
import Derived.ShutString
import Derived.ChangeOld
import Derived.Below
set_option linter.unusedVariables false
set_option linter.unusedSimpArgs false
set_option linter.unusedSectionVars false
namespace Go.Am
def gd (all : Array Oper) (o : Oper) (env : Env) : Option Bool :=
  match o.guard with
  | none => some true
  | some (j, want) => (match (all[j]?).bind (·.dst) with
    | some d => (match get env d with
      | .bool b => some (b == want)
      | .tup 0 _ => some false
      | _ => none)
    | none => none)
def StepJ (P : Program) (T : TT) (arr : Array Oper) (o : Oper) (env : Env) (ol : OL) (v : AV) (ol' : OL) : Prop :=
  (gd arr o env = some false ∧ v = undA ∧ ol' = ol) ∨
  (gd arr o env = some true ∧
    ((kind o = 0 ∧ ol' = ol ∧ PureJ P T o (evE env) v) ∨
     (kind o = 1 ∧ ∃ A : OL, ol' = A ++ ol ∧ PassJ' P T o (evE env) ol.ob v A ∧ ∀ k, A.has k = true → ol.has k = false) ∨
     (kind o = 2 ∧ ActJ P T o (evE env) ol.ob v ol'.ob)))
def envOf (V : Nat → AV) (D : Nat → Bool) : Nat → List Oper → Env → Env
  | _, [], env => env
  | s, o :: r, env => envOf V D (s + 1) r (if D s = true then putE o.dst (V s) env else env)
theorem envOf_shift (V : Nat → AV) (D : Nat → Bool) : ∀ (ops : List Oper) (s : Nat) (env : Env), envOf V D (s + 1) ops env = envOf (fun j => V (j + 1)) (fun j => D (j + 1)) s ops env
  | [], _, _ => rfl
  | o :: r, s, env => by simp only [envOf]; exact envOf_shift V D r (s + 1) _
theorem get_putE (d : Option Nat) (v : AV) (env : Env) (t : Nat) : get (putE d v env) t = if d = some t then v else get env t := by
  cases d with
  | none => simp [putE]
  | some d =>
    simp only [putE, get]
    by_cases h : t = d
    · subst h; simp
    · rw [beq_ff h, if_neg (by simpa using fun e => h e.symm)]; rfl
theorem envOf_agree (V : Nat → AV) (D D' : Nat → Bool) (t : Nat) : ∀ (ops : List Oper) (s : Nat) (env env' : Env), get env t = get env' t →
    (∀ k o, ops[k]? = some o → o.dst = some t → D (s + k) = D' (s + k)) → get (envOf V D s ops env) t = get (envOf V D' s ops env') t
  | [], _, _, _, h, _ => h
  | o :: r, s, env, env', h, hD => by
    simp only [envOf]
    refine envOf_agree V D D' t r (s + 1) _ _ ?_ (fun k o hk ho => ?_)
    · by_cases ho : o.dst = some t
      · have := hD 0 o rfl ho
        simp only [Nat.add_zero] at this
        rw [this]
        cases hd : D' s
        · simpa using h
        · simp only [if_true]
          rw [get_putE, get_putE, if_pos ho, if_pos ho]
      · have e1 : get (if D s = true then putE o.dst (V s) env else env) t = get env t := by
          split
          · rw [get_putE, if_neg ho]
          · rfl
        have e2 : get (if D' s = true then putE o.dst (V s) env' else env') t = get env' t := by
          split
          · rw [get_putE, if_neg ho]
          · rfl
        rw [e1, e2, h]
    · have := hD (k + 1) o (by simpa using hk) ho
      rwa [show s + 1 + k = s + (k + 1) from by omega]
theorem envOf_none (V : Nat → AV) : ∀ (ops : List Oper) (s : Nat) (env : Env), envOf V (fun _ => false) s ops env = env
  | [], _, _ => rfl
  | o :: r, s, env => by simp only [envOf]; exact envOf_none V r (s + 1) _
theorem envOf_last (V : Nat → AV) (D : Nat → Bool) (t : Nat) : ∀ (ops : List Oper) (s i : Nat) (o : Oper) (env : Env), ops[i]? = some o → o.dst = some t → D (s + i) = true →
    (∀ k o', i < k → ops[k]? = some o' → o'.dst = some t → D (s + k) = false) → get (envOf V D s ops env) t = V (s + i)
  | [], _, _, _, _, h, _, _, _ => by simp at h
  | o1 :: r, s, 0, o, env, h, ho, hD, hl => by
    simp only [List.getElem?_cons_zero, Option.some.injEq] at h
    subst h
    simp only [Nat.add_zero] at hD
    simp only [envOf, hD, if_true, Nat.add_zero]
    rw [envOf_agree V D (fun _ => false) t r (s + 1) _ (putE o1.dst (V s) env) rfl (fun k o' hk ho' => ?_), envOf_none, get_putE, if_pos ho]
    have := hl (k + 1) o' (by omega) (by simpa using hk) ho'
    rwa [show s + 1 + k = s + (k + 1) from by omega]
  | o1 :: r, s, i + 1, o, env, h, ho, hD, hl => by
    simp only [envOf]
    rw [envOf_last V D t r (s + 1) i o _ (by simpa using h) ho (by rwa [show s + 1 + i = s + (i + 1) from by omega]) (fun k o' hk ho1 ho2 => ?_)]
    · congr 1; omega
    · have := hl (k + 1) o' (by omega) (by simpa using ho1) ho2
      rwa [show s + 1 + k = s + (k + 1) from by omega]
section
variable {P : Program} {T : TT}
theorem WOps_trace (hT : TOk P T) (arr : Array Oper) : ∀ (ops : List Oper) (env : Env) (ol : OL) (K : Env → OL → Prop), WOps P T arr ops env ol K →
    ∃ (V : Nat → AV) (O : Nat → OL), O 0 = ol ∧ (∀ k o, ops[k]? = some o → StepJ P T arr o (envOf V (fun j => decide (j < k)) 0 ops env) (O k) (V k) (O (k + 1))) ∧ K (envOf V (fun _ => true) 0 ops env) (O ops.length)
  | [], env, ol, K, h => ⟨fun _ => .any, fun _ => ol, rfl, fun k o hk => by simp at hk, h⟩
  | o :: r, env, ol, K, h => by
    have hh : ∃ v ol1, StepJ P T arr o env ol v ol1 ∧ WOps P T arr r (putE o.dst v env) ol1 K := by
      unfold WOps at h
      have run : gd arr o env = some true → WOp P T o (evE env) ol (fun v ol' => WOps P T arr r (putE o.dst v env) ol' K) → ∃ v ol1, StepJ P T arr o env ol v ol1 ∧ WOps P T arr r (putE o.dst v env) ol1 K := by
        intro hg hw
        obtain ⟨v, hw⟩ := WOp_sound hT hw
        rcases hw with ⟨h0, h1, h2⟩ | ⟨h0, A, h1, h2, h3⟩ | ⟨h0, ol', h1, h2, _⟩
        · exact ⟨v, ol, .inr ⟨hg, .inl ⟨h0, rfl, h2⟩⟩, h1⟩
        · exact ⟨v, A ++ ol, .inr ⟨hg, .inr (.inl ⟨h0, A, rfl, h2, h3⟩)⟩, h1⟩
        · exact ⟨v, ol', .inr ⟨hg, .inr (.inr ⟨h0, h2⟩)⟩, h1⟩
      split at h
      · rename_i hg
        exact run (by simp [gd, hg]) h
      · rename_i j want hg
        split at h
        · rename_i d hd
          split at h
          · rename_i b hb
            split at h
            · rename_i hbw
              exact run (by simp only [gd, hg, hd, hb, hbw]) h
            · rename_i hbw
              exact ⟨undA, ol, .inl ⟨by simp only [gd, hg, hd, hb, hbw], rfl, rfl⟩, h⟩
          · rename_i hb
            exact ⟨undA, ol, .inl ⟨by simp only [gd, hg, hd, hb], rfl, rfl⟩, h⟩
          · exact h.elim
        · exact h.elim
    obtain ⟨v, ol1, hs, hw⟩ := hh
    obtain ⟨V, O, hO, hst, hK⟩ := WOps_trace hT arr r _ ol1 K hw
    refine ⟨fun | 0 => v | k + 1 => V k, fun | 0 => ol | k + 1 => O k, rfl, fun k o' hk => ?_, ?_⟩
    · cases k with
      | zero =>
        simp only [List.getElem?_cons_zero, Option.some.injEq] at hk
        subst hk
        have : (fun j : Nat => decide (j < 0)) = fun _ => false := by funext j; simp
        rw [this, envOf_none]
        simp only [Nat.zero_add]
        rw [hO]
        exact hs
      | succ k =>
        have := hst k o' (by simpa using hk)
        simp only [envOf]
        rw [if_pos (by simp), envOf_shift]
        have e : (fun j : Nat => decide (j + 1 < k + 1)) = fun j => decide (j < k) := by funext j; simp
        rw [e]
        exact this
    · simp only [envOf, if_true]
      rw [envOf_shift]
      exact hK
structure DrawOk (ops : Array Oper) (U : Nat → Nat → Bool) (m0 : Nat) : Prop where
  le : m0 ≤ ops.size
  back : ∀ i oi, ops[i]? = some oi → ∀ e ∈ oi.after, Region.binds .any e = true → e.on < i
  k2 : ∀ i oi, ops[i]? = some oi → kind oi = 2 → m0 ≤ i
  k1 : ∀ i oi, ops[i]? = some oi → kind oi = 1 → i < m0
  clos : ∀ i oi j, ops[i]? = some oi → j < ops.size → U i j = true → ∃ e ∈ oi.after, Region.binds .any e = true ∧ (e.on = j ∨ U e.on j = true)
  ap : ∀ i oi j oj, ops[i]? = some oi → ops[j]? = some oj → j < i → oj.apart ops oi = true ∨ U i j = true
  act1 : ∀ i oi j oj, ops[i]? = some oi → ops[j]? = some oj → kind oi = 2 → kind oj = 1 → U i j = true
  act2 : ∀ i oi j oj, ops[i]? = some oi → ops[j]? = some oj → kind oi = 2 → kind oj = 2 → j < i → U i j = true
def chkD (ops : Array Oper) (U : Nat → Nat → Bool) (m0 : Nat) : Bool :=
  Nat.ble m0 ops.size &&
  (List.range ops.size).all fun i => match ops[i]? with
    | none => true
    | some oi =>
      (oi.after.toList.all fun e => !Region.binds .any e || Nat.blt e.on i) &&
      (!(Nat.beq (kind oi) 2) || Nat.ble m0 i) && (!(Nat.beq (kind oi) 1) || Nat.blt i m0) &&
      (List.range ops.size).all fun j => match ops[j]? with
        | none => true
        | some oj =>
          (!U i j || oi.after.toList.any fun e => Region.binds .any e && (Nat.beq e.on j || U e.on j)) &&
          (!(Nat.blt j i) || (U i j || oj.apart ops oi)) &&
          (!(Nat.beq (kind oi) 2) || (!(Nat.beq (kind oj) 1) || U i j)) &&
          (!(Nat.beq (kind oi) 2) || (!(Nat.beq (kind oj) 2) || (!(Nat.blt j i) || U i j)))
theorem chkD_ok {ops : Array Oper} {U : Nat → Nat → Bool} {m0 : Nat} (h : chkD ops U m0 = true) : DrawOk ops U m0 := by
  simp only [chkD, Bool.and_eq_true, List.all_eq_true, List.mem_range] at h
  obtain ⟨h0, h⟩ := h
  have lt : ∀ {i : Nat} {oi : Oper}, ops[i]? = some oi → i < ops.size := fun hi => (Array.getElem?_eq_some_iff.1 hi).1
  have g1 : ∀ i oi, ops[i]? = some oi → (((∀ e ∈ oi.after.toList, (!Region.binds .any e || Nat.blt e.on i) = true) ∧ (!(Nat.beq (kind oi) 2) || Nat.ble m0 i) = true) ∧ (!(Nat.beq (kind oi) 1) || Nat.blt i m0) = true) := by
    intro i oi hi
    have := h i (lt hi)
    rw [hi] at this
    simp only [Bool.and_eq_true, List.all_eq_true] at this
    exact ⟨⟨this.1.1.1, this.1.1.2⟩, this.1.2⟩
  have g2 : ∀ i oi j oj, ops[i]? = some oi → ops[j]? = some oj →
      ((((!U i j || oi.after.toList.any fun e => Region.binds .any e && (Nat.beq e.on j || U e.on j)) = true ∧ (!(Nat.blt j i) || (U i j || oj.apart ops oi)) = true) ∧
      (!(Nat.beq (kind oi) 2) || (!(Nat.beq (kind oj) 1) || U i j)) = true) ∧ (!(Nat.beq (kind oi) 2) || (!(Nat.beq (kind oj) 2) || (!(Nat.blt j i) || U i j))) = true) := by
    intro i oi j oj hi hj
    have := h i (lt hi)
    rw [hi] at this
    simp only [Bool.and_eq_true, List.all_eq_true, List.mem_range] at this
    have := this.2 j (lt hj)
    rw [hj] at this
    simpa only [Bool.and_eq_true] using this
  refine ⟨Nat.le_of_ble_eq_true h0, fun i oi hi e he hb => ?_, fun i oi hi hk => ?_, fun i oi hi hk => ?_, fun i oi j hi hj hu => ?_, fun i oi j oj hi hj hlt => ?_, fun i oi j oj hi hj h2 h1 => ?_, fun i oi j oj hi hj h2 h1 hlt => ?_⟩
  · have := (g1 i oi hi).1.1 e (by simpa using he)
    simpa [hb, Nat.blt_eq] using this
  · have := (g1 i oi hi).1.2
    simpa [hk] using this
  · have := (g1 i oi hi).2
    simpa [hk, Nat.blt_eq] using this
  · have := (g2 i oi j ops[j] hi (by simp [hj])).1.1.1
    simp only [hu, Bool.not_true, Bool.false_or, List.any_eq_true, Bool.and_eq_true, Bool.or_eq_true] at this
    obtain ⟨e, he, hb, hq⟩ := this
    exact ⟨e, by simpa using he, hb, hq.imp (fun h => Nat.eq_of_beq_eq_true h) id⟩
  · have := (g2 i oi j oj hi hj).1.1.2
    have hb : Nat.blt j i = true := by rw [Nat.blt_eq]; exact hlt
    simp only [hb, Bool.not_true, Bool.false_or, Bool.or_eq_true] at this
    exact this.symm
  · have := (g2 i oi j oj hi hj).1.2
    simpa [h2, h1] using this
  · have := (g2 i oi j oj hi hj).2
    have hb : Nat.blt j i = true := by rw [Nat.blt_eq]; exact hlt
    simpa [h2, h1, hb] using this
def numsOf (ops : Array Oper) : Array Nat := CheckFast.beforeF ops
def Uof (B : Array Nat) (i j : Nat) : Bool := (B.getD i 0).testBit j
def firstAct : List Oper → Nat → Nat
  | [], n => n
  | o :: r, n => bif Nat.beq (kind o) 2 then n else firstAct r (n + 1)
def drawOk (ops : Array Oper) : Bool := chkD ops (Uof (numsOf ops)) (firstAct ops.toList 0)
def Dl (listed : Array Bool) (j : Nat) : Bool := listed.getD j false
structure Tr (P : Program) (T : TT) (ops : Array Oper) (env : Env) (V : Nat → AV) (O : Nat → OL) : Prop where
  step : ∀ k o, ops[k]? = some o → StepJ P T ops o (envOf V (fun j => decide (j < k)) 0 ops.toList env) (O k) (V k) (O (k + 1))
variable {ops : Array Oper} {U : Nat → Nat → Bool} {m0 : Nat} {env : Env} {V : Nat → AV} {O : Nat → OL}
theorem down (hd : DrawOk ops U m0) {D : Nat → Bool} (hcl : ∀ i oi, ops[i]? = some oi → D i = true → ∀ e ∈ oi.after, Region.binds .any e = true → D e.on = true) :
    ∀ i oi j, ops[i]? = some oi → j < ops.size → U i j = true → (∀ e ∈ oi.after, Region.binds .any e = true → D e.on = true) → D j = true := by
  intro i
  induction i using Nat.strongRecOn with
  | _ i ih =>
    intro oi j hi hj hu hr
    obtain ⟨e, he, hb, hq⟩ := hd.clos i oi j hi hj hu
    have hlt := hd.back i oi hi e he hb
    have hin := (Array.getElem?_eq_some_iff.1 hi).1
    have hD := hr e he hb
    rcases hq with hq | hq
    · exact hq ▸ hD
    · have hx : ops[e.on]? = some ops[e.on] := by simp [Nat.lt_trans hlt hin]
      exact ih e.on hlt _ j hx hj hq (hcl e.on _ hx hD)
theorem kind_le (o : Oper) : kind o = 0 ∨ kind o = 1 ∨ kind o = 2 := by
  unfold kind
  split <;> simp
theorem Tr.same (ht : Tr P T ops env V O) {k : Nat} {o : Oper} (hk : ops[k]? = some o) (h0 : kind o = 0) : O (k + 1) = O k := by
  rcases ht.step k o hk with ⟨_, _, h⟩ | ⟨_, ⟨_, h, _⟩ | ⟨h, _⟩ | ⟨h, _⟩⟩
  · exact h
  · exact h
  · rw [h0] at h; cases h
  · rw [h0] at h; cases h
theorem Tr.up (ht : Tr P T ops env V O) {j : Nat} {o : Oper} (hj : ops[j]? = some o) (h2 : kind o ≠ 2) {k : Nat} (hk : (O j).has k = true) : (O (j + 1)).has k = true ∧ ∀ i, (O (j + 1)).at_ k i = (O j).at_ k i := by
  rcases ht.step j o hj with ⟨_, _, h⟩ | ⟨_, ⟨_, h, _⟩ | ⟨_, A, h, _, hf⟩ | ⟨h, _⟩⟩
  · rw [h]; exact ⟨hk, fun _ => rfl⟩
  · rw [h]; exact ⟨hk, fun _ => rfl⟩
  · rw [h]
    refine ⟨by rw [OL.has_append, hk]; simp, fun i => ?_⟩
    rw [OL.at_append]
    split
    · rename_i hA
      rw [hf k hA] at hk; cases hk
    · rfl
  · exact absurd h h2
theorem Tr.chain (ht : Tr P T ops env V O) (hd : DrawOk ops U m0) {a : Nat} : ∀ d, a + d ≤ m0 → ∀ {k : Nat}, (O a).has k = true → (O (a + d)).has k = true ∧ ∀ i, (O (a + d)).at_ k i = (O a).at_ k i
  | 0, _, k, hk => ⟨hk, fun _ => rfl⟩
  | d + 1, h, k, hk => by
    obtain ⟨h1, h2⟩ := ht.chain hd d (by omega) hk
    have hlt : a + d < ops.size := by have := hd.le; omega
    have hx : ops[a + d]? = some ops[a + d] := by simp [hlt]
    obtain ⟨h3, h4⟩ := ht.up hx (fun h2 => by have := hd.k2 _ _ hx h2; omega) h1
    exact ⟨h3, fun i => (h4 i).trans (h2 i)⟩
theorem Tr.mono (ht : Tr P T ops env V O) (hd : DrawOk ops U m0) {a b : Nat} (hab : a ≤ b) (hb : b ≤ m0) {k : Nat} (hk : (O a).has k = true) : (O b).has k = true ∧ ∀ i, (O b).at_ k i = (O a).at_ k i := by
  obtain ⟨d, rfl⟩ := Nat.exists_eq_add_of_le hab
  exact ht.chain hd d hb hk
theorem Tr.born (ht : Tr P T ops env V O) (hd : DrawOk ops U m0) {k : Nat} : ∀ b, b ≤ m0 → (O b).has k = true → (O 0).has k = true ∨ ∃ j, j < b ∧ (O (j + 1)).has k = true ∧ (O j).has k = false
  | 0, _, h => .inl h
  | b + 1, hb, h => by
    cases hq : (O b).has k with
    | true =>
      rcases ht.born hd b (by omega) hq with h | ⟨j, h1, h2⟩
      · exact .inl h
      · exact .inr ⟨j, by omega, h2⟩
    | false => exact .inr ⟨b, by omega, h, hq⟩
theorem Tr.still (ht : Tr P T ops env V O) (hd : DrawOk ops U m0) {a : Nat} (ha : m0 ≤ a) : ∀ d, a + d ≤ ops.size → (∀ j o, ops[j]? = some o → a ≤ j → j < a + d → kind o ≠ 2) → O (a + d) = O a
  | 0, _, _ => rfl
  | d + 1, h, hk => by
    have hlt : a + d < ops.size := by omega
    have hx : ops[a + d]? = some ops[a + d] := by simp [hlt]
    have h0 : kind ops[a + d] = 0 := by
      rcases kind_le ops[a + d] with h0 | h1 | h2
      · exact h0
      · have := hd.k1 _ _ hx h1; omega
      · exact absurd h2 (hk _ _ hx (by omega) (by omega))
    rw [← Nat.add_assoc, ht.same hx h0]
    exact ht.still hd ha d (by omega) (fun j o hj h1 h2 => hk j o hj h1 (by omega))
def Mem (ops : Array Oper) (m0 : Nat) (O : Nat → OL) (D : Nat → Bool) (ob : Ob) : Prop :=
  ((∀ i oi, ops[i]? = some oi → kind oi = 2 → D i = false) ∧
    (∀ k, ob.has k = true ↔ (O 0).has k = true ∨ ∃ j, j < m0 ∧ D j = true ∧ (O (j + 1)).has k = true ∧ (O j).has k = false) ∧
    (∀ k, ob.has k = true → ∀ i, ob.at_ k i = (O m0).at_ k i)) ∨
  ((∀ i oi, ops[i]? = some oi → kind oi = 1 → D i = true) ∧ ∃ m, m0 ≤ m ∧ m ≤ ops.size ∧ (∀ i oi, ops[i]? = some oi → kind oi = 2 → (D i = true ↔ i < m)) ∧ ob = (O m).ob)
theorem Ob_ext {a b : Ob} (h1 : ∀ k i, a.at_ k i = b.at_ k i) (h2 : ∀ k, a.has k = b.has k) : a = b := by
  cases a; cases b
  simp only [Ob.mk.injEq]
  exact ⟨funext fun k => funext fun i => h1 k i, funext h2⟩
theorem Mem.turn (ht : Tr P T ops env V O) (hd : DrawOk ops U m0) {D : Nat → Bool} {ob : Ob} (hob : ∀ k i, ob.at_ k i ≠ none → ob.has k = true) (hm : Mem ops m0 O D ob)
    (h1 : ∀ i oi, ops[i]? = some oi → kind oi = 1 → D i = true) :
    ∃ m, m0 ≤ m ∧ m ≤ ops.size ∧ (∀ i oi, ops[i]? = some oi → kind oi = 2 → (D i = true ↔ i < m)) ∧ ob = (O m).ob := by
  rcases hm with ⟨h2, h3, h4⟩ | ⟨_, h⟩
  · refine ⟨m0, Nat.le_refl _, hd.le, fun i oi hi hk => ?_, ?_⟩
    · rw [h2 i oi hi hk]
      have := hd.k2 i oi hi hk
      constructor
      · intro h; cases h
      · intro h; omega
    · have hh : ∀ k, ob.has k = true ↔ (O m0).has k = true := by
        intro k
        rw [h3 k]
        constructor
        · rintro (h | ⟨j, hj, _, h, _⟩)
          · exact (ht.mono hd (Nat.zero_le _) (Nat.le_refl _) h).1
          · exact (ht.mono hd (by omega : j + 1 ≤ m0) (Nat.le_refl _) h).1
        · intro h
          rcases ht.born hd m0 (Nat.le_refl _) h with h | ⟨j, hj, ha, hb⟩
          · exact .inl h
          · refine .inr ⟨j, hj, ?_, ha, hb⟩
            have hlt : j < ops.size := by have := hd.le; omega
            have hx : ops[j]? = some ops[j] := by simp [hlt]
            rcases kind_le ops[j] with h0 | h5 | h5
            · rw [ht.same hx h0, hb] at ha; cases ha
            · exact h1 _ _ hx h5
            · have := hd.k2 _ _ hx h5; omega
      refine Ob_ext (fun k i => ?_) (fun k => ?_)
      · cases hk : ob.has k with
        | true => exact h4 k hk i
        | false =>
          have e1 : ob.at_ k i = none := by
            apply Classical.byContradiction
            intro hne
            rw [hob k i hne] at hk; cases hk
          have e2 : (O m0).at_ k i = none := by
            apply Classical.byContradiction
            intro hne
            have := (hh k).2 (OL.has_of_at hne)
            rw [this] at hk; cases hk
          rw [e1]
          exact e2.symm
      · have := hh k
        show ob.has k = (O m0).has k
        cases hx : ob.has k
        · rw [hx] at this
          cases hy : (O m0).has k
          · rfl
          · exact absurd (this.2 hy) (by simp)
        · exact (this.1 hx).symm
  · exact h
theorem mem_rdy {listed : Array Bool} {i : Nat} (h : i ∈ Region.ready .any ops listed) :
    ∃ oi, ops[i]? = some oi ∧ listed.getD i true = false ∧ ∀ e ∈ oi.after, Region.binds .any e = true → Dl listed e.on = true := by
  simp only [Region.ready, List.mem_filter, List.mem_range, Bool.and_eq_true, Bool.not_eq_true'] at h
  obtain ⟨hlt, h1, h2⟩ := h
  have hx : ops[i]? = some ops[i] := by simp [hlt]
  rw [hx] at h2
  simp only [Option.map_some, Option.getD_some, Array.all_eq_true_iff_forall_mem] at h2
  refine ⟨_, hx, h1, fun e he hb => ?_⟩
  have := h2 e he
  simpa [hb, Dl] using this
theorem rdy_nil (hd : DrawOk ops U m0) {listed : Array Bool} (hs : listed.size = ops.size) (h : Region.ready .any ops listed = []) : ∀ i, i < ops.size → Dl listed i = true := by
  intro i
  induction i using Nat.strongRecOn with
  | _ i ih =>
    intro hi
    apply Classical.byContradiction
    intro hn
    have hx : ops[i]? = some ops[i] := by simp [hi]
    have : i ∈ Region.ready .any ops listed := by
      simp only [Region.ready, List.mem_filter, List.mem_range, Bool.and_eq_true, Bool.not_eq_true']
      refine ⟨hi, ?_, ?_⟩
      · have : Dl listed i = false := by simpa using hn
        simp only [Dl, Array.getD_eq_getD_getElem?] at this ⊢
        have hl : i < listed.size := hs ▸ hi
        simp only [hl, Array.getElem?_eq_getElem, Option.getD_some] at this ⊢
        exact this
      · rw [hx]
        simp only [Option.map_some, Option.getD_some, Array.all_eq_true_iff_forall_mem]
        intro e he
        cases hb : Region.binds .any e
        · rfl
        · have hlt := hd.back i _ hx e he hb
          have := ih e.on hlt (by omega)
          simp only [Dl] at this
          simp [this]
    rw [h] at this
    cases this
theorem Mem.zero (ht : Tr P T ops env V O) {D D' : Nat → Bool} {i : Nat} {oi : Oper} (hi : ops[i]? = some oi) (h0 : kind oi ≠ 2) (hDi : D i = false)
    (hD' : ∀ j, D' j = if j = i then true else D j) (hsame : O (i + 1) = O i) {ob : Ob} (hm : Mem ops m0 O D ob) : Mem ops m0 O D' ob := by
  rcases hm with ⟨h2, h3, h4⟩ | ⟨h1, m, q1, q2, q3, q4⟩
  · refine .inl ⟨fun j oj hj hk => ?_, fun k => ?_, h4⟩
    · rw [hD' j]
      by_cases hji : j = i
      · subst hji; rw [hi] at hj; cases hj; exact absurd hk h0
      · rw [if_neg hji]; exact h2 j oj hj hk
    · rw [h3 k]
      constructor
      · rintro (h | ⟨j, ha, hb, hc⟩)
        · exact .inl h
        · exact .inr ⟨j, ha, by rw [hD' j]; split <;> simp_all, hc⟩
      · rintro (h | ⟨j, ha, hb, hc, hd⟩)
        · exact .inl h
        · by_cases hji : j = i
          · subst hji; rw [hsame, hd] at hc; cases hc
          · rw [hD' j, if_neg hji] at hb
            exact .inr ⟨j, ha, hb, hc, hd⟩
  · refine .inr ⟨fun j oj hj hk => ?_, m, q1, q2, fun j oj hj hk => ?_, q4⟩
    · rw [hD' j]; split
      · rfl
      · exact h1 j oj hj hk
    · by_cases hji : j = i
      · subst hji; rw [hi] at hj; cases hj; exact absurd hk h0
      · rw [hD' j, if_neg hji]; exact q3 j oj hj hk
theorem Mem.one (ht : Tr P T ops env V O) (hd : DrawOk ops U m0) {D D' : Nat → Bool} {i : Nat} {oi : Oper} (hi : ops[i]? = some oi) (h1 : kind oi = 1) (hDi : D i = false)
    (hD' : ∀ j, D' j = if j = i then true else D j) {A : OL} (hA : O (i + 1) = A ++ O i) (hf : ∀ k, A.has k = true → (O i).has k = false) {ob : Ob} (hm : Mem ops m0 O D ob) :
    (∀ k, ob.has k = true → (O i).ob.has k = true → ∀ j, ob.at_ k j = (O i).ob.at_ k j) ∧ (∀ k, A.has k = true → ob.has k = false) ∧ Mem ops m0 O D' (A.ob.ext ob) := by
  have him := hd.k1 i oi hi h1
  rcases hm with ⟨h2, h3, h4⟩ | ⟨h5, _⟩
  · refine ⟨fun k hk hk2 j => ?_, fun k hk => ?_, .inl ⟨fun j oj hj hk => ?_, fun k => ?_, fun k hk j => ?_⟩⟩
    · rw [h4 k hk j]
      exact (ht.mono hd (Nat.le_of_lt him) (Nat.le_refl _) hk2).2 j
    · have hn := hf k hk
      apply Classical.byContradiction
      intro hh
      have hh : ob.has k = true := by simpa using hh
      rcases (h3 k).1 hh with h | ⟨j, ha, hb, hc, hdd⟩
      · have := (ht.mono hd (Nat.zero_le i) (Nat.le_of_lt him) h).1
        rw [hn] at this; cases this
      · by_cases hji : j < i
        · have := (ht.mono hd (by omega : j + 1 ≤ i) (Nat.le_of_lt him) hc).1
          rw [hn] at this; cases this
        · by_cases hij : j = i
          · subst hij; rw [hDi] at hb; cases hb
          · have : (O (i + 1)).has k = true := by rw [hA, OL.has_append, hk]; rfl
            have := (ht.mono hd (by omega : i + 1 ≤ j) (Nat.le_of_lt ha) this).1
            rw [hdd] at this; cases this
    · rw [hD' j]
      by_cases hji : j = i
      · subst hji; rw [hi] at hj; cases hj; rw [h1] at hk; cases hk
      · rw [if_neg hji]; exact h2 j oj hj hk
    · have e : (A.ob.ext ob).has k = (A.has k || ob.has k) := rfl
      rw [e, Bool.or_eq_true, h3 k]
      constructor
      · rintro (h | h | ⟨j, ha, hb, hc⟩)
        · exact .inr ⟨i, him, by rw [hD' i, if_pos rfl], by rw [hA, OL.has_append, h]; rfl, hf k h⟩
        · exact .inl h
        · exact .inr ⟨j, ha, by rw [hD' j]; split <;> simp_all, hc⟩
      · rintro (h | ⟨j, ha, hb, hc, hdd⟩)
        · exact .inr (.inl h)
        · by_cases hji : j = i
          · subst hji
            rw [hA, OL.has_append, hdd] at hc
            exact .inl (by simpa using hc)
          · rw [hD' j, if_neg hji] at hb
            exact .inr (.inr ⟨j, ha, hb, hc, hdd⟩)
    · have e : (A.ob.ext ob).at_ k j = if A.has k = true then A.at_ k j else ob.at_ k j := rfl
      rw [e]
      split
      · rename_i hAk
        have hx : (O (i + 1)).has k = true := by rw [hA, OL.has_append, hAk]; rfl
        rw [(ht.mono hd (by omega : i + 1 ≤ m0) (Nat.le_refl _) hx).2 j, hA, OL.at_append, if_pos hAk]
      · rename_i hAk
        refine h4 k ?_ j
        have : (A.has k || ob.has k) = true := hk
        simpa [hAk] using this
  · have := h5 i oi hi h1
    rw [hDi] at this; cases this
theorem Mem.two (ht : Tr P T ops env V O) (hd : DrawOk ops U m0) {D D' : Nat → Bool} {i : Nat} {oi : Oper} (hi : ops[i]? = some oi) (h2 : kind oi = 2) (hDi : D i = false)
    (hD' : ∀ j, D' j = if j = i then true else D j) (hU : ∀ j, j < ops.size → U i j = true → D j = true) {ob : Ob} (hob : ∀ k i, ob.at_ k i ≠ none → ob.has k = true) (hm : Mem ops m0 O D ob) :
    ob = (O i).ob ∧ Mem ops m0 O D' (O (i + 1)).ob := by
  have lt : ∀ {i : Nat} {oi : Oper}, ops[i]? = some oi → i < ops.size := fun hi => (Array.getElem?_eq_some_iff.1 hi).1
  have h1 : ∀ j oj, ops[j]? = some oj → kind oj = 1 → D j = true := fun j oj hj hk => hU j (lt hj) (hd.act1 i oi j oj hi hj h2 hk)
  obtain ⟨m, q1, q2, q3, q4⟩ := hm.turn ht hd hob h1
  have hmi : m ≤ i := by
    apply Nat.le_of_not_lt
    intro h
    have := (q3 i oi hi h2).2 h
    rw [hDi] at this; cases this
  have hst : O i = O m := by
    have := ht.still hd q1 (i - m) (by have := lt hi; omega) (fun j oj hj ha hb hk => by
      have hu := hd.act2 i oi j oj hi hj h2 hk (by omega)
      have := (q3 j oj hj hk).1 (hU j (lt hj) hu)
      omega)
    rwa [show m + (i - m) = i from by omega] at this
  refine ⟨by rw [q4, hst], .inr ⟨fun j oj hj hk => ?_, i + 1, by omega, by have := lt hi; omega, fun j oj hj hk => ?_, rfl⟩⟩
  · rw [hD' j]; split
    · rfl
    · exact h1 j oj hj hk
  · rw [hD' j]
    by_cases hji : j = i
    · subst hji; simp
    · rw [if_neg hji]
      constructor
      · intro h
        have := (q3 j oj hj hk).1 h
        omega
      · intro h
        exact hU j (lt hj) (hd.act2 i oi j oj hi hj h2 hk (by omega))
theorem Mem.all (ht : Tr P T ops env V O) (hd : DrawOk ops U m0) {D : Nat → Bool} {ob : Ob} (hob : ∀ k i, ob.at_ k i ≠ none → ob.has k = true) (hm : Mem ops m0 O D ob) (hall : ∀ i, i < ops.size → D i = true) : ob = (O ops.size).ob := by
  have lt : ∀ {i : Nat} {oi : Oper}, ops[i]? = some oi → i < ops.size := fun hi => (Array.getElem?_eq_some_iff.1 hi).1
  obtain ⟨m, q1, q2, q3, q4⟩ := hm.turn ht hd hob (fun j oj hj _ => hall j (lt hj))
  have := ht.still hd q1 (ops.size - m) (by omega) (fun j oj hj ha hb hk => by
    have := (q3 j oj hj hk).1 (hall j (lt hj))
    omega)
  rw [show m + (ops.size - m) = ops.size from by omega] at this
  rw [q4, this]
structure Inv (P : Program) (T : TT) (ops : Array Oper) (m0 N : Nat) (env : Env) (V : Nat → AV) (O : Nat → OL) (X : Cx) (G : Gh → Ob → World → Prop) (listed : Array Bool) (a : Act) (w : World) : Prop where
  sz : listed.size = ops.size
  cl : ∀ i oi, ops[i]? = some oi → Dl listed i = true → ∀ e ∈ oi.after, Region.binds .any e = true → Dl listed e.on = true
  pic : ∃ κ ob, Rel X κ ob w ∧ (∀ t, VR (KK X κ ob w) (get (envOf V (Dl listed) 0 ops.toList env) t) (a.tmps.getD t undef)) ∧ Mem ops m0 O (Dl listed) ob ∧ G κ ob w
  size : a.tmps.size = N
  defers : a.defers = []
theorem listed_set {listed : Array Bool} {i : Nat} (hi : i < listed.size) (j : Nat) : Dl (listed.setIfInBounds i true) j = if j = i then true else Dl listed j := by
  simp only [Dl, Array.getD_eq_getD_getElem?]
  by_cases h : j = i
  · subst h; simp [hi]
  · rw [if_neg h, Array.getElem?_setIfInBounds_ne (Ne.symm h)]
theorem looks_dst {o : Oper} {t : Nat} (h : Operand.tmp t ∈ o.op.operands.toList) : t ∈ o.looksAt ops :=
  List.mem_append_left _ (List.mem_filterMap.2 ⟨.tmp t, h, rfl⟩)
theorem looks_guard {o : Oper} {j d : Nat} {b : Bool} (hg : o.guard = some (j, b)) (hd : (ops[j]?).bind (·.dst) = some d) : d ∈ o.looksAt ops := by
  refine List.mem_append_right _ ?_
  rw [hg]
  simp only
  rw [hd]
  simp
theorem draw_step {G : Gh → Ob → World → Prop} {X : Cx} (hG : ∀ κ ob w κ' ob' w', G κ ob w → Le (KK X κ ob w) (KK X κ' ob' w') → G κ' ob' w') (hd : DrawOk ops U m0) (ht : Tr P T ops env V O) {N : Nat} (hdst : dstOk N ops.toList = true) (hP : X.P = P) (hTT : X.T = T) {listed : Array Bool} {a : Act} {w : World}
    (h : Inv P T ops m0 N env V O X G listed a w) {i : Nat} (hi : i ∈ Region.ready .any ops listed) {Q : Exit → Act → World → Prop} {K : Act → World → Prop}
    (hK : ∀ a' w', Inv P T ops m0 N env V O X G (listed.setIfInBounds i true) a' w' → K a' w') : wpOp P ops Q i K a w := by
  obtain ⟨oi, hx, hli, hre⟩ := mem_rdy hi
  have lt : ∀ {i : Nat} {oi : Oper}, ops[i]? = some oi → i < ops.size := fun hi => (Array.getElem?_eq_some_iff.1 hi).1
  have hin := lt hx
  have hinl : i < listed.size := h.sz ▸ hin
  have hDi : Dl listed i = false := by
    simp only [Dl, Array.getD_eq_getD_getElem?, hinl, Array.getElem?_eq_getElem, Option.getD_some] at hli ⊢
    exact hli
  have hD' := listed_set (listed := listed) hinl
  have hU : ∀ j, j < ops.size → U i j = true → Dl listed j = true := fun j hj hu => down hd h.cl i oi j hx hj hu hre
  have hUn : ∀ k ok, ops[k]? = some ok → U k i = true → Dl listed k = false := fun k ok hk hu => by
    apply Classical.byContradiction
    intro hn
    have hn : Dl listed k = true := by simpa using hn
    have := down hd h.cl k ok i hk hin hu (h.cl k ok hk hn)
    rw [hDi] at this; cases this
  obtain ⟨κ, ob, hR, hE, hM, hg0⟩ := h.pic
  have hob : ∀ k i, ob.at_ k i ≠ none → ob.has k = true := hR.has
  have hag : ∀ t, t ∈ oi.looksAt ops → get (envOf V (Dl listed) 0 ops.toList env) t = get (envOf V (fun j => decide (j < i)) 0 ops.toList env) t := by
    intro t htl
    refine envOf_agree V _ _ t _ 0 env env rfl (fun k o hk ho => ?_)
    rw [Array.getElem?_toList] at hk
    rw [Nat.zero_add]
    rcases Nat.lt_trichotomy k i with hki | hki | hki
    · rw [decide_eq_true hki]
      rcases hd.ap i oi k o hx hk hki with hap | hu
      · exact absurd htl ((Oper.apart_spec hap).1 t ho)
      · exact hU k (lt hk) hu
    · subst hki
      rw [hDi]; simp
    · rw [decide_eq_false (by omega)]
      rcases hd.ap k o i oi hk hx hki with hap | hu
      · exact absurd htl ((Oper.apart_spec hap).2.2 t ho)
      · exact hUn k o hk hu
  have hput : ∀ t, get (envOf V (Dl (listed.setIfInBounds i true)) 0 ops.toList env) t = if oi.dst = some t then V i else get (envOf V (Dl listed) 0 ops.toList env) t := by
    intro t
    by_cases hdt : oi.dst = some t
    · rw [if_pos hdt, envOf_last V _ t ops.toList 0 i oi env (by rw [Array.getElem?_toList]; exact hx) hdt (by rw [Nat.zero_add, hD', if_pos rfl]) (fun k o hk hk2 ho => ?_), Nat.zero_add]
      rw [Array.getElem?_toList] at hk2
      rw [Nat.zero_add, hD', if_neg (by omega)]
      rcases hd.ap k o i oi hk2 hx hk with hap | hu
      · exact absurd ho ((Oper.apart_spec hap).2.1 t hdt)
      · exact hUn k o hk2 hu
    · rw [if_neg hdt]
      refine envOf_agree V _ _ t _ 0 env env rfl (fun k o hk ho => ?_)
      rw [Array.getElem?_toList] at hk
      rw [Nat.zero_add, hD', if_neg (fun e => by subst e; rw [hx] at hk; cases hk; exact hdt ho)]
  have hdstN : ∀ t, oi.dst = some t → t < a.tmps.size := fun t hdt => by
    simp only [dstOk, List.all_eq_true] at hdst
    have := hdst oi (by simpa using Array.mem_of_getElem? hx)
    rw [hdt] at this
    rw [h.size]; simpa [Nat.blt_eq] using this
  have hcl' : ∀ j oj, ops[j]? = some oj → Dl (listed.setIfInBounds i true) j = true → ∀ e ∈ oj.after, Region.binds .any e = true → Dl (listed.setIfInBounds i true) e.on = true := by
    intro j oj hj hDj e he hb
    rw [hD'] at hDj ⊢
    split
    · rfl
    · by_cases hji : j = i
      · subst hji; rw [hx] at hj; cases hj; exact hre e he hb
      · rw [if_neg hji] at hDj; exact h.cl j oj hj hDj e he hb
  have next : ∀ (c : Value) (w' : World) (κ' : Gh) (ob' : Ob), Rel X κ' ob' w' → VR (KK X κ' ob' w') (V i) c → Le (KK X κ ob w) (KK X κ' ob' w') → Mem ops m0 O (Dl (listed.setIfInBounds i true)) ob' → K (a.put oi.dst c) w' := by
    intro c w' κ' ob' hR' hv hle hM'
    refine hK _ _ ⟨by simp [h.sz], hcl', ⟨κ', ob', hR', fun t => ?_, hM', hG _ _ _ _ _ _ hg0 hle⟩, by rw [Act.put_size]; exact h.size, by rw [Am.Act.put_defers]; exact h.defers⟩
    rw [hput t]
    by_cases hdt : oi.dst = some t
    · rw [if_pos hdt, hdt]
      have : (a.put (some t) c).tmps.getD t undef = c := by simp [Act.put, hdstN t hdt]
      rw [this]; exact hv
    · rw [if_neg hdt]
      have : (a.put oi.dst c).tmps.getD t undef = a.tmps.getD t undef := by
        cases hq : oi.dst with
        | none => rfl
        | some d =>
          have hne : d ≠ t := fun e => hdt (by rw [hq, e])
          simp [Act.put, Array.getElem?_setIfInBounds_ne hne]
      rw [this]; exact VR_mono hle (hE t)
  have hops : ∀ x ∈ oi.op.operands.toList, VR (KK X κ ob w) (evE (envOf V (fun j => decide (j < i)) 0 ops.toList env) x) (a.eval x) := by
    intro x hxo
    cases x with
    | tmp t => have := hE t; rw [hag t (looks_dst hxo)] at this; exact this
    | const v => exact constAV_ok _ v
    | global g => trivial
    | func g => exact ⟨#[], rfl, rfl, fun i hi => by omega⟩
  have want : ∀ b, gd ops oi (envOf V (fun j => decide (j < i)) 0 ops.toList env) = some b → Region.wanted oi (yielded ops a.tmps) = b := by
    intro b hb
    unfold gd at hb
    split at hb
    · rename_i hg
      cases hb
      simp [Region.wanted, hg]
    · rename_i j wnt hg
      split at hb
      · rename_i d hdd
        split at hb
        · rename_i b' hb'
          cases hb
          rw [← hag d (looks_guard hg hdd)] at hb'
          have hy := yielded_of hdd hE hb' (dst_lt_of_eq hE hb')
          simp [Region.wanted, hg, hy]
        · rename_i hb'
          cases hb
          rw [← hag d (looks_guard hg hdd)] at hb'
          have hy := yielded_none hdd hE hb'
          simp [Region.wanted, hg, hy]
        · cases hb
      · cases hb
  have hsz : ∀ r, Oper.upon X.P oi a K Q r → Oper.upon P oi a K Q r := fun r hr => by rw [← hP]; exact hr
  unfold wpOp
  rw [hx]
  simp only
  have hst := ht.step i oi hx
  rcases hst with ⟨hg, hv, hs⟩ | ⟨hg, hst⟩
  · rw [if_neg (by rw [want _ hg]; simp)]
    have hvu : VR (KK X κ ob w) (V i) undef := by rw [hv]; exact undA_ok _
    rcases kind_le oi with h0 | h1 | h2
    · exact next undef w κ ob hR hvu (Le.refl _) (hM.zero ht hx (by omega) hDi hD' hs)
    · exact next undef w κ ob hR hvu (Le.refl _) (hM.zero ht hx (by omega) hDi hD' hs)
    · obtain ⟨e1, e2⟩ := hM.two ht hd hx h2 hDi hD' hU hob
      rw [hs, ← e1] at e2
      exact next undef w κ ob hR hvu (Le.refl _) e2
  · rw [if_pos (want _ hg)]
    refine .inl ?_
    unfold Oper.wp
    rw [← hP]
    rcases hst with ⟨h0, hs, hj⟩ | ⟨h1, A, hs, hj, hf⟩ | ⟨h2, hj⟩
    · have := (PassJ.of_pure hj ob) X κ ob w a.eval hP hTT hR (fun _ _ _ _ => rfl) (fun k hk => by cases hk) hops
      rw [Ob.ext_nil, ← hP] at this
      exact upon_of_Out this (fun c w' κ' hR' hv hle => next c w' κ' ob hR' hv hle (hM.zero ht hx (by omega) hDi hD' hs))
    · obtain ⟨e1, e2, e3⟩ := hM.one ht hd hx h1 hDi hD' hs hf
      have := hj X κ ob w a.eval hP hTT (fun _ => rfl) hR e1 e2 hops
      rw [← hP] at this
      exact upon_of_Out this (fun c w' κ' hR' hv hle => next c w' κ' _ hR' hv hle e3)
    · obtain ⟨e1, e2⟩ := hM.two ht hd hx h2 hDi hD' hU hob
      subst e1
      have := hj X κ w a.eval hP hTT hR hops
      rw [← hP] at this
      exact upon_of_Out this (fun c w' κ' hR' hv hle => next c w' κ' _ hR' hv hle e2)
def left (ops : Array Oper) (listed : Array Bool) : Nat := ((List.range ops.size).filter fun i => !Dl listed i).length
theorem left_lt {listed : Array Bool} {i : Nat} (hi : i < ops.size) (hl : i < listed.size) (hD : Dl listed i = false) : left ops (listed.setIfInBounds i true) < left ops listed := by
  unfold left
  have : (List.range ops.size).filter (fun j => !Dl (listed.setIfInBounds i true) j) = ((List.range ops.size).filter (fun j => !Dl listed j)).filter (fun j => !(j == i)) := by
    rw [List.filter_filter]
    congr 1
    funext j
    rw [listed_set hl j]
    by_cases h : j = i
    · simp [h]
    · simp [h]
  rw [this]
  exact List.length_filter_lt_length_iff_exists.2 ⟨i, by simp [hi, hD], by simp⟩
theorem draw_any {G : Gh → Ob → World → Prop} {X : Cx} (hG : ∀ κ ob w κ' ob' w', G κ ob w → Le (KK X κ ob w) (KK X κ' ob' w') → G κ' ob' w') (hd : DrawOk ops U m0) (ht : Tr P T ops env V O) {N : Nat} (hdst : dstOk N ops.toList = true) (hP : X.P = P) (hTT : X.T = T) {QF : Exit → Act → World → Prop}
    (hK : ∀ κ a w, Rel X κ (O ops.size).ob w → EnvR (KK X κ (O ops.size).ob w) (envOf V (fun _ => true) 0 ops.toList env) a.tmps → a.tmps.size = N → a.defers = [] → G κ (O ops.size).ob w → QF .normal a w) :
    ∀ (fuel : Nat) (listed : Array Bool) (a : Act) (w : World), left ops listed ≤ fuel → Inv P T ops m0 N env V O X G listed a w → wpAny P .any ops QF fuel listed a w := by
  have fin : ∀ (listed : Array Bool) (a : Act) (w : World), Inv P T ops m0 N env V O X G listed a w → (∀ i, i < ops.size → Dl listed i = true) → QF .normal a w := by
    intro listed a w h hall
    obtain ⟨κ, ob, hR, hE, hM, hg0⟩ := h.pic
    have e := hM.all ht hd hR.has hall
    subst e
    refine hK κ a w hR (fun t => ?_) h.size h.defers hg0
    have := hE t
    rwa [envOf_agree V (Dl listed) (fun _ => true) t _ 0 env env rfl (fun k o hk _ => by
      rw [Array.getElem?_toList] at hk
      rw [Nat.zero_add, hall k (Array.getElem?_eq_some_iff.1 hk).1])] at this
  intro fuel
  induction fuel with
  | zero =>
    intro listed a w hl h
    have hall : ∀ i, i < ops.size → Dl listed i = true := by
      intro i hi
      apply Classical.byContradiction
      intro hn
      have hn : Dl listed i = false := by simpa using hn
      have : i ∈ (List.range ops.size).filter fun i => !Dl listed i := by simp [hi, hn]
      have := List.length_pos_of_mem this
      unfold left at hl
      omega
    refine ⟨?_, fin listed a w h hall⟩
    apply Classical.byContradiction
    intro hne
    obtain ⟨i, hi⟩ := List.exists_mem_of_ne_nil _ hne
    obtain ⟨oi, hx, hli, _⟩ := mem_rdy hi
    have hin := (Array.getElem?_eq_some_iff.1 hx).1
    have hh := hall i hin
    have hl2 : i < listed.size := h.sz ▸ hin
    simp only [Dl, Array.getD_eq_getD_getElem?, hl2, Array.getElem?_eq_getElem, Option.getD_some] at hli hh
    rw [hh] at hli; cases hli
  | succ fuel ih =>
    intro listed a w hl h
    refine ⟨fun hr => fin listed a w h (rdy_nil hd h.sz hr), fun i hi => ?_⟩
    obtain ⟨oi, hx, hli, _⟩ := mem_rdy hi
    have hin := (Array.getElem?_eq_some_iff.1 hx).1
    have hl2 : i < listed.size := h.sz ▸ hin
    have hDi : Dl listed i = false := by
      simp only [Dl, Array.getD_eq_getD_getElem?, hl2, Array.getElem?_eq_getElem, Option.getD_some] at hli ⊢
      exact hli
    have := left_lt hin hl2 hDi
    exact draw_step hG hd ht hdst hP hTT h hi (fun a' w' h' => ih _ a' w' (by omega) h')
theorem snd_draw (hT : TOk P T) (hm : P.follows .mixedOrders = true) {N id : Nat} {ol : OL} {Q : Exit → Env → OL → Prop} (hd : drawOk ops = true) (hdst : dstOk N ops.toList = true)
    (h : WOps P T ops ops.toList env ol (fun env' ol' => Q .normal env' ol')) : Snd P T N (.region id ops true) env ol Q := by
  intro X κ a w hP hTT hR hE hN hD
  obtain ⟨V, O, hO, hst, hK⟩ := WOps_trace hT ops ops.toList env ol _ h
  have hd := chkD_ok hd
  have ht : Tr P T ops env V O := ⟨fun k o hk => hst k o (by rw [Array.getElem?_toList]; exact hk)⟩
  have hDl : ∀ j, Dl (Array.replicate ops.size false) j = false := fun j => by
    simp only [Dl, Array.getD_eq_getD_getElem?, Array.getElem?_replicate]
    split <;> rfl
  refine wp_region_any hm (draw_any (X := X) (G := fun _ _ _ => True) (fun _ _ _ _ _ _ _ _ => trivial) hd ht hdst hP hTT (fun κ2 a2 w2 r1 r2 r3 r4 _ => ⟨κ2, _, _, (by rw [Array.length_toList] at hK; exact hK), r1, r2, r3, r4⟩) _ _ a _ ?_ ⟨by simp, fun i oi _ hi => (by rw [hDl] at hi; cases hi), ⟨κ, ol.ob, hR.drew, fun t => ?_, .inl ⟨fun i _ _ _ => hDl i, fun k => ?_, fun k hk i => ?_⟩, trivial⟩, hN, hD⟩)
  · unfold left
    exact Nat.le_trans (List.length_filter_le _ _) (by simp)
  · have e : Dl (Array.replicate ops.size false) = fun _ => false := funext hDl
    rw [e, envOf_none]
    exact hE t
  · rw [hO]
    constructor
    · exact fun h => .inl h
    · rintro (h | ⟨j, _, hj, _⟩)
      · exact h
      · rw [hDl] at hj; cases hj
  · rw [← hO] at hk ⊢
    exact ((ht.mono hd (Nat.zero_le _) (Nat.le_refl _) hk).2 i).symm
end
end Go.Am

namespace Go.Am
def zm : AV → List Value → Bool
  | .any, cs => (match cs with | [c] => c.oneCell' | _ => false)
  | .int k n, cs => (match cs with | [.int k' n'] => decide (k' = k) && decide (n' = n) | _ => false)
  | .bool b, cs => (match cs with | [.bool b'] => b' == b | _ => false)
  | .strg s, cs => (match cs with | [.string s'] => decide (s' = s) | _ => false)
  | .nilsl, cs => (match cs with | [.slice none 0 0] => true | _ => false)
  | .arr n f, cs => Nat.beq cs.length (n * (f 0).size) && (List.range n).all fun i => zm (f i) ((cs.drop (i * (f 0).size)).take (f 0).size)
  | .sct n f, cs => Nat.beq cs.length (sumTo (fun i => (f i).size) n) && (List.range n).all fun i => zm (f i) ((cs.drop (sumTo (fun i => (f i).size) i)).take (f i).size)
  | _, _ => false
theorem flat_pieces (sz : Nat → Nat) (l : List Value) : ∀ n, flat (fun i => (l.drop (sumTo sz i)).take (sz i)) n = l.take (sumTo sz n)
  | 0 => by simp [flat, sumTo]
  | n + 1 => by
    simp only [flat, sumTo, flat_pieces sz l n]
    rw [List.take_add]
theorem zm_ok : ∀ {v : AV} {cs : List Value}, zm v cs = true → ∀ K, FL K v cs := by
  intro v
  induction v with
  | any =>
    intro cs h K
    simp only [zm] at h
    split at h
    · exact ⟨_, rfl, h⟩
    · cases h
  | int k n =>
    intro cs h K
    simp only [zm] at h
    split at h
    · simp only [Bool.and_eq_true, decide_eq_true_eq] at h
      obtain ⟨rfl, rfl⟩ := h
      rfl
    · cases h
  | bool b =>
    intro cs h K
    simp only [zm] at h
    split at h
    · have := eq_of_beq h; subst this; rfl
    · cases h
  | strg s =>
    intro cs h K
    simp only [zm] at h
    split at h
    · simp only [decide_eq_true_eq] at h; subst h; rfl
    · cases h
  | nilsl =>
    intro cs h K
    simp only [zm] at h
    split at h
    · rfl
    · cases h
  | arr n f ih =>
    intro cs h K
    simp only [zm, Bool.and_eq_true, List.all_eq_true, List.mem_range] at h
    obtain ⟨hl, h⟩ := h
    have hl := Nat.eq_of_beq_eq_true hl
    refine ⟨fun i => (cs.drop (sumTo (fun _ => (f 0).size) i)).take (f 0).size, ?_, fun i hi => ⟨?_, ?_⟩⟩
    · rw [flat_pieces (fun _ => (f 0).size) cs n, sumTo_const, ← hl, List.take_length]
    · simp only [sumTo_const]; exact ih i (h i hi) K
    · simp only [sumTo_const, List.length_take, List.length_drop, hl]
      have := Nat.mul_le_mul_right (f 0).size (show i + 1 ≤ n by omega)
      rw [Nat.add_mul] at this
      omega
  | sct n f ih =>
    intro cs h K
    simp only [zm, Bool.and_eq_true, List.all_eq_true, List.mem_range] at h
    obtain ⟨hl, h⟩ := h
    have hl := Nat.eq_of_beq_eq_true hl
    refine ⟨fun i => (cs.drop (sumTo (fun i => (f i).size) i)).take (f i).size, ?_, fun i hi => ih i (h i hi) K⟩
    rw [flat_pieces (fun i => (f i).size) cs n, ← hl, List.take_length]
  | _ => intro cs h; simp only [zm] at h; cases h
def zeroOf (und : TypeId → TD) : Nat → TypeId → AV
  | 0, _ => .any
  | d + 1, t => match und t with
    | .bool => .bool false
    | .int k => .int k 0
    | .str => .strg ByteArray.empty
    | .arr n e => .arr n (fun _ => zeroOf und d e)
    | .sct fs => .sct fs.length (fun i => zeroOf und d (fs.getD i (0, 0)).1)
    | .slc _ => .nilsl
    | _ => .any
theorem ssh_zeroOf (und : TypeId → TD) : ∀ (d : Nat) (t : TypeId), ssh (zeroOf und d t) (zeroOf und d t)
  | 0, _ => trivial
  | d + 1, t => by
    unfold zeroOf
    split <;> first | trivial | exact ⟨rfl, fun _ => ssh_zeroOf und d _⟩
abbrev Tab := List (TypeId × TD × Nat × Nat)
def look : Tab → TypeId → Option (TD × Nat × Nat)
  | [], _ => none
  | (t', x) :: r, t => bif Nat.beq t t' then some x else look r t
def undOf (tab : Tab) (t : TypeId) : TD := match look tab t with | some x => x.1 | none => .other
def mkT (tab : Tab) : TT where
  und := undOf tab
  sz t := match look tab t with | some x => x.2.1 | none => 1
  by_ t := match look tab t with | some x => x.2.2 | none => 1
  zero := zeroOf (undOf tab) 6
def udOk (P : Program) (t : TypeId) : TD → Bool
  | .other => true
  | .bool => (match P.underlying t with | some .bool => true | _ => false)
  | .int k => (match P.underlying t with | some (.int k') => decide (k' = k) | _ => false)
  | .str => (match P.underlying t with | some .string => true | _ => false)
  | .ptr e => (match P.underlying t with | some (.pointer e') => Nat.beq e' e | _ => false)
  | .arr n e => (match P.underlying t with | some (.array n' e') => Nat.beq n' n && Nat.beq e' e | _ => false)
  | .sct fs => (match P.underlying t with | some (.struct flds) => decide (flds.toList.map (fun f => (f.type, f.offset)) = fs) | _ => false)
  | .slc e => (match P.underlying t with | some (.slice e') => Nat.beq e' e | _ => false)
  | .fnc => (match P.underlying t with | some (.func _ _ _) => true | _ => false)
theorem udOk_ok {P : Program} {t : TypeId} {d : TD} (h : udOk P t d = true) : d.ok P t := by
  cases d <;> simp only [udOk] at h <;> simp only [TD.ok]
  all_goals (split at h <;> first | (cases h; done) | skip)
  · assumption
  · rename_i h1; simp only [decide_eq_true_eq] at h; rw [h1, h]
  · assumption
  · rename_i h1; rw [h1, Nat.eq_of_beq_eq_true h]
  · rename_i h1; simp only [Bool.and_eq_true] at h; rw [h1, Nat.eq_of_beq_eq_true h.1, Nat.eq_of_beq_eq_true h.2]
  · rename_i h1; simp only [decide_eq_true_eq] at h; exact ⟨_, h1, h⟩
  · rename_i h1; rw [h1, Nat.eq_of_beq_eq_true h]
  · rename_i h1; exact ⟨_, _, _, h1⟩
def isAggV : Value → Bool
  | .agg _ => true
  | _ => false
def infoOk (P : Program) (tab : Tab) (t : TypeId) : Bool :=
  match P.info? t with
  | some i => Nat.beq i.size ((mkT tab).sz t) && Nat.beq i.bytes ((mkT tab).by_ t) && (match i.zero with
    | some z => zm ((mkT tab).zero t) z.cells.toList && ((mkT tab).zero t).isAgg == ((mkT tab).und t).isAgg && (!((mkT tab).und t).isAgg || isAggV z)
    | none => false) && Nat.beq ((mkT tab).zero t).size ((mkT tab).sz t) && Nat.blt 0 ((mkT tab).sz t)
  | none => false
def oneOk (tab : Tab) (t : TypeId) : Bool := ((mkT tab).und t).isAgg || Nat.beq ((mkT tab).sz t) 1
def eqgOk (P : Program) (tab : Tab) (t : TypeId) : Bool := match (mkT tab).und t with
  | .arr _ e => (match (mkT tab).und e with
    | .int _ => !P.eqGuardType P.depth t
    | _ => true)
  | _ => true
def seqOk (P : Program) (tab : Tab) (t : TypeId) : Bool := match (mkT tab).und t with
  | .sct _ => !plainT (mkT tab) 6 t || (!P.stoodInHeld t && !P.eqGuardType P.depth t)
  | _ => true
def tabOk (P : Program) (tab : Tab) : Bool := tab.all fun e => udOk P e.1 (undOf tab e.1) && infoOk P tab e.1 && oneOk tab e.1 && eqgOk P tab e.1 && seqOk P tab e.1
theorem look_mem {tab : Tab} {t : TypeId} {x : TD × Nat × Nat} (h : look tab t = some x) : ∃ e ∈ tab, e.1 = t := by
  induction tab with
  | nil => cases h
  | cons p r ih =>
    obtain ⟨t', y⟩ := p
    simp only [look] at h
    cases hb : Nat.beq t t'
    · rw [hb] at h
      obtain ⟨e, he, h⟩ := ih h
      exact ⟨e, List.mem_cons_of_mem _ he, h⟩
    · exact ⟨(t', y), by simp, (Nat.eq_of_beq_eq_true hb).symm⟩
theorem tok {P : Program} {tab : Tab} (h : tabOk P tab = true) : TOk P (mkT tab) := by
  simp only [tabOk, List.all_eq_true, Bool.and_eq_true] at h
  have hm : ∀ t, undOf tab t ≠ .other → (((udOk P t (undOf tab t) = true ∧ infoOk P tab t = true) ∧ oneOk tab t = true) ∧ eqgOk P tab t = true) ∧ seqOk P tab t = true := by
    intro t ht
    unfold undOf at ht
    cases hl : look tab t with
    | none => rw [hl] at ht; exact absurd rfl ht
    | some x =>
      obtain ⟨e, he, rfl⟩ := look_mem hl
      exact h e he
  refine ⟨fun t fs h1 h2 => ?_, fun t => ?_, fun t hk ha => ?_, fun t n e k h1 h2 => ?_, fun t hk => ?_⟩
  · have := (hm t (fun e => by rw [show (mkT tab).und t = undOf tab t from rfl, e] at h1; cases h1)).2
    simp only [seqOk, h1, h2] at this
    simpa using this
  · show (undOf tab t).ok P t
    by_cases ht : undOf tab t = .other
    · rw [ht]; trivial
    · exact udOk_ok (hm t ht).1.1.1.1
  · have hk : (undOf tab t).known = true := hk
    have := (hm t (fun e => by rw [e] at hk; cases hk)).1.1.2
    have ha : ((mkT tab).und t).isAgg = false := ha
    simp only [oneOk, ha, Bool.false_or] at this
    exact Nat.eq_of_beq_eq_true this
  · have := (hm t (fun e => by rw [show (mkT tab).und t = undOf tab t from rfl, e] at h1; cases h1)).1.2
    simp only [eqgOk, h1, h2] at this
    simpa using this
  · have hk : (undOf tab t).known = true := hk
    have := (hm t (fun e => by rw [e] at hk; cases hk)).1.1.1.2
    unfold infoOk at this
    split at this
    · rename_i i hi
      simp only [Bool.and_eq_true] at this
      obtain ⟨⟨⟨⟨h1, h2⟩, h3⟩, h4⟩, h5⟩ := this
      split at h3
      · rename_i z hz
        simp only [Bool.and_eq_true] at h3
        obtain ⟨⟨q1, q2⟩, q3⟩ := h3
        refine ⟨i, z, hi, Nat.eq_of_beq_eq_true h1, Nat.eq_of_beq_eq_true h2, hz, fun K => zm_ok q1 K, eq_of_beq q2, fun ha => ?_, ssh_zeroOf _ _ _, Nat.eq_of_beq_eq_true h4, by simpa [Nat.blt_eq] using h5⟩
        rw [ha] at q3
        cases z <;> simp [isAggV] at q3
        exact ⟨_, rfl⟩
      · cases h3
    · cases this
end Go.Am

namespace Go.Am
section
variable {P : Program} {T : TT} {N : Nat} {env : Env} {ol : OL} {Q : Exit → Env → OL → Prop}
theorem sr (hT : TOk P T) {id : Nat} {ops : Array Oper} {y : Code} {env' : Env} {ol' : OL} (hd : dstOk N ops.toList = true)
    (h : ∀ R : Env → OL → Prop, R env' ol' → WOps P T ops ops.toList env ol R) (hy : Snd P T N y env' ol' Q) : Snd P T N (.seq (.region id ops false) y) env ol Q :=
  snd_seq (snd_region hT hd (h _ hy))
theorem sd (hT : TOk P T) (hm : P.follows .mixedOrders = true) {id : Nat} {ops : Array Oper} {y : Code} {env' : Env} {ol' : OL} (ho : drawOk ops = true) (hd : dstOk N ops.toList = true)
    (h : ∀ R : Env → OL → Prop, R env' ol' → WOps P T ops ops.toList env ol R) (hy : Snd P T N y env' ol' Q) : Snd P T N (.seq (.region id ops true) y) env ol Q :=
  snd_seq (snd_draw hT hm ho hd (h _ hy))
theorem lr (hT : TOk P T) {id : Nat} {ops : Array Oper} {env' : Env} {ol' : OL} (hd : dstOk N ops.toList = true)
    (h : ∀ R : Env → OL → Prop, R env' ol' → WOps P T ops ops.toList env ol R) (hy : Q .normal env' ol') : Snd P T N (.region id ops false) env ol Q :=
  snd_region hT hd (h _ hy)
theorem ld (hT : TOk P T) (hm : P.follows .mixedOrders = true) {id : Nat} {ops : Array Oper} {env' : Env} {ol' : OL} (ho : drawOk ops = true) (hd : dstOk N ops.toList = true)
    (h : ∀ R : Env → OL → Prop, R env' ol' → WOps P T ops ops.toList env ol R) (hy : Q .normal env' ol') : Snd P T N (.region id ops true) env ol Q :=
  snd_draw hT hm ho hd (h _ hy)
theorem CmpW_dec {p : Prop} [Decidable p] {K : AV → Prop} (h : K (.bool (decide p))) : CmpW p K :=
  ⟨fun hp => by rwa [decide_eq_true hp] at h, fun hp => by rwa [decide_eq_false hp] at h⟩
theorem sq {c : Code} {env2 : Env} {ol2 : OL} (he : env = env2) (ho : ol = ol2) (h : Snd P T N c env2 ol2 Q) : Snd P T N c env ol Q := by
  subst he; subst ho; exact h
inductive HV : AV → AV → Prop where
  | int (k n) : HV (.int k n) (.int k n)
  | bool (b) : HV (.bool b) (.bool b)
  | arr (n f) : HV (.arr n f) (.arr n f)
  | sct (n f) : HV (.sct n f) (.sct n f)
  | cptr (v) : HV (.cptr v) (.cptr v)
  | ptr (k i p o r) : HV (.ptr k i p o r) (.ptr k i p o r)
  | own (k i n e) : HV (.own k i n e) (.own k i n e)
  | ro (n f) : HV (.ro n f) (.ro n f)
  | nilsl : HV .nilsl .nilsl
  | strg (s) : HV (.strg s) (.strg s)
  | tup (n f) : HV (.tup n f) (.tup n f)
  | fn (g n c) : HV (.fn g n c) (.fn g n c)
  | any : HV .any .any
theorem HV.eq {a b : AV} (h : HV a b) : a = b := by cases h <;> rfl
variable {all : Array Oper} {r : List Oper} {R : Env → OL → Prop} {ty : TypeId} {pos : String} {af : Array Edge} {x y : Operand} {d : Nat} {u t : TypeId}
theorem w_move {v : AV} (h : HV (evE env x) v) (hr : WOps P T all r ((d, v) :: env) ol R) : WOps P T all (⟨some d, .move x, ty, pos, af, none⟩ :: r) env ol R := by
  have := h.eq; subst this; exact hr
theorem w_assign {v : AV} (h : HV (evE env x) v) (hr : WOps P T all r ((d, v) :: env) ol R) : WOps P T all (⟨some d, .assign x, ty, pos, af, none⟩ :: r) env ol R := by
  have := h.eq; subst this; exact hr
theorem w_add {k : IntKind} {a b c : Int} (hx : evE env x = .int k a) (hy : evE env y = .int k b) (hc : k.wrap (a + b) = c) (hr : WOps P T all r ((d, .int k c) :: env) ol R) : WOps P T all (⟨some d, .binOp .add t x y u, ty, pos, af, none⟩ :: r) env ol R := by
  subst hc
  simp only [WOps, WOp, PW, putE]
  rw [hx, hy]
  exact ⟨rfl, hr⟩
theorem w_sub {k : IntKind} {a b c : Int} (hx : evE env x = .int k a) (hy : evE env y = .int k b) (hc : k.wrap (a - b) = c) (hr : WOps P T all r ((d, .int k c) :: env) ol R) : WOps P T all (⟨some d, .binOp .sub t x y u, ty, pos, af, none⟩ :: r) env ol R := by
  subst hc
  simp only [WOps, WOp, PW, putE]
  rw [hx, hy]
  exact ⟨rfl, hr⟩
theorem w_mul {k : IntKind} {a b c : Int} (hx : evE env x = .int k a) (hy : evE env y = .int k b) (hc : k.wrap (a * b) = c) (hr : WOps P T all r ((d, .int k c) :: env) ol R) : WOps P T all (⟨some d, .binOp .mul t x y u, ty, pos, af, none⟩ :: r) env ol R := by
  subst hc
  simp only [WOps, WOp, PW, putE]
  rw [hx, hy]
  exact ⟨rfl, hr⟩
theorem w_quo {k : IntKind} {a b c : Int} (hx : evE env x = .int k a) (hy : evE env y = .int k b) (hb : b ≠ 0) (hc : k.wrap (a.tdiv b) = c) (hr : WOps P T all r ((d, .int k c) :: env) ol R) : WOps P T all (⟨some d, .binOp .quo t x y u, ty, pos, af, none⟩ :: r) env ol R := by
  subst hc
  simp only [WOps, WOp, PW, putE]
  rw [hx, hy]
  exact ⟨rfl, hb, hr⟩
theorem w_rem {k : IntKind} {a b : Int} (hx : evE env x = .int k a) (hy : evE env y = .int k b) (hb : b ≠ 0) (hr : WOps P T all r ((d, .int k (a.tmod b)) :: env) ol R) : WOps P T all (⟨some d, .binOp .rem t x y u, ty, pos, af, none⟩ :: r) env ol R := by
  simp only [WOps, WOp, PW, putE]
  rw [hx, hy]
  exact ⟨rfl, hb, hr⟩
theorem w_eql {k : IntKind} {a b : Int} (hx : evE env x = .int k a) (hy : evE env y = .int k b) (hr : WOps P T all r ((d, .bool (decide (a = b))) :: env) ol R) : WOps P T all (⟨some d, .binOp .eql t x y u, ty, pos, af, none⟩ :: r) env ol R := by
  simp only [WOps, WOp, PW, putE]
  rw [hx, hy]
  exact ⟨rfl, CmpW_dec hr⟩
theorem w_neq {k : IntKind} {a b : Int} (hx : evE env x = .int k a) (hy : evE env y = .int k b) (hr : WOps P T all r ((d, .bool (decide (a ≠ b))) :: env) ol R) : WOps P T all (⟨some d, .binOp .neq t x y u, ty, pos, af, none⟩ :: r) env ol R := by
  simp only [WOps, WOp, PW, putE]
  rw [hx, hy]
  exact ⟨rfl, CmpW_dec hr⟩
theorem w_lss {k : IntKind} {a b : Int} (hx : evE env x = .int k a) (hy : evE env y = .int k b) (hr : WOps P T all r ((d, .bool (decide (a < b))) :: env) ol R) : WOps P T all (⟨some d, .binOp .lss t x y u, ty, pos, af, none⟩ :: r) env ol R := by
  simp only [WOps, WOp, PW, putE]
  rw [hx, hy]
  exact ⟨rfl, CmpW_dec hr⟩
theorem w_leq {k : IntKind} {a b : Int} (hx : evE env x = .int k a) (hy : evE env y = .int k b) (hr : WOps P T all r ((d, .bool (decide (a ≤ b))) :: env) ol R) : WOps P T all (⟨some d, .binOp .leq t x y u, ty, pos, af, none⟩ :: r) env ol R := by
  simp only [WOps, WOp, PW, putE]
  rw [hx, hy]
  exact ⟨rfl, CmpW_dec hr⟩
theorem w_gtr {k : IntKind} {a b : Int} (hx : evE env x = .int k a) (hy : evE env y = .int k b) (hr : WOps P T all r ((d, .bool (decide (b < a))) :: env) ol R) : WOps P T all (⟨some d, .binOp .gtr t x y u, ty, pos, af, none⟩ :: r) env ol R := by
  simp only [WOps, WOp, PW, putE]
  rw [hx, hy]
  exact ⟨rfl, CmpW_dec hr⟩
theorem w_geq {k : IntKind} {a b : Int} (hx : evE env x = .int k a) (hy : evE env y = .int k b) (hr : WOps P T all r ((d, .bool (decide (b ≤ a))) :: env) ol R) : WOps P T all (⟨some d, .binOp .geq t x y u, ty, pos, af, none⟩ :: r) env ol R := by
  simp only [WOps, WOp, PW, putE]
  rw [hx, hy]
  exact ⟨rfl, CmpW_dec hr⟩
def eqN (n : Nat) (f g : Nat → Int) : Prop := ∀ i, i < n → f i = g i
noncomputable instance (n : Nat) (f g : Nat → Int) : Decidable (eqN n f g) := Classical.propDecidable _
theorem w_aneq {n e : Nat} {k : IntKind} {f g : Nat → Int} (hx : evE env x = .arr n (fun i => .int k (f i))) (hy : evE env y = .arr n (fun i => .int k (g i))) (ht : T.und t = .arr n e) (he : T.und e = .int k)
    (hr : WOps P T all r ((d, .bool (decide (¬ eqN n f g))) :: env) ol R) : WOps P T all (⟨some d, .binOp .neq t x y u, ty, pos, af, none⟩ :: r) env ol R := by
  simp only [WOps, WOp, PW, putE]
  rw [hx, hy]
  simp only [BW, ht, he]
  exact ⟨trivial, trivial, fun _ _ => rfl, fun _ _ => rfl, CmpW_dec (p := ¬ eqN n f g) hr⟩
theorem w_reqn {n e : Nat} {g : Nat → AV} (hx : evE env x = .ro n g) (hy : evE env y = .nilsl) (hn : n ≠ 0) (ht : T.und t = .slc e) (hr : WOps P T all r ((d, .bool false) :: env) ol R) : WOps P T all (⟨some d, .binOp .eql t x y u, ty, pos, af, none⟩ :: r) env ol R := by
  simp only [WOps, WOp, PW, putE]
  rw [hx, hy]
  simp only [BW, ht]
  exact ⟨hn, hr⟩
theorem w_not {b : Bool} (hx : evE env x = .bool b) (hr : WOps P T all r ((d, .bool (!b)) :: env) ol R) : WOps P T all (⟨some d, .unOp .not t x, ty, pos, af, none⟩ :: r) env ol R := by
  simp only [WOps, WOp, PW, putE]
  rw [hx]; exact hr
theorem w_neg {k : IntKind} {n c : Int} (hx : evE env x = .int k n) (hc : k.wrap (0 - n) = c) (hr : WOps P T all r ((d, .int k c) :: env) ol R) : WOps P T all (⟨some d, .unOp .neg t x, ty, pos, af, none⟩ :: r) env ol R := by
  subst hc
  simp only [WOps, WOp, PW, putE]
  rw [hx]; exact hr
theorem w_conv {k k0 k' : IntKind} {n c : Int} (hx : evE env x = .int k n) (ht : T.und t = .int k0) (hu : T.und u = .int k') (hc : k'.wrap n = c) (hr : WOps P T all r ((d, .int k' c) :: env) ol R) : WOps P T all (⟨some d, .convert t u x, ty, pos, af, none⟩ :: r) env ol R := by
  subst hc
  simp only [WOps, WOp, PW, putE]
  rw [hx]; simp only [ConvW, ht, hu]; exact hr
theorem w_nilc {v : AV} (hx : evE env x = .cptr v) (hr : WOps P T all r ((d, .cptr v) :: env) ol R) : WOps P T all (⟨some d, .nilCheck x, ty, pos, af, none⟩ :: r) env ol R := by
  simp only [WOps, WOp, PW, putE]
  rw [hx]; exact hr
theorem w_nilp {k i o : Nat} {p : List Nat} {v : AV} (hx : evE env x = .ptr k i p o v) (hr : WOps P T all r ((d, .ptr k i p o v) :: env) ol R) : WOps P T all (⟨some d, .nilCheck x, ty, pos, af, none⟩ :: r) env ol R := by
  simp only [WOps, WOp, PW, putE]
  rw [hx]; exact hr
theorem w_nilf {k i : Nat} {c : Nat → AV} (hx : evE env x = .fn k i c) (hr : WOps P T all r ((d, .fn k i c) :: env) ol R) : WOps P T all (⟨some d, .nilCheck x, ty, pos, af, none⟩ :: r) env ol R := by
  simp only [WOps, WOp, PW, putE]
  rw [hx]; exact hr
theorem w_fac {f n ft fo : Nat} {g : Nat → AV} {fs : List (TypeId × Nat)} {v : AV} (hx : evE env x = .cptr (.sct n g)) (ht : T.und t = .sct fs) (hf : fs[f]? = some (ft, fo)) (hk : (T.und ft).known = true) (hz : T.sz ft ≠ 0) (hn : f < n)
    (ho : sumTo (fun j => (g j).size) f = fo) (hv : HV (g f) v) (hr : WOps P T all r ((d, .cptr v) :: env) ol R) : WOps P T all (⟨some d, .fieldAddr t x f, ty, pos, af, none⟩ :: r) env ol R := by
  have := hv.eq; subst this
  simp only [WOps, WOp, PW, putE]
  rw [hx]; simp only [FieldAddrW, ht, hf]; exact ⟨hk, hz, hn, ho, hr⟩
theorem w_fap {f n ft fo : Nat} {k i o : Nat} {p : List Nat} {root : AV} {g : Nat → AV} {fs : List (TypeId × Nat)} (hx : evE env x = .ptr k i p o root) (ht : T.und t = .sct fs) (hf : fs[f]? = some (ft, fo)) (hk : (T.und ft).known = true) (hz : T.sz ft ≠ 0) (hs : sub root p = .sct n g) (hn : f < n)
    (ho : sumTo (fun j => (g j).size) f = fo) (hr : WOps P T all r ((d, .ptr k i (p ++ [f]) (o + fo) root) :: env) ol R) : WOps P T all (⟨some d, .fieldAddr t x f, ty, pos, af, none⟩ :: r) env ol R := by
  simp only [WOps, WOp, PW, putE]
  rw [hx]; simp only [FieldAddrW, ht, hf, hs]; exact ⟨hk, hz, hn, ho, hr⟩
theorem w_iac {n e : Nat} {k : IntKind} {j : Int} {g : Nat → AV} {v : AV} (hx : evE env x = .cptr (.arr n g)) (hj : evE env y = .int k j) (ht : T.und t = .arr n e) (hk : (T.und e).known = true) (hz : (g 0).size = T.sz e) (hb : 0 ≤ j ∧ j < (n : Int))
    (hv : g j.toNat = v) (hr : WOps P T all r ((d, .cptr v) :: env) ol R) : WOps P T all (⟨some d, .indexAddr t x y, ty, pos, af, none⟩ :: r) env ol R := by
  subst hv
  simp only [WOps, WOp, PW, putE]
  rw [hj, hx]; simp only [IndexAddrW, ht]; exact ⟨trivial, hk, hz, hb, hr⟩
theorem w_iap {n e : Nat} {k : IntKind} {j : Int} {q i o : Nat} {p : List Nat} {root : AV} {g : Nat → AV} (hx : evE env x = .ptr q i p o root) (hj : evE env y = .int k j) (ht : T.und t = .arr n e) (hk : (T.und e).known = true) (hs : sub root p = .arr n g) (hz : (g 0).size = T.sz e) (hz2 : (g j.toNat).size = (g 0).size) (hb : 0 ≤ j ∧ j < (n : Int))
    (hr : WOps P T all r ((d, .ptr q i (p ++ [j.toNat]) (o + j.toNat * T.sz e) root) :: env) ol R) : WOps P T all (⟨some d, .indexAddr t x y, ty, pos, af, none⟩ :: r) env ol R := by
  simp only [WOps, WOp, PW, putE]
  rw [hj, hx]; simp only [IndexAddrW, ht, hs]; exact ⟨trivial, hk, hz, hz2, hb, hr⟩
theorem w_iao {n e : Nat} {k : IntKind} {j : Int} {q i : Nat} (hx : evE env x = .own q i n e) (hj : evE env y = .int k j) (ht : T.und t = .slc e) (hk : (T.und e).known = true) (hb : 0 ≤ j ∧ j < (n : Int))
    (hr : WOps P T all r ((d, .ptr q i [j.toNat] (0 + j.toNat * T.sz e) (.arr n (fun _ => T.zero e))) :: env) ol R) : WOps P T all (⟨some d, .indexAddr t x y, ty, pos, af, none⟩ :: r) env ol R := by
  simp only [WOps, WOp, PW, putE]
  rw [hj, hx]; simp only [IndexAddrW, ht]; exact ⟨trivial, hk, hb, hr⟩
theorem w_iar {n e : Nat} {k : IntKind} {j : Int} {g : Nat → AV} {v : AV} (hx : evE env x = .ro n g) (hj : evE env y = .int k j) (ht : T.und t = .slc e) (hk : (T.und e).known = true) (hz : (g 0).size = T.sz e) (hb : 0 ≤ j ∧ j < (n : Int)) (hv : g j.toNat = v)
    (hr : WOps P T all r ((d, .cptr v) :: env) ol R) : WOps P T all (⟨some d, .indexAddr t x y, ty, pos, af, none⟩ :: r) env ol R := by
  subst hv
  simp only [WOps, WOp, PW, putE]
  rw [hj, hx]; simp only [IndexAddrW, ht]; exact ⟨hk, hz, hb, hr⟩
theorem w_ixa {n e : Nat} {k : IntKind} {j : Int} {g : Nat → AV} {v : AV} (hx : evE env x = .arr n g) (hj : evE env y = .int k j) (ht : T.und t = .arr n e) (hk : (T.und e).known = true) (hz : (g 0).size = T.sz e) (hb : 0 ≤ j ∧ j < (n : Int)) (hv : HV (g j.toNat) v) (ha : v.isAgg = (T.und e).isAgg)
    (hr : WOps P T all r ((d, v) :: env) ol R) : WOps P T all (⟨some d, .index t x y, ty, pos, af, none⟩ :: r) env ol R := by
  have := hv.eq; subst this
  simp only [WOps, WOp, PW, putE]
  rw [hj, hx]; simp only [IndexW, ht]; exact ⟨trivial, hk, hz, ha, hb, hr⟩
theorem w_ext {n i : Nat} {g : Nat → AV} {v : AV} (hx : evE env x = .tup n g) (hi : i < n) (hv : HV (g i) v) (hr : WOps P T all r ((d, v) :: env) ol R) : WOps P T all (⟨some d, .extract x i, ty, pos, af, none⟩ :: r) env ol R := by
  have := hv.eq; subst this
  simp only [WOps, WOp, PW, putE]
  rw [hx]; exact ⟨hi, hr⟩
theorem w_mkf {g : FuncId} {caps : Array Operand} {n : Nat} {c : Nat → AV} (hn : caps.size = n) (hc : (fun i => evE env (caps.toList.getD i (.const undef))) = c) (hr : WOps P T all r ((d, .fn g n c) :: env) ol R) : WOps P T all (⟨some d, .makeFunc (.func g) #[] caps, ty, pos, af, none⟩ :: r) env ol R := by
  subst hn; subst hc
  exact ⟨rfl, hr⟩
theorem w_pick_t {b c : Operand} {v : AV} (hx : evE env x = .bool true) (hv : HV (evE env b) v) (hr : WOps P T all r ((d, v) :: env) ol R) : WOps P T all (⟨some d, .pick x b c, ty, pos, af, none⟩ :: r) env ol R := by
  have := hv.eq; subst this
  simp only [WOps, WOp, PW, putE]
  rw [hx]; exact hr
theorem w_pick_f {b c : Operand} {v : AV} (hx : evE env x = .bool false) (hv : HV (evE env c) v) (hr : WOps P T all r ((d, v) :: env) ol R) : WOps P T all (⟨some d, .pick x b c, ty, pos, af, none⟩ :: r) env ol R := by
  have := hv.eq; subst this
  simp only [WOps, WOp, PW, putE]
  rw [hx]; exact hr
theorem w_g_on {o : Op} {dst : Option Nat} {j : Nat} {w b : Bool} {dd : Nat} (hd : (all[j]?).bind (·.dst) = some dd) (hb : get env dd = .bool b) (hw : b = w) (hr : WOps P T all (⟨dst, o, ty, pos, af, none⟩ :: r) env ol R) : WOps P T all (⟨dst, o, ty, pos, af, some (j, w)⟩ :: r) env ol R := by
  subst hw
  unfold WOps
  simp only [hd, hb, beq_self_eq_true]
  exact hr
theorem w_g_off {o : Op} {dst : Option Nat} {j : Nat} {w b : Bool} {dd : Nat} (hd : (all[j]?).bind (·.dst) = some dd) (hb : get env dd = .bool b) (hw : ¬ b = w) (hr : WOps P T all r (putE dst undA env) ol R) : WOps P T all (⟨dst, o, ty, pos, af, some (j, w)⟩ :: r) env ol R := by
  unfold WOps
  have : (b == w) = false := by simpa using hw
  simp only [hd, hb, this]
  exact hr
theorem w_g_und {o : Op} {dst : Option Nat} {j : Nat} {w : Bool} {dd : Nat} (hd : (all[j]?).bind (·.dst) = some dd) (hb : get env dd = undA) (hr : WOps P T all r (putE dst undA env) ol R) : WOps P T all (⟨dst, o, ty, pos, af, some (j, w)⟩ :: r) env ol R := by
  unfold WOps
  simp only [hd, hb, undA]
  exact hr
theorem w_g {o : Op} {dst : Option Nat} {j : Nat} {w b : Bool} {dd : Nat} (hd : (all[j]?).bind (·.dst) = some dd) (hb : get env dd = .bool b) (ht : b = w → WOps P T all (⟨dst, o, ty, pos, af, none⟩ :: r) env ol R) (hf : ¬ b = w → WOps P T all r (putE dst undA env) ol R) :
    WOps P T all (⟨dst, o, ty, pos, af, some (j, w)⟩ :: r) env ol R := by
  by_cases h : b = w
  · exact w_g_on hd hb h (ht h)
  · exact w_g_off hd hb h (hf h)
theorem w_pick_1 {b c : Operand} {q : Bool} {v : AV} (hx : evE env x = .bool q) (hq : q = true) (hv : HV (evE env b) v) (hr : WOps P T all r ((d, v) :: env) ol R) : WOps P T all (⟨some d, .pick x b c, ty, pos, af, none⟩ :: r) env ol R :=
  w_pick_t (by rw [hx, hq]) hv hr
theorem w_pick_0 {b c : Operand} {q : Bool} {v : AV} (hx : evE env x = .bool q) (hq : q = false) (hv : HV (evE env c) v) (hr : WOps P T all r ((d, v) :: env) ol R) : WOps P T all (⟨some d, .pick x b c, ty, pos, af, none⟩ :: r) env ol R :=
  w_pick_f (by rw [hx, hq]) hv hr
inductive EL : Env → Env → Prop where
  | refl (e) : EL e e
  | cons {d : Nat} {v v' : AV} {e e' : Env} (h : v' = .any ∨ v = v') (ht : EL e e') : EL ((d, v) :: e) ((d, v') :: e')
theorem EL.get {e e' : Env} (h : EL e e') (t : Nat) : Am.get e' t = .any ∨ Am.get e t = Am.get e' t := by
  induction h with
  | refl => exact .inr rfl
  | cons h _ ih =>
    rename_i d v v' e e' _
    simp only [Am.get]
    cases Nat.beq t d
    · exact ih
    · exact h
theorem snd_el {c : Code} {env' : Env} (h : EL env env') (hs : Snd P T N c env' ol Q) : Snd P T N c env ol Q :=
  fun X κ a w hP hTT hR hE hN hD => hs X κ a w hP hTT hR (fun t => by
    rcases h.get t with h | h
    · rw [h]; trivial
    · rw [← h]; exact hE t) hN hD
theorem srG (hT : TOk P T) {id : Nat} {ops : Array Oper} {c : Code} {env' : Env} {ol' : OL} (hd : dstOk N ops.toList = true)
    (h : ∀ R : Env → OL → Prop, (∀ e, EL e env' → R e ol') → WOps P T ops ops.toList env ol R) (hy : Snd P T N c env' ol' Q) : Snd P T N (.seq (.region id ops false) c) env ol Q :=
  snd_seq (snd_region hT hd (h _ (fun e he => snd_el he hy)))
theorem sdG (hT : TOk P T) (hm : P.follows .mixedOrders = true) {id : Nat} {ops : Array Oper} {c : Code} {env' : Env} {ol' : OL} (ho : drawOk ops = true) (hd : dstOk N ops.toList = true)
    (h : ∀ R : Env → OL → Prop, (∀ e, EL e env' → R e ol') → WOps P T ops ops.toList env ol R) (hy : Snd P T N c env' ol' Q) : Snd P T N (.seq (.region id ops true) c) env ol Q :=
  snd_seq (snd_draw hT hm ho hd (h _ (fun e he => snd_el he hy)))
theorem w_len_o {k i n e e2 : Nat} {aty : Array TypeId} (hx : evE env x = .own k i n e2) (ha : aty = #[t]) (ht : T.und t = .slc e) (hr : WOps P T all r ((d, .int .i64 n) :: env) ol R) : WOps P T all (⟨some d, .call { callee := .builtin .len, args := #[x], argTypes := aty }, ty, pos, af, none⟩ :: r) env ol R := by
  subst ha
  simp only [WOps, WOp, PW, putE]
  rw [hx]; simp only [LenW, ht]; exact hr
theorem w_len_r {n e : Nat} {g : Nat → AV} {aty : Array TypeId} (hx : evE env x = .ro n g) (ha : aty = #[t]) (ht : T.und t = .slc e) (hr : WOps P T all r ((d, .int .i64 n) :: env) ol R) : WOps P T all (⟨some d, .call { callee := .builtin .len, args := #[x], argTypes := aty }, ty, pos, af, none⟩ :: r) env ol R := by
  subst ha
  simp only [WOps, WOp, PW, putE]
  rw [hx]; simp only [LenW, ht]; exact hr
theorem w_len_n {e : Nat} {aty : Array TypeId} (hx : evE env x = .nilsl) (ha : aty = #[t]) (ht : T.und t = .slc e) (hr : WOps P T all r ((d, .int .i64 0) :: env) ol R) : WOps P T all (⟨some d, .call { callee := .builtin .len, args := #[x], argTypes := aty }, ty, pos, af, none⟩ :: r) env ol R := by
  subst ha
  simp only [WOps, WOp, PW, putE]
  rw [hx]; simp only [LenW, ht]; exact hr
theorem w_ldc {w v : AV} (hx : evE env x = .cptr w) (hk : (T.und t).known = true) (hv : HV w v) (hz : v.size = T.sz t) (ha : v.isAgg = (T.und t).isAgg) (hr : WOps P T all r ((d, v) :: env) ol R) : WOps P T all (⟨some d, .load t x, ty, pos, af, none⟩ :: r) env ol R := by
  have := hv.eq; subst this
  show LoadW T t (evE env x) ol _
  rw [hx]; exact ⟨hk, hz, ha, hr⟩
theorem w_ldp {k i o : Nat} {p : List Nat} {root sh c v : AV} (hx : evE env x = .ptr k i p o root) (hk : (T.und t).known = true) (ho : ol.at_ k i = some (sh, c)) (hv : HV (sub c p) v) (hz : v.size = T.sz t) (ha : v.isAgg = (T.und t).isAgg) (hr : WOps P T all r ((d, v) :: env) ol R) : WOps P T all (⟨some d, .load t x, ty, pos, af, none⟩ :: r) env ol R := by
  have := hv.eq; subst this
  show LoadW T t (evE env x) ol _
  rw [hx]; simp only [LoadW, ho]; exact ⟨hk, hz, ha, hr⟩
theorem w_alloc {z : AV} (hk : (T.und t).known = true) (hf : ol.has d = false) (hz : T.zero t = z) (hr : WOps P T all r ((d, .ptr d 0 [] 0 z) :: env) ((d, .one z z) :: ol) R) : WOps P T all (⟨some d, .alloc t, ty, pos, af, none⟩ :: r) env ol R := by
  subst hz; exact ⟨hk, hf, hr⟩
theorem w_boxc {v : AV} (hx : evE env x = v) (hc : v.cel) (hr : WOps P T all r ((d, .cptr v) :: env) ol R) : WOps P T all (⟨some d, .box t x, ty, pos, af, none⟩ :: r) env ol R := by
  subst hx; exact ⟨hc, .inl hr⟩
theorem w_boxp {v : AV} (hx : evE env x = v) (hc : v.cel) (hf : ol.has d = false) (hs : ssh v v) (hr : WOps P T all r ((d, .ptr d 0 [] 0 v) :: env) ((d, .one v v) :: ol) R) : WOps P T all (⟨some d, .box t x, ty, pos, af, none⟩ :: r) env ol R := by
  subst hx; exact ⟨hc, .inr ⟨hf, hs, hr⟩⟩
theorem w_store {k i o : Nat} {p : List Nat} {root sh c v : AV} {ol' : OL} (hx : evE env x = .ptr k i p o root) (hy : evE env y = v) (hk : (T.und t).known = true) (ho : ol.at_ k i = some (sh, c)) (hc : v.cel) (hs : ssh (sub root p) v) (hz : v.size = T.sz t)
    (hl : ol.set k i (some (sh, put c p v)) = ol') (hr : WOps P T all r env ol' R) : WOps P T all (⟨none, .store t x y, ty, pos, af, none⟩ :: r) env ol R := by
  subst hy; subst hl
  show StoreW T t (evE env x) (evE env y) ol _
  rw [hx]; simp only [StoreW, ho]; exact ⟨hk, hc, hs, hz, hr⟩
theorem w_call {f : Operand} {args : Array Operand} {aty : Array TypeId} {g n : Nat} {caps : Nat → AV} {ars : List AV} {v v' : AV} {H A : OL} (hf : callee (evE env) f = .fn g n caps) (ha : (args.toList.map (evE env) ++ capL n caps).map (exp ol.at_ 4) = ars) (hc : ACalls P T g ars v H)
    (hn : (v.noref ∧ norefH H) ∨ closedL (args.toList.map (evE env) ++ capL n caps)) (hfr : freshB (1000 * (d + 1)) H ol = true) (hv : HV (shift (1000 * (d + 1)) v) v') (hA : OL.shift (1000 * (d + 1)) H ++ ol = A)
    (hr : WOps P T all r ((d, v') :: env) A R) : WOps P T all (⟨some d, .call { callee := .value f, args := args, argTypes := aty }, ty, pos, af, none⟩ :: r) env ol R := by
  have := hv.eq; subst this; subst hA; subst ha
  simp only [WOps, WOp, putE, Option.getD_some]
  unfold CallW
  rw [hf]
  exact ⟨v, H, hc, hn, hfr, hr⟩
theorem w_call0 {f : Operand} {args : Array Operand} {aty : Array TypeId} {g n : Nat} {caps : Nat → AV} {ars : List AV} {v : AV} (hf : callee (evE env) f = .fn g n caps) (ha : (args.toList.map (evE env) ++ capL n caps).map (exp ol.at_ 4) = ars) (hc : ACalls P T g ars v [])
    (hn : v.noref) (hs : ∀ b, shift b v = v)
    (hr : WOps P T all r ((d, v) :: env) ol R) : WOps P T all (⟨some d, .call { callee := .value f, args := args, argTypes := aty }, ty, pos, af, none⟩ :: r) env ol R := by
  subst ha
  simp only [WOps, WOp, putE, Option.getD_some]
  unfold CallW
  rw [hf]
  refine ⟨v, [], hc, .inl ⟨hn, trivial⟩, rfl, ?_⟩
  rw [hs]
  exact hr
theorem w_app_o {k i n e m : Nat} {s z : Operand} {aty : Array TypeId} {f g : Nat → AV} {ol' : OL} (ht : T.und t = .slc e) (hx : evE env s = .own k i n e) (hat : aty = #[t, t]) (hk : (T.und e).known = true) (hf : ol.has d = false) (ho : ol.at_ k i = some (.arr n (fun _ => T.zero e), .arr n f))
    (hel : ∀ C : Nat → (Nat → AV) → Prop, C m g → ElemsW T e (evE env z) ol C) (hb : (n + m) * T.by_ e ≤ 140737488355328) (hb2 : n + m ≤ 140737488355328)
    (hl : (d, Fam.one (.arr (n + m) (fun _ => T.zero e)) (.arr (n + m) (appF n f m g))) :: ol.set k i none = ol')
    (hr : WOps P T all r ((d, .own d 0 (n + m) e) :: env) ol' R) : WOps P T all (⟨some d, .call { callee := .builtin .append, args := #[s, z], argTypes := aty }, ty, pos, af, none⟩ :: r) env ol R := by
  subst hl; subst hat
  refine ⟨rfl, ?_⟩
  show AppendW T t (evE env s) (evE env z) d ol _
  simp only [AppendW, ht]
  refine ⟨hk, .inr ⟨hf, hel _ ?_⟩⟩
  rw [hx]
  simp only [ho]
  exact ⟨trivial, trivial, trivial, hb, hb2, hr⟩
theorem w_mks {k k' : IntKind} {n m : Int} {e : Nat} (ht : T.und t = .slc e) (hx : evE env x = .int k n) (hy : evE env y = .int k' m) (hk : (T.und e).known = true) (hm : m = n) (h0 : 0 ≤ n) (hb : n * T.by_ e ≤ 140737488355328) (hb2 : n ≤ 140737488355328) (hf : ol.has d = false)
    (hr : WOps P T all r ((d, .own d 0 n.toNat e) :: env) ((d, .one (.arr n.toNat (fun _ => T.zero e)) (.arr n.toNat (fun _ => T.zero e))) :: ol) R) : WOps P T all (⟨some d, .makeSlice t x y, ty, pos, af, none⟩ :: r) env ol R := by
  simp only [WOps, WOp, putE, Option.getD_some]
  rw [hx, hy]; simp only [MakeW, ht]; exact ⟨hk, hm, h0, hb, hb2, hf, hr⟩
theorem w_bsl {len e : Nat} {ps : Array (Nat × Operand)} {c : Nat → AV} (ht : T.und t = .slc e) (hk : (T.und e).known = true) (hb : Nat.ble (len * T.sz e) 16777216 = true) (hf : ol.has d = false) (ho : fillOk (evE env) len (fun _ => T.sz e) ps.toList) (hs : fillSsh (T.zero e) (evE env) ps.toList)
    (hc : fillF (evE env) ps.toList (fun _ => T.zero e) = c) (hr : WOps P T all r ((d, .own d 0 len e) :: env) ((d, .one (.arr len (fun _ => T.zero e)) (.arr len c)) :: ol) R) : WOps P T all (⟨some d, .buildSlice t len ps, ty, pos, af, none⟩ :: r) env ol R := by
  subst hc
  simp only [WOps, WOp, putE, Option.getD_some]
  simp only [BuildSliceW, ht]; exact ⟨hk, hb, hf, ho, hs, hr⟩
theorem w_bsl1 {e : Nat} {v : AV} (ht : T.und t = .slc e) (hk : (T.und e).known = true) (hb : Nat.ble (1 * T.sz e) 16777216 = true) (hf : ol.has d = false) (hx : HV (evE env x) v) (hc : v.cel) (hz : v.size = T.sz e) (hs : ssh (T.zero e) v)
    (hr : WOps P T all r ((d, .own d 0 1 e) :: env) ((d, .one (.arr 1 (fun _ => T.zero e)) (.arr 1 (fun i => bif Nat.beq i 0 then v else T.zero e))) :: ol) R) : WOps P T all (⟨some d, .buildSlice t 1 #[(0, x)], ty, pos, af, none⟩ :: r) env ol R := by
  have := hx.eq; subst this
  exact w_bsl ht hk hb hf ⟨⟨by decide, hc, hz⟩, trivial⟩ ⟨hs, trivial⟩ rfl hr
theorem w_bld_a {n e : Nat} {f c : Nat → AV} {ps : Array (Nat × Operand)} (hk : (T.und t).known = true) (hz : T.zero t = .arr n f) (ht : T.und t = .arr n e) (he : (T.und e).known = true) (hfz : ∀ i, (f i).size = T.sz e) (ho : fillOk (evE env) n (fun _ => T.sz e) ps.toList) (hc : fillF (evE env) ps.toList f = c) (hc0 : (c 0).size = T.sz e)
    (hr : WOps P T all r ((d, .arr n c) :: env) ol R) : WOps P T all (⟨some d, .build t ps, ty, pos, af, none⟩ :: r) env ol R := by
  subst hc
  simp only [WOps, WOp, putE, Option.getD_some]
  simp only [BuildW, hz, ht]; exact ⟨by rw [← ht]; exact hk, trivial, he, hfz, ho, hc0, hr⟩
theorem w_bld_s {n : Nat} {fs : List (TypeId × Nat)} {f c : Nat → AV} {ps : Array (Nat × Operand)} (hk : (T.und t).known = true) (hz : T.zero t = .sct n f) (ht : T.und t = .sct fs) (hl : fs.length = n) (hp : placesOk T f 0 0 fs) (ho : fillOk (evE env) n (fun i => (f i).size) ps.toList) (hc : fillF (evE env) ps.toList f = c)
    (hr : WOps P T all r ((d, .sct n c) :: env) ol R) : WOps P T all (⟨some d, .build t ps, ty, pos, af, none⟩ :: r) env ol R := by
  subst hc
  simp only [WOps, WOp, putE, Option.getD_some]
  simp only [BuildW, hz, ht]; exact ⟨by rw [← ht]; exact hk, hl, hp, ho, hr⟩
end
end Go.Am

namespace Go.Am
abbrev vecA (f : Nat → Int) : AV := .arr 6 (fun i => .int .u8 (f i))
abbrev v64A (f : Nat → Int) : AV := .arr 6 (fun i => .int .i64 (f i))
abbrev tabA (T : Nat → Nat → Nat → Int) : AV := .arr 6 (fun i => .arr 6 (fun j => .arr 6 (fun k => .int .u8 (T i j k))))
def algF (p n : Int) (T : Nat → Nat → Nat → Int) (fo : Nat → Int) : Nat → AV
  | 0 => .int .i64 p
  | 1 => .int .i64 n
  | 2 => tabA T
  | 3 => vecA fo
  | _ => .any
abbrev algA (p n : Int) (T : Nat → Nat → Nat → Int) (fo : Nat → Int) : AV := .sct 4 (algF p n T fo)
theorem w64 {n : Int} (h0 : -9223372036854775808 ≤ n) (h1 : n < 9223372036854775808) : IntKind.i64.wrap n = n := by rw [IntKind.wrap_i64]; omega
theorem w8 {n : Int} (h0 : 0 ≤ n) (h1 : n < 256) : IntKind.u8.wrap n = n := by rw [IntKind.wrap_u8]; omega
def B8 (f : Nat → Int) : Prop := ∀ i, 0 ≤ f i ∧ f i < 256
def B8T (T : Nat → Nat → Nat → Int) : Prop := ∀ i j k, 0 ≤ T i j k ∧ T i j k < 256
theorem w64b {f : Nat → Int} (h : B8 f) (i : Nat) : IntKind.i64.wrap (f i) = f i := w64 (by have := h i; omega) (by have := h i; omega)
theorem w64t {T : Nat → Nat → Nat → Int} (h : B8T T) (i j k : Nat) : IntKind.i64.wrap (T i j k) = T i j k := w64 (by have := h i j k; omega) (by have := h i j k; omega)
theorem w8b {f : Nat → Int} (h : B8 f) (i : Nat) : IntKind.u8.wrap (f i) = f i := w8 (h i).1 (h i).2
theorem exn {f : AV → AV} : ([] : List AV).map f = [] := rfl
theorem exc {f : AV → AV} {a b : AV} {l bs : List AV} (h : f a = b) (ht : l.map f = bs) : (a :: l).map f = b :: bs := by simp only [List.map_cons, h, ht]
variable {at_ : Nat → Nat → Option (AV × AV)} {d : Nat}
theorem exp_alg {p n : Int} {T : Nat → Nat → Nat → Int} {fo : Nat → Int} : exp at_ (d + 1) (algA p n T fo) = algA p n T fo := by
  simp only [exp, expS, AV.sct.injEq, true_and]
  funext i
  match i with
  | 0 => rfl
  | 1 => rfl
  | 2 => rfl
  | 3 => rfl
  | n + 4 => rfl
theorem exp_calg {p n : Int} {T : Nat → Nat → Nat → Int} {fo : Nat → Int} : exp at_ (d + 1) (.cptr (algA p n T fo)) = .cptr (algA p n T fo) := by
  have := @exp_alg at_ d p n T fo
  simp only [exp, expS] at this ⊢
  rw [this]
theorem Mt_closed {V : Vw} : ∀ {v : AV}, v.closed → (∀ n f, v ≠ .tup n f → True) → v ≠ .any → Mt V v v := by
  intro v
  induction v with
  | any => intro _ _ h; exact absurd rfl h
  | int => intro _ _ _; rfl
  | bool => intro _ _ _; rfl
  | strg => intro _ _ _; rfl
  | nilsl => intro _ _ _; rfl
  | own => intro h; exact h.elim
  | ptr => intro h; exact h.elim
  | arr n f ih => intro h _ _; exact ⟨rfl, fun i _ => by
      by_cases ha : f i = .any
      · rw [ha]; rfl
      · exact ih i (h i) (fun _ _ _ => trivial) ha⟩
  | sct n f ih => intro h _ _; exact ⟨rfl, fun i _ => by
      by_cases ha : f i = .any
      · rw [ha]; rfl
      · exact ih i (h i) (fun _ _ _ => trivial) ha⟩
  | tup n f ih => intro h _ _; exact ⟨rfl, fun i _ => by
      by_cases ha : f i = .any
      · rw [ha]; rfl
      · exact ih i (h i) (fun _ _ _ => trivial) ha⟩
  | ro n f ih => intro h _ _; exact ⟨rfl, fun i _ => by
      by_cases ha : f i = .any
      · rw [ha]; rfl
      · exact ih i (h i) (fun _ _ _ => trivial) ha⟩
  | fn g n f ih => intro h _ _; exact ⟨rfl, rfl, fun i _ => by
      by_cases ha : f i = .any
      · rw [ha]; rfl
      · exact ih i (h i) (fun _ _ _ => trivial) ha⟩
  | cptr v ih => intro h _ _; exact (by
      show Mt V v v
      by_cases ha : v = .any
      · rw [ha]; rfl
      · exact ih h (fun _ _ _ => trivial) ha)
theorem closed_vec {k : IntKind} {n : Nat} {f : Nat → Int} : (AV.arr n (fun i => .int k (f i))).closed := fun _ => trivial
theorem closed_tab {T : Nat → Nat → Nat → Int} : (tabA T).closed := fun _ _ _ => trivial
theorem closed_alg {p n : Int} {T : Nat → Nat → Nat → Int} {fo : Nat → Int} : (algA p n T fo).closed := by
  intro i
  match i with
  | 0 => exact trivial
  | 1 => exact trivial
  | 2 => exact closed_tab
  | 3 => exact closed_vec
  | n + 4 => exact trivial
variable {V : Vw}
theorem m_int {k : IntKind} {a b : Int} (h : b = a) : MtE V (.int k a) (.int k b) := by subst h; rfl
theorem m_bool {a b : Bool} (h : b = a) : MtE V (.bool a) (.bool b) := by subst h; rfl
theorem m_vec {k : IntKind} {n : Nat} {f g : Nat → Int} (h : ∀ i, i < n → g i = f i) : MtE V (.arr n (fun i => .int k (f i))) (.arr n (fun i => .int k (g i))) :=
  ⟨rfl, fun i hi => congrArg (AV.int k) (h i hi)⟩
theorem mt_vec {k : IntKind} {n : Nat} {f g : Nat → Int} (h : ∀ i, i < n → g i = f i) : Mt V (.arr n (fun i => .int k (f i))) (.arr n (fun i => .int k (g i))) :=
  ⟨rfl, fun i hi => congrArg (AV.int k) (h i hi)⟩
theorem m_cvec {k : IntKind} {n : Nat} {f g : Nat → Int} (h : ∀ i, i < n → g i = f i) : MtE V (.cptr (.arr n (fun i => .int k (f i)))) (.cptr (.arr n (fun i => .int k (g i)))) := mt_vec (V := V) h
theorem m_calg {p n : Int} {T : Nat → Nat → Nat → Int} {fo : Nat → Int} : MtE V (.cptr (algA p n T fo)) (.cptr (algA p n T fo)) :=
  Mt_closed (V := V) (v := .cptr (algA p n T fo)) closed_alg (fun _ _ _ => trivial) (by simp)
theorem m_alg {p n : Int} {T : Nat → Nat → Nat → Int} {fo : Nat → Int} : MtE V (algA p n T fo) (algA p n T fo) :=
  Mt_closed (V := V) (v := algA p n T fo) closed_alg (fun _ _ _ => trivial) (by simp)
def ρ0 : Nat → Nat → Nat × Nat := fun k i => (k, i)
theorem rt {T : TT} {t : Nat} {env : Env} {ol : OL} {v : AV} (hv : ∀ V, MtE V v (get env t)) : retQ T [.tmp t] v [] .ret env ol :=
  ⟨ρ0, ⟨hv _, trivial⟩, trivial, trivial⟩
theorem rt_c {T : TT} {t : Nat} {ty : TypeId} {env : Env} {ol : OL} {v c sh root : AV} {k i o : Nat} {p : List Nat} (hx : get env t = .ptr k i p o root) (hk : (T.und ty).known = true) (ho : ol.at_ k i = some (sh, c)) (hz : (sub c p).size = T.sz ty) (ha : (sub c p).isAgg = (T.und ty).isAgg)
    (hv : ∀ V, MtE V v (sub c p)) : retQ T [.cell t ty] v [] .ret env ol := by
  show LoadW T ty (get env t) ol _
  rw [hx]
  simp only [LoadW, ho]
  exact ⟨hk, hz, ha, ρ0, ⟨hv _, trivial⟩, trivial, trivial⟩
def pairA (a b : AV) : Nat → AV
  | 0 => a
  | 1 => b
  | _ => .any
theorem rt_ct {T : TT} {t s : Nat} {ty : TypeId} {env : Env} {ol : OL} {v u c sh root : AV} {k i o : Nat} {p : List Nat} (hx : get env t = .ptr k i p o root) (hk : (T.und ty).known = true) (ho : ol.at_ k i = some (sh, c)) (hz : (sub c p).size = T.sz ty) (ha : (sub c p).isAgg = (T.und ty).isAgg)
    (hv : ∀ V, Mt V v (sub c p)) (hu : ∀ V, Mt V u (get env s)) : retQ T [.cell t ty, .tmp s] (.tup 2 (pairA v u)) [] .ret env ol := by
  show LoadW T ty (get env t) ol _
  rw [hx]
  simp only [LoadW, ho]
  refine ⟨hk, hz, ha, ρ0, ⟨⟨rfl, fun i hi => ?_⟩, trivial⟩, trivial, trivial⟩
  match i, hi with
  | 0, _ => exact hv _
  | 1, _ => exact hu _
theorem rt_tt {T : TT} {t s : Nat} {env : Env} {ol : OL} {v u : AV} (hv : ∀ V, Mt V v (get env t)) (hu : ∀ V, Mt V u (get env s)) : retQ T [.tmp t, .tmp s] (.tup 2 (pairA v u)) [] .ret env ol := by
  refine ⟨ρ0, ⟨⟨rfl, fun i hi => ?_⟩, trivial⟩, trivial, trivial⟩
  match i, hi with
  | 0, _ => exact hv _
  | 1, _ => exact hu _
theorem nr_pair {a b : AV} (ha : a.noref) (hb : b.noref) : (AV.tup 2 (pairA a b)).noref := by
  intro i
  match i with
  | 0 => exact ha
  | 1 => exact hb
  | n + 2 => exact trivial
theorem shift_pair {a b : AV} {k : Nat} (ha : shift k a = a) (hb : shift k b = b) : shift k (.tup 2 (pairA a b)) = .tup 2 (pairA a b) := by
  simp only [shift, AV.tup.injEq, true_and]
  funext i
  match i with
  | 0 => exact ha
  | 1 => exact hb
  | n + 2 => rfl
theorem ssh_vec {k k' : IntKind} {n : Nat} {f g : Nat → Int} : ssh (.arr n (fun i => .int k (f i))) (.arr n (fun i => .int k' (g i))) := ⟨rfl, fun _ => trivial⟩
theorem ssh_tab {T T' : Nat → Nat → Nat → Int} : ssh (tabA T) (tabA T') := ⟨rfl, fun _ => ⟨rfl, fun _ => ⟨rfl, fun _ => trivial⟩⟩⟩
theorem ssh_alg {p n p' n' : Int} {T T' : Nat → Nat → Nat → Int} {fo fo' : Nat → Int} : ssh (algA p n T fo) (algA p' n' T' fo') := by
  refine ⟨rfl, fun i => ?_⟩
  match i with
  | 0 => exact trivial
  | 1 => exact trivial
  | 2 => exact ssh_tab
  | 3 => exact ssh_vec
  | n + 4 => exact trivial
def upd {α : Type} (f : Nat → α) (j : Nat) (x : α) : Nat → α := fun i => if i = j then x else f i
theorem put_vec {k : IntKind} {n j : Nat} {f : Nat → Int} {x : Int} : put (.arr n (fun i => .int k (f i))) [j] (.int k x) = .arr n (fun i => .int k (upd f j x i)) := by
  simp only [put, AV.arr.injEq, true_and]
  funext i
  by_cases h : i = j
  · subst h; simp [upd, put]
  · simp [upd, beq_ff h, h]
theorem upd_ne {α : Type} (f : Nat → α) {i j : Nat} (x : α) (h : i ≠ j) : upd f j x i = f i := by simp [upd, h]
abbrev matA (M : Nat → Nat → Int) : AV := .arr 6 (fun i => .arr 6 (fun j => .int .u8 (M i j)))
theorem put_nil {c v : AV} : put c [] v = v := by cases c <;> rfl
theorem put_mat {j : Nat} {M : Nat → Nat → Int} {r : Nat → Int} : put (matA M) [j] (vecA r) = matA (upd M j r) := by
  simp only [put, AV.arr.injEq, true_and]
  funext i
  by_cases h : i = j
  · subst h; simp [upd, put]
  · simp [upd, beq_ff h, h]
theorem put_tab {j : Nat} {T : Nat → Nat → Nat → Int} {M : Nat → Nat → Int} : put (tabA T) [j] (matA M) = tabA (upd T j M) := by
  simp only [put, AV.arr.injEq, true_and]
  funext i
  by_cases h : i = j
  · subst h; simp [upd, put]
  · simp [upd, beq_ff h, h]
theorem ssh_mat {M M' : Nat → Nat → Int} : ssh (matA M) (matA M') := ⟨rfl, fun _ => ⟨rfl, fun _ => trivial⟩⟩
theorem mt_mat {V : Vw} {M M' : Nat → Nat → Int} (h : ∀ i j, i < 6 → j < 6 → M' i j = M i j) : Mt V (matA M) (matA M') :=
  ⟨rfl, fun i hi => ⟨rfl, fun j hj => congrArg (AV.int .u8) (h i j hi hj)⟩⟩
theorem mt_tab {V : Vw} {T T' : Nat → Nat → Nat → Int} (h : ∀ i j k, i < 6 → j < 6 → k < 6 → T' i j k = T i j k) : Mt V (tabA T) (tabA T') :=
  ⟨rfl, fun i hi => ⟨rfl, fun j hj => ⟨rfl, fun k hk => congrArg (AV.int .u8) (h i j k hi hj hk)⟩⟩⟩
theorem mt_alg {V : Vw} {p n p' n' : Int} {T T' : Nat → Nat → Nat → Int} {fo fo' : Nat → Int} (hp : p' = p) (hn : n' = n) (hT : ∀ i j k, i < 6 → j < 6 → k < 6 → T' i j k = T i j k) (hf : ∀ i, i < 6 → fo' i = fo i) : Mt V (algA p n T fo) (algA p' n' T' fo') := by
  subst hp; subst hn
  refine ⟨rfl, fun i hi => ?_⟩
  match i, hi with
  | 0, _ => exact rfl
  | 1, _ => exact rfl
  | 2, _ => exact mt_tab hT
  | 3, _ => exact mt_vec hf
theorem algF_congr {p n : Int} {T : Nat → Nat → Nat → Int} {fo : Nat → Int} {f : Nat → AV} (h0 : f 0 = .int .i64 p) (h1 : f 1 = .int .i64 n) (h2 : f 2 = tabA T) (h3 : f 3 = vecA fo) (h4 : ∀ i, f (i + 4) = .any) : AV.sct 4 f = algA p n T fo := by
  refine congrArg (AV.sct 4) (funext fun i => ?_)
  match i with
  | 0 => exact h0
  | 1 => exact h1
  | 2 => exact h2
  | 3 => exact h3
  | i + 4 => exact h4 i
theorem put_alg0 {p n z : Int} {T : Nat → Nat → Nat → Int} {fo : Nat → Int} : put (algA p n T fo) [0] (.int .i64 z) = algA z n T fo := algF_congr rfl rfl rfl rfl (fun _ => rfl)
theorem put_alg1 {p n z : Int} {T : Nat → Nat → Nat → Int} {fo : Nat → Int} : put (algA p n T fo) [1] (.int .i64 z) = algA p z T fo := algF_congr rfl rfl rfl rfl (fun _ => rfl)
theorem put_alg2 {p n : Int} {T T' : Nat → Nat → Nat → Int} {fo : Nat → Int} : put (algA p n T fo) [2] (tabA T') = algA p n T' fo := algF_congr rfl rfl rfl rfl (fun _ => rfl)
theorem put_alg3 {p n : Int} {T : Nat → Nat → Nat → Int} {fo fo' : Nat → Int} : put (algA p n T fo) [3] (vecA fo') = algA p n T fo' := algF_congr rfl rfl rfl rfl (fun _ => rfl)
theorem put_alg3i {p n z : Int} {T : Nat → Nat → Nat → Int} {fo : Nat → Int} {i : Nat} : put (algA p n T fo) [3, i] (.int .u8 z) = algA p n T (upd fo i z) := algF_congr rfl rfl rfl (put_vec (n := 6)) (fun _ => rfl)
theorem put_tab2 {i j : Nat} {T : Nat → Nat → Nat → Int} {r : Nat → Int} : put (tabA T) [i, j] (vecA r) = tabA (upd T i (upd (T i) j r)) := by
  rw [← put_tab, ← put_mat]; rfl
theorem put_mat2 {i j : Nat} {M : Nat → Nat → Int} {z : Int} : put (matA M) [i, j] (.int .u8 z) = matA (upd M i (upd (M i) j z)) := by
  rw [← put_mat, show vecA (upd (M i) j z) = put (vecA (M i)) [j] (.int .u8 z) from put_vec.symm]; rfl
theorem put_tab3 {i j k : Nat} {T : Nat → Nat → Nat → Int} {z : Int} : put (tabA T) [i, j, k] (.int .u8 z) = tabA (upd T i (upd (T i) j (upd (T i j) k z))) := by
  rw [← put_tab, show matA (upd (T i) j (upd (T i j) k z)) = put (matA (T i)) [j, k] (.int .u8 z) from put_mat2.symm]; rfl
theorem put_alg2ij {p n : Int} {T : Nat → Nat → Nat → Int} {fo r : Nat → Int} {i j : Nat} : put (algA p n T fo) [2, i, j] (vecA r) = algA p n (upd T i (upd (T i) j r)) fo := algF_congr rfl rfl put_tab2 rfl (fun _ => rfl)
theorem put_alg2ijk {p n z : Int} {T : Nat → Nat → Nat → Int} {fo : Nat → Int} {i j k : Nat} : put (algA p n T fo) [2, i, j, k] (.int .u8 z) = algA p n (upd T i (upd (T i) j (upd (T i j) k z))) fo := algF_congr rfl rfl put_tab3 rfl (fun _ => rfl)
section
variable {P : Program} {T : TT} {N : Nat} {env : Env} {ol : OL}
variable {all : Array Oper} {r : List Oper} {R : Env → OL → Prop} {ty : TypeId} {pos : String} {af : Array Edge} {x y : Operand} {u t : TypeId}
theorem w_sti {k i o j n : Nat} {K : IntKind} {sh root : AV} {f : Nat → Int} {z : Int} (hx : evE env x = .ptr k i [j] o root) (hy : evE env y = .int K z) (hk : (T.und t).known = true) (ho : ol.at_ k i = some (sh, .arr n (fun i => .int K (f i)))) (hs : ssh (sub root [j]) (.int K z)) (hz : 1 = T.sz t)
    (hr : WOps P T all r env (ol.set k i (some (sh, .arr n (fun i => .int K (upd f j z i))))) R) : WOps P T all (⟨none, .store t x y, ty, pos, af, none⟩ :: r) env ol R :=
  w_store hx hy hk ho trivial hs hz (by rw [put_vec]) hr
theorem w_stw {k i o : Nat} {sh root c v : AV} (hx : evE env x = .ptr k i [] o root) (hy : HV (evE env y) v) (hk : (T.und t).known = true) (ho : ol.at_ k i = some (sh, c)) (hc : v.cel) (hs : ssh root v) (hz : v.size = T.sz t)
    (hr : WOps P T all r env (ol.set k i (some (sh, v))) R) : WOps P T all (⟨none, .store t x y, ty, pos, af, none⟩ :: r) env ol R :=
  w_store hx hy.eq hk ho hc (by rw [show sub root [] = root by cases root <;> rfl]; exact hs) hz (by rw [show put c [] v = v by cases c <;> rfl]) hr
end
end Go.Am

namespace Go.Am
theorem tmod_lo (x : Int) {p : Int} (hp : 0 < p) : -p < x.tmod p := Int.lt_tmod_of_pos x hp
theorem tmod_hi (x : Int) {p : Int} (hp : 0 < p) : x.tmod p < p := Int.tmod_lt_of_pos x hp
theorem tmod_add {x p : Int} (hp : 0 < p) : (x.tmod p + p).tmod p = x % p := by
  have h1 := tmod_lo x hp
  have h2 : 0 ≤ x.tmod p + p := by omega
  rw [Int.tmod_eq_emod_of_nonneg h2, Int.add_emod_right]
  by_cases hx : 0 ≤ x
  · rw [Int.tmod_eq_emod_of_nonneg hx, Int.emod_emod]
  · rw [Int.tmod_eq_emod]
    split
    · simp
    · rename_i h
      rw [show (p.natAbs : Int) = p by omega, Int.sub_emod, Int.emod_self, Int.emod_emod]; simp
def eF (i : Nat) : Nat → Int := upd (fun _ => 0) i 1
def smG (p n : Int) (v : Nat → Int) (i : Nat) : Prop := v i < p ∧ (n ≤ (i : Int) → v i = 0)
def smP (p n : Int) (v : Nat → Int) : Prop := ∀ i, i < 6 → smG p n v i
noncomputable instance (p n : Int) (v : Nat → Int) : Decidable (smP p n v) := Classical.propDecidable _
theorem all_step {P : Nat → Prop} {i : Nat} (h : ∀ j, j < i → P j) (hi : P i) : ∀ j, j < i + 1 → P j := fun j hj => by
  by_cases e : j = i
  · exact e ▸ hi
  · exact h j (by omega)
theorem smG_iff {p n : Int} {v : Nat → Int} {i : Nat} : smG p n v i ↔ (decide (p ≤ v i) || (decide (n ≤ (i : Int)) && decide (v i ≠ 0))) = false := by
  simp only [smG, Bool.or_eq_false_iff, Bool.and_eq_false_iff, decide_eq_false_iff_not, Int.not_le, ne_eq, Classical.not_not]
  constructor
  · rintro ⟨h1, h2⟩
    refine ⟨h1, ?_⟩
    by_cases h : (i : Int) < n
    · exact .inl h
    · exact .inr (h2 (by omega))
  · rintro ⟨h1, h2⟩
    refine ⟨h1, fun h => ?_⟩
    rcases h2 with h2 | h2
    · omega
    · exact h2
def sumZ (f : Nat → Int) : Nat → Int
  | 0 => 0
  | n + 1 => sumZ f n + f n
theorem sumZ_bd {f : Nat → Int} {M : Int} (h : ∀ i, 0 ≤ f i ∧ f i ≤ M) : ∀ n : Nat, 0 ≤ sumZ f n ∧ sumZ f n ≤ n * M
  | 0 => by simp [sumZ]
  | n + 1 => by
    have h1 := sumZ_bd h n
    have h2 := h n
    simp only [sumZ]
    rw [show ((n + 1 : Nat) : Int) * M = n * M + M by rw [Int.natCast_add, Int.add_mul]; simp]
    omega
theorem sumZ_congr {f g : Nat → Int} : ∀ n : Nat, (∀ i, i < n → f i = g i) → sumZ f n = sumZ g n
  | 0, _ => rfl
  | n + 1, h => by simp only [sumZ]; rw [sumZ_congr n (fun i hi => h i (by omega)), h n (by omega)]
def tm (T : Nat → Nat → Nat → Int) (u v : Nat → Int) (k i j : Nat) : Int := u i * v j * T i j k
def rowS (T : Nat → Nat → Nat → Int) (u v : Nat → Int) (n k i : Nat) : Int := sumZ (tm T u v k i) n
def timesF (p : Int) (n : Nat) (T : Nat → Nat → Nat → Int) (u v : Nat → Int) (k : Nat) : Int := if k < n then sumZ (rowS T u v n k) n % p else 0
theorem mul_bd {a b A B : Int} (ha : 0 ≤ a ∧ a ≤ A) (hb : 0 ≤ b ∧ b ≤ B) : 0 ≤ a * b ∧ a * b ≤ A * B :=
  ⟨Int.mul_nonneg ha.1 hb.1, Int.le_trans (Int.mul_le_mul_of_nonneg_right ha.2 hb.1) (Int.mul_le_mul_of_nonneg_left hb.2 (by omega))⟩
section
variable {u v : Nat → Int} {T : Nat → Nat → Nat → Int}
theorem uv_bd (hu : B8 u) (hv : B8 v) (i j : Nat) : 0 ≤ u i * v j ∧ u i * v j ≤ 65025 :=
  mul_bd (A := 255) (B := 255) (by have := hu i; omega) (by have := hv j; omega)
theorem tm_bd (hu : B8 u) (hv : B8 v) (hT : B8T T) (k i j : Nat) : 0 ≤ tm T u v k i j ∧ tm T u v k i j ≤ 16581375 :=
  mul_bd (A := 65025) (B := 255) (uv_bd hu hv i j) (by have := hT i j k; omega)
theorem rowS_bd (hu : B8 u) (hv : B8 v) (hT : B8T T) {n : Nat} (hn : n ≤ 6) (k i : Nat) : 0 ≤ rowS T u v n k i ∧ rowS T u v n k i ≤ 99488250 := by
  have := sumZ_bd (fun j => tm_bd hu hv hT k i j) n
  unfold rowS
  omega
theorem acc_bd (hu : B8 u) (hv : B8 v) (hT : B8T T) {n : Nat} (hn : n ≤ 6) (k : Nat) {i j : Nat} (hi : i ≤ 6) (hj : j ≤ 6) :
    0 ≤ sumZ (rowS T u v n k) i + sumZ (tm T u v k i) j ∧ sumZ (rowS T u v n k) i + sumZ (tm T u v k i) j ≤ 1000000000 := by
  have h1 := sumZ_bd (fun i => rowS_bd hu hv hT hn k i) i
  have h2 := sumZ_bd (fun j => tm_bd hu hv hT k i j) j
  omega
theorem w_uv (hu : B8 u) (hv : B8 v) (i j : Nat) : IntKind.i64.wrap (u i * v j) = u i * v j := by
  have := uv_bd hu hv i j; exact w64 (by omega) (by omega)
theorem w_tm (hu : B8 u) (hv : B8 v) (hT : B8T T) (k i j : Nat) : IntKind.i64.wrap (u i * v j * T i j k) = tm T u v k i j := by
  have := tm_bd hu hv hT k i j; exact w64 (by unfold tm at this; omega) (by unfold tm at this; omega)
theorem w_acc (hu : B8 u) (hv : B8 v) (hT : B8T T) {n : Nat} (hn : n ≤ 6) (k : Nat) {i j : Nat} (hi : i ≤ 6) (hj : j < 6) :
    IntKind.i64.wrap (sumZ (rowS T u v n k) i + sumZ (tm T u v k i) j + tm T u v k i j) = sumZ (rowS T u v n k) i + sumZ (tm T u v k i) (j + 1) := by
  have := acc_bd hu hv hT hn k hi (show j + 1 ≤ 6 by omega)
  simp only [sumZ] at this ⊢
  rw [w64 (by omega) (by omega)]; omega
theorem w_fin (hu : B8 u) (hv : B8 v) (hT : B8T T) {n k : Nat} (hn : n ≤ 6) (hk : k < n) {p : Int} (hp : 0 < p) (hp2 : p < 256) : IntKind.u8.wrap ((sumZ (rowS T u v n k) n).tmod p) = timesF p n T u v k := by
  have h0 := acc_bd hu hv hT hn k hn (Nat.zero_le 6) (i := n) (j := 0)
  simp only [sumZ, Int.add_zero] at h0
  rw [Int.tmod_eq_emod_of_nonneg h0.1]
  have h1 := Int.emod_nonneg (sumZ (rowS T u v n k) n) (show p ≠ 0 by omega)
  have h2 := Int.emod_lt_of_pos (sumZ (rowS T u v n k) n) hp
  rw [w8 h1 (by omega), timesF, if_pos hk]
end
def cutF (F : Nat → Int) (k : Nat) : Nat → Int := fun j => if j < k then F j else 0
theorem upd_cut (F : Nat → Int) (k j : Nat) : upd (cutF F k) k (F k) j = cutF F (k + 1) j := by
  unfold upd cutF
  by_cases h : j = k
  · subst h; simp
  · by_cases h2 : j < k
    · simp [h, h2, show j < k + 1 by omega]
    · simp [h, h2, show ¬ j < k + 1 by omega]
theorem eF_B8 (i : Nat) : B8 (eF i) := fun j => by unfold eF upd; dsimp only; split <;> omega
def accF (T : Nat → Nat → Nat → Int) (u v : Nat → Int) (n i j k : Nat) : Int := if k < n then sumZ (rowS T u v n k) i + sumZ (tm T u v k i) j else 0
def mixF (F G : Nat → Int) (k : Nat) : Nat → Int := fun j => if j < k then F j else G j
theorem upd_mix (F G : Nat → Int) (k j : Nat) : upd (mixF F G k) k (F k) j = mixF F G (k + 1) j := by
  unfold upd mixF
  by_cases h : j = k
  · subst h; simp
  · by_cases h2 : j < k
    · simp [h, h2, show j < k + 1 by omega]
    · simp [h, h2, show ¬ j < k + 1 by omega]
section
variable {u v : Nat → Int} {T : Nat → Nat → Nat → Int}
theorem w_acc2 (hu : B8 u) (hv : B8 v) (hT : B8T T) {n i j k : Nat} (hn : n ≤ 6) (hi : i < n) (hj : j < n) (hk : k < n) :
    IntKind.i64.wrap (mixF (accF T u v n i (j + 1)) (accF T u v n i j) k k + tm T u v k i j) = accF T u v n i (j + 1) k := by
  simp only [mixF, Nat.lt_irrefl, if_false, accF, if_pos hk]
  exact w_acc hu hv hT hn k (by omega) (by omega)
theorem w_fin2 (hu : B8 u) (hv : B8 v) (hT : B8T T) {n k : Nat} (hn : n ≤ 6) {p : Int} (hp : 0 < p) (hp2 : p < 256) : IntKind.u8.wrap ((accF T u v n n 0 k).tmod p) = timesF p n T u v k := by
  by_cases hk : k < n
  · simp only [accF, if_pos hk, sumZ, Int.add_zero]
    exact w_fin hu hv hT hn hk hp hp2
  · simp only [accF, if_neg hk, timesF, Int.zero_tmod]
    decide
theorem acc_next {n i k : Nat} : accF T u v n i n k = accF T u v n (i + 1) 0 k := by
  unfold accF
  split
  · simp only [sumZ, Int.add_zero]; rfl
  · rfl
theorem acc_zero {n i j k : Nat} (h : u i * v j = 0) : accF T u v n i (j + 1) k = accF T u v n i j k := by
  unfold accF
  split
  · simp only [sumZ, tm, h, Int.zero_mul, Int.add_zero]
  · rfl
theorem mix_all {n i j k : Nat} : mixF (accF T u v n i (j + 1)) (accF T u v n i j) n k = accF T u v n i (j + 1) k := by
  unfold mixF
  split
  · rfl
  · rename_i h
    simp [accF, h]
end
end Go.Am

namespace Go.Am
theorem put_in {ol : OL} {k i : Nat} {sh c v c' : AV} {p : List Nat} (h : put c p v = c') : ol.set k i (some (sh, put c p v)) = ol.set k i (some (sh, c')) := by rw [h]
theorem expS_closed (dr : AV → AV) : ∀ {v : AV}, v.closed → expS dr v = v := by
  intro v
  induction v with
  | arr n f ih => intro h; simp only [expS]; congr 1; funext i; exact ih i (h i)
  | sct n f ih => intro h; simp only [expS]; congr 1; funext i; exact ih i (h i)
  | tup n f ih => intro h; simp only [expS]; congr 1; funext i; exact ih i (h i)
  | ro n f ih => intro h; simp only [expS]; congr 1; funext i; exact ih i (h i)
  | fn g n f ih => intro h; simp only [expS]; congr 1; funext i; exact ih i (h i)
  | cptr v ih => intro h; simp only [expS]; rw [ih h]
  | own => intro h; exact h.elim
  | ptr => intro h; exact h.elim
  | _ => intro _; rfl
theorem exp_closed {at_ : Nat → Nat → Option (AV × AV)} {d : Nat} {v : AV} (h : v.closed) : exp at_ d v = v := by
  cases d <;> exact expS_closed _ h
def idxF (P : Nat → Bool) (m : Nat) : Int := match (List.range m).find? P with | some i => (i : Int) | none => -1
theorem idx_at {P : Nat → Bool} {m i : Nat} (hi : i < m) (hP : P i = true) (h : ∀ j, j < i → P j = false) : idxF P m = i := by
  unfold idxF
  have : (List.range m).find? P = some i := by
    rw [List.find?_range_eq_some]
    exact ⟨hP, by simp [hi], fun j hj => by simp [h j hj]⟩
  rw [this]
theorem idx_none {P : Nat → Bool} {m : Nat} (h : ∀ j, j < m → P j = false) : idxF P m = -1 := by
  unfold idxF
  have : (List.range m).find? P = none := by
    rw [List.find?_eq_none]
    intro x hx
    simp [h x (by simpa using hx)]
  rw [this]
theorem idx_cases (P : Nat → Bool) (m : Nat) : (∃ i, i < m ∧ P i = true ∧ (∀ j, j < i → P j = false) ∧ idxF P m = i) ∨ ((∀ j, j < m → P j = false) ∧ idxF P m = -1) := by
  by_cases h : ∃ i, i < m ∧ P i = true
  · obtain ⟨i, hi, hP⟩ := h
    have : ∃ i, (i < m ∧ P i = true) ∧ ∀ j, j < i → P j = false := by
      induction i using Nat.strongRecOn with
      | _ i ih =>
        by_cases hq : ∃ j, j < i ∧ P j = true
        · obtain ⟨j, hj, hPj⟩ := hq
          exact ih j hj (by omega) hPj
        · exact ⟨i, ⟨hi, hP⟩, fun j hj => by
            cases hb : P j
            · rfl
            · exact absurd ⟨j, hj, hb⟩ hq⟩
    obtain ⟨i, ⟨hi, hP⟩, hl⟩ := this
    exact .inl ⟨i, hi, hP, hl, idx_at hi hP hl⟩
  · have hn : ∀ j, j < m → P j = false := fun j hj => by
      cases hb : P j
      · rfl
      · exact absurd ⟨j, hj, hb⟩ h
    exact .inr ⟨hn, idx_none hn⟩
theorem idx_ge {P : Nat → Bool} {m : Nat} : 0 ≤ idxF P m ↔ ∃ i, i < m ∧ P i = true := by
  rcases idx_cases P m with ⟨i, hi, hP, _, he⟩ | ⟨hn, he⟩
  · rw [he]; exact ⟨fun _ => ⟨i, hi, hP⟩, fun _ => Int.natCast_nonneg i⟩
  · rw [he]
    constructor
    · intro h; omega
    · rintro ⟨i, hi, hP⟩; rw [hn i hi] at hP; cases hP
theorem nr_alg {p n : Int} {T : Nat → Nat → Nat → Int} {fo : Nat → Int} : (algA p n T fo).noref := by
  intro i
  match i with
  | 0 => exact trivial
  | 1 => exact trivial
  | 2 => exact fun _ _ _ => trivial
  | 3 => exact fun _ => trivial
  | n + 4 => exact trivial
theorem shift_alg {b : Nat} {p n : Int} {T : Nat → Nat → Nat → Int} {fo : Nat → Int} : shift b (algA p n T fo) = algA p n T fo := algF_congr rfl rfl rfl rfl (fun _ => rfl)
def primesF : Nat → Int
  | 0 => 2
  | 1 => 3
  | 2 => 5
  | 3 => 7
  | 4 => 11
  | 5 => 13
  | _ => 0
def primeB (p : Int) : Bool := decide (p = 2) || decide (p = 3) || decide (p = 5) || decide (p = 7) || decide (p = 11) || decide (p = 13)
theorem prime_idx (p : Int) : decide (0 ≤ idxF (fun i => decide (p = primesF i)) 6) = primeB p := by
  rw [Bool.eq_iff_iff, decide_eq_true_eq, idx_ge]
  simp only [primeB, Bool.or_eq_true, decide_eq_true_eq]
  constructor
  · rintro ⟨i, hi, h⟩
    match i, hi with
    | 0, _ => simp [primesF] at h; simp [h]
    | 1, _ => simp [primesF] at h; simp [h]
    | 2, _ => simp [primesF] at h; simp [h]
    | 3, _ => simp [primesF] at h; simp [h]
    | 4, _ => simp [primesF] at h; simp [h]
    | 5, _ => simp [primesF] at h; simp [h]
  · rintro (((((h | h) | h) | h) | h) | h)
    · exact ⟨0, by omega, h⟩
    · exact ⟨1, by omega, h⟩
    · exact ⟨2, by omega, h⟩
    · exact ⟨3, by omega, h⟩
    · exact ⟨4, by omega, h⟩
    · exact ⟨5, by omega, h⟩
theorem primeB_bd {p : Int} (h : primeB p = true) : 2 ≤ p ∧ p ≤ 13 := by
  simp only [primeB, Bool.or_eq_true, decide_eq_true_eq] at h
  omega
def tabG (p n : Int) (T : Nat → Nat → Nat → Int) (i j : Nat) : Prop := smP p n (T i j) ∧ (n ≤ (i : Int) ∨ n ≤ (j : Int) → ∀ k, k < 6 → T i j k = 0)
def tabP (p n : Int) (T : Nat → Nat → Nat → Int) (fo : Nat → Int) : Prop := (∀ i, i < 6 → ∀ j, j < 6 → tabG p n T i j) ∧ smP p n fo
noncomputable instance (p n : Int) (T : Nat → Nat → Nat → Int) (fo : Nat → Int) : Decidable (tabP p n T fo) := Classical.propDecidable _
theorem tabG_iff {p n : Int} {T : Nat → Nat → Nat → Int} {i j : Nat} : tabG p n T i j ↔ (!(decide (smP p n (T i j))) || ((decide (n ≤ (i : Int)) || decide (n ≤ (j : Int))) && decide (¬ eqN 6 (T i j) (fun _ => 0)))) = false := by
  by_cases h1 : smP p n (T i j) <;> by_cases h2 : n ≤ (i : Int) <;> by_cases h3 : n ≤ (j : Int) <;> by_cases h4 : eqN 6 (T i j) (fun _ => 0) <;> simp [tabG, h1, h2, h3, h4] <;> first | exact h4 | (intro h; exact h4 h) | exact Classical.byContradiction fun hh => h4 (fun k hk => Classical.byContradiction fun h => hh ⟨k, hk, h⟩) | skip
theorem tab_end {p n : Int} {T : Nat → Nat → Nat → Int} {fo : Nat → Int} (h : ∀ i, i < 6 → ∀ j, j < 6 → tabG p n T i j) : decide (smP p n fo) = decide (tabP p n T fo) := by
  rw [Bool.eq_iff_iff, decide_eq_true_eq, decide_eq_true_eq]
  exact ⟨fun h2 => ⟨h, h2⟩, fun h2 => h2.2⟩
noncomputable def sizeAt (n : Int) (i j : Nat) : Int := if n ≤ (i : Int) ∨ n ≤ (j : Int) then 0 else n
def shapeP (p n : Int) (T : Nat → Nat → Nat → Int) (fo : Nat → Int) : Prop := (primeB p = true ∧ (1 ≤ n ∧ n ≤ 6) ∧ smP p n fo) ∧ ∀ i, i < 6 → ∀ j, j < 6 → smP p (sizeAt n i j) (T i j)
noncomputable instance (p n : Int) (T : Nat → Nat → Nat → Int) (fo : Nat → Int) : Decidable (shapeP p n T fo) := Classical.propDecidable _
theorem shape_iff {p n : Int} {T : Nat → Nat → Nat → Int} {fo : Nat → Int} : shapeP p n T fo ↔ primeB p = true ∧ (1 ≤ n ∧ n ≤ 6) ∧ tabP p n T fo := by
  constructor
  · rintro ⟨⟨h1, h2, h3⟩, h4⟩
    have hp := primeB_bd h1
    refine ⟨h1, h2, fun i hi j hj => ?_, h3⟩
    have := h4 i hi j hj
    unfold sizeAt at this
    split at this
    · rename_i h
      have hz : ∀ k, k < 6 → T i j k = 0 := fun k hk => (this k hk).2 (by omega)
      exact ⟨fun k hk => ⟨by rw [hz k hk]; omega, fun _ => hz k hk⟩, fun _ => hz⟩
    · rename_i h
      exact ⟨this, fun h' => absurd h' h⟩
  · rintro ⟨h1, h2, h3, h4⟩
    have hp := primeB_bd h1
    refine ⟨⟨h1, h2, h4⟩, fun i hi j hj => ?_⟩
    unfold sizeAt
    split
    · rename_i h
      have hz := (h3 i hi j hj).2 h
      exact fun k hk => ⟨by rw [hz k hk]; omega, fun _ => hz k hk⟩
    · exact (h3 i hi j hj).1
def assocG (p : Int) (n : Nat) (T : Nat → Nat → Nat → Int) (i j k : Nat) : Prop := eqN 6 (timesF p n T (T i j) (eF k)) (timesF p n T (eF i) (T j k))
def assocP (p : Int) (n : Nat) (T : Nat → Nat → Nat → Int) : Prop := ∀ i, i < n → ∀ j, j < n → ∀ k, k < n → assocG p n T i j k
noncomputable instance (p : Int) (n : Nat) (T : Nat → Nat → Nat → Int) : Decidable (assocP p n T) := Classical.propDecidable _
def cap1 (a : AV) : Nat → AV
  | 0 => a
  | _ => .any
def cap2 (a b : AV) : Nat → AV
  | 0 => a
  | 1 => b
  | _ => .any
theorem exp_capL {at_ : Nat → Nat → Option (AV × AV)} {d n : Nat} {c : Nat → AV} (h : ∀ i, (c i).closed) : (capL n c).map (exp at_ d) = capL n c := by
  unfold capL
  rw [List.map_map]
  exact List.map_congr_left fun i _ => exp_closed (h i)
section
variable {P : Program} {T : TT} {N : Nat} {env : Env} {ol : OL}
variable {all : Array Oper} {r : List Oper} {R : Env → OL → Prop} {ty : TypeId} {pos : String} {af : Array Edge} {x y : Operand} {d : Nat}
theorem w_mkf1 {g : FuncId} {v : AV} (hx : HV (evE env x) v) (hr : WOps P T all r ((d, .fn g 1 (cap1 v)) :: env) ol R) : WOps P T all (⟨some d, .makeFunc (.func g) #[] #[x], ty, pos, af, none⟩ :: r) env ol R := by
  have := hx.eq; subst this
  refine w_mkf rfl (funext fun i => ?_) hr
  match i with
  | 0 => rfl
  | i + 1 => rfl
theorem w_mkf2 {g : FuncId} {v w : AV} (hx : HV (evE env x) v) (hy : HV (evE env y) w) (hr : WOps P T all r ((d, .fn g 2 (cap2 v w)) :: env) ol R) : WOps P T all (⟨some d, .makeFunc (.func g) #[] #[x, y], ty, pos, af, none⟩ :: r) env ol R := by
  have := hx.eq; subst this
  have := hy.eq; subst this
  refine w_mkf rfl (funext fun i => ?_) hr
  match i with
  | 0 => rfl
  | 1 => rfl
  | i + 2 => rfl
end
end Go.Am

namespace Go.Am
abbrev Z64 (m : Nat) : AV := .arr m (fun _ => .int .i64 0)
abbrev C64 (m : Nat) (f : Nat → Int) : AV := .arr m (fun i => .int .i64 (f i))
abbrev rowA (m : Nat) (f : Nat → Int) : AV := .ro m (fun i => .int .i64 (f i))
abbrev HR (m : Nat) (f : Nat → Int) : OL := [(0, .one (Z64 m) (C64 m f))]
abbrev rowsA (n m : Nat) (R : Nat → Nat → Int) : AV := .ro n (fun i => rowA m (R i))
abbrev ZR (n : Nat) : AV := .arr n (fun _ => .nilsl)
abbrev CR (n m : Nat) (R : Nat → Nat → Int) : AV := .arr n (fun i => rowA m (R i))
abbrev HRR (n m : Nat) (R : Nat → Nat → Int) : OL := [(0, .one (ZR n) (CR n m R))]
theorem closed_rows {n m : Nat} {R : Nat → Nat → Int} : (rowsA n m R).closed := fun _ _ => trivial
variable {V : Vw}
theorem mt_row {m : Nat} {f g : Nat → Int} (h : ∀ i, i < m → g i = f i) : Mt V (rowA m f) (rowA m g) := ⟨rfl, fun i hi => congrArg (AV.int .i64) (h i hi)⟩
theorem mt_rows {n m : Nat} {R S : Nat → Nat → Int} (h : ∀ i, i < n → ∀ j, j < m → S i j = R i j) : Mt V (rowsA n m R) (rowsA n m S) := ⟨rfl, fun i hi => mt_row (h i hi)⟩
theorem mt_app {n : Nat} {F f g : Nat → AV} (h1 : ∀ j, j < n → Mt V (F j) (f j)) (h2 : Mt V (F n) (g 0)) : Mt V (.arr (n + 1) F) (.arr (n + 1) (appF n f 1 g)) := by
  refine ⟨rfl, fun i hi => ?_⟩
  by_cases h : i = n
  · subst h
    rw [appF_ge (Nat.le_refl _) hi, Nat.sub_self]; exact h2
  · rw [appF_lt (by omega)]; exact h1 i (by omega)
theorem mt_arr0 {F G : Nat → AV} : Mt V (.arr 0 F) (.arr 0 G) := ⟨rfl, fun i hi => absurd hi (Nat.not_lt_zero _)⟩
section
variable {T : TT} {env : Env} {ol : OL}
theorem rt_own {t key n m e : Nat} {F G : Nat → AV} {sh : Nat → AV} (hx : get env t = .own key 0 n e) (ho : ol.at_ key 0 = some (.arr n sh, .arr n G)) (hn : n = m) (hs : ∀ i, ssh (sh i) (F i)) (hf : ∀ V : Vw, ∀ i, i < m → Mt V (F i) (G i)) :
    retQ T [.tmp t] (.own 0 0 m e) [(0, .one (.arr m sh) (.arr m F))] .ret env ol := by
  subst hn
  refine ⟨fun _ _ => (key, 0), ⟨?_, trivial⟩, ⟨?_, trivial⟩, ⟨⟨fun _ => ⟨rfl, rfl⟩, trivial⟩, trivial⟩⟩
  · show Mt _ (.own 0 0 n e) (get env t)
    rw [hx]
    exact ⟨rfl, rfl, rfl, rfl⟩
  · show (match ol.at_ key 0 with | some (sh', c') => _ | none => False)
    rw [ho]
    exact ⟨rfl, ⟨rfl, hs⟩, rfl, hf _⟩
theorem mt_fz {V : Vw} {k i n e : Nat} {sh : AV} {F G : Nat → AV} (hz : V.fz k i) (ha : V.at' k i = some (sh, .arr n G)) (hf : ∀ j, j < n → Mt V (F j) (G j)) : Mt V (.ro n F) (.own k i n e) := by
  simp only [Mt, ha]
  exact ⟨trivial, hz, trivial, hf⟩
end
def lessF (p : Int) (f g : Nat → Int) (k : Int) (i : Nat) : Int := (f i - k * g i) % p
def scaledF (p : Int) (f : Nat → Int) (k : Int) (i : Nat) : Int := f i * k % p
def powF (x p : Int) : Nat → Int
  | 0 => 1
  | k + 1 => powF x p k * x % p
def invF (p x : Int) : Int := powF x p (p - 2).toNat
theorem w_kg {g : Nat → Int} {k : Int} (hk : 0 ≤ k ∧ k < 256) (hg : B8 g) (i : Nat) : IntKind.i64.wrap (k * g i) = k * g i := by
  have := mul_bd (A := 255) (B := 255) (show 0 ≤ k ∧ k ≤ 255 by omega) (show 0 ≤ g i ∧ g i ≤ 255 by have := hg i; omega)
  exact w64 (by omega) (by omega)
theorem w_fkg {f g : Nat → Int} {k : Int} (hf : B8 f) (hk : 0 ≤ k ∧ k < 256) (hg : B8 g) (i : Nat) : IntKind.i64.wrap (f i - k * g i) = f i - k * g i := by
  have := mul_bd (A := 255) (B := 255) (show 0 ≤ k ∧ k ≤ 255 by omega) (show 0 ≤ g i ∧ g i ≤ 255 by have := hg i; omega)
  have := hf i
  exact w64 (by omega) (by omega)
theorem w_fk {f : Nat → Int} {k : Int} (hf : B8 f) (hk : 0 ≤ k ∧ k < 256) (i : Nat) : IntKind.i64.wrap (f i * k) = f i * k := by
  rw [Int.mul_comm]; exact w_kg hk hf i
theorem scaled_tmod {f : Nat → Int} {p k : Int} (hf : B8 f) (hk : 0 ≤ k ∧ k < 256) (i : Nat) : (f i * k).tmod p = scaledF p f k i := by
  have := mul_bd (A := 255) (B := 255) (show 0 ≤ f i ∧ f i ≤ 255 by have := hf i; omega) (show 0 ≤ k ∧ k ≤ 255 by omega)
  rw [Int.tmod_eq_emod_of_nonneg this.1, scaledF]
theorem emod_B {p x : Int} (hp : 0 < p) (hp2 : p ≤ 256) : 0 ≤ x % p ∧ x % p < 256 := by
  have h1 := Int.emod_nonneg x (show p ≠ 0 by omega)
  have h2 := Int.emod_lt_of_pos x hp
  omega
theorem lessF_B8 {p : Int} (hp : 0 < p) (hp2 : p ≤ 256) (f g : Nat → Int) (k : Int) : B8 (lessF p f g k) := fun i => emod_B hp hp2
theorem scaledF_B8 {p : Int} (hp : 0 < p) (hp2 : p ≤ 256) (f : Nat → Int) (k : Int) : B8 (scaledF p f k) := fun i => emod_B hp hp2
theorem powF_bd {x p : Int} (hx : 0 ≤ x) (hp : 1 < p) : ∀ k, 0 ≤ powF x p k ∧ powF x p k < p
  | 0 => by simp [powF]; exact hp
  | k + 1 => ⟨Int.emod_nonneg _ (by omega), Int.emod_lt_of_pos _ (by omega)⟩
theorem w_pow {x p : Int} (hx : 0 ≤ x ∧ x < 256) (hp : 1 < p) (hp2 : p ≤ 256) (k : Nat) : IntKind.i64.wrap (powF x p k * x) = powF x p k * x := by
  have h := powF_bd hx.1 hp k
  have := mul_bd (A := 255) (B := 255) (show 0 ≤ powF x p k ∧ powF x p k ≤ 255 by omega) (show 0 ≤ x ∧ x ≤ 255 by omega)
  exact w64 (by omega) (by omega)
theorem pow_tmod {x p : Int} (hx : 0 ≤ x ∧ x < 256) (hp : 1 < p) (k : Nat) : (powF x p k * x).tmod p = powF x p (k + 1) := by
  have h := powF_bd hx.1 hp k
  rw [Int.tmod_eq_emod_of_nonneg (Int.mul_nonneg h.1 hx.1)]; rfl
theorem invF_bd {p x : Int} (hx : 0 ≤ x) (hp : 1 < p) : 0 ≤ invF p x ∧ invF p x < p := powF_bd hx hp _
def invS (p x : Int) : Int := if idxF (fun k => decide ((k : Int) * x % p = 1)) p.toNat < 0 then 0 else idxF (fun k => decide ((k : Int) * x % p = 1)) p.toNat
def invTest (p : Nat) : Bool := (List.range p).all fun x => Nat.beq x 0 || (decide (invS p x = invF p x) && decide (invF p x * x % p = 1))
theorem inv_all : [2, 3, 5, 7, 11, 13].all invTest = true := by decide
theorem inv_ok {p x : Int} (hp : primeB p = true) (hx : 0 < x) (hx2 : x < p) : invS p x = invF p x ∧ invF p x * x % p = 1 := by
  have hm : ∃ q : Nat, p = q ∧ q ∈ [2, 3, 5, 7, 11, 13] := by
    simp only [primeB, Bool.or_eq_true, decide_eq_true_eq] at hp
    rcases hp with (((((h | h) | h) | h) | h) | h)
    · exact ⟨2, h, by simp⟩
    · exact ⟨3, h, by simp⟩
    · exact ⟨5, h, by simp⟩
    · exact ⟨7, h, by simp⟩
    · exact ⟨11, h, by simp⟩
    · exact ⟨13, h, by simp⟩
  obtain ⟨q, rfl, hq⟩ := hm
  have h := List.all_eq_true.1 inv_all q hq
  unfold invTest at h
  have := List.all_eq_true.1 h x.toNat (by simp; omega)
  simp only [Bool.or_eq_true, Bool.and_eq_true, decide_eq_true_eq] at this
  rw [show ((x.toNat : Nat) : Int) = x by omega] at this
  rcases this with h0 | h1
  · have := Nat.eq_of_beq_eq_true h0; omega
  · exact h1
theorem w_inv {p x : Int} {i : Nat} (hi : (i : Int) < p) (hxp : x % p = x) (hx : 0 < x) (hx2 : x < p) (hp : p ≤ 13) : IntKind.i64.wrap ((i : Int) * (x % p)) = i * x := by
  rw [hxp]
  have := mul_bd (A := 255) (B := 255) (show 0 ≤ (i : Int) ∧ (i : Int) ≤ 255 by omega) (show 0 ≤ x ∧ x ≤ 255 by omega)
  exact w64 (by omega) (by omega)
theorem inv_tmod {p x : Int} {i : Nat} (hx : 0 < x) : ((i : Int) * x).tmod p = i * x % p :=
  Int.tmod_eq_emod_of_nonneg (Int.mul_nonneg (Int.natCast_nonneg i) (by omega))
end Go.Am

namespace Go.Am
section
variable {P : Program} {T : TT}
theorem WOps_run (hT : TOk P T) (arr : Array Oper) {N : Nat} {X : Cx} (hP : X.P = P) (hTT : X.T = T) {Q : Exit → Act → World → Prop} {rest : List Oper} {K : Env → OL → Prop}
    (hK : ∀ env ol κ (a : Act) w, K env ol → Rel X κ ol.ob w → EnvR (KK X κ ol.ob w) env a.tmps → a.tmps.size = N → a.defers = [] → wpList P arr Q rest a w) :
    ∀ (ops : List Oper) (env : Env) (ol : OL), WOps P T arr ops env ol K → dstOk N ops = true →
    ∀ (κ : Gh) (a : Act) (w : World), Rel X κ ol.ob w → EnvR (KK X κ ol.ob w) env a.tmps → a.tmps.size = N → a.defers = [] → wpList P arr Q (ops ++ rest) a w
  | [], env, ol, h, _, κ, a, w, hR, hE, hN, hD => hK env ol κ a w h hR hE hN hD
  | o :: r, env, ol, h, hdst, κ, a, w, hR, hE, hN, hD => by
    simp only [dstOk, List.all_cons, Bool.and_eq_true] at hdst
    have hlt : ∀ t, o.dst = some t → t < a.tmps.size := fun t ht => by
      have := hdst.1
      rw [ht] at this
      rw [hN]; simpa [Nat.blt_eq] using this
    have run : WOp P T o (evE env) ol (fun v ol' => WOps P T arr r (putE o.dst v env) ol' K) → o.wp P a w (wpList P arr Q (r ++ rest)) Q := by
      intro hw
      obtain ⟨v, ol', h1, h2⟩ := WOp_out hT hw
      have := h2 X κ w a hP hTT hR hE
      unfold Oper.wp
      rw [← hP]
      rw [← hP] at this
      refine upon_of_Out this (fun c w' κ' hR' hv hle => ?_)
      rw [hP]
      exact WOps_run hT arr hP hTT hK r _ ol' h1 hdst.2 κ' _ w' hR' ((hE.mono hle).put hv hlt) (by rw [Act.put_size]; exact hN) (by rw [Act.put_defers]; exact hD)
    have skip : WOps P T arr r (putE o.dst undA env) ol K → wpList P arr Q (r ++ rest) (a.put o.dst undef) w := fun hw =>
      WOps_run hT arr hP hTT hK r _ ol hw hdst.2 κ _ w hR (hE.put (undA_ok _) hlt) (by rw [Act.put_size]; exact hN) (by rw [Act.put_defers]; exact hD)
    unfold WOps at h
    rw [List.cons_append]
    unfold wpList
    split at h
    · rename_i hg
      rw [if_pos (by simp [Region.wanted, hg])]
      exact .inl (run h)
    · rename_i j want hg
      split at h
      · rename_i d hd
        split at h
        · rename_i b hb
          have hy := yielded_of hd hE hb (dst_lt_of_eq hE hb)
          split at h
          · rename_i hbw
            have : b = want := by simpa using hbw
            subst this
            rw [if_pos (by simp [Region.wanted, hg, hy])]
            exact .inl (run h)
          · rename_i hbw
            have : b ≠ want := by simpa using hbw
            rw [if_neg (by simp [Region.wanted, hg, hy, this])]
            exact skip h
        · rename_i f hb
          have hy := yielded_none hd hE hb
          rw [if_neg (by simp [Region.wanted, hg, hy])]
          exact skip h
        · exact h.elim
      · exact h.elim
def MidJ (P : Program) (T : TT) (o : Oper) (env : Env) (ol : OL) (v : AV) (ol' : OL) : Prop :=
  ∀ (X : Cx) (κ : Gh) (w : World) (a : Act), X.P = P → X.T = T → Rel X κ ol.ob w → EnvR (KK X κ ol.ob w) env a.tmps → Out X κ ol.ob w ol'.ob v ((execOp a.eval o).run P w)
theorem srD (hT : TOk P T) {N id : Nat} {ops : Array Oper} {ops1 ops2 : List Oper} {o : Oper} {y : Code} {env env1 env' : Env} {ol ol1 ol2 ol' : OL} {v : AV} {Q : Exit → Env → OL → Prop} (hd : dstOk N ops.toList = true)
    (hops : ops.toList = ops1 ++ o :: ops2) (hg : o.guard = none)
    (h1 : ∀ R : Env → OL → Prop, R env1 ol1 → WOps P T ops ops1 env ol R) (hm : MidJ P T o env1 ol1 v ol2)
    (h2 : ∀ R : Env → OL → Prop, R env' ol' → WOps P T ops ops2 (putE o.dst v env1) ol2 R)
    (hy : Snd P T N y env' ol' Q) : Snd P T N (.seq (.region id ops false) y) env ol Q := by
  refine snd_seq ?_
  intro X κ a w hP hTT hR hE hN hD
  refine wp_region_list ?_
  rw [hops] at hd ⊢
  simp only [dstOk, List.all_append, List.all_cons, Bool.and_eq_true] at hd
  have hlt : ∀ (a : Act), a.tmps.size = N → ∀ t, o.dst = some t → t < a.tmps.size := fun a hN t ht => by
    have := hd.2.1
    rw [ht] at this
    rw [hN]; simpa [Nat.blt_eq] using this
  refine WOps_run hT ops hP hTT (K := fun e l => e = env1 ∧ l = ol1) ?_ ops1 env ol (h1 _ ⟨rfl, rfl⟩) hd.1 κ a w hR hE hN hD
  rintro e l κ1 a1 w1 ⟨rfl, rfl⟩ hR1 hE1 hN1 hD1
  unfold wpList
  rw [if_pos (by simp [Region.wanted, hg])]
  refine .inl ?_
  unfold Oper.wp
  have := hm X κ1 w1 a1 hP hTT hR1 hE1
  rw [← hP]
  rw [← hP] at this
  refine upon_of_Out this (fun c w' κ' hR' hv hle => ?_)
  rw [hP]
  have := WOps_run hT ops hP hTT (rest := []) (Q := QQ X N (thn P T N y Q)) (K := thn P T N y Q .normal) (N := N) (fun e l κ' a' w' h hR hE hN hD => ⟨κ', e, l, h, hR, hE, hN, hD⟩)
    ops2 _ _ (h2 _ hy) hd.2.2 κ' (a1.put o.dst c) w' hR' ((hE1.mono hle).put hv (hlt a1 hN1)) (by rw [Act.put_size]; exact hN1) (by rw [Act.put_defers]; exact hD1)
  rwa [List.append_nil] at this
def setL (cur : Array Value) : Nat → List Value → Array Value
  | _, [] => cur
  | o, v :: r => setL (cur.setIfInBounds o v) (o + 1) r
theorem setL_size : ∀ (vs : List Value) (o : Nat) (cur : Array Value), (setL cur o vs).size = cur.size
  | [], _, _ => rfl
  | v :: r, o, cur => by simp [setL, setL_size r]
theorem setL_get : ∀ (vs : List Value) (o : Nat) (cur : Array Value) (j : Nat), o + vs.length ≤ cur.size → (setL cur o vs)[j]? = if o ≤ j ∧ j < o + vs.length then vs[j - o]? else cur[j]?
  | [], o, cur, j, _ => by
    rw [if_neg (by simp)]; rfl
  | v :: r, o, cur, j, h => by
    simp only [List.length_cons] at h
    rw [setL, setL_get r (o + 1) _ j (by simp; omega)]
    by_cases h1 : j = o
    · subst h1
      rw [if_neg (by omega), if_pos (by simp), Nat.sub_self]
      simp [show j < cur.size by omega]
    · by_cases h2 : o + 1 ≤ j ∧ j < o + 1 + r.length
      · rw [if_pos h2, if_pos (by simp; omega), show j - o = (j - (o + 1)) + 1 by omega]
        simp
      · rw [if_neg h2, if_neg (by simp; omega), Array.getElem?_setIfInBounds_ne (Ne.symm h1)]
theorem setCells_facts (b : Nat) : ∀ (vs : List Value) (o : Nat) (w : World) (cur : Array Value) (e : TypeId) (fr : Nat × Nat), w.heap[b]? = some (.cells cur e fr) →
    (w.setCells b o vs).heap[b]? = some (.cells (setL cur o vs) e fr) ∧ (∀ b', b' ≠ b → (w.setCells b o vs).heap[b']? = w.heap[b']?) ∧ (w.setCells b o vs).heap.size = w.heap.size ∧
    (w.setCells b o vs).os = w.os ∧ (w.setCells b o vs).tape = w.tape ∧ (w.setCells b o vs).output = w.output
  | [], o, w, cur, e, fr, h => ⟨h, fun _ _ => rfl, rfl, rfl, rfl, rfl⟩
  | v :: r, o, w, cur, e, fr, h => by
    have h1 : (w.setCell ⟨b, o, none⟩ v).heap[b]? = some (.cells (cur.setIfInBounds o v) e fr) := by
      simp [World.setCell, Array.getElem?_modify, h]
    obtain ⟨q1, q2, q3, q4, q5, q6⟩ := setCells_facts b r (o + 1) _ _ _ _ h1
    refine ⟨q1, fun b' hne => (q2 b' hne).trans ?_, q3.trans ?_, q4, q5, q6⟩
    · simp [World.setCell, Array.getElem?_modify, Ne.symm hne]
    · simp [World.setCell]
def DelC (P : Program) (f : FuncId) (z : Value) : Prop :=
  ∀ (w : World) (b cap n a : Nat) (cur : Array Value) (e : TypeId), w.heap[b]? = some (.cells cur e (0, 0)) → n ≤ cap → cap ≤ maxLen → cur.size = cap → a < n → (∀ u ∈ cur.toList.take n, u.oneCell' = true) →
    Calls P f #[.slice (some ⟨b, 0, none⟩) n cap, .int .i64 a, .int .i64 ((a : Int) + 1)] w (fun x w' => x = .returned (.slice (some ⟨b, 0, none⟩) (n - 1) cap) ∧
      w' = ((w.drew.setCells b (0 + a * 1) ((cur.toList.drop (a + 1)).take (n - 1 - a))).setCells b (0 + (n - 1)) [z]))
theorem flat_one {g : Nat → List Value} {c : Nat → Value} (n : Nat) (h : ∀ i, i < n → g i = [c i]) : ∀ j, (flat g n)[j]? = if j < n then some (c j) else none := by
  induction n with
  | zero => intro j; simp [flat]
  | succ n ih =>
    intro j
    have hlen : (flat g n).length = n := by
      rw [flat_len, sumTo_congr (g := fun _ => 1) (fun i hi => by rw [h i (by omega)]; rfl), sumTo_const]; omega
    simp only [flat]
    rw [List.getElem?_append, hlen, ih (fun i hi => h i (by omega)), h n (by omega)]
    by_cases h1 : j < n
    · rw [if_pos h1, if_pos h1, if_pos (by omega)]
    · rw [if_neg h1]
      by_cases h2 : j = n
      · subst h2; simp
      · rw [if_neg (by omega)]
        have : 0 < j - n := by omega
        cases hq : j - n with
        | zero => omega
        | succ q => simp
def cutR {α : Type} (f : Nat → α) (a : Nat) : Nat → α := fun i => if i < a then f i else f (i + 1)
theorem del_mid (hT : TOk P T) {f : FuncId} {z : Value} (hE : Ent P f) (hdel : DelC P f z) {e : TypeId} (he : (T.und e).known = true) (hz1 : T.sz e = 1) {dst : Option Nat} {ty : TypeId} {pos : String} {af : Array Edge} {gu : Option (Nat × Bool)} {s x y : Nat} {aty : Array TypeId}
    {env : Env} {ol : OL} {k n a key : Nat} {F : Nat → AV} (hs : get env s = .own k 0 n e) (hx : get env x = .int .i64 a) (hy : get env y = .int .i64 ((a : Int) + 1)) (hat : ol.at_ k 0 = some (.arr n (fun _ => T.zero e), .arr n F)) (ha : a < n) (hkey : ol.has key = false) :
    MidJ P T ⟨dst, .call { callee := .value (.func f), args := #[.tmp s, .tmp x, .tmp y], argTypes := aty }, ty, pos, af, gu⟩ env ol (.own key 0 (n - 1) e)
      ((key, .one (.arr (n - 1) (fun _ => T.zero e)) (.arr (n - 1) (cutR F a))) :: ol.set k 0 none) := by
  intro X κ w act hP hTT hR hEn
  have vs := hEn s; rw [hs] at vs
  have vx := hEn x; rw [hx] at vx
  have vy := hEn y; rw [hy] at vy
  obtain ⟨hd, hn, cap, cur, fr, e1, c1, c2, c3, c4⟩ := VR_own vs
  obtain ⟨cur', el, l1, l2, l3, l4, l5⟩ := hR.live k 0 _ _ hat
  have c3' : w.heap[κ.blk k 0]? = some (.cells cur e fr) := c3
  rw [l1] at c3'
  simp only [Option.some.injEq, Obj.cells.injEq] at c3'
  obtain ⟨rfl, rfl, rfl⟩ := c3'
  obtain ⟨_, _, _, _, _, _, _, _, _, hss, hz9, hpos⟩ := hT.info el he
  have hFs : ∀ i, (F i).size = 1 := fun i => by rw [← hz1, ← hz9]; exact (ssh_size (l4.2 i)).symm
  have hsz : (AV.arr n F).size = n := by show n * (F 0).size = n; rw [hFs]; omega
  rw [hsz] at l2 l3
  obtain ⟨gf, q1, q2⟩ := l3
  have hlen : ∀ i, i < n → (gf i).length = 1 := fun i hi => by rw [(q2 i hi).2]; exact hFs 0
  have hc4 : cur'.size = cap := by rw [show cur'.size = cap * X.T.sz el from c4, hTT, hz1]; omega
  let c : Nat → Value := fun i => cur'.getD i undef
  have htk : ∀ j, (flat gf n)[j]? = if j < n then some (c j) else none := by
    intro j
    rw [← q1, List.getElem?_take]
    by_cases hj : j < n
    · rw [if_pos hj, if_pos hj]
      simp [c, show j < cur'.size by omega]
    · rw [if_neg hj, if_neg hj]
  have hgf : ∀ i, i < n → gf i = [c i] := by
    intro i hi
    have h1 := hlen i hi
    match hg : gf i, h1 with
    | [v], _ =>
      have : ∀ m, (∀ i, i < m → (gf i).length = 1) → (flat gf m).length = m := fun m hm => by
        rw [flat_len, sumTo_congr (g := fun _ => 1) hm, sumTo_const]; omega
      obtain ⟨post, hp, _⟩ := flat_split gf hi
      have h2 := htk i
      rw [hp, List.getElem?_append_right (by rw [this i (fun j hj => hlen j (by omega))]; exact Nat.le_refl _), this i (fun j hj => hlen j (by omega)), Nat.sub_self, hg, if_pos hi] at h2
      simp at h2
      rw [h2]
  have hone : ∀ u ∈ cur'.toList.take n, u.oneCell' = true := by
    intro u hu
    rw [q1] at hu
    obtain ⟨j, hj, hm⟩ := mem_flat hu
    exact FL_one (q2 j hj).1 u hm
  have hrun : (execOp act.eval ⟨dst, .call { callee := .value (.func f), args := #[.tmp s, .tmp x, .tmp y], argTypes := aty }, ty, pos, af, gu⟩).run P w = .ok (.enter f #[.slice (some ⟨κ.blk k 0, 0, none⟩) n cap, .int .i64 a, .int .i64 ((a : Int) + 1)]) w := by
    have h0 := hE #[.slice (some ⟨κ.blk k 0, 0, none⟩) n cap, .int .i64 a, .int .i64 ((a : Int) + 1)] w
    have e1' : act.tmps.getD s undef = .slice (some ⟨κ.blk k 0, 0, none⟩) n cap := e1
    have hargs : (#[.tmp s, .tmp x, .tmp y] : Array Operand).map act.eval = #[.slice (some ⟨κ.blk k 0, 0, none⟩) n cap, .int .i64 a, .int .i64 ((a : Int) + 1)] := by
      simp [Act.eval]
      exact ⟨by simpa using e1', by simpa using VR_int vx, by simpa using VR_int vy⟩
    have hf : act.eval (.func f) = .func (.func f) #[] #[] := rfl
    simp only [execOp, resolve, hf, hargs, Deferred.ofValue, Sem.run_bind, Sem.run_pure, Result.andThen_ok, invoke]
    simpa using h0
  rw [hrun]
  show Calls X.P f _ w _
  rw [hP]
  refine Calls.mono (hdel w (κ.blk k 0) cap n a cur' el l1 c1 c2 hc4 ha hone) ?_
  rintro ex w' ⟨rfl, rfl⟩
  generalize hnews : (cur'.toList.drop (a + 1)).take (n - 1 - a) = news
  have hnl : news.length = n - 1 - a := by rw [← hnews]; simp; omega
  have hng : ∀ j, news[j]? = if j < n - 1 - a then some (c (a + 1 + j)) else none := by
    intro j
    rw [← hnews, List.getElem?_take]
    by_cases hj : j < n - 1 - a
    · rw [if_pos hj, if_pos hj, List.getElem?_drop]
      simp [c, show a + 1 + j < cur'.size by omega]
    · rw [if_neg hj, if_neg hj]
  obtain ⟨s1, s2, s3, s4, s5, s6⟩ := setCells_facts (κ.blk k 0) news (0 + a * 1) w.drew cur' el (0, 0) l1
  obtain ⟨t1, t2, t3, t4, t5, t6⟩ := setCells_facts (κ.blk k 0) [z] (0 + (n - 1)) _ _ el (0, 0) s1
  generalize hw' : ((w.drew.setCells (κ.blk k 0) (0 + a * 1) news).setCells (κ.blk k 0) (0 + (n - 1)) [z]) = w' at *
  generalize hcur2 : setL (setL cur' (0 + a * 1) news) (0 + (n - 1)) [z] = cur2 at *
  have hsz2 : cur2.size = cur'.size := by rw [← hcur2, setL_size, setL_size]
  have hget : ∀ j, j < n - 1 → cur2[j]? = some (c (if j < a then j else j + 1)) := by
    intro j hj
    rw [← hcur2, setL_get _ _ _ _ (by rw [setL_size]; simp; omega), if_neg (by simp; omega), setL_get _ _ _ _ (by omega)]
    by_cases hja : j < a
    · rw [if_neg (by omega), if_pos hja]
      simp [c, show j < cur'.size by omega]
    · rw [if_pos (by omega), if_neg hja, hng, if_pos (by omega)]
      congr 2
      omega
  have htake : cur2.toList.take (n - 1) = flat (fun i => gf (if i < a then i else i + 1)) (n - 1) := by
    apply List.ext_getElem?
    intro j
    rw [flat_one (c := fun i => c (if i < a then i else i + 1)) (n - 1) (fun i hi => hgf _ (by split <;> omega)), List.getElem?_take]
    by_cases hj : j < n - 1
    · rw [if_pos hj, if_pos hj]
      have := hget j hj
      rwa [← Array.getElem?_toList] at this
    · rw [if_neg hj, if_neg hj]
  have hcutsz : ∀ i, (cutR F a i).size = 1 := fun i => by unfold cutR; split <;> exact hFs _
  have hszc : (AV.arr (n - 1) (cutR F a)).size = n - 1 := by show (n - 1) * (cutR F a 0).size = n - 1; rw [hcutsz]; omega
  obtain ⟨r1, r2⟩ := Rel.repl (κ := κ) (w' := w') (key := key) (b := κ.blk k 0) (sh := .arr (n - 1) (fun _ => T.zero el)) (c := .arr (n - 1) (cutR F a)) (cur := cur2) (e := el)
    hR hat hkey (t4.trans s4) (t5.trans s5) (t6.trans s6) (by rw [t3, s3]; exact Nat.le_refl _) (fun b' _ hne => (t2 b' hne).trans (s2 b' hne)) (.inl rfl) t1
    (fun c0 e0 f0 h0 => by rw [l1] at h0; simp only [Option.some.injEq, Obj.cells.injEq] at h0; obtain ⟨rfl, rfl, rfl⟩ := h0; exact ⟨rfl, hsz2⟩)
    (fun K' hle => by
      rw [hszc]
      refine ⟨_, htake, fun j hj => ?_⟩
      rw [hcutsz]
      unfold cutR
      by_cases hja : j < a
      · rw [if_pos hja, if_pos hja]; exact ⟨FL_mono hle (q2 j (by omega)).1, hlen j (by omega)⟩
      · rw [if_neg hja, if_neg hja]; exact ⟨FL_mono hle (q2 (j + 1) (by omega)).1, hlen (j + 1) (by omega)⟩)
    (by rw [hszc]; omega) ⟨rfl, fun i => by unfold cutR; split <;> exact l4.2 _⟩
  refine ⟨_, _, rfl, r1, ⟨_, rfl, by show OL.has _ key = true; rw [cons_has]; simp, by show (κ.set key (κ.blk k 0) (.arr (n - 1) (fun _ => T.zero el))).shp key 0 = .arr (n - 1) (fun _ => X.T.zero el); rw [Gh.set_shp, hTT], cap, cur2, (0, 0), ?_, by omega, c2, ?_, ?_⟩, r2⟩
  · show _ = Value.slice (some ⟨(κ.set key (κ.blk k 0) (.arr (n - 1) (fun _ => T.zero el))).blk key 0, 0, none⟩) (n - 1) cap
    rw [Gh.set_blk]
  · show w'.heap[(κ.set key (κ.blk k 0) (.arr (n - 1) (fun _ => T.zero el))).blk key 0]? = _
    rw [Gh.set_blk]; exact t1
  · show cur2.size = cap * X.T.sz el
    rw [hTT, hsz2, hz1]; omega
end
end Go.Am

namespace Go.Am
structure RS where
  nl : Nat
  L : Nat → Nat → Int
  no : Nat
  O : Nat → Nat → Int
def redHit (p : Int) (c : Nat) (s : RS) (k : Nat) : RS :=
  ⟨s.nl - 1, fun i => lessF p (cutR s.L k i) (scaledF p (s.L k) (invF p (s.L k c))) (cutR s.L k i c), s.no + 1,
    fun i => if i = s.no then scaledF p (s.L k) (invF p (s.L k c)) else lessF p (s.O i) (scaledF p (s.L k) (invF p (s.L k c))) (s.O i c)⟩
def redStep (p : Int) (c : Nat) (s : RS) : RS :=
  if idxF (fun i => decide (s.L i c ≠ 0)) s.nl < 0 then s else redHit p c s (idxF (fun i => decide (s.L i c ≠ 0)) s.nl).toNat
def redGo (p : Int) (n : Nat) (R : Nat → Nat → Int) : Nat → RS
  | 0 => ⟨n, R, 0, fun _ _ => 0⟩
  | c + 1 => redStep p c (redGo p n R c)
theorem red_miss {p : Int} {n : Nat} {R : Nat → Nat → Int} {c : Nat} (h : idxF (fun i => decide ((redGo p n R c).L i c ≠ 0)) (redGo p n R c).nl < 0) : redGo p n R (c + 1) = redGo p n R c := by
  show redStep p c (redGo p n R c) = _
  unfold redStep
  rw [if_pos h]
theorem red_hit {p : Int} {n : Nat} {R : Nat → Nat → Int} {c k : Nat} (h : idxF (fun i => decide ((redGo p n R c).L i c ≠ 0)) (redGo p n R c).nl = k) : redGo p n R (c + 1) = redHit p c (redGo p n R c) k := by
  show redStep p c (redGo p n R c) = _
  unfold redStep
  rw [h, if_neg (by omega)]
  simp
theorem red_counts (p : Int) (n : Nat) (R : Nat → Nat → Int) : ∀ c, (redGo p n R c).nl ≤ n ∧ (redGo p n R c).no ≤ c ∧ (redGo p n R c).no + (redGo p n R c).nl = n
  | 0 => ⟨Nat.le_refl _, Nat.le_refl _, Nat.zero_add _⟩
  | c + 1 => by
    have h := red_counts p n R c
    rcases idx_cases (fun i => decide ((redGo p n R c).L i c ≠ 0)) (redGo p n R c).nl with ⟨k, hk, _, _, he⟩ | ⟨_, he⟩
    · rw [red_hit he]
      simp only [redHit]
      omega
    · rw [red_miss (by rw [he]; omega)]
      omega
theorem red_B8 {p : Int} (hp : 0 < p) (hp2 : p ≤ 256) {n : Nat} {R : Nat → Nat → Int} (hR : ∀ i, B8 (R i)) : ∀ c, (∀ i, B8 ((redGo p n R c).L i)) ∧ ∀ i, B8 ((redGo p n R c).O i)
  | 0 => ⟨hR, fun i j => by show 0 ≤ (0 : Int) ∧ (0 : Int) < 256; omega⟩
  | c + 1 => by
    have h := red_B8 (n := n) hp hp2 hR c
    rcases idx_cases (fun i => decide ((redGo p n R c).L i c ≠ 0)) (redGo p n R c).nl with ⟨k, hk, _, _, he⟩ | ⟨_, he⟩
    · rw [red_hit he]
      refine ⟨fun i => lessF_B8 hp hp2 _ _ _, fun i => ?_⟩
      show B8 (if i = _ then _ else _)
      split
      · exact scaledF_B8 hp hp2 _ _
      · exact lessF_B8 hp hp2 _ _ _
    · rw [red_miss (by rw [he]; omega)]
      exact h
def mixG {α : Type} (F G : Nat → α) (k : Nat) : Nat → α := fun j => if j < k then F j else G j
theorem mixG_lt {α : Type} (F G : Nat → α) {k j : Nat} (h : j < k) : mixG F G k j = F j := if_pos h
theorem mixG_ge {α : Type} (F G : Nat → α) {k j : Nat} (h : k ≤ j) : mixG F G k j = G j := if_neg (by omega)
theorem mixG_self {α : Type} (F G : Nat → α) (k : Nat) : mixG F G k k = G k := if_neg (by omega)
theorem mixG_B8 {F G : Nat → Nat → Int} (hF : ∀ i, B8 (F i)) (hG : ∀ i, B8 (G i)) (k i : Nat) : B8 (mixG F G k i) := by
  unfold mixG; split
  · exact hF i
  · exact hG i
theorem cutR_B8 {F : Nat → Nat → Int} (hF : ∀ i, B8 (F i)) (k i : Nat) : B8 (cutR F k i) := by
  unfold cutR; split <;> exact hF _
theorem mt_put {V : Vw} {n i : Nat} {F f : Nat → AV} {v : AV} (h1 : ∀ a, a < n → a ≠ i → Mt V (F a) (f a)) (h2 : Mt V (F i) v) : Mt V (.arr n F) (put (.arr n f) [i] v) := by
  refine ⟨rfl, fun a ha => ?_⟩
  by_cases h : a = i
  · subst h; simp only [Nat.beq_refl, cond_true, put_nil]; exact h2
  · simp only [beq_ff h, cond_false]; exact h1 a ha h
theorem cutR_map {α β : Type} (G : α → β) (f : Nat → α) (k a : Nat) : cutR (fun i => G (f i)) k a = G (cutR f k a) := by unfold cutR; split <;> rfl
theorem ne_fst {a b : Nat × Nat} (h : Nat.beq a.1 b.1 = false) : a ≠ b := fun e => by subst e; simp at h
end Go.Am

namespace Go.Am
theorem sumZ_zero : ∀ m, sumZ (fun _ => 0) m = 0
  | 0 => rfl
  | m + 1 => by simp only [sumZ, sumZ_zero m]; rfl
def dot (m : Nat) (f x : Nat → Int) : Int := sumZ (fun j => f j * x j) m
theorem dot_sub (f g x : Nat → Int) (k : Int) : ∀ m, dot m (fun j => f j - k * g j) x = dot m f x - k * dot m g x
  | 0 => by simp [dot, sumZ]
  | m + 1 => by
    have h := dot_sub f g x k m
    simp only [dot, sumZ] at h ⊢
    rw [h, Int.sub_mul, Int.mul_add, Int.mul_assoc]; omega
theorem dot_mul (f x : Nat → Int) (k : Int) : ∀ m, dot m (fun j => f j * k) x = k * dot m f x
  | 0 => by simp [dot, sumZ]
  | m + 1 => by
    have h := dot_mul f x k m
    simp only [dot, sumZ] at h ⊢
    rw [h, Int.mul_add, Int.mul_comm (f m) k, Int.mul_assoc]
theorem dot_dvd {p : Int} {f g : Nat → Int} (x : Nat → Int) : ∀ m, (∀ j, j < m → p ∣ f j - g j) → p ∣ dot m f x - dot m g x
  | 0, _ => by simp [dot, sumZ]
  | m + 1, h => by
    have h1 := dot_dvd x m (fun j hj => h j (by omega))
    have h2 := Int.dvd_mul_of_dvd_left (h m (by omega)) (c := x m)
    simp only [dot, sumZ] at h1 ⊢
    have := Int.dvd_add h1 h2
    rw [Int.sub_mul] at this
    rwa [show ∀ a b c d : Int, a + c - (b + d) = a - b + (c - d) by intros; omega]
theorem dvd_mod (p a : Int) : p ∣ a % p - a := by
  have := Int.emod_add_mul_ediv a p
  exact ⟨-(a / p), by rw [Int.mul_neg]; omega⟩
theorem dot_less {p : Int} (f g : Nat → Int) (k : Int) (x : Nat → Int) (m : Nat) : p ∣ dot m (lessF p f g k) x - (dot m f x - k * dot m g x) := by
  rw [← dot_sub]
  exact dot_dvd x m (fun j _ => dvd_mod p _)
theorem dot_scaled {p : Int} (f : Nat → Int) (k : Int) (x : Nat → Int) (m : Nat) : p ∣ dot m (scaledF p f k) x - k * dot m f x := by
  rw [← dot_mul]
  exact dot_dvd x m (fun j _ => dvd_mod p _)
def Z (p : Int) (m : Nat) (f x : Nat → Int) : Prop := p ∣ dot m f x
theorem Z_less {p : Int} {m : Nat} {f g x : Nat → Int} {k : Int} (hg : Z p m g x) : Z p m (lessF p f g k) x ↔ Z p m f x := by
  have h := dot_less (p := p) f g k x m
  have hk : p ∣ k * dot m g x := Int.dvd_mul_of_dvd_right hg
  unfold Z
  constructor
  · intro h1
    have h2 := Int.dvd_sub h1 h
    rw [show dot m (lessF p f g k) x - (dot m (lessF p f g k) x - (dot m f x - k * dot m g x)) = dot m f x - k * dot m g x by omega] at h2
    have h3 := Int.dvd_add h2 hk
    rwa [show dot m f x - k * dot m g x + k * dot m g x = dot m f x by omega] at h3
  · intro h1
    have h2 := Int.dvd_add h (Int.dvd_sub h1 hk)
    rwa [show dot m (lessF p f g k) x - (dot m f x - k * dot m g x) + (dot m f x - k * dot m g x) = dot m (lessF p f g k) x by omega] at h2
theorem Z_scaled {p : Int} {m : Nat} {f x : Nat → Int} {k q : Int} (hk : p ∣ k * q - 1) : Z p m (scaledF p f k) x ↔ Z p m f x := by
  have h := dot_scaled (p := p) f k x m
  unfold Z
  constructor
  · intro h1
    have h2 := Int.dvd_sub h1 h
    rw [show dot m (scaledF p f k) x - (dot m (scaledF p f k) x - k * dot m f x) = k * dot m f x by omega] at h2
    have h3 : p ∣ q * (k * dot m f x) := Int.dvd_mul_of_dvd_right h2
    have h4 : p ∣ (k * q - 1) * dot m f x := Int.dvd_mul_of_dvd_left hk
    have h5 := Int.dvd_sub h3 h4
    rwa [show q * (k * dot m f x) - (k * q - 1) * dot m f x = dot m f x by rw [Int.sub_mul, ← Int.mul_assoc, Int.mul_comm q k]; omega] at h5
  · intro h1
    have h2 : p ∣ k * dot m f x := Int.dvd_mul_of_dvd_right h1
    have h3 := Int.dvd_add h h2
    rwa [show dot m (scaledF p f k) x - k * dot m f x + k * dot m f x = dot m (scaledF p f k) x by omega] at h3
theorem inv_dvd {p x : Int} (hp : primeB p = true) (hx : 0 < x) (hx2 : x < p) : p ∣ invF p x * x - 1 := by
  have := (inv_ok hp hx hx2).2
  have h2 := dvd_mod p (invF p x * x)
  rw [this] at h2
  obtain ⟨c, hc⟩ := h2
  exact ⟨-c, by rw [Int.mul_neg]; omega⟩
def Bp (p : Int) (f : Nat → Int) : Prop := ∀ j, 0 ≤ f j ∧ f j < p
theorem less_Bp {p : Int} (hp : 0 < p) (f g : Nat → Int) (k : Int) : Bp p (lessF p f g k) := fun j => ⟨Int.emod_nonneg _ (by omega), Int.emod_lt_of_pos _ hp⟩
theorem scaled_Bp {p : Int} (hp : 0 < p) (f : Nat → Int) (k : Int) : Bp p (scaledF p f k) := fun j => ⟨Int.emod_nonneg _ (by omega), Int.emod_lt_of_pos _ hp⟩
theorem less_zero {p : Int} {f g : Nat → Int} {k : Int} {j : Nat} (hf : Bp p f) (hg : g j = 0) : lessF p f g k j = f j := by
  unfold lessF
  rw [hg, Int.mul_zero, Int.sub_zero]
  exact Int.emod_eq_of_lt (hf j).1 (hf j).2
theorem less_self {p : Int} {f g : Nat → Int} {j : Nat} (hg : g j = 1) : lessF p f g (f j) j = 0 := by
  unfold lessF
  rw [hg, Int.mul_one, Int.sub_self]; rfl
theorem scaled_zero {p : Int} {f : Nat → Int} {k : Int} {j : Nat} (hf : f j = 0) : scaledF p f k j = 0 := by
  unfold scaledF; rw [hf, Int.zero_mul]; rfl
theorem scaled_lead {p : Int} (hp : primeB p = true) {f : Nat → Int} {j : Nat} (h0 : 0 < f j) (h1 : f j < p) : scaledF p f (invF p (f j)) j = 1 := by
  unfold scaledF
  rw [Int.mul_comm]
  exact (inv_ok hp h0 h1).2
def Lead (m : Nat) (f : Nat → Int) (l : Nat) : Prop := l < m ∧ f l = 1 ∧ ∀ j, j < l → f j = 0
structure Rref (p : Int) (m n : Nat) (O : Nat → Nat → Int) (l : Nat → Nat) : Prop where
  bp : ∀ i, i < n → Bp p (O i)
  lead : ∀ i, i < n → Lead m (O i) (l i)
  off : ∀ i j, i < n → j < n → i ≠ j → O j (l i) = 0
  inc : ∀ i j, i < j → j < n → l i < l j
def Null (p : Int) (m n : Nat) (R : Nat → Nat → Int) (x : Nat → Int) : Prop := ∀ i, i < n → Z p m (R i) x
structure RInv (p : Int) (m c : Nat) (s : RS) (l : Nat → Nat) : Prop where
  bl : ∀ i, i < s.nl → Bp p (s.L i)
  zl : ∀ i, i < s.nl → ∀ j, j < c → s.L i j = 0
  rr : Rref p m s.no s.O l
  lc : ∀ i, i < s.no → l i < c
theorem redHit_inv {p : Int} (hp : primeB p = true) {m c : Nat} (hc : c < m) {s : RS} {l : Nat → Nat} (h : RInv p m c s l) {k : Nat} (hk : k < s.nl) (h0 : s.L k c ≠ 0) :
    RInv p m (c + 1) (redHit p c s k) (fun i => if i = s.no then c else l i) ∧ ∀ x, (Null p m (redHit p c s k).nl (redHit p c s k).L x ∧ Null p m (redHit p c s k).no (redHit p c s k).O x) ↔ (Null p m s.nl s.L x ∧ Null p m s.no s.O x) := by
  have hpb := primeB_bd hp
  have hkp : 0 < s.L k c ∧ s.L k c < p := by have := h.bl k hk c; omega
  have hpc : scaledF p (s.L k) (invF p (s.L k c)) c = 1 := scaled_lead hp hkp.1 hkp.2
  have hpz : ∀ j, j < c → scaledF p (s.L k) (invF p (s.L k c)) j = 0 := fun j hj => scaled_zero (h.zl k hk j hj)
  have hpB : Bp p (scaledF p (s.L k) (invF p (s.L k c))) := scaled_Bp (by omega) _ _
  have hcut : ∀ i, i < s.nl - 1 → ∃ i', i' < s.nl ∧ i' ≠ k ∧ cutR s.L k i = s.L i' := by
    intro i hi
    unfold cutR
    by_cases hik : i < k
    · exact ⟨i, by omega, by omega, by rw [if_pos hik]⟩
    · exact ⟨i + 1, by omega, by omega, by rw [if_neg hik]⟩
  have hcut2 : ∀ i', i' < s.nl → i' ≠ k → ∃ i, i < s.nl - 1 ∧ cutR s.L k i = s.L i' := by
    intro i' hi' hne
    unfold cutR
    by_cases hik : i' < k
    · exact ⟨i', by omega, by rw [if_pos hik]⟩
    · exact ⟨i' - 1, by omega, by rw [if_neg (by omega)]; congr 1; omega⟩
  generalize hpv : scaledF p (s.L k) (invF p (s.L k c)) = piv at hpc hpz hpB
  have hOn : (redHit p c s k).O s.no = piv := by simp [redHit, hpv]
  have hOo : ∀ i, i ≠ s.no → (redHit p c s k).O i = lessF p (s.O i) piv (s.O i c) := fun i hi => by simp [redHit, hi, hpv]
  have hL : ∀ i, (redHit p c s k).L i = lessF p (cutR s.L k i) piv (cutR s.L k i c) := fun i => by simp [redHit, hpv]
  refine ⟨⟨fun i hi => ?_, fun i hi j hj => ?_, ⟨fun i hi => ?_, fun i hi => ?_, fun i j hi hj hne => ?_, fun i j hij hj => ?_⟩, fun i hi => ?_⟩, fun x => ?_⟩
  · rw [hL]; exact less_Bp (by omega) _ _ _
  · obtain ⟨i', h1, h2, h3⟩ := hcut i hi
    rw [hL, h3]
    by_cases hjc : j = c
    · subst hjc; exact less_self hpc
    · rw [less_zero (h.bl i' h1) (hpz j (by omega))]; exact h.zl i' h1 j (by omega)
  · by_cases hin : i = s.no
    · rw [hin, hOn]; exact hpB
    · rw [hOo i hin]; exact less_Bp (by omega) _ _ _
  · show Lead m _ (if i = s.no then c else l i)
    by_cases hin : i = s.no
    · rw [if_pos hin, hin, hOn]; exact ⟨hc, hpc, hpz⟩
    · rw [if_neg hin, hOo i hin]
      have hi' : i < s.no := by have : i < s.no + 1 := hi; omega
      obtain ⟨q1, q2, q3⟩ := h.rr.lead i hi'
      have := h.lc i hi'
      refine ⟨q1, ?_, fun j hj => ?_⟩
      · rw [less_zero (h.rr.bp i hi') (hpz _ this)]; exact q2
      · rw [less_zero (h.rr.bp i hi') (hpz _ (by omega))]; exact q3 j hj
  · have hi1 : i < s.no + 1 := hi
    have hj1 : j < s.no + 1 := hj
    show (redHit p c s k).O j (if i = s.no then c else l i) = 0
    by_cases hin : i = s.no
    · rw [if_pos hin, hOo j (by omega)]
      exact less_self hpc
    · rw [if_neg hin]
      have hl := h.lc i (by omega)
      by_cases hjn : j = s.no
      · rw [hjn, hOn]; exact hpz _ hl
      · rw [hOo j hjn, less_zero (h.rr.bp j (by omega)) (hpz _ hl)]
        exact h.rr.off i j (by omega) (by omega) hne
  · have hj1 : j < s.no + 1 := hj
    show (if i = s.no then c else l i) < (if j = s.no then c else l j)
    rw [if_neg (show ¬ i = s.no by omega)]
    by_cases hjn : j = s.no
    · rw [if_pos hjn]; exact h.lc i (by omega)
    · rw [if_neg hjn]; exact h.rr.inc i j hij (by omega)
  · have hi1 : i < s.no + 1 := hi
    show (if i = s.no then c else l i) < c + 1
    split
    · omega
    · have := h.lc i (by omega); omega
  · have hinv : Z p m piv x ↔ Z p m (s.L k) x := by
      rw [← hpv]
      exact Z_scaled (q := s.L k c) (inv_dvd hp hkp.1 hkp.2)
    constructor
    · rintro ⟨h1, h2⟩
      have hz : Z p m piv x := by have := h2 s.no (show s.no < s.no + 1 by omega); rwa [hOn] at this
      refine ⟨fun i' hi' => ?_, fun i hi => ?_⟩
      · by_cases hik : i' = k
        · subst hik; exact hinv.1 hz
        · obtain ⟨i, h3, h4⟩ := hcut2 i' hi' hik
          have := h1 i h3
          rw [hL, h4] at this
          exact (Z_less hz).1 this
      · have := h2 i (show i < s.no + 1 by omega)
        rw [hOo i (by omega)] at this
        exact (Z_less hz).1 this
    · rintro ⟨h1, h2⟩
      have hz : Z p m piv x := hinv.2 (h1 k hk)
      refine ⟨fun i hi => ?_, fun i hi => ?_⟩
      · obtain ⟨i', h3, _, h4⟩ := hcut i hi
        rw [hL, h4]
        exact (Z_less hz).2 (h1 i' h3)
      · have hi1 : i < s.no + 1 := hi
        by_cases hin : i = s.no
        · rw [hin, hOn]; exact hz
        · rw [hOo i hin]; exact (Z_less hz).2 (h2 i (by omega))
theorem red_inv {p : Int} (hp : primeB p = true) {m n : Nat} {R : Nat → Nat → Int} (hR : ∀ i, i < n → Bp p (R i)) : ∀ c, c ≤ m →
    (∃ l, RInv p m c (redGo p n R c) l) ∧ ∀ x, (Null p m (redGo p n R c).nl (redGo p n R c).L x ∧ Null p m (redGo p n R c).no (redGo p n R c).O x) ↔ Null p m n R x
  | 0, _ => ⟨⟨fun _ => 0, ⟨hR, fun i _ j hj => by omega, ⟨fun i hi => absurd hi (Nat.not_lt_zero _), fun i hi => absurd hi (Nat.not_lt_zero _), fun i j hi => absurd hi (Nat.not_lt_zero _), fun i j _ hj => absurd hj (Nat.not_lt_zero _)⟩, fun i hi => absurd hi (Nat.not_lt_zero _)⟩⟩,
      fun x => ⟨fun h => h.1, fun h => ⟨h, fun i hi => absurd hi (Nat.not_lt_zero _)⟩⟩⟩
  | c + 1, hc => by
    obtain ⟨⟨l, h1⟩, h2⟩ := red_inv (m := m) hp hR c (by omega)
    rcases idx_cases (fun i => decide ((redGo p n R c).L i c ≠ 0)) (redGo p n R c).nl with ⟨k, hk, hP, _, he⟩ | ⟨hn, he⟩
    · rw [red_hit he]
      obtain ⟨q1, q2⟩ := redHit_inv hp (show c < m by omega) h1 hk (by simpa using hP)
      exact ⟨⟨_, q1⟩, fun x => (q2 x).trans (h2 x)⟩
    · rw [red_miss (by rw [he]; omega)]
      refine ⟨⟨l, h1.bl, fun i hi j hj => ?_, h1.rr, fun i hi => by have := h1.lc i hi; omega⟩, h2⟩
      by_cases hjc : j = c
      · subst hjc; have := hn i hi; simpa using this
      · exact h1.zl i hi j (by omega)
theorem red_ok {p : Int} (hp : primeB p = true) {m n : Nat} {R : Nat → Nat → Int} (hR : ∀ i, i < n → Bp p (R i)) :
    (∃ l, Rref p m (redGo p n R m).no (redGo p n R m).O l) ∧ ∀ x, Null p m (redGo p n R m).no (redGo p n R m).O x ↔ Null p m n R x := by
  obtain ⟨⟨l, h1⟩, h2⟩ := red_inv hp hR m (Nat.le_refl _)
  refine ⟨⟨l, h1.rr⟩, fun x => ?_⟩
  rw [← h2 x]
  refine ⟨fun h => ⟨fun i hi => ?_, h⟩, fun h => h.2⟩
  have : dot m ((redGo p n R m).L i) x = 0 := by
    unfold dot
    rw [sumZ_congr (g := fun _ => 0) m (fun j hj => by rw [h1.zl i hi j hj, Int.zero_mul])]
    exact sumZ_zero m
  unfold Z
  rw [this]; exact Int.dvd_zero p
theorem dot_one {f x : Nat → Int} {l : Nat} : ∀ m, l < m → (∀ j, j < m → j ≠ l → f j * x j = 0) → dot m f x = f l * x l
  | 0, h, _ => absurd h (Nat.not_lt_zero _)
  | m + 1, h, hz => by
    by_cases hl : l = m
    · subst hl
      simp only [dot, sumZ]
      rw [sumZ_congr (g := fun _ => 0) l (fun j hj => hz j (by omega) (by omega)), sumZ_zero]; omega
    · have := dot_one m (show l < m by omega) (fun j hj hne => hz j (by omega) hne)
      simp only [dot, sumZ] at this ⊢
      rw [this, hz m (by omega) (Ne.symm hl)]; omega
theorem dot_two {f x : Nat → Int} {l c : Nat} (hlc : l ≠ c) : ∀ m, l < m → c < m → (∀ j, j < m → j ≠ l → j ≠ c → f j * x j = 0) → dot m f x = f l * x l + f c * x c
  | 0, h, _, _ => absurd h (Nat.not_lt_zero _)
  | m + 1, h1, h2, hz => by
    by_cases hl : l = m
    · subst hl
      have := dot_one (f := f) (x := x) (l := c) l (by omega) (fun j hj hne => hz j (by omega) (by omega) hne)
      simp only [dot, sumZ] at this ⊢
      rw [this]; omega
    · by_cases hc : c = m
      · subst hc
        have := dot_one (f := f) (x := x) (l := l) c (by omega) (fun j hj hne => hz j (by omega) hne (by omega))
        simp only [dot, sumZ] at this ⊢
        rw [this]
      · have := dot_two hlc m (show l < m by omega) (show c < m by omega) (fun j hj h3 h4 => hz j (by omega) h3 h4)
        simp only [dot, sumZ] at this ⊢
        rw [this, hz m (by omega) (Ne.symm hl) (Ne.symm hc)]; omega
def IsL (n : Nat) (l : Nat → Nat) (c : Nat) : Prop := ∃ i, i < n ∧ l i = c
noncomputable instance (n : Nat) (l : Nat → Nat) (c : Nat) : Decidable (IsL n l c) := Classical.propDecidable _
noncomputable def solC (n : Nat) (O : Nat → Nat → Int) (l : Nat → Nat) (c : Nat) : Nat → Int := fun j =>
  if j = c then 1 else if h : ∃ i, i < n ∧ l i = j then - O h.choose c else 0
theorem solC_self (n : Nat) (O : Nat → Nat → Int) (l : Nat → Nat) (c : Nat) : solC n O l c c = 1 := by simp [solC]
theorem solC_lead {p : Int} {m n : Nat} {O : Nat → Nat → Int} {l : Nat → Nat} (h : Rref p m n O l) {c : Nat} (hc : ¬ IsL n l c) {i : Nat} (hi : i < n) : solC n O l c (l i) = - O i c := by
  have hne : l i ≠ c := fun e => hc ⟨i, hi, e⟩
  have hex : ∃ i', i' < n ∧ l i' = l i := ⟨i, hi, rfl⟩
  unfold solC
  rw [if_neg hne, dif_pos hex]
  have h2 := hex.choose_spec
  have : hex.choose = i := by
    rcases Nat.lt_trichotomy hex.choose i with h3 | h3 | h3
    · have := h.inc _ _ h3 hi; omega
    · exact h3
    · have := h.inc _ _ h3 h2.1; omega
  rw [this]
theorem solC_off (n : Nat) (O : Nat → Nat → Int) (l : Nat → Nat) {c j : Nat} (hj : j ≠ c) (hl : ¬ IsL n l j) : solC n O l c j = 0 := by
  unfold solC
  rw [if_neg hj, dif_neg (show ¬ ∃ i, i < n ∧ l i = j from hl)]
theorem solC_null {p : Int} {m n : Nat} {O : Nat → Nat → Int} {l : Nat → Nat} (h : Rref p m n O l) {c : Nat} (hcm : c < m) (hc : ¬ IsL n l c) : Null p m n O (solC n O l c) := by
  intro i hi
  obtain ⟨q1, q2, q3⟩ := h.lead i hi
  have hne : l i ≠ c := fun e => hc ⟨i, hi, e⟩
  have : dot m (O i) (solC n O l c) = 0 := by
    rw [dot_two hne m q1 hcm (fun j hj h1 h2 => ?_), q2, solC_lead h hc hi, solC_self]
    · omega
    · by_cases hl : IsL n l j
      · obtain ⟨i', hi', rfl⟩ := hl
        rw [h.off i' i hi' hi (fun e => h1 (by rw [e])), Int.zero_mul]
      · rw [solC_off n O l h2 hl, Int.mul_zero]
  unfold Z
  rw [this]; exact Int.dvd_zero p
theorem null_lead {p : Int} {m n : Nat} {O : Nat → Nat → Int} {l : Nat → Nat} (h : Rref p m n O l) {x : Nat → Int} (hx : Null p m n O x) {i : Nat} (hi : i < n) (hz : ∀ j, j < m → j ≠ l i → O i j * x j = 0) : p ∣ x (l i) := by
  have := hx i hi
  obtain ⟨q1, q2, q3⟩ := h.lead i hi
  unfold Z at this
  rw [dot_one m q1 hz, q2, Int.one_mul] at this
  exact this
theorem leads_sub {p : Int} (hp : 1 < p) {m n n' : Nat} {O O' : Nat → Nat → Int} {l l' : Nat → Nat} (h : Rref p m n O l) (h' : Rref p m n' O' l') (hN : ∀ x, Null p m n O x → Null p m n' O' x) {c : Nat} (hc : c < m) (h1 : IsL n' l' c) : IsL n l c := by
  apply Classical.byContradiction
  intro hn
  obtain ⟨i', hi', rfl⟩ := h1
  have hx := hN _ (solC_null h hc hn)
  obtain ⟨q1, q2, q3⟩ := h'.lead i' hi'
  have hsup : ∀ j, j < m → j ≠ l' i' → O' i' j * solC n O l (l' i') j = 0 := by
    intro j hj hne
    by_cases hlt : j < l' i'
    · rw [q3 j hlt, Int.zero_mul]
    · by_cases hl : IsL n l j
      · obtain ⟨i, hi, rfl⟩ := hl
        rw [solC_lead h hn hi, (h.lead i hi).2.2 (l' i') (by omega)]; simp
      · rw [solC_off n O l hne hl, Int.mul_zero]
  have := null_lead h' hx hi' hsup
  rw [solC_self] at this
  have := Int.le_of_dvd (by omega) this
  omega
theorem inc_eq {n n' : Nat} {l l' : Nat → Nat} (h : ∀ i j, i < j → j < n → l i < l j) (h' : ∀ i j, i < j → j < n' → l' i < l' j) (h1 : ∀ i, i < n → IsL n' l' (l i)) (h2 : ∀ i, i < n' → IsL n l (l' i)) :
    n = n' ∧ ∀ i, i < n → l i = l' i := by
  have key : ∀ {n n' : Nat} {l l' : Nat → Nat}, (∀ i j, i < j → j < n → l i < l j) → (∀ i j, i < j → j < n' → l' i < l' j) → (∀ i, i < n → IsL n' l' (l i)) → (∀ i, i < n' → IsL n l (l' i)) → ∀ i, i < n → i < n' ∧ l i = l' i := by
    intro n n' l l' h h' h1 h2 i
    induction i using Nat.strongRecOn with
    | _ i ih =>
      intro hi
      obtain ⟨j, hj, e⟩ := h1 i hi
      have hij : i ≤ j := by
        apply Nat.le_of_not_lt
        intro hlt
        have := (ih j hlt (by omega)).2
        have h3 := h j i hlt hi
        omega
      have hi' : i < n' := by omega
      refine ⟨hi', ?_⟩
      by_cases hE : j = i
      · rw [← e, hE]
      · obtain ⟨k, hk, e2⟩ := h2 i hi'
        have h3 := h' i j (by omega) hj
        have hki : k < i := by
          apply Nat.lt_of_not_le
          intro hle
          rcases Nat.lt_or_eq_of_le hle with h4 | h4
          · have := h i k h4 hk; omega
          · rw [← h4] at e2; omega
        have h5 := (ih k hki (by omega)).2
        have h6 := h' k i hki hi'
        omega
  have k1 := key h h' h1 h2
  have k2 := key h' h h2 h1
  refine ⟨?_, fun i hi => (k1 i hi).2⟩
  apply Nat.le_antisymm
  · apply Nat.le_of_not_lt
    intro hlt
    have := (k1 n' hlt).1
    omega
  · apply Nat.le_of_not_lt
    intro hlt
    have := (k2 n hlt).1
    omega
theorem rref_unique {p : Int} (hp : 1 < p) {m n n' : Nat} {O O' : Nat → Nat → Int} {l l' : Nat → Nat} (h : Rref p m n O l) (h' : Rref p m n' O' l') (hN : ∀ x, Null p m n O x ↔ Null p m n' O' x) :
    n = n' ∧ ∀ i, i < n → ∀ j, j < m → O i j = O' i j := by
  obtain ⟨hn, hl⟩ := inc_eq h.inc h'.inc (fun i hi => leads_sub hp h' h (fun x hx => (hN x).2 hx) (h.lead i hi).1 ⟨i, hi, rfl⟩) (fun i hi => leads_sub hp h h' (fun x hx => (hN x).1 hx) (h'.lead i hi).1 ⟨i, hi, rfl⟩)
  subst hn
  refine ⟨rfl, fun i hi c hc => ?_⟩
  by_cases hL : IsL n l c
  · obtain ⟨i2, hi2, rfl⟩ := hL
    by_cases hii : i2 = i
    · subst hii
      rw [(h.lead i2 hi2).2.1, hl i2 hi2, (h'.lead i2 hi2).2.1]
    · rw [h.off i2 i hi2 hi hii, hl i2 hi2, h'.off i2 i hi2 hi hii]
  · 
    have hx := (hN _).1 (solC_null h hc hL) i hi
    obtain ⟨q1, q2, q3⟩ := h'.lead i hi
    have hne : l' i ≠ c := fun e => hL ⟨i, hi, (hl i hi).trans e⟩
    unfold Z at hx
    rw [dot_two hne m q1 hc (fun j hj h1 h2 => ?_), q2, ← hl i hi, solC_lead h hL hi, solC_self] at hx
    · have b1 := h.bp i hi c
      have b2 := h'.bp i hi c
      obtain ⟨q, hq⟩ := hx
      have : O' i c - O i c = p * q := by omega
      have hq0 : q = 0 := by
        rcases Int.lt_trichotomy q 0 with h3 | h3 | h3
        · have := Int.mul_le_mul_of_nonneg_left (show q ≤ -1 by omega) (show 0 ≤ p by omega)
          omega
        · exact h3
        · have := Int.mul_le_mul_of_nonneg_left (show 1 ≤ q by omega) (show 0 ≤ p by omega)
          omega
      rw [hq0] at this
      omega
    · by_cases hl2 : IsL n l j
      · obtain ⟨i2, hi2, rfl⟩ := hl2
        rw [hl i2 hi2, h'.off i2 i hi2 hi (fun e => h1 (by rw [hl i2 hi2, e])), Int.zero_mul]
      · rw [solC_off n O l h2 hl2, Int.mul_zero]
end Go.Am

namespace Go.Am
def leadB (f : Nat → Int) : Nat → Bool := fun i => decide (f i ≠ 0)
def leadN (m : Nat) (f : Nat → Int) : Nat := (idxF (leadB f) m).toNat
theorem lead_idx {m : Nat} {f : Nat → Int} {l : Nat} (h : Lead m f l) : idxF (leadB f) m = l :=
  idx_at h.1 (by simp [leadB, h.2.1]) (fun j hj => by simp [leadB, h.2.2 j hj])
theorem leadN_of {m : Nat} {f : Nat → Int} {l : Nat} (h : Lead m f l) : leadN m f = l := by unfold leadN; rw [lead_idx h]; simp
def byGo (p : Int) (m : Nat) (O : Nat → Nat → Int) (own : Nat → Int) : Nat → Nat → Int
  | 0 => own
  | k + 1 => lessF p (byGo p m O own k) (O k) (byGo p m O own k (leadN m (O k)))
def insG {α : Type} (pos : Nat) (v : α) (F : Nat → α) (j : Nat) : α := if j < pos then F j else if j = pos then v else F (j - 1)
structure ES where
  no : Nat
  O : Nat → Nat → Int
def posN (m : Nat) (O : Nat → Nat → Int) (no at_ : Nat) : Nat := if idxF (fun k => decide (at_ < leadN m (O k))) no < 0 then no else (idxF (fun k => decide (at_ < leadN m (O k))) no).toNat
def ownF (p : Int) (m : Nat) (f : Nat → Int) : Nat → Int := scaledF p f (invF p (f (leadN m f)))
def restF (p : Int) (O : Nat → Nat → Int) (own : Nat → Int) (at_ : Nat) (j : Nat) : Nat → Int := lessF p (O j) own (O j at_)
def echHit (p : Int) (m : Nat) (s : ES) (f : Nat → Int) : ES :=
  ⟨s.no + 1, insG (posN m s.O s.no (leadN m f)) (ownF p m f) (restF p s.O (ownF p m f) (leadN m f))⟩
def echStep (p : Int) (m : Nat) (s : ES) (row : Nat → Int) : ES :=
  if idxF (leadB (byGo p m s.O row s.no)) m < 0 then s else echHit p m s (byGo p m s.O row s.no)
def echGo (p : Int) (m : Nat) (R : Nat → Nat → Int) : Nat → ES
  | 0 => ⟨0, fun _ _ => 0⟩
  | i + 1 => echStep p m (echGo p m R i) (R i)
theorem byGo_Bp {p : Int} (hp : 0 < p) {m : Nat} {O : Nat → Nat → Int} {own : Nat → Int} (h : Bp p own) : ∀ k, Bp p (byGo p m O own k)
  | 0 => h
  | k + 1 => less_Bp hp _ _ _
theorem byGo_zero {p : Int} (hp : 0 < p) {m n : Nat} {O : Nat → Nat → Int} {l : Nat → Nat} (hO : Rref p m n O l) {own : Nat → Int} (h : Bp p own) : ∀ k, k ≤ n → ∀ i, i < k → byGo p m O own k (l i) = 0
  | 0, _, i, hi => absurd hi (Nat.not_lt_zero _)
  | k + 1, hk, i, hi => by
    show lessF p _ _ _ _ = 0
    rw [leadN_of (hO.lead k (by omega))]
    by_cases hik : i = k
    · subst hik; exact less_self (hO.lead i (by omega)).2.1
    · rw [less_zero (byGo_Bp hp h k) (hO.off i k (by omega) (by omega) hik)]
      exact byGo_zero hp hO h k (by omega) i (by omega)
theorem byGo_Z {p : Int} {m n : Nat} {O : Nat → Nat → Int} {own x : Nat → Int} (hx : Null p m n O x) : ∀ k, k ≤ n → (Z p m (byGo p m O own k) x ↔ Z p m own x)
  | 0, _ => Iff.rfl
  | k + 1, hk => (Z_less (hx k (by omega))).trans (byGo_Z hx k (by omega))
theorem echHit_inv {p : Int} (hp : primeB p = true) {m : Nat} {s : ES} {l : Nat → Nat} (h : Rref p m s.no s.O l) {f : Nat → Int} (hf : Bp p f) (hz : ∀ i, i < s.no → f (l i) = 0) {a : Nat} (ha : a < m) (hfa : f a ≠ 0) (hfz : ∀ j, j < a → f j = 0) :
    Rref p m (s.no + 1) (echHit p m s f).O (insG (posN m s.O s.no (leadN m f)) a l) ∧
    (∀ x, Null p m (s.no + 1) (echHit p m s f).O x ↔ (Null p m s.no s.O x ∧ Z p m f x)) ∧ leadN m f = a ∧ posN m s.O s.no a ≤ s.no ∧ (∀ k, k < posN m s.O s.no a → l k < a) ∧ (∀ k, posN m s.O s.no a ≤ k → k < s.no → a < l k) := by
  have hpb := primeB_bd hp
  have hla : leadN m f = a := by
    unfold leadN
    rw [idx_at (P := leadB f) ha (by simp [leadB, hfa]) (fun j hj => by simp [leadB, hfz j hj])]; simp
  have hlk : ∀ k, k < s.no → leadN m (s.O k) = l k := fun k hk => leadN_of (h.lead k hk)
  have hne : ∀ k, k < s.no → l k ≠ a := fun k hk e => hfa (by rw [← e]; exact hz k hk)
  have hpos : posN m s.O s.no a ≤ s.no ∧ (∀ k, k < posN m s.O s.no a → l k < a) ∧ (∀ k, posN m s.O s.no a ≤ k → k < s.no → a < l k) := by
    unfold posN
    rcases idx_cases (fun k => decide (a < leadN m (s.O k))) s.no with ⟨k, hk, hP, hb, he⟩ | ⟨hn, he⟩
    · rw [he, if_neg (by omega)]
      have hP' : a < leadN m (s.O k) := by simpa using hP
      rw [hlk k hk] at hP'
      refine ⟨by simp; omega, fun j hj => ?_, fun j hj hj2 => ?_⟩
      · have hj' : j < k := by simpa using hj
        have := hb j hj'
        rw [hlk j (by omega)] at this
        have h1 := hne j (by omega)
        have h2 : ¬ a < l j := by simpa using this
        omega
      · have hj' : k ≤ j := by simpa using hj
        rcases Nat.lt_or_eq_of_le hj' with h1 | h1
        · have := h.inc k j h1 hj2; omega
        · rw [← h1]; exact hP'
    · rw [he, if_pos (by omega)]
      refine ⟨Nat.le_refl _, fun j hj => ?_, fun j hj hj2 => by omega⟩
      have := hn j hj
      rw [hlk j hj] at this
      have h1 := hne j hj
      have h2 : ¬ a < l j := by simpa using this
      omega
  refine ⟨?_, ?_, hla, hpos⟩
  all_goals (obtain ⟨hp0, hp1, hp2⟩ := hpos)
  all_goals (have hfa' : 0 < f a ∧ f a < p := by have := hf a; omega)
  all_goals (have ho1 : ownF p m f a = 1 := by unfold ownF; rw [hla]; exact scaled_lead hp hfa'.1 hfa'.2)
  all_goals (have hoz : ∀ j, f j = 0 → ownF p m f j = 0 := fun j hj => by unfold ownF; exact scaled_zero hj)
  all_goals (have hoB : Bp p (ownF p m f) := scaled_Bp (by omega) _ _)
  all_goals (have hO : (echHit p m s f).O = insG (posN m s.O s.no a) (ownF p m f) (restF p s.O (ownF p m f) a) := by simp [echHit, hla])
  all_goals (rw [hO])
  · rw [hla]
    generalize posN m s.O s.no a = pos at *
    have hrl : ∀ k, k < s.no → Lead m (restF p s.O (ownF p m f) a k) (l k) := by
      intro k hk
      obtain ⟨q1, q2, q3⟩ := h.lead k hk
      refine ⟨q1, ?_, fun j hj => ?_⟩
      · show lessF p _ _ _ _ = 1
        rw [less_zero (h.bp k hk) (hoz _ (hz k hk))]; exact q2
      · show lessF p _ _ _ _ = 0
        by_cases hlt : l k < a
        · rw [less_zero (h.bp k hk) (hoz _ (hfz j (by omega)))]; exact q3 j hj
        · have h1 := hne k hk
          rw [show s.O k a = 0 from q3 a (by omega)]
          unfold lessF
          rw [Int.zero_mul, Int.sub_zero, q3 j hj]; rfl
    have hro : ∀ i k, i < s.no → k < s.no → i ≠ k → restF p s.O (ownF p m f) a k (l i) = 0 := fun i k hi hk hne2 => by
      show lessF p _ _ _ _ = 0
      rw [less_zero (h.bp k hk) (hoz _ (hz i hi))]; exact h.off i k hi hk hne2
    have hra : ∀ k, restF p s.O (ownF p m f) a k a = 0 := fun k => less_self ho1
    refine ⟨fun i hi => ?_, fun i hi => ?_, fun i j hi hj hij => ?_, fun i j hij hj => ?_⟩
    · unfold insG
      split
      · exact less_Bp (by omega) _ _ _
      · split
        · exact hoB
        · exact less_Bp (by omega) _ _ _
    · unfold insG
      split
      · rename_i h1; exact hrl i (by omega)
      · split
        · exact ⟨ha, ho1, fun j hj => hoz j (hfz j hj)⟩
        · rename_i h1 h2; exact hrl (i - 1) (by omega)
    · unfold insG
      by_cases h1 : i < pos
      · rw [if_pos h1]
        by_cases h2 : j < pos
        · rw [if_pos h2]; exact hro i j (by omega) (by omega) hij
        · rw [if_neg h2]
          by_cases h3 : j = pos
          · rw [if_pos h3]; exact hoz _ (hz i (by omega))
          · rw [if_neg h3]; exact hro i (j - 1) (by omega) (by omega) (by omega)
      · rw [if_neg h1]
        by_cases h4 : i = pos
        · rw [if_pos h4]
          by_cases h2 : j < pos
          · rw [if_pos h2]; exact hra j
          · rw [if_neg h2, if_neg (by omega)]; exact hra (j - 1)
        · rw [if_neg h4]
          by_cases h2 : j < pos
          · rw [if_pos h2]; exact hro (i - 1) j (by omega) (by omega) (by omega)
          · rw [if_neg h2]
            by_cases h3 : j = pos
            · rw [if_pos h3]; exact hoz _ (hz (i - 1) (by omega))
            · rw [if_neg h3]; exact hro (i - 1) (j - 1) (by omega) (by omega) (by omega)
    · unfold insG
      by_cases h1 : i < pos
      · rw [if_pos h1]
        by_cases h2 : j < pos
        · rw [if_pos h2]; exact h.inc i j hij (by omega)
        · rw [if_neg h2]
          by_cases h3 : j = pos
          · rw [if_pos h3]; exact hp1 i h1
          · rw [if_neg h3]
            have := hp1 i h1
            have := hp2 (j - 1) (by omega) (by omega)
            omega
      · rw [if_neg h1, if_neg (show ¬ j < pos by omega), if_neg (show ¬ j = pos by omega)]
        by_cases h4 : i = pos
        · rw [if_pos h4]; exact hp2 (j - 1) (by omega) (by omega)
        · rw [if_neg h4]; exact h.inc (i - 1) (j - 1) (by omega) (by omega)
  · intro x
    generalize posN m s.O s.no a = pos at *
    have hown : Z p m (ownF p m f) x ↔ Z p m f x := by
      unfold ownF
      rw [hla]
      exact Z_scaled (q := f a) (inv_dvd hp hfa'.1 hfa'.2)
    constructor
    · intro hN
      have h1 : Z p m (ownF p m f) x := by
        have := hN pos (by omega)
        simpa [insG] using this
      refine ⟨fun k hk => ?_, hown.1 h1⟩
      by_cases hkp : k < pos
      · have := hN k (by omega)
        simp only [insG, if_pos hkp] at this
        exact (Z_less h1).1 this
      · have := hN (k + 1) (by omega)
        simp only [insG, if_neg (show ¬ k + 1 < pos by omega), if_neg (show ¬ k + 1 = pos by omega), Nat.add_sub_cancel] at this
        exact (Z_less h1).1 this
    · rintro ⟨hN, hx⟩ i hi
      have h1 := hown.2 hx
      unfold insG
      split
      · exact (Z_less h1).2 (hN i (by omega))
      · split
        · exact h1
        · exact (Z_less h1).2 (hN (i - 1) (by omega))
theorem ech_ok {p : Int} (hp : primeB p = true) {m : Nat} {R : Nat → Nat → Int} : ∀ n, (∀ i, i < n → Bp p (R i)) →
    (∃ l, Rref p m (echGo p m R n).no (echGo p m R n).O l) ∧ ∀ x, Null p m (echGo p m R n).no (echGo p m R n).O x ↔ Null p m n R x
  | 0, _ => ⟨⟨fun _ => 0, ⟨fun i hi => absurd hi (Nat.not_lt_zero _), fun i hi => absurd hi (Nat.not_lt_zero _), fun i j hi => absurd hi (Nat.not_lt_zero _), fun i j _ hj => absurd hj (Nat.not_lt_zero _)⟩⟩,
      fun x => ⟨fun _ i hi => absurd hi (Nat.not_lt_zero _), fun _ i hi => absurd hi (Nat.not_lt_zero _)⟩⟩
  | n + 1, hR => by
    have hpb := primeB_bd hp
    obtain ⟨⟨l, h1⟩, h2⟩ := ech_ok (m := m) hp n (fun i hi => hR i (by omega))
    have hB := byGo_Bp (p := p) (m := m) (O := (echGo p m R n).O) (by omega) (hR n (by omega)) (echGo p m R n).no
    have hz := byGo_zero (by omega) h1 (hR n (by omega)) (echGo p m R n).no (Nat.le_refl _)
    have hN : ∀ x, Null p m (n + 1) R x ↔ Null p m n R x ∧ Z p m (R n) x := fun x => ⟨fun h => ⟨fun i hi => h i (by omega), h n (by omega)⟩, fun h i hi => by
      by_cases e : i = n
      · subst e; exact h.2
      · exact h.1 i (by omega)⟩
    show (∃ l, Rref p m (echStep p m (echGo p m R n) (R n)).no (echStep p m (echGo p m R n) (R n)).O l) ∧ ∀ x, Null p m (echStep p m (echGo p m R n) (R n)).no (echStep p m (echGo p m R n) (R n)).O x ↔ Null p m (n + 1) R x
    unfold echStep
    rcases idx_cases (leadB (byGo p m (echGo p m R n).O (R n) (echGo p m R n).no)) m with ⟨a, ha, hP, hb, he⟩ | ⟨hn, he⟩
    · rw [he, if_neg (by omega)]
      obtain ⟨q1, q2, _⟩ := echHit_inv hp h1 hB hz ha (by simpa [leadB] using hP) (fun j hj => by simpa [leadB] using hb j hj)
      refine ⟨⟨_, q1⟩, fun x => ?_⟩
      rw [hN x, ← h2 x]
      refine (q2 x).trans ?_
      constructor
      · rintro ⟨h3, h4⟩; exact ⟨h3, (byGo_Z h3 _ (Nat.le_refl _)).1 h4⟩
      · rintro ⟨h3, h4⟩; exact ⟨h3, (byGo_Z h3 _ (Nat.le_refl _)).2 h4⟩
    · rw [he, if_pos (by omega)]
      refine ⟨⟨l, h1⟩, fun x => ?_⟩
      rw [hN x, ← h2 x]
      refine ⟨fun h3 => ⟨h3, (byGo_Z h3 _ (Nat.le_refl _)).1 ?_⟩, fun h3 => h3.1⟩
      have : dot m (byGo p m (echGo p m R n).O (R n) (echGo p m R n).no) x = 0 := by
        unfold dot
        rw [sumZ_congr (g := fun _ => 0) m (fun j hj => by
          have := hn j hj
          rw [show byGo p m (echGo p m R n).O (R n) (echGo p m R n).no j = 0 by simpa [leadB] using this, Int.zero_mul])]
        exact sumZ_zero m
      unfold Z
      rw [this]; exact Int.dvd_zero p
theorem B8_of {p : Int} (hp : p ≤ 256) {f : Nat → Int} (h : Bp p f) : B8 f := fun i => by have := h i; omega
theorem mt_app' {V : Vw} {n N : Nat} {F f g : Nat → AV} (hn : n + 1 = N) (h1 : ∀ j, j < n → Mt V (F j) (f j)) (h2 : Mt V (F n) (g 0)) : Mt V (.arr N F) (.arr (n + 1) (appF n f 1 g)) := by
  subst hn; exact mt_app h1 h2
theorem mixF_self (F G : Nat → Int) (k : Nat) : mixF F G k k = G k := if_neg (by omega)
end Go.Am

namespace Go.Am
theorem shift_closed (b : Nat) : ∀ {v : AV}, v.closed → shift b v = v := by
  intro v
  induction v with
  | arr n f ih => intro h; simp only [shift]; congr 1; funext i; exact ih i (h i)
  | sct n f ih => intro h; simp only [shift]; congr 1; funext i; exact ih i (h i)
  | tup n f ih => intro h; simp only [shift]; congr 1; funext i; exact ih i (h i)
  | ro n f ih => intro h; simp only [shift]; congr 1; funext i; exact ih i (h i)
  | fn g n f ih => intro h; simp only [shift]; congr 1; funext i; exact ih i (h i)
  | cptr v ih => intro h; simp only [shift]; rw [ih h]
  | own => intro h; exact h.elim
  | ptr => intro h; exact h.elim
  | _ => intro _; rfl
theorem closed_calg {p n : Int} {T : Nat → Nat → Nat → Int} {fo : Nat → Int} : (AV.cptr (algA p n T fo)).closed := closed_alg
theorem closed_cap2 {g : Nat} {a b : AV} (ha : a.closed) (hb : b.closed) : (AV.fn g 2 (cap2 a b)).closed := fun i => by
  match i with
  | 0 => exact ha
  | 1 => exact hb
  | i + 2 => exact trivial
theorem closed_cap1 {g : Nat} {a : AV} (ha : a.closed) : (AV.fn g 1 (cap1 a)).closed := fun i => by
  match i with
  | 0 => exact ha
  | i + 1 => exact trivial
section
variable {P : Program} {T : TT} {N : Nat} {env : Env} {ol : OL}
variable {all : Array Oper} {r : List Oper} {R : Env → OL → Prop} {ty : TypeId} {pos : String} {af : Array Edge} {x y : Operand} {d : Nat} {t : TypeId}
theorem w_callc {f : Operand} {args : Array Operand} {aty : Array TypeId} {g n : Nat} {caps : Nat → AV} {ars : List AV} {v : AV} (hf : callee (evE env) f = .fn g n caps) (ha : (args.toList.map (evE env) ++ capL n caps).map (exp ol.at_ 4) = ars) (hc : ACalls P T g ars v [])
    (hv : v.closed) (hcl : closedL (args.toList.map (evE env) ++ capL n caps))
    (hr : WOps P T all r ((d, v) :: env) ol R) : WOps P T all (⟨some d, .call { callee := .value f, args := args, argTypes := aty }, ty, pos, af, none⟩ :: r) env ol R := by
  subst ha
  simp only [WOps, WOp, putE, Option.getD_some]
  unfold CallW
  rw [hf]
  refine ⟨v, [], hc, .inr hcl, rfl, ?_⟩
  rw [shift_closed _ hv]
  exact hr
theorem w_bsl2 {e : Nat} {v w : AV} (ht : T.und t = .slc e) (hk : (T.und e).known = true) (hb : Nat.ble (2 * T.sz e) 16777216 = true) (hf : ol.has d = false) (hx : HV (evE env x) v) (hy : HV (evE env y) w) (hc : v.cel) (hc2 : w.cel) (hz : v.size = T.sz e) (hz2 : w.size = T.sz e) (hs : ssh (T.zero e) v) (hs2 : ssh (T.zero e) w)
    (hr : WOps P T all r ((d, .own d 0 2 e) :: env) ((d, .one (.arr 2 (fun _ => T.zero e)) (.arr 2 (fun i => bif Nat.beq i 1 then w else bif Nat.beq i 0 then v else T.zero e))) :: ol) R) : WOps P T all (⟨some d, .buildSlice t 2 #[(0, x), (1, y)], ty, pos, af, none⟩ :: r) env ol R := by
  have := hx.eq; subst this
  have := hy.eq; subst this
  exact w_bsl ht hk hb hf ⟨⟨by decide, hc, hz⟩, ⟨by decide, hc2, hz2⟩, trivial⟩ ⟨hs, hs2, trivial⟩ rfl hr
end
def solGo (n : Nat) (O : Nat → Nat → Int) : Nat → Nat → Int
  | 0 => fun _ => 0
  | i + 1 => upd (solGo n O i) (leadN (n + 1) (O i)) (O i n)
def conP (n no : Nat) (O : Nat → Nat → Int) : Prop := ∀ i, i < no → leadN (n + 1) (O i) < n
def oneP (n no : Nat) (O : Nat → Nat → Int) : Prop := no = n ∧ ∀ i, i < n → leadN (n + 1) (O i) = i
theorem solGo_B8 {n no : Nat} {O : Nat → Nat → Int} (hO : ∀ i, i < no → B8 (O i)) : ∀ i, i ≤ no → B8 (solGo n O i)
  | 0, _ => fun j => by show 0 ≤ (0 : Int) ∧ (0 : Int) < 256; omega
  | i + 1, hi => fun j => by
    show 0 ≤ upd _ _ _ j ∧ upd _ _ _ j < 256
    unfold upd
    split
    · exact hO i (by omega) n
    · exact solGo_B8 hO i (by omega) j
theorem rt_own_t {T : TT} {env : Env} {ol : OL} {t u key n m e : Nat} {F G : Nat → AV} {sh : Nat → AV} {b : Bool} (hx : get env t = .own key 0 n e) (hu : get env u = .bool b) (ho : ol.at_ key 0 = some (.arr n sh, .arr n G)) (hn : n = m) (hs : ∀ i, ssh (sh i) (F i)) (hf : ∀ V : Vw, ∀ i, i < m → Mt V (F i) (G i)) :
    retQ T [.tmp t, .tmp u] (.tup 2 (pairA (.own 0 0 m e) (.bool b))) [(0, .one (.arr m sh) (.arr m F))] .ret env ol := by
  subst hn
  refine ⟨fun _ _ => (key, 0), ⟨⟨rfl, fun i hi => ?_⟩, trivial⟩, ⟨?_, trivial⟩, ⟨⟨fun _ => ⟨rfl, rfl⟩, trivial⟩, trivial⟩⟩
  · match i, hi with
    | 0, _ =>
      show Mt _ (.own 0 0 n e) (get env t)
      rw [hx]
      exact ⟨rfl, rfl, rfl, rfl⟩
    | 1, _ =>
      show Mt _ (.bool b) (get env u)
      rw [hu]
      exact rfl
  · show (match ol.at_ key 0 with | some (sh', c') => _ | none => False)
    rw [ho]
    exact ⟨rfl, ⟨rfl, hs⟩, rfl, hf _⟩
theorem lead_idx' {m : Nat} {f : Nat → Int} {l : Nat} (h : Lead m f l) : idxF (fun i => decide (f i ≠ 0)) m = ((leadN m f : Nat) : Int) := by
  rw [leadN_of h]; exact lead_idx h
def BpT (p : Int) (T : Nat → Nat → Nat → Int) : Prop := ∀ i j k, 0 ≤ T i j k ∧ T i j k < p
theorem B8T_of {p : Int} (hp : p ≤ 256) {T : Nat → Nat → Nat → Int} (h : BpT p T) : B8T T := fun i j k => by have := h i j k; omega
def unitS (n : Nat) (T : Nat → Nat → Nat → Int) (r j : Nat) : Int := if j < n then T j (r / n) (r % n) else if r / n = r % n then 1 else 0
theorem div_of {n i k : Nat} (hk : k < n) : (i * n + k) / n = i := by
  rw [Nat.mul_comm, Nat.mul_add_div (by omega), Nat.div_eq_of_lt hk]; rfl
theorem mod_of {n i k : Nat} (hk : k < n) : (i * n + k) % n = k := by
  rw [Nat.mul_comm, Nat.mul_add_mod]; exact Nat.mod_eq_of_lt hk
def uS (p : Int) (n : Nat) (T : Nat → Nat → Nat → Int) : Nat → Int := cutF (fun a => (echGo p (n + 1) (unitS n T) (n * n)).O a n) n
def okS (p : Int) (n : Nat) (T : Nat → Nat → Nat → Int) : Prop :=
  oneP n (echGo p (n + 1) (unitS n T) (n * n)).no (echGo p (n + 1) (unitS n T) (n * n)).O ∧ ∀ i, i < n → eqN 6 (timesF p n T (eF i) (uS p n T)) (eF i)
noncomputable instance (p : Int) (n : Nat) (T : Nat → Nat → Nat → Int) : Decidable (okS p n T) := Classical.propDecidable _
end Go.Am

namespace Go.Am
def famF (c : Nat) (w : Nat → Nat) (F : Nat → Nat → Int) : Nat → Option (AV × AV) := fun r => if r < c then some (Z64 (w r), C64 (w r) (F r)) else none
abbrev CO (key c : Nat) (w : Nat → Nat) (e : Nat) : AV := .arr c (fun r => .own key r (w r) e)
theorem famF_some {c : Nat} {w : Nat → Nat} {F : Nat → Nat → Int} {r : Nat} {sh cc : AV} (h : famF c w F r = some (sh, cc)) : r < c ∧ sh = Z64 (w r) ∧ cc = C64 (w r) (F r) := by
  unfold famF at h
  split at h
  · simp only [Option.some.injEq, Prod.mk.injEq] at h
    exact ⟨by assumption, h.1.symm, h.2.symm⟩
  · cases h
theorem famF_at {c : Nat} {w : Nat → Nat} {F : Nat → Nat → Int} {r : Nat} (h : r < c) : famF c w F r = some (Z64 (w r), C64 (w r) (F r)) := if_pos h
def ρP (ko kf a s c : Nat) : Nat → Nat → Nat × Nat := fun k r => bif Nat.beq k ko then (a, 0) else bif Nat.beq k kf then (bif Nat.beq r c then (s, 0) else (kf, r)) else (k, r)
theorem emb_fam {ko kf a s c N e : Nat} {w : Nat → Nat} {F : Nat → Nat → Int} {g : Nat → AV} {env' env : Env} {ol' : OL} (hk : ko ≠ kf) (ha : a ≠ kf) (hs : s ≠ kf) (has : a ≠ s)
    (h1 : ol'.at_ a 0 = some (ZR N, .arr N g)) (hg : ∀ j, j < N → j ≠ c → g j = .own kf j (w j) e) (hgc : c < N → g c = .own s 0 (w c) e)
    (h2 : c < N → ∃ C, ol'.at_ s 0 = some (Z64 (w c), C) ∧ ∀ V : Vw, Mt V (C64 (w c) (F c)) C)
    (h3 : ∀ r, r < N → r ≠ c → ol'.at_ kf r = some (Z64 (w r), C64 (w r) (F r)))
    (henv : envAll (fun t v => MtE (vwOf (ρP ko kf a s c) ol' [(ko, .one (ZR N) (CO kf N w e)), (kf, .many (famF N w F))]) v (get env' t)) env) :
    Emb (ρP ko kf a s c) env' ol' env [(ko, .one (ZR N) (CO kf N w e)), (kf, .many (famF N w F))] := by
  have r1 : ∀ i, ρP ko kf a s c ko i = (a, 0) := fun i => by simp [ρP]
  have r2 : ρP ko kf a s c kf c = (s, 0) := by simp [ρP, beq_ff (Ne.symm hk)]
  have r3 : ∀ r, r ≠ c → ρP ko kf a s c kf r = (kf, r) := fun r hr => by simp [ρP, beq_ff (Ne.symm hk), beq_ff hr]
  have hdom : OL.has [(ko, .one (ZR N) (CO kf N w e)), (kf, .many (famF N w F))] kf = true := by simp [OL.has]
  refine ⟨henv, ⟨?_, fun r sh cc h => ?_, trivial⟩, ⟨⟨fun _ => ⟨rfl, rfl⟩, fun r sh cc h he => ?_, trivial⟩, fun r sh cc h => ⟨fun he => ?_, fun r2' sh2 cc2 h2' he => ?_, trivial⟩, trivial⟩⟩
  · dsimp only
    rw [r1]
    dsimp only
    rw [h1]
    refine ⟨rfl, ⟨rfl, fun _ => trivial⟩, rfl, fun j hj => ?_⟩
    by_cases hjc : j = c
    · subst hjc
      rw [hgc hj]
      exact ⟨r2, rfl, rfl, hdom⟩
    · rw [hg j hj hjc]
      exact ⟨r3 j hjc, rfl, rfl, hdom⟩
  · obtain ⟨hr, rfl, rfl⟩ := famF_some h
    by_cases hrc : r = c
    · subst hrc
      rw [r2]
      dsimp only
      obtain ⟨C, h2, h2'⟩ := h2 hr
      rw [h2]
      exact ⟨rfl, ⟨rfl, fun _ => trivial⟩, h2' _⟩
    · rw [r3 r hrc]
      dsimp only
      rw [h3 r hr hrc]
      exact ⟨rfl, ⟨rfl, fun _ => trivial⟩, mt_vec (fun _ _ => rfl)⟩
  · rw [r1] at he
    by_cases hrc : r = c
    · subst hrc
      rw [r2] at he
      exact absurd (congrArg Prod.fst he) has
    · rw [r3 r hrc] at he
      exact absurd (congrArg Prod.fst he) ha
  · rw [r1] at he
    by_cases hrc : r = c
    · subst hrc
      rw [r2] at he
      exact absurd (congrArg Prod.fst he).symm has
    · rw [r3 r hrc] at he
      exact absurd (congrArg Prod.fst he).symm ha
  · refine ⟨rfl, ?_⟩
    by_cases hrc : r = c
    · subst hrc
      by_cases hr2 : r2' = r
      · exact hr2.symm
      · rw [r2, r3 r2' hr2] at he
        exact absurd (congrArg Prod.fst he) hs
    · rw [r3 r hrc] at he
      by_cases hr2 : r2' = c
      · subst hr2
        rw [r2] at he
        exact absurd (congrArg Prod.fst he).symm hs
      · rw [r3 r2' hr2] at he
        exact congrArg Prod.snd he
def ρQ (ko kf a s c kr b : Nat) : Nat → Nat → Nat × Nat := fun k r => bif Nat.beq k kr then (b, 0) else ρP ko kf a s c k r
theorem emb_fam1 {ko kf kr a s c b N e : Nat} {sh3 c3 : AV} {w : Nat → Nat} {F : Nat → Nat → Int} {g : Nat → AV} {env' env : Env} {ol' : OL} (hk : ko ≠ kf) (hr1 : kr ≠ ko) (hr2 : kr ≠ kf) (ha : a ≠ kf) (hs : s ≠ kf) (has : a ≠ s) (hb1 : b ≠ kf) (hb2 : b ≠ a) (hb3 : b ≠ s)
    (h1 : ol'.at_ a 0 = some (ZR N, .arr N g)) (hg : ∀ j, j < N → j ≠ c → g j = .own kf j (w j) e) (hgc : c < N → g c = .own s 0 (w c) e)
    (h2 : c < N → ∃ C, ol'.at_ s 0 = some (Z64 (w c), C) ∧ ∀ V : Vw, Mt V (C64 (w c) (F c)) C)
    (h3 : ∀ r, r < N → r ≠ c → ol'.at_ kf r = some (Z64 (w r), C64 (w r) (F r)))
    (h4 : ∃ C, ol'.at_ b 0 = some (sh3, C) ∧ ssh sh3 c3 ∧ ∀ V : Vw, Mt V c3 C)
    (henv : envAll (fun t v => MtE (vwOf (ρQ ko kf a s c kr b) ol' [(ko, .one (ZR N) (CO kf N w e)), (kf, .many (famF N w F)), (kr, .one sh3 c3)]) v (get env' t)) env) :
    Emb (ρQ ko kf a s c kr b) env' ol' env [(ko, .one (ZR N) (CO kf N w e)), (kf, .many (famF N w F)), (kr, .one sh3 c3)] := by
  have r1 : ∀ i, ρQ ko kf a s c kr b ko i = (a, 0) := fun i => by simp [ρQ, ρP, beq_ff (Ne.symm hr1)]
  have r2 : ρQ ko kf a s c kr b kf c = (s, 0) := by simp [ρQ, ρP, beq_ff (Ne.symm hk), beq_ff (Ne.symm hr2)]
  have r3 : ∀ r, r ≠ c → ρQ ko kf a s c kr b kf r = (kf, r) := fun r hr => by simp [ρQ, ρP, beq_ff (Ne.symm hk), beq_ff hr, beq_ff (Ne.symm hr2)]
  have r4 : ∀ i, ρQ ko kf a s c kr b kr i = (b, 0) := fun i => by simp [ρQ]
  have hdom : OL.has [(ko, .one (ZR N) (CO kf N w e)), (kf, .many (famF N w F)), (kr, .one sh3 c3)] kf = true := by simp [OL.has]
  obtain ⟨C, h4, h6, h5⟩ := h4
  have fk : ∀ r, (ρQ ko kf a s c kr b kf r).1 = s ∨ (ρQ ko kf a s c kr b kf r).1 = kf := fun r => by
    by_cases hrc : r = c
    · subst hrc; rw [r2]; exact .inl rfl
    · rw [r3 r hrc]; exact .inr rfl
  refine ⟨henv, ⟨?_, fun r sh cc h => ?_, ?_, trivial⟩, ⟨⟨fun _ => ⟨rfl, rfl⟩, fun r sh cc h he => ?_, fun he => ?_, trivial⟩, fun r sh cc h => ⟨fun he => ?_, fun r2' sh2 cc2 h2' he => ?_, fun he => ?_, trivial⟩, ⟨fun he => ?_, fun r sh cc h he => ?_, fun _ => ⟨rfl, rfl⟩, trivial⟩, trivial⟩⟩
  · dsimp only
    rw [r1]
    dsimp only
    rw [h1]
    refine ⟨rfl, ⟨rfl, fun _ => trivial⟩, rfl, fun j hj => ?_⟩
    by_cases hjc : j = c
    · subst hjc
      rw [hgc hj]
      exact ⟨r2, rfl, rfl, hdom⟩
    · rw [hg j hj hjc]
      exact ⟨r3 j hjc, rfl, rfl, hdom⟩
  · obtain ⟨hr, rfl, rfl⟩ := famF_some h
    by_cases hrc : r = c
    · subst hrc
      rw [r2]
      dsimp only
      obtain ⟨C, h2, h2'⟩ := h2 hr
      rw [h2]
      exact ⟨rfl, ⟨rfl, fun _ => trivial⟩, h2' _⟩
    · rw [r3 r hrc]
      dsimp only
      rw [h3 r hr hrc]
      exact ⟨rfl, ⟨rfl, fun _ => trivial⟩, mt_vec (fun _ _ => rfl)⟩
  · dsimp only
    rw [r4]
    dsimp only
    rw [h4]
    exact ⟨rfl, h6, h5 _⟩
  · rw [r1] at he
    have := congrArg Prod.fst he
    rcases fk r with h | h <;> rw [h] at this
    · exact absurd this has
    · exact absurd this ha
  · rw [r1, r4] at he
    exact absurd (congrArg Prod.fst he).symm hb2
  · rw [r1] at he
    have := congrArg Prod.fst he
    rcases fk r with h | h <;> rw [h] at this
    · exact absurd this.symm has
    · exact absurd this.symm ha
  · refine ⟨rfl, ?_⟩
    by_cases hrc : r = c
    · subst hrc
      by_cases hr2 : r2' = r
      · exact hr2.symm
      · rw [r2, r3 r2' hr2] at he
        exact absurd (congrArg Prod.fst he) hs
    · rw [r3 r hrc] at he
      by_cases hr2 : r2' = c
      · subst hr2
        rw [r2] at he
        exact absurd (congrArg Prod.fst he).symm hs
      · rw [r3 r2' hr2] at he
        exact congrArg Prod.snd he
  · rw [r4] at he
    have := congrArg Prod.fst he
    rcases fk r with h | h <;> rw [h] at this
    · exact absurd this.symm hb3
    · exact absurd this.symm hb1
  · rw [r1, r4] at he
    exact absurd (congrArg Prod.fst he) hb2
  · rw [r4] at he
    have := congrArg Prod.fst he
    rcases fk r with h | h <;> rw [h] at this
    · exact absurd this hb3
    · exact absurd this hb1
theorem mt_fam_fz {V : Vw} {ko kf N m e e2 : Nat} {w : Nat → Nat} {S : Nat → Nat → Int} {F : Nat → Nat → Int} {sh : AV} (hz : V.fz ko 0) (hzf : ∀ r, V.fz kf r) (ha : V.at' ko 0 = some (sh, CO kf N w e)) (hf : ∀ r, r < N → V.at' kf r = some (Z64 (w r), C64 (w r) (F r))) (hw : ∀ r, r < N → w r = m)
    (hS : ∀ r, r < N → ∀ j, j < m → F r j = S r j) : Mt V (rowsA N m S) (.own ko 0 N e2) := by
  refine mt_fz hz ha (fun r hr => ?_)
  rw [hw r hr]
  refine mt_fz (hzf r) (sh := Z64 m) (G := fun j => .int .i64 (F r j)) ?_ (fun j hj => congrArg (AV.int .i64) (hS r hr j hj))
  have := hf r hr
  rw [hw r hr] at this
  exact this
theorem rt_fam {T : TT} {env : Env} {ol : OL} {t a N M e e2 : Nat} {w : Nat → Nat} {F : Nat → Nat → Int} (hx : get env t = .own a 0 N e2) (ha : a ≠ 1) (hN : N = M) (h1 : ol.at_ a 0 = some (ZR N, CO 1 N w e)) (h3 : ∀ r, r < N → ol.at_ 1 r = some (Z64 (w r), C64 (w r) (F r))) :
    retQ T [.tmp t] (.own 0 0 M e2) [(0, .one (ZR M) (CO 1 M w e)), (1, .many (famF M w F))] .ret env ol := by
  subst hN
  refine ⟨ρP 0 1 a (a + 2) N, emb_fam (by decide) ha (by omega) (by omega) h1 (fun j _ _ => rfl) (fun h => absurd h (Nat.lt_irrefl N)) (fun h => absurd h (Nat.lt_irrefl N)) (fun r hr _ => h3 r hr) ⟨?_, trivial⟩⟩
  show Mt _ (.own 0 0 N e2) (get env t)
  rw [hx]
  exact ⟨rfl, rfl, rfl, rfl⟩
def eqR (n : Nat) (Fv : Nat → Nat → Nat → Int) (r i : Nat) : Int := Fv (r / n) i (r % n)
theorem eqR_at {n : Nat} {Fv : Nat → Nat → Nat → Int} {x k i : Nat} (hk : k < n) : eqR n Fv (x * n + k) i = Fv x i k := by
  unfold eqR; rw [div_of hk, mod_of hk]
def sysR (n : Nat) (Fv : Nat → Nat → Nat → Int) (W : Nat → Nat → Int) (r j : Nat) : Int := if j < n then Fv (r / n) j (r % n) else W (r / n) (r % n)
theorem fam_beside {c : Nat} {w : Nat → Nat} {F : Nat → Nat → Int} {ko kf : Nat} {sh cc : AV} (rest : OL) (h : ko ≠ kf) (r : Nat) (hr : r < c) : OL.at_ ((ko, .one sh cc) :: (kf, .many (famF c w F)) :: rest) kf r = some (Z64 (w r), C64 (w r) (F r)) := by
  simp only [OL.at_, beq_ff (Ne.symm h), cond_false, Nat.beq_refl, cond_true, Fam.at_]
  exact famF_at hr
end Go.Am

namespace Go.Am
section
variable {P : Program} {T : TT} {env : Env} {ol : OL}
variable {all : Array Oper} {r : List Oper} {R : Env → OL → Prop} {ty : TypeId} {pos : String} {af : Array Edge} {x y : Operand} {d : Nat} {t u : TypeId}
theorem w_quoN {a b : Nat} (hx : evE env x = .int .i64 (a : Int)) (hy : evE env y = .int .i64 (b : Int)) (hb : b ≠ 0) (ha : a < 9223372036854775808) (hr : WOps P T all r ((d, .int .i64 ((a / b : Nat) : Int)) :: env) ol R) : WOps P T all (⟨some d, .binOp .quo t x y u, ty, pos, af, none⟩ :: r) env ol R := by
  refine w_quo hx hy (by omega) ?_ hr
  rw [show ((a : Int).tdiv (b : Int)) = ((a / b : Nat) : Int) from (Int.ofNat_tdiv a b).symm]
  have := Nat.div_le_self a b
  generalize a / b = q at this ⊢
  exact w64 (by omega) (by omega)
theorem w_remN {a b : Nat} (hx : evE env x = .int .i64 (a : Int)) (hy : evE env y = .int .i64 (b : Int)) (hb : b ≠ 0) (hr : WOps P T all r ((d, .int .i64 ((a % b : Nat) : Int)) :: env) ol R) : WOps P T all (⟨some d, .binOp .rem t x y u, ty, pos, af, none⟩ :: r) env ol R := by
  refine w_rem hx hy (by omega) ?_
  rw [show ((a : Int).tmod (b : Int)) = ((a % b : Nat) : Int) from (Int.ofNat_tmod a b).symm]
  exact hr
end
theorem sysR_Bp {p : Int} {n : Nat} {Fv : Nat → Nat → Nat → Int} {W : Nat → Nat → Int} (hF : ∀ x i, Bp p (Fv x i)) (hW : ∀ x, Bp p (W x)) (r : Nat) : Bp p (sysR n Fv W r) := fun j => by
  unfold sysR
  split
  · exact hF _ _ _
  · exact hW _ _
theorem sysR_n {n : Nat} {Fv : Nat → Nat → Nat → Int} {W : Nat → Nat → Int} {r : Nat} : sysR n Fv W r n = W (r / n) (r % n) := if_neg (Nat.lt_irrefl n)
theorem sysR_lt {n : Nat} {Fv : Nat → Nat → Nat → Int} {W : Nat → Nat → Int} {r j : Nat} (h : j < n) : sysR n Fv W r j = eqR n Fv r j := if_pos h
end Go.Am

namespace Go.Am
theorem sumZ_add (f g : Nat → Int) : ∀ n, sumZ (fun i => f i + g i) n = sumZ f n + sumZ g n
  | 0 => rfl
  | n + 1 => by simp only [sumZ, sumZ_add f g n]; omega
theorem sumZ_mul (k : Int) (f : Nat → Int) : ∀ n, sumZ (fun i => k * f i) n = k * sumZ f n
  | 0 => by simp [sumZ]
  | n + 1 => by simp only [sumZ, sumZ_mul k f n, Int.mul_add]
theorem sumZ_mulr (k : Int) (f : Nat → Int) (n : Nat) : sumZ (fun i => f i * k) n = sumZ f n * k := by
  rw [Int.mul_comm, ← sumZ_mul]; exact sumZ_congr n (fun i _ => Int.mul_comm _ _)
theorem sumZ_swap (f : Nat → Nat → Int) (m : Nat) : ∀ n, sumZ (fun i => sumZ (f i) m) n = sumZ (fun j => sumZ (fun i => f i j) n) m
  | 0 => by simp only [sumZ]; exact (sumZ_zero m).symm
  | n + 1 => by
    simp only [sumZ]
    rw [sumZ_swap f m n, ← sumZ_add]
theorem sumZ_dvd {p : Int} {f g : Nat → Int} : ∀ n, (∀ i, i < n → p ∣ f i - g i) → p ∣ sumZ f n - sumZ g n
  | 0, _ => by simp [sumZ]
  | n + 1, h => by
    have h1 := sumZ_dvd n (fun i hi => h i (by omega))
    have := Int.dvd_add h1 (h n (by omega))
    simp only [sumZ]
    rw [show sumZ f n + f n - (sumZ g n + g n) = sumZ f n - sumZ g n + (f n - g n) by omega]
    exact this
theorem sumZ_one {f : Nat → Int} {c : Nat} : ∀ n, c < n → (∀ i, i < n → i ≠ c → f i = 0) → sumZ f n = f c
  | 0, h, _ => absurd h (Nat.not_lt_zero _)
  | n + 1, h, hz => by
    simp only [sumZ]
    by_cases hc : c = n
    · subst hc
      rw [sumZ_congr (g := fun _ => 0) c (fun j hj => hz j (by omega) (by omega)), sumZ_zero]; omega
    · rw [sumZ_one n (by omega) (fun i hi hne => hz i (by omega) hne), hz n (by omega) (Ne.symm hc)]; omega
theorem eq_of_dvd {p a b : Int} (ha : 0 ≤ a ∧ a < p) (hb : 0 ≤ b ∧ b < p) (h : p ∣ a - b) : a = b := by
  obtain ⟨q, hq⟩ := h
  have hq0 : q = 0 := by
    rcases Int.lt_trichotomy q 0 with h3 | h3 | h3
    · have := Int.mul_le_mul_of_nonneg_left (show q ≤ -1 by omega) (show 0 ≤ p by omega); omega
    · exact h3
    · have := Int.mul_le_mul_of_nonneg_left (show 1 ≤ q by omega) (show 0 ≤ p by omega); omega
  rw [hq0] at hq
  omega
theorem mod_eq_of_dvd {p a b : Int} (h : p ∣ a - b) : a % p = b % p := Int.emod_eq_emod_iff_emod_sub_eq_zero.2 (Int.emod_eq_zero_of_dvd h)
theorem dvd_tr {p a b c : Int} (h : p ∣ a - b) (h' : p ∣ b - c) : p ∣ a - c := by
  have := Int.dvd_add h h'; rwa [show a - b + (b - c) = a - c by omega] at this
theorem dvd_sy {p a b : Int} (h : p ∣ a - b) : p ∣ b - a := by
  have := Int.dvd_neg.2 h; rwa [show -(a - b) = b - a by omega] at this
theorem dvd_rf {p a b : Int} (h : a = b) : p ∣ a - b := by subst h; rw [Int.sub_self]; exact Int.dvd_zero p
def Sol (p : Int) (n N : Nat) (R : Nat → Nat → Int) (u : Nat → Int) : Prop := ∀ r, r < N → p ∣ dot n (R r) u - R r n
def extF (n : Nat) (u : Nat → Int) : Nat → Int := fun j => if j < n then u j else -1
theorem dot_ext (n : Nat) (f u : Nat → Int) : dot (n + 1) f (extF n u) = dot n f u - f n := by
  show sumZ _ n + f n * extF n u n = _
  rw [sumZ_congr (g := fun j => f j * u j) n (fun j hj => by unfold extF; rw [if_pos hj])]
  unfold extF
  rw [if_neg (Nat.lt_irrefl n), Int.mul_neg, Int.mul_one]
  unfold dot
  omega
theorem sol_null {p : Int} {n N : Nat} {R : Nat → Nat → Int} {u : Nat → Int} : Sol p n N R u ↔ Null p (n + 1) N R (extF n u) := by
  unfold Sol Null Z
  constructor
  · intro h i hi; rw [dot_ext]; exact h i hi
  · intro h i hi; have := h i hi; rwa [dot_ext] at this
section
variable {p : Int} {n no N : Nat} {O R : Nat → Nat → Int} {l : Nat → Nat}
theorem con_of_sol (hp : 1 < p) (h : Rref p (n + 1) no O l) {u : Nat → Int} (hu : Sol p n no O u) : conP n no O := by
  intro i hi
  rw [leadN_of (h.lead i hi)]
  obtain ⟨q1, q2, q3⟩ := h.lead i hi
  by_cases hn : l i = n
  · have := hu i hi
    rw [show dot n (O i) u = 0 from by
      unfold dot
      rw [sumZ_congr (g := fun _ => 0) n (fun j hj => by rw [q3 j (by omega), Int.zero_mul]), sumZ_zero]] at this
    rw [hn] at q2
    rw [q2] at this
    have h1 : p ∣ 1 := by have := Int.dvd_neg.2 this; simpa using this
    have := Int.le_of_dvd (by omega) h1
    omega
  · omega
theorem solGo_lead (h : Rref p (n + 1) no O l) {i : Nat} (hi : i < no) : ∀ k, k ≤ no → solGo n O k (l i) = if i < k then O i n else 0
  | 0, _ => by simp [solGo]
  | k + 1, hk => by
    show upd (solGo n O k) (leadN (n + 1) (O k)) (O k n) (l i) = _
    rw [leadN_of (h.lead k (by omega))]
    unfold upd
    by_cases hik : i = k
    · subst hik; simp
    · have hne : l i ≠ l k := by
        rcases Nat.lt_or_gt_of_ne hik with h1 | h1
        · have := h.inc i k h1 (by omega); omega
        · have := h.inc k i h1 hi; omega
      rw [solGo_lead h hi k (by omega)]
      simp only [hne, if_false]
      by_cases h1 : i < k
      · rw [if_pos h1, if_pos (by omega)]
      · rw [if_neg h1, if_neg (by omega)]
theorem solGo_off (h : Rref p (n + 1) no O l) {c : Nat} (hc : ¬ IsL no l c) : ∀ k, k ≤ no → solGo n O k c = 0
  | 0, _ => rfl
  | k + 1, hk => by
    show upd (solGo n O k) (leadN (n + 1) (O k)) (O k n) c = _
    rw [leadN_of (h.lead k (by omega))]
    unfold upd
    have hne : c ≠ l k := fun e => hc ⟨k, by omega, e.symm⟩
    simp only [hne, if_false]
    exact solGo_off h hc k (by omega)
theorem sol_of_con (h : Rref p (n + 1) no O l) (hcon : conP n no O) : Sol p n no O (solGo n O no) := by
  intro i hi
  have hl : l i < n := by have := hcon i hi; rwa [leadN_of (h.lead i hi)] at this
  obtain ⟨q1, q2, q3⟩ := h.lead i hi
  rw [dot_one n hl (fun j hj hne => ?_), q2, solGo_lead h hi no (Nat.le_refl _), if_pos hi]
  · rw [Int.one_mul, Int.sub_self]; exact Int.dvd_zero p
  · by_cases hL : IsL no l j
    · obtain ⟨i', hi', rfl⟩ := hL
      rw [h.off i' i hi' hi (fun e => hne (by rw [e])), Int.zero_mul]
    · rw [solGo_off h hL no (Nat.le_refl _), Int.mul_zero]
theorem solGo_Bp (hp : 0 < p) (h : Rref p (n + 1) no O l) : ∀ k, k ≤ no → Bp p (solGo n O k)
  | 0, _ => fun j => ⟨Int.le_refl _, hp⟩
  | k + 1, hk => fun j => by
    show 0 ≤ upd _ _ _ j ∧ upd _ _ _ j < p
    unfold upd
    split
    · exact h.bp k (by omega) n
    · exact solGo_Bp hp h k (by omega) j
theorem one_of_uniq (hp : 1 < p) (h : Rref p (n + 1) no O l) (hcon : conP n no O) (hu : ∀ u v, Sol p n no O u → Sol p n no O v → ∀ j, j < n → p ∣ u j - v j) : oneP n no O := by
  have hl : ∀ i, i < no → l i < n := fun i hi => by have := hcon i hi; rwa [leadN_of (h.lead i hi)] at this
  have hall : ∀ c, c < n → IsL no l c := by
    intro c hc
    apply Classical.byContradiction
    intro hn
    have hnn : ¬ IsL no l n := fun ⟨i, hi, e⟩ => by have := hl i hi; omega
    have h1 := solC_null h (show c < n + 1 by omega) hn
    have h2 := sol_of_con h hcon
    have h3 : Sol p n no O (fun j => solGo n O no j + solC no O l c j) := by
      intro i hi
      have a1 := h2 i hi
      have a2 := h1 i hi
      unfold Z at a2
      have a3 : dot (n + 1) (O i) (solC no O l c) = dot n (O i) (solC no O l c) := by
        show sumZ _ n + O i n * solC no O l c n = _
        rw [solC_off no O l (show n ≠ c by omega) hnn, Int.mul_zero, Int.add_zero]; rfl
      rw [a3] at a2
      have a4 : dot n (O i) (fun j => solGo n O no j + solC no O l c j) = dot n (O i) (solGo n O no) + dot n (O i) (solC no O l c) := by
        unfold dot; rw [← sumZ_add]; exact sumZ_congr n (fun j _ => Int.mul_add _ _ _)
      rw [a4]
      have := Int.dvd_add a1 a2
      rwa [show dot n (O i) (solGo n O no) - O i n + dot n (O i) (solC no O l c) = dot n (O i) (solGo n O no) + dot n (O i) (solC no O l c) - O i n by omega] at this
    have h4 := hu _ _ h3 h2 c hc
    rw [solC_self, show solGo n O no c + 1 - solGo n O no c = 1 by omega] at h4
    have := Int.le_of_dvd (by omega) h4
    omega
  obtain ⟨e1, e2⟩ := inc_eq (l' := fun i => i) (n' := n) h.inc (fun i j hij _ => hij) (fun i hi => ⟨l i, hl i hi, rfl⟩) (fun i hi => hall i hi)
  exact ⟨e1, fun i hi => by rw [leadN_of (h.lead i (by omega))]; exact e2 i (by omega)⟩
theorem one_lead (h : Rref p (n + 1) no O l) (ho : oneP n no O) {i : Nat} (hi : i < n) : l i = i := by
  have := ho.2 i hi
  rwa [leadN_of (h.lead i (by rw [ho.1]; exact hi))] at this
theorem one_dot (h : Rref p (n + 1) no O l) (ho : oneP n no O) (v : Nat → Int) {i : Nat} (hi : i < n) : dot n (O i) v = v i := by
  have hino : i < no := by rw [ho.1]; exact hi
  have hl := one_lead h ho hi
  rw [dot_one n hi (fun j hj hne => ?_)]
  · have := (h.lead i hino).2.1
    rw [hl] at this
    rw [this, Int.one_mul]
  · have := h.off j i (by rw [ho.1]; exact hj) hino hne
    rw [one_lead h ho hj] at this
    rw [this, Int.zero_mul]
theorem one_sol (h : Rref p (n + 1) no O l) (ho : oneP n no O) : Sol p n no O (cutF (fun a => O a n) n) := fun i hi => by
  have hin : i < n := by rw [← ho.1]; exact hi
  rw [one_dot h ho _ hin]
  unfold cutF
  rw [if_pos hin, Int.sub_self]; exact Int.dvd_zero p
theorem one_uniq (h : Rref p (n + 1) no O l) (ho : oneP n no O) {v : Nat → Int} (hv : Sol p n no O v) {i : Nat} (hi : i < n) : p ∣ v i - O i n := by
  have := hv i (by rw [ho.1]; exact hi)
  rwa [one_dot h ho _ hi] at this
end
def dl (i k : Nat) : Int := if i = k then 1 else 0
def LU (p : Int) (n : Nat) (T : Nat → Nat → Nat → Int) (u : Nat → Int) : Prop := ∀ i, i < n → ∀ k, k < n → p ∣ sumZ (fun j => T j i k * u j) n - dl i k
def RU (p : Int) (n : Nat) (T : Nat → Nat → Nat → Int) (u : Nat → Int) : Prop := ∀ i, i < n → ∀ k, k < n → p ∣ sumZ (fun j => T i j k * u j) n - dl i k
theorem sum_dl (f : Nat → Int) {n k : Nat} (hk : k < n) : sumZ (fun i => f i * dl i k) n = f k := by
  rw [sumZ_one (c := k) n hk (fun i _ hne => by simp [dl, hne])]
  simp [dl]
theorem unit_uniq {p : Int} {n : Nat} {T : Nat → Nat → Nat → Int} {x u : Nat → Int} (hx : LU p n T x) (hu : RU p n T u) {k : Nat} (hk : k < n) : p ∣ x k - u k := by
  have h1 : p ∣ sumZ (fun j => u j * sumZ (fun i => T i j k * x i) n) n - u k := by
    have := sumZ_dvd (p := p) (f := fun j => u j * sumZ (fun i => T i j k * x i) n) (g := fun j => u j * dl j k) n (fun j hj => by
      rw [← Int.mul_sub]; exact Int.dvd_mul_of_dvd_right (hx j hj k hk))
    rwa [sum_dl u hk] at this
  have h2 : p ∣ sumZ (fun i => x i * sumZ (fun j => T i j k * u j) n) n - x k := by
    have := sumZ_dvd (p := p) (f := fun i => x i * sumZ (fun j => T i j k * u j) n) (g := fun i => x i * dl i k) n (fun i hi => by
      rw [← Int.mul_sub]; exact Int.dvd_mul_of_dvd_right (hu i hi k hk))
    rwa [sum_dl x hk] at this
  have h3 : sumZ (fun j => u j * sumZ (fun i => T i j k * x i) n) n = sumZ (fun i => x i * sumZ (fun j => T i j k * u j) n) n := by
    have e1 : ∀ j, u j * sumZ (fun i => T i j k * x i) n = sumZ (fun i => u j * (T i j k * x i)) n := fun j => (sumZ_mul _ _ _).symm
    have e2 : ∀ i, x i * sumZ (fun j => T i j k * u j) n = sumZ (fun j => x i * (T i j k * u j)) n := fun i => (sumZ_mul _ _ _).symm
    rw [sumZ_congr n (fun j _ => e1 j), sumZ_congr n (fun i _ => e2 i), sumZ_swap]
    exact sumZ_congr n (fun i _ => sumZ_congr n (fun j _ => by rw [Int.mul_comm (u j), Int.mul_comm (x i), Int.mul_assoc, Int.mul_assoc, Int.mul_comm (x i)]))
  rw [h3] at h1
  exact dvd_tr (dvd_sy h2) h1
theorem times_el {p : Int} {n : Nat} {T : Nat → Nat → Nat → Int} {v : Nat → Int} {i k : Nat} (hi : i < n) (hk : k < n) : timesF p n T (eF i) v k = sumZ (fun j => T i j k * v j) n % p := by
  unfold timesF
  rw [if_pos hk, sumZ_one (c := i) n hi (fun a _ hne => ?_)]
  · congr 1
    unfold rowS tm
    exact sumZ_congr n (fun j _ => by simp [eF, upd, Int.mul_comm])
  · unfold rowS tm
    rw [sumZ_congr (g := fun _ => 0) n (fun j _ => by simp [eF, upd, hne]), sumZ_zero]
theorem times_er {p : Int} {n : Nat} {T : Nat → Nat → Nat → Int} {v : Nat → Int} {i k : Nat} (hi : i < n) (hk : k < n) : timesF p n T v (eF i) k = sumZ (fun j => T j i k * v j) n % p := by
  unfold timesF
  rw [if_pos hk]
  congr 1
  refine sumZ_congr n (fun j _ => ?_)
  unfold rowS tm
  rw [sumZ_one (c := i) n hi (fun a _ hne => by simp [eF, upd, hne])]
  simp [eF, upd, Int.mul_comm]
theorem eF_dl (i k : Nat) : eF i k = dl i k := by
  unfold eF upd dl
  by_cases h : k = i
  · subst h; simp
  · simp [h, Ne.symm h]
theorem times_ee {p : Int} {n : Nat} {T : Nat → Nat → Nat → Int} {i j k : Nat} (hi : i < n) (hj : j < n) (hk : k < n) (hT : 0 ≤ T i j k ∧ T i j k < p) : timesF p n T (eF i) (eF j) k = T i j k := by
  rw [times_el hi hk, sumZ_one (c := j) n hj (fun a _ hne => by simp [eF, upd, hne])]
  simp [eF, upd]
  exact Int.emod_eq_of_lt hT.1 hT.2
def uM (p : Int) (n : Nat) (T : Nat → Nat → Nat → Int) (x j : Nat) : Nat → Int := if x % 2 = 0 then timesF p n T (eF j) (eF (x / 2)) else timesF p n T (eF (x / 2)) (eF j)
def uW (x : Nat) : Nat → Int := eF (x / 2)
abbrev uR (p : Int) (n : Nat) (T : Nat → Nat → Nat → Int) : Nat → Nat → Int := sysR n (uM p n T) uW
theorem timesF_Bp {p : Int} (hp : 0 < p) {n : Nat} {T : Nat → Nat → Nat → Int} {u v : Nat → Int} : Bp p (timesF p n T u v) := fun k => by
  unfold timesF
  split
  · exact ⟨Int.emod_nonneg _ (by omega), Int.emod_lt_of_pos _ hp⟩
  · exact ⟨Int.le_refl _, hp⟩
theorem uM_Bp {p : Int} (hp : 0 < p) {n : Nat} {T : Nat → Nat → Nat → Int} (x j : Nat) : Bp p (uM p n T x j) := by
  unfold uM; split <;> exact timesF_Bp hp
theorem eF_Bp {p : Int} (hp : 1 < p) (i : Nat) : Bp p (eF i) := fun k => by rw [eF_dl]; unfold dl; split <;> omega
theorem uR_sol {p : Int} {n : Nat} {T : Nat → Nat → Nat → Int} {u : Nat → Int} (hn : 0 < n) (hT : BpT p T) : Sol p n (2 * n * n) (uR p n T) u ↔ LU p n T u ∧ RU p n T u := by
  have row : ∀ x k, x < 2 * n → k < n → (p ∣ dot n (uR p n T (x * n + k)) u - uR p n T (x * n + k) n ↔ (if x % 2 = 0 then p ∣ sumZ (fun j => T j (x / 2) k * u j) n - dl (x / 2) k else p ∣ sumZ (fun j => T (x / 2) j k * u j) n - dl (x / 2) k)) := by
    intro x k hx hk
    have hx2 : x / 2 < n := by omega
    have e1 : uR p n T (x * n + k) n = dl (x / 2) k := by unfold uR; rw [sysR_n, div_of hk, mod_of hk]; exact eF_dl _ _
    have e2 : ∀ j, j < n → uR p n T (x * n + k) j = uM p n T x j k := fun j hj => by unfold uR; rw [sysR_lt hj, eqR_at hk]
    rw [e1]
    unfold dot
    rw [sumZ_congr (g := fun j => uM p n T x j k * u j) n (fun j hj => by rw [e2 j hj])]
    unfold uM
    by_cases h0 : x % 2 = 0
    · simp only [h0, if_true]
      rw [sumZ_congr (g := fun j => T j (x / 2) k * u j) n (fun j hj => by rw [times_ee hj hx2 hk (hT _ _ _)])]
    · simp only [h0, if_false]
      rw [sumZ_congr (g := fun j => T (x / 2) j k * u j) n (fun j hj => by rw [times_ee hx2 hj hk (hT _ _ _)])]
  have hlt : ∀ x k, x < 2 * n → k < n → x * n + k < 2 * n * n := fun x k hx hk => by
    have : (x + 1) * n ≤ 2 * n * n := Nat.mul_le_mul_right n hx
    rw [Nat.add_mul] at this; omega
  constructor
  · intro h
    refine ⟨fun i hi k hk => ?_, fun i hi k hk => ?_⟩
    · have := (row (2 * i) k (by omega) hk).1 (h _ (hlt _ _ (by omega) hk))
      rw [if_pos (by omega), show 2 * i / 2 = i by omega] at this
      exact this
    · have := (row (2 * i + 1) k (by omega) hk).1 (h _ (hlt _ _ (by omega) hk))
      rw [if_neg (by omega), show (2 * i + 1) / 2 = i by omega] at this
      exact this
  · rintro ⟨hL, hR⟩ r hr
    have hk : r % n < n := Nat.mod_lt _ hn
    have hx : r / n < 2 * n := (Nat.div_lt_iff_lt_mul hn).2 hr
    have e : r = r / n * n + r % n := by have := Nat.div_add_mod r n; rw [Nat.mul_comm] at this; omega
    rw [e]
    rw [row _ _ hx hk]
    split
    · exact hL _ (by omega) _ hk
    · exact hR _ (by omega) _ hk
theorem uR_Bp {p : Int} (hp : 1 < p) {n : Nat} {T : Nat → Nat → Nat → Int} (r : Nat) : Bp p (uR p n T r) := sysR_Bp (fun x i => uM_Bp (by omega) x i) (fun x => eF_Bp hp _) r
def uOk (p : Int) (n : Nat) (T : Nat → Nat → Nat → Int) : Prop := conP n (redGo p (2 * n * n) (uR p n T) (n + 1)).no (redGo p (2 * n * n) (uR p n T) (n + 1)).O
noncomputable instance (p : Int) (n : Nat) (T : Nat → Nat → Nat → Int) : Decidable (uOk p n T) := Classical.propDecidable _
noncomputable def uF (p : Int) (n : Nat) (T : Nat → Nat → Nat → Int) : Nat → Int := if uOk p n T then cutF (solGo n (redGo p (2 * n * n) (uR p n T) (n + 1)).O (redGo p (2 * n * n) (uR p n T) (n + 1)).no) n else fun _ => 0
theorem LU_cut {p : Int} {n : Nat} {T : Nat → Nat → Nat → Int} {u : Nat → Int} : LU p n T (cutF u n) ↔ LU p n T u := by
  unfold LU
  have e : ∀ i k, sumZ (fun j => T j i k * cutF u n j) n = sumZ (fun j => T j i k * u j) n := fun i k => sumZ_congr n (fun j hj => by unfold cutF; rw [if_pos hj])
  simp only [e]
theorem RU_cut {p : Int} {n : Nat} {T : Nat → Nat → Nat → Int} {u : Nat → Int} : RU p n T (cutF u n) ↔ RU p n T u := by
  unfold RU
  have e : ∀ i k, sumZ (fun j => T i j k * cutF u n j) n = sumZ (fun j => T i j k * u j) n := fun i k => sumZ_congr n (fun j hj => by unfold cutF; rw [if_pos hj])
  simp only [e]
theorem uF_unit {p : Int} (hp : primeB p = true) {n : Nat} (hn : 0 < n) {T : Nat → Nat → Nat → Int} (hT : BpT p T) (h : uOk p n T) : LU p n T (uF p n T) ∧ RU p n T (uF p n T) ∧ Bp p (uF p n T) ∧ ∀ j, n ≤ j → uF p n T j = 0 := by
  have hpb := primeB_bd hp
  obtain ⟨⟨l, hrr⟩, hnl⟩ := red_ok (m := n + 1) (n := 2 * n * n) (R := uR p n T) hp (fun i _ => uR_Bp (by omega) i)
  have h1 := sol_of_con hrr h
  have h2 : Sol p n (2 * n * n) (uR p n T) (solGo n (redGo p (2 * n * n) (uR p n T) (n + 1)).O (redGo p (2 * n * n) (uR p n T) (n + 1)).no) := sol_null.2 ((hnl _).1 (sol_null.1 h1))
  obtain ⟨h3, h4⟩ := (uR_sol hn hT).1 h2
  unfold uF
  rw [if_pos h]
  refine ⟨LU_cut.2 h3, RU_cut.2 h4, fun j => ?_, fun j hj => by unfold cutF; rw [if_neg (by omega)]⟩
  unfold cutF
  split
  · exact solGo_Bp (by omega) hrr _ (Nat.le_refl _) j
  · omega
theorem uOk_of {p : Int} (hp : primeB p = true) {n : Nat} (hn : 0 < n) {T : Nat → Nat → Nat → Int} (hT : BpT p T) {u : Nat → Int} (h1 : LU p n T u) (h2 : RU p n T u) : uOk p n T := by
  have hpb := primeB_bd hp
  obtain ⟨⟨l, hrr⟩, hnl⟩ := red_ok (m := n + 1) (n := 2 * n * n) (R := uR p n T) hp (fun i _ => uR_Bp (by omega) i)
  exact con_of_sol (by omega) hrr (sol_null.2 ((hnl _).2 (sol_null.1 ((uR_sol hn hT).2 ⟨h1, h2⟩))))
end Go.Am

namespace Go.Am
theorem mt_app2 {V : Vw} {n N : Nat} {F f g : Nat → AV} (hn : n + 2 = N) (h1 : ∀ j, j < n → Mt V (F j) (f j)) (h2 : Mt V (F n) (g 0)) (h3 : Mt V (F (n + 1)) (g 1)) : Mt V (.arr N F) (.arr (n + 2) (appF n f 2 g)) := by
  subst hn
  refine ⟨rfl, fun i hi => ?_⟩
  by_cases h : i < n
  · rw [appF_lt h]; exact h1 i h
  · by_cases h0 : i = n
    · subst h0
      rw [appF_ge (Nat.le_refl _) (by omega), Nat.sub_self]; exact h2
    · have : i = n + 1 := by omega
      subst this
      rw [appF_ge (by omega) (by omega), show n + 1 - n = 1 by omega]; exact h3
theorem cel_cap2 {g : Nat} {a b : AV} : (AV.fn g 2 (cap2 (.cptr a) (.cptr b))).cel := fun i hi => by
  match i, hi with
  | 0, _ => trivial
  | 1, _ => trivial
end Go.Am

namespace Go.Am
def V0 : Vw := ⟨fun k i => (k, i), fun _ => false, fun _ _ => none, fun _ _ => False⟩
theorem V0_ok (K : Kx) : VwOk V0 K K := ⟨rfl, rfl, rfl, fun _ h => h, fun k h => by simp [V0] at h, fun k i k' i' h => by simp only [V0, Prod.mk.injEq] at h; obtain ⟨rfl, rfl⟩ := h; exact ⟨rfl, rfl⟩, fun k i sh c h => by simp [V0] at h⟩
def MtL : List AV → List AV → Prop
  | [], [] => True
  | a :: ars, b :: bs => Mt V0 a b ∧ MtL ars bs
  | _, _ => False
theorem MtL_VRs {K : Kx} : ∀ {ars ars' : List AV} {cs : List Value}, MtL ars ars' → VRs K ars' cs → VRs K ars cs
  | [], [], [], _, _ => trivial
  | [], [], _ :: _, _, h => h.elim
  | a :: ars, b :: bs, [], _, h => h.elim
  | a :: ars, b :: bs, c :: cs, h, h2 => ⟨Mt_VR (V0_ok K) h.1 h2.1, MtL_VRs h.2 h2.2⟩
  | [], _ :: _, _, h, _ => h.elim
  | _ :: _, [], _, h, _ => h.elim
theorem ACalls.mt {P : Program} {T : TT} {f : FuncId} {ars ars' : List AV} {r : AV} {H : OL} (h : ACalls P T f ars r H) (hm : MtL ars ars') : ACalls P T f ars' r H :=
  ⟨h.ent, fun w I cs hI ha => h.go w I cs hI (MtL_VRs hm ha)⟩
structure RB (T : Nat → Nat → Nat → Int) : Prop where
  b : B8T T
  z : ∀ i j k, 6 ≤ i ∨ 6 ≤ j ∨ 6 ≤ k → T i j k = 0
structure RV (v : Nat → Int) : Prop where
  b : B8 v
  z : ∀ k, 6 ≤ k → v k = 0
def VA (p n : Int) (T : Nat → Nat → Nat → Int) (fo : Nat → Int) : Prop := shapeP p n T fo ∧ assocP p n.toNat T ∧ uOk p n.toNat T
noncomputable instance (p n : Int) (T : Nat → Nat → Nat → Int) (fo : Nat → Int) : Decidable (VA p n T fo) := Classical.propDecidable _
structure VN (p : Int) (n : Nat) (T : Nat → Nat → Nat → Int) (fo : Nat → Int) : Prop where
  hp : primeB p = true
  n0 : 0 < n
  n6 : n ≤ 6
  hT : BpT p T
  tz : ∀ i j k, n ≤ i ∨ n ≤ j ∨ n ≤ k → T i j k = 0
  f : Bp p fo
  fz : ∀ k, n ≤ k → fo k = 0
  asc : assocP p n T
  u : uOk p n T
structure VV (p : Int) (n : Nat) (v : Nat → Int) : Prop where
  b : Bp p v
  z : ∀ k, n ≤ k → v k = 0
theorem VV.sm {p : Int} {n : Nat} {v : Nat → Int} (h : VV p n v) : smP p (n : Int) v := fun k _ => ⟨(h.b k).2, fun hk => h.z k (by omega)⟩
theorem VV.B8 {p : Int} {n : Nat} {v : Nat → Int} (h : VV p n v) (hp : p ≤ 256) : B8 v := B8_of hp h.b
theorem BpT_of {p n : Int} {T : Nat → Nat → Nat → Int} {fo : Nat → Int} (hT : RB T) (hs : shapeP p n T fo) : BpT p T := by
  obtain ⟨h1, h2, h3, h4⟩ := shape_iff.1 hs
  have hpb := primeB_bd h1
  intro i j k
  by_cases h6 : 6 ≤ i ∨ 6 ≤ j ∨ 6 ≤ k
  · rw [hT.z i j k h6]; omega
  · exact ⟨(hT.b i j k).1, ((h3 i (by omega) j (by omega)).1 k (by omega)).1⟩
theorem shape_neg {p n : Int} {T : Nat → Nat → Nat → Int} {fo : Nat → Int} (h : n < 0) : ¬ shapeP p n T fo := fun hs => by have := (shape_iff.1 hs).2.1; omega
theorem VA_neg {p n : Int} {T : Nat → Nat → Nat → Int} {fo : Nat → Int} (h : n < 0) : ¬ VA p n T fo := fun hs => shape_neg h hs.1
theorem VN.p0 {p : Int} {n : Nat} {T : Nat → Nat → Nat → Int} {fo : Nat → Int} (h : VN p n T fo) : 2 ≤ p ∧ p ≤ 13 := primeB_bd h.hp
theorem VN.T8 {p : Int} {n : Nat} {T : Nat → Nat → Nat → Int} {fo : Nat → Int} (h : VN p n T fo) : B8T T := B8T_of (by have := h.p0; omega) h.hT
theorem VN.f8 {p : Int} {n : Nat} {T : Nat → Nat → Nat → Int} {fo : Nat → Int} (h : VN p n T fo) : B8 fo := B8_of (by have := h.p0; omega) h.f
def VZ (p n : Int) (T : Nat → Nat → Nat → Int) (fo : Nat → Int) (M : Nat) (V : Nat → Nat → Int) : Prop := VA p n T fo ∧ ∀ i, i < M → smP p n (V i)
noncomputable instance (p n : Int) (T : Nat → Nat → Nat → Int) (fo : Nat → Int) (M : Nat) (V : Nat → Nat → Int) : Decidable (VZ p n T fo M V) := Classical.propDecidable _
noncomputable def cZ (p n : Int) (T : Nat → Nat → Nat → Int) (fo : Nat → Int) (M : Nat) (V : Nat → Nat → Int) : Int := if VZ p n T fo M V then 0 else 1
abbrev vlA (M : Nat) (V : Nat → Nat → Int) : AV := .ro M (fun i => vecA (V i))
theorem closed_vl {M : Nat} {F : Nat → Nat → Int} : (vlA M F).closed := fun _ _ => trivial
theorem m_vl {V : Vw} {M : Nat} {F : Nat → Nat → Int} : Mt V (vlA M F) (vlA M F) := Mt_closed closed_vl (fun _ _ _ => trivial) (by simp)
theorem ex_vl {at_ : Nat → Nat → Option (AV × AV)} {d M : Nat} {F : Nat → Nat → Int} : exp at_ (d + 1) (vlA M F) = vlA M F := exp_closed closed_vl
def vs1 (v : Nat → Int) : Nat → Nat → Int := fun i => if i = 0 then v else fun _ => 0
theorem ex_l1 {at_ : Nat → Nat → Option (AV × AV)} {k e : Nat} {sh : AV} {v : Nat → Int} {z : AV} (hz : z = vecA (fun _ => 0)) (h : at_ k 0 = some (sh, .arr 1 (fun i => bif Nat.beq i 0 then vecA v else z))) : exp at_ 4 (.own k 0 1 e) = vlA 1 (vs1 v) := by
  subst hz
  show (match at_ k 0 with | some (_, .arr m f) => AV.ro m (fun j => exp at_ 3 (f j)) | _ => .any) = _
  rw [h]
  refine congrArg (AV.ro 1) (funext fun i => ?_)
  match i with
  | 0 => rfl
  | i + 1 => rfl
theorem cZ_ok {p n : Int} {T : Nat → Nat → Nat → Int} {fo : Nat → Int} {M : Nat} {V : Nat → Nat → Int} (h : VZ p n T fo M V) : cZ p n T fo M V = 0 := if_pos h
theorem cZ_no {p n : Int} {T : Nat → Nat → Nat → Int} {fo : Nat → Int} {M : Nat} {V : Nat → Nat → Int} (h : ¬ VZ p n T fo M V) : cZ p n T fo M V = 1 := if_neg h
theorem VZ_1 {p n : Int} {T : Nat → Nat → Nat → Int} {fo v : Nat → Int} : VZ p n T fo 1 (vs1 v) ↔ VA p n T fo ∧ smP p n v :=
  ⟨fun h => ⟨h.1, h.2 0 (by omega)⟩, fun h => ⟨h.1, fun i hi => by rw [show i = 0 by omega]; exact h.2⟩⟩
theorem VZ_0 {p n : Int} {T : Nat → Nat → Nat → Int} {fo : Nat → Int} {F : Nat → Nat → Int} : VZ p n T fo 0 F ↔ VA p n T fo := ⟨fun h => h.1, fun h => ⟨h, fun i hi => absurd hi (Nat.not_lt_zero _)⟩⟩
theorem B8_0 : B8 (fun _ => 0) := fun k => by show 0 ≤ (0 : Int) ∧ (0 : Int) < 256; omega
theorem vs1_B8 {v : Nat → Int} (hv : B8 v) (i : Nat) : B8 (vs1 v i) := by
  unfold vs1; split
  · exact hv
  · intro k; show 0 ≤ (0 : Int) ∧ (0 : Int) < 256; omega
theorem VN.va {p : Int} {n : Nat} {T : Nat → Nat → Nat → Int} {fo : Nat → Int} (h : VN p n T fo) : VA p n T fo := by
  have hp := h.p0
  have h0 := h.n0
  have h6 := h.n6
  refine ⟨shape_iff.2 ⟨h.hp, by omega, fun i hi j hj => ⟨fun k hk => ⟨(h.hT i j k).2, fun hk => h.tz i j k (by omega)⟩, fun hij k hk => h.tz i j k (by omega)⟩, fun k hk => ⟨(h.f k).2, fun hk => h.fz k (by omega)⟩⟩, h.asc, h.u⟩
theorem VN.rb {p : Int} {n : Nat} {T : Nat → Nat → Nat → Int} {fo : Nat → Int} (h : VN p n T fo) : RB T := ⟨h.T8, fun i j k hz => h.tz i j k (by have := h.n6; omega)⟩
theorem VN.rv {p : Int} {n : Nat} {T : Nat → Nat → Nat → Int} {fo : Nat → Int} (h : VN p n T fo) : RV fo := ⟨h.f8, fun k hz => h.fz k (by have := h.n6; omega)⟩
def comP (T : Nat → Nat → Nat → Int) : Prop := ∀ i, i < 6 → ∀ j, j < i → eqN 6 (T i j) (T j i)
def comN (n : Nat) (T : Nat → Nat → Nat → Int) : Prop := ∀ i, i < n → ∀ j, j < i → eqN 6 (T i j) (T j i)
noncomputable instance (T : Nat → Nat → Nat → Int) : Decidable (comP T) := Classical.propDecidable _
noncomputable instance (n : Nat) (T : Nat → Nat → Nat → Int) : Decidable (comN n T) := Classical.propDecidable _
def formF (p : Int) (fo v : Nat → Int) : Int := sumZ (fun i => fo i * v i) 6 % p
theorem formF_comm {p : Int} {fo v : Nat → Int} : sumZ (fun i => v i * fo i) 6 % p = formF p fo v := by
  unfold formF; congr 1; exact sumZ_congr 6 (fun i _ => Int.mul_comm _ _)
theorem formF_bd {p : Int} (hp : 0 < p) (fo v : Nat → Int) : 0 ≤ formF p fo v ∧ formF p fo v < p := ⟨Int.emod_nonneg _ (by omega), Int.emod_lt_of_pos _ hp⟩
theorem form_acc {u v : Nat → Int} (hu : B8 u) (hv : B8 v) {i : Nat} (hi : i ≤ 6) : 0 ≤ sumZ (fun i => u i * v i) i ∧ sumZ (fun i => u i * v i) i ≤ 6 * 65025 := by
  have := sumZ_bd (f := fun i => u i * v i) (M := 65025) (fun i => mul_bd (A := 255) (B := 255) ⟨(hu i).1, by have := (hu i).2; omega⟩ ⟨(hv i).1, by have := (hv i).2; omega⟩) i
  have h2 : (i : Int) * 65025 ≤ 6 * 65025 := by omega
  omega
theorem uv_small {u v : Nat → Int} (hu : B8 u) (hv : B8 v) (i : Nat) : 0 ≤ u i * v i ∧ u i * v i ≤ 65025 := mul_bd (A := 255) (B := 255) ⟨(hu i).1, by have := (hu i).2; omega⟩ ⟨(hv i).1, by have := (hv i).2; omega⟩
def addF (p : Int) (u v : Nat → Int) (k : Int) (i : Nat) : Int := (u i + k * v i) % p
theorem addF_Bp {p : Int} (hp : 0 < p) (u v : Nat → Int) (k : Int) : Bp p (addF p u v k) := fun i => ⟨Int.emod_nonneg _ (by omega), Int.emod_lt_of_pos _ hp⟩
theorem kv_bd {v : Nat → Int} (hv : B8 v) {k : Int} (hk : -1000000000000 ≤ k ∧ k ≤ 1000000000000) (i : Nat) : -1000000000000 * 256 ≤ k * v i ∧ k * v i ≤ 1000000000000 * 256 := by
  have := hv i
  constructor
  · have h1 := Int.mul_le_mul_of_nonneg_right hk.1 this.1
    have h2 := Int.mul_le_mul_of_nonneg_left (show v i ≤ 256 by omega) (show (0 : Int) ≤ 1000000000000 by omega)
    omega
  · have h1 := Int.mul_le_mul_of_nonneg_right hk.2 this.1
    have h2 := Int.mul_le_mul_of_nonneg_left (show v i ≤ 256 by omega) (show (0 : Int) ≤ 1000000000000 by omega)
    omega
theorem tmod_nn {a p : Int} (ha : 0 ≤ a) : a.tmod p = a % p := Int.tmod_eq_emod_of_nonneg ha
end Go.Am

namespace Go.Am
section
variable {P : Program} {w : World} {base : Nat} {t : TypeId} {v : Value}
end
theorem has_u8 {n : Int} (h : IntKind.u8.has n) : 0 ≤ n ∧ n < 256 := by
  have h' : IntKind.u8.min ≤ n ∧ n ≤ IntKind.u8.max := h
  have e1 : IntKind.u8.min = 0 := rfl
  have e2 : IntKind.u8.max = 255 := rfl
  omega
theorem law_walk {P : Program} {T : TT} {f : FuncId} {ars : List AV} (h : ACalls P T f ars (.bool true) []) (w : World) (cs : List Value) (ha : VRs (K0 T (fun b => b < w.heap.size) w) ars cs) :
    Calls P f cs.toArray w fun e w' => e = .returned (.bool true) ∧ Go.RowKit.Below w.heap.size w w' := by
  refine (h.go w (fun b => b < w.heap.size) cs (fun b hb => hb) ha).mono ?_
  rintro e w' ⟨c, κ, rfl, hR, hv⟩
  rw [VR_bool hv]
  exact ⟨rfl, hR.os, hR.tape, hR.output, hR.size, fun b hb => hR.block b hb (fun h => h)⟩
end Go.Am

namespace Go.Am
section
variable {p : Int} {n : Nat} {T : Nat → Nat → Nat → Int}
def nilW (p : Int) (n : Nat) (T : Nat → Nat → Nat → Int) (v : Nat → Int) : Nat → Nat → Int
  | 0 => v
  | k + 1 => timesF p n T (nilW p n T v k) v
def nilB (p : Int) (n : Nat) (T : Nat → Nat → Nat → Int) (v : Nat → Int) (k : Nat) : Prop := eqN 6 (nilW p n T v k) (fun _ => 0)
noncomputable instance (p : Int) (n : Nat) (T : Nat → Nat → Nat → Int) (v : Nat → Int) (k : Nat) : Decidable (nilB p n T v k) := Classical.propDecidable _
def powV (p : Int) (n : Nat) (T : Nat → Nat → Nat → Int) (u v : Nat → Int) : Nat → Nat → Int
  | 0 => u
  | k + 1 => timesF p n T (powV p n T u v k) v
theorem powV_Bp (h : 2 ≤ p) {u v : Nat → Int} (hu : Bp p u) : ∀ k, Bp p (powV p n T u v k)
  | 0 => hu
  | k + 1 => timesF_Bp (by omega)
def formT (p : Int) (T : Nat → Nat → Nat → Int) (fo : Nat → Int) (i j : Nat) : Int := formF p fo (T i j)
theorem formT_Bp (h : 2 ≤ p) {fo : Nat → Int} (i : Nat) : Bp p (formT p T fo i) := fun j => formF_bd (by omega) _ _
def rankT (p : Int) (n : Nat) (T : Nat → Nat → Nat → Int) (fo : Nat → Int) : Nat := (redGo p n (formT p T fo) n).no
theorem VN.u_Bp {fo : Nat → Int} (h : VN p n T fo) : Bp p (uF p n T) := (uF_unit h.hp h.n0 h.hT h.u).2.2.1
theorem VN.u_V {fo : Nat → Int} (h : VN p n T fo) : VV p n (uF p n T) := ⟨(uF_unit h.hp h.n0 h.hT h.u).2.2.1, (uF_unit h.hp h.n0 h.hT h.u).2.2.2⟩
end
theorem mt_fam0 {at_ : Nat → Nat → Option (AV × AV)} {ko kf N m e e2 : Nat} {w : Nat → Nat} {S F : Nat → Nat → Int} {sh : AV} (ha : at_ ko 0 = some (sh, CO kf N w e2)) (hf : ∀ r, r < N → at_ kf r = some (Z64 (w r), C64 (w r) (F r))) (hw : ∀ r, r < N → w r = m)
    (hS : ∀ r, r < N → ∀ j, j < m → F r j = S r j) : Mt V0 (rowsA N m S) (exp at_ 4 (.own ko 0 N e)) := by
  show Mt V0 _ (match at_ ko 0 with | some (_, .arr m f) => AV.ro m (fun j => exp at_ 3 (f j)) | _ => .any)
  rw [ha]
  refine ⟨rfl, fun r hr => ?_⟩
  show Mt V0 _ (match at_ kf r with | some (_, .arr m f) => AV.ro m (fun j => exp at_ 2 (f j)) | _ => .any)
  rw [hf r hr, hw r hr]
  exact ⟨rfl, fun j hj => congrArg (AV.int .i64) (hS r hr j hj)⟩
theorem ACalls.res {P : Program} {T : TT} {f : FuncId} {ars : List AV} {r r' : AV} {H H' : OL} {ρ : Nat → Nat → Nat × Nat} (h : ACalls P T f ars r H) (hm : Emb ρ [(0, r)] H [(0, r')] H') : ACalls P T f ars r' H' := by
  refine ⟨h.ent, fun w I cs hI ha => (h.go w I cs hI ha).mono ?_⟩
  rintro e w' ⟨c, κ, rfl, hR, hv⟩
  obtain ⟨κ2, hR2, hV⟩ := hm.rel hR
  exact ⟨c, κ2, rfl, hR2, MtE_VR hV hm.1.1 hv⟩
theorem rows_len {P : Program} {T : TT} {f : FuncId} {ars : List AV} {no m e : Nat} {O : Nat → Nat → Int} (h : ACalls P T f ars (.own 0 0 no e) (HRR no m O)) : ACalls P T f ars (.own 0 0 no e) [(0, .one (ZR no) (.arr no (fun _ => .any)))] :=
  h.res (ρ := ρ0) ⟨⟨⟨rfl, rfl, rfl, rfl⟩, trivial⟩, ⟨⟨rfl, ⟨rfl, fun _ => trivial⟩, ⟨rfl, fun _ _ => rfl⟩⟩, trivial⟩, ⟨⟨fun _ => ⟨rfl, rfl⟩, trivial⟩, trivial⟩⟩
theorem w_mixc {F u : Nat → Int} (hu : B8 u) (i : Nat) : IntKind.i64.wrap (mixF F u i i) = u i := by rw [mixF_self]; exact w64b hu i
theorem add_tmod {p : Int} {u v : Nat → Int} {k : Int} (hu : B8 u) (hv : B8 v) (hk : 0 ≤ k) (i : Nat) : (u i + k * v i).tmod p = addF p u v k i :=
  tmod_nn (by have := hu i; have := Int.mul_nonneg hk (hv i).1; omega)
theorem w_addF {p : Int} (hp : 2 ≤ p ∧ p ≤ 13) (u v : Nat → Int) (k : Int) (i : Nat) : IntKind.u8.wrap (addF p u v k i) = addF p u v k i := by
  have := addF_Bp (p := p) (by omega) u v k i
  exact w8 this.1 (by omega)
theorem not_t {p : Prop} [Decidable p] (h : p) : AV.bool (!(decide p)) = .bool false := by rw [decide_eq_true h]; rfl
end Go.Am

namespace Go.Am
theorem hcs : (∀ b : Bool, ((!b) = true) = (b = false)) ∧ (∀ b : Bool, ((!b) = false) = (b = true)) ∧ (∀ b : Bool, (¬ b = true) = (b = false)) ∧ (∀ b : Bool, (¬ b = false) = (b = true)) ∧
    (∀ (p : Prop) (_ : Decidable p), (decide p = true) = p) ∧ (∀ (p : Prop) (_ : Decidable p), (decide p = false) = ¬ p) ∧ (∀ a b : Int, (¬ a < b) = (b ≤ a)) ∧ (∀ a b : Int, (¬ a ≤ b) = (b < a)) ∧ (∀ p : Prop, (¬ ¬ p) = p) ∧ (∀ (a b : Int), (a ≠ b) = ¬ a = b) :=
  ⟨fun b => by cases b <;> simp, fun b => by cases b <;> simp, fun b => by cases b <;> simp, fun b => by cases b <;> simp, fun p _ => by simp, fun p _ => by simp, fun a b => by simp, fun a b => by simp, fun p => by simp, fun a b => rfl⟩
theorem els : (∀ b : Bool, (true || b) = true) ∧ (∀ b : Bool, (false || b) = b) ∧ (∀ b : Bool, (true && b) = b) ∧ (∀ b : Bool, (false && b) = false) ∧ (∀ b : Bool, (b || true) = true) ∧ (∀ b : Bool, (b || false) = b) :=
  ⟨fun _ => rfl, fun _ => rfl, fun _ => rfl, fun _ => rfl, fun b => by simp, fun b => by simp⟩
theorem ec {f : AV → AV} {a b : AV} {l bs : List AV} (ht : l.map f = bs) (h : f a = b := by first | exact rfl | exact exp_alg | exact exp_calg | exact ex_vl | exact exp_closed (by assumption)) : (a :: l).map f = b :: bs := exc h ht
section
variable {P : Program} {T : TT} {env : Env} {ol : OL}
variable {all : Array Oper} {r : List Oper} {R : Env → OL → Prop} {ty : TypeId} {pos : String} {af : Array Edge} {x y : Operand} {d : Nat} {t u : TypeId}
theorem y_call {f : Operand} {args : Array Operand} {aty : Array TypeId} {g n : Nat} {caps : Nat → AV} {ars : List AV} {v : AV} (hf : callee (evE env) f = .fn g n caps) (ha : (args.toList.map (evE env) ++ capL n caps).map (exp ol.at_ 4) = ars) (hc : ACalls P T g ars v [])
    (hr : WOps P T all r ((d, v) :: env) ol R)
    (hn : v.noref := by first | exact trivial | exact fun _ => trivial | exact fun _ _ => trivial | exact fun _ _ _ => trivial | exact nr_alg | exact nr_pair (by first | exact trivial | exact fun _ => trivial | exact nr_alg) (by first | exact trivial | exact fun _ => trivial))
    (hs : ∀ b, shift b v = v := by exact fun _ => by first | exact rfl | exact shift_alg | exact shift_pair rfl rfl | exact shift_pair shift_alg rfl) :
    WOps P T all (⟨some d, .call { callee := .value f, args := args, argTypes := aty }, ty, pos, af, none⟩ :: r) env ol R := w_call0 hf ha hc hn hs hr
theorem y_add {k : IntKind} {a b c : Int} (hx : evE env x = .int k a) (hy : evE env y = .int k b) (hr : WOps P T all r ((d, .int k c) :: env) ol R) (hc : k.wrap (a + b) = c := by first | exact w64 (by omega) (by omega) | exact w64b (by assumption) _ | exact w64t (by assumption) _ _ _ | exact w8 (by omega) (by omega) | exact w8b (by assumption) _ | exact rfl) : WOps P T all (⟨some d, .binOp .add t x y u, ty, pos, af, none⟩ :: r) env ol R := w_add hx hy hc hr
theorem y_sub {k : IntKind} {a b c : Int} (hx : evE env x = .int k a) (hy : evE env y = .int k b) (hr : WOps P T all r ((d, .int k c) :: env) ol R) (hc : k.wrap (a - b) = c := by first | exact w64 (by omega) (by omega) | exact w64b (by assumption) _ | exact w64t (by assumption) _ _ _ | exact w8 (by omega) (by omega) | exact w8b (by assumption) _ | exact rfl) : WOps P T all (⟨some d, .binOp .sub t x y u, ty, pos, af, none⟩ :: r) env ol R := w_sub hx hy hc hr
theorem y_mul {k : IntKind} {a b c : Int} (hx : evE env x = .int k a) (hy : evE env y = .int k b) (hr : WOps P T all r ((d, .int k c) :: env) ol R) (hc : k.wrap (a * b) = c := by first | exact w64 (by omega) (by omega) | exact w64b (by assumption) _ | exact w64t (by assumption) _ _ _ | exact w8 (by omega) (by omega) | exact w8b (by assumption) _ | exact rfl) : WOps P T all (⟨some d, .binOp .mul t x y u, ty, pos, af, none⟩ :: r) env ol R := w_mul hx hy hc hr
theorem y_conv {k k0 k' : IntKind} {n c : Int} (hx : evE env x = .int k n) (ht : T.und t = .int k0) (hu : T.und u = .int k') (hr : WOps P T all r ((d, .int k' c) :: env) ol R) (hc : k'.wrap n = c := by first | exact w64 (by omega) (by omega) | exact w64b (by assumption) _ | exact w64t (by assumption) _ _ _ | exact w8 (by omega) (by omega) | exact w8b (by assumption) _ | exact rfl) : WOps P T all (⟨some d, .convert t u x, ty, pos, af, none⟩ :: r) env ol R := w_conv hx ht hu hc hr
end
end Go.Am

namespace Go.Am
section
variable {P : Program} {T : TT} {env : Env} {ol : OL}
variable {all : Array Oper} {r : List Oper} {R : Env → OL → Prop} {ty : TypeId} {pos : String} {af : Array Edge} {x y : Operand} {d : Nat} {t u : TypeId}
theorem w_sl_rh {n e m : Nat} {g : Nat → AV} {k : IntKind} (hx : evE env x = .ro n g) (hy : evE env y = .int k (m : Int)) (ht : T.und t = .slc e) (hk : (T.und e).known = true) (hz : (g 0).size = T.sz e) (hb : m ≤ n) (hr : WOps P T all r ((d, .ro m g) :: env) ol R) : WOps P T all (⟨some d, .slice t x none (some y) none, ty, pos, af, none⟩ :: r) env ol R := by
  simp only [WOps, WOp, PW, putE]
  rw [hx]; simp only [SliceW, ht, Option.map_some, Option.map_none, hy, bdW]
  refine ⟨hk, hz, ⟨by omega, by omega, by omega, rfl⟩, ?_⟩
  have e1 : (m : Int).toNat - ((0 : Nat) : Int).toNat = m := by simp
  have e2 : (fun i => g (((0 : Nat) : Int).toNat + i)) = g := funext fun i => by simp
  rw [e1, e2]; exact hr
theorem w_sl_rl {n e m : Nat} {g : Nat → AV} {k : IntKind} (hx : evE env x = .ro n g) (hy : evE env y = .int k (m : Int)) (ht : T.und t = .slc e) (hk : (T.und e).known = true) (hz : (g 0).size = T.sz e) (hz2 : (g m).size = (g 0).size) (hb : m ≤ n) (hr : WOps P T all r ((d, .ro (n - m) (fun i => g (m + i))) :: env) ol R) : WOps P T all (⟨some d, .slice t x (some y) none none, ty, pos, af, none⟩ :: r) env ol R := by
  simp only [WOps, WOp, PW, putE]
  rw [hx]; simp only [SliceW, ht, Option.map_some, Option.map_none, hy, bdW]
  refine ⟨hk, hz, ⟨by omega, by omega, by omega, hz2⟩, ?_⟩
  have e1 : (n : Int).toNat - (m : Int).toNat = n - m := by simp
  have e2 : (fun i => g ((m : Int).toNat + i)) = fun i => g (m + i) := funext fun i => by simp
  rw [e1, e2]; exact hr
end
end Go.Am

namespace Go.Am
def allP (F : Nat → Prop) : List Nat → Prop
  | [] => True
  | k :: r => F k ∧ allP F r
theorem allP_mem {F : Nat → Prop} : ∀ {l : List Nat}, allP F l → ∀ k, k ∈ l → F k
  | a :: r, h, k, hk => by
    rcases List.mem_cons.1 hk with rfl | hk
    · exact h.1
    · exact allP_mem h.2 k hk
structure PinOk (ks : List Nat) (κ0 : Gh) (X : Cx) (κ : Gh) (ol : OL) (w : World) : Prop where
  has : ∀ k, k ∈ ks → ol.has k = true
  blk : ∀ k, k ∈ ks → ∀ i, κ.blk k i = κ0.blk k i ∧ κ.shp k i = κ0.shp k i
  size : ∀ (b : Nat) cur e fr, X.w0.heap[b]? = some (.cells cur e fr) → ∃ cur' fr', w.heap[b]? = some (.cells cur' e fr') ∧ cur'.size = cur.size
section
variable {ks : List Nat} {κ0 : Gh} {X : Cx}
theorem PinOk.le {κ κ' : Gh} {ol ol' : OL} {w w' : World} (h : PinOk ks κ0 X κ ol w) (hle : Le (KK X κ ol.ob w) (KK X κ' ol'.ob w')) : PinOk ks κ0 X κ' ol' w' where
  has := fun k hk => hle.dom k (h.has k hk)
  blk := fun k hk i => ⟨((hle.blk k i (h.has k hk)).1).trans (h.blk k hk i).1, ((hle.blk k i (h.has k hk)).2).trans (h.blk k hk i).2⟩
  size := fun b cur e fr hb => by
    obtain ⟨c1, f1, h1, e1⟩ := h.size b cur e fr hb
    obtain ⟨c2, f2, h2, e2⟩ := hle.size b c1 e f1 h1
    exact ⟨c2, f2, h2, e2.trans e1⟩
def pins (ks : List Nat) (ρ : Nat → Nat → Nat × Nat) (ol : OL) : Prop := allP (fun k => (∀ i, ρ k i = (k, i)) ∧ ol.has k = true) ks
theorem PinOk.emb {κ κ' : Gh} {ol ol' : OL} {w : World} {ρ : Nat → Nat → Nat × Nat} (h : PinOk ks κ0 X κ' ol' w) (hp : pins ks ρ ol) (hV : VwOk (vwOf ρ ol' ol) (KK X κ' ol'.ob w) (KK X κ ol.ob w)) : PinOk ks κ0 X κ ol w where
  has := fun k hk => (allP_mem hp k hk).2
  blk := fun k hk i => ⟨((hV.blk k i k i ((allP_mem hp k hk).1 i)).1).trans (h.blk k hk i).1, ((hV.blk k i k i ((allP_mem hp k hk).1 i)).2).trans (h.blk k hk i).2⟩
  size := h.size
end
def QQp (ks : List Nat) (κ0 : Gh) (X : Cx) (N : Nat) (Q : Exit → Env → OL → Prop) : Exit → Act → World → Prop := fun ex a w =>
  ∃ κ env ol, Q ex env ol ∧ Rel X κ ol.ob w ∧ EnvR (KK X κ ol.ob w) env a.tmps ∧ a.tmps.size = N ∧ a.defers = [] ∧ PinOk ks κ0 X κ ol w
section
variable {P : Program} {T : TT} {ks : List Nat}
theorem WOps_soundp (hT : TOk P T) (arr : Array Oper) {N : Nat} {κ0 : Gh} {Q : Exit → Env → OL → Prop} : ∀ (ops : List Oper) (env : Env) (ol : OL), WOps P T arr ops env ol (fun env' ol' => Q .normal env' ol') → dstOk N ops = true →
    ∀ (X : Cx) (κ : Gh) (a : Act) (w : World), X.P = P → X.T = T → Rel X κ ol.ob w → EnvR (KK X κ ol.ob w) env a.tmps → a.tmps.size = N → a.defers = [] → PinOk ks κ0 X κ ol w → wpList P arr (QQp ks κ0 X N Q) ops a w
  | [], env, ol, h, _, X, κ, a, w, hP, hTT, hR, hE, hN, hD, hp => ⟨κ, env, ol, h, hR, hE, hN, hD, hp⟩
  | o :: r, env, ol, h, hdst, X, κ, a, w, hP, hTT, hR, hE, hN, hD, hp => by
    simp only [dstOk, List.all_cons, Bool.and_eq_true] at hdst
    have hlt : ∀ t, o.dst = some t → t < a.tmps.size := fun t ht => by
      have := hdst.1
      rw [ht] at this
      rw [hN]; simpa [Nat.blt_eq] using this
    have run : WOp P T o (evE env) ol (fun v ol' => WOps P T arr r (putE o.dst v env) ol' (fun env' ol' => Q .normal env' ol')) → o.wp P a w (wpList P arr (QQp ks κ0 X N Q) r) (QQp ks κ0 X N Q) := by
      intro hw
      obtain ⟨v, ol', h1, h2⟩ := WOp_out hT hw
      have := h2 X κ w a hP hTT hR hE
      unfold Oper.wp
      rw [← hP]
      rw [← hP] at this
      refine upon_of_Out this (fun c w' κ' hR' hv hle => ?_)
      rw [hP]
      exact WOps_soundp hT arr r _ ol' h1 hdst.2 X κ' _ w' hP hTT hR' ((hE.mono hle).put hv hlt) (by rw [Act.put_size]; exact hN) (by rw [Act.put_defers]; exact hD) (hp.le hle)
    have skip : WOps P T arr r (putE o.dst undA env) ol (fun env' ol' => Q .normal env' ol') → wpList P arr (QQp ks κ0 X N Q) r (a.put o.dst undef) w := fun hw =>
      WOps_soundp hT arr r _ ol hw hdst.2 X κ _ w hP hTT hR (hE.put (undA_ok _) hlt) (by rw [Act.put_size]; exact hN) (by rw [Act.put_defers]; exact hD) hp
    unfold WOps at h
    unfold wpList
    split at h
    · rename_i hg
      rw [if_pos (by simp [Region.wanted, hg])]
      exact .inl (run h)
    · rename_i j want hg
      split at h
      · rename_i d hd
        split at h
        · rename_i b hb
          have hy := yielded_of hd hE hb (dst_lt_of_eq hE hb)
          split at h
          · rename_i hbw
            have : b = want := by simpa using hbw
            subst this
            rw [if_pos (by simp [Region.wanted, hg, hy])]
            exact .inl (run h)
          · rename_i hbw
            have : b ≠ want := by simpa using hbw
            rw [if_neg (by simp [Region.wanted, hg, hy, this])]
            exact skip h
        · rename_i f hb
          have hy := yielded_none hd hE hb
          rw [if_neg (by simp [Region.wanted, hg, hy])]
          exact skip h
        · exact h.elim
      · exact h.elim
def Snp (ks : List Nat) (P : Program) (T : TT) (N : Nat) (c : Code) (env : Env) (ol : OL) (Q : Exit → Env → OL → Prop) : Prop :=
  ∀ (κ0 : Gh) (X : Cx) (κ : Gh) (a : Act) (w : World), X.P = P → X.T = T → Rel X κ ol.ob w → EnvR (KK X κ ol.ob w) env a.tmps → a.tmps.size = N → a.defers = [] → PinOk ks κ0 X κ ol w → c.wp P (QQp ks κ0 X N Q) a w
variable {N : Nat} {env : Env} {ol : OL} {Q : Exit → Env → OL → Prop}
theorem snp_skip (h : Q .normal env ol) : Snp ks P T N .skip env ol Q := fun κ0 X κ a w hP hTT hR hE hN hD hp => wp_skip ⟨κ, env, ol, h, hR, hE, hN, hD, hp⟩
theorem snp_exit {id : Nat} (h : Q (.exit id) env ol) : Snp ks P T N (.exit id) env ol Q := fun κ0 X κ a w hP hTT hR hE hN hD hp => wp_exit ⟨κ, env, ol, h, hR, hE, hN, hD, hp⟩
theorem snp_ret (h : Q .ret env ol) : Snp ks P T N .ret env ol Q := fun κ0 X κ a w hP hTT hR hE hN hD hp => wp_ret ⟨κ, env, ol, h, hR, hE, hN, hD, hp⟩
def thnp (ks : List Nat) (P : Program) (T : TT) (N : Nat) (y : Code) (Q : Exit → Env → OL → Prop) : Exit → Env → OL → Prop
  | .normal, env, ol => Snp ks P T N y env ol Q
  | e, env, ol => Q e env ol
theorem snp_seq {x y : Code} (h : Snp ks P T N x env ol (thnp ks P T N y Q)) : Snp ks P T N (.seq x y) env ol Q := by
  intro κ0 X κ a w hP hTT hR hE hN hD hp
  refine wp_seq (wp_mono (h κ0 X κ a w hP hTT hR hE hN hD hp) ?_)
  rintro ex a' w' ⟨κ', env', ol', hq, hR', hE', hN', hD', hp'⟩
  cases ex with
  | normal => exact hq κ0 X κ' a' w' hP hTT hR' hE' hN' hD' hp'
  | _ => exact ⟨κ', env', ol', hq, hR', hE', hN', hD', hp'⟩
theorem snp_region (hT : TOk P T) {id : Nat} {ops : Array Oper} (hd : dstOk N ops.toList = true) (h : WOps P T ops ops.toList env ol (fun env' ol' => Q .normal env' ol')) : Snp ks P T N (.region id ops false) env ol Q :=
  fun κ0 X κ a w hP hTT hR hE hN hD hp => wp_region_list (WOps_soundp hT ops ops.toList env ol h hd X κ a w hP hTT hR hE hN hD hp)
theorem snp_cond_true {c : Operand} {x y : Code} (hc : evE env c = .bool true) (h : Snp ks P T N x env ol Q) : Snp ks P T N (.cond c x y) env ol Q := by
  intro κ0 X κ a w hP hTT hR hE hN hD hp
  have := hE.ev c
  rw [hc] at this
  exact wp_cond_true (VR_bool this) (h κ0 X κ a w hP hTT hR hE hN hD hp)
theorem snp_cond_false {c : Operand} {x y : Code} (hc : evE env c = .bool false) (h : Snp ks P T N y env ol Q) : Snp ks P T N (.cond c x y) env ol Q := by
  intro κ0 X κ a w hP hTT hR hE hN hD hp
  have := hE.ev c
  rw [hc] at this
  exact wp_cond_false (VR_bool this) (h κ0 X κ a w hP hTT hR hE hN hD hp)
theorem snp_cond {c : Operand} {x y : Code} (b : Bool) (hc : evE env c = .bool b) (ht : b = true → Snp ks P T N x env ol Q) (hf : b = false → Snp ks P T N y env ol Q) : Snp ks P T N (.cond c x y) env ol Q := by
  cases b
  · exact snp_cond_false hc (hf rfl)
  · exact snp_cond_true hc (ht rfl)
theorem snp_block {id : Nat} {c : Code} (h : Snp ks P T N c env ol (inB id Q)) : Snp ks P T N (.block id c) env ol Q := by
  intro κ0 X κ a w hP hTT hR hE hN hD hp
  refine wp_block (wp_mono (h κ0 X κ a w hP hTT hR hE hN hD hp) ?_)
  rintro ex a' w' ⟨κ', env', ol', hq, hR', hE', hN', hD', hp'⟩
  cases ex with
  | exit id' =>
    simp only [Exit.inBlock]
    simp only [inB] at hq
    by_cases hid : id' = id
    · subst hid
      rw [if_pos rfl]
      simp only [Nat.beq_refl, cond_true] at hq
      exact ⟨κ', env', ol', hq, hR', hE', hN', hD', hp'⟩
    · rw [if_neg hid]
      simp only [beq_ff hid, cond_false] at hq
      exact ⟨κ', env', ol', hq, hR', hE', hN', hD', hp'⟩
  | _ => exact ⟨κ', env', ol', hq, hR', hE', hN', hD', hp'⟩
theorem snp_emb {ρ : Nat → Nat → Nat × Nat} {env2 : Env} {ol2 : OL} {c : Code} (h : Emb ρ env ol env2 ol2) (hpi : pins ks ρ ol2) (hs : Snp ks P T N c env2 ol2 Q) : Snp ks P T N c env ol Q := by
  intro κ0 X κ a w hP hTT hR hE hN hD hp
  obtain ⟨κ2, hR2, hV⟩ := h.rel hR
  exact hs κ0 X κ2 a w hP hTT hR2 (h.envR hV hE) hN hD (hp.emb hpi hV)
def rndp (ks : List Nat) {S : Type} (I : S → Env × OL) (Pr : S → Prop) (μ : S → Nat) (x : S) (Q : Exit → Env → OL → Prop) : Exit → Env → OL → Prop
  | .normal, env', ol' => ∃ x' ρ, (Emb ρ env' ol' (I x').1 (I x').2 ∧ pins ks ρ (I x').2) ∧ Pr x' ∧ μ x' < μ x
  | e, env', ol' => Q e env' ol'
theorem snp_loop {S : Type} {c : Code} (I : S → Env × OL) (Pr : S → Prop) (μ : S → Nat) (x0 : S) (ρ : Nat → Nat → Nat × Nat) (h0 : Emb ρ env ol (I x0).1 (I x0).2 ∧ pins ks ρ (I x0).2) (hp : Pr x0)
    (round : ∀ x, Pr x → Snp ks P T N c (I x).1 (I x).2 (rndp ks I Pr μ x Q)) : Snp ks P T N (.loop c) env ol Q := by
  refine snp_emb h0.1 h0.2 ?_
  intro κ0 X κ a w hP hTT hR hE hN hD hpin
  have key : ∀ n x, μ x = n → Pr x → ∀ (κ : Gh) (a : Act) (w : World), Rel X κ (I x).2.ob w → EnvR (KK X κ (I x).2.ob w) (I x).1 a.tmps → a.tmps.size = N → a.defers = [] → PinOk ks κ0 X κ (I x).2 w →
      ∀ (b : Frame) (k : List Item) (cs : List Frame), ∃ e a' w', QQp ks κ0 X N Q e a' w' ∧ Arrives P (lone (b.at a (.code c :: .inLoop c :: k)) cs w) b k cs e a' w' := by
    intro n
    induction n using Nat.strongRecOn with
    | _ n ih =>
      intro x hx hpx κ a w hR hE hN hD hpin b k cs
      obtain ⟨e, a1, w1, hq, harr⟩ := round x hpx κ0 X κ a w hP hTT hR hE hN hD hpin b (.inLoop c :: k) cs
      obtain ⟨κ', env', ol', hq, hR', hE', hN', hD', hpin'⟩ := hq
      cases e with
      | normal =>
        obtain ⟨x', ρ', ⟨hemb, hpi⟩, hpx', hlt⟩ := hq
        obtain ⟨κ2, hR2, hV⟩ := hemb.rel hR'
        obtain ⟨e2, a2, w2, hq2, harr2⟩ := ih (μ x') (hx ▸ hlt) x' rfl hpx' κ2 a1 w1 hR2 (hemb.envR hV hE') hN' hD' (hpin'.emb hpi hV) b k cs
        exact ⟨e2, a2, w2, hq2, .of_steps (Steps.trans harr (.one step_inLoop)) harr2⟩
      | exit id => exact ⟨_, a1, w1, ⟨κ', env', ol', hq, hR', hE', hN', hD', hpin'⟩, .pass (x := .inLoop c) rfl (fun _ _ => .inl (by simp)) harr⟩
      | goto l => exact ⟨_, a1, w1, ⟨κ', env', ol', hq, hR', hE', hN', hD', hpin'⟩, .pass (x := .inLoop c) rfl (fun _ _ => .inl (by simp)) harr⟩
      | ret => exact ⟨_, a1, w1, ⟨κ', env', ol', hq, hR', hE', hN', hD', hpin'⟩, .pass (x := .inLoop c) rfl (fun _ _ => .inl (by simp)) harr⟩
      | panic ch => exact ⟨_, a1, w1, ⟨κ', env', ol', hq, hR', hE', hN', hD', hpin'⟩, .pass (x := .inLoop c) rfl (fun _ _ => .inl (by simp)) harr⟩
      | outgrown => exact ⟨_, a1, w1, ⟨κ', env', ol', hq, hR', hE', hN', hD', hpin'⟩, .pass (x := .inLoop c) rfl (fun _ _ => .inl (by simp)) harr⟩
  intro b k cs
  obtain ⟨e, a', w', hq, harr⟩ := key _ x0 rfl hp κ a w hR hE hN hD hpin b k cs
  exact ⟨e, a', w', hq, .of_steps (.one step_loop) harr⟩
structure MCalls (P : Program) (T : TT) (f : FuncId) (ks : List Nat) (ars : List AV) (ol0 : OL) (r : AV) (ol1 : OL) : Prop where
  ent : Ent P f
  go : ∀ (X : Cx) (κ : Gh) (w : World) (cs : List Value), X.P = P → X.T = T → X.w0 = w → Rel X κ ol0.ob w → VRs (KK X κ ol0.ob w) ars cs →
    Calls P f cs.toArray w (fun e w' => ∃ c κ', e = .returned c ∧ Rel X κ' ol1.ob w' ∧ VR (KK X κ' ol1.ob w') r c ∧ PinOk ks κ X κ' ol1 w')
def retQp (ks : List Nat) (T : TT) (rs : List ResultVar) (r : AV) (H : OL) : Exit → Env → OL → Prop
  | .normal, env, ol => RetW T rs env ol (fun v => ∃ ρ, Emb ρ [(0, v)] ol [(0, r)] H ∧ pins ks ρ H)
  | .ret, env, ol => RetW T rs env ol (fun v => ∃ ρ, Emb ρ [(0, v)] ol [(0, r)] H ∧ pins ks ρ H)
  | _, _, _ => False
theorem mcalls_of (hT : TOk P T) {f : FuncId} {fn : Func} {c : Code} {ars : List AV} {r : AV} {ol0 H : OL} (hf : P.funcs[f]? = some fn) (hb : fn.body = some c) (hname : (fn.name == "runtime.NumGoroutine") = false)
    (hN : ars.length ≤ fn.ntmps) (hk : allP (fun k => ol0.has k = true) ks) (h : Snp ks P T fn.ntmps c (argsEnv 0 ars) ol0 (retQp ks T fn.results.toList r H)) : MCalls P T f ks ars ol0 r H := by
  refine ⟨fun args w => ?_, fun X κ w cs hP hTT hw0 hR hvs => ?_⟩
  · have hn2 : ¬ fn.name = "runtime.NumGoroutine" := by simpa using hname
    simp [callFunc, hf, hn2, hb]
  · have hlen : ∀ (ars : List AV) (cs : List Value) (K : Kx), VRs K ars cs → cs.length = ars.length := by
      intro ars
      induction ars with
      | nil => intro cs K h; cases cs with
        | nil => rfl
        | cons => exact h.elim
      | cons a ars ih => intro cs K h; cases cs with
        | nil => exact h.elim
        | cons c cs => simp [ih cs K h.2]
    have hl := hlen ars cs _ hvs
    refine calls_of_wp hf hb ?_
    have hp0 : PinOk ks κ X κ ol0 w := ⟨fun k hk' => allP_mem hk k hk', fun _ _ _ => ⟨rfl, rfl⟩, fun b cur e fr hb => ⟨cur, fr, by rw [← hw0]; exact hb, rfl⟩⟩
    refine wp_mono (h κ X κ _ w hP hTT hR (fun t => ?_) ?_ rfl hp0) ?_
    · have := argsEnv_ok ars cs 0 t hvs
      rw [if_pos (Nat.zero_le _), Nat.sub_zero] at this
      have e : (cs.toArray ++ Array.replicate (fn.ntmps - cs.toArray.size) undef).getD t undef = cs.getD t undef := by
        simp only [Array.getD_eq_getD_getElem?, List.getD_eq_getElem?_getD]
        rw [Array.getElem?_append]
        split
        · simp
        · rename_i hge
          rw [List.getElem?_eq_none (by simpa using hge)]
          rw [Array.getElem?_replicate]
          split <;> rfl
      rw [e]
      exact this
    · simp only [Array.size_append, List.size_toArray, Array.size_replicate]
      omega
    · rintro ex a' w' ⟨κ', env', ol', hq, hR', hE', hN', hD', hp'⟩
      have fin : RetW T fn.results.toList env' ol' (fun v => ∃ ρ, Emb ρ [(0, v)] ol' [(0, r)] H ∧ pins ks ρ H) → a'.defers = [] ∧ ∃ v, (results fn a'.tmps).run P w' = .ok v w' ∧ (∃ c κ', Ending.returned v = .returned c ∧ Rel X κ' H.ob w' ∧ VR (KK X κ' H.ob w') r c ∧ PinOk ks κ X κ' H w') := by
        intro hret
        obtain ⟨v, ⟨ρ, hemb, hpi⟩, hrun⟩ := RetW_run hT hret
        obtain ⟨c, h1, h2⟩ := hrun _ κ' w' a'.tmps hP hTT hR' hE'
        obtain ⟨κ2, hR2, hV⟩ := hemb.rel hR'
        refine ⟨hD', c, h1, c, κ2, rfl, hR2, ?_, hp'.emb hpi hV⟩
        exact MtE_VR hV hemb.1.1 h2
      cases ex with
      | normal => exact fin hq
      | ret => exact fin hq
      | _ => exact hq.elim
end
end Go.Am

namespace Go.Am
structure SameD (D : Nat → Bool) (K K' : Kx) : Prop where
  heap : K'.heap = K.heap
  dom : ∀ k, D k = true → K'.dom k
  blk : ∀ k, D k = true → ∀ i, K'.blk k i = K.blk k i ∧ K'.shp k i = K.shp k i
  sz : K'.sz = K.sz
  zr : K'.zr = K.zr
section
variable {P : Program} {T : TT}
theorem EnvR_args {K : Kx} {env : Env} {a : Act} (h : EnvR K env a.tmps) : ∀ (xs : List Operand), VRs K (xs.map (evE env)) (xs.map a.eval)
  | [] => trivial
  | x :: r => ⟨h.ev x, EnvR_args h r⟩
theorem run_call {f : FuncId} (hE : Ent P f) {dst : Option Nat} {ty : TypeId} {pos : String} {af : Array Edge} {gu : Option (Nat × Bool)} {args : Array Operand} {aty : Array TypeId} (act : Act) (w : World) :
    (execOp act.eval ⟨dst, .call { callee := .value (.func f), args := args, argTypes := aty }, ty, pos, af, gu⟩).run P w = .ok (.enter f (args.map act.eval)) w := by
  have h0 := hE (args.map act.eval) w
  have hf : act.eval (.func f) = .func (.func f) #[] #[] := rfl
  simp only [execOp, resolve, hf, Deferred.ofValue, Sem.run_bind, Sem.run_pure, Result.andThen_ok, invoke]
  simpa using h0
end
end Go.Am

namespace Go.Am
section
variable {p : Int} {n : Nat} {T : Nat → Nat → Nat → Int}
def pz (n : Nat) (T : Nat → Nat → Nat → Int) (u v : Nat → Int) (k : Nat) : Int := sumZ (fun i => sumZ (fun j => u i * v j * T i j k) n) n
theorem times_pz {u v : Nat → Int} {k : Nat} (hk : k < n) : timesF p n T u v k = pz n T u v k % p := by
  unfold timesF; rw [if_pos hk]; rfl
def cg (p : Int) (n : Nat) (u v : Nat → Int) : Prop := ∀ j, j < n → p ∣ u j - v j
theorem cg.rf (u : Nat → Int) : cg p n u u := fun j _ => dvd_rf rfl
theorem cg.sy {u v : Nat → Int} (h : cg p n u v) : cg p n v u := fun j hj => dvd_sy (h j hj)
theorem cg.tr {u v w : Nat → Int} (h : cg p n u v) (h' : cg p n v w) : cg p n u w := fun j hj => dvd_tr (h j hj) (h' j hj)
theorem mul_dvd {a b c d : Int} (h : p ∣ a - b) (h' : p ∣ c - d) : p ∣ a * c - b * d := by
  have h1 : p ∣ (a - b) * c := Int.dvd_mul_of_dvd_left h
  have h2 : p ∣ b * (c - d) := Int.dvd_mul_of_dvd_right h'
  have := Int.dvd_add h1 h2
  rwa [Int.sub_mul, Int.mul_sub, show a * c - b * c + (b * c - b * d) = a * c - b * d by omega] at this
theorem cg_times (u v : Nat → Int) : cg p n (timesF p n T u v) (pz n T u v) := fun k hk => by rw [times_pz hk]; exact dvd_mod p _
theorem VV.ext {u v : Nat → Int} (hu : VV p n u) (hv : VV p n v) (h : cg p n u v) : u = v := by
  funext k
  by_cases hk : k < n
  · exact eq_of_dvd (hu.b k) (hv.b k) (h k hk)
  · rw [hu.z k (by omega), hv.z k (by omega)]
theorem VV.times (hp : 0 < p) {u v : Nat → Int} : VV p n (timesF p n T u v) := ⟨timesF_Bp hp, fun k hk => by unfold timesF; rw [if_neg (by omega)]⟩
theorem VV.zero (hp : 0 < p) : VV p n (fun _ => 0) := ⟨fun _ => ⟨Int.le_refl _, hp⟩, fun _ _ => rfl⟩
theorem VV.eF (hp : 1 < p) {i : Nat} (hi : i < n) : VV p n (eF i) := ⟨eF_Bp hp i, fun k hk => by rw [eF_dl]; unfold dl; rw [if_neg (by omega)]⟩
theorem VV.add (hp : 0 < p) {u v : Nat → Int} (hu : VV p n u) (hv : VV p n v) (c : Int) : VV p n (addF p u v c) := ⟨addF_Bp hp u v c, fun k hk => by unfold addF; rw [hu.z k hk, hv.z k hk, Int.mul_zero]; rfl⟩
theorem VV.eqN {u v : Nat → Int} (h6 : n ≤ 6) (hu : VV p n u) (hv : VV p n v) : eqN 6 u v ↔ u = v := by
  constructor
  · intro h
    funext k
    by_cases hk : k < 6
    · exact h k hk
    · rw [hu.z k (by omega), hv.z k (by omega)]
  · rintro rfl k _; rfl
theorem sum_mul_sum (f g : Nat → Int) (m k : Nat) : sumZ f m * sumZ g k = sumZ (fun i => sumZ (fun j => f i * g j) k) m := by
  rw [← sumZ_mulr]
  exact sumZ_congr m (fun i _ => (sumZ_mul _ _ _).symm)
def s3 (n : Nat) (f : Nat → Nat → Nat → Int) : Int := sumZ (fun i => sumZ (fun j => sumZ (f i j) n) n) n
theorem pz_one_l {u v : Nat → Int} (hu : LU p n T u) {k : Nat} (hk : k < n) : p ∣ pz n T u v k - v k := by
  unfold pz
  rw [sumZ_swap]
  have : p ∣ sumZ (fun j => v j * sumZ (fun i => T i j k * u i) n) n - v k := by
    have h := sumZ_dvd (p := p) (f := fun j => v j * sumZ (fun i => T i j k * u i) n) (g := fun j => v j * dl j k) n (fun j hj => mul_dvd (dvd_rf rfl) (hu j hj k hk))
    rwa [sum_dl v hk] at h
  rw [sumZ_congr (g := fun j => v j * sumZ (fun i => T i j k * u i) n) n (fun j _ => by
    rw [← sumZ_mul]
    exact sumZ_congr n (fun i _ => by simp only [Int.mul_assoc, Int.mul_comm, Int.mul_left_comm]))]
  exact this
end
section
variable {p : Int} {n : Nat} {T : Nat → Nat → Nat → Int} {fo : Nat → Int}
theorem VN.pp (h : VN p n T fo) : 0 < p := by have := h.p0; omega
theorem VN.LU (h : VN p n T fo) : LU p n T (uF p n T) := (uF_unit h.hp h.n0 h.hT h.u).1
theorem VN.RU (h : VN p n T fo) : RU p n T (uF p n T) := (uF_unit h.hp h.n0 h.hT h.u).2.1
theorem VN.one_l (h : VN p n T fo) {v : Nat → Int} (hv : VV p n v) : timesF p n T (uF p n T) v = v :=
  VV.ext (VV.times h.pp) hv (fun k hk => dvd_tr (by rw [times_pz hk]; exact dvd_mod p _) (pz_one_l h.LU hk))
def iM (p : Int) (n : Nat) (T : Nat → Nat → Nat → Int) (v : Nat → Int) (x j : Nat) : Nat → Int := if x = 0 then timesF p n T v (eF j) else timesF p n T (eF j) v
noncomputable abbrev iR (p : Int) (n : Nat) (T : Nat → Nat → Nat → Int) (v : Nat → Int) : Nat → Nat → Int := sysR n (iM p n T v) (fun _ => uF p n T)
def iOk (p : Int) (n : Nat) (T : Nat → Nat → Nat → Int) (v : Nat → Int) : Prop := conP n (redGo p (2 * n) (iR p n T v) (n + 1)).no (redGo p (2 * n) (iR p n T v) (n + 1)).O
noncomputable instance (p : Int) (n : Nat) (T : Nat → Nat → Nat → Int) (v : Nat → Int) : Decidable (iOk p n T v) := Classical.propDecidable _
noncomputable abbrev bR (p : Int) (n : Nat) (T : Nat → Nat → Nat → Int) (v : Nat → Int) : Nat → Nat → Int := sysR n (fun _ j => timesF p n T (eF j) v) (fun _ => uF p n T)
def sS (p : Int) (n N : Nat) (S : Nat → Nat → Int) : Nat → Int := cutF (fun a => (echGo p (n + 1) S N).O a n) n
def oS (p : Int) (n N : Nat) (S : Nat → Nat → Int) : Prop := oneP n (echGo p (n + 1) S N).no (echGo p (n + 1) S N).O
noncomputable instance (p : Int) (n N : Nat) (S : Nat → Nat → Int) : Decidable (oS p n N S) := Classical.propDecidable _
theorem oS_sol {N : Nat} {S : Nat → Nat → Int} (hp : primeB p = true) (hS : ∀ i, Bp p (S i)) (h : oS p n N S) : Sol p n N S (sS p n N S) ∧ VV p n (sS p n N S) ∧ ∀ x, Sol p n N S x → cg p n x (sS p n N S) := by
  have hpb := primeB_bd hp
  obtain ⟨⟨l, hrr⟩, hnl⟩ := ech_ok (m := n + 1) (R := S) hp N (fun i _ => hS i)
  refine ⟨sol_null.2 ((hnl _).1 (sol_null.1 (one_sol hrr h))), ⟨fun j => ?_, fun j hj => by unfold sS cutF; rw [if_neg (by omega)]⟩, fun x hx j hj => ?_⟩
  · unfold sS cutF
    split
    · exact hrr.bp j (by have := h.1; omega) n
    · omega
  · have := one_uniq hrr h (sol_null.2 ((hnl _).2 (sol_null.1 hx))) hj
    unfold sS cutF
    rwa [if_pos hj]
theorem oS_of {N : Nat} {S : Nat → Nat → Int} (hp : primeB p = true) (hS : ∀ i, Bp p (S i)) {x : Nat → Int} (hx : Sol p n N S x) (hu : ∀ y, Sol p n N S y → cg p n y x) : oS p n N S := by
  have hpb := primeB_bd hp
  obtain ⟨⟨l, hrr⟩, hnl⟩ := ech_ok (m := n + 1) (R := S) hp N (fun i _ => hS i)
  have hs : ∀ y, Sol p n _ (echGo p (n + 1) S N).O y ↔ Sol p n N S y := fun y => by rw [sol_null, sol_null]; exact hnl _
  exact one_of_uniq (by omega) hrr (con_of_sol (by omega) hrr ((hs x).2 hx)) (fun u v hu' hv' => (hu u ((hs u).1 hu')).tr (hu v ((hs v).1 hv')).sy)
end
end Go.Am

