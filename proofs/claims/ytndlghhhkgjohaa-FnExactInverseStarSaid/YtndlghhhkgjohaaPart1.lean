/- Part 1 of what the law stands on: abstract values, their walk, contracts of functions. My own work. Conditions: none. -/
import Derived.Test.YtndlghhhkgjohaaPart0
import Derived.Orders
import Derived.CheckFast
import Derived.Laws.BitsLemmas
import Derived.Laws.IdiomCopy
import Derived.WalkKit
import Derived.ProofKit
import Derived.OpenShut
import Derived.ShutString
import Derived.ChangeOld
import Derived.Below
import Derived.ChangeSlices
import Derived.Laws.Externs
import Derived.Lib.Bytealg
set_option linter.unusedVariables false
set_option linter.unusedSimpArgs false
namespace Go.Am
def gd (all : Array Oper) (o : Oper) (env : Env) : Option Bool :=
  match o.guard with
  | none => some true
  | some (j, want) => (match (all[j]?).bind (·.dst) with
    | some d => (match get env d with
      | .bool b => some (b == want)
      | .tup 0 _ => some false
      | _ => none)
    | none => none)
def StepJ (P : Program) (T : TT) (arr : Array Oper) (o : Oper) (env : Env) (ol : OL) (v : AV) (ol' : OL) : Prop :=
  (gd arr o env = some false ∧ v = undA ∧ ol' = ol) ∨
  (gd arr o env = some true ∧
    ((kind o = 0 ∧ ol' = ol ∧ PureJ P T o (evE env) v) ∨
     (kind o = 1 ∧ ∃ A : OL, ol' = A ++ ol ∧ PassJ' P T o (evE env) ol.ob v A ∧ ∀ k, A.has k = true → ol.has k = false) ∨
     (kind o = 2 ∧ ActJ P T o (evE env) ol.ob v ol'.ob)))
def envOf (V : Nat → AV) (D : Nat → Bool) : Nat → List Oper → Env → Env
  | _, [], env => env
  | s, o :: r, env => envOf V D (s + 1) r (if D s = true then putE o.dst (V s) env else env)
theorem envOf_shift (V : Nat → AV) (D : Nat → Bool) : ∀ (ops : List Oper) (s : Nat) (env : Env), envOf V D (s + 1) ops env = envOf (fun j => V (j + 1)) (fun j => D (j + 1)) s ops env
  | [], _, _ => rfl
  | o :: r, s, env => by simp only [envOf]; exact envOf_shift V D r (s + 1) _
theorem get_putE (d : Option Nat) (v : AV) (env : Env) (t : Nat) : get (putE d v env) t = if d = some t then v else get env t := by
  cases d with
  | none => simp [putE]
  | some d =>
    simp only [putE, get]
    by_cases h : t = d
    · subst h; simp
    · rw [beq_ff h, if_neg (by simpa using fun e => h e.symm)]; rfl
theorem envOf_agree (V : Nat → AV) (D D' : Nat → Bool) (t : Nat) : ∀ (ops : List Oper) (s : Nat) (env env' : Env), get env t = get env' t →
    (∀ k o, ops[k]? = some o → o.dst = some t → D (s + k) = D' (s + k)) → get (envOf V D s ops env) t = get (envOf V D' s ops env') t
  | [], _, _, _, h, _ => h
  | o :: r, s, env, env', h, hD => by
    simp only [envOf]
    refine envOf_agree V D D' t r (s + 1) _ _ ?_ (fun k o hk ho => ?_)
    · by_cases ho : o.dst = some t
      · have := hD 0 o rfl ho
        simp only [Nat.add_zero] at this
        rw [this]
        cases hd : D' s
        · simpa using h
        · simp only [if_true]
          rw [get_putE, get_putE, if_pos ho, if_pos ho]
      · have e1 : get (if D s = true then putE o.dst (V s) env else env) t = get env t := by
          split
          · rw [get_putE, if_neg ho]
          · rfl
        have e2 : get (if D' s = true then putE o.dst (V s) env' else env') t = get env' t := by
          split
          · rw [get_putE, if_neg ho]
          · rfl
        rw [e1, e2, h]
    · have := hD (k + 1) o (by simpa using hk) ho
      rwa [show s + 1 + k = s + (k + 1) from by omega]
theorem envOf_none (V : Nat → AV) : ∀ (ops : List Oper) (s : Nat) (env : Env), envOf V (fun _ => false) s ops env = env
  | [], _, _ => rfl
  | o :: r, s, env => by simp only [envOf]; exact envOf_none V r (s + 1) _
theorem envOf_last (V : Nat → AV) (D : Nat → Bool) (t : Nat) : ∀ (ops : List Oper) (s i : Nat) (o : Oper) (env : Env), ops[i]? = some o → o.dst = some t → D (s + i) = true →
    (∀ k o', i < k → ops[k]? = some o' → o'.dst = some t → D (s + k) = false) → get (envOf V D s ops env) t = V (s + i)
  | [], _, _, _, _, h, _, _, _ => by simp at h
  | o1 :: r, s, 0, o, env, h, ho, hD, hl => by
    simp only [List.getElem?_cons_zero, Option.some.injEq] at h
    subst h
    simp only [Nat.add_zero] at hD
    simp only [envOf, hD, if_true, Nat.add_zero]
    rw [envOf_agree V D (fun _ => false) t r (s + 1) _ (putE o1.dst (V s) env) rfl (fun k o' hk ho' => ?_), envOf_none, get_putE, if_pos ho]
    have := hl (k + 1) o' (by omega) (by simpa using hk) ho'
    rwa [show s + 1 + k = s + (k + 1) from by omega]
  | o1 :: r, s, i + 1, o, env, h, ho, hD, hl => by
    simp only [envOf]
    rw [envOf_last V D t r (s + 1) i o _ (by simpa using h) ho (by rwa [show s + 1 + i = s + (i + 1) from by omega]) (fun k o' hk ho1 ho2 => ?_)]
    · congr 1; omega
    · have := hl (k + 1) o' (by omega) (by simpa using ho1) ho2
      rwa [show s + 1 + k = s + (k + 1) from by omega]
section
variable {P : Program} {T : TT}
theorem WOps_trace (hT : TOk P T) (arr : Array Oper) : ∀ (ops : List Oper) (env : Env) (ol : OL) (K : Env → OL → Prop), WOps P T arr ops env ol K →
    ∃ (V : Nat → AV) (O : Nat → OL), O 0 = ol ∧ (∀ k o, ops[k]? = some o → StepJ P T arr o (envOf V (fun j => decide (j < k)) 0 ops env) (O k) (V k) (O (k + 1))) ∧ K (envOf V (fun _ => true) 0 ops env) (O ops.length)
  | [], env, ol, K, h => ⟨fun _ => .any, fun _ => ol, rfl, fun k o hk => by simp at hk, h⟩
  | o :: r, env, ol, K, h => by
    have hh : ∃ v ol1, StepJ P T arr o env ol v ol1 ∧ WOps P T arr r (putE o.dst v env) ol1 K := by
      unfold WOps at h
      have run : gd arr o env = some true → WOp P T o (evE env) ol (fun v ol' => WOps P T arr r (putE o.dst v env) ol' K) → ∃ v ol1, StepJ P T arr o env ol v ol1 ∧ WOps P T arr r (putE o.dst v env) ol1 K := by
        intro hg hw
        obtain ⟨v, hw⟩ := WOp_sound hT hw
        rcases hw with ⟨h0, h1, h2⟩ | ⟨h0, A, h1, h2, h3⟩ | ⟨h0, ol', h1, h2, _⟩
        · exact ⟨v, ol, .inr ⟨hg, .inl ⟨h0, rfl, h2⟩⟩, h1⟩
        · exact ⟨v, A ++ ol, .inr ⟨hg, .inr (.inl ⟨h0, A, rfl, h2, h3⟩)⟩, h1⟩
        · exact ⟨v, ol', .inr ⟨hg, .inr (.inr ⟨h0, h2⟩)⟩, h1⟩
      split at h
      · rename_i hg
        exact run (by simp [gd, hg]) h
      · rename_i j want hg
        split at h
        · rename_i d hd
          split at h
          · rename_i b hb
            split at h
            · rename_i hbw
              exact run (by simp only [gd, hg, hd, hb, hbw]) h
            · rename_i hbw
              exact ⟨undA, ol, .inl ⟨by simp only [gd, hg, hd, hb, hbw], rfl, rfl⟩, h⟩
          · rename_i hb
            exact ⟨undA, ol, .inl ⟨by simp only [gd, hg, hd, hb], rfl, rfl⟩, h⟩
          · exact h.elim
        · exact h.elim
    obtain ⟨v, ol1, hs, hw⟩ := hh
    obtain ⟨V, O, hO, hst, hK⟩ := WOps_trace hT arr r _ ol1 K hw
    refine ⟨fun | 0 => v | k + 1 => V k, fun | 0 => ol | k + 1 => O k, rfl, fun k o' hk => ?_, ?_⟩
    · cases k with
      | zero =>
        simp only [List.getElem?_cons_zero, Option.some.injEq] at hk
        subst hk
        have : (fun j : Nat => decide (j < 0)) = fun _ => false := by funext j; simp
        rw [this, envOf_none]
        simp only [Nat.zero_add]
        rw [hO]
        exact hs
      | succ k =>
        have := hst k o' (by simpa using hk)
        simp only [envOf]
        rw [if_pos (by simp), envOf_shift]
        have e : (fun j : Nat => decide (j + 1 < k + 1)) = fun j => decide (j < k) := by funext j; simp
        rw [e]
        exact this
    · simp only [envOf, if_true]
      rw [envOf_shift]
      exact hK
structure DrawOk (ops : Array Oper) (U : Nat → Nat → Bool) (m0 : Nat) : Prop where
  le : m0 ≤ ops.size
  back : ∀ i oi, ops[i]? = some oi → ∀ e ∈ oi.after, Region.binds .any e = true → e.on < i
  k2 : ∀ i oi, ops[i]? = some oi → kind oi = 2 → m0 ≤ i
  k1 : ∀ i oi, ops[i]? = some oi → kind oi = 1 → i < m0
  clos : ∀ i oi j, ops[i]? = some oi → j < ops.size → U i j = true → ∃ e ∈ oi.after, Region.binds .any e = true ∧ (e.on = j ∨ U e.on j = true)
  ap : ∀ i oi j oj, ops[i]? = some oi → ops[j]? = some oj → j < i → oj.apart ops oi = true ∨ U i j = true
  act1 : ∀ i oi j oj, ops[i]? = some oi → ops[j]? = some oj → kind oi = 2 → kind oj = 1 → U i j = true
  act2 : ∀ i oi j oj, ops[i]? = some oi → ops[j]? = some oj → kind oi = 2 → kind oj = 2 → j < i → U i j = true
def chkD (ops : Array Oper) (U : Nat → Nat → Bool) (m0 : Nat) : Bool :=
  Nat.ble m0 ops.size &&
  (List.range ops.size).all fun i => match ops[i]? with
    | none => true
    | some oi =>
      (oi.after.toList.all fun e => !Region.binds .any e || Nat.blt e.on i) &&
      (!(Nat.beq (kind oi) 2) || Nat.ble m0 i) && (!(Nat.beq (kind oi) 1) || Nat.blt i m0) &&
      (List.range ops.size).all fun j => match ops[j]? with
        | none => true
        | some oj =>
          (!U i j || oi.after.toList.any fun e => Region.binds .any e && (Nat.beq e.on j || U e.on j)) &&
          (!(Nat.blt j i) || (U i j || oj.apart ops oi)) &&
          (!(Nat.beq (kind oi) 2) || (!(Nat.beq (kind oj) 1) || U i j)) &&
          (!(Nat.beq (kind oi) 2) || (!(Nat.beq (kind oj) 2) || (!(Nat.blt j i) || U i j)))
theorem chkD_ok {ops : Array Oper} {U : Nat → Nat → Bool} {m0 : Nat} (h : chkD ops U m0 = true) : DrawOk ops U m0 := by
  simp only [chkD, Bool.and_eq_true, List.all_eq_true, List.mem_range] at h
  obtain ⟨h0, h⟩ := h
  have lt : ∀ {i : Nat} {oi : Oper}, ops[i]? = some oi → i < ops.size := fun hi => (Array.getElem?_eq_some_iff.1 hi).1
  have g1 : ∀ i oi, ops[i]? = some oi → (((∀ e ∈ oi.after.toList, (!Region.binds .any e || Nat.blt e.on i) = true) ∧ (!(Nat.beq (kind oi) 2) || Nat.ble m0 i) = true) ∧ (!(Nat.beq (kind oi) 1) || Nat.blt i m0) = true) := by
    intro i oi hi
    have := h i (lt hi)
    rw [hi] at this
    simp only [Bool.and_eq_true, List.all_eq_true] at this
    exact ⟨⟨this.1.1.1, this.1.1.2⟩, this.1.2⟩
  have g2 : ∀ i oi j oj, ops[i]? = some oi → ops[j]? = some oj →
      ((((!U i j || oi.after.toList.any fun e => Region.binds .any e && (Nat.beq e.on j || U e.on j)) = true ∧ (!(Nat.blt j i) || (U i j || oj.apart ops oi)) = true) ∧
      (!(Nat.beq (kind oi) 2) || (!(Nat.beq (kind oj) 1) || U i j)) = true) ∧ (!(Nat.beq (kind oi) 2) || (!(Nat.beq (kind oj) 2) || (!(Nat.blt j i) || U i j))) = true) := by
    intro i oi j oj hi hj
    have := h i (lt hi)
    rw [hi] at this
    simp only [Bool.and_eq_true, List.all_eq_true, List.mem_range] at this
    have := this.2 j (lt hj)
    rw [hj] at this
    simpa only [Bool.and_eq_true] using this
  refine ⟨Nat.le_of_ble_eq_true h0, fun i oi hi e he hb => ?_, fun i oi hi hk => ?_, fun i oi hi hk => ?_, fun i oi j hi hj hu => ?_, fun i oi j oj hi hj hlt => ?_, fun i oi j oj hi hj h2 h1 => ?_, fun i oi j oj hi hj h2 h1 hlt => ?_⟩
  · have := (g1 i oi hi).1.1 e (by simpa using he)
    simpa [hb, Nat.blt_eq] using this
  · have := (g1 i oi hi).1.2
    simpa [hk] using this
  · have := (g1 i oi hi).2
    simpa [hk, Nat.blt_eq] using this
  · have := (g2 i oi j ops[j] hi (by simp [hj])).1.1.1
    simp only [hu, Bool.not_true, Bool.false_or, List.any_eq_true, Bool.and_eq_true, Bool.or_eq_true] at this
    obtain ⟨e, he, hb, hq⟩ := this
    exact ⟨e, by simpa using he, hb, hq.imp (fun h => Nat.eq_of_beq_eq_true h) id⟩
  · have := (g2 i oi j oj hi hj).1.1.2
    have hb : Nat.blt j i = true := by rw [Nat.blt_eq]; exact hlt
    simp only [hb, Bool.not_true, Bool.false_or, Bool.or_eq_true] at this
    exact this.symm
  · have := (g2 i oi j oj hi hj).1.2
    simpa [h2, h1] using this
  · have := (g2 i oi j oj hi hj).2
    have hb : Nat.blt j i = true := by rw [Nat.blt_eq]; exact hlt
    simpa [h2, h1, hb] using this
def numsOf (ops : Array Oper) : Array Nat := CheckFast.beforeF ops
def Uof (B : Array Nat) (i j : Nat) : Bool := (B.getD i 0).testBit j
def firstAct : List Oper → Nat → Nat
  | [], n => n
  | o :: r, n => bif Nat.beq (kind o) 2 then n else firstAct r (n + 1)
def drawOk (ops : Array Oper) : Bool := chkD ops (Uof (numsOf ops)) (firstAct ops.toList 0)
def Dl (listed : Array Bool) (j : Nat) : Bool := listed.getD j false
structure Tr (P : Program) (T : TT) (ops : Array Oper) (env : Env) (V : Nat → AV) (O : Nat → OL) : Prop where
  step : ∀ k o, ops[k]? = some o → StepJ P T ops o (envOf V (fun j => decide (j < k)) 0 ops.toList env) (O k) (V k) (O (k + 1))
variable {ops : Array Oper} {U : Nat → Nat → Bool} {m0 : Nat} {env : Env} {V : Nat → AV} {O : Nat → OL}
theorem down (hd : DrawOk ops U m0) {D : Nat → Bool} (hcl : ∀ i oi, ops[i]? = some oi → D i = true → ∀ e ∈ oi.after, Region.binds .any e = true → D e.on = true) :
    ∀ i oi j, ops[i]? = some oi → j < ops.size → U i j = true → (∀ e ∈ oi.after, Region.binds .any e = true → D e.on = true) → D j = true := by
  intro i
  induction i using Nat.strongRecOn with
  | _ i ih =>
    intro oi j hi hj hu hr
    obtain ⟨e, he, hb, hq⟩ := hd.clos i oi j hi hj hu
    have hlt := hd.back i oi hi e he hb
    have hin := (Array.getElem?_eq_some_iff.1 hi).1
    have hD := hr e he hb
    rcases hq with hq | hq
    · exact hq ▸ hD
    · have hx : ops[e.on]? = some ops[e.on] := by simp [Nat.lt_trans hlt hin]
      exact ih e.on hlt _ j hx hj hq (hcl e.on _ hx hD)
theorem kind_le (o : Oper) : kind o = 0 ∨ kind o = 1 ∨ kind o = 2 := by
  unfold kind
  split <;> simp
theorem Tr.same (ht : Tr P T ops env V O) {k : Nat} {o : Oper} (hk : ops[k]? = some o) (h0 : kind o = 0) : O (k + 1) = O k := by
  rcases ht.step k o hk with ⟨_, _, h⟩ | ⟨_, ⟨_, h, _⟩ | ⟨h, _⟩ | ⟨h, _⟩⟩
  · exact h
  · exact h
  · rw [h0] at h; cases h
  · rw [h0] at h; cases h
theorem Tr.up (ht : Tr P T ops env V O) {j : Nat} {o : Oper} (hj : ops[j]? = some o) (h2 : kind o ≠ 2) {k : Nat} (hk : (O j).has k = true) : (O (j + 1)).has k = true ∧ ∀ i, (O (j + 1)).at_ k i = (O j).at_ k i := by
  rcases ht.step j o hj with ⟨_, _, h⟩ | ⟨_, ⟨_, h, _⟩ | ⟨_, A, h, _, hf⟩ | ⟨h, _⟩⟩
  · rw [h]; exact ⟨hk, fun _ => rfl⟩
  · rw [h]; exact ⟨hk, fun _ => rfl⟩
  · rw [h]
    refine ⟨by rw [OL.has_append, hk]; simp, fun i => ?_⟩
    rw [OL.at_append]
    split
    · rename_i hA
      rw [hf k hA] at hk; cases hk
    · rfl
  · exact absurd h h2
theorem Tr.chain (ht : Tr P T ops env V O) (hd : DrawOk ops U m0) {a : Nat} : ∀ d, a + d ≤ m0 → ∀ {k : Nat}, (O a).has k = true → (O (a + d)).has k = true ∧ ∀ i, (O (a + d)).at_ k i = (O a).at_ k i
  | 0, _, k, hk => ⟨hk, fun _ => rfl⟩
  | d + 1, h, k, hk => by
    obtain ⟨h1, h2⟩ := ht.chain hd d (by omega) hk
    have hlt : a + d < ops.size := by have := hd.le; omega
    have hx : ops[a + d]? = some ops[a + d] := by simp [hlt]
    obtain ⟨h3, h4⟩ := ht.up hx (fun h2 => by have := hd.k2 _ _ hx h2; omega) h1
    exact ⟨h3, fun i => (h4 i).trans (h2 i)⟩
theorem Tr.mono (ht : Tr P T ops env V O) (hd : DrawOk ops U m0) {a b : Nat} (hab : a ≤ b) (hb : b ≤ m0) {k : Nat} (hk : (O a).has k = true) : (O b).has k = true ∧ ∀ i, (O b).at_ k i = (O a).at_ k i := by
  obtain ⟨d, rfl⟩ := Nat.exists_eq_add_of_le hab
  exact ht.chain hd d hb hk
theorem Tr.born (ht : Tr P T ops env V O) (hd : DrawOk ops U m0) {k : Nat} : ∀ b, b ≤ m0 → (O b).has k = true → (O 0).has k = true ∨ ∃ j, j < b ∧ (O (j + 1)).has k = true ∧ (O j).has k = false
  | 0, _, h => .inl h
  | b + 1, hb, h => by
    cases hq : (O b).has k with
    | true =>
      rcases ht.born hd b (by omega) hq with h | ⟨j, h1, h2⟩
      · exact .inl h
      · exact .inr ⟨j, by omega, h2⟩
    | false => exact .inr ⟨b, by omega, h, hq⟩
theorem Tr.still (ht : Tr P T ops env V O) (hd : DrawOk ops U m0) {a : Nat} (ha : m0 ≤ a) : ∀ d, a + d ≤ ops.size → (∀ j o, ops[j]? = some o → a ≤ j → j < a + d → kind o ≠ 2) → O (a + d) = O a
  | 0, _, _ => rfl
  | d + 1, h, hk => by
    have hlt : a + d < ops.size := by omega
    have hx : ops[a + d]? = some ops[a + d] := by simp [hlt]
    have h0 : kind ops[a + d] = 0 := by
      rcases kind_le ops[a + d] with h0 | h1 | h2
      · exact h0
      · have := hd.k1 _ _ hx h1; omega
      · exact absurd h2 (hk _ _ hx (by omega) (by omega))
    rw [← Nat.add_assoc, ht.same hx h0]
    exact ht.still hd ha d (by omega) (fun j o hj h1 h2 => hk j o hj h1 (by omega))
def Mem (ops : Array Oper) (m0 : Nat) (O : Nat → OL) (D : Nat → Bool) (ob : Ob) : Prop :=
  ((∀ i oi, ops[i]? = some oi → kind oi = 2 → D i = false) ∧
    (∀ k, ob.has k = true ↔ (O 0).has k = true ∨ ∃ j, j < m0 ∧ D j = true ∧ (O (j + 1)).has k = true ∧ (O j).has k = false) ∧
    (∀ k, ob.has k = true → ∀ i, ob.at_ k i = (O m0).at_ k i)) ∨
  ((∀ i oi, ops[i]? = some oi → kind oi = 1 → D i = true) ∧ ∃ m, m0 ≤ m ∧ m ≤ ops.size ∧ (∀ i oi, ops[i]? = some oi → kind oi = 2 → (D i = true ↔ i < m)) ∧ ob = (O m).ob)
theorem Ob_ext {a b : Ob} (h1 : ∀ k i, a.at_ k i = b.at_ k i) (h2 : ∀ k, a.has k = b.has k) : a = b := by
  cases a; cases b
  simp only [Ob.mk.injEq]
  exact ⟨funext fun k => funext fun i => h1 k i, funext h2⟩
theorem Mem.turn (ht : Tr P T ops env V O) (hd : DrawOk ops U m0) {D : Nat → Bool} {ob : Ob} (hob : ∀ k i, ob.at_ k i ≠ none → ob.has k = true) (hm : Mem ops m0 O D ob)
    (h1 : ∀ i oi, ops[i]? = some oi → kind oi = 1 → D i = true) :
    ∃ m, m0 ≤ m ∧ m ≤ ops.size ∧ (∀ i oi, ops[i]? = some oi → kind oi = 2 → (D i = true ↔ i < m)) ∧ ob = (O m).ob := by
  rcases hm with ⟨h2, h3, h4⟩ | ⟨_, h⟩
  · refine ⟨m0, Nat.le_refl _, hd.le, fun i oi hi hk => ?_, ?_⟩
    · rw [h2 i oi hi hk]
      have := hd.k2 i oi hi hk
      constructor
      · intro h; cases h
      · intro h; omega
    · have hh : ∀ k, ob.has k = true ↔ (O m0).has k = true := by
        intro k
        rw [h3 k]
        constructor
        · rintro (h | ⟨j, hj, _, h, _⟩)
          · exact (ht.mono hd (Nat.zero_le _) (Nat.le_refl _) h).1
          · exact (ht.mono hd (by omega : j + 1 ≤ m0) (Nat.le_refl _) h).1
        · intro h
          rcases ht.born hd m0 (Nat.le_refl _) h with h | ⟨j, hj, ha, hb⟩
          · exact .inl h
          · refine .inr ⟨j, hj, ?_, ha, hb⟩
            have hlt : j < ops.size := by have := hd.le; omega
            have hx : ops[j]? = some ops[j] := by simp [hlt]
            rcases kind_le ops[j] with h0 | h5 | h5
            · rw [ht.same hx h0, hb] at ha; cases ha
            · exact h1 _ _ hx h5
            · have := hd.k2 _ _ hx h5; omega
      refine Ob_ext (fun k i => ?_) (fun k => ?_)
      · cases hk : ob.has k with
        | true => exact h4 k hk i
        | false =>
          have e1 : ob.at_ k i = none := by
            apply Classical.byContradiction
            intro hne
            rw [hob k i hne] at hk; cases hk
          have e2 : (O m0).at_ k i = none := by
            apply Classical.byContradiction
            intro hne
            have := (hh k).2 (OL.has_of_at hne)
            rw [this] at hk; cases hk
          rw [e1]
          exact e2.symm
      · have := hh k
        show ob.has k = (O m0).has k
        cases hx : ob.has k
        · rw [hx] at this
          cases hy : (O m0).has k
          · rfl
          · exact absurd (this.2 hy) (by simp)
        · exact (this.1 hx).symm
  · exact h
theorem mem_rdy {listed : Array Bool} {i : Nat} (h : i ∈ Region.ready .any ops listed) :
    ∃ oi, ops[i]? = some oi ∧ listed.getD i true = false ∧ ∀ e ∈ oi.after, Region.binds .any e = true → Dl listed e.on = true := by
  simp only [Region.ready, List.mem_filter, List.mem_range, Bool.and_eq_true, Bool.not_eq_true'] at h
  obtain ⟨hlt, h1, h2⟩ := h
  have hx : ops[i]? = some ops[i] := by simp [hlt]
  rw [hx] at h2
  simp only [Option.map_some, Option.getD_some, Array.all_eq_true_iff_forall_mem] at h2
  refine ⟨_, hx, h1, fun e he hb => ?_⟩
  have := h2 e he
  simpa [hb, Dl] using this
theorem rdy_nil (hd : DrawOk ops U m0) {listed : Array Bool} (hs : listed.size = ops.size) (h : Region.ready .any ops listed = []) : ∀ i, i < ops.size → Dl listed i = true := by
  intro i
  induction i using Nat.strongRecOn with
  | _ i ih =>
    intro hi
    apply Classical.byContradiction
    intro hn
    have hx : ops[i]? = some ops[i] := by simp [hi]
    have : i ∈ Region.ready .any ops listed := by
      simp only [Region.ready, List.mem_filter, List.mem_range, Bool.and_eq_true, Bool.not_eq_true']
      refine ⟨hi, ?_, ?_⟩
      · have : Dl listed i = false := by simpa using hn
        simp only [Dl, Array.getD_eq_getD_getElem?] at this ⊢
        have hl : i < listed.size := hs ▸ hi
        simp only [hl, Array.getElem?_eq_getElem, Option.getD_some] at this ⊢
        exact this
      · rw [hx]
        simp only [Option.map_some, Option.getD_some, Array.all_eq_true_iff_forall_mem]
        intro e he
        cases hb : Region.binds .any e
        · rfl
        · have hlt := hd.back i _ hx e he hb
          have := ih e.on hlt (by omega)
          simp only [Dl] at this
          simp [this]
    rw [h] at this
    cases this
theorem Mem.zero (ht : Tr P T ops env V O) {D D' : Nat → Bool} {i : Nat} {oi : Oper} (hi : ops[i]? = some oi) (h0 : kind oi ≠ 2) (hDi : D i = false)
    (hD' : ∀ j, D' j = if j = i then true else D j) (hsame : O (i + 1) = O i) {ob : Ob} (hm : Mem ops m0 O D ob) : Mem ops m0 O D' ob := by
  rcases hm with ⟨h2, h3, h4⟩ | ⟨h1, m, q1, q2, q3, q4⟩
  · refine .inl ⟨fun j oj hj hk => ?_, fun k => ?_, h4⟩
    · rw [hD' j]
      by_cases hji : j = i
      · subst hji; rw [hi] at hj; cases hj; exact absurd hk h0
      · rw [if_neg hji]; exact h2 j oj hj hk
    · rw [h3 k]
      constructor
      · rintro (h | ⟨j, ha, hb, hc⟩)
        · exact .inl h
        · exact .inr ⟨j, ha, by rw [hD' j]; split <;> simp_all, hc⟩
      · rintro (h | ⟨j, ha, hb, hc, hd⟩)
        · exact .inl h
        · by_cases hji : j = i
          · subst hji; rw [hsame, hd] at hc; cases hc
          · rw [hD' j, if_neg hji] at hb
            exact .inr ⟨j, ha, hb, hc, hd⟩
  · refine .inr ⟨fun j oj hj hk => ?_, m, q1, q2, fun j oj hj hk => ?_, q4⟩
    · rw [hD' j]; split
      · rfl
      · exact h1 j oj hj hk
    · by_cases hji : j = i
      · subst hji; rw [hi] at hj; cases hj; exact absurd hk h0
      · rw [hD' j, if_neg hji]; exact q3 j oj hj hk
theorem Mem.one (ht : Tr P T ops env V O) (hd : DrawOk ops U m0) {D D' : Nat → Bool} {i : Nat} {oi : Oper} (hi : ops[i]? = some oi) (h1 : kind oi = 1) (hDi : D i = false)
    (hD' : ∀ j, D' j = if j = i then true else D j) {A : OL} (hA : O (i + 1) = A ++ O i) (hf : ∀ k, A.has k = true → (O i).has k = false) {ob : Ob} (hm : Mem ops m0 O D ob) :
    (∀ k, ob.has k = true → (O i).ob.has k = true → ∀ j, ob.at_ k j = (O i).ob.at_ k j) ∧ (∀ k, A.has k = true → ob.has k = false) ∧ Mem ops m0 O D' (A.ob.ext ob) := by
  have him := hd.k1 i oi hi h1
  rcases hm with ⟨h2, h3, h4⟩ | ⟨h5, _⟩
  · refine ⟨fun k hk hk2 j => ?_, fun k hk => ?_, .inl ⟨fun j oj hj hk => ?_, fun k => ?_, fun k hk j => ?_⟩⟩
    · rw [h4 k hk j]
      exact (ht.mono hd (Nat.le_of_lt him) (Nat.le_refl _) hk2).2 j
    · have hn := hf k hk
      apply Classical.byContradiction
      intro hh
      have hh : ob.has k = true := by simpa using hh
      rcases (h3 k).1 hh with h | ⟨j, ha, hb, hc, hdd⟩
      · have := (ht.mono hd (Nat.zero_le i) (Nat.le_of_lt him) h).1
        rw [hn] at this; cases this
      · by_cases hji : j < i
        · have := (ht.mono hd (by omega : j + 1 ≤ i) (Nat.le_of_lt him) hc).1
          rw [hn] at this; cases this
        · by_cases hij : j = i
          · subst hij; rw [hDi] at hb; cases hb
          · have : (O (i + 1)).has k = true := by rw [hA, OL.has_append, hk]; rfl
            have := (ht.mono hd (by omega : i + 1 ≤ j) (Nat.le_of_lt ha) this).1
            rw [hdd] at this; cases this
    · rw [hD' j]
      by_cases hji : j = i
      · subst hji; rw [hi] at hj; cases hj; rw [h1] at hk; cases hk
      · rw [if_neg hji]; exact h2 j oj hj hk
    · have e : (A.ob.ext ob).has k = (A.has k || ob.has k) := rfl
      rw [e, Bool.or_eq_true, h3 k]
      constructor
      · rintro (h | h | ⟨j, ha, hb, hc⟩)
        · exact .inr ⟨i, him, by rw [hD' i, if_pos rfl], by rw [hA, OL.has_append, h]; rfl, hf k h⟩
        · exact .inl h
        · exact .inr ⟨j, ha, by rw [hD' j]; split <;> simp_all, hc⟩
      · rintro (h | ⟨j, ha, hb, hc, hdd⟩)
        · exact .inr (.inl h)
        · by_cases hji : j = i
          · subst hji
            rw [hA, OL.has_append, hdd] at hc
            exact .inl (by simpa using hc)
          · rw [hD' j, if_neg hji] at hb
            exact .inr (.inr ⟨j, ha, hb, hc, hdd⟩)
    · have e : (A.ob.ext ob).at_ k j = if A.has k = true then A.at_ k j else ob.at_ k j := rfl
      rw [e]
      split
      · rename_i hAk
        have hx : (O (i + 1)).has k = true := by rw [hA, OL.has_append, hAk]; rfl
        rw [(ht.mono hd (by omega : i + 1 ≤ m0) (Nat.le_refl _) hx).2 j, hA, OL.at_append, if_pos hAk]
      · rename_i hAk
        refine h4 k ?_ j
        have : (A.has k || ob.has k) = true := hk
        simpa [hAk] using this
  · have := h5 i oi hi h1
    rw [hDi] at this; cases this
theorem Mem.two (ht : Tr P T ops env V O) (hd : DrawOk ops U m0) {D D' : Nat → Bool} {i : Nat} {oi : Oper} (hi : ops[i]? = some oi) (h2 : kind oi = 2) (hDi : D i = false)
    (hD' : ∀ j, D' j = if j = i then true else D j) (hU : ∀ j, j < ops.size → U i j = true → D j = true) {ob : Ob} (hob : ∀ k i, ob.at_ k i ≠ none → ob.has k = true) (hm : Mem ops m0 O D ob) :
    ob = (O i).ob ∧ Mem ops m0 O D' (O (i + 1)).ob := by
  have lt : ∀ {i : Nat} {oi : Oper}, ops[i]? = some oi → i < ops.size := fun hi => (Array.getElem?_eq_some_iff.1 hi).1
  have h1 : ∀ j oj, ops[j]? = some oj → kind oj = 1 → D j = true := fun j oj hj hk => hU j (lt hj) (hd.act1 i oi j oj hi hj h2 hk)
  obtain ⟨m, q1, q2, q3, q4⟩ := hm.turn ht hd hob h1
  have hmi : m ≤ i := by
    apply Nat.le_of_not_lt
    intro h
    have := (q3 i oi hi h2).2 h
    rw [hDi] at this; cases this
  have hst : O i = O m := by
    have := ht.still hd q1 (i - m) (by have := lt hi; omega) (fun j oj hj ha hb hk => by
      have hu := hd.act2 i oi j oj hi hj h2 hk (by omega)
      have := (q3 j oj hj hk).1 (hU j (lt hj) hu)
      omega)
    rwa [show m + (i - m) = i from by omega] at this
  refine ⟨by rw [q4, hst], .inr ⟨fun j oj hj hk => ?_, i + 1, by omega, by have := lt hi; omega, fun j oj hj hk => ?_, rfl⟩⟩
  · rw [hD' j]; split
    · rfl
    · exact h1 j oj hj hk
  · rw [hD' j]
    by_cases hji : j = i
    · subst hji; simp
    · rw [if_neg hji]
      constructor
      · intro h
        have := (q3 j oj hj hk).1 h
        omega
      · intro h
        exact hU j (lt hj) (hd.act2 i oi j oj hi hj h2 hk (by omega))
theorem Mem.all (ht : Tr P T ops env V O) (hd : DrawOk ops U m0) {D : Nat → Bool} {ob : Ob} (hob : ∀ k i, ob.at_ k i ≠ none → ob.has k = true) (hm : Mem ops m0 O D ob) (hall : ∀ i, i < ops.size → D i = true) : ob = (O ops.size).ob := by
  have lt : ∀ {i : Nat} {oi : Oper}, ops[i]? = some oi → i < ops.size := fun hi => (Array.getElem?_eq_some_iff.1 hi).1
  obtain ⟨m, q1, q2, q3, q4⟩ := hm.turn ht hd hob (fun j oj hj _ => hall j (lt hj))
  have := ht.still hd q1 (ops.size - m) (by omega) (fun j oj hj ha hb hk => by
    have := (q3 j oj hj hk).1 (hall j (lt hj))
    omega)
  rw [show m + (ops.size - m) = ops.size from by omega] at this
  rw [q4, this]
structure Inv (P : Program) (T : TT) (ops : Array Oper) (m0 N : Nat) (env : Env) (V : Nat → AV) (O : Nat → OL) (X : Cx) (listed : Array Bool) (a : Act) (w : World) : Prop where
  sz : listed.size = ops.size
  cl : ∀ i oi, ops[i]? = some oi → Dl listed i = true → ∀ e ∈ oi.after, Region.binds .any e = true → Dl listed e.on = true
  pic : ∃ κ ob, Rel X κ ob w ∧ (∀ t, VR (KK X κ ob w) (get (envOf V (Dl listed) 0 ops.toList env) t) (a.tmps.getD t undef)) ∧ Mem ops m0 O (Dl listed) ob
  size : a.tmps.size = N
  defers : a.defers = []
theorem listed_set {listed : Array Bool} {i : Nat} (hi : i < listed.size) (j : Nat) : Dl (listed.setIfInBounds i true) j = if j = i then true else Dl listed j := by
  simp only [Dl, Array.getD_eq_getD_getElem?]
  by_cases h : j = i
  · subst h; simp [hi]
  · rw [if_neg h, Array.getElem?_setIfInBounds_ne (Ne.symm h)]
theorem looks_dst {o : Oper} {t : Nat} (h : Operand.tmp t ∈ o.op.operands.toList) : t ∈ o.looksAt ops :=
  List.mem_append_left _ (List.mem_filterMap.2 ⟨.tmp t, h, rfl⟩)
theorem looks_guard {o : Oper} {j d : Nat} {b : Bool} (hg : o.guard = some (j, b)) (hd : (ops[j]?).bind (·.dst) = some d) : d ∈ o.looksAt ops := by
  refine List.mem_append_right _ ?_
  rw [hg]
  simp only
  rw [hd]
  simp
theorem draw_step (hd : DrawOk ops U m0) (ht : Tr P T ops env V O) {N : Nat} (hdst : dstOk N ops.toList = true) {X : Cx} (hP : X.P = P) (hTT : X.T = T) {listed : Array Bool} {a : Act} {w : World}
    (h : Inv P T ops m0 N env V O X listed a w) {i : Nat} (hi : i ∈ Region.ready .any ops listed) {Q : Exit → Act → World → Prop} {K : Act → World → Prop}
    (hK : ∀ a' w', Inv P T ops m0 N env V O X (listed.setIfInBounds i true) a' w' → K a' w') : wpOp P ops Q i K a w := by
  obtain ⟨oi, hx, hli, hre⟩ := mem_rdy hi
  have lt : ∀ {i : Nat} {oi : Oper}, ops[i]? = some oi → i < ops.size := fun hi => (Array.getElem?_eq_some_iff.1 hi).1
  have hin := lt hx
  have hinl : i < listed.size := h.sz ▸ hin
  have hDi : Dl listed i = false := by
    simp only [Dl, Array.getD_eq_getD_getElem?, hinl, Array.getElem?_eq_getElem, Option.getD_some] at hli ⊢
    exact hli
  have hD' := listed_set (listed := listed) hinl
  have hU : ∀ j, j < ops.size → U i j = true → Dl listed j = true := fun j hj hu => down hd h.cl i oi j hx hj hu hre
  have hUn : ∀ k ok, ops[k]? = some ok → U k i = true → Dl listed k = false := fun k ok hk hu => by
    apply Classical.byContradiction
    intro hn
    have hn : Dl listed k = true := by simpa using hn
    have := down hd h.cl k ok i hk hin hu (h.cl k ok hk hn)
    rw [hDi] at this; cases this
  obtain ⟨κ, ob, hR, hE, hM⟩ := h.pic
  have hob : ∀ k i, ob.at_ k i ≠ none → ob.has k = true := hR.has
  have hag : ∀ t, t ∈ oi.looksAt ops → get (envOf V (Dl listed) 0 ops.toList env) t = get (envOf V (fun j => decide (j < i)) 0 ops.toList env) t := by
    intro t htl
    refine envOf_agree V _ _ t _ 0 env env rfl (fun k o hk ho => ?_)
    rw [Array.getElem?_toList] at hk
    rw [Nat.zero_add]
    rcases Nat.lt_trichotomy k i with hki | hki | hki
    · rw [decide_eq_true hki]
      rcases hd.ap i oi k o hx hk hki with hap | hu
      · exact absurd htl ((Oper.apart_spec hap).1 t ho)
      · exact hU k (lt hk) hu
    · subst hki
      rw [hDi]; simp
    · rw [decide_eq_false (by omega)]
      rcases hd.ap k o i oi hk hx hki with hap | hu
      · exact absurd htl ((Oper.apart_spec hap).2.2 t ho)
      · exact hUn k o hk hu
  have hput : ∀ t, get (envOf V (Dl (listed.setIfInBounds i true)) 0 ops.toList env) t = if oi.dst = some t then V i else get (envOf V (Dl listed) 0 ops.toList env) t := by
    intro t
    by_cases hdt : oi.dst = some t
    · rw [if_pos hdt, envOf_last V _ t ops.toList 0 i oi env (by rw [Array.getElem?_toList]; exact hx) hdt (by rw [Nat.zero_add, hD', if_pos rfl]) (fun k o hk hk2 ho => ?_), Nat.zero_add]
      rw [Array.getElem?_toList] at hk2
      rw [Nat.zero_add, hD', if_neg (by omega)]
      rcases hd.ap k o i oi hk2 hx hk with hap | hu
      · exact absurd ho ((Oper.apart_spec hap).2.1 t hdt)
      · exact hUn k o hk2 hu
    · rw [if_neg hdt]
      refine envOf_agree V _ _ t _ 0 env env rfl (fun k o hk ho => ?_)
      rw [Array.getElem?_toList] at hk
      rw [Nat.zero_add, hD', if_neg (fun e => by subst e; rw [hx] at hk; cases hk; exact hdt ho)]
  have hdstN : ∀ t, oi.dst = some t → t < a.tmps.size := fun t hdt => by
    simp only [dstOk, List.all_eq_true] at hdst
    have := hdst oi (by simpa using Array.mem_of_getElem? hx)
    rw [hdt] at this
    rw [h.size]; simpa [Nat.blt_eq] using this
  have hcl' : ∀ j oj, ops[j]? = some oj → Dl (listed.setIfInBounds i true) j = true → ∀ e ∈ oj.after, Region.binds .any e = true → Dl (listed.setIfInBounds i true) e.on = true := by
    intro j oj hj hDj e he hb
    rw [hD'] at hDj ⊢
    split
    · rfl
    · by_cases hji : j = i
      · subst hji; rw [hx] at hj; cases hj; exact hre e he hb
      · rw [if_neg hji] at hDj; exact h.cl j oj hj hDj e he hb
  have next : ∀ (c : Value) (w' : World) (κ' : Gh) (ob' : Ob), Rel X κ' ob' w' → VR (KK X κ' ob' w') (V i) c → Le (KK X κ ob w) (KK X κ' ob' w') → Mem ops m0 O (Dl (listed.setIfInBounds i true)) ob' → K (a.put oi.dst c) w' := by
    intro c w' κ' ob' hR' hv hle hM'
    refine hK _ _ ⟨by simp [h.sz], hcl', ⟨κ', ob', hR', fun t => ?_, hM'⟩, by rw [Act.put_size]; exact h.size, by rw [Am.Act.put_defers]; exact h.defers⟩
    rw [hput t]
    by_cases hdt : oi.dst = some t
    · rw [if_pos hdt, hdt]
      have : (a.put (some t) c).tmps.getD t undef = c := by simp [Act.put, hdstN t hdt]
      rw [this]; exact hv
    · rw [if_neg hdt]
      have : (a.put oi.dst c).tmps.getD t undef = a.tmps.getD t undef := by
        cases hq : oi.dst with
        | none => rfl
        | some d =>
          have hne : d ≠ t := fun e => hdt (by rw [hq, e])
          simp [Act.put, Array.getElem?_setIfInBounds_ne hne]
      rw [this]; exact VR_mono hle (hE t)
  have hops : ∀ x ∈ oi.op.operands.toList, VR (KK X κ ob w) (evE (envOf V (fun j => decide (j < i)) 0 ops.toList env) x) (a.eval x) := by
    intro x hxo
    cases x with
    | tmp t => have := hE t; rw [hag t (looks_dst hxo)] at this; exact this
    | const v => exact constAV_ok _ v
    | global g => trivial
    | func g => exact ⟨#[], rfl, rfl, fun i hi => by omega⟩
  have want : ∀ b, gd ops oi (envOf V (fun j => decide (j < i)) 0 ops.toList env) = some b → Region.wanted oi (yielded ops a.tmps) = b := by
    intro b hb
    unfold gd at hb
    split at hb
    · rename_i hg
      cases hb
      simp [Region.wanted, hg]
    · rename_i j wnt hg
      split at hb
      · rename_i d hdd
        split at hb
        · rename_i b' hb'
          cases hb
          rw [← hag d (looks_guard hg hdd)] at hb'
          have hy := yielded_of hdd hE hb' (dst_lt_of_eq hE hb')
          simp [Region.wanted, hg, hy]
        · rename_i hb'
          cases hb
          rw [← hag d (looks_guard hg hdd)] at hb'
          have hy := yielded_none hdd hE hb'
          simp [Region.wanted, hg, hy]
        · cases hb
      · cases hb
  have hsz : ∀ r, Oper.upon X.P oi a K Q r → Oper.upon P oi a K Q r := fun r hr => by rw [← hP]; exact hr
  unfold wpOp
  rw [hx]
  simp only
  have hst := ht.step i oi hx
  rcases hst with ⟨hg, hv, hs⟩ | ⟨hg, hst⟩
  · rw [if_neg (by rw [want _ hg]; simp)]
    have hvu : VR (KK X κ ob w) (V i) undef := by rw [hv]; exact undA_ok _
    rcases kind_le oi with h0 | h1 | h2
    · exact next undef w κ ob hR hvu (Le.refl _) (hM.zero ht hx (by omega) hDi hD' hs)
    · exact next undef w κ ob hR hvu (Le.refl _) (hM.zero ht hx (by omega) hDi hD' hs)
    · obtain ⟨e1, e2⟩ := hM.two ht hd hx h2 hDi hD' hU hob
      rw [hs, ← e1] at e2
      exact next undef w κ ob hR hvu (Le.refl _) e2
  · rw [if_pos (want _ hg)]
    refine .inl ?_
    unfold Oper.wp
    rw [← hP]
    rcases hst with ⟨h0, hs, hj⟩ | ⟨h1, A, hs, hj, hf⟩ | ⟨h2, hj⟩
    · have := (PassJ.of_pure hj ob) X κ ob w a.eval hP hTT hR (fun _ _ _ _ => rfl) (fun k hk => by cases hk) hops
      rw [Ob.ext_nil, ← hP] at this
      exact upon_of_Out this (fun c w' κ' hR' hv hle => next c w' κ' ob hR' hv hle (hM.zero ht hx (by omega) hDi hD' hs))
    · obtain ⟨e1, e2, e3⟩ := hM.one ht hd hx h1 hDi hD' hs hf
      have := hj X κ ob w a.eval hP hTT (fun _ => rfl) hR e1 e2 hops
      rw [← hP] at this
      exact upon_of_Out this (fun c w' κ' hR' hv hle => next c w' κ' _ hR' hv hle e3)
    · obtain ⟨e1, e2⟩ := hM.two ht hd hx h2 hDi hD' hU hob
      subst e1
      have := hj X κ w a.eval hP hTT hR hops
      rw [← hP] at this
      exact upon_of_Out this (fun c w' κ' hR' hv hle => next c w' κ' _ hR' hv hle e2)
def left (ops : Array Oper) (listed : Array Bool) : Nat := ((List.range ops.size).filter fun i => !Dl listed i).length
theorem left_lt {listed : Array Bool} {i : Nat} (hi : i < ops.size) (hl : i < listed.size) (hD : Dl listed i = false) : left ops (listed.setIfInBounds i true) < left ops listed := by
  unfold left
  have : (List.range ops.size).filter (fun j => !Dl (listed.setIfInBounds i true) j) = ((List.range ops.size).filter (fun j => !Dl listed j)).filter (fun j => !(j == i)) := by
    rw [List.filter_filter]
    congr 1
    funext j
    rw [listed_set hl j]
    by_cases h : j = i
    · simp [h]
    · simp [h]
  rw [this]
  exact List.length_filter_lt_length_iff_exists.2 ⟨i, by simp [hi, hD], by simp⟩
theorem draw_any (hd : DrawOk ops U m0) (ht : Tr P T ops env V O) {N : Nat} (hdst : dstOk N ops.toList = true) {X : Cx} (hP : X.P = P) (hTT : X.T = T) {Q : Exit → Env → OL → Prop}
    (hK : Q .normal (envOf V (fun _ => true) 0 ops.toList env) (O ops.size)) :
    ∀ (fuel : Nat) (listed : Array Bool) (a : Act) (w : World), left ops listed ≤ fuel → Inv P T ops m0 N env V O X listed a w → wpAny P .any ops (QQ X N Q) fuel listed a w := by
  have fin : ∀ (listed : Array Bool) (a : Act) (w : World), Inv P T ops m0 N env V O X listed a w → (∀ i, i < ops.size → Dl listed i = true) → QQ X N Q .normal a w := by
    intro listed a w h hall
    obtain ⟨κ, ob, hR, hE, hM⟩ := h.pic
    have e := hM.all ht hd hR.has hall
    subst e
    refine ⟨κ, _, _, hK, hR, fun t => ?_, h.size, h.defers⟩
    have := hE t
    rwa [envOf_agree V (Dl listed) (fun _ => true) t _ 0 env env rfl (fun k o hk _ => by
      rw [Array.getElem?_toList] at hk
      rw [Nat.zero_add, hall k (Array.getElem?_eq_some_iff.1 hk).1])] at this
  intro fuel
  induction fuel with
  | zero =>
    intro listed a w hl h
    have hall : ∀ i, i < ops.size → Dl listed i = true := by
      intro i hi
      apply Classical.byContradiction
      intro hn
      have hn : Dl listed i = false := by simpa using hn
      have : i ∈ (List.range ops.size).filter fun i => !Dl listed i := by simp [hi, hn]
      have := List.length_pos_of_mem this
      unfold left at hl
      omega
    refine ⟨?_, fin listed a w h hall⟩
    apply Classical.byContradiction
    intro hne
    obtain ⟨i, hi⟩ := List.exists_mem_of_ne_nil _ hne
    obtain ⟨oi, hx, hli, _⟩ := mem_rdy hi
    have hin := (Array.getElem?_eq_some_iff.1 hx).1
    have hh := hall i hin
    have hl2 : i < listed.size := h.sz ▸ hin
    simp only [Dl, Array.getD_eq_getD_getElem?, hl2, Array.getElem?_eq_getElem, Option.getD_some] at hli hh
    rw [hh] at hli; cases hli
  | succ fuel ih =>
    intro listed a w hl h
    refine ⟨fun hr => fin listed a w h (rdy_nil hd h.sz hr), fun i hi => ?_⟩
    obtain ⟨oi, hx, hli, _⟩ := mem_rdy hi
    have hin := (Array.getElem?_eq_some_iff.1 hx).1
    have hl2 : i < listed.size := h.sz ▸ hin
    have hDi : Dl listed i = false := by
      simp only [Dl, Array.getD_eq_getD_getElem?, hl2, Array.getElem?_eq_getElem, Option.getD_some] at hli ⊢
      exact hli
    have := left_lt hin hl2 hDi
    exact draw_step hd ht hdst hP hTT h hi (fun a' w' h' => ih _ a' w' (by omega) h')
theorem snd_draw (hT : TOk P T) (hm : P.follows .mixedOrders = true) {N id : Nat} {ol : OL} {Q : Exit → Env → OL → Prop} (hd : drawOk ops = true) (hdst : dstOk N ops.toList = true)
    (h : WOps P T ops ops.toList env ol (fun env' ol' => Q .normal env' ol')) : Snd P T N (.region id ops true) env ol Q := by
  intro X κ a w hP hTT hR hE hN hD
  obtain ⟨V, O, hO, hst, hK⟩ := WOps_trace hT ops ops.toList env ol _ h
  have hd := chkD_ok hd
  have ht : Tr P T ops env V O := ⟨fun k o hk => hst k o (by rw [Array.getElem?_toList]; exact hk)⟩
  have hDl : ∀ j, Dl (Array.replicate ops.size false) j = false := fun j => by
    simp only [Dl, Array.getD_eq_getD_getElem?, Array.getElem?_replicate]
    split <;> rfl
  refine wp_region_any hm (draw_any hd ht hdst hP hTT (by rw [Array.length_toList] at hK; exact hK) _ _ a _ ?_ ⟨by simp, fun i oi _ hi => (by rw [hDl] at hi; cases hi), ⟨κ, ol.ob, hR.drew, fun t => ?_, .inl ⟨fun i _ _ _ => hDl i, fun k => ?_, fun k hk i => ?_⟩⟩, hN, hD⟩)
  · unfold left
    exact Nat.le_trans (List.length_filter_le _ _) (by simp)
  · have e : Dl (Array.replicate ops.size false) = fun _ => false := funext hDl
    rw [e, envOf_none]
    exact hE t
  · rw [hO]
    constructor
    · exact fun h => .inl h
    · rintro (h | ⟨j, _, hj, _⟩)
      · exact h
      · rw [hDl] at hj; cases hj
  · rw [← hO] at hk ⊢
    exact ((ht.mono hd (Nat.zero_le _) (Nat.le_refl _) hk).2 i).symm
end
end Go.Am

set_option linter.unusedVariables false
set_option linter.unusedSimpArgs false
namespace Go.Am
def zm : AV → List Value → Bool
  | .any, cs => (match cs with | [c] => c.oneCell' | _ => false)
  | .int k n, cs => (match cs with | [.int k' n'] => decide (k' = k) && decide (n' = n) | _ => false)
  | .bool b, cs => (match cs with | [.bool b'] => b' == b | _ => false)
  | .strg s, cs => (match cs with | [.string s'] => decide (s' = s) | _ => false)
  | .nilsl, cs => (match cs with | [.slice none 0 0] => true | _ => false)
  | .arr n f, cs => Nat.beq cs.length (n * (f 0).size) && (List.range n).all fun i => zm (f i) ((cs.drop (i * (f 0).size)).take (f 0).size)
  | .sct n f, cs => Nat.beq cs.length (sumTo (fun i => (f i).size) n) && (List.range n).all fun i => zm (f i) ((cs.drop (sumTo (fun i => (f i).size) i)).take (f i).size)
  | _, _ => false
theorem flat_pieces (sz : Nat → Nat) (l : List Value) : ∀ n, flat (fun i => (l.drop (sumTo sz i)).take (sz i)) n = l.take (sumTo sz n)
  | 0 => by simp [flat, sumTo]
  | n + 1 => by
    simp only [flat, sumTo, flat_pieces sz l n]
    rw [List.take_add]
theorem zm_ok : ∀ {v : AV} {cs : List Value}, zm v cs = true → ∀ K, FL K v cs := by
  intro v
  induction v with
  | any =>
    intro cs h K
    simp only [zm] at h
    split at h
    · exact ⟨_, rfl, h⟩
    · cases h
  | int k n =>
    intro cs h K
    simp only [zm] at h
    split at h
    · simp only [Bool.and_eq_true, decide_eq_true_eq] at h
      obtain ⟨rfl, rfl⟩ := h
      rfl
    · cases h
  | bool b =>
    intro cs h K
    simp only [zm] at h
    split at h
    · have := eq_of_beq h; subst this; rfl
    · cases h
  | strg s =>
    intro cs h K
    simp only [zm] at h
    split at h
    · simp only [decide_eq_true_eq] at h; subst h; rfl
    · cases h
  | nilsl =>
    intro cs h K
    simp only [zm] at h
    split at h
    · rfl
    · cases h
  | arr n f ih =>
    intro cs h K
    simp only [zm, Bool.and_eq_true, List.all_eq_true, List.mem_range] at h
    obtain ⟨hl, h⟩ := h
    have hl := Nat.eq_of_beq_eq_true hl
    refine ⟨fun i => (cs.drop (sumTo (fun _ => (f 0).size) i)).take (f 0).size, ?_, fun i hi => ⟨?_, ?_⟩⟩
    · rw [flat_pieces (fun _ => (f 0).size) cs n, sumTo_const, ← hl, List.take_length]
    · simp only [sumTo_const]; exact ih i (h i hi) K
    · simp only [sumTo_const, List.length_take, List.length_drop, hl]
      have := Nat.mul_le_mul_right (f 0).size (show i + 1 ≤ n by omega)
      rw [Nat.add_mul] at this
      omega
  | sct n f ih =>
    intro cs h K
    simp only [zm, Bool.and_eq_true, List.all_eq_true, List.mem_range] at h
    obtain ⟨hl, h⟩ := h
    have hl := Nat.eq_of_beq_eq_true hl
    refine ⟨fun i => (cs.drop (sumTo (fun i => (f i).size) i)).take (f i).size, ?_, fun i hi => ih i (h i hi) K⟩
    rw [flat_pieces (fun i => (f i).size) cs n, ← hl, List.take_length]
  | _ => intro cs h; simp only [zm] at h; cases h
def zeroOf (und : TypeId → TD) : Nat → TypeId → AV
  | 0, _ => .any
  | d + 1, t => match und t with
    | .bool => .bool false
    | .int k => .int k 0
    | .str => .strg ByteArray.empty
    | .arr n e => .arr n (fun _ => zeroOf und d e)
    | .sct fs => .sct fs.length (fun i => zeroOf und d (fs.getD i (0, 0)).1)
    | .slc _ => .nilsl
    | _ => .any
theorem ssh_zeroOf (und : TypeId → TD) : ∀ (d : Nat) (t : TypeId), ssh (zeroOf und d t) (zeroOf und d t)
  | 0, _ => trivial
  | d + 1, t => by
    unfold zeroOf
    split <;> first | trivial | exact ⟨rfl, fun _ => ssh_zeroOf und d _⟩
abbrev Tab := List (TypeId × TD × Nat × Nat)
def look : Tab → TypeId → Option (TD × Nat × Nat)
  | [], _ => none
  | (t', x) :: r, t => bif Nat.beq t t' then some x else look r t
def undOf (tab : Tab) (t : TypeId) : TD := match look tab t with | some x => x.1 | none => .other
def mkT (tab : Tab) : TT where
  und := undOf tab
  sz t := match look tab t with | some x => x.2.1 | none => 1
  by_ t := match look tab t with | some x => x.2.2 | none => 1
  zero := zeroOf (undOf tab) 6
def udOk (P : Program) (t : TypeId) : TD → Bool
  | .other => true
  | .bool => (match P.underlying t with | some .bool => true | _ => false)
  | .int k => (match P.underlying t with | some (.int k') => decide (k' = k) | _ => false)
  | .str => (match P.underlying t with | some .string => true | _ => false)
  | .ptr e => (match P.underlying t with | some (.pointer e') => Nat.beq e' e | _ => false)
  | .arr n e => (match P.underlying t with | some (.array n' e') => Nat.beq n' n && Nat.beq e' e | _ => false)
  | .sct fs => (match P.underlying t with | some (.struct flds) => decide (flds.toList.map (fun f => (f.type, f.offset)) = fs) | _ => false)
  | .slc e => (match P.underlying t with | some (.slice e') => Nat.beq e' e | _ => false)
  | .fnc => (match P.underlying t with | some (.func _ _ _) => true | _ => false)
theorem udOk_ok {P : Program} {t : TypeId} {d : TD} (h : udOk P t d = true) : d.ok P t := by
  cases d <;> simp only [udOk] at h <;> simp only [TD.ok]
  all_goals (split at h <;> first | (cases h; done) | skip)
  · assumption
  · rename_i h1; simp only [decide_eq_true_eq] at h; rw [h1, h]
  · assumption
  · rename_i h1; rw [h1, Nat.eq_of_beq_eq_true h]
  · rename_i h1; simp only [Bool.and_eq_true] at h; rw [h1, Nat.eq_of_beq_eq_true h.1, Nat.eq_of_beq_eq_true h.2]
  · rename_i h1; simp only [decide_eq_true_eq] at h; exact ⟨_, h1, h⟩
  · rename_i h1; rw [h1, Nat.eq_of_beq_eq_true h]
  · rename_i h1; exact ⟨_, _, _, h1⟩
def isAggV : Value → Bool
  | .agg _ => true
  | _ => false
def infoOk (P : Program) (tab : Tab) (t : TypeId) : Bool :=
  match P.info? t with
  | some i => Nat.beq i.size ((mkT tab).sz t) && Nat.beq i.bytes ((mkT tab).by_ t) && (match i.zero with
    | some z => zm ((mkT tab).zero t) z.cells.toList && ((mkT tab).zero t).isAgg == ((mkT tab).und t).isAgg && (!((mkT tab).und t).isAgg || isAggV z)
    | none => false) && Nat.beq ((mkT tab).zero t).size ((mkT tab).sz t) && Nat.blt 0 ((mkT tab).sz t)
  | none => false
def oneOk (tab : Tab) (t : TypeId) : Bool := ((mkT tab).und t).isAgg || Nat.beq ((mkT tab).sz t) 1
def eqgOk (P : Program) (tab : Tab) (t : TypeId) : Bool := match (mkT tab).und t with
  | .arr _ e => (match (mkT tab).und e with
    | .int _ => !P.eqGuardType P.depth t
    | _ => true)
  | _ => true
def tabOk (P : Program) (tab : Tab) : Bool := tab.all fun e => udOk P e.1 (undOf tab e.1) && infoOk P tab e.1 && oneOk tab e.1 && eqgOk P tab e.1
theorem look_mem {tab : Tab} {t : TypeId} {x : TD × Nat × Nat} (h : look tab t = some x) : ∃ e ∈ tab, e.1 = t := by
  induction tab with
  | nil => cases h
  | cons p r ih =>
    obtain ⟨t', y⟩ := p
    simp only [look] at h
    cases hb : Nat.beq t t'
    · rw [hb] at h
      obtain ⟨e, he, h⟩ := ih h
      exact ⟨e, List.mem_cons_of_mem _ he, h⟩
    · exact ⟨(t', y), by simp, (Nat.eq_of_beq_eq_true hb).symm⟩
theorem tok {P : Program} {tab : Tab} (h : tabOk P tab = true) : TOk P (mkT tab) := by
  simp only [tabOk, List.all_eq_true, Bool.and_eq_true] at h
  have hm : ∀ t, undOf tab t ≠ .other → ((udOk P t (undOf tab t) = true ∧ infoOk P tab t = true) ∧ oneOk tab t = true) ∧ eqgOk P tab t = true := by
    intro t ht
    unfold undOf at ht
    cases hl : look tab t with
    | none => rw [hl] at ht; exact absurd rfl ht
    | some x =>
      obtain ⟨e, he, rfl⟩ := look_mem hl
      exact h e he
  refine ⟨fun t => ?_, fun t hk ha => ?_, fun t n e k h1 h2 => ?_, fun t hk => ?_⟩
  · show (undOf tab t).ok P t
    by_cases ht : undOf tab t = .other
    · rw [ht]; trivial
    · exact udOk_ok (hm t ht).1.1.1
  · have hk : (undOf tab t).known = true := hk
    have := (hm t (fun e => by rw [e] at hk; cases hk)).1.2
    have ha : ((mkT tab).und t).isAgg = false := ha
    simp only [oneOk, ha, Bool.false_or] at this
    exact Nat.eq_of_beq_eq_true this
  · have := (hm t (fun e => by rw [show (mkT tab).und t = undOf tab t from rfl, e] at h1; cases h1)).2
    simp only [eqgOk, h1, h2] at this
    simpa using this
  · have hk : (undOf tab t).known = true := hk
    have := (hm t (fun e => by rw [e] at hk; cases hk)).1.1.2
    unfold infoOk at this
    split at this
    · rename_i i hi
      simp only [Bool.and_eq_true] at this
      obtain ⟨⟨⟨⟨h1, h2⟩, h3⟩, h4⟩, h5⟩ := this
      split at h3
      · rename_i z hz
        simp only [Bool.and_eq_true] at h3
        obtain ⟨⟨q1, q2⟩, q3⟩ := h3
        refine ⟨i, z, hi, Nat.eq_of_beq_eq_true h1, Nat.eq_of_beq_eq_true h2, hz, fun K => zm_ok q1 K, eq_of_beq q2, fun ha => ?_, ssh_zeroOf _ _ _, Nat.eq_of_beq_eq_true h4, by simpa [Nat.blt_eq] using h5⟩
        rw [ha] at q3
        cases z <;> simp [isAggV] at q3
        exact ⟨_, rfl⟩
      · cases h3
    · cases this
end Go.Am

set_option linter.unusedVariables false
set_option linter.unusedSimpArgs false
namespace Go.Am
section
variable {P : Program} {T : TT} {N : Nat} {env : Env} {ol : OL} {Q : Exit → Env → OL → Prop}
theorem sr (hT : TOk P T) {id : Nat} {ops : Array Oper} {y : Code} {env' : Env} {ol' : OL} (hd : dstOk N ops.toList = true)
    (h : ∀ R : Env → OL → Prop, R env' ol' → WOps P T ops ops.toList env ol R) (hy : Snd P T N y env' ol' Q) : Snd P T N (.seq (.region id ops false) y) env ol Q :=
  snd_seq (snd_region hT hd (h _ hy))
theorem sd (hT : TOk P T) (hm : P.follows .mixedOrders = true) {id : Nat} {ops : Array Oper} {y : Code} {env' : Env} {ol' : OL} (ho : drawOk ops = true) (hd : dstOk N ops.toList = true)
    (h : ∀ R : Env → OL → Prop, R env' ol' → WOps P T ops ops.toList env ol R) (hy : Snd P T N y env' ol' Q) : Snd P T N (.seq (.region id ops true) y) env ol Q :=
  snd_seq (snd_draw hT hm ho hd (h _ hy))
theorem lr (hT : TOk P T) {id : Nat} {ops : Array Oper} {env' : Env} {ol' : OL} (hd : dstOk N ops.toList = true)
    (h : ∀ R : Env → OL → Prop, R env' ol' → WOps P T ops ops.toList env ol R) (hy : Q .normal env' ol') : Snd P T N (.region id ops false) env ol Q :=
  snd_region hT hd (h _ hy)
theorem ld (hT : TOk P T) (hm : P.follows .mixedOrders = true) {id : Nat} {ops : Array Oper} {env' : Env} {ol' : OL} (ho : drawOk ops = true) (hd : dstOk N ops.toList = true)
    (h : ∀ R : Env → OL → Prop, R env' ol' → WOps P T ops ops.toList env ol R) (hy : Q .normal env' ol') : Snd P T N (.region id ops true) env ol Q :=
  snd_draw hT hm ho hd (h _ hy)
theorem CmpW_dec {p : Prop} [Decidable p] {K : AV → Prop} (h : K (.bool (decide p))) : CmpW p K :=
  ⟨fun hp => by rwa [decide_eq_true hp] at h, fun hp => by rwa [decide_eq_false hp] at h⟩
theorem sq {c : Code} {env2 : Env} {ol2 : OL} (he : env = env2) (ho : ol = ol2) (h : Snd P T N c env2 ol2 Q) : Snd P T N c env ol Q := by
  subst he; subst ho; exact h
inductive HV : AV → AV → Prop where
  | int (k n) : HV (.int k n) (.int k n)
  | bool (b) : HV (.bool b) (.bool b)
  | arr (n f) : HV (.arr n f) (.arr n f)
  | sct (n f) : HV (.sct n f) (.sct n f)
  | cptr (v) : HV (.cptr v) (.cptr v)
  | ptr (k i p o r) : HV (.ptr k i p o r) (.ptr k i p o r)
  | own (k i n e) : HV (.own k i n e) (.own k i n e)
  | ro (n f) : HV (.ro n f) (.ro n f)
  | nilsl : HV .nilsl .nilsl
  | strg (s) : HV (.strg s) (.strg s)
  | tup (n f) : HV (.tup n f) (.tup n f)
  | fn (g n c) : HV (.fn g n c) (.fn g n c)
  | any : HV .any .any
theorem HV.eq {a b : AV} (h : HV a b) : a = b := by cases h <;> rfl
variable {all : Array Oper} {r : List Oper} {R : Env → OL → Prop} {ty : TypeId} {pos : String} {af : Array Edge} {x y : Operand} {d : Nat} {u t : TypeId}
theorem w_move {v : AV} (h : HV (evE env x) v) (hr : WOps P T all r ((d, v) :: env) ol R) : WOps P T all (⟨some d, .move x, ty, pos, af, none⟩ :: r) env ol R := by
  have := h.eq; subst this; exact hr
theorem w_assign {v : AV} (h : HV (evE env x) v) (hr : WOps P T all r ((d, v) :: env) ol R) : WOps P T all (⟨some d, .assign x, ty, pos, af, none⟩ :: r) env ol R := by
  have := h.eq; subst this; exact hr
theorem w_add {k : IntKind} {a b c : Int} (hx : evE env x = .int k a) (hy : evE env y = .int k b) (hc : k.wrap (a + b) = c) (hr : WOps P T all r ((d, .int k c) :: env) ol R) : WOps P T all (⟨some d, .binOp .add t x y u, ty, pos, af, none⟩ :: r) env ol R := by
  subst hc
  simp only [WOps, WOp, PW, putE]
  rw [hx, hy]
  exact ⟨rfl, hr⟩
theorem w_eql {k : IntKind} {a b : Int} (hx : evE env x = .int k a) (hy : evE env y = .int k b) (hr : WOps P T all r ((d, .bool (decide (a = b))) :: env) ol R) : WOps P T all (⟨some d, .binOp .eql t x y u, ty, pos, af, none⟩ :: r) env ol R := by
  simp only [WOps, WOp, PW, putE]
  rw [hx, hy]
  exact ⟨rfl, CmpW_dec hr⟩
theorem w_neq {k : IntKind} {a b : Int} (hx : evE env x = .int k a) (hy : evE env y = .int k b) (hr : WOps P T all r ((d, .bool (decide (a ≠ b))) :: env) ol R) : WOps P T all (⟨some d, .binOp .neq t x y u, ty, pos, af, none⟩ :: r) env ol R := by
  simp only [WOps, WOp, PW, putE]
  rw [hx, hy]
  exact ⟨rfl, CmpW_dec hr⟩
theorem w_lss {k : IntKind} {a b : Int} (hx : evE env x = .int k a) (hy : evE env y = .int k b) (hr : WOps P T all r ((d, .bool (decide (a < b))) :: env) ol R) : WOps P T all (⟨some d, .binOp .lss t x y u, ty, pos, af, none⟩ :: r) env ol R := by
  simp only [WOps, WOp, PW, putE]
  rw [hx, hy]
  exact ⟨rfl, CmpW_dec hr⟩
theorem w_leq {k : IntKind} {a b : Int} (hx : evE env x = .int k a) (hy : evE env y = .int k b) (hr : WOps P T all r ((d, .bool (decide (a ≤ b))) :: env) ol R) : WOps P T all (⟨some d, .binOp .leq t x y u, ty, pos, af, none⟩ :: r) env ol R := by
  simp only [WOps, WOp, PW, putE]
  rw [hx, hy]
  exact ⟨rfl, CmpW_dec hr⟩
theorem w_geq {k : IntKind} {a b : Int} (hx : evE env x = .int k a) (hy : evE env y = .int k b) (hr : WOps P T all r ((d, .bool (decide (b ≤ a))) :: env) ol R) : WOps P T all (⟨some d, .binOp .geq t x y u, ty, pos, af, none⟩ :: r) env ol R := by
  simp only [WOps, WOp, PW, putE]
  rw [hx, hy]
  exact ⟨rfl, CmpW_dec hr⟩
def eqN (n : Nat) (f g : Nat → Int) : Prop := ∀ i, i < n → f i = g i
noncomputable instance (n : Nat) (f g : Nat → Int) : Decidable (eqN n f g) := Classical.propDecidable _
theorem w_not {b : Bool} (hx : evE env x = .bool b) (hr : WOps P T all r ((d, .bool (!b)) :: env) ol R) : WOps P T all (⟨some d, .unOp .not t x, ty, pos, af, none⟩ :: r) env ol R := by
  simp only [WOps, WOp, PW, putE]
  rw [hx]; exact hr
theorem w_conv {k k0 k' : IntKind} {n c : Int} (hx : evE env x = .int k n) (ht : T.und t = .int k0) (hu : T.und u = .int k') (hc : k'.wrap n = c) (hr : WOps P T all r ((d, .int k' c) :: env) ol R) : WOps P T all (⟨some d, .convert t u x, ty, pos, af, none⟩ :: r) env ol R := by
  subst hc
  simp only [WOps, WOp, PW, putE]
  rw [hx]; simp only [ConvW, ht, hu]; exact hr
theorem w_nilc {v : AV} (hx : evE env x = .cptr v) (hr : WOps P T all r ((d, .cptr v) :: env) ol R) : WOps P T all (⟨some d, .nilCheck x, ty, pos, af, none⟩ :: r) env ol R := by
  simp only [WOps, WOp, PW, putE]
  rw [hx]; exact hr
theorem w_nilp {k i o : Nat} {p : List Nat} {v : AV} (hx : evE env x = .ptr k i p o v) (hr : WOps P T all r ((d, .ptr k i p o v) :: env) ol R) : WOps P T all (⟨some d, .nilCheck x, ty, pos, af, none⟩ :: r) env ol R := by
  simp only [WOps, WOp, PW, putE]
  rw [hx]; exact hr
theorem w_nilf {k i : Nat} {c : Nat → AV} (hx : evE env x = .fn k i c) (hr : WOps P T all r ((d, .fn k i c) :: env) ol R) : WOps P T all (⟨some d, .nilCheck x, ty, pos, af, none⟩ :: r) env ol R := by
  simp only [WOps, WOp, PW, putE]
  rw [hx]; exact hr
theorem w_fac {f n ft fo : Nat} {g : Nat → AV} {fs : List (TypeId × Nat)} {v : AV} (hx : evE env x = .cptr (.sct n g)) (ht : T.und t = .sct fs) (hf : fs[f]? = some (ft, fo)) (hk : (T.und ft).known = true) (hz : T.sz ft ≠ 0) (hn : f < n)
    (ho : sumTo (fun j => (g j).size) f = fo) (hv : HV (g f) v) (hr : WOps P T all r ((d, .cptr v) :: env) ol R) : WOps P T all (⟨some d, .fieldAddr t x f, ty, pos, af, none⟩ :: r) env ol R := by
  have := hv.eq; subst this
  simp only [WOps, WOp, PW, putE]
  rw [hx]; simp only [FieldAddrW, ht, hf]; exact ⟨hk, hz, hn, ho, hr⟩
theorem w_fap {f n ft fo : Nat} {k i o : Nat} {p : List Nat} {root : AV} {g : Nat → AV} {fs : List (TypeId × Nat)} (hx : evE env x = .ptr k i p o root) (ht : T.und t = .sct fs) (hf : fs[f]? = some (ft, fo)) (hk : (T.und ft).known = true) (hz : T.sz ft ≠ 0) (hs : sub root p = .sct n g) (hn : f < n)
    (ho : sumTo (fun j => (g j).size) f = fo) (hr : WOps P T all r ((d, .ptr k i (p ++ [f]) (o + fo) root) :: env) ol R) : WOps P T all (⟨some d, .fieldAddr t x f, ty, pos, af, none⟩ :: r) env ol R := by
  simp only [WOps, WOp, PW, putE]
  rw [hx]; simp only [FieldAddrW, ht, hf, hs]; exact ⟨hk, hz, hn, ho, hr⟩
theorem w_iac {n e : Nat} {k : IntKind} {j : Int} {g : Nat → AV} {v : AV} (hx : evE env x = .cptr (.arr n g)) (hj : evE env y = .int k j) (ht : T.und t = .arr n e) (hk : (T.und e).known = true) (hz : (g 0).size = T.sz e) (hb : 0 ≤ j ∧ j < (n : Int))
    (hv : g j.toNat = v) (hr : WOps P T all r ((d, .cptr v) :: env) ol R) : WOps P T all (⟨some d, .indexAddr t x y, ty, pos, af, none⟩ :: r) env ol R := by
  subst hv
  simp only [WOps, WOp, PW, putE]
  rw [hj, hx]; simp only [IndexAddrW, ht]; exact ⟨trivial, hk, hz, hb, hr⟩
theorem w_iap {n e : Nat} {k : IntKind} {j : Int} {q i o : Nat} {p : List Nat} {root : AV} {g : Nat → AV} (hx : evE env x = .ptr q i p o root) (hj : evE env y = .int k j) (ht : T.und t = .arr n e) (hk : (T.und e).known = true) (hs : sub root p = .arr n g) (hz : (g 0).size = T.sz e) (hz2 : (g j.toNat).size = (g 0).size) (hb : 0 ≤ j ∧ j < (n : Int))
    (hr : WOps P T all r ((d, .ptr q i (p ++ [j.toNat]) (o + j.toNat * T.sz e) root) :: env) ol R) : WOps P T all (⟨some d, .indexAddr t x y, ty, pos, af, none⟩ :: r) env ol R := by
  simp only [WOps, WOp, PW, putE]
  rw [hj, hx]; simp only [IndexAddrW, ht, hs]; exact ⟨trivial, hk, hz, hz2, hb, hr⟩
theorem w_iao {n e : Nat} {k : IntKind} {j : Int} {q i : Nat} (hx : evE env x = .own q i n e) (hj : evE env y = .int k j) (ht : T.und t = .slc e) (hk : (T.und e).known = true) (hb : 0 ≤ j ∧ j < (n : Int))
    (hr : WOps P T all r ((d, .ptr q i [j.toNat] (0 + j.toNat * T.sz e) (.arr n (fun _ => T.zero e))) :: env) ol R) : WOps P T all (⟨some d, .indexAddr t x y, ty, pos, af, none⟩ :: r) env ol R := by
  simp only [WOps, WOp, PW, putE]
  rw [hj, hx]; simp only [IndexAddrW, ht]; exact ⟨trivial, hk, hb, hr⟩
theorem w_iar {n e : Nat} {k : IntKind} {j : Int} {g : Nat → AV} {v : AV} (hx : evE env x = .ro n g) (hj : evE env y = .int k j) (ht : T.und t = .slc e) (hk : (T.und e).known = true) (hz : (g 0).size = T.sz e) (hb : 0 ≤ j ∧ j < (n : Int)) (hv : g j.toNat = v)
    (hr : WOps P T all r ((d, .cptr v) :: env) ol R) : WOps P T all (⟨some d, .indexAddr t x y, ty, pos, af, none⟩ :: r) env ol R := by
  subst hv
  simp only [WOps, WOp, PW, putE]
  rw [hj, hx]; simp only [IndexAddrW, ht]; exact ⟨hk, hz, hb, hr⟩
theorem w_ixa {n e : Nat} {k : IntKind} {j : Int} {g : Nat → AV} {v : AV} (hx : evE env x = .arr n g) (hj : evE env y = .int k j) (ht : T.und t = .arr n e) (hk : (T.und e).known = true) (hz : (g 0).size = T.sz e) (hb : 0 ≤ j ∧ j < (n : Int)) (hv : HV (g j.toNat) v) (ha : v.isAgg = (T.und e).isAgg)
    (hr : WOps P T all r ((d, v) :: env) ol R) : WOps P T all (⟨some d, .index t x y, ty, pos, af, none⟩ :: r) env ol R := by
  have := hv.eq; subst this
  simp only [WOps, WOp, PW, putE]
  rw [hj, hx]; simp only [IndexW, ht]; exact ⟨trivial, hk, hz, ha, hb, hr⟩
theorem w_ext {n i : Nat} {g : Nat → AV} {v : AV} (hx : evE env x = .tup n g) (hi : i < n) (hv : HV (g i) v) (hr : WOps P T all r ((d, v) :: env) ol R) : WOps P T all (⟨some d, .extract x i, ty, pos, af, none⟩ :: r) env ol R := by
  have := hv.eq; subst this
  simp only [WOps, WOp, PW, putE]
  rw [hx]; exact ⟨hi, hr⟩
theorem w_mkf {g : FuncId} {caps : Array Operand} {n : Nat} {c : Nat → AV} (hn : caps.size = n) (hc : (fun i => evE env (caps.toList.getD i (.const undef))) = c) (hr : WOps P T all r ((d, .fn g n c) :: env) ol R) : WOps P T all (⟨some d, .makeFunc (.func g) #[] caps, ty, pos, af, none⟩ :: r) env ol R := by
  subst hn; subst hc
  exact ⟨rfl, hr⟩
theorem w_pick_t {b c : Operand} {v : AV} (hx : evE env x = .bool true) (hv : HV (evE env b) v) (hr : WOps P T all r ((d, v) :: env) ol R) : WOps P T all (⟨some d, .pick x b c, ty, pos, af, none⟩ :: r) env ol R := by
  have := hv.eq; subst this
  simp only [WOps, WOp, PW, putE]
  rw [hx]; exact hr
theorem w_pick_f {b c : Operand} {v : AV} (hx : evE env x = .bool false) (hv : HV (evE env c) v) (hr : WOps P T all r ((d, v) :: env) ol R) : WOps P T all (⟨some d, .pick x b c, ty, pos, af, none⟩ :: r) env ol R := by
  have := hv.eq; subst this
  simp only [WOps, WOp, PW, putE]
  rw [hx]; exact hr
theorem w_g_on {o : Op} {dst : Option Nat} {j : Nat} {w b : Bool} {dd : Nat} (hd : (all[j]?).bind (·.dst) = some dd) (hb : get env dd = .bool b) (hw : b = w) (hr : WOps P T all (⟨dst, o, ty, pos, af, none⟩ :: r) env ol R) : WOps P T all (⟨dst, o, ty, pos, af, some (j, w)⟩ :: r) env ol R := by
  subst hw
  unfold WOps
  simp only [hd, hb, beq_self_eq_true]
  exact hr
theorem w_g_off {o : Op} {dst : Option Nat} {j : Nat} {w b : Bool} {dd : Nat} (hd : (all[j]?).bind (·.dst) = some dd) (hb : get env dd = .bool b) (hw : ¬ b = w) (hr : WOps P T all r (putE dst undA env) ol R) : WOps P T all (⟨dst, o, ty, pos, af, some (j, w)⟩ :: r) env ol R := by
  unfold WOps
  have : (b == w) = false := by simpa using hw
  simp only [hd, hb, this]
  exact hr
theorem w_g_und {o : Op} {dst : Option Nat} {j : Nat} {w : Bool} {dd : Nat} (hd : (all[j]?).bind (·.dst) = some dd) (hb : get env dd = undA) (hr : WOps P T all r (putE dst undA env) ol R) : WOps P T all (⟨dst, o, ty, pos, af, some (j, w)⟩ :: r) env ol R := by
  unfold WOps
  simp only [hd, hb, undA]
  exact hr
theorem w_g {o : Op} {dst : Option Nat} {j : Nat} {w b : Bool} {dd : Nat} (hd : (all[j]?).bind (·.dst) = some dd) (hb : get env dd = .bool b) (ht : b = w → WOps P T all (⟨dst, o, ty, pos, af, none⟩ :: r) env ol R) (hf : ¬ b = w → WOps P T all r (putE dst undA env) ol R) :
    WOps P T all (⟨dst, o, ty, pos, af, some (j, w)⟩ :: r) env ol R := by
  by_cases h : b = w
  · exact w_g_on hd hb h (ht h)
  · exact w_g_off hd hb h (hf h)
theorem w_pick_1 {b c : Operand} {q : Bool} {v : AV} (hx : evE env x = .bool q) (hq : q = true) (hv : HV (evE env b) v) (hr : WOps P T all r ((d, v) :: env) ol R) : WOps P T all (⟨some d, .pick x b c, ty, pos, af, none⟩ :: r) env ol R :=
  w_pick_t (by rw [hx, hq]) hv hr
theorem w_pick_0 {b c : Operand} {q : Bool} {v : AV} (hx : evE env x = .bool q) (hq : q = false) (hv : HV (evE env c) v) (hr : WOps P T all r ((d, v) :: env) ol R) : WOps P T all (⟨some d, .pick x b c, ty, pos, af, none⟩ :: r) env ol R :=
  w_pick_f (by rw [hx, hq]) hv hr
inductive EL : Env → Env → Prop where
  | refl (e) : EL e e
  | cons {d : Nat} {v v' : AV} {e e' : Env} (h : v' = .any ∨ v = v') (ht : EL e e') : EL ((d, v) :: e) ((d, v') :: e')
theorem EL.get {e e' : Env} (h : EL e e') (t : Nat) : Am.get e' t = .any ∨ Am.get e t = Am.get e' t := by
  induction h with
  | refl => exact .inr rfl
  | cons h _ ih =>
    rename_i d v v' e e' _
    simp only [Am.get]
    cases Nat.beq t d
    · exact ih
    · exact h
theorem snd_el {c : Code} {env' : Env} (h : EL env env') (hs : Snd P T N c env' ol Q) : Snd P T N c env ol Q :=
  fun X κ a w hP hTT hR hE hN hD => hs X κ a w hP hTT hR (fun t => by
    rcases h.get t with h | h
    · rw [h]; trivial
    · rw [← h]; exact hE t) hN hD
theorem srG (hT : TOk P T) {id : Nat} {ops : Array Oper} {c : Code} {env' : Env} {ol' : OL} (hd : dstOk N ops.toList = true)
    (h : ∀ R : Env → OL → Prop, (∀ e, EL e env' → R e ol') → WOps P T ops ops.toList env ol R) (hy : Snd P T N c env' ol' Q) : Snd P T N (.seq (.region id ops false) c) env ol Q :=
  snd_seq (snd_region hT hd (h _ (fun e he => snd_el he hy)))
theorem w_len_o {k i n e e2 : Nat} {aty : Array TypeId} (hx : evE env x = .own k i n e2) (ha : aty = #[t]) (ht : T.und t = .slc e) (hr : WOps P T all r ((d, .int .i64 n) :: env) ol R) : WOps P T all (⟨some d, .call { callee := .builtin .len, args := #[x], argTypes := aty }, ty, pos, af, none⟩ :: r) env ol R := by
  subst ha
  simp only [WOps, WOp, PW, putE]
  rw [hx]; simp only [LenW, ht]; exact hr
theorem w_len_r {n e : Nat} {g : Nat → AV} {aty : Array TypeId} (hx : evE env x = .ro n g) (ha : aty = #[t]) (ht : T.und t = .slc e) (hr : WOps P T all r ((d, .int .i64 n) :: env) ol R) : WOps P T all (⟨some d, .call { callee := .builtin .len, args := #[x], argTypes := aty }, ty, pos, af, none⟩ :: r) env ol R := by
  subst ha
  simp only [WOps, WOp, PW, putE]
  rw [hx]; simp only [LenW, ht]; exact hr
theorem w_len_n {e : Nat} {aty : Array TypeId} (hx : evE env x = .nilsl) (ha : aty = #[t]) (ht : T.und t = .slc e) (hr : WOps P T all r ((d, .int .i64 0) :: env) ol R) : WOps P T all (⟨some d, .call { callee := .builtin .len, args := #[x], argTypes := aty }, ty, pos, af, none⟩ :: r) env ol R := by
  subst ha
  simp only [WOps, WOp, PW, putE]
  rw [hx]; simp only [LenW, ht]; exact hr
theorem w_ldc {w v : AV} (hx : evE env x = .cptr w) (hk : (T.und t).known = true) (hv : HV w v) (hz : v.size = T.sz t) (ha : v.isAgg = (T.und t).isAgg) (hr : WOps P T all r ((d, v) :: env) ol R) : WOps P T all (⟨some d, .load t x, ty, pos, af, none⟩ :: r) env ol R := by
  have := hv.eq; subst this
  show LoadW T t (evE env x) ol _
  rw [hx]; exact ⟨hk, hz, ha, hr⟩
theorem w_ldp {k i o : Nat} {p : List Nat} {root sh c v : AV} (hx : evE env x = .ptr k i p o root) (hk : (T.und t).known = true) (ho : ol.at_ k i = some (sh, c)) (hv : HV (sub c p) v) (hz : v.size = T.sz t) (ha : v.isAgg = (T.und t).isAgg) (hr : WOps P T all r ((d, v) :: env) ol R) : WOps P T all (⟨some d, .load t x, ty, pos, af, none⟩ :: r) env ol R := by
  have := hv.eq; subst this
  show LoadW T t (evE env x) ol _
  rw [hx]; simp only [LoadW, ho]; exact ⟨hk, hz, ha, hr⟩
theorem w_alloc {z : AV} (hk : (T.und t).known = true) (hf : ol.has d = false) (hz : T.zero t = z) (hr : WOps P T all r ((d, .ptr d 0 [] 0 z) :: env) ((d, .one z z) :: ol) R) : WOps P T all (⟨some d, .alloc t, ty, pos, af, none⟩ :: r) env ol R := by
  subst hz; exact ⟨hk, hf, hr⟩
theorem w_boxc {v : AV} (hx : evE env x = v) (hc : v.cel) (hr : WOps P T all r ((d, .cptr v) :: env) ol R) : WOps P T all (⟨some d, .box t x, ty, pos, af, none⟩ :: r) env ol R := by
  subst hx; exact ⟨hc, .inl hr⟩
theorem w_store {k i o : Nat} {p : List Nat} {root sh c v : AV} {ol' : OL} (hx : evE env x = .ptr k i p o root) (hy : evE env y = v) (hk : (T.und t).known = true) (ho : ol.at_ k i = some (sh, c)) (hc : v.cel) (hs : ssh (sub root p) v) (hz : v.size = T.sz t)
    (hl : ol.set k i (some (sh, put c p v)) = ol') (hr : WOps P T all r env ol' R) : WOps P T all (⟨none, .store t x y, ty, pos, af, none⟩ :: r) env ol R := by
  subst hy; subst hl
  show StoreW T t (evE env x) (evE env y) ol _
  rw [hx]; simp only [StoreW, ho]; exact ⟨hk, hc, hs, hz, hr⟩
theorem w_call {f : Operand} {args : Array Operand} {aty : Array TypeId} {g n : Nat} {caps : Nat → AV} {ars : List AV} {v v' : AV} {H A : OL} (hf : callee (evE env) f = .fn g n caps) (ha : (args.toList.map (evE env) ++ capL n caps).map (exp ol.at_ 4) = ars) (hc : ACalls P T g ars v H)
    (hn : (v.noref ∧ norefH H) ∨ closedL (args.toList.map (evE env) ++ capL n caps)) (hfr : freshB (1000 * (d + 1)) H ol = true) (hv : HV (shift (1000 * (d + 1)) v) v') (hA : OL.shift (1000 * (d + 1)) H ++ ol = A)
    (hr : WOps P T all r ((d, v') :: env) A R) : WOps P T all (⟨some d, .call { callee := .value f, args := args, argTypes := aty }, ty, pos, af, none⟩ :: r) env ol R := by
  have := hv.eq; subst this; subst hA; subst ha
  simp only [WOps, WOp, putE, Option.getD_some]
  unfold CallW
  rw [hf]
  exact ⟨v, H, hc, hn, hfr, hr⟩
theorem w_call0 {f : Operand} {args : Array Operand} {aty : Array TypeId} {g n : Nat} {caps : Nat → AV} {ars : List AV} {v : AV} (hf : callee (evE env) f = .fn g n caps) (ha : (args.toList.map (evE env) ++ capL n caps).map (exp ol.at_ 4) = ars) (hc : ACalls P T g ars v [])
    (hn : v.noref) (hs : ∀ b, shift b v = v)
    (hr : WOps P T all r ((d, v) :: env) ol R) : WOps P T all (⟨some d, .call { callee := .value f, args := args, argTypes := aty }, ty, pos, af, none⟩ :: r) env ol R := by
  subst ha
  simp only [WOps, WOp, putE, Option.getD_some]
  unfold CallW
  rw [hf]
  refine ⟨v, [], hc, .inl ⟨hn, trivial⟩, rfl, ?_⟩
  rw [hs]
  exact hr
theorem w_app_o {k i n e m : Nat} {s z : Operand} {aty : Array TypeId} {f g : Nat → AV} {ol' : OL} (ht : T.und t = .slc e) (hx : evE env s = .own k i n e) (hat : aty = #[t, t]) (hk : (T.und e).known = true) (hf : ol.has d = false) (ho : ol.at_ k i = some (.arr n (fun _ => T.zero e), .arr n f))
    (hel : ∀ C : Nat → (Nat → AV) → Prop, C m g → ElemsW T e (evE env z) ol C) (hb : (n + m) * T.by_ e ≤ 140737488355328) (hb2 : n + m ≤ 140737488355328)
    (hl : (d, Fam.one (.arr (n + m) (fun _ => T.zero e)) (.arr (n + m) (appF n f m g))) :: ol.set k i none = ol')
    (hr : WOps P T all r ((d, .own d 0 (n + m) e) :: env) ol' R) : WOps P T all (⟨some d, .call { callee := .builtin .append, args := #[s, z], argTypes := aty }, ty, pos, af, none⟩ :: r) env ol R := by
  subst hl; subst hat
  refine ⟨rfl, ?_⟩
  show AppendW T t (evE env s) (evE env z) d ol _
  simp only [AppendW, ht]
  refine ⟨hk, hf, hel _ ?_⟩
  rw [hx]
  simp only [ho]
  exact ⟨trivial, trivial, trivial, hb, hb2, hr⟩
theorem w_bsl {len e : Nat} {ps : Array (Nat × Operand)} {c : Nat → AV} (ht : T.und t = .slc e) (hk : (T.und e).known = true) (hb : Nat.ble (len * T.sz e) 16777216 = true) (hf : ol.has d = false) (ho : fillOk (evE env) len (fun _ => T.sz e) ps.toList) (hs : fillSsh (T.zero e) (evE env) ps.toList)
    (hc : fillF (evE env) ps.toList (fun _ => T.zero e) = c) (hr : WOps P T all r ((d, .own d 0 len e) :: env) ((d, .one (.arr len (fun _ => T.zero e)) (.arr len c)) :: ol) R) : WOps P T all (⟨some d, .buildSlice t len ps, ty, pos, af, none⟩ :: r) env ol R := by
  subst hc
  simp only [WOps, WOp, putE, Option.getD_some]
  simp only [BuildSliceW, ht]; exact ⟨hk, hb, hf, ho, hs, hr⟩
theorem w_bsl1 {e : Nat} {v : AV} (ht : T.und t = .slc e) (hk : (T.und e).known = true) (hb : Nat.ble (1 * T.sz e) 16777216 = true) (hf : ol.has d = false) (hx : HV (evE env x) v) (hc : v.cel) (hz : v.size = T.sz e) (hs : ssh (T.zero e) v)
    (hr : WOps P T all r ((d, .own d 0 1 e) :: env) ((d, .one (.arr 1 (fun _ => T.zero e)) (.arr 1 (fun i => bif Nat.beq i 0 then v else T.zero e))) :: ol) R) : WOps P T all (⟨some d, .buildSlice t 1 #[(0, x)], ty, pos, af, none⟩ :: r) env ol R := by
  have := hx.eq; subst this
  exact w_bsl ht hk hb hf ⟨⟨by decide, hc, hz⟩, trivial⟩ ⟨hs, trivial⟩ rfl hr
theorem w_bld_a {n e : Nat} {f c : Nat → AV} {ps : Array (Nat × Operand)} (hk : (T.und t).known = true) (hz : T.zero t = .arr n f) (ht : T.und t = .arr n e) (he : (T.und e).known = true) (hfz : ∀ i, (f i).size = T.sz e) (ho : fillOk (evE env) n (fun _ => T.sz e) ps.toList) (hc : fillF (evE env) ps.toList f = c) (hc0 : (c 0).size = T.sz e)
    (hr : WOps P T all r ((d, .arr n c) :: env) ol R) : WOps P T all (⟨some d, .build t ps, ty, pos, af, none⟩ :: r) env ol R := by
  subst hc
  simp only [WOps, WOp, putE, Option.getD_some]
  simp only [BuildW, hz, ht]; exact ⟨by rw [← ht]; exact hk, trivial, he, hfz, ho, hc0, hr⟩
end
end Go.Am

set_option linter.unusedVariables false
set_option linter.unusedSimpArgs false
namespace Go.Am
abbrev vecA (f : Nat → Int) : AV := .arr 6 (fun i => .int .u8 (f i))
abbrev tabA (T : Nat → Nat → Nat → Int) : AV := .arr 6 (fun i => .arr 6 (fun j => .arr 6 (fun k => .int .u8 (T i j k))))
def algF (p n : Int) (T : Nat → Nat → Nat → Int) (fo : Nat → Int) : Nat → AV
  | 0 => .int .i64 p
  | 1 => .int .i64 n
  | 2 => tabA T
  | 3 => vecA fo
  | _ => .any
abbrev algA (p n : Int) (T : Nat → Nat → Nat → Int) (fo : Nat → Int) : AV := .sct 4 (algF p n T fo)
theorem w64 {n : Int} (h0 : -9223372036854775808 ≤ n) (h1 : n < 9223372036854775808) : IntKind.i64.wrap n = n := by rw [IntKind.wrap_i64]; omega
theorem w8 {n : Int} (h0 : 0 ≤ n) (h1 : n < 256) : IntKind.u8.wrap n = n := by rw [IntKind.wrap_u8]; omega
def B8 (f : Nat → Int) : Prop := ∀ i, 0 ≤ f i ∧ f i < 256
def B8T (T : Nat → Nat → Nat → Int) : Prop := ∀ i j k, 0 ≤ T i j k ∧ T i j k < 256
theorem w64b {f : Nat → Int} (h : B8 f) (i : Nat) : IntKind.i64.wrap (f i) = f i := w64 (by have := h i; omega) (by have := h i; omega)
theorem w64t {T : Nat → Nat → Nat → Int} (h : B8T T) (i j k : Nat) : IntKind.i64.wrap (T i j k) = T i j k := w64 (by have := h i j k; omega) (by have := h i j k; omega)
theorem w8b {f : Nat → Int} (h : B8 f) (i : Nat) : IntKind.u8.wrap (f i) = f i := w8 (h i).1 (h i).2
theorem exn {f : AV → AV} : ([] : List AV).map f = [] := rfl
theorem exc {f : AV → AV} {a b : AV} {l bs : List AV} (h : f a = b) (ht : l.map f = bs) : (a :: l).map f = b :: bs := by simp only [List.map_cons, h, ht]
variable {at_ : Nat → Nat → Option (AV × AV)} {d : Nat}
theorem exp_alg {p n : Int} {T : Nat → Nat → Nat → Int} {fo : Nat → Int} : exp at_ (d + 1) (algA p n T fo) = algA p n T fo := by
  simp only [exp, expS, AV.sct.injEq, true_and]
  funext i
  match i with
  | 0 => rfl
  | 1 => rfl
  | 2 => rfl
  | 3 => rfl
  | n + 4 => rfl
theorem exp_calg {p n : Int} {T : Nat → Nat → Nat → Int} {fo : Nat → Int} : exp at_ (d + 1) (.cptr (algA p n T fo)) = .cptr (algA p n T fo) := by
  have := @exp_alg at_ d p n T fo
  simp only [exp, expS] at this ⊢
  rw [this]
theorem Mt_closed {V : Vw} : ∀ {v : AV}, v.closed → (∀ n f, v ≠ .tup n f → True) → v ≠ .any → Mt V v v := by
  intro v
  induction v with
  | any => intro _ _ h; exact absurd rfl h
  | int => intro _ _ _; rfl
  | bool => intro _ _ _; rfl
  | strg => intro _ _ _; rfl
  | nilsl => intro _ _ _; rfl
  | own => intro h; exact h.elim
  | ptr => intro h; exact h.elim
  | arr n f ih => intro h _ _; exact ⟨rfl, fun i _ => by
      by_cases ha : f i = .any
      · rw [ha]; rfl
      · exact ih i (h i) (fun _ _ _ => trivial) ha⟩
  | sct n f ih => intro h _ _; exact ⟨rfl, fun i _ => by
      by_cases ha : f i = .any
      · rw [ha]; rfl
      · exact ih i (h i) (fun _ _ _ => trivial) ha⟩
  | tup n f ih => intro h _ _; exact ⟨rfl, fun i _ => by
      by_cases ha : f i = .any
      · rw [ha]; rfl
      · exact ih i (h i) (fun _ _ _ => trivial) ha⟩
  | ro n f ih => intro h _ _; exact ⟨rfl, fun i _ => by
      by_cases ha : f i = .any
      · rw [ha]; rfl
      · exact ih i (h i) (fun _ _ _ => trivial) ha⟩
  | fn g n f ih => intro h _ _; exact ⟨rfl, rfl, fun i _ => by
      by_cases ha : f i = .any
      · rw [ha]; rfl
      · exact ih i (h i) (fun _ _ _ => trivial) ha⟩
  | cptr v ih => intro h _ _; exact (by
      show Mt V v v
      by_cases ha : v = .any
      · rw [ha]; rfl
      · exact ih h (fun _ _ _ => trivial) ha)
theorem closed_vec {k : IntKind} {n : Nat} {f : Nat → Int} : (AV.arr n (fun i => .int k (f i))).closed := fun _ => trivial
variable {V : Vw}
theorem m_int {k : IntKind} {a b : Int} (h : b = a) : MtE V (.int k a) (.int k b) := by subst h; rfl
theorem m_bool {a b : Bool} (h : b = a) : MtE V (.bool a) (.bool b) := by subst h; rfl
theorem m_vec {k : IntKind} {n : Nat} {f g : Nat → Int} (h : ∀ i, i < n → g i = f i) : MtE V (.arr n (fun i => .int k (f i))) (.arr n (fun i => .int k (g i))) :=
  ⟨rfl, fun i hi => congrArg (AV.int k) (h i hi)⟩
theorem mt_vec {k : IntKind} {n : Nat} {f g : Nat → Int} (h : ∀ i, i < n → g i = f i) : Mt V (.arr n (fun i => .int k (f i))) (.arr n (fun i => .int k (g i))) :=
  ⟨rfl, fun i hi => congrArg (AV.int k) (h i hi)⟩
theorem m_cvec {k : IntKind} {n : Nat} {f g : Nat → Int} (h : ∀ i, i < n → g i = f i) : MtE V (.cptr (.arr n (fun i => .int k (f i)))) (.cptr (.arr n (fun i => .int k (g i)))) := mt_vec (V := V) h
def ρ0 : Nat → Nat → Nat × Nat := fun k i => (k, i)
theorem rt {T : TT} {t : Nat} {env : Env} {ol : OL} {v : AV} (hv : ∀ V, MtE V v (get env t)) : retQ T [.tmp t] v [] .ret env ol :=
  ⟨ρ0, ⟨hv _, trivial⟩, trivial, trivial⟩
theorem rt_c {T : TT} {t : Nat} {ty : TypeId} {env : Env} {ol : OL} {v c sh root : AV} {k i o : Nat} {p : List Nat} (hx : get env t = .ptr k i p o root) (hk : (T.und ty).known = true) (ho : ol.at_ k i = some (sh, c)) (hz : (sub c p).size = T.sz ty) (ha : (sub c p).isAgg = (T.und ty).isAgg)
    (hv : ∀ V, MtE V v (sub c p)) : retQ T [.cell t ty] v [] .ret env ol := by
  show LoadW T ty (get env t) ol _
  rw [hx]
  simp only [LoadW, ho]
  exact ⟨hk, hz, ha, ρ0, ⟨hv _, trivial⟩, trivial, trivial⟩
def pairA (a b : AV) : Nat → AV
  | 0 => a
  | 1 => b
  | _ => .any
theorem rt_tt {T : TT} {t s : Nat} {env : Env} {ol : OL} {v u : AV} (hv : ∀ V, Mt V v (get env t)) (hu : ∀ V, Mt V u (get env s)) : retQ T [.tmp t, .tmp s] (.tup 2 (pairA v u)) [] .ret env ol := by
  refine ⟨ρ0, ⟨⟨rfl, fun i hi => ?_⟩, trivial⟩, trivial, trivial⟩
  match i, hi with
  | 0, _ => exact hv _
  | 1, _ => exact hu _
theorem nr_pair {a b : AV} (ha : a.noref) (hb : b.noref) : (AV.tup 2 (pairA a b)).noref := by
  intro i
  match i with
  | 0 => exact ha
  | 1 => exact hb
  | n + 2 => exact trivial
theorem shift_pair {a b : AV} {k : Nat} (ha : shift k a = a) (hb : shift k b = b) : shift k (.tup 2 (pairA a b)) = .tup 2 (pairA a b) := by
  simp only [shift, AV.tup.injEq, true_and]
  funext i
  match i with
  | 0 => exact ha
  | 1 => exact hb
  | n + 2 => rfl
theorem ssh_vec {k k' : IntKind} {n : Nat} {f g : Nat → Int} : ssh (.arr n (fun i => .int k (f i))) (.arr n (fun i => .int k' (g i))) := ⟨rfl, fun _ => trivial⟩
theorem ssh_tab {T T' : Nat → Nat → Nat → Int} : ssh (tabA T) (tabA T') := ⟨rfl, fun _ => ⟨rfl, fun _ => ⟨rfl, fun _ => trivial⟩⟩⟩
theorem ssh_alg {p n p' n' : Int} {T T' : Nat → Nat → Nat → Int} {fo fo' : Nat → Int} : ssh (algA p n T fo) (algA p' n' T' fo') := by
  refine ⟨rfl, fun i => ?_⟩
  match i with
  | 0 => exact trivial
  | 1 => exact trivial
  | 2 => exact ssh_tab
  | 3 => exact ssh_vec
  | n + 4 => exact trivial
def upd {α : Type} (f : Nat → α) (j : Nat) (x : α) : Nat → α := fun i => if i = j then x else f i
theorem put_vec {k : IntKind} {n j : Nat} {f : Nat → Int} {x : Int} : put (.arr n (fun i => .int k (f i))) [j] (.int k x) = .arr n (fun i => .int k (upd f j x i)) := by
  simp only [put, AV.arr.injEq, true_and]
  funext i
  by_cases h : i = j
  · subst h; simp [upd, put]
  · simp [upd, beq_ff h, h]
abbrev matA (M : Nat → Nat → Int) : AV := .arr 6 (fun i => .arr 6 (fun j => .int .u8 (M i j)))
theorem put_nil {c v : AV} : put c [] v = v := by cases c <;> rfl
theorem put_mat {j : Nat} {M : Nat → Nat → Int} {r : Nat → Int} : put (matA M) [j] (vecA r) = matA (upd M j r) := by
  simp only [put, AV.arr.injEq, true_and]
  funext i
  by_cases h : i = j
  · subst h; simp [upd, put]
  · simp [upd, beq_ff h, h]
theorem put_tab {j : Nat} {T : Nat → Nat → Nat → Int} {M : Nat → Nat → Int} : put (tabA T) [j] (matA M) = tabA (upd T j M) := by
  simp only [put, AV.arr.injEq, true_and]
  funext i
  by_cases h : i = j
  · subst h; simp [upd, put]
  · simp [upd, beq_ff h, h]
theorem ssh_mat {M M' : Nat → Nat → Int} : ssh (matA M) (matA M') := ⟨rfl, fun _ => ⟨rfl, fun _ => trivial⟩⟩
theorem mt_mat {V : Vw} {M M' : Nat → Nat → Int} (h : ∀ i j, i < 6 → j < 6 → M' i j = M i j) : Mt V (matA M) (matA M') :=
  ⟨rfl, fun i hi => ⟨rfl, fun j hj => congrArg (AV.int .u8) (h i j hi hj)⟩⟩
theorem algF_congr {p n : Int} {T : Nat → Nat → Nat → Int} {fo : Nat → Int} {f : Nat → AV} (h0 : f 0 = .int .i64 p) (h1 : f 1 = .int .i64 n) (h2 : f 2 = tabA T) (h3 : f 3 = vecA fo) (h4 : ∀ i, f (i + 4) = .any) : AV.sct 4 f = algA p n T fo := by
  refine congrArg (AV.sct 4) (funext fun i => ?_)
  match i with
  | 0 => exact h0
  | 1 => exact h1
  | 2 => exact h2
  | 3 => exact h3
  | i + 4 => exact h4 i
theorem put_alg0 {p n z : Int} {T : Nat → Nat → Nat → Int} {fo : Nat → Int} : put (algA p n T fo) [0] (.int .i64 z) = algA z n T fo := algF_congr rfl rfl rfl rfl (fun _ => rfl)
theorem put_alg1 {p n z : Int} {T : Nat → Nat → Nat → Int} {fo : Nat → Int} : put (algA p n T fo) [1] (.int .i64 z) = algA p z T fo := algF_congr rfl rfl rfl rfl (fun _ => rfl)
theorem put_alg2 {p n : Int} {T T' : Nat → Nat → Nat → Int} {fo : Nat → Int} : put (algA p n T fo) [2] (tabA T') = algA p n T' fo := algF_congr rfl rfl rfl rfl (fun _ => rfl)
theorem put_alg3 {p n : Int} {T : Nat → Nat → Nat → Int} {fo fo' : Nat → Int} : put (algA p n T fo) [3] (vecA fo') = algA p n T fo' := algF_congr rfl rfl rfl rfl (fun _ => rfl)
theorem put_alg3i {p n z : Int} {T : Nat → Nat → Nat → Int} {fo : Nat → Int} {i : Nat} : put (algA p n T fo) [3, i] (.int .u8 z) = algA p n T (upd fo i z) := algF_congr rfl rfl rfl (put_vec (n := 6)) (fun _ => rfl)
theorem put_tab2 {i j : Nat} {T : Nat → Nat → Nat → Int} {r : Nat → Int} : put (tabA T) [i, j] (vecA r) = tabA (upd T i (upd (T i) j r)) := by
  rw [← put_tab, ← put_mat]; rfl
theorem put_mat2 {i j : Nat} {M : Nat → Nat → Int} {z : Int} : put (matA M) [i, j] (.int .u8 z) = matA (upd M i (upd (M i) j z)) := by
  rw [← put_mat, show vecA (upd (M i) j z) = put (vecA (M i)) [j] (.int .u8 z) from put_vec.symm]; rfl
theorem put_tab3 {i j k : Nat} {T : Nat → Nat → Nat → Int} {z : Int} : put (tabA T) [i, j, k] (.int .u8 z) = tabA (upd T i (upd (T i) j (upd (T i j) k z))) := by
  rw [← put_tab, show matA (upd (T i) j (upd (T i j) k z)) = put (matA (T i)) [j, k] (.int .u8 z) from put_mat2.symm]; rfl
theorem put_alg2ij {p n : Int} {T : Nat → Nat → Nat → Int} {fo r : Nat → Int} {i j : Nat} : put (algA p n T fo) [2, i, j] (vecA r) = algA p n (upd T i (upd (T i) j r)) fo := algF_congr rfl rfl put_tab2 rfl (fun _ => rfl)
theorem put_alg2ijk {p n z : Int} {T : Nat → Nat → Nat → Int} {fo : Nat → Int} {i j k : Nat} : put (algA p n T fo) [2, i, j, k] (.int .u8 z) = algA p n (upd T i (upd (T i) j (upd (T i j) k z))) fo := algF_congr rfl rfl put_tab3 rfl (fun _ => rfl)
section
variable {P : Program} {T : TT} {N : Nat} {env : Env} {ol : OL}
variable {all : Array Oper} {r : List Oper} {R : Env → OL → Prop} {ty : TypeId} {pos : String} {af : Array Edge} {x y : Operand} {u t : TypeId}
theorem w_sti {k i o j n : Nat} {K : IntKind} {sh root : AV} {f : Nat → Int} {z : Int} (hx : evE env x = .ptr k i [j] o root) (hy : evE env y = .int K z) (hk : (T.und t).known = true) (ho : ol.at_ k i = some (sh, .arr n (fun i => .int K (f i)))) (hs : ssh (sub root [j]) (.int K z)) (hz : 1 = T.sz t)
    (hr : WOps P T all r env (ol.set k i (some (sh, .arr n (fun i => .int K (upd f j z i))))) R) : WOps P T all (⟨none, .store t x y, ty, pos, af, none⟩ :: r) env ol R :=
  w_store hx hy hk ho trivial hs hz (by rw [put_vec]) hr
theorem w_stw {k i o : Nat} {sh root c v : AV} (hx : evE env x = .ptr k i [] o root) (hy : HV (evE env y) v) (hk : (T.und t).known = true) (ho : ol.at_ k i = some (sh, c)) (hc : v.cel) (hs : ssh root v) (hz : v.size = T.sz t)
    (hr : WOps P T all r env (ol.set k i (some (sh, v))) R) : WOps P T all (⟨none, .store t x y, ty, pos, af, none⟩ :: r) env ol R :=
  w_store hx hy.eq hk ho hc (by rw [show sub root [] = root by cases root <;> rfl]; exact hs) hz (by rw [show put c [] v = v by cases c <;> rfl]) hr
end
end Go.Am

set_option linter.unusedVariables false
set_option linter.unusedSimpArgs false
namespace Go.Am
def eF (i : Nat) : Nat → Int := upd (fun _ => 0) i 1
def smG (p n : Int) (v : Nat → Int) (i : Nat) : Prop := v i < p ∧ (n ≤ (i : Int) → v i = 0)
def smP (p n : Int) (v : Nat → Int) : Prop := ∀ i, i < 6 → smG p n v i
noncomputable instance (p n : Int) (v : Nat → Int) : Decidable (smP p n v) := Classical.propDecidable _
theorem all_step {P : Nat → Prop} {i : Nat} (h : ∀ j, j < i → P j) (hi : P i) : ∀ j, j < i + 1 → P j := fun j hj => by
  by_cases e : j = i
  · exact e ▸ hi
  · exact h j (by omega)
def sumZ (f : Nat → Int) : Nat → Int
  | 0 => 0
  | n + 1 => sumZ f n + f n
def tm (T : Nat → Nat → Nat → Int) (u v : Nat → Int) (k i j : Nat) : Int := u i * v j * T i j k
def rowS (T : Nat → Nat → Nat → Int) (u v : Nat → Int) (n k i : Nat) : Int := sumZ (tm T u v k i) n
def timesF (p : Int) (n : Nat) (T : Nat → Nat → Nat → Int) (u v : Nat → Int) (k : Nat) : Int := if k < n then sumZ (rowS T u v n k) n % p else 0
section
variable {u v : Nat → Int} {T : Nat → Nat → Nat → Int}
end
def cutF (F : Nat → Int) (k : Nat) : Nat → Int := fun j => if j < k then F j else 0
def cutG {α : Type} (z : α) (F : Nat → α) (k : Nat) : Nat → α := fun j => if j < k then F j else z
theorem upd_cutG {α : Type} (z : α) (F : Nat → α) (k j : Nat) : upd (cutG z F k) k (F k) j = cutG z F (k + 1) j := by
  unfold upd cutG
  by_cases h : j = k
  · subst h; simp
  · by_cases h2 : j < k
    · simp [h, h2, show j < k + 1 by omega]
    · simp [h, h2, show ¬ j < k + 1 by omega]
def mixF (F G : Nat → Int) (k : Nat) : Nat → Int := fun j => if j < k then F j else G j
section
variable {u v : Nat → Int} {T : Nat → Nat → Nat → Int}
end
end Go.Am

set_option linter.unusedVariables false
set_option linter.unusedSimpArgs false
namespace Go.Am
theorem put_in {ol : OL} {k i : Nat} {sh c v c' : AV} {p : List Nat} (h : put c p v = c') : ol.set k i (some (sh, put c p v)) = ol.set k i (some (sh, c')) := by rw [h]
theorem expS_closed (dr : AV → AV) : ∀ {v : AV}, v.closed → expS dr v = v := by
  intro v
  induction v with
  | arr n f ih => intro h; simp only [expS]; congr 1; funext i; exact ih i (h i)
  | sct n f ih => intro h; simp only [expS]; congr 1; funext i; exact ih i (h i)
  | tup n f ih => intro h; simp only [expS]; congr 1; funext i; exact ih i (h i)
  | ro n f ih => intro h; simp only [expS]; congr 1; funext i; exact ih i (h i)
  | fn g n f ih => intro h; simp only [expS]; congr 1; funext i; exact ih i (h i)
  | cptr v ih => intro h; simp only [expS]; rw [ih h]
  | own => intro h; exact h.elim
  | ptr => intro h; exact h.elim
  | _ => intro _; rfl
theorem exp_closed {at_ : Nat → Nat → Option (AV × AV)} {d : Nat} {v : AV} (h : v.closed) : exp at_ d v = v := by
  cases d <;> exact expS_closed _ h
def idxF (P : Nat → Bool) (m : Nat) : Int := match (List.range m).find? P with | some i => (i : Int) | none => -1
theorem idx_at {P : Nat → Bool} {m i : Nat} (hi : i < m) (hP : P i = true) (h : ∀ j, j < i → P j = false) : idxF P m = i := by
  unfold idxF
  have : (List.range m).find? P = some i := by
    rw [List.find?_range_eq_some]
    exact ⟨hP, by simp [hi], fun j hj => by simp [h j hj]⟩
  rw [this]
theorem idx_none {P : Nat → Bool} {m : Nat} (h : ∀ j, j < m → P j = false) : idxF P m = -1 := by
  unfold idxF
  have : (List.range m).find? P = none := by
    rw [List.find?_eq_none]
    intro x hx
    simp [h x (by simpa using hx)]
  rw [this]
theorem idx_cases (P : Nat → Bool) (m : Nat) : (∃ i, i < m ∧ P i = true ∧ (∀ j, j < i → P j = false) ∧ idxF P m = i) ∨ ((∀ j, j < m → P j = false) ∧ idxF P m = -1) := by
  by_cases h : ∃ i, i < m ∧ P i = true
  · obtain ⟨i, hi, hP⟩ := h
    have : ∃ i, (i < m ∧ P i = true) ∧ ∀ j, j < i → P j = false := by
      induction i using Nat.strongRecOn with
      | _ i ih =>
        by_cases hq : ∃ j, j < i ∧ P j = true
        · obtain ⟨j, hj, hPj⟩ := hq
          exact ih j hj (by omega) hPj
        · exact ⟨i, ⟨hi, hP⟩, fun j hj => by
            cases hb : P j
            · rfl
            · exact absurd ⟨j, hj, hb⟩ hq⟩
    obtain ⟨i, ⟨hi, hP⟩, hl⟩ := this
    exact .inl ⟨i, hi, hP, hl, idx_at hi hP hl⟩
  · have hn : ∀ j, j < m → P j = false := fun j hj => by
      cases hb : P j
      · rfl
      · exact absurd ⟨j, hj, hb⟩ h
    exact .inr ⟨hn, idx_none hn⟩
theorem idx_ge {P : Nat → Bool} {m : Nat} : 0 ≤ idxF P m ↔ ∃ i, i < m ∧ P i = true := by
  rcases idx_cases P m with ⟨i, hi, hP, _, he⟩ | ⟨hn, he⟩
  · rw [he]; exact ⟨fun _ => ⟨i, hi, hP⟩, fun _ => Int.natCast_nonneg i⟩
  · rw [he]
    constructor
    · intro h; omega
    · rintro ⟨i, hi, hP⟩; rw [hn i hi] at hP; cases hP
theorem nr_alg {p n : Int} {T : Nat → Nat → Nat → Int} {fo : Nat → Int} : (algA p n T fo).noref := by
  intro i
  match i with
  | 0 => exact trivial
  | 1 => exact trivial
  | 2 => exact fun _ _ _ => trivial
  | 3 => exact fun _ => trivial
  | n + 4 => exact trivial
theorem shift_alg {b : Nat} {p n : Int} {T : Nat → Nat → Nat → Int} {fo : Nat → Int} : shift b (algA p n T fo) = algA p n T fo := algF_congr rfl rfl rfl rfl (fun _ => rfl)
def primesF : Nat → Int
  | 0 => 2
  | 1 => 3
  | 2 => 5
  | 3 => 7
  | 4 => 11
  | 5 => 13
  | _ => 0
def primeB (p : Int) : Bool := decide (p = 2) || decide (p = 3) || decide (p = 5) || decide (p = 7) || decide (p = 11) || decide (p = 13)
theorem prime_idx (p : Int) : decide (0 ≤ idxF (fun i => decide (p = primesF i)) 6) = primeB p := by
  rw [Bool.eq_iff_iff, decide_eq_true_eq, idx_ge]
  simp only [primeB, Bool.or_eq_true, decide_eq_true_eq]
  constructor
  · rintro ⟨i, hi, h⟩
    match i, hi with
    | 0, _ => simp [primesF] at h; simp [h]
    | 1, _ => simp [primesF] at h; simp [h]
    | 2, _ => simp [primesF] at h; simp [h]
    | 3, _ => simp [primesF] at h; simp [h]
    | 4, _ => simp [primesF] at h; simp [h]
    | 5, _ => simp [primesF] at h; simp [h]
  · rintro (((((h | h) | h) | h) | h) | h)
    · exact ⟨0, by omega, h⟩
    · exact ⟨1, by omega, h⟩
    · exact ⟨2, by omega, h⟩
    · exact ⟨3, by omega, h⟩
    · exact ⟨4, by omega, h⟩
    · exact ⟨5, by omega, h⟩
theorem primeB_bd {p : Int} (h : primeB p = true) : 2 ≤ p ∧ p ≤ 13 := by
  simp only [primeB, Bool.or_eq_true, decide_eq_true_eq] at h
  omega
def tabG (p n : Int) (T : Nat → Nat → Nat → Int) (i j : Nat) : Prop := smP p n (T i j) ∧ (n ≤ (i : Int) ∨ n ≤ (j : Int) → ∀ k, k < 6 → T i j k = 0)
def tabP (p n : Int) (T : Nat → Nat → Nat → Int) (fo : Nat → Int) : Prop := (∀ i, i < 6 → ∀ j, j < 6 → tabG p n T i j) ∧ smP p n fo
noncomputable instance (p n : Int) (T : Nat → Nat → Nat → Int) (fo : Nat → Int) : Decidable (tabP p n T fo) := Classical.propDecidable _
noncomputable def sizeAt (n : Int) (i j : Nat) : Int := if n ≤ (i : Int) ∨ n ≤ (j : Int) then 0 else n
def shapeP (p n : Int) (T : Nat → Nat → Nat → Int) (fo : Nat → Int) : Prop := (primeB p = true ∧ (1 ≤ n ∧ n ≤ 6) ∧ smP p n fo) ∧ ∀ i, i < 6 → ∀ j, j < 6 → smP p (sizeAt n i j) (T i j)
noncomputable instance (p n : Int) (T : Nat → Nat → Nat → Int) (fo : Nat → Int) : Decidable (shapeP p n T fo) := Classical.propDecidable _
theorem shape_iff {p n : Int} {T : Nat → Nat → Nat → Int} {fo : Nat → Int} : shapeP p n T fo ↔ primeB p = true ∧ (1 ≤ n ∧ n ≤ 6) ∧ tabP p n T fo := by
  constructor
  · rintro ⟨⟨h1, h2, h3⟩, h4⟩
    have hp := primeB_bd h1
    refine ⟨h1, h2, fun i hi j hj => ?_, h3⟩
    have := h4 i hi j hj
    unfold sizeAt at this
    split at this
    · rename_i h
      have hz : ∀ k, k < 6 → T i j k = 0 := fun k hk => (this k hk).2 (by omega)
      exact ⟨fun k hk => ⟨by rw [hz k hk]; omega, fun _ => hz k hk⟩, fun _ => hz⟩
    · rename_i h
      exact ⟨this, fun h' => absurd h' h⟩
  · rintro ⟨h1, h2, h3, h4⟩
    have hp := primeB_bd h1
    refine ⟨⟨h1, h2, h4⟩, fun i hi j hj => ?_⟩
    unfold sizeAt
    split
    · rename_i h
      have hz := (h3 i hi j hj).2 h
      exact fun k hk => ⟨by rw [hz k hk]; omega, fun _ => hz k hk⟩
    · exact (h3 i hi j hj).1
def assocG (p : Int) (n : Nat) (T : Nat → Nat → Nat → Int) (i j k : Nat) : Prop := eqN 6 (timesF p n T (T i j) (eF k)) (timesF p n T (eF i) (T j k))
def assocP (p : Int) (n : Nat) (T : Nat → Nat → Nat → Int) : Prop := ∀ i, i < n → ∀ j, j < n → ∀ k, k < n → assocG p n T i j k
noncomputable instance (p : Int) (n : Nat) (T : Nat → Nat → Nat → Int) : Decidable (assocP p n T) := Classical.propDecidable _
def cap1 (a : AV) : Nat → AV
  | 0 => a
  | _ => .any
def cap2 (a b : AV) : Nat → AV
  | 0 => a
  | 1 => b
  | _ => .any
theorem exp_capL {at_ : Nat → Nat → Option (AV × AV)} {d n : Nat} {c : Nat → AV} (h : ∀ i, (c i).closed) : (capL n c).map (exp at_ d) = capL n c := by
  unfold capL
  rw [List.map_map]
  exact List.map_congr_left fun i _ => exp_closed (h i)
section
variable {P : Program} {T : TT} {N : Nat} {env : Env} {ol : OL}
variable {all : Array Oper} {r : List Oper} {R : Env → OL → Prop} {ty : TypeId} {pos : String} {af : Array Edge} {x y : Operand} {d : Nat}
theorem w_mkf1 {g : FuncId} {v : AV} (hx : HV (evE env x) v) (hr : WOps P T all r ((d, .fn g 1 (cap1 v)) :: env) ol R) : WOps P T all (⟨some d, .makeFunc (.func g) #[] #[x], ty, pos, af, none⟩ :: r) env ol R := by
  have := hx.eq; subst this
  refine w_mkf rfl (funext fun i => ?_) hr
  match i with
  | 0 => rfl
  | i + 1 => rfl
end
end Go.Am

set_option linter.unusedVariables false
set_option linter.unusedSimpArgs false
namespace Go.Am
abbrev Z64 (m : Nat) : AV := .arr m (fun _ => .int .i64 0)
abbrev C64 (m : Nat) (f : Nat → Int) : AV := .arr m (fun i => .int .i64 (f i))
abbrev rowA (m : Nat) (f : Nat → Int) : AV := .ro m (fun i => .int .i64 (f i))
abbrev HR (m : Nat) (f : Nat → Int) : OL := [(0, .one (Z64 m) (C64 m f))]
abbrev ZR (n : Nat) : AV := .arr n (fun _ => .nilsl)
variable {V : Vw}
theorem mt_row {m : Nat} {f g : Nat → Int} (h : ∀ i, i < m → g i = f i) : Mt V (rowA m f) (rowA m g) := ⟨rfl, fun i hi => congrArg (AV.int .i64) (h i hi)⟩
theorem mt_app {n : Nat} {F f g : Nat → AV} (h1 : ∀ j, j < n → Mt V (F j) (f j)) (h2 : Mt V (F n) (g 0)) : Mt V (.arr (n + 1) F) (.arr (n + 1) (appF n f 1 g)) := by
  refine ⟨rfl, fun i hi => ?_⟩
  by_cases h : i = n
  · subst h
    rw [appF_ge (Nat.le_refl _) hi, Nat.sub_self]; exact h2
  · rw [appF_lt (by omega)]; exact h1 i (by omega)
theorem mt_arr0 {F G : Nat → AV} : Mt V (.arr 0 F) (.arr 0 G) := ⟨rfl, fun i hi => absurd hi (Nat.not_lt_zero _)⟩
section
variable {T : TT} {env : Env} {ol : OL}
theorem rt_own {t key n m e : Nat} {F G : Nat → AV} {sh : Nat → AV} (hx : get env t = .own key 0 n e) (ho : ol.at_ key 0 = some (.arr n sh, .arr n G)) (hn : n = m) (hs : ∀ i, ssh (sh i) (F i)) (hf : ∀ V : Vw, ∀ i, i < m → Mt V (F i) (G i)) :
    retQ T [.tmp t] (.own 0 0 m e) [(0, .one (.arr m sh) (.arr m F))] .ret env ol := by
  subst hn
  refine ⟨fun _ _ => (key, 0), ⟨?_, trivial⟩, ⟨?_, trivial⟩, ⟨⟨fun _ => ⟨rfl, rfl⟩, trivial⟩, trivial⟩⟩
  · show Mt _ (.own 0 0 n e) (get env t)
    rw [hx]
    exact ⟨rfl, rfl, rfl, rfl⟩
  · show (match ol.at_ key 0 with | some (sh', c') => _ | none => False)
    rw [ho]
    exact ⟨rfl, ⟨rfl, hs⟩, rfl, hf _⟩
theorem mt_fz {V : Vw} {k i n e : Nat} {sh : AV} {F G : Nat → AV} (hz : V.fz k i) (ha : V.at' k i = some (sh, .arr n G)) (hf : ∀ j, j < n → Mt V (F j) (G j)) : Mt V (.ro n F) (.own k i n e) := by
  simp only [Mt, ha]
  exact ⟨trivial, hz, trivial, hf⟩
end
def lessF (p : Int) (f g : Nat → Int) (k : Int) (i : Nat) : Int := (f i - k * g i) % p
def scaledF (p : Int) (f : Nat → Int) (k : Int) (i : Nat) : Int := f i * k % p
def powF (x p : Int) : Nat → Int
  | 0 => 1
  | k + 1 => powF x p k * x % p
def invF (p x : Int) : Int := powF x p (p - 2).toNat
end Go.Am

set_option linter.unusedVariables false
set_option linter.unusedSimpArgs false
namespace Go.Am
section
variable {P : Program} {T : TT}
theorem WOps_run (hT : TOk P T) (arr : Array Oper) {N : Nat} {X : Cx} (hP : X.P = P) (hTT : X.T = T) {Q : Exit → Act → World → Prop} {rest : List Oper} {K : Env → OL → Prop}
    (hK : ∀ env ol κ (a : Act) w, K env ol → Rel X κ ol.ob w → EnvR (KK X κ ol.ob w) env a.tmps → a.tmps.size = N → a.defers = [] → wpList P arr Q rest a w) :
    ∀ (ops : List Oper) (env : Env) (ol : OL), WOps P T arr ops env ol K → dstOk N ops = true →
    ∀ (κ : Gh) (a : Act) (w : World), Rel X κ ol.ob w → EnvR (KK X κ ol.ob w) env a.tmps → a.tmps.size = N → a.defers = [] → wpList P arr Q (ops ++ rest) a w
  | [], env, ol, h, _, κ, a, w, hR, hE, hN, hD => hK env ol κ a w h hR hE hN hD
  | o :: r, env, ol, h, hdst, κ, a, w, hR, hE, hN, hD => by
    simp only [dstOk, List.all_cons, Bool.and_eq_true] at hdst
    have hlt : ∀ t, o.dst = some t → t < a.tmps.size := fun t ht => by
      have := hdst.1
      rw [ht] at this
      rw [hN]; simpa [Nat.blt_eq] using this
    have run : WOp P T o (evE env) ol (fun v ol' => WOps P T arr r (putE o.dst v env) ol' K) → o.wp P a w (wpList P arr Q (r ++ rest)) Q := by
      intro hw
      obtain ⟨v, ol', h1, h2⟩ := WOp_out hT hw
      have := h2 X κ w a hP hTT hR hE
      unfold Oper.wp
      rw [← hP]
      rw [← hP] at this
      refine upon_of_Out this (fun c w' κ' hR' hv hle => ?_)
      rw [hP]
      exact WOps_run hT arr hP hTT hK r _ ol' h1 hdst.2 κ' _ w' hR' ((hE.mono hle).put hv hlt) (by rw [Act.put_size]; exact hN) (by rw [Act.put_defers]; exact hD)
    have skip : WOps P T arr r (putE o.dst undA env) ol K → wpList P arr Q (r ++ rest) (a.put o.dst undef) w := fun hw =>
      WOps_run hT arr hP hTT hK r _ ol hw hdst.2 κ _ w hR (hE.put (undA_ok _) hlt) (by rw [Act.put_size]; exact hN) (by rw [Act.put_defers]; exact hD)
    unfold WOps at h
    rw [List.cons_append]
    unfold wpList
    split at h
    · rename_i hg
      rw [if_pos (by simp [Region.wanted, hg])]
      exact .inl (run h)
    · rename_i j want hg
      split at h
      · rename_i d hd
        split at h
        · rename_i b hb
          have hy := yielded_of hd hE hb (dst_lt_of_eq hE hb)
          split at h
          · rename_i hbw
            have : b = want := by simpa using hbw
            subst this
            rw [if_pos (by simp [Region.wanted, hg, hy])]
            exact .inl (run h)
          · rename_i hbw
            have : b ≠ want := by simpa using hbw
            rw [if_neg (by simp [Region.wanted, hg, hy, this])]
            exact skip h
        · rename_i f hb
          have hy := yielded_none hd hE hb
          rw [if_neg (by simp [Region.wanted, hg, hy])]
          exact skip h
        · exact h.elim
      · exact h.elim
def MidJ (P : Program) (T : TT) (o : Oper) (env : Env) (ol : OL) (v : AV) (ol' : OL) : Prop :=
  ∀ (X : Cx) (κ : Gh) (w : World) (a : Act), X.P = P → X.T = T → Rel X κ ol.ob w → EnvR (KK X κ ol.ob w) env a.tmps → Out X κ ol.ob w ol'.ob v ((execOp a.eval o).run P w)
theorem srD (hT : TOk P T) {N id : Nat} {ops : Array Oper} {ops1 ops2 : List Oper} {o : Oper} {y : Code} {env env1 env' : Env} {ol ol1 ol2 ol' : OL} {v : AV} {Q : Exit → Env → OL → Prop} (hd : dstOk N ops.toList = true)
    (hops : ops.toList = ops1 ++ o :: ops2) (hg : o.guard = none)
    (h1 : ∀ R : Env → OL → Prop, R env1 ol1 → WOps P T ops ops1 env ol R) (hm : MidJ P T o env1 ol1 v ol2)
    (h2 : ∀ R : Env → OL → Prop, R env' ol' → WOps P T ops ops2 (putE o.dst v env1) ol2 R)
    (hy : Snd P T N y env' ol' Q) : Snd P T N (.seq (.region id ops false) y) env ol Q := by
  refine snd_seq ?_
  intro X κ a w hP hTT hR hE hN hD
  refine wp_region_list ?_
  rw [hops] at hd ⊢
  simp only [dstOk, List.all_append, List.all_cons, Bool.and_eq_true] at hd
  have hlt : ∀ (a : Act), a.tmps.size = N → ∀ t, o.dst = some t → t < a.tmps.size := fun a hN t ht => by
    have := hd.2.1
    rw [ht] at this
    rw [hN]; simpa [Nat.blt_eq] using this
  refine WOps_run hT ops hP hTT (K := fun e l => e = env1 ∧ l = ol1) ?_ ops1 env ol (h1 _ ⟨rfl, rfl⟩) hd.1 κ a w hR hE hN hD
  rintro e l κ1 a1 w1 ⟨rfl, rfl⟩ hR1 hE1 hN1 hD1
  unfold wpList
  rw [if_pos (by simp [Region.wanted, hg])]
  refine .inl ?_
  unfold Oper.wp
  have := hm X κ1 w1 a1 hP hTT hR1 hE1
  rw [← hP]
  rw [← hP] at this
  refine upon_of_Out this (fun c w' κ' hR' hv hle => ?_)
  rw [hP]
  have := WOps_run hT ops hP hTT (rest := []) (Q := QQ X N (thn P T N y Q)) (K := thn P T N y Q .normal) (N := N) (fun e l κ' a' w' h hR hE hN hD => ⟨κ', e, l, h, hR, hE, hN, hD⟩)
    ops2 _ _ (h2 _ hy) hd.2.2 κ' (a1.put o.dst c) w' hR' ((hE1.mono hle).put hv (hlt a1 hN1)) (by rw [Act.put_size]; exact hN1) (by rw [Act.put_defers]; exact hD1)
  rwa [List.append_nil] at this
theorem flat_one {g : Nat → List Value} {c : Nat → Value} (n : Nat) (h : ∀ i, i < n → g i = [c i]) : ∀ j, (flat g n)[j]? = if j < n then some (c j) else none := by
  induction n with
  | zero => intro j; simp [flat]
  | succ n ih =>
    intro j
    have hlen : (flat g n).length = n := by
      rw [flat_len, sumTo_congr (g := fun _ => 1) (fun i hi => by rw [h i (by omega)]; rfl), sumTo_const]; omega
    simp only [flat]
    rw [List.getElem?_append, hlen, ih (fun i hi => h i (by omega)), h n (by omega)]
    by_cases h1 : j < n
    · rw [if_pos h1, if_pos h1, if_pos (by omega)]
    · rw [if_neg h1]
      by_cases h2 : j = n
      · subst h2; simp
      · rw [if_neg (by omega)]
        have : 0 < j - n := by omega
        cases hq : j - n with
        | zero => omega
        | succ q => simp
def cutR {α : Type} (f : Nat → α) (a : Nat) : Nat → α := fun i => if i < a then f i else f (i + 1)
end
end Go.Am

set_option linter.unusedVariables false
set_option linter.unusedSimpArgs false
namespace Go.Am
structure RS where
  nl : Nat
  L : Nat → Nat → Int
  no : Nat
  O : Nat → Nat → Int
def redHit (p : Int) (c : Nat) (s : RS) (k : Nat) : RS :=
  ⟨s.nl - 1, fun i => lessF p (cutR s.L k i) (scaledF p (s.L k) (invF p (s.L k c))) (cutR s.L k i c), s.no + 1,
    fun i => if i = s.no then scaledF p (s.L k) (invF p (s.L k c)) else lessF p (s.O i) (scaledF p (s.L k) (invF p (s.L k c))) (s.O i c)⟩
def redStep (p : Int) (c : Nat) (s : RS) : RS :=
  if idxF (fun i => decide (s.L i c ≠ 0)) s.nl < 0 then s else redHit p c s (idxF (fun i => decide (s.L i c ≠ 0)) s.nl).toNat
def redGo (p : Int) (n : Nat) (R : Nat → Nat → Int) : Nat → RS
  | 0 => ⟨n, R, 0, fun _ _ => 0⟩
  | c + 1 => redStep p c (redGo p n R c)
def mixG {α : Type} (F G : Nat → α) (k : Nat) : Nat → α := fun j => if j < k then F j else G j
theorem mixG_lt {α : Type} (F G : Nat → α) {k j : Nat} (h : j < k) : mixG F G k j = F j := if_pos h
theorem mixG_ge {α : Type} (F G : Nat → α) {k j : Nat} (h : k ≤ j) : mixG F G k j = G j := if_neg (by omega)
theorem mixG_self {α : Type} (F G : Nat → α) (k : Nat) : mixG F G k k = G k := if_neg (by omega)
end Go.Am

set_option linter.unusedVariables false
set_option linter.unusedSimpArgs false
namespace Go.Am
def Bp (p : Int) (f : Nat → Int) : Prop := ∀ j, 0 ≤ f j ∧ f j < p
def Lead (m : Nat) (f : Nat → Int) (l : Nat) : Prop := l < m ∧ f l = 1 ∧ ∀ j, j < l → f j = 0
structure Rref (p : Int) (m n : Nat) (O : Nat → Nat → Int) (l : Nat → Nat) : Prop where
  bp : ∀ i, i < n → Bp p (O i)
  lead : ∀ i, i < n → Lead m (O i) (l i)
  off : ∀ i j, i < n → j < n → i ≠ j → O j (l i) = 0
  inc : ∀ i j, i < j → j < n → l i < l j
structure RInv (p : Int) (m c : Nat) (s : RS) (l : Nat → Nat) : Prop where
  bl : ∀ i, i < s.nl → Bp p (s.L i)
  zl : ∀ i, i < s.nl → ∀ j, j < c → s.L i j = 0
  rr : Rref p m s.no s.O l
  lc : ∀ i, i < s.no → l i < c
def IsL (n : Nat) (l : Nat → Nat) (c : Nat) : Prop := ∃ i, i < n ∧ l i = c
noncomputable instance (n : Nat) (l : Nat → Nat) (c : Nat) : Decidable (IsL n l c) := Classical.propDecidable _
theorem inc_eq {n n' : Nat} {l l' : Nat → Nat} (h : ∀ i j, i < j → j < n → l i < l j) (h' : ∀ i j, i < j → j < n' → l' i < l' j) (h1 : ∀ i, i < n → IsL n' l' (l i)) (h2 : ∀ i, i < n' → IsL n l (l' i)) :
    n = n' ∧ ∀ i, i < n → l i = l' i := by
  have key : ∀ {n n' : Nat} {l l' : Nat → Nat}, (∀ i j, i < j → j < n → l i < l j) → (∀ i j, i < j → j < n' → l' i < l' j) → (∀ i, i < n → IsL n' l' (l i)) → (∀ i, i < n' → IsL n l (l' i)) → ∀ i, i < n → i < n' ∧ l i = l' i := by
    intro n n' l l' h h' h1 h2 i
    induction i using Nat.strongRecOn with
    | _ i ih =>
      intro hi
      obtain ⟨j, hj, e⟩ := h1 i hi
      have hij : i ≤ j := by
        apply Nat.le_of_not_lt
        intro hlt
        have := (ih j hlt (by omega)).2
        have h3 := h j i hlt hi
        omega
      have hi' : i < n' := by omega
      refine ⟨hi', ?_⟩
      by_cases hE : j = i
      · rw [← e, hE]
      · obtain ⟨k, hk, e2⟩ := h2 i hi'
        have h3 := h' i j (by omega) hj
        have hki : k < i := by
          apply Nat.lt_of_not_le
          intro hle
          rcases Nat.lt_or_eq_of_le hle with h4 | h4
          · have := h i k h4 hk; omega
          · rw [← h4] at e2; omega
        have h5 := (ih k hki (by omega)).2
        have h6 := h' k i hki hi'
        omega
  have k1 := key h h' h1 h2
  have k2 := key h' h h2 h1
  refine ⟨?_, fun i hi => (k1 i hi).2⟩
  apply Nat.le_antisymm
  · apply Nat.le_of_not_lt
    intro hlt
    have := (k1 n' hlt).1
    omega
  · apply Nat.le_of_not_lt
    intro hlt
    have := (k2 n hlt).1
    omega
end Go.Am

set_option linter.unusedVariables false
set_option linter.unusedSimpArgs false
namespace Go.Am
def leadB (f : Nat → Int) : Nat → Bool := fun i => decide (f i ≠ 0)
def leadN (m : Nat) (f : Nat → Int) : Nat := (idxF (leadB f) m).toNat
def byGo (p : Int) (m : Nat) (O : Nat → Nat → Int) (own : Nat → Int) : Nat → Nat → Int
  | 0 => own
  | k + 1 => lessF p (byGo p m O own k) (O k) (byGo p m O own k (leadN m (O k)))
def insG {α : Type} (pos : Nat) (v : α) (F : Nat → α) (j : Nat) : α := if j < pos then F j else if j = pos then v else F (j - 1)
structure ES where
  no : Nat
  O : Nat → Nat → Int
def posN (m : Nat) (O : Nat → Nat → Int) (no at_ : Nat) : Nat := if idxF (fun k => decide (at_ < leadN m (O k))) no < 0 then no else (idxF (fun k => decide (at_ < leadN m (O k))) no).toNat
def ownF (p : Int) (m : Nat) (f : Nat → Int) : Nat → Int := scaledF p f (invF p (f (leadN m f)))
def restF (p : Int) (O : Nat → Nat → Int) (own : Nat → Int) (at_ : Nat) (j : Nat) : Nat → Int := lessF p (O j) own (O j at_)
def echHit (p : Int) (m : Nat) (s : ES) (f : Nat → Int) : ES :=
  ⟨s.no + 1, insG (posN m s.O s.no (leadN m f)) (ownF p m f) (restF p s.O (ownF p m f) (leadN m f))⟩
def echStep (p : Int) (m : Nat) (s : ES) (row : Nat → Int) : ES :=
  if idxF (leadB (byGo p m s.O row s.no)) m < 0 then s else echHit p m s (byGo p m s.O row s.no)
def echGo (p : Int) (m : Nat) (R : Nat → Nat → Int) : Nat → ES
  | 0 => ⟨0, fun _ _ => 0⟩
  | i + 1 => echStep p m (echGo p m R i) (R i)
theorem B8_of {p : Int} (hp : p ≤ 256) {f : Nat → Int} (h : Bp p f) : B8 f := fun i => by have := h i; omega
theorem mt_app' {V : Vw} {n N : Nat} {F f g : Nat → AV} (hn : n + 1 = N) (h1 : ∀ j, j < n → Mt V (F j) (f j)) (h2 : Mt V (F n) (g 0)) : Mt V (.arr N F) (.arr (n + 1) (appF n f 1 g)) := by
  subst hn; exact mt_app h1 h2
end Go.Am

set_option linter.unusedVariables false
set_option linter.unusedSimpArgs false
namespace Go.Am
theorem shift_closed (b : Nat) : ∀ {v : AV}, v.closed → shift b v = v := by
  intro v
  induction v with
  | arr n f ih => intro h; simp only [shift]; congr 1; funext i; exact ih i (h i)
  | sct n f ih => intro h; simp only [shift]; congr 1; funext i; exact ih i (h i)
  | tup n f ih => intro h; simp only [shift]; congr 1; funext i; exact ih i (h i)
  | ro n f ih => intro h; simp only [shift]; congr 1; funext i; exact ih i (h i)
  | fn g n f ih => intro h; simp only [shift]; congr 1; funext i; exact ih i (h i)
  | cptr v ih => intro h; simp only [shift]; rw [ih h]
  | own => intro h; exact h.elim
  | ptr => intro h; exact h.elim
  | _ => intro _; rfl
theorem closed_cap1 {g : Nat} {a : AV} (ha : a.closed) : (AV.fn g 1 (cap1 a)).closed := fun i => by
  match i with
  | 0 => exact ha
  | i + 1 => exact trivial
section
variable {P : Program} {T : TT} {N : Nat} {env : Env} {ol : OL}
variable {all : Array Oper} {r : List Oper} {R : Env → OL → Prop} {ty : TypeId} {pos : String} {af : Array Edge} {x y : Operand} {d : Nat} {t : TypeId}
theorem w_callc {f : Operand} {args : Array Operand} {aty : Array TypeId} {g n : Nat} {caps : Nat → AV} {ars : List AV} {v : AV} (hf : callee (evE env) f = .fn g n caps) (ha : (args.toList.map (evE env) ++ capL n caps).map (exp ol.at_ 4) = ars) (hc : ACalls P T g ars v [])
    (hv : v.closed) (hcl : closedL (args.toList.map (evE env) ++ capL n caps))
    (hr : WOps P T all r ((d, v) :: env) ol R) : WOps P T all (⟨some d, .call { callee := .value f, args := args, argTypes := aty }, ty, pos, af, none⟩ :: r) env ol R := by
  subst ha
  simp only [WOps, WOp, putE, Option.getD_some]
  unfold CallW
  rw [hf]
  refine ⟨v, [], hc, .inr hcl, rfl, ?_⟩
  rw [shift_closed _ hv]
  exact hr
end
def solGo (n : Nat) (O : Nat → Nat → Int) : Nat → Nat → Int
  | 0 => fun _ => 0
  | i + 1 => upd (solGo n O i) (leadN (n + 1) (O i)) (O i n)
def conP (n no : Nat) (O : Nat → Nat → Int) : Prop := ∀ i, i < no → leadN (n + 1) (O i) < n
def oneP (n no : Nat) (O : Nat → Nat → Int) : Prop := no = n ∧ ∀ i, i < n → leadN (n + 1) (O i) = i
def BpT (p : Int) (T : Nat → Nat → Nat → Int) : Prop := ∀ i j k, 0 ≤ T i j k ∧ T i j k < p
def unitS (n : Nat) (T : Nat → Nat → Nat → Int) (r j : Nat) : Int := if j < n then T j (r / n) (r % n) else if r / n = r % n then 1 else 0
def uS (p : Int) (n : Nat) (T : Nat → Nat → Nat → Int) : Nat → Int := cutF (fun a => (echGo p (n + 1) (unitS n T) (n * n)).O a n) n
def okS (p : Int) (n : Nat) (T : Nat → Nat → Nat → Int) : Prop :=
  oneP n (echGo p (n + 1) (unitS n T) (n * n)).no (echGo p (n + 1) (unitS n T) (n * n)).O ∧ ∀ i, i < n → eqN 6 (timesF p n T (eF i) (uS p n T)) (eF i)
noncomputable instance (p : Int) (n : Nat) (T : Nat → Nat → Nat → Int) : Decidable (okS p n T) := Classical.propDecidable _
end Go.Am

set_option linter.unusedVariables false
set_option linter.unusedSimpArgs false
namespace Go.Am
def famF (c : Nat) (w : Nat → Nat) (F : Nat → Nat → Int) : Nat → Option (AV × AV) := fun r => if r < c then some (Z64 (w r), C64 (w r) (F r)) else none
abbrev CO (key c : Nat) (w : Nat → Nat) (e : Nat) : AV := .arr c (fun r => .own key r (w r) e)
theorem famF_some {c : Nat} {w : Nat → Nat} {F : Nat → Nat → Int} {r : Nat} {sh cc : AV} (h : famF c w F r = some (sh, cc)) : r < c ∧ sh = Z64 (w r) ∧ cc = C64 (w r) (F r) := by
  unfold famF at h
  split at h
  · simp only [Option.some.injEq, Prod.mk.injEq] at h
    exact ⟨by assumption, h.1.symm, h.2.symm⟩
  · cases h
theorem famF_at {c : Nat} {w : Nat → Nat} {F : Nat → Nat → Int} {r : Nat} (h : r < c) : famF c w F r = some (Z64 (w r), C64 (w r) (F r)) := if_pos h
def ρP (ko kf a s c : Nat) : Nat → Nat → Nat × Nat := fun k r => bif Nat.beq k ko then (a, 0) else bif Nat.beq k kf then (bif Nat.beq r c then (s, 0) else (kf, r)) else (k, r)
theorem emb_fam {ko kf a s c N e : Nat} {w : Nat → Nat} {F : Nat → Nat → Int} {g : Nat → AV} {env' env : Env} {ol' : OL} (hk : ko ≠ kf) (ha : a ≠ kf) (hs : s ≠ kf) (has : a ≠ s)
    (h1 : ol'.at_ a 0 = some (ZR N, .arr N g)) (hg : ∀ j, j < N → j ≠ c → g j = .own kf j (w j) e) (hgc : c < N → g c = .own s 0 (w c) e)
    (h2 : c < N → ∃ C, ol'.at_ s 0 = some (Z64 (w c), C) ∧ ∀ V : Vw, Mt V (C64 (w c) (F c)) C)
    (h3 : ∀ r, r < N → r ≠ c → ol'.at_ kf r = some (Z64 (w r), C64 (w r) (F r)))
    (henv : envAll (fun t v => MtE (vwOf (ρP ko kf a s c) ol' [(ko, .one (ZR N) (CO kf N w e)), (kf, .many (famF N w F))]) v (get env' t)) env) :
    Emb (ρP ko kf a s c) env' ol' env [(ko, .one (ZR N) (CO kf N w e)), (kf, .many (famF N w F))] := by
  have r1 : ∀ i, ρP ko kf a s c ko i = (a, 0) := fun i => by simp [ρP]
  have r2 : ρP ko kf a s c kf c = (s, 0) := by simp [ρP, beq_ff (Ne.symm hk)]
  have r3 : ∀ r, r ≠ c → ρP ko kf a s c kf r = (kf, r) := fun r hr => by simp [ρP, beq_ff (Ne.symm hk), beq_ff hr]
  have hdom : OL.has [(ko, .one (ZR N) (CO kf N w e)), (kf, .many (famF N w F))] kf = true := by simp [OL.has]
  refine ⟨henv, ⟨?_, fun r sh cc h => ?_, trivial⟩, ⟨⟨fun _ => ⟨rfl, rfl⟩, fun r sh cc h he => ?_, trivial⟩, fun r sh cc h => ⟨fun he => ?_, fun r2' sh2 cc2 h2' he => ?_, trivial⟩, trivial⟩⟩
  · dsimp only
    rw [r1]
    dsimp only
    rw [h1]
    refine ⟨rfl, ⟨rfl, fun _ => trivial⟩, rfl, fun j hj => ?_⟩
    by_cases hjc : j = c
    · subst hjc
      rw [hgc hj]
      exact ⟨r2, rfl, rfl, hdom⟩
    · rw [hg j hj hjc]
      exact ⟨r3 j hjc, rfl, rfl, hdom⟩
  · obtain ⟨hr, rfl, rfl⟩ := famF_some h
    by_cases hrc : r = c
    · subst hrc
      rw [r2]
      dsimp only
      obtain ⟨C, h2, h2'⟩ := h2 hr
      rw [h2]
      exact ⟨rfl, ⟨rfl, fun _ => trivial⟩, h2' _⟩
    · rw [r3 r hrc]
      dsimp only
      rw [h3 r hr hrc]
      exact ⟨rfl, ⟨rfl, fun _ => trivial⟩, mt_vec (fun _ _ => rfl)⟩
  · rw [r1] at he
    by_cases hrc : r = c
    · subst hrc
      rw [r2] at he
      exact absurd (congrArg Prod.fst he) has
    · rw [r3 r hrc] at he
      exact absurd (congrArg Prod.fst he) ha
  · rw [r1] at he
    by_cases hrc : r = c
    · subst hrc
      rw [r2] at he
      exact absurd (congrArg Prod.fst he).symm has
    · rw [r3 r hrc] at he
      exact absurd (congrArg Prod.fst he).symm ha
  · refine ⟨rfl, ?_⟩
    by_cases hrc : r = c
    · subst hrc
      by_cases hr2 : r2' = r
      · exact hr2.symm
      · rw [r2, r3 r2' hr2] at he
        exact absurd (congrArg Prod.fst he) hs
    · rw [r3 r hrc] at he
      by_cases hr2 : r2' = c
      · subst hr2
        rw [r2] at he
        exact absurd (congrArg Prod.fst he).symm hs
      · rw [r3 r2' hr2] at he
        exact congrArg Prod.snd he
theorem rt_fam {T : TT} {env : Env} {ol : OL} {t a N M e e2 : Nat} {w : Nat → Nat} {F : Nat → Nat → Int} (hx : get env t = .own a 0 N e2) (ha : a ≠ 1) (hN : N = M) (h1 : ol.at_ a 0 = some (ZR N, CO 1 N w e)) (h3 : ∀ r, r < N → ol.at_ 1 r = some (Z64 (w r), C64 (w r) (F r))) :
    retQ T [.tmp t] (.own 0 0 M e2) [(0, .one (ZR M) (CO 1 M w e)), (1, .many (famF M w F))] .ret env ol := by
  subst hN
  refine ⟨ρP 0 1 a (a + 2) N, emb_fam (by decide) ha (by omega) (by omega) h1 (fun j _ _ => rfl) (fun h => absurd h (Nat.lt_irrefl N)) (fun h => absurd h (Nat.lt_irrefl N)) (fun r hr _ => h3 r hr) ⟨?_, trivial⟩⟩
  show Mt _ (.own 0 0 N e2) (get env t)
  rw [hx]
  exact ⟨rfl, rfl, rfl, rfl⟩
def sysR (n : Nat) (Fv : Nat → Nat → Nat → Int) (W : Nat → Nat → Int) (r j : Nat) : Int := if j < n then Fv (r / n) j (r % n) else W (r / n) (r % n)
end Go.Am

set_option linter.unusedVariables false
set_option linter.unusedSimpArgs false
namespace Go.Am
section
variable {P : Program} {T : TT} {env : Env} {ol : OL}
variable {all : Array Oper} {r : List Oper} {R : Env → OL → Prop} {ty : TypeId} {pos : String} {af : Array Edge} {x y : Operand} {d : Nat} {t u : TypeId}
end
end Go.Am

set_option linter.unusedVariables false
set_option linter.unusedSimpArgs false
namespace Go.Am
theorem eq_of_dvd {p a b : Int} (ha : 0 ≤ a ∧ a < p) (hb : 0 ≤ b ∧ b < p) (h : p ∣ a - b) : a = b := by
  obtain ⟨q, hq⟩ := h
  have hq0 : q = 0 := by
    rcases Int.lt_trichotomy q 0 with h3 | h3 | h3
    · have := Int.mul_le_mul_of_nonneg_left (show q ≤ -1 by omega) (show 0 ≤ p by omega); omega
    · exact h3
    · have := Int.mul_le_mul_of_nonneg_left (show 1 ≤ q by omega) (show 0 ≤ p by omega); omega
  rw [hq0] at hq
  omega
theorem dvd_sy {p a b : Int} (h : p ∣ a - b) : p ∣ b - a := by
  have := Int.dvd_neg.2 h; rwa [show -(a - b) = b - a by omega] at this
theorem dvd_rf {p a b : Int} (h : a = b) : p ∣ a - b := by subst h; rw [Int.sub_self]; exact Int.dvd_zero p
section
variable {p : Int} {n no N : Nat} {O R : Nat → Nat → Int} {l : Nat → Nat}
end
def dl (i k : Nat) : Int := if i = k then 1 else 0
theorem eF_dl (i k : Nat) : eF i k = dl i k := by
  unfold eF upd dl
  by_cases h : k = i
  · subst h; simp
  · simp [h, Ne.symm h]
def uM (p : Int) (n : Nat) (T : Nat → Nat → Nat → Int) (x j : Nat) : Nat → Int := if x % 2 = 0 then timesF p n T (eF j) (eF (x / 2)) else timesF p n T (eF (x / 2)) (eF j)
def uW (x : Nat) : Nat → Int := eF (x / 2)
abbrev uR (p : Int) (n : Nat) (T : Nat → Nat → Nat → Int) : Nat → Nat → Int := sysR n (uM p n T) uW
theorem eF_Bp {p : Int} (hp : 1 < p) (i : Nat) : Bp p (eF i) := fun k => by rw [eF_dl]; unfold dl; split <;> omega
def uOk (p : Int) (n : Nat) (T : Nat → Nat → Nat → Int) : Prop := conP n (redGo p (2 * n * n) (uR p n T) (n + 1)).no (redGo p (2 * n * n) (uR p n T) (n + 1)).O
noncomputable instance (p : Int) (n : Nat) (T : Nat → Nat → Nat → Int) : Decidable (uOk p n T) := Classical.propDecidable _
noncomputable def uF (p : Int) (n : Nat) (T : Nat → Nat → Nat → Int) : Nat → Int := if uOk p n T then cutF (solGo n (redGo p (2 * n * n) (uR p n T) (n + 1)).O (redGo p (2 * n * n) (uR p n T) (n + 1)).no) n else fun _ => 0
end Go.Am

set_option linter.unusedVariables false
set_option linter.unusedSimpArgs false
namespace Go.Am
theorem cel_cap2 {g : Nat} {a b : AV} : (AV.fn g 2 (cap2 (.cptr a) (.cptr b))).cel := fun i hi => by
  match i, hi with
  | 0, _ => trivial
  | 1, _ => trivial
end Go.Am

set_option linter.unusedVariables false
set_option linter.unusedSimpArgs false
namespace Go.Am
def V0 : Vw := ⟨fun k i => (k, i), fun _ => false, fun _ _ => none, fun _ _ => False⟩
theorem V0_ok (K : Kx) : VwOk V0 K K := ⟨rfl, rfl, rfl, fun _ h => h, fun k h => by simp [V0] at h, fun k i k' i' h => by simp only [V0, Prod.mk.injEq] at h; obtain ⟨rfl, rfl⟩ := h; exact ⟨rfl, rfl⟩, fun k i sh c h => by simp [V0] at h⟩
def MtL : List AV → List AV → Prop
  | [], [] => True
  | a :: ars, b :: bs => Mt V0 a b ∧ MtL ars bs
  | _, _ => False
theorem MtL_VRs {K : Kx} : ∀ {ars ars' : List AV} {cs : List Value}, MtL ars ars' → VRs K ars' cs → VRs K ars cs
  | [], [], [], _, _ => trivial
  | [], [], _ :: _, _, h => h.elim
  | a :: ars, b :: bs, [], _, h => h.elim
  | a :: ars, b :: bs, c :: cs, h, h2 => ⟨Mt_VR (V0_ok K) h.1 h2.1, MtL_VRs h.2 h2.2⟩
  | [], _ :: _, _, h, _ => h.elim
  | _ :: _, [], _, h, _ => h.elim
theorem ACalls.mt {P : Program} {T : TT} {f : FuncId} {ars ars' : List AV} {r : AV} {H : OL} (h : ACalls P T f ars r H) (hm : MtL ars ars') : ACalls P T f ars' r H :=
  ⟨h.ent, fun w I cs hI ha => h.go w I cs hI (MtL_VRs hm ha)⟩
structure RB (T : Nat → Nat → Nat → Int) : Prop where
  b : B8T T
  z : ∀ i j k, 6 ≤ i ∨ 6 ≤ j ∨ 6 ≤ k → T i j k = 0
structure RV (v : Nat → Int) : Prop where
  b : B8 v
  z : ∀ k, 6 ≤ k → v k = 0
def VA (p n : Int) (T : Nat → Nat → Nat → Int) (fo : Nat → Int) : Prop := shapeP p n T fo ∧ assocP p n.toNat T ∧ uOk p n.toNat T
noncomputable instance (p n : Int) (T : Nat → Nat → Nat → Int) (fo : Nat → Int) : Decidable (VA p n T fo) := Classical.propDecidable _
structure VN (p : Int) (n : Nat) (T : Nat → Nat → Nat → Int) (fo : Nat → Int) : Prop where
  hp : primeB p = true
  n0 : 0 < n
  n6 : n ≤ 6
  hT : BpT p T
  tz : ∀ i j k, n ≤ i ∨ n ≤ j ∨ n ≤ k → T i j k = 0
  f : Bp p fo
  fz : ∀ k, n ≤ k → fo k = 0
  asc : assocP p n T
  u : uOk p n T
structure VV (p : Int) (n : Nat) (v : Nat → Int) : Prop where
  b : Bp p v
  z : ∀ k, n ≤ k → v k = 0
theorem VV.B8 {p : Int} {n : Nat} {v : Nat → Int} (h : VV p n v) (hp : p ≤ 256) : B8 v := B8_of hp h.b
theorem VN.p0 {p : Int} {n : Nat} {T : Nat → Nat → Nat → Int} {fo : Nat → Int} (h : VN p n T fo) : 2 ≤ p ∧ p ≤ 13 := primeB_bd h.hp
def VZ (p n : Int) (T : Nat → Nat → Nat → Int) (fo : Nat → Int) (M : Nat) (V : Nat → Nat → Int) : Prop := VA p n T fo ∧ ∀ i, i < M → smP p n (V i)
noncomputable instance (p n : Int) (T : Nat → Nat → Nat → Int) (fo : Nat → Int) (M : Nat) (V : Nat → Nat → Int) : Decidable (VZ p n T fo M V) := Classical.propDecidable _
abbrev vlA (M : Nat) (V : Nat → Nat → Int) : AV := .ro M (fun i => vecA (V i))
theorem closed_vl {M : Nat} {F : Nat → Nat → Int} : (vlA M F).closed := fun _ _ => trivial
theorem m_vl {V : Vw} {M : Nat} {F : Nat → Nat → Int} : Mt V (vlA M F) (vlA M F) := Mt_closed closed_vl (fun _ _ _ => trivial) (by simp)
theorem ex_vl {at_ : Nat → Nat → Option (AV × AV)} {d M : Nat} {F : Nat → Nat → Int} : exp at_ (d + 1) (vlA M F) = vlA M F := exp_closed closed_vl
def vs1 (v : Nat → Int) : Nat → Nat → Int := fun i => if i = 0 then v else fun _ => 0
theorem VN.va {p : Int} {n : Nat} {T : Nat → Nat → Nat → Int} {fo : Nat → Int} (h : VN p n T fo) : VA p n T fo := by
  have hp := h.p0
  have h0 := h.n0
  have h6 := h.n6
  refine ⟨shape_iff.2 ⟨h.hp, by omega, fun i hi j hj => ⟨fun k hk => ⟨(h.hT i j k).2, fun hk => h.tz i j k (by omega)⟩, fun hij k hk => h.tz i j k (by omega)⟩, fun k hk => ⟨(h.f k).2, fun hk => h.fz k (by omega)⟩⟩, h.asc, h.u⟩
def comP (T : Nat → Nat → Nat → Int) : Prop := ∀ i, i < 6 → ∀ j, j < i → eqN 6 (T i j) (T j i)
def comN (n : Nat) (T : Nat → Nat → Nat → Int) : Prop := ∀ i, i < n → ∀ j, j < i → eqN 6 (T i j) (T j i)
noncomputable instance (T : Nat → Nat → Nat → Int) : Decidable (comP T) := Classical.propDecidable _
noncomputable instance (n : Nat) (T : Nat → Nat → Nat → Int) : Decidable (comN n T) := Classical.propDecidable _
def formF (p : Int) (fo v : Nat → Int) : Int := sumZ (fun i => fo i * v i) 6 % p
def addF (p : Int) (u v : Nat → Int) (k : Int) (i : Nat) : Int := (u i + k * v i) % p
theorem addF_Bp {p : Int} (hp : 0 < p) (u v : Nat → Int) (k : Int) : Bp p (addF p u v k) := fun i => ⟨Int.emod_nonneg _ (by omega), Int.emod_lt_of_pos _ hp⟩
end Go.Am

set_option linter.unusedVariables false
set_option linter.unusedSimpArgs false
namespace Go.Am
def segF (f : Nat → Value) (o m : Nat) : List Value := (List.range m).map (fun j => f (o + j))
theorem seg_len (f : Nat → Value) (o m : Nat) : (segF f o m).length = m := by simp [segF]
theorem seg_add (f : Nat → Value) (o a b : Nat) : segF f o (a + b) = segF f o a ++ segF f (o + a) b := by
  refine List.ext_getElem? (fun i => ?_)
  simp only [segF, List.getElem?_append, List.length_map, List.length_range, List.getElem?_map, List.getElem?_range']
  by_cases h : i < a
  · simp [h, List.getElem?_range, show i < a + b by omega]
  · by_cases h2 : i < a + b
    · simp [h, List.getElem?_range, h2, show i - a < b by omega]; congr 1; omega
    · simp [h, List.getElem?_range, h2, show ¬ i - a < b by omega]
theorem seg_arr (f : Nat → Value) (o s : Nat) : ∀ n, segF f o (n * s) = flat (fun i => segF f (o + i * s) s) n
  | 0 => by simp [segF, flat]
  | n + 1 => by rw [Nat.add_mul, Nat.one_mul, seg_add, seg_arr f o s n]; rfl
theorem toList_seg (cs : Array Value) : cs.toList = segF (fun i => cs.getD i undef) 0 cs.size := by
  refine List.ext_getElem? (fun i => ?_)
  simp only [segF, List.getElem?_map, Array.getElem?_toList, Nat.zero_add]
  by_cases h : i < cs.size
  · simp [h, List.getElem?_range]
  · simp [h, List.getElem?_range]
theorem FL_int_seg {K : Kx} {f : Nat → Value} {o : Nat} {k : IntKind} {z : Int} (h : f o = .int k z) : FL K (.int k z) (segF f o 1) := by
  show segF f o 1 = [.int k z]
  simp [segF, List.range_succ, h]
theorem FL_arr_seg {K : Kx} {f : Nat → Value} {o n s : Nat} {F : Nat → AV} (h : ∀ i, i < n → FL K (F i) (segF f (o + i * s) s)) (hs : (F 0).size = s) : FL K (.arr n F) (segF f o (n * s)) := by
  rw [seg_arr]
  exact ⟨_, rfl, fun i hi => ⟨h i hi, by rw [seg_len, hs]⟩⟩
theorem FL_vec_seg {K : Kx} {f : Nat → Value} {o n : Nat} {k : IntKind} {z : Nat → Int} (h : ∀ i, i < n → f (o + i) = .int k (z i)) : FL K (.arr n (fun i => .int k (z i))) (segF f o n) := by
  have := FL_arr_seg (K := K) (f := f) (o := o) (n := n) (s := 1) (F := fun i => .int k (z i)) (fun i hi => by rw [Nat.mul_one]; exact FL_int_seg (h i hi)) rfl
  rwa [Nat.mul_one] at this
section
variable {P : Program} {w : World} {base : Nat} {t : TypeId} {v : Value}
theorem open_agg {N : Nat} {ts : List TypeId} {kd : Nat → IntKind} (hA : ∃ x, P.underlying t = some x ∧ ((∃ fs, x = .struct fs) ∨ ∃ n e, x = .array n e)) (hc : P.cellTypes P.depth t = some ts) (hn : P.cellsOf t = N) (hl : ts.length = N)
    (hk : ∀ i, i < N → ∀ u, ts[i]? = some u → P.underlying u = some (.int (kd i))) (h : Value.okWide P w .any base t v) :
    ∃ (cs : Array Value) (z : Nat → Int), v = .agg cs ∧ cs.size = N ∧ ∀ i, i < N → cs.getD i undef = .int (kd i) (z i) ∧ (kd i).has (z i) := by
  have h' : ∃ cs, v = .agg cs ∧ cs.size = P.cellsOf t ∧ Row.okWide P w .any base t cs := by
    obtain ⟨x, hx, hA⟩ := hA
    unfold Value.okWide at h
    rw [hx] at h
    rcases hA with ⟨fs, rfl⟩ | ⟨n, e, rfl⟩ <;> exact h
  obtain ⟨cs, rfl, hs, ts', h1, _, h3⟩ := h'
  rw [hc] at h1
  obtain rfl := Option.some.inj h1
  rw [hn] at hs
  refine ⟨cs, fun i => match cs.getD i undef with | .int _ m => m | _ => 0, rfl, hs, fun i hi => ?_⟩
  have hci : cs[i]? = some (cs.getD i undef) := by simp [hs, hi]
  obtain ⟨u, hu, hok⟩ := h3 i _ hci
  rw [hl, Nat.mod_eq_of_lt hi] at hu
  have hku := hk i hi u hu
  show cs.getD i undef = .int (kd i) (match cs.getD i undef with | .int _ m => m | _ => 0) ∧ (kd i).has (match cs.getD i undef with | .int _ m => m | _ => 0)
  generalize cs.getD i undef = c at hok ⊢
  unfold Cell.okWide at hok
  rw [hku] at hok
  unfold Cell.ok at hok
  rw [hku] at hok
  cases c <;> first | exact hok.elim | skip
  simp only at hok
  obtain ⟨rfl, hok⟩ := hok
  exact ⟨rfl, hok⟩
end
theorem has_u8 {n : Int} (h : IntKind.u8.has n) : 0 ≤ n ∧ n < 256 := by
  have h' : IntKind.u8.min ≤ n ∧ n ≤ IntKind.u8.max := h
  have e1 : IntKind.u8.min = 0 := rfl
  have e2 : IntKind.u8.max = 255 := rfl
  omega
theorem law_walk {P : Program} {T : TT} {f : FuncId} {ars : List AV} (h : ACalls P T f ars (.bool true) []) (w : World) (cs : List Value) (ha : VRs (K0 T (fun b => b < w.heap.size) w) ars cs) :
    Calls P f cs.toArray w fun e w' => e = .returned (.bool true) ∧ Go.RowKit.Below w.heap.size w w' := by
  refine (h.go w (fun b => b < w.heap.size) cs (fun b hb => hb) ha).mono ?_
  rintro e w' ⟨c, κ, rfl, hR, hv⟩
  rw [VR_bool hv]
  exact ⟨rfl, hR.os, hR.tape, hR.output, hR.size, fun b hb => hR.block b hb (fun h => h)⟩
end Go.Am

set_option linter.unusedVariables false
set_option linter.unusedSimpArgs false
namespace Go.Am
section
variable {p : Int} {n : Nat} {T : Nat → Nat → Nat → Int}
def nilW (p : Int) (n : Nat) (T : Nat → Nat → Nat → Int) (v : Nat → Int) : Nat → Nat → Int
  | 0 => v
  | k + 1 => timesF p n T (nilW p n T v k) v
def nilB (p : Int) (n : Nat) (T : Nat → Nat → Nat → Int) (v : Nat → Int) (k : Nat) : Prop := eqN 6 (nilW p n T v k) (fun _ => 0)
noncomputable instance (p : Int) (n : Nat) (T : Nat → Nat → Nat → Int) (v : Nat → Int) (k : Nat) : Decidable (nilB p n T v k) := Classical.propDecidable _
def powV (p : Int) (n : Nat) (T : Nat → Nat → Nat → Int) (u v : Nat → Int) : Nat → Nat → Int
  | 0 => u
  | k + 1 => timesF p n T (powV p n T u v k) v
def formT (p : Int) (T : Nat → Nat → Nat → Int) (fo : Nat → Int) (i j : Nat) : Int := formF p fo (T i j)
def rankT (p : Int) (n : Nat) (T : Nat → Nat → Nat → Int) (fo : Nat → Int) : Nat := (redGo p n (formT p T fo) n).no
end
theorem ACalls.res {P : Program} {T : TT} {f : FuncId} {ars : List AV} {r r' : AV} {H H' : OL} {ρ : Nat → Nat → Nat × Nat} (h : ACalls P T f ars r H) (hm : Emb ρ [(0, r)] H [(0, r')] H') : ACalls P T f ars r' H' := by
  refine ⟨h.ent, fun w I cs hI ha => (h.go w I cs hI ha).mono ?_⟩
  rintro e w' ⟨c, κ, rfl, hR, hv⟩
  obtain ⟨κ2, hR2, hV⟩ := hm.rel hR
  exact ⟨c, κ2, rfl, hR2, MtE_VR hV hm.1.1 hv⟩
theorem not_t {p : Prop} [Decidable p] (h : p) : AV.bool (!(decide p)) = .bool false := by rw [decide_eq_true h]; rfl
theorem not_f {p : Prop} [Decidable p] (h : ¬ p) : AV.bool (!(decide p)) = .bool true := by rw [decide_eq_false h]; rfl
end Go.Am

set_option linter.unusedVariables false
set_option linter.unusedSimpArgs false
namespace Go.Am
theorem hcs : (∀ b : Bool, ((!b) = true) = (b = false)) ∧ (∀ b : Bool, ((!b) = false) = (b = true)) ∧ (∀ b : Bool, (¬ b = true) = (b = false)) ∧ (∀ b : Bool, (¬ b = false) = (b = true)) ∧
    (∀ (p : Prop) (_ : Decidable p), (decide p = true) = p) ∧ (∀ (p : Prop) (_ : Decidable p), (decide p = false) = ¬ p) ∧ (∀ a b : Int, (¬ a < b) = (b ≤ a)) ∧ (∀ a b : Int, (¬ a ≤ b) = (b < a)) ∧ (∀ p : Prop, (¬ ¬ p) = p) ∧ (∀ (a b : Int), (a ≠ b) = ¬ a = b) :=
  ⟨fun b => by cases b <;> simp, fun b => by cases b <;> simp, fun b => by cases b <;> simp, fun b => by cases b <;> simp, fun p _ => by simp, fun p _ => by simp, fun a b => by simp, fun a b => by simp, fun p => by simp, fun a b => rfl⟩
theorem els : (∀ b : Bool, (true || b) = true) ∧ (∀ b : Bool, (false || b) = b) ∧ (∀ b : Bool, (true && b) = b) ∧ (∀ b : Bool, (false && b) = false) ∧ (∀ b : Bool, (b || true) = true) ∧ (∀ b : Bool, (b || false) = b) :=
  ⟨fun _ => rfl, fun _ => rfl, fun _ => rfl, fun _ => rfl, fun b => by simp, fun b => by simp⟩
theorem ec {f : AV → AV} {a b : AV} {l bs : List AV} (ht : l.map f = bs) (h : f a = b := by first | exact rfl | exact exp_alg | exact exp_calg | exact ex_vl | exact exp_closed (by assumption)) : (a :: l).map f = b :: bs := exc h ht
section
variable {P : Program} {T : TT} {env : Env} {ol : OL}
variable {all : Array Oper} {r : List Oper} {R : Env → OL → Prop} {ty : TypeId} {pos : String} {af : Array Edge} {x y : Operand} {d : Nat} {t u : TypeId}
theorem y_call {f : Operand} {args : Array Operand} {aty : Array TypeId} {g n : Nat} {caps : Nat → AV} {ars : List AV} {v : AV} (hf : callee (evE env) f = .fn g n caps) (ha : (args.toList.map (evE env) ++ capL n caps).map (exp ol.at_ 4) = ars) (hc : ACalls P T g ars v [])
    (hr : WOps P T all r ((d, v) :: env) ol R)
    (hn : v.noref := by first | exact trivial | exact fun _ => trivial | exact fun _ _ => trivial | exact fun _ _ _ => trivial | exact nr_alg | exact nr_pair (by first | exact trivial | exact fun _ => trivial | exact nr_alg) (by first | exact trivial | exact fun _ => trivial))
    (hs : ∀ b, shift b v = v := by exact fun _ => by first | exact rfl | exact shift_alg | exact shift_pair rfl rfl | exact shift_pair shift_alg rfl) :
    WOps P T all (⟨some d, .call { callee := .value f, args := args, argTypes := aty }, ty, pos, af, none⟩ :: r) env ol R := w_call0 hf ha hc hn hs hr
theorem y_add {k : IntKind} {a b c : Int} (hx : evE env x = .int k a) (hy : evE env y = .int k b) (hr : WOps P T all r ((d, .int k c) :: env) ol R) (hc : k.wrap (a + b) = c := by first | exact w64 (by omega) (by omega) | exact w64b (by assumption) _ | exact w64t (by assumption) _ _ _ | exact w8 (by omega) (by omega) | exact w8b (by assumption) _ | exact rfl) : WOps P T all (⟨some d, .binOp .add t x y u, ty, pos, af, none⟩ :: r) env ol R := w_add hx hy hc hr
end
end Go.Am

set_option linter.unusedVariables false
set_option linter.unusedSimpArgs false
namespace Go.Am
section
variable {P : Program} {T : TT} {env : Env} {ol : OL}
variable {all : Array Oper} {r : List Oper} {R : Env → OL → Prop} {ty : TypeId} {pos : String} {af : Array Edge} {x y : Operand} {d : Nat} {t u : TypeId}
end
end Go.Am

set_option linter.unusedVariables false
set_option linter.unusedSimpArgs false
namespace Go.Am
def allP (F : Nat → Prop) : List Nat → Prop
  | [] => True
  | k :: r => F k ∧ allP F r
theorem allP_mem {F : Nat → Prop} : ∀ {l : List Nat}, allP F l → ∀ k, k ∈ l → F k
  | a :: r, h, k, hk => by
    rcases List.mem_cons.1 hk with rfl | hk
    · exact h.1
    · exact allP_mem h.2 k hk
structure PinOk (ks : List Nat) (κ0 : Gh) (X : Cx) (κ : Gh) (ol : OL) (w : World) : Prop where
  has : ∀ k, k ∈ ks → ol.has k = true
  blk : ∀ k, k ∈ ks → ∀ i, κ.blk k i = κ0.blk k i ∧ κ.shp k i = κ0.shp k i
  size : ∀ (b : Nat) cur e fr, X.w0.heap[b]? = some (.cells cur e fr) → ∃ cur' fr', w.heap[b]? = some (.cells cur' e fr') ∧ cur'.size = cur.size
section
variable {ks : List Nat} {κ0 : Gh} {X : Cx}
theorem PinOk.le {κ κ' : Gh} {ol ol' : OL} {w w' : World} (h : PinOk ks κ0 X κ ol w) (hle : Le (KK X κ ol.ob w) (KK X κ' ol'.ob w')) : PinOk ks κ0 X κ' ol' w' where
  has := fun k hk => hle.dom k (h.has k hk)
  blk := fun k hk i => ⟨((hle.blk k i (h.has k hk)).1).trans (h.blk k hk i).1, ((hle.blk k i (h.has k hk)).2).trans (h.blk k hk i).2⟩
  size := fun b cur e fr hb => by
    obtain ⟨c1, f1, h1, e1⟩ := h.size b cur e fr hb
    obtain ⟨c2, f2, h2, e2⟩ := hle.size b c1 e f1 h1
    exact ⟨c2, f2, h2, e2.trans e1⟩
def pins (ks : List Nat) (ρ : Nat → Nat → Nat × Nat) (ol : OL) : Prop := allP (fun k => (∀ i, ρ k i = (k, i)) ∧ ol.has k = true) ks
theorem PinOk.emb {κ κ' : Gh} {ol ol' : OL} {w : World} {ρ : Nat → Nat → Nat × Nat} (h : PinOk ks κ0 X κ' ol' w) (hp : pins ks ρ ol) (hV : VwOk (vwOf ρ ol' ol) (KK X κ' ol'.ob w) (KK X κ ol.ob w)) : PinOk ks κ0 X κ ol w where
  has := fun k hk => (allP_mem hp k hk).2
  blk := fun k hk i => ⟨((hV.blk k i k i ((allP_mem hp k hk).1 i)).1).trans (h.blk k hk i).1, ((hV.blk k i k i ((allP_mem hp k hk).1 i)).2).trans (h.blk k hk i).2⟩
  size := h.size
end
def QQp (ks : List Nat) (κ0 : Gh) (X : Cx) (N : Nat) (Q : Exit → Env → OL → Prop) : Exit → Act → World → Prop := fun ex a w =>
  ∃ κ env ol, Q ex env ol ∧ Rel X κ ol.ob w ∧ EnvR (KK X κ ol.ob w) env a.tmps ∧ a.tmps.size = N ∧ a.defers = [] ∧ PinOk ks κ0 X κ ol w
section
variable {P : Program} {T : TT} {ks : List Nat}
theorem WOps_soundp (hT : TOk P T) (arr : Array Oper) {N : Nat} {κ0 : Gh} {Q : Exit → Env → OL → Prop} : ∀ (ops : List Oper) (env : Env) (ol : OL), WOps P T arr ops env ol (fun env' ol' => Q .normal env' ol') → dstOk N ops = true →
    ∀ (X : Cx) (κ : Gh) (a : Act) (w : World), X.P = P → X.T = T → Rel X κ ol.ob w → EnvR (KK X κ ol.ob w) env a.tmps → a.tmps.size = N → a.defers = [] → PinOk ks κ0 X κ ol w → wpList P arr (QQp ks κ0 X N Q) ops a w
  | [], env, ol, h, _, X, κ, a, w, hP, hTT, hR, hE, hN, hD, hp => ⟨κ, env, ol, h, hR, hE, hN, hD, hp⟩
  | o :: r, env, ol, h, hdst, X, κ, a, w, hP, hTT, hR, hE, hN, hD, hp => by
    simp only [dstOk, List.all_cons, Bool.and_eq_true] at hdst
    have hlt : ∀ t, o.dst = some t → t < a.tmps.size := fun t ht => by
      have := hdst.1
      rw [ht] at this
      rw [hN]; simpa [Nat.blt_eq] using this
    have run : WOp P T o (evE env) ol (fun v ol' => WOps P T arr r (putE o.dst v env) ol' (fun env' ol' => Q .normal env' ol')) → o.wp P a w (wpList P arr (QQp ks κ0 X N Q) r) (QQp ks κ0 X N Q) := by
      intro hw
      obtain ⟨v, ol', h1, h2⟩ := WOp_out hT hw
      have := h2 X κ w a hP hTT hR hE
      unfold Oper.wp
      rw [← hP]
      rw [← hP] at this
      refine upon_of_Out this (fun c w' κ' hR' hv hle => ?_)
      rw [hP]
      exact WOps_soundp hT arr r _ ol' h1 hdst.2 X κ' _ w' hP hTT hR' ((hE.mono hle).put hv hlt) (by rw [Act.put_size]; exact hN) (by rw [Act.put_defers]; exact hD) (hp.le hle)
    have skip : WOps P T arr r (putE o.dst undA env) ol (fun env' ol' => Q .normal env' ol') → wpList P arr (QQp ks κ0 X N Q) r (a.put o.dst undef) w := fun hw =>
      WOps_soundp hT arr r _ ol hw hdst.2 X κ _ w hP hTT hR (hE.put (undA_ok _) hlt) (by rw [Act.put_size]; exact hN) (by rw [Act.put_defers]; exact hD) hp
    unfold WOps at h
    unfold wpList
    split at h
    · rename_i hg
      rw [if_pos (by simp [Region.wanted, hg])]
      exact .inl (run h)
    · rename_i j want hg
      split at h
      · rename_i d hd
        split at h
        · rename_i b hb
          have hy := yielded_of hd hE hb (dst_lt_of_eq hE hb)
          split at h
          · rename_i hbw
            have : b = want := by simpa using hbw
            subst this
            rw [if_pos (by simp [Region.wanted, hg, hy])]
            exact .inl (run h)
          · rename_i hbw
            have : b ≠ want := by simpa using hbw
            rw [if_neg (by simp [Region.wanted, hg, hy, this])]
            exact skip h
        · rename_i f hb
          have hy := yielded_none hd hE hb
          rw [if_neg (by simp [Region.wanted, hg, hy])]
          exact skip h
        · exact h.elim
      · exact h.elim
def Snp (ks : List Nat) (P : Program) (T : TT) (N : Nat) (c : Code) (env : Env) (ol : OL) (Q : Exit → Env → OL → Prop) : Prop :=
  ∀ (κ0 : Gh) (X : Cx) (κ : Gh) (a : Act) (w : World), X.P = P → X.T = T → Rel X κ ol.ob w → EnvR (KK X κ ol.ob w) env a.tmps → a.tmps.size = N → a.defers = [] → PinOk ks κ0 X κ ol w → c.wp P (QQp ks κ0 X N Q) a w
variable {N : Nat} {env : Env} {ol : OL} {Q : Exit → Env → OL → Prop}
theorem snp_skip (h : Q .normal env ol) : Snp ks P T N .skip env ol Q := fun κ0 X κ a w hP hTT hR hE hN hD hp => wp_skip ⟨κ, env, ol, h, hR, hE, hN, hD, hp⟩
theorem snp_exit {id : Nat} (h : Q (.exit id) env ol) : Snp ks P T N (.exit id) env ol Q := fun κ0 X κ a w hP hTT hR hE hN hD hp => wp_exit ⟨κ, env, ol, h, hR, hE, hN, hD, hp⟩
theorem snp_ret (h : Q .ret env ol) : Snp ks P T N .ret env ol Q := fun κ0 X κ a w hP hTT hR hE hN hD hp => wp_ret ⟨κ, env, ol, h, hR, hE, hN, hD, hp⟩
def thnp (ks : List Nat) (P : Program) (T : TT) (N : Nat) (y : Code) (Q : Exit → Env → OL → Prop) : Exit → Env → OL → Prop
  | .normal, env, ol => Snp ks P T N y env ol Q
  | e, env, ol => Q e env ol
theorem snp_seq {x y : Code} (h : Snp ks P T N x env ol (thnp ks P T N y Q)) : Snp ks P T N (.seq x y) env ol Q := by
  intro κ0 X κ a w hP hTT hR hE hN hD hp
  refine wp_seq (wp_mono (h κ0 X κ a w hP hTT hR hE hN hD hp) ?_)
  rintro ex a' w' ⟨κ', env', ol', hq, hR', hE', hN', hD', hp'⟩
  cases ex with
  | normal => exact hq κ0 X κ' a' w' hP hTT hR' hE' hN' hD' hp'
  | _ => exact ⟨κ', env', ol', hq, hR', hE', hN', hD', hp'⟩
theorem snp_region (hT : TOk P T) {id : Nat} {ops : Array Oper} (hd : dstOk N ops.toList = true) (h : WOps P T ops ops.toList env ol (fun env' ol' => Q .normal env' ol')) : Snp ks P T N (.region id ops false) env ol Q :=
  fun κ0 X κ a w hP hTT hR hE hN hD hp => wp_region_list (WOps_soundp hT ops ops.toList env ol h hd X κ a w hP hTT hR hE hN hD hp)
theorem snp_cond_true {c : Operand} {x y : Code} (hc : evE env c = .bool true) (h : Snp ks P T N x env ol Q) : Snp ks P T N (.cond c x y) env ol Q := by
  intro κ0 X κ a w hP hTT hR hE hN hD hp
  have := hE.ev c
  rw [hc] at this
  exact wp_cond_true (VR_bool this) (h κ0 X κ a w hP hTT hR hE hN hD hp)
theorem snp_cond_false {c : Operand} {x y : Code} (hc : evE env c = .bool false) (h : Snp ks P T N y env ol Q) : Snp ks P T N (.cond c x y) env ol Q := by
  intro κ0 X κ a w hP hTT hR hE hN hD hp
  have := hE.ev c
  rw [hc] at this
  exact wp_cond_false (VR_bool this) (h κ0 X κ a w hP hTT hR hE hN hD hp)
theorem snp_cond {c : Operand} {x y : Code} (b : Bool) (hc : evE env c = .bool b) (ht : b = true → Snp ks P T N x env ol Q) (hf : b = false → Snp ks P T N y env ol Q) : Snp ks P T N (.cond c x y) env ol Q := by
  cases b
  · exact snp_cond_false hc (hf rfl)
  · exact snp_cond_true hc (ht rfl)
theorem snp_block {id : Nat} {c : Code} (h : Snp ks P T N c env ol (inB id Q)) : Snp ks P T N (.block id c) env ol Q := by
  intro κ0 X κ a w hP hTT hR hE hN hD hp
  refine wp_block (wp_mono (h κ0 X κ a w hP hTT hR hE hN hD hp) ?_)
  rintro ex a' w' ⟨κ', env', ol', hq, hR', hE', hN', hD', hp'⟩
  cases ex with
  | exit id' =>
    simp only [Exit.inBlock]
    simp only [inB] at hq
    by_cases hid : id' = id
    · subst hid
      rw [if_pos rfl]
      simp only [Nat.beq_refl, cond_true] at hq
      exact ⟨κ', env', ol', hq, hR', hE', hN', hD', hp'⟩
    · rw [if_neg hid]
      simp only [beq_ff hid, cond_false] at hq
      exact ⟨κ', env', ol', hq, hR', hE', hN', hD', hp'⟩
  | _ => exact ⟨κ', env', ol', hq, hR', hE', hN', hD', hp'⟩
theorem snp_emb {ρ : Nat → Nat → Nat × Nat} {env2 : Env} {ol2 : OL} {c : Code} (h : Emb ρ env ol env2 ol2) (hpi : pins ks ρ ol2) (hs : Snp ks P T N c env2 ol2 Q) : Snp ks P T N c env ol Q := by
  intro κ0 X κ a w hP hTT hR hE hN hD hp
  obtain ⟨κ2, hR2, hV⟩ := h.rel hR
  exact hs κ0 X κ2 a w hP hTT hR2 (h.envR hV hE) hN hD (hp.emb hpi hV)
def rndp (ks : List Nat) {S : Type} (I : S → Env × OL) (Pr : S → Prop) (μ : S → Nat) (x : S) (Q : Exit → Env → OL → Prop) : Exit → Env → OL → Prop
  | .normal, env', ol' => ∃ x' ρ, (Emb ρ env' ol' (I x').1 (I x').2 ∧ pins ks ρ (I x').2) ∧ Pr x' ∧ μ x' < μ x
  | e, env', ol' => Q e env' ol'
theorem snp_loop {S : Type} {c : Code} (I : S → Env × OL) (Pr : S → Prop) (μ : S → Nat) (x0 : S) (ρ : Nat → Nat → Nat × Nat) (h0 : Emb ρ env ol (I x0).1 (I x0).2 ∧ pins ks ρ (I x0).2) (hp : Pr x0)
    (round : ∀ x, Pr x → Snp ks P T N c (I x).1 (I x).2 (rndp ks I Pr μ x Q)) : Snp ks P T N (.loop c) env ol Q := by
  refine snp_emb h0.1 h0.2 ?_
  intro κ0 X κ a w hP hTT hR hE hN hD hpin
  have key : ∀ n x, μ x = n → Pr x → ∀ (κ : Gh) (a : Act) (w : World), Rel X κ (I x).2.ob w → EnvR (KK X κ (I x).2.ob w) (I x).1 a.tmps → a.tmps.size = N → a.defers = [] → PinOk ks κ0 X κ (I x).2 w →
      ∀ (b : Frame) (k : List Item) (cs : List Frame), ∃ e a' w', QQp ks κ0 X N Q e a' w' ∧ Arrives P (lone (b.at a (.code c :: .inLoop c :: k)) cs w) b k cs e a' w' := by
    intro n
    induction n using Nat.strongRecOn with
    | _ n ih =>
      intro x hx hpx κ a w hR hE hN hD hpin b k cs
      obtain ⟨e, a1, w1, hq, harr⟩ := round x hpx κ0 X κ a w hP hTT hR hE hN hD hpin b (.inLoop c :: k) cs
      obtain ⟨κ', env', ol', hq, hR', hE', hN', hD', hpin'⟩ := hq
      cases e with
      | normal =>
        obtain ⟨x', ρ', ⟨hemb, hpi⟩, hpx', hlt⟩ := hq
        obtain ⟨κ2, hR2, hV⟩ := hemb.rel hR'
        obtain ⟨e2, a2, w2, hq2, harr2⟩ := ih (μ x') (hx ▸ hlt) x' rfl hpx' κ2 a1 w1 hR2 (hemb.envR hV hE') hN' hD' (hpin'.emb hpi hV) b k cs
        exact ⟨e2, a2, w2, hq2, .of_steps (Steps.trans harr (.one step_inLoop)) harr2⟩
      | exit id => exact ⟨_, a1, w1, ⟨κ', env', ol', hq, hR', hE', hN', hD', hpin'⟩, .pass (x := .inLoop c) rfl (fun _ _ => .inl (by simp)) harr⟩
      | goto l => exact ⟨_, a1, w1, ⟨κ', env', ol', hq, hR', hE', hN', hD', hpin'⟩, .pass (x := .inLoop c) rfl (fun _ _ => .inl (by simp)) harr⟩
      | ret => exact ⟨_, a1, w1, ⟨κ', env', ol', hq, hR', hE', hN', hD', hpin'⟩, .pass (x := .inLoop c) rfl (fun _ _ => .inl (by simp)) harr⟩
      | panic ch => exact ⟨_, a1, w1, ⟨κ', env', ol', hq, hR', hE', hN', hD', hpin'⟩, .pass (x := .inLoop c) rfl (fun _ _ => .inl (by simp)) harr⟩
      | outgrown => exact ⟨_, a1, w1, ⟨κ', env', ol', hq, hR', hE', hN', hD', hpin'⟩, .pass (x := .inLoop c) rfl (fun _ _ => .inl (by simp)) harr⟩
  intro b k cs
  obtain ⟨e, a', w', hq, harr⟩ := key _ x0 rfl hp κ a w hR hE hN hD hpin b k cs
  exact ⟨e, a', w', hq, .of_steps (.one step_loop) harr⟩
structure MCalls (P : Program) (T : TT) (f : FuncId) (ks : List Nat) (ars : List AV) (ol0 : OL) (r : AV) (ol1 : OL) : Prop where
  ent : Ent P f
  go : ∀ (X : Cx) (κ : Gh) (w : World) (cs : List Value), X.P = P → X.T = T → X.w0 = w → Rel X κ ol0.ob w → VRs (KK X κ ol0.ob w) ars cs →
    Calls P f cs.toArray w (fun e w' => ∃ c κ', e = .returned c ∧ Rel X κ' ol1.ob w' ∧ VR (KK X κ' ol1.ob w') r c ∧ PinOk ks κ X κ' ol1 w')
def retQp (ks : List Nat) (T : TT) (rs : List ResultVar) (r : AV) (H : OL) : Exit → Env → OL → Prop
  | .normal, env, ol => RetW T rs env ol (fun v => ∃ ρ, Emb ρ [(0, v)] ol [(0, r)] H ∧ pins ks ρ H)
  | .ret, env, ol => RetW T rs env ol (fun v => ∃ ρ, Emb ρ [(0, v)] ol [(0, r)] H ∧ pins ks ρ H)
  | _, _, _ => False
theorem mcalls_of (hT : TOk P T) {f : FuncId} {fn : Func} {c : Code} {ars : List AV} {r : AV} {ol0 H : OL} (hf : P.funcs[f]? = some fn) (hb : fn.body = some c) (hname : (fn.name == "runtime.NumGoroutine") = false)
    (hN : ars.length ≤ fn.ntmps) (hk : allP (fun k => ol0.has k = true) ks) (h : Snp ks P T fn.ntmps c (argsEnv 0 ars) ol0 (retQp ks T fn.results.toList r H)) : MCalls P T f ks ars ol0 r H := by
  refine ⟨fun args w => ?_, fun X κ w cs hP hTT hw0 hR hvs => ?_⟩
  · have hn2 : ¬ fn.name = "runtime.NumGoroutine" := by simpa using hname
    simp [callFunc, hf, hn2, hb]
  · have hlen : ∀ (ars : List AV) (cs : List Value) (K : Kx), VRs K ars cs → cs.length = ars.length := by
      intro ars
      induction ars with
      | nil => intro cs K h; cases cs with
        | nil => rfl
        | cons => exact h.elim
      | cons a ars ih => intro cs K h; cases cs with
        | nil => exact h.elim
        | cons c cs => simp [ih cs K h.2]
    have hl := hlen ars cs _ hvs
    refine calls_of_wp hf hb ?_
    have hp0 : PinOk ks κ X κ ol0 w := ⟨fun k hk' => allP_mem hk k hk', fun _ _ _ => ⟨rfl, rfl⟩, fun b cur e fr hb => ⟨cur, fr, by rw [← hw0]; exact hb, rfl⟩⟩
    refine wp_mono (h κ X κ _ w hP hTT hR (fun t => ?_) ?_ rfl hp0) ?_
    · have := argsEnv_ok ars cs 0 t hvs
      rw [if_pos (Nat.zero_le _), Nat.sub_zero] at this
      have e : (cs.toArray ++ Array.replicate (fn.ntmps - cs.toArray.size) undef).getD t undef = cs.getD t undef := by
        simp only [Array.getD_eq_getD_getElem?, List.getD_eq_getElem?_getD]
        rw [Array.getElem?_append]
        split
        · simp
        · rename_i hge
          rw [List.getElem?_eq_none (by simpa using hge)]
          rw [Array.getElem?_replicate]
          split <;> rfl
      rw [e]
      exact this
    · simp only [Array.size_append, List.size_toArray, Array.size_replicate]
      omega
    · rintro ex a' w' ⟨κ', env', ol', hq, hR', hE', hN', hD', hp'⟩
      have fin : RetW T fn.results.toList env' ol' (fun v => ∃ ρ, Emb ρ [(0, v)] ol' [(0, r)] H ∧ pins ks ρ H) → a'.defers = [] ∧ ∃ v, (results fn a'.tmps).run P w' = .ok v w' ∧ (∃ c κ', Ending.returned v = .returned c ∧ Rel X κ' H.ob w' ∧ VR (KK X κ' H.ob w') r c ∧ PinOk ks κ X κ' H w') := by
        intro hret
        obtain ⟨v, ⟨ρ, hemb, hpi⟩, hrun⟩ := RetW_run hT hret
        obtain ⟨c, h1, h2⟩ := hrun _ κ' w' a'.tmps hP hTT hR' hE'
        obtain ⟨κ2, hR2, hV⟩ := hemb.rel hR'
        refine ⟨hD', c, h1, c, κ2, rfl, hR2, ?_, hp'.emb hpi hV⟩
        exact MtE_VR hV hemb.1.1 h2
      cases ex with
      | normal => exact fin hq
      | ret => exact fin hq
      | _ => exact hq.elim
end
end Go.Am

set_option linter.unusedVariables false
set_option linter.unusedSimpArgs false
namespace Go.Am
def AV.inner (D : Nat → Bool) : AV → Prop
  | .arr _ f => ∀ i, (f i).inner D
  | .sct _ f => ∀ i, (f i).inner D
  | .tup _ f => ∀ i, (f i).inner D
  | .own k _ _ _ => D k = true
  | .cptr _ => False
  | .ro _ _ => False
  | .ptr _ _ _ _ _ => False
  | .fn _ n _ => n = 0
  | _ => True
structure SameD (D : Nat → Bool) (K K' : Kx) : Prop where
  heap : K'.heap = K.heap
  dom : ∀ k, D k = true → K'.dom k
  blk : ∀ k, D k = true → ∀ i, K'.blk k i = K.blk k i ∧ K'.shp k i = K.shp k i
  sz : K'.sz = K.sz
  zr : K'.zr = K.zr
theorem ownR_same {D : Nat → Bool} {K K' : Kx} (h : SameD D K K') {k i n : Nat} {e : TypeId} {c : Value} (hk : D k = true) (ho : K.ownR k i n e c) : K'.ownR k i n e c := by
  obtain ⟨_, hn, cap, cur, fr, rfl, h1, h2, h3, h4⟩ := ho
  obtain ⟨b1, b2⟩ := h.blk k hk i
  exact ⟨h.dom k hk, by rw [b2, h.zr]; exact hn, cap, cur, fr, by rw [b1], h1, h2, by rw [b1, h.heap]; exact h3, by rw [h.sz]; exact h4⟩
theorem FL_inner {D : Nat → Bool} {K K' : Kx} (h : SameD D K K') : ∀ {v : AV} {cs : List Value}, v.inner D → FL K v cs → FL K' v cs := by
  intro v
  induction v with
  | arr n f ih =>
    rintro cs hv ⟨g, rfl, hg⟩
    exact ⟨g, rfl, fun i hi => ⟨ih i (hv i) (hg i hi).1, (hg i hi).2⟩⟩
  | sct n f ih =>
    rintro cs hv ⟨g, rfl, hg⟩
    exact ⟨g, rfl, fun i hi => ih i (hv i) (hg i hi)⟩
  | own k i n e => rintro cs hv ⟨c, rfl, hc⟩; exact ⟨c, rfl, ownR_same h hv hc⟩
  | cptr v ih => intro cs hv; exact hv.elim
  | ro n f ih => intro cs hv; exact hv.elim
  | fn q n caps ih =>
    rintro cs hv ⟨cv, rfl, h1, h2⟩
    have hn : n = 0 := hv
    subst hn
    exact ⟨cv, rfl, h1, fun i hi => absurd hi (Nat.not_lt_zero _)⟩
  | tup n f _ => intro cs _ h; exact h.elim
  | ptr k i p o r _ => intro cs _ h; exact h.elim
  | _ => intro cs _ h; exact h
theorem VR_inner {D : Nat → Bool} {K K' : Kx} (h : SameD D K K') : ∀ {v : AV} {c : Value}, v.inner D → VR K v c → VR K' v c := by
  intro v
  induction v with
  | arr n f ih => rintro c hv ⟨cs, rfl, hc⟩; exact ⟨cs, rfl, FL_inner (v := .arr n f) h hv hc⟩
  | sct n f ih => rintro c hv ⟨cs, rfl, hc⟩; exact ⟨cs, rfl, FL_inner (v := .sct n f) h hv hc⟩
  | tup n f ih => rintro c hv ⟨vs, rfl, h1, h2⟩; exact ⟨vs, rfl, h1, fun i hi => ih i (hv i) (h2 i hi)⟩
  | fn q n caps ih =>
    rintro c hv ⟨cv, rfl, h1, h2⟩
    have hn : n = 0 := hv
    subst hn
    exact ⟨cv, rfl, h1, fun i hi => absurd hi (Nat.not_lt_zero _)⟩
  | ptr => intro c hv; exact hv.elim
  | cptr => intro c hv; exact hv.elim
  | ro => intro c hv; exact hv.elim
  | any => intro c _ _; trivial
  | own k i n e => intro c hv hc; exact FL_inner (v := .own k i n e) h hv hc
  | _ => intro c _ hc; exact hc
def innerL (D : Nat → Bool) : List AV → Prop
  | [] => True
  | a :: r => a.inner D ∧ innerL D r
theorem VRs_inner {D : Nat → Bool} {K K' : Kx} (h : SameD D K K') : ∀ {ars : List AV} {cs : List Value}, innerL D ars → VRs K ars cs → VRs K' ars cs
  | [], [], _, _ => trivial
  | [], _ :: _, _, h2 => h2.elim
  | a :: ars, [], _, h2 => h2.elim
  | a :: ars, c :: cs, hi, h2 => ⟨VR_inner h hi.1 h2.1, VRs_inner h hi.2 h2.2⟩
section
variable {P : Program} {T : TT}
theorem EnvR_args {K : Kx} {env : Env} {a : Act} (h : EnvR K env a.tmps) : ∀ (xs : List Operand), VRs K (xs.map (evE env)) (xs.map a.eval)
  | [] => trivial
  | x :: r => ⟨h.ev x, EnvR_args h r⟩
theorem run_call {f : FuncId} (hE : Ent P f) {dst : Option Nat} {ty : TypeId} {pos : String} {af : Array Edge} {gu : Option (Nat × Bool)} {args : Array Operand} {aty : Array TypeId} (act : Act) (w : World) :
    (execOp act.eval ⟨dst, .call { callee := .value (.func f), args := args, argTypes := aty }, ty, pos, af, gu⟩).run P w = .ok (.enter f (args.map act.eval)) w := by
  have h0 := hE (args.map act.eval) w
  have hf : act.eval (.func f) = .func (.func f) #[] #[] := rfl
  simp only [execOp, resolve, hf, Deferred.ofValue, Sem.run_bind, Sem.run_pure, Result.andThen_ok, invoke]
  simpa using h0
theorem mut_mid1 (hT : TOk P T) {f : FuncId} {q n e : Nat} {sh c0 c1 r : AV} {more : List AV} (hc : MCalls P T f [q] (.own q 0 n e :: more) [(q, .one sh c0)] r [(q, .one sh c1)]) {dst : Option Nat} {ty : TypeId} {pos : String} {af : Array Edge} {gu : Option (Nat × Bool)} {s : Operand} {args : List Operand} {aty : Array TypeId} {env : Env} {ol : OL} {k i : Nat}
    (hs : evE env s = .own k i n e) (ha : args.map (evE env) = more) (hin : innerL (fun _ => false) more) (hr : r.inner (fun _ => false)) (h0 : c0.inner (fun _ => false)) (h1 : c1.inner (fun _ => false))
    (hat : ol.at_ k i = some (sh, c0)) :
    MidJ P T ⟨dst, .call { callee := .value (.func f), args := (s :: args).toArray, argTypes := aty }, ty, pos, af, gu⟩ env ol r (ol.set k i (some (sh, c1))) := by
  intro X κ w act hP hTT hR hEn
  have hhas : ol.has k = true := OL.has_of_at (i := i) (by rw [hat]; simp)
  have hlive : ol.ob.at_ k i ≠ none := by show ol.at_ k i ≠ none; rw [hat]; simp
  obtain ⟨cur0, e0, m1, m2, m3, m4, m5, m6, m7⟩ := hR.live k i sh c0 hat
  let X' : Cx := ⟨P, T, w, fun _ => False, fun b => b = κ.blk k i⟩
  let κ0 : Gh := ⟨fun _ _ => κ.blk k i, fun _ _ => κ.shp k i⟩
  have hq0 : ∀ k' i' sh' c', OL.at_ [(q, .one sh c0)] k' i' = some (sh', c') → k' = q ∧ i' = 0 ∧ sh' = sh ∧ c' = c0 := by
    intro k' i' sh' c' h
    simp only [OL.at_] at h
    cases hb : Nat.beq k' q
    · rw [hb] at h; cases h
    · rw [hb] at h
      simp only [cond_true, Fam.at_] at h
      cases hi : Nat.beq i' 0
      · rw [hi] at h; cases h
      · rw [hi] at h
        simp only [cond_true, Option.some.injEq, Prod.mk.injEq] at h
        exact ⟨Nat.eq_of_beq_eq_true hb, Nat.eq_of_beq_eq_true hi, h.1.symm, h.2.symm⟩
  have hqn : ∀ k' i', OL.at_ [(q, .one sh c0)] k' i' ≠ none → k' = q ∧ i' = 0 := by
    intro k' i' h
    cases hh : OL.at_ [(q, .one sh c0)] k' i' with
    | none => exact absurd hh h
    | some p => exact ⟨(hq0 k' i' p.1 p.2 hh).1, (hq0 k' i' p.1 p.2 hh).2.1⟩
  have hD0 : SameD (fun _ => false) (KK X κ ol.ob w) (KK X' κ0 (OL.ob [(q, .one sh c0)]) w) :=
    ⟨rfl, fun _ h => (by cases h), fun _ h => (by cases h), by show T.sz = X.T.sz; rw [hTT], by show T.zero = X.T.zero; rw [hTT]⟩
  have hR' : Rel X' κ0 (OL.ob [(q, .one sh c0)]) w := by
    refine ⟨rfl, rfl, rfl, Nat.le_refl _, fun _ _ _ => rfl, fun k' i' sh' c' hq => ?_, fun k' i' k2 i2 hq hq2 _ => ?_, fun k' i' hq => OL.has_of_at hq, fun b hb => hb.elim, fun b hb => ?_⟩
    · obtain ⟨_, _, rfl, rfl⟩ := hq0 k' i' sh' c' hq
      exact ⟨cur0, e0, m1, m2, FL_inner hD0 h0 m3, m4, m5, .inr rfl, fun h => h⟩
    · obtain ⟨rfl, rfl⟩ := hqn k' i' hq
      obtain ⟨rfl, rfl⟩ := hqn k2 i2 hq2
      exact ⟨rfl, rfl⟩
    · have hb' : b = κ.blk k i := hb
      rw [hb']
      exact (Array.getElem?_eq_some_iff.1 m1).1
  have hvs : VRs (KK X' κ0 (OL.ob [(q, .one sh c0)]) w) (.own q 0 n e :: more) ((s :: args).toArray.map act.eval).toList := by
    have h1 := EnvR_args hEn args
    rw [ha] at h1
    have h2 := hEn.ev s
    rw [hs] at h2
    simp only [List.map_toArray, List.map_cons]
    refine ⟨?_, VRs_inner hD0 hin h1⟩
    obtain ⟨_, hn, cap, cur, fr, hv, g1, g2, g3, g4⟩ := VR_own h2
    rw [hv]
    exact ⟨_, rfl, by show OL.has [(q, .one sh c0)] q = true; simp [OL.has], by show κ.shp k i = AV.arr n (fun _ => T.zero e); exact hn.trans (by show AV.arr n (fun _ => X.T.zero e) = _; rw [hTT]), cap, cur, fr, rfl, g1, g2, g3, by show cur.size = cap * T.sz e; rw [g4]; show cap * X.T.sz e = _; rw [hTT]⟩
  rw [run_call hc.ent]
  show Calls X.P f _ w _
  rw [hP]
  have := hc.go X' κ0 w ((s :: args).toArray.map act.eval).toList rfl rfl rfl hR' hvs
  rw [Array.toArray_toList] at this
  refine Calls.mono this ?_
  rintro ex w' ⟨c, κ', rfl, hR1, hv, hpin⟩
  have hb' : ∀ b, b < w.heap.size → b ≠ κ.blk k i → w'.heap[b]? = w.heap[b]? := hR1.block
  have hs' : w.heap.size ≤ w'.heap.size := hR1.size
  obtain ⟨cur1, e1, l1, l2, l3, l4, l5, _, _⟩ := hR1.live q 0 sh c1 (by show OL.at_ [(q, .one sh c1)] q 0 = _; simp [OL.at_, Fam.at_])
  have hblk : κ'.blk q 0 = κ.blk k i := (hpin.blk q (by simp) 0).1
  rw [hblk] at l1
  have hset : ∀ k' i', (ol.set k i (some (sh, c1))).at_ k' i' ≠ none ↔ ol.at_ k' i' ≠ none := fun k' i' => by
    rw [OL.at_set]
    split
    · rename_i h; obtain ⟨rfl, rfl⟩ := h; rw [hat]; simp
    · exact Iff.rfl
  have hhas' : ∀ k', (ol.set k i (some (sh, c1))).has k' = ol.has k' := fun k' => by
    rw [OL.has_set]
    cases hb : Nat.beq k' k
    · simp
    · rw [Nat.eq_of_beq_eq_true hb, hhas]; rfl
  have hle : Le (KK X κ ol.ob w) (KK X κ (OL.ob (ol.set k i (some (sh, c1)))) w') := by
    refine Le.step hs' (fun b hb => ⟨hb' b (hR.J_lt hb) (fun he => hb.2 k i hlive he.symm), fun k' i' hq => hb.2 k' i' ((hset k' i').1 hq)⟩) (fun k' hk' => ⟨by show OL.has _ k' = true; rw [hhas']; exact hk', fun i => ⟨rfl, rfl⟩⟩) hpin.size
  have hD1 : SameD (fun _ => false) (KK X' κ' (OL.ob [(q, .one sh c1)]) w') (KK X κ (OL.ob (ol.set k i (some (sh, c1)))) w') :=
    ⟨rfl, fun _ h => (by cases h), fun _ h => (by cases h), by show X.T.sz = T.sz; rw [hTT], by show X.T.zero = T.zero; rw [hTT]⟩
  refine ⟨c, κ, rfl, ?_, VR_inner hD1 hr hv, hle⟩
  refine ⟨hR1.os.trans hR.os, hR1.tape.trans hR.tape, hR1.output.trans hR.output, Nat.le_trans hR.size hs', fun b hb hM => ?_, fun k' i' sh' c' hq => ?_, fun k' i' k2 i2 hq hq2 he => hR.inj k' i' k2 i2 ((hset k' i').1 hq) ((hset k2 i2).1 hq2) he, fun k' i' hq => ?_, hR.hI, hR.hM⟩
  · refine (hb' b (Nat.lt_of_lt_of_le hb hR.size) (fun he => ?_)).trans (hR.block b hb hM)
    subst he
    rcases m6 with m6 | m6
    · omega
    · exact hM m6
  · have hq : (ol.set k i (some (sh, c1))).at_ k' i' = some (sh', c') := hq
    rw [OL.at_set] at hq
    by_cases h : k' = k ∧ i' = i
    · rw [if_pos h] at hq
      obtain ⟨q1, q2⟩ := Prod.mk.inj (Option.some.inj hq)
      obtain ⟨rfl, rfl⟩ := h
      subst q1; subst q2
      exact ⟨cur1, e1, l1, l2, FL_inner hD1 h1 l3, l4, m5, m6, m7⟩
    · rw [if_neg h] at hq
      obtain ⟨cur, e', g1, g2, g3, g4, g5, g6, g7⟩ := hR.live k' i' sh' c' hq
      have hne : κ.blk k' i' ≠ κ.blk k i := fun he => h (hR.inj k' i' k i (by show ol.at_ k' i' ≠ none; rw [hq]; simp) hlive he)
      exact ⟨cur, e', (hb' _ (Array.getElem?_eq_some_iff.1 g1).1 hne).trans g1, g2, FL_mono hle g3, g4, g5, g6, g7⟩
  · have := OL.has_of_at ((hset k' i').1 hq)
    show OL.has _ k' = true
    rw [hhas']; exact this
end
end Go.Am

set_option linter.unusedVariables false
set_option linter.unusedSimpArgs false
namespace Go.Am
section
variable {p : Int} {n : Nat} {T : Nat → Nat → Nat → Int}
def cg (p : Int) (n : Nat) (u v : Nat → Int) : Prop := ∀ j, j < n → p ∣ u j - v j
theorem cg.rf (u : Nat → Int) : cg p n u u := fun j _ => dvd_rf rfl
theorem cg.sy {u v : Nat → Int} (h : cg p n u v) : cg p n v u := fun j hj => dvd_sy (h j hj)
theorem VV.ext {u v : Nat → Int} (hu : VV p n u) (hv : VV p n v) (h : cg p n u v) : u = v := by
  funext k
  by_cases hk : k < n
  · exact eq_of_dvd (hu.b k) (hv.b k) (h k hk)
  · rw [hu.z k (by omega), hv.z k (by omega)]
theorem VV.zero (hp : 0 < p) : VV p n (fun _ => 0) := ⟨fun _ => ⟨Int.le_refl _, hp⟩, fun _ _ => rfl⟩
theorem VV.eF (hp : 1 < p) {i : Nat} (hi : i < n) : VV p n (eF i) := ⟨eF_Bp hp i, fun k hk => by rw [eF_dl]; unfold dl; rw [if_neg (by omega)]⟩
theorem VV.add (hp : 0 < p) {u v : Nat → Int} (hu : VV p n u) (hv : VV p n v) (c : Int) : VV p n (addF p u v c) := ⟨addF_Bp hp u v c, fun k hk => by unfold addF; rw [hu.z k hk, hv.z k hk, Int.mul_zero]; rfl⟩
theorem VV.eqN {u v : Nat → Int} (h6 : n ≤ 6) (hu : VV p n u) (hv : VV p n v) : eqN 6 u v ↔ u = v := by
  constructor
  · intro h
    funext k
    by_cases hk : k < 6
    · exact h k hk
    · rw [hu.z k (by omega), hv.z k (by omega)]
  · rintro rfl k _; rfl
def s3 (n : Nat) (f : Nat → Nat → Nat → Int) : Int := sumZ (fun i => sumZ (fun j => sumZ (f i j) n) n) n
end
section
variable {p : Int} {n : Nat} {T : Nat → Nat → Nat → Int} {fo : Nat → Int}
def iM (p : Int) (n : Nat) (T : Nat → Nat → Nat → Int) (v : Nat → Int) (x j : Nat) : Nat → Int := if x = 0 then timesF p n T v (eF j) else timesF p n T (eF j) v
noncomputable abbrev iR (p : Int) (n : Nat) (T : Nat → Nat → Nat → Int) (v : Nat → Int) : Nat → Nat → Int := sysR n (iM p n T v) (fun _ => uF p n T)
def iOk (p : Int) (n : Nat) (T : Nat → Nat → Nat → Int) (v : Nat → Int) : Prop := conP n (redGo p (2 * n) (iR p n T v) (n + 1)).no (redGo p (2 * n) (iR p n T v) (n + 1)).O
noncomputable instance (p : Int) (n : Nat) (T : Nat → Nat → Nat → Int) (v : Nat → Int) : Decidable (iOk p n T v) := Classical.propDecidable _
def oS (p : Int) (n N : Nat) (S : Nat → Nat → Int) : Prop := oneP n (echGo p (n + 1) S N).no (echGo p (n + 1) S N).O
noncomputable instance (p : Int) (n N : Nat) (S : Nat → Nat → Int) : Decidable (oS p n N S) := Classical.propDecidable _
end
end Go.Am

set_option linter.unusedVariables false
set_option linter.unusedSimpArgs false
namespace Go.Am
section
variable {H : Type} {enc : TypeId × Value → H} {P : Program} {w : World} {base : Nat} {spare : Nat → Bool} {held : Bool}
end
end Go.Am

set_option linter.unusedVariables false
set_option linter.unusedSimpArgs false
namespace Go.Am
section
variable {p : Int} {m : Nat}
end
section
variable {p : Int} {m no : Nat} {O O' : Nat → Nat → Int}
end
end Go.Am

set_option linter.unusedVariables false
set_option linter.unusedSimpArgs false
namespace Go.Am
def symA (n : Nat) (F : Nat → Nat → Int) : Prop := ∀ i, i < n → ∀ j, j < n → F j i = F i j
def symS (n : Nat) (F : Nat → Nat → Int) : Prop := ∀ i, i < n → ∀ j, j < i → F i j = F j i
noncomputable instance (n : Nat) (F : Nat → Nat → Int) : Decidable (symA n F) := Classical.propDecidable _
noncomputable instance (n : Nat) (F : Nat → Nat → Int) : Decidable (symS n F) := Classical.propDecidable _
theorem Mt.rf {V : Vw} {v : AV} (h : v.closed) (hn : v ≠ .any) : Mt V v v := Mt_closed h (fun _ _ _ => trivial) hn
end Go.Am

set_option linter.unusedVariables false
set_option linter.unusedSimpArgs false
namespace Go.Am
def kdx (fr : Nat → Bool) (i : Nat) (o : Oper) : Nat := bif fr i then 0 else kind o
theorem kdx_le (fr : Nat → Bool) (i : Nat) (o : Oper) : kdx fr i o = 0 ∨ kdx fr i o = 1 ∨ kdx fr i o = 2 := by
  unfold kdx
  cases fr i
  · exact kind_le o
  · exact .inl rfl
def StepK (q : Nat) (P : Program) (T : TT) (arr : Array Oper) (o : Oper) (env : Env) (ol : OL) (v : AV) (ol' : OL) : Prop :=
  (gd arr o env = some false ∧ v = undA ∧ ol' = ol) ∨
  (gd arr o env = some true ∧
    ((q = 0 ∧ ol' = ol ∧ PureJ P T o (evE env) v) ∨
     (q = 1 ∧ ∃ A : OL, ol' = A ++ ol ∧ PassJ' P T o (evE env) ol.ob v A ∧ ∀ k, A.has k = true → ol.has k = false) ∨
     (q = 2 ∧ ActJ P T o (evE env) ol.ob v ol'.ob)))
structure DrawOkX (ops : Array Oper) (U : Nat → Nat → Bool) (fr : Nat → Bool) : Prop where
  back : ∀ i oi, ops[i]? = some oi → ∀ e ∈ oi.after, Region.binds .any e = true → e.on < i
  clos : ∀ i oi j, ops[i]? = some oi → j < ops.size → U i j = true → ∃ e ∈ oi.after, Region.binds .any e = true ∧ (e.on = j ∨ U e.on j = true)
  ap : ∀ i oi j oj, ops[i]? = some oi → ops[j]? = some oj → j < i → oj.apart ops oi = true ∨ U i j = true
  act1 : ∀ i oi j oj, ops[i]? = some oi → ops[j]? = some oj → kdx fr i oi = 2 → kdx fr j oj = 1 → j < i → U i j = true
  act1' : ∀ i oi j oj, ops[i]? = some oi → ops[j]? = some oj → kdx fr i oi = 2 → kdx fr j oj = 1 → i < j → U j i = true
  act2 : ∀ i oi j oj, ops[i]? = some oi → ops[j]? = some oj → kdx fr i oi = 2 → kdx fr j oj = 2 → j < i → U i j = true
def chkX (ops : Array Oper) (U : Nat → Nat → Bool) (fr : Nat → Bool) : Bool :=
  (List.range ops.size).all fun i => match ops[i]? with
    | none => true
    | some oi =>
      (oi.after.toList.all fun e => !Region.binds .any e || Nat.blt e.on i) &&
      (List.range ops.size).all fun j => match ops[j]? with
        | none => true
        | some oj =>
          (!U i j || oi.after.toList.any fun e => Region.binds .any e && (Nat.beq e.on j || U e.on j)) &&
          (!(Nat.blt j i) || (U i j || oj.apart ops oi)) &&
          (!(Nat.beq (kdx fr i oi) 2) || (!(Nat.beq (kdx fr j oj) 1) || ((!(Nat.blt j i) || U i j) && (!(Nat.blt i j) || U j i)))) &&
          (!(Nat.beq (kdx fr i oi) 2) || (!(Nat.beq (kdx fr j oj) 2) || (!(Nat.blt j i) || U i j)))
theorem chkX_ok {ops : Array Oper} {U : Nat → Nat → Bool} {fr : Nat → Bool} (h : chkX ops U fr = true) : DrawOkX ops U fr := by
  simp only [chkX, List.all_eq_true, List.mem_range] at h
  have lt : ∀ {i : Nat} {oi : Oper}, ops[i]? = some oi → i < ops.size := fun hi => (Array.getElem?_eq_some_iff.1 hi).1
  have g1 : ∀ i oi, ops[i]? = some oi → ∀ e ∈ oi.after.toList, (!Region.binds .any e || Nat.blt e.on i) = true := by
    intro i oi hi
    have := h i (lt hi)
    rw [hi] at this
    simp only [Bool.and_eq_true, List.all_eq_true] at this
    exact this.1
  have g2 : ∀ i oi j oj, ops[i]? = some oi → ops[j]? = some oj →
      ((((!U i j || oi.after.toList.any fun e => Region.binds .any e && (Nat.beq e.on j || U e.on j)) = true ∧ (!(Nat.blt j i) || (U i j || oj.apart ops oi)) = true) ∧
      (!(Nat.beq (kdx fr i oi) 2) || (!(Nat.beq (kdx fr j oj) 1) || ((!(Nat.blt j i) || U i j) && (!(Nat.blt i j) || U j i)))) = true) ∧ (!(Nat.beq (kdx fr i oi) 2) || (!(Nat.beq (kdx fr j oj) 2) || (!(Nat.blt j i) || U i j))) = true) := by
    intro i oi j oj hi hj
    have := h i (lt hi)
    rw [hi] at this
    simp only [Bool.and_eq_true, List.all_eq_true, List.mem_range] at this
    have := this.2 j (lt hj)
    rw [hj] at this
    simpa only [Bool.and_eq_true] using this
  refine ⟨fun i oi hi e he hb => ?_, fun i oi j hi hj hu => ?_, fun i oi j oj hi hj hlt => ?_, fun i oi j oj hi hj h2 h1 hlt => ?_, fun i oi j oj hi hj h2 h1 hlt => ?_, fun i oi j oj hi hj h2 h1 hlt => ?_⟩
  · have := (g1 i oi hi) e (by simpa using he)
    simpa [hb, Nat.blt_eq] using this
  · have := (g2 i oi j ops[j] hi (by simp [hj])).1.1.1
    simp only [hu, Bool.not_true, Bool.false_or, List.any_eq_true, Bool.and_eq_true, Bool.or_eq_true] at this
    obtain ⟨e, he, hb, hq⟩ := this
    exact ⟨e, by simpa using he, hb, hq.imp (fun h => Nat.eq_of_beq_eq_true h) id⟩
  · have := (g2 i oi j oj hi hj).1.1.2
    have hb : Nat.blt j i = true := by rw [Nat.blt_eq]; exact hlt
    simp only [hb, Bool.not_true, Bool.false_or, Bool.or_eq_true] at this
    exact this.symm
  · have := (g2 i oi j oj hi hj).1.2
    have hb : Nat.blt j i = true := by rw [Nat.blt_eq]; exact hlt
    simp [h2, h1, hb] at this
    exact this.1
  · have := (g2 i oi j oj hi hj).1.2
    have hb : Nat.blt i j = true := by rw [Nat.blt_eq]; exact hlt
    simp [h2, h1, hb] at this
    exact this.2
  · have := (g2 i oi j oj hi hj).2
    have hb : Nat.blt j i = true := by rw [Nat.blt_eq]; exact hlt
    simpa [h2, h1, hb] using this
def drawOkX (ops : Array Oper) (fr : Nat → Bool) : Bool := chkX ops (Uof (numsOf ops)) fr
structure TrX (P : Program) (T : TT) (ops : Array Oper) (fr : Nat → Bool) (env : Env) (V : Nat → AV) (O : Nat → OL) : Prop where
  step : ∀ k o, ops[k]? = some o → StepK (kdx fr k o) P T ops o (envOf V (fun j => decide (j < k)) 0 ops.toList env) (O k) (V k) (O (k + 1))
variable {P : Program} {T : TT} {ops : Array Oper} {U : Nat → Nat → Bool} {fr : Nat → Bool} {env : Env} {V : Nat → AV} {O : Nat → OL}
theorem TrX.same (ht : TrX P T ops fr env V O) {k : Nat} {o : Oper} (hk : ops[k]? = some o) (h0 : kdx fr k o = 0) : O (k + 1) = O k := by
  rcases ht.step k o hk with ⟨_, _, h⟩ | ⟨_, ⟨_, h, _⟩ | ⟨h, _⟩ | ⟨h, _⟩⟩
  · exact h
  · exact h
  · rw [h0] at h; cases h
  · rw [h0] at h; cases h
theorem TrX.up (ht : TrX P T ops fr env V O) {j : Nat} {o : Oper} (hj : ops[j]? = some o) (h2 : kdx fr j o ≠ 2) {k : Nat} (hk : (O j).has k = true) : (O (j + 1)).has k = true ∧ ∀ i, (O (j + 1)).at_ k i = (O j).at_ k i := by
  rcases ht.step j o hj with ⟨_, _, h⟩ | ⟨_, ⟨_, h, _⟩ | ⟨_, A, h, _, hf⟩ | ⟨h, _⟩⟩
  · rw [h]; exact ⟨hk, fun _ => rfl⟩
  · rw [h]; exact ⟨hk, fun _ => rfl⟩
  · rw [h]
    refine ⟨by rw [OL.has_append, hk]; simp, fun i => ?_⟩
    rw [OL.at_append]
    split
    · rename_i hA
      rw [hf k hA] at hk; cases hk
    · rfl
  · exact absurd h h2
def noAct (ops : Array Oper) (fr : Nat → Bool) (a b : Nat) : Prop := ∀ i oi, ops[i]? = some oi → a ≤ i → i < b → kdx fr i oi ≠ 2
theorem noAct.sub {a b a' b' : Nat} (h : noAct ops fr a b) (ha : a ≤ a') (hb : b' ≤ b) : noAct ops fr a' b' := fun i oi hi h1 h2 => h i oi hi (by omega) (by omega)
theorem TrX.chain (ht : TrX P T ops fr env V O) {a : Nat} : ∀ d, a + d ≤ ops.size → noAct ops fr a (a + d) → ∀ {k : Nat}, (O a).has k = true → (O (a + d)).has k = true ∧ ∀ i, (O (a + d)).at_ k i = (O a).at_ k i
  | 0, _, _, k, hk => ⟨hk, fun _ => rfl⟩
  | d + 1, h, hn, k, hk => by
    obtain ⟨h1, h2⟩ := ht.chain d (by omega) (hn.sub (Nat.le_refl _) (by omega)) hk
    have hlt : a + d < ops.size := by omega
    have hx : ops[a + d]? = some ops[a + d] := by simp [hlt]
    obtain ⟨h3, h4⟩ := ht.up hx (hn _ _ hx (by omega) (by omega)) h1
    exact ⟨h3, fun i => (h4 i).trans (h2 i)⟩
theorem TrX.mono (ht : TrX P T ops fr env V O) {a b : Nat} (hab : a ≤ b) (hb : b ≤ ops.size) (hn : noAct ops fr a b) {k : Nat} (hk : (O a).has k = true) : (O b).has k = true ∧ ∀ i, (O b).at_ k i = (O a).at_ k i := by
  obtain ⟨d, rfl⟩ := Nat.exists_eq_add_of_le hab
  exact ht.chain d hb hn hk
theorem TrX.born (ht : TrX P T ops fr env V O) {a : Nat} {k : Nat} : ∀ d, (O (a + d)).has k = true → (O a).has k = true ∨ ∃ j, a ≤ j ∧ j < a + d ∧ (O (j + 1)).has k = true ∧ (O j).has k = false
  | 0, h => .inl h
  | d + 1, h => by
    cases hq : (O (a + d)).has k with
    | true =>
      rcases ht.born d hq with h | ⟨j, h1, h2, h3⟩
      · exact .inl h
      · exact .inr ⟨j, h1, by omega, h3⟩
    | false => exact .inr ⟨a + d, by omega, by omega, h, hq⟩
theorem nextAct (ops : Array Oper) (fr : Nat → Bool) : ∀ d m, m + d = ops.size → ∃ e, m ≤ e ∧ e ≤ ops.size ∧ noAct ops fr m e ∧ (e = ops.size ∨ ∃ oe, ops[e]? = some oe ∧ kdx fr e oe = 2)
  | 0, m, h => ⟨m, Nat.le_refl _, by omega, fun i oi _ h1 h2 => by omega, .inl (by omega)⟩
  | d + 1, m, h => by
    have hlt : m < ops.size := by omega
    have hx : ops[m]? = some ops[m] := by simp [hlt]
    by_cases h2 : kdx fr m ops[m] = 2
    · exact ⟨m, Nat.le_refl _, by omega, fun i oi _ h1 h2 => by omega, .inr ⟨_, hx, h2⟩⟩
    · obtain ⟨e, h3, h4, h5, h6⟩ := nextAct ops fr d (m + 1) (by omega)
      refine ⟨e, by omega, h4, fun i oi hi h7 h8 => ?_, h6⟩
      by_cases hi2 : i = m
      · subst hi2; rw [hx] at hi; cases hi; exact h2
      · exact h5 i oi hi (by omega) h8
structure Mem1 (ops : Array Oper) (fr : Nat → Bool) (O : Nat → OL) (D : Nat → Bool) (ob : Ob) (m e : Nat) : Prop where
  me : m ≤ e
  le : e ≤ ops.size
  acts : ∀ i oi, ops[i]? = some oi → kdx fr i oi = 2 → (D i = true ↔ i < m)
  no : noAct ops fr m e
  nx : e = ops.size ∨ ∃ oe, ops[e]? = some oe ∧ kdx fr e oe = 2
  p1 : ∀ i oi, ops[i]? = some oi → kdx fr i oi = 1 → i < m → D i = true
  p2 : ∀ i oi, ops[i]? = some oi → kdx fr i oi = 1 → e ≤ i → D i = false
  has : ∀ k, ob.has k = true ↔ (O m).has k = true ∨ ∃ j, m ≤ j ∧ j < e ∧ D j = true ∧ (O (j + 1)).has k = true ∧ (O j).has k = false
  at_ : ∀ k, ob.has k = true → ∀ i, ob.at_ k i = (O e).at_ k i
def MemX (ops : Array Oper) (fr : Nat → Bool) (O : Nat → OL) (D : Nat → Bool) (ob : Ob) : Prop := ∃ m e, Mem1 ops fr O D ob m e
theorem Mem1.turn (ht : TrX P T ops fr env V O) {D : Nat → Bool} {ob : Ob} {m e : Nat} (hob : ∀ k i, ob.at_ k i ≠ none → ob.has k = true) (hm : Mem1 ops fr O D ob m e)
    (h1 : ∀ i oi, ops[i]? = some oi → kdx fr i oi = 1 → m ≤ i → i < e → D i = true) : ob = (O e).ob := by
  have hh : ∀ k, ob.has k = true ↔ (O e).has k = true := by
    intro k
    rw [hm.has k]
    constructor
    · rintro (h | ⟨j, hj, hj2, _, h, _⟩)
      · exact (ht.mono hm.me hm.le hm.no h).1
      · exact (ht.mono (by omega : j + 1 ≤ e) hm.le (hm.no.sub (by omega) (Nat.le_refl _)) h).1
    · intro h
      obtain ⟨d, rfl⟩ := Nat.exists_eq_add_of_le hm.me
      rcases ht.born d h with h | ⟨j, hj, hj2, ha, hb⟩
      · exact .inl h
      · refine .inr ⟨j, hj, hj2, ?_, ha, hb⟩
        have hlt : j < ops.size := by have := hm.le; omega
        have hx : ops[j]? = some ops[j] := by simp [hlt]
        rcases kdx_le fr j ops[j] with h0 | h5 | h5
        · rw [ht.same hx h0, hb] at ha; cases ha
        · exact h1 _ _ hx h5 hj hj2
        · exact absurd h5 (hm.no _ _ hx hj hj2)
  refine Ob_ext (fun k i => ?_) (fun k => ?_)
  · cases hk : ob.has k with
    | true => exact hm.at_ k hk i
    | false =>
      have e1 : ob.at_ k i = none := by
        apply Classical.byContradiction
        intro hne
        rw [hob k i hne] at hk; cases hk
      have e2 : (O e).at_ k i = none := by
        apply Classical.byContradiction
        intro hne
        have := (hh k).2 (OL.has_of_at hne)
        rw [this] at hk; cases hk
      rw [e1]
      exact e2.symm
  · have := hh k
    show ob.has k = (O e).has k
    cases hx : ob.has k
    · rw [hx] at this
      cases hy : (O e).has k
      · rfl
      · exact absurd (this.2 hy) (by simp)
    · exact (this.1 hx).symm
section
variable {D D' : Nat → Bool} {i : Nat} {oi : Oper}
theorem Mem1.before (hd : DrawOkX ops U fr) {ob : Ob} {m e : Nat} (hm : Mem1 ops fr O D ob m e) (hi : ops[i]? = some oi) (h1 : kdx fr i oi = 1) (hU : ∀ j, j < ops.size → U i j = true → D j = true) : i < e := by
  have lt : ∀ {i : Nat} {oi : Oper}, ops[i]? = some oi → i < ops.size := fun hi => (Array.getElem?_eq_some_iff.1 hi).1
  apply Nat.lt_of_not_le
  intro hle
  rcases hm.nx with h | ⟨oe, he, h2⟩
  · have := lt hi; omega
  · have hne : e ≠ i := by
      intro h; subst h; rw [hi] at he; cases he; rw [h1] at h2; cases h2
    have := hU e (lt he) (hd.act1' e oe i oi he hi h2 h1 (by omega))
    have := (hm.acts e oe he h2).1 this
    have := hm.me
    omega
theorem MemX.zero (ht : TrX P T ops fr env V O) (hd : DrawOkX ops U fr) (hi : ops[i]? = some oi) (h0 : kdx fr i oi ≠ 2) (hU : ∀ j, j < ops.size → U i j = true → D j = true)
    (hD' : ∀ j, D' j = if j = i then true else D j) (hsame : O (i + 1) = O i) {ob : Ob} (hm : MemX ops fr O D ob) : MemX ops fr O D' ob := by
  obtain ⟨m, e, hm⟩ := hm
  refine ⟨m, e, hm.me, hm.le, fun j oj hj hk => ?_, hm.no, hm.nx, fun j oj hj hk hlt => ?_, fun j oj hj hk hle => ?_, fun k => ?_, hm.at_⟩
  · by_cases hji : j = i
    · subst hji; rw [hi] at hj; cases hj; exact absurd hk h0
    · rw [hD' j, if_neg hji]; exact hm.acts j oj hj hk
  · rw [hD' j]; split
    · rfl
    · exact hm.p1 j oj hj hk hlt
  · by_cases hji : j = i
    · subst hji; rw [hi] at hj; cases hj
      have := hm.before hd hi hk hU
      omega
    · rw [hD' j, if_neg hji]; exact hm.p2 j oj hj hk hle
  · rw [hm.has k]
    constructor
    · rintro (h | ⟨j, ha, hb, hc, hd⟩)
      · exact .inl h
      · exact .inr ⟨j, ha, hb, by rw [hD' j]; split <;> simp_all, hd⟩
    · rintro (h | ⟨j, ha, ha2, hb, hc, hd⟩)
      · exact .inl h
      · by_cases hji : j = i
        · subst hji; rw [hsame, hd] at hc; cases hc
        · rw [hD' j, if_neg hji] at hb
          exact .inr ⟨j, ha, ha2, hb, hc, hd⟩
theorem MemX.one (ht : TrX P T ops fr env V O) (hd : DrawOkX ops U fr) (hi : ops[i]? = some oi) (h1 : kdx fr i oi = 1) (hDi : D i = false) (hU : ∀ j, j < ops.size → U i j = true → D j = true)
    (hD' : ∀ j, D' j = if j = i then true else D j) {A : OL} (hA : O (i + 1) = A ++ O i) (hf : ∀ k, A.has k = true → (O i).has k = false) {ob : Ob} (hm : MemX ops fr O D ob) :
    (∀ k, ob.has k = true → (O i).ob.has k = true → ∀ j, ob.at_ k j = (O i).ob.at_ k j) ∧ (∀ k, A.has k = true → ob.has k = false) ∧ MemX ops fr O D' (A.ob.ext ob) := by
  obtain ⟨m, e, hm⟩ := hm
  have hie := hm.before hd hi h1 hU
  have hmi : m ≤ i := by
    apply Nat.le_of_not_lt
    intro h
    have := hm.p1 i oi hi h1 h
    rw [hDi] at this; cases this
  refine ⟨fun k hk hk2 j => ?_, fun k hk => ?_, m, e, hm.me, hm.le, fun j oj hj hk => ?_, hm.no, hm.nx, fun j oj hj hk hlt => ?_, fun j oj hj hk hle => ?_, fun k => ?_, fun k hk j => ?_⟩
  · rw [hm.at_ k hk j]
    exact (ht.mono (Nat.le_of_lt hie) hm.le (hm.no.sub hmi (Nat.le_refl _)) hk2).2 j
  · have hn := hf k hk
    apply Classical.byContradiction
    intro hh
    have hh : ob.has k = true := by simpa using hh
    rcases (hm.has k).1 hh with h | ⟨j, ha, ha2, hb, hc, hdd⟩
    · have := (ht.mono hmi (by have := hm.le; omega) (hm.no.sub (Nat.le_refl _) (by omega)) h).1
      rw [hn] at this; cases this
    · by_cases hji : j < i
      · have := (ht.mono (by omega : j + 1 ≤ i) (by have := hm.le; omega) (hm.no.sub (by omega) (by omega)) hc).1
        rw [hn] at this; cases this
      · by_cases hij : j = i
        · subst hij; rw [hDi] at hb; cases hb
        · have : (O (i + 1)).has k = true := by rw [hA, OL.has_append, hk]; rfl
          have := (ht.mono (by omega : i + 1 ≤ j) (by have := hm.le; omega) (hm.no.sub (by omega) (by omega)) this).1
          rw [hdd] at this; cases this
  · by_cases hji : j = i
    · subst hji; rw [hi] at hj; cases hj; rw [h1] at hk; cases hk
    · rw [hD' j, if_neg hji]; exact hm.acts j oj hj hk
  · rw [hD' j]; split
    · rfl
    · exact hm.p1 j oj hj hk hlt
  · by_cases hji : j = i
    · omega
    · rw [hD' j, if_neg hji]; exact hm.p2 j oj hj hk hle
  · have e' : (A.ob.ext ob).has k = (A.has k || ob.has k) := rfl
    rw [e', Bool.or_eq_true, hm.has k]
    constructor
    · rintro (h | h | ⟨j, ha, ha2, hb, hc⟩)
      · exact .inr ⟨i, hmi, hie, by rw [hD' i, if_pos rfl], by rw [hA, OL.has_append, h]; rfl, hf k h⟩
      · exact .inl h
      · exact .inr ⟨j, ha, ha2, by rw [hD' j]; split <;> simp_all, hc⟩
    · rintro (h | ⟨j, ha, ha2, hb, hc, hdd⟩)
      · exact .inr (.inl h)
      · by_cases hji : j = i
        · subst hji
          rw [hA, OL.has_append, hdd] at hc
          exact .inl (by simpa using hc)
        · rw [hD' j, if_neg hji] at hb
          exact .inr (.inr ⟨j, ha, ha2, hb, hc, hdd⟩)
  · have e' : (A.ob.ext ob).at_ k j = if A.has k = true then A.at_ k j else ob.at_ k j := rfl
    rw [e']
    split
    · rename_i hAk
      have hx : (O (i + 1)).has k = true := by rw [hA, OL.has_append, hAk]; rfl
      rw [(ht.mono (by omega : i + 1 ≤ e) hm.le (hm.no.sub (by omega) (Nat.le_refl _)) hx).2 j, hA, OL.at_append, if_pos hAk]
    · rename_i hAk
      refine hm.at_ k ?_ j
      have : (A.has k || ob.has k) = true := hk
      simpa [hAk] using this
theorem Mem1.start (ht : TrX P T ops fr env V O) {m e : Nat} (hme : m ≤ e) (hle : e ≤ ops.size) (hno : noAct ops fr m e) (hnx : e = ops.size ∨ ∃ oe, ops[e]? = some oe ∧ kdx fr e oe = 2)
    (hacts : ∀ i oi, ops[i]? = some oi → kdx fr i oi = 2 → (D i = true ↔ i < m)) (hp1 : ∀ i oi, ops[i]? = some oi → kdx fr i oi = 1 → i < m → D i = true) (hp2 : ∀ i oi, ops[i]? = some oi → kdx fr i oi = 1 → m ≤ i → D i = false) :
    Mem1 ops fr O D (O m).ob m e where
  me := hme
  le := hle
  acts := hacts
  no := hno
  nx := hnx
  p1 := hp1
  p2 := fun i oi hi h1 h => hp2 i oi hi h1 (by omega)
  has := fun k => by
    constructor
    · exact fun h => .inl h
    · rintro (h | ⟨j, ha, hb, hc, hd, he⟩)
      · exact h
      · have hlt : j < ops.size := by omega
        have hx : ops[j]? = some ops[j] := by simp [hlt]
        rcases kdx_le fr j ops[j] with h0 | h1 | h2
        · rw [ht.same hx h0, he] at hd; cases hd
        · rw [hp2 j _ hx h1 ha] at hc; cases hc
        · exact absurd h2 (hno j _ hx ha hb)
  at_ := fun k hk i => ((ht.mono hme hle hno hk).2 i).symm
theorem MemX.two (ht : TrX P T ops fr env V O) (hd : DrawOkX ops U fr) (hi : ops[i]? = some oi) (h2 : kdx fr i oi = 2) (hDi : D i = false)
    (hD' : ∀ j, D' j = if j = i then true else D j) (hU : ∀ j, j < ops.size → U i j = true → D j = true) (hUn : ∀ k ok, ops[k]? = some ok → U k i = true → D k = false) {ob : Ob} (hob : ∀ k i, ob.at_ k i ≠ none → ob.has k = true) (hm : MemX ops fr O D ob) :
    ob = (O i).ob ∧ MemX ops fr O D' (O (i + 1)).ob := by
  obtain ⟨m, e, hm⟩ := hm
  have lt : ∀ {i : Nat} {oi : Oper}, ops[i]? = some oi → i < ops.size := fun hi => (Array.getElem?_eq_some_iff.1 hi).1
  have hin := lt hi
  have hmi : m ≤ i := by
    apply Nat.le_of_not_lt
    intro h
    have := (hm.acts i oi hi h2).2 h
    rw [hDi] at this; cases this
  have hei : e ≤ i := by
    apply Nat.le_of_not_lt
    intro h
    exact hm.no i oi hi hmi h h2
  have hee : e = i := by
    rcases hm.nx with h | ⟨oe, he, h3⟩
    · omega
    · apply Classical.byContradiction
      intro hne
      have := hU e (lt he) (hd.act2 i oi e oe hi he h2 h3 (by omega))
      have := (hm.acts e oe he h3).1 this
      have := hm.me
      omega
  subst hee
  refine ⟨hm.turn ht hob (fun j oj hj hk ha hb => hU j (lt hj) (hd.act1 e oi j oj hi hj h2 hk hb)), ?_⟩
  obtain ⟨e', q1, q2, q3, q4⟩ := nextAct ops fr (ops.size - (e + 1)) (e + 1) (by omega)
  refine ⟨e + 1, e', Mem1.start ht q1 q2 q3 q4 (fun j oj hj hk => ?_) (fun j oj hj hk hlt => ?_) (fun j oj hj hk hle => ?_)⟩
  · rw [hD' j]
    by_cases hji : j = e
    · subst hji; simp
    · rw [if_neg hji, hm.acts j oj hj hk]
      constructor
      · intro h; omega
      · intro h
        have := hU j (lt hj) (hd.act2 e oi j oj hi hj h2 hk (by omega))
        exact (hm.acts j oj hj hk).1 this
  · rw [hD' j]; split
    · rfl
    · rename_i hne
      exact hU j (lt hj) (hd.act1 e oi j oj hi hj h2 hk (by omega))
  · rw [hD' j, if_neg (by omega)]
    exact hUn j oj hj (hd.act1' e oi j oj hi hj h2 hk (by omega))
theorem MemX.all (ht : TrX P T ops fr env V O) {ob : Ob} (hob : ∀ k i, ob.at_ k i ≠ none → ob.has k = true) (hm : MemX ops fr O D ob) (hall : ∀ i, i < ops.size → D i = true) : ob = (O ops.size).ob := by
  obtain ⟨m, e, hm⟩ := hm
  have lt : ∀ {i : Nat} {oi : Oper}, ops[i]? = some oi → i < ops.size := fun hi => (Array.getElem?_eq_some_iff.1 hi).1
  have he : e = ops.size := by
    rcases hm.nx with h | ⟨oe, he, h2⟩
    · exact h
    · have := (hm.acts e oe he h2).1 (hall e (lt he))
      have := hm.me
      omega
  have := hm.turn ht hob (fun j oj hj _ _ _ => hall j (lt hj))
  rw [this, he]
end
theorem downX (hd : DrawOkX ops U fr) {D : Nat → Bool} (hcl : ∀ i oi, ops[i]? = some oi → D i = true → ∀ e ∈ oi.after, Region.binds .any e = true → D e.on = true) :
    ∀ i oi j, ops[i]? = some oi → j < ops.size → U i j = true → (∀ e ∈ oi.after, Region.binds .any e = true → D e.on = true) → D j = true := by
  intro i
  induction i using Nat.strongRecOn with
  | _ i ih =>
    intro oi j hi hj hu hr
    obtain ⟨e, he, hb, hq⟩ := hd.clos i oi j hi hj hu
    have hlt := hd.back i oi hi e he hb
    have hin := (Array.getElem?_eq_some_iff.1 hi).1
    have hD := hr e he hb
    rcases hq with hq | hq
    · exact hq ▸ hD
    · have hx : ops[e.on]? = some ops[e.on] := by simp [Nat.lt_trans hlt hin]
      exact ih e.on hlt _ j hx hj hq (hcl e.on _ hx hD)
theorem rdy_nilX (hd : DrawOkX ops U fr) {listed : Array Bool} (hs : listed.size = ops.size) (h : Region.ready .any ops listed = []) : ∀ i, i < ops.size → Dl listed i = true := by
  intro i
  induction i using Nat.strongRecOn with
  | _ i ih =>
    intro hi
    apply Classical.byContradiction
    intro hn
    have hx : ops[i]? = some ops[i] := by simp [hi]
    have : i ∈ Region.ready .any ops listed := by
      simp only [Region.ready, List.mem_filter, List.mem_range, Bool.and_eq_true, Bool.not_eq_true']
      refine ⟨hi, ?_, ?_⟩
      · have : Dl listed i = false := by simpa using hn
        simp only [Dl, Array.getD_eq_getD_getElem?] at this ⊢
        have hl : i < listed.size := hs ▸ hi
        simp only [hl, Array.getElem?_eq_getElem, Option.getD_some] at this ⊢
        exact this
      · rw [hx]
        simp only [Option.map_some, Option.getD_some, Array.all_eq_true_iff_forall_mem]
        intro e he
        cases hb : Region.binds .any e
        · rfl
        · have hlt := hd.back i _ hx e he hb
          have := ih e.on hlt (by omega)
          simp only [Dl] at this
          simp [this]
    rw [h] at this
    cases this
structure InvX (P : Program) (T : TT) (ops : Array Oper) (fr : Nat → Bool) (N : Nat) (env : Env) (V : Nat → AV) (O : Nat → OL) (X : Cx) (listed : Array Bool) (a : Act) (w : World) : Prop where
  sz : listed.size = ops.size
  cl : ∀ i oi, ops[i]? = some oi → Dl listed i = true → ∀ e ∈ oi.after, Region.binds .any e = true → Dl listed e.on = true
  pic : ∃ κ ob, Rel X κ ob w ∧ (∀ t, VR (KK X κ ob w) (get (envOf V (Dl listed) 0 ops.toList env) t) (a.tmps.getD t undef)) ∧ MemX ops fr O (Dl listed) ob
  size : a.tmps.size = N
  defers : a.defers = []
theorem draw_stepX (hd : DrawOkX ops U fr) (ht : TrX P T ops fr env V O) {N : Nat} (hdst : dstOk N ops.toList = true) {X : Cx} (hP : X.P = P) (hTT : X.T = T) {listed : Array Bool} {a : Act} {w : World}
    (h : InvX P T ops fr N env V O X listed a w) {i : Nat} (hi : i ∈ Region.ready .any ops listed) {Q : Exit → Act → World → Prop} {K : Act → World → Prop}
    (hK : ∀ a' w', InvX P T ops fr N env V O X (listed.setIfInBounds i true) a' w' → K a' w') : wpOp P ops Q i K a w := by
  obtain ⟨oi, hx, hli, hre⟩ := mem_rdy hi
  have lt : ∀ {i : Nat} {oi : Oper}, ops[i]? = some oi → i < ops.size := fun hi => (Array.getElem?_eq_some_iff.1 hi).1
  have hin := lt hx
  have hinl : i < listed.size := h.sz ▸ hin
  have hDi : Dl listed i = false := by
    simp only [Dl, Array.getD_eq_getD_getElem?, hinl, Array.getElem?_eq_getElem, Option.getD_some] at hli ⊢
    exact hli
  have hD' := listed_set (listed := listed) hinl
  have hU : ∀ j, j < ops.size → U i j = true → Dl listed j = true := fun j hj hu => downX hd h.cl i oi j hx hj hu hre
  have hUn : ∀ k ok, ops[k]? = some ok → U k i = true → Dl listed k = false := fun k ok hk hu => by
    apply Classical.byContradiction
    intro hn
    have hn : Dl listed k = true := by simpa using hn
    have := downX hd h.cl k ok i hk hin hu (h.cl k ok hk hn)
    rw [hDi] at this; cases this
  obtain ⟨κ, ob, hR, hE, hM⟩ := h.pic
  have hob : ∀ k i, ob.at_ k i ≠ none → ob.has k = true := hR.has
  have hag : ∀ t, t ∈ oi.looksAt ops → get (envOf V (Dl listed) 0 ops.toList env) t = get (envOf V (fun j => decide (j < i)) 0 ops.toList env) t := by
    intro t htl
    refine envOf_agree V _ _ t _ 0 env env rfl (fun k o hk ho => ?_)
    rw [Array.getElem?_toList] at hk
    rw [Nat.zero_add]
    rcases Nat.lt_trichotomy k i with hki | hki | hki
    · rw [decide_eq_true hki]
      rcases hd.ap i oi k o hx hk hki with hap | hu
      · exact absurd htl ((Oper.apart_spec hap).1 t ho)
      · exact hU k (lt hk) hu
    · subst hki
      rw [hDi]; simp
    · rw [decide_eq_false (by omega)]
      rcases hd.ap k o i oi hk hx hki with hap | hu
      · exact absurd htl ((Oper.apart_spec hap).2.2 t ho)
      · exact hUn k o hk hu
  have hput : ∀ t, get (envOf V (Dl (listed.setIfInBounds i true)) 0 ops.toList env) t = if oi.dst = some t then V i else get (envOf V (Dl listed) 0 ops.toList env) t := by
    intro t
    by_cases hdt : oi.dst = some t
    · rw [if_pos hdt, envOf_last V _ t ops.toList 0 i oi env (by rw [Array.getElem?_toList]; exact hx) hdt (by rw [Nat.zero_add, hD', if_pos rfl]) (fun k o hk hk2 ho => ?_), Nat.zero_add]
      rw [Array.getElem?_toList] at hk2
      rw [Nat.zero_add, hD', if_neg (by omega)]
      rcases hd.ap k o i oi hk2 hx hk with hap | hu
      · exact absurd ho ((Oper.apart_spec hap).2.1 t hdt)
      · exact hUn k o hk2 hu
    · rw [if_neg hdt]
      refine envOf_agree V _ _ t _ 0 env env rfl (fun k o hk ho => ?_)
      rw [Array.getElem?_toList] at hk
      rw [Nat.zero_add, hD', if_neg (fun e => by subst e; rw [hx] at hk; cases hk; exact hdt ho)]
  have hdstN : ∀ t, oi.dst = some t → t < a.tmps.size := fun t hdt => by
    simp only [dstOk, List.all_eq_true] at hdst
    have := hdst oi (by simpa using Array.mem_of_getElem? hx)
    rw [hdt] at this
    rw [h.size]; simpa [Nat.blt_eq] using this
  have hcl' : ∀ j oj, ops[j]? = some oj → Dl (listed.setIfInBounds i true) j = true → ∀ e ∈ oj.after, Region.binds .any e = true → Dl (listed.setIfInBounds i true) e.on = true := by
    intro j oj hj hDj e he hb
    rw [hD'] at hDj ⊢
    split
    · rfl
    · by_cases hji : j = i
      · subst hji; rw [hx] at hj; cases hj; exact hre e he hb
      · rw [if_neg hji] at hDj; exact h.cl j oj hj hDj e he hb
  have next : ∀ (c : Value) (w' : World) (κ' : Gh) (ob' : Ob), Rel X κ' ob' w' → VR (KK X κ' ob' w') (V i) c → Le (KK X κ ob w) (KK X κ' ob' w') → MemX ops fr O (Dl (listed.setIfInBounds i true)) ob' → K (a.put oi.dst c) w' := by
    intro c w' κ' ob' hR' hv hle hM'
    refine hK _ _ ⟨by simp [h.sz], hcl', ⟨κ', ob', hR', fun t => ?_, hM'⟩, by rw [Act.put_size]; exact h.size, by rw [Am.Act.put_defers]; exact h.defers⟩
    rw [hput t]
    by_cases hdt : oi.dst = some t
    · rw [if_pos hdt, hdt]
      have : (a.put (some t) c).tmps.getD t undef = c := by simp [Act.put, hdstN t hdt]
      rw [this]; exact hv
    · rw [if_neg hdt]
      have : (a.put oi.dst c).tmps.getD t undef = a.tmps.getD t undef := by
        cases hq : oi.dst with
        | none => rfl
        | some d =>
          have hne : d ≠ t := fun e => hdt (by rw [hq, e])
          simp [Act.put, Array.getElem?_setIfInBounds_ne hne]
      rw [this]; exact VR_mono hle (hE t)
  have hops : ∀ x ∈ oi.op.operands.toList, VR (KK X κ ob w) (evE (envOf V (fun j => decide (j < i)) 0 ops.toList env) x) (a.eval x) := by
    intro x hxo
    cases x with
    | tmp t => have := hE t; rw [hag t (looks_dst hxo)] at this; exact this
    | const v => exact constAV_ok _ v
    | global g => trivial
    | func g => exact ⟨#[], rfl, rfl, fun i hi => by omega⟩
  have want : ∀ b, gd ops oi (envOf V (fun j => decide (j < i)) 0 ops.toList env) = some b → Region.wanted oi (yielded ops a.tmps) = b := by
    intro b hb
    unfold gd at hb
    split at hb
    · rename_i hg
      cases hb
      simp [Region.wanted, hg]
    · rename_i j wnt hg
      split at hb
      · rename_i d hdd
        split at hb
        · rename_i b' hb'
          cases hb
          rw [← hag d (looks_guard hg hdd)] at hb'
          have hy := yielded_of hdd hE hb' (dst_lt_of_eq hE hb')
          simp [Region.wanted, hg, hy]
        · rename_i hb'
          cases hb
          rw [← hag d (looks_guard hg hdd)] at hb'
          have hy := yielded_none hdd hE hb'
          simp [Region.wanted, hg, hy]
        · cases hb
      · cases hb
  have hsz : ∀ r, Oper.upon X.P oi a K Q r → Oper.upon P oi a K Q r := fun r hr => by rw [← hP]; exact hr
  unfold wpOp
  rw [hx]
  simp only
  have hst := ht.step i oi hx
  rcases hst with ⟨hg, hv, hs⟩ | ⟨hg, hst⟩
  · rw [if_neg (by rw [want _ hg]; simp)]
    have hvu : VR (KK X κ ob w) (V i) undef := by rw [hv]; exact undA_ok _
    rcases kdx_le fr i oi with h0 | h1 | h2
    · exact next undef w κ ob hR hvu (Le.refl _) (hM.zero ht hd hx (by omega) hU hD' hs)
    · exact next undef w κ ob hR hvu (Le.refl _) (hM.zero ht hd hx (by omega) hU hD' hs)
    · obtain ⟨e1, e2⟩ := hM.two ht hd hx h2 hDi hD' hU hUn hob
      rw [hs, ← e1] at e2
      exact next undef w κ ob hR hvu (Le.refl _) e2
  · rw [if_pos (want _ hg)]
    refine .inl ?_
    unfold Oper.wp
    rw [← hP]
    rcases hst with ⟨h0, hs, hj⟩ | ⟨h1, A, hs, hj, hf⟩ | ⟨h2, hj⟩
    · have := (PassJ.of_pure hj ob) X κ ob w a.eval hP hTT hR (fun _ _ _ _ => rfl) (fun k hk => by cases hk) hops
      rw [Ob.ext_nil, ← hP] at this
      exact upon_of_Out this (fun c w' κ' hR' hv hle => next c w' κ' ob hR' hv hle (hM.zero ht hd hx (by omega) hU hD' hs))
    · obtain ⟨e1, e2, e3⟩ := hM.one ht hd hx h1 hDi hU hD' hs hf
      have := hj X κ ob w a.eval hP hTT (fun _ => rfl) hR e1 e2 hops
      rw [← hP] at this
      exact upon_of_Out this (fun c w' κ' hR' hv hle => next c w' κ' _ hR' hv hle e3)
    · obtain ⟨e1, e2⟩ := hM.two ht hd hx h2 hDi hD' hU hUn hob
      subst e1
      have := hj X κ w a.eval hP hTT hR hops
      rw [← hP] at this
      exact upon_of_Out this (fun c w' κ' hR' hv hle => next c w' κ' _ hR' hv hle e2)
theorem draw_anyX (hd : DrawOkX ops U fr) (ht : TrX P T ops fr env V O) {N : Nat} (hdst : dstOk N ops.toList = true) {X : Cx} (hP : X.P = P) (hTT : X.T = T) {Q : Exit → Env → OL → Prop}
    (hK : Q .normal (envOf V (fun _ => true) 0 ops.toList env) (O ops.size)) :
    ∀ (fuel : Nat) (listed : Array Bool) (a : Act) (w : World), left ops listed ≤ fuel → InvX P T ops fr N env V O X listed a w → wpAny P .any ops (QQ X N Q) fuel listed a w := by
  have fin : ∀ (listed : Array Bool) (a : Act) (w : World), InvX P T ops fr N env V O X listed a w → (∀ i, i < ops.size → Dl listed i = true) → QQ X N Q .normal a w := by
    intro listed a w h hall
    obtain ⟨κ, ob, hR, hE, hM⟩ := h.pic
    have e := hM.all ht hR.has hall
    subst e
    refine ⟨κ, _, _, hK, hR, fun t => ?_, h.size, h.defers⟩
    have := hE t
    rwa [envOf_agree V (Dl listed) (fun _ => true) t _ 0 env env rfl (fun k o hk _ => by
      rw [Array.getElem?_toList] at hk
      rw [Nat.zero_add, hall k (Array.getElem?_eq_some_iff.1 hk).1])] at this
  intro fuel
  induction fuel with
  | zero =>
    intro listed a w hl h
    have hall : ∀ i, i < ops.size → Dl listed i = true := by
      intro i hi
      apply Classical.byContradiction
      intro hn
      have hn : Dl listed i = false := by simpa using hn
      have : i ∈ (List.range ops.size).filter fun i => !Dl listed i := by simp [hi, hn]
      have := List.length_pos_of_mem this
      unfold left at hl
      omega
    refine ⟨?_, fin listed a w h hall⟩
    apply Classical.byContradiction
    intro hne
    obtain ⟨i, hi⟩ := List.exists_mem_of_ne_nil _ hne
    obtain ⟨oi, hx, hli, _⟩ := mem_rdy hi
    have hin := (Array.getElem?_eq_some_iff.1 hx).1
    have hh := hall i hin
    have hl2 : i < listed.size := h.sz ▸ hin
    simp only [Dl, Array.getD_eq_getD_getElem?, hl2, Array.getElem?_eq_getElem, Option.getD_some] at hli hh
    rw [hh] at hli; cases hli
  | succ fuel ih =>
    intro listed a w hl h
    refine ⟨fun hr => fin listed a w h (rdy_nilX hd h.sz hr), fun i hi => ?_⟩
    obtain ⟨oi, hx, hli, _⟩ := mem_rdy hi
    have hin := (Array.getElem?_eq_some_iff.1 hx).1
    have hl2 : i < listed.size := h.sz ▸ hin
    have hDi : Dl listed i = false := by
      simp only [Dl, Array.getD_eq_getD_getElem?, hl2, Array.getElem?_eq_getElem, Option.getD_some] at hli ⊢
      exact hli
    have := left_lt hin hl2 hDi
    exact draw_stepX hd ht hdst hP hTT h hi (fun a' w' h' => ih _ a' w' (by omega) h')
theorem WOps_cons (hT : TOk P T) (arr : Array Oper) {o : Oper} {r : List Oper} {env : Env} {ol : OL} {K : Env → OL → Prop} (h : WOps P T arr (o :: r) env ol K) :
    ∃ v ol1, StepJ P T arr o env ol v ol1 ∧ WOps P T arr r (putE o.dst v env) ol1 K := by
  unfold WOps at h
  have run : gd arr o env = some true → WOp P T o (evE env) ol (fun v ol' => WOps P T arr r (putE o.dst v env) ol' K) → ∃ v ol1, StepJ P T arr o env ol v ol1 ∧ WOps P T arr r (putE o.dst v env) ol1 K := by
    intro hg hw
    obtain ⟨v, hw⟩ := WOp_sound hT hw
    rcases hw with ⟨h0, h1, h2⟩ | ⟨h0, A, h1, h2, h3⟩ | ⟨h0, ol', h1, h2, _⟩
    · exact ⟨v, ol, .inr ⟨hg, .inl ⟨h0, rfl, h2⟩⟩, h1⟩
    · exact ⟨v, A ++ ol, .inr ⟨hg, .inr (.inl ⟨h0, A, rfl, h2, h3⟩)⟩, h1⟩
    · exact ⟨v, ol', .inr ⟨hg, .inr (.inr ⟨h0, h2⟩)⟩, h1⟩
  split at h
  · rename_i hg
    exact run (by simp [gd, hg]) h
  · rename_i j want hg
    split at h
    · rename_i d hd
      split at h
      · rename_i b hb
        split at h
        · rename_i hbw
          exact run (by simp only [gd, hg, hd, hb, hbw]) h
        · rename_i hbw
          exact ⟨undA, ol, .inl ⟨by simp only [gd, hg, hd, hb, hbw], rfl, rfl⟩, h⟩
      · rename_i hb
        exact ⟨undA, ol, .inl ⟨by simp only [gd, hg, hd, hb], rfl, rfl⟩, h⟩
      · exact h.elim
    · exact h.elim
def Ex (P : Program) (T : TT) (arr : Array Oper) (fr : Nat → Bool) (s : Nat) (ops : List Oper) (env : Env) (ol : OL) (K : Env → OL → Prop) : Prop :=
  ∃ (V : Nat → AV) (O : Nat → OL), O 0 = ol ∧ (∀ k o, ops[k]? = some o → StepK (kdx fr (s + k) o) P T arr o (envOf V (fun j => decide (j < k)) 0 ops env) (O k) (V k) (O (k + 1))) ∧ K (envOf V (fun _ => true) 0 ops env) (O ops.length)
theorem Ex.nil {arr : Array Oper} {s : Nat} {ol : OL} {K : Env → OL → Prop} (h : K env ol) : Ex P T arr fr s [] env ol K := ⟨fun _ => .any, fun _ => ol, rfl, fun k o hk => by simp at hk, h⟩
theorem Ex.cons {arr : Array Oper} {s : Nat} {o : Oper} {r : List Oper} {ol ol1 : OL} {v : AV} {K : Env → OL → Prop} (hs : StepK (kdx fr s o) P T arr o env ol v ol1) (h : Ex P T arr fr (s + 1) r (putE o.dst v env) ol1 K) : Ex P T arr fr s (o :: r) env ol K := by
  obtain ⟨V, O, hO, hst, hK⟩ := h
  refine ⟨fun | 0 => v | k + 1 => V k, fun | 0 => ol | k + 1 => O k, rfl, fun k o' hk => ?_, ?_⟩
  · cases k with
    | zero =>
      simp only [List.getElem?_cons_zero, Option.some.injEq] at hk
      subst hk
      have : (fun j : Nat => decide (j < 0)) = fun _ => false := by funext j; simp
      rw [this, envOf_none]
      simp only [Nat.zero_add, Nat.add_zero]
      rw [hO]
      exact hs
    | succ k =>
      have := hst k o' (by simpa using hk)
      simp only [envOf]
      rw [if_pos (by simp), envOf_shift]
      have e : (fun j : Nat => decide (j + 1 < k + 1)) = fun j => decide (j < k) := by funext j; simp
      rw [e, show s + (k + 1) = s + 1 + k from by omega]
      exact this
  · simp only [envOf, if_true]
    rw [envOf_shift]
    exact hK
theorem Ex.pre (hT : TOk P T) {arr : Array Oper} {r : List Oper} {K K' : Env → OL → Prop} : ∀ (l : List Oper) (s : Nat) (env : Env) (ol : OL), (∀ i, s ≤ i → i < s + l.length → fr i = false) → WOps P T arr l env ol K' → (∀ e o, K' e o → Ex P T arr fr (s + l.length) r e o K) → Ex P T arr fr s (l ++ r) env ol K
  | [], s, env, ol, _, h, hk => hk _ _ h
  | o :: l, s, env, ol, hf, h, hk' => by
    obtain ⟨v, ol1, hs, hw⟩ := WOps_cons hT arr h
    have hk : kdx fr s o = kind o := by unfold kdx; rw [hf s (Nat.le_refl _) (by simp)]; rfl
    refine Ex.cons (by rw [hk]; exact hs) (Ex.pre hT l (s + 1) _ _ (fun i h1 h2 => hf i (by omega) (by simp only [List.length_cons]; omega)) hw ?_)
    have e : s + (o :: l).length = s + 1 + l.length := by simp only [List.length_cons]; omega
    rw [e] at hk'
    exact hk'
def LoadC (P : Program) (T : TT) (o : Oper) (env : Env) (K : AV → Prop) : Prop :=
  o.guard = none ∧ ∃ t x u, o.op = .load t x ∧ evE env x = .cptr u ∧ (T.und t).known = true ∧ u.size = T.sz t ∧ u.isAgg = (T.und t).isAgg ∧ K u
theorem LoadC.step (hT : TOk P T) {arr : Array Oper} {o : Oper} {ol : OL} {K : AV → Prop} (h : LoadC P T o env K) : ∃ v, K v ∧ StepK 0 P T arr o env ol v ol := by
  obtain ⟨hg, t, x, u, ho, hx, hk, h1, h2, h⟩ := h
  refine ⟨u, h, .inr ⟨by simp [gd, hg], .inl ⟨rfl, rfl, fun X κ ob w ρ hP hTT hR hv => ?_⟩⟩⟩
  have hx' := hv x (by simp [ho, Op.operands])
  rw [hx] at hx'
  obtain ⟨b, oo, seg, e1, hJ, hu, hs⟩ := VR_cptr hx'
  obtain ⟨c, hrun, hvc⟩ := load_fin hT hk (K := KK X κ ob w) rfl hu hs h1 h2
  exact ⟨c, by simp [execOp, ho, e1, Instr.loadAt, Instr.sureAddr, hrun], hvc⟩
def WSeg (P : Program) (T : TT) (arr : Array Oper) : List Nat → List Oper → Env → OL → (Env → OL → Prop) → Prop
  | [], ops, env, ol, K => WOps P T arr ops env ol K
  | n :: fl, ops, env, ol, K => WOps P T arr (ops.take n) env ol (fun env' ol' => match ops.drop n with
    | o :: r => LoadC P T o env' (fun v => WSeg P T arr fl r (putE o.dst v env') ol' K)
    | [] => False)
def frL : List Nat → Nat → List Nat
  | [], _ => []
  | n :: fl, s => (s + n) :: frL fl (s + n + 1)
def frF (fl : List Nat) (i : Nat) : Bool := (frL fl 0).any (Nat.beq i)
theorem frL_ge : ∀ (fl : List Nat) (s x : Nat), x ∈ frL fl s → s ≤ x
  | [], s, x, h => by cases h
  | n :: fl, s, x, h => by
    unfold frL at h
    rcases List.mem_cons.1 h with h | h
    · omega
    · have := frL_ge fl (s + n + 1) x h; omega
theorem frL_no (fl : List Nat) {s i : Nat} (h : i < s) : (frL fl s).any (Nat.beq i) = false := by
  cases hq : (frL fl s).any (Nat.beq i) with
  | false => rfl
  | true =>
    obtain ⟨x, h1, h2⟩ := List.any_eq_true.1 hq
    have := frL_ge fl s x h1
    have := Nat.eq_of_beq_eq_true h2
    omega
theorem WSeg.ex (hT : TOk P T) {arr : Array Oper} {K : Env → OL → Prop} : ∀ (fl : List Nat) (s : Nat) (ops : List Oper) (env : Env) (ol : OL), (∀ i, s ≤ i → fr i = (frL fl s).any (Nat.beq i)) → WSeg P T arr fl ops env ol K → Ex P T arr fr s ops env ol K
  | [], s, ops, env, ol, hf, h => by
    have := Ex.pre (r := []) hT ops s env ol (fun i h1 _ => by rw [hf i h1]; rfl) (K := K) (fr := fr) (arr := arr) (P := P) (T := T) h (fun _ _ h => Ex.nil h)
    rwa [List.append_nil] at this
  | n :: fl, s, ops, env, ol, hf, h => by
    have h : WOps P T arr (ops.take n) env ol (fun env' ol' => match ops.drop n with
      | o :: r => LoadC P T o env' (fun v => WSeg P T arr fl r (putE o.dst v env') ol' K)
      | [] => False) := h
    rcases Nat.lt_or_ge n ops.length with hn | hn
    · have hl : (ops.take n).length = n := by rw [List.length_take]; omega
      obtain ⟨o, r, hor⟩ : ∃ o r, ops.drop n = o :: r := by
        cases hq : ops.drop n with
        | nil => have := congrArg List.length hq; rw [List.length_drop, List.length_nil] at this; omega
        | cons o r => exact ⟨o, r, rfl⟩
      rw [hor] at h
      have hops : ops = ops.take n ++ (o :: r) := by rw [← hor, List.take_append_drop]
      rw [hops]
      refine Ex.pre hT (ops.take n) s env ol (fun i h1 h2 => ?_) h (fun env' ol' hh => ?_)
      · rw [hl] at h2
        rw [hf i h1]
        show (Nat.beq i (s + n) || (frL fl (s + n + 1)).any (Nat.beq i)) = false
        rw [frL_no fl (by omega), beq_ff (by omega)]; rfl
      · rw [hl]
        obtain ⟨v, hv, hs⟩ := LoadC.step hT (arr := arr) (ol := ol') hh
        have hfr : fr (s + n) = true := by
          rw [hf _ (by omega)]
          show (Nat.beq (s + n) (s + n) || _) = true
          rw [Nat.beq_refl]; rfl
        refine Ex.cons (v := v) (ol1 := ol') ?_ (WSeg.ex hT fl (s + n + 1) r _ _ (fun i hi => ?_) hv)
        · have : kdx fr (s + n) o = 0 := by unfold kdx; rw [hfr]; rfl
          rw [this]; exact hs
        · rw [hf i (by omega)]
          show (Nat.beq i (s + n) || _) = _
          rw [beq_ff (by omega)]; rfl
    · have e : ops.drop n = [] := List.drop_of_length_le hn
      rw [e] at h
      have := Ex.pre (r := []) hT (ops.take n) s env ol (fun i h1 h2 => ?_) (K := K) (fr := fr) (arr := arr) (P := P) (T := T) h (fun _ _ hh => hh.elim)
      · rwa [List.append_nil, List.take_of_length_le hn] at this
      · have : (ops.take n).length ≤ n := List.length_take_le _ _
        rw [hf i h1]
        show (Nat.beq i (s + n) || (frL fl (s + n + 1)).any (Nat.beq i)) = false
        rw [frL_no fl (by omega), beq_ff (by omega)]; rfl
theorem snd_drawX (hT : TOk P T) (hm : P.follows .mixedOrders = true) (fl : List Nat) {N id : Nat} {ol : OL} {Q : Exit → Env → OL → Prop} (hd : drawOkX ops (frF fl) = true) (hdst : dstOk N ops.toList = true)
    (h : WSeg P T ops fl ops.toList env ol (fun env' ol' => Q .normal env' ol')) : Snd P T N (.region id ops true) env ol Q := by
  intro X κ a w hP hTT hR hE hN hD
  obtain ⟨V, O, hO, hst, hK⟩ := WSeg.ex hT (fr := frF fl) fl 0 ops.toList env ol (fun i _ => rfl) h
  have hd := chkX_ok hd
  have ht : TrX P T ops (frF fl) env V O := ⟨fun k o hk => by have := hst k o (by rw [Array.getElem?_toList]; exact hk); rwa [Nat.zero_add] at this⟩
  have hDl : ∀ j, Dl (Array.replicate ops.size false) j = false := fun j => by
    simp only [Dl, Array.getD_eq_getD_getElem?, Array.getElem?_replicate]
    split <;> rfl
  have hM : MemX ops (frF fl) O (Dl (Array.replicate ops.size false)) ol.ob := by
    obtain ⟨e, q1, q2, q3, q4⟩ := nextAct ops (frF fl) ops.size 0 (by omega)
    rw [← hO]
    exact ⟨0, e, Mem1.start ht q1 q2 q3 q4 (fun i oi _ _ => by rw [hDl]; exact ⟨fun h => (by cases h), fun h => absurd h (Nat.not_lt_zero _)⟩) (fun i oi _ _ h => absurd h (Nat.not_lt_zero _)) (fun i oi _ _ _ => hDl i)⟩
  refine wp_region_any hm (draw_anyX hd ht hdst hP hTT (by rw [Array.length_toList] at hK; exact hK) _ _ a _ ?_ ⟨by simp, fun i oi _ hi => (by rw [hDl] at hi; cases hi), ⟨κ, ol.ob, hR.drew, fun t => ?_, hM⟩, hN, hD⟩)
  · unfold left
    exact Nat.le_trans (List.length_filter_le _ _) (by simp)
  · have e : Dl (Array.replicate ops.size false) = fun _ => false := funext hDl
    rw [e, envOf_none]
    exact hE t
section
variable {N : Nat} {id : Nat} {ol : OL} {Q : Exit → Env → OL → Prop}
theorem sdX (hT : TOk P T) (hm : P.follows .mixedOrders = true) (fl : List Nat) {y : Code} {env' : Env} {ol' : OL} (ho : drawOkX ops (frF fl) = true) (hd : dstOk N ops.toList = true)
    (h : ∀ R : Env → OL → Prop, R env' ol' → WSeg P T ops fl ops.toList env ol R) (hy : Snd P T N y env' ol' Q) : Snd P T N (.seq (.region id ops true) y) env ol Q :=
  snd_seq (snd_drawX hT hm fl ho hd (h _ hy))
theorem ldX (hT : TOk P T) (hm : P.follows .mixedOrders = true) (fl : List Nat) {env' : Env} {ol' : OL} (ho : drawOkX ops (frF fl) = true) (hd : dstOk N ops.toList = true)
    (h : ∀ R : Env → OL → Prop, R env' ol' → WSeg P T ops fl ops.toList env ol R) (hy : Q .normal env' ol') : Snd P T N (.region id ops true) env ol Q :=
  snd_drawX hT hm fl ho hd (h _ hy)
theorem wx_ldc {all : Array Oper} {fl : List Nat} {r : List Oper} {x : Operand} {t ty : TypeId} {d : Nat} {pos : String} {af : Array Edge} {K : Env → OL → Prop} {w v : AV} (hx : evE env x = .cptr w) (hk : (T.und t).known = true) (hv : HV w v) (hz : v.size = T.sz t) (ha : v.isAgg = (T.und t).isAgg)
    (hr : WSeg P T all fl r ((d, v) :: env) ol K) : LoadC P T ⟨some d, .load t x, ty, pos, af, none⟩ env (fun v => WSeg P T all fl r (putE (some d) v env) ol K) := by
  have := hv.eq; subst this
  exact ⟨rfl, t, x, _, rfl, hx, hk, hz, ha, hr⟩
end
theorem mt_expc {at_ : Nat → Nat → Option (AV × AV)} {d : Nat} {v : AV} (h : v.closed) (hn : v ≠ .any) : Mt V0 v (exp at_ d v) := by
  rw [exp_closed h]; exact Mt.rf h hn
end Go.Am

set_option linter.unusedVariables false
set_option linter.unusedSimpArgs false
namespace Go.Am
section
variable {P : Program} {T : TT} {N : Nat} {ks : List Nat} {env : Env} {ol : OL} {Q : Exit → Env → OL → Prop}
theorem srp (hT : TOk P T) {id : Nat} {ops : Array Oper} {y : Code} {env' : Env} {ol' : OL} (hd : dstOk N ops.toList = true)
    (h : ∀ R : Env → OL → Prop, R env' ol' → WOps P T ops ops.toList env ol R) (hy : Snp ks P T N y env' ol' Q) : Snp ks P T N (.seq (.region id ops false) y) env ol Q :=
  snp_seq (snp_region hT hd (h _ hy))
theorem lrp (hT : TOk P T) {id : Nat} {ops : Array Oper} {env' : Env} {ol' : OL} (hd : dstOk N ops.toList = true)
    (h : ∀ R : Env → OL → Prop, R env' ol' → WOps P T ops ops.toList env ol R) (hy : Q .normal env' ol') : Snp ks P T N (.region id ops false) env ol Q :=
  snp_region hT hd (h _ hy)
theorem sqp {c : Code} {env2 : Env} {ol2 : OL} (he : env = env2) (ho : ol = ol2) (h : Snp ks P T N c env2 ol2 Q) : Snp ks P T N c env ol Q := by
  subst he; subst ho; exact h
end
def mk8 (k : Int) (r j : Nat) : Int := (k + (r * 6 : Nat) + (j : Nat)) % 256
theorem rtp {T : TT} {ks : List Nat} {t : Nat} {env : Env} {ol H : OL} {r : AV} {ρ : Nat → Nat → Nat × Nat} (h : Emb ρ [(0, get env t)] ol [(0, r)] H) (hp : pins ks ρ H) : retQp ks T [.tmp t] r H .ret env ol := ⟨ρ, h, hp⟩
def mixG2 (A B : Nat → Nat → Int) (i j r : Nat) : Nat → Int := if r = i then mixF (A i) (B i) j else mixG A B i r
theorem mixG2_0 (A B : Nat → Nat → Int) (i r : Nat) : mixG2 A B i 0 r = mixG A B i r := by
  unfold mixG2
  split
  · rename_i h; subst h
    rw [mixG_self]; funext j; simp [mixF]
  · rfl
theorem mixG2_6 (A B : Nat → Nat → Int) (i r j : Nat) (hj : j < 6) : mixG2 A B i 6 r j = mixG A B (i + 1) r j := by
  unfold mixG2
  split
  · rename_i h; subst h
    rw [mixG_lt _ _ (by omega)]; simp [mixF, hj]
  · rename_i h
    by_cases h2 : r < i
    · rw [mixG_lt _ _ h2, mixG_lt _ _ (by omega)]
    · rw [mixG_ge _ _ (by omega), mixG_ge _ _ (by omega)]
theorem mt_mark8 {V : Vw} {A B : Nat → Nat → Int} {i j r : Nat} {x : Int} (hx : x = A i j) :
    Mt V (vecA (mixG2 A B i (j + 1) r)) (bif Nat.beq r (i : Int).toNat then put (vecA (mixG2 A B i j (i : Int).toNat)) [(j : Int).toNat] (.int .u8 x) else vecA (mixG2 A B i j r)) := by
  rw [Int.toNat_natCast, Int.toNat_natCast]
  by_cases h : r = i
  · subst h
    rw [Nat.beq_refl]
    refine ⟨rfl, fun b hb => ?_⟩
    show (bif Nat.beq b j then AV.int .u8 x else AV.int .u8 (mixG2 A B r j r b)) = AV.int .u8 (mixG2 A B r (j + 1) r b)
    unfold mixG2
    rw [if_pos rfl, if_pos rfl]
    unfold mixF
    by_cases hbj : b = j
    · subst hbj
      rw [Nat.beq_refl]
      show AV.int .u8 x = AV.int .u8 (if b < b + 1 then A r b else B r b)
      rw [if_pos (Nat.lt_succ_self b), hx]
    · rw [beq_ff hbj]
      show AV.int .u8 _ = AV.int .u8 _
      by_cases h2 : b < j
      · rw [if_pos h2, if_pos (by omega)]
      · rw [if_neg h2, if_neg (by omega)]
  · rw [beq_ff h]
    exact mt_vec (fun z _ => by unfold mixG2; rw [if_neg h, if_neg h])
end Go.Am

set_option linter.unusedVariables false
set_option linter.unusedSimpArgs false
namespace Go.Am
theorem rt_own_u {T : TT} {env : Env} {ol : OL} {t s key n m e : Nat} {F G : Nat → AV} {sh : Nat → AV} {u : AV} (hx : get env t = .own key 0 n e) (hu : ∀ V, Mt V u (get env s)) (ho : ol.at_ key 0 = some (.arr n sh, .arr n G)) (hn : n = m) (hs : ∀ i, ssh (sh i) (F i)) (hf : ∀ V : Vw, ∀ i, i < m → Mt V (F i) (G i)) :
    retQ T [.tmp t, .tmp s] (.tup 2 (pairA (.own 0 0 m e) u)) [(0, .one (.arr m sh) (.arr m F))] .ret env ol := by
  subst hn
  refine ⟨fun _ _ => (key, 0), ⟨⟨rfl, fun i hi => ?_⟩, trivial⟩, ⟨?_, trivial⟩, ⟨⟨fun _ => ⟨rfl, rfl⟩, trivial⟩, trivial⟩⟩
  · match i, hi with
    | 0, _ =>
      show Mt _ (.own 0 0 n e) (get env t)
      rw [hx]
      exact ⟨rfl, rfl, rfl, rfl⟩
    | 1, _ => exact hu _
  · show (match ol.at_ key 0 with | some (sh', c') => _ | none => False)
    rw [ho]
    exact ⟨rfl, ⟨rfl, hs⟩, rfl, hf _⟩
theorem mt_vl0 {at_ : Nat → Nat → Option (AV × AV)} {k e N : Nat} {sh : AV} {S : Nat → Nat → Int} (h : at_ k 0 = some (sh, .arr N (fun i => vecA (S i)))) : Mt V0 (vlA N S) (exp at_ 4 (.own k 0 N e)) := by
  show Mt V0 _ (match at_ k 0 with | some (_, .arr m f) => AV.ro m (fun j => exp at_ 3 (f j)) | _ => .any)
  rw [h]
  exact ⟨rfl, fun j _ => mt_expc (closed_vec (n := 6)) (by simp)⟩
theorem mt_int0 {at_ : Nat → Nat → Option (AV × AV)} {k : IntKind} {x : Int} : Mt V0 (.int k x) (exp at_ 4 (.int k x)) := rfl
theorem mt_nil0 {at_ : Nat → Nat → Option (AV × AV)} {S : Nat → AV} : Mt V0 (.ro 0 S) (exp at_ 4 .nilsl) := rfl
end Go.Am

set_option linter.unusedVariables false
set_option linter.unusedSimpArgs false
namespace Go.Am
abbrev T3 := Nat → Nat → Nat → Int
end Go.Am

set_option linter.unusedVariables false
set_option linter.unusedSimpArgs false
namespace Go.Am
def apF (p : Int) (F : Nat → Nat → Int) (v : Nat → Int) : Nat → Nat → Int
  | 0 => fun _ => 0
  | i + 1 => addF p (apF p F v i) (F i) (v i)
def starP (p : Int) (n : Nat) (T : T3) (fo : Nat → Int) (F : Nat → Nat → Int) : Prop :=
  ∀ i, i < n → (eqN 6 (apF p F (F i) n) (eF i) ∧ formF p fo (F i) = fo i) ∧ ∀ j, j < n → eqN 6 (apF p F (T i j) n) (timesF p n T (F j) (F i))
noncomputable instance (p : Int) (n : Nat) (T : T3) (fo : Nat → Int) (F : Nat → Nat → Int) : Decidable (starP p n T fo F) := Classical.propDecidable _
def liP (p : Int) (n : Int) (M : Nat) (F : Nat → Nat → Int) : Prop := (M : Int) = n ∧ ∀ i, i < M → smP p n (F i)
noncomputable instance (p n : Int) (M : Nat) (F : Nat → Nat → Int) : Decidable (liP p n M F) := Classical.propDecidable _
end Go.Am

set_option linter.unusedVariables false
set_option linter.unusedSimpArgs false
namespace Go.Am
def parD (c : Int) : Int := if 48 ≤ c ∧ c ≤ 57 then c - 48 else if 97 ≤ c ∧ c ≤ 99 then c - 87 else -1
def rdD (s : ByteArray) (i : Nat) : Int := parD (byteAt s i)
def rdOk (s : ByteArray) (n : Nat) : Prop := s.size = n ∧ ∀ i, i < n → 0 ≤ rdD s i
noncomputable instance (s : ByteArray) (n : Nat) : Decidable (rdOk s n) := Classical.propDecidable _
def rdF (s : ByteArray) (n : Nat) : Nat → Int := fun i => if i < n ∧ 0 ≤ rdD s i then rdD s i else 0
def rdV (p : Int) (n : Nat) (s : ByteArray) : Prop := rdOk s n ∧ smP p (n : Int) (rdF s n)
noncomputable instance (p : Int) (n : Nat) (s : ByteArray) : Decidable (rdV p n s) := Classical.propDecidable _
end Go.Am

set_option linter.unusedVariables false
set_option linter.unusedSimpArgs false
namespace Go.Am
section
variable {p : Int} {n : Nat} {A : Nat → Nat → Int}
end
section
variable {n i j r : Nat}
end
end Go.Am

set_option linter.unusedVariables false
set_option linter.unusedSimpArgs false
namespace Go.Am
def lk : List (Nat × Nat) → Nat → Nat
  | [], k => k
  | (a, b) :: r, k => bif Nat.beq k a then b else lk r k
def ρL (m : List (Nat × Nat)) (kg c s : Nat) : Nat → Nat → Nat × Nat := fun k i => bif Nat.beq k kg && Nat.beq i c then (s, 0) else (lk m k, i)
def keysOf : OL → List Nat
  | [] => []
  | (k, _) :: r => k :: keysOf r
def okL (m : List (Nat × Nat)) (s : Nat) (ks : List Nat) : Bool := ks.all fun a => !Nat.beq (lk m a) s && ks.all fun b => Nat.beq a b || !Nat.beq (lk m a) (lk m b)
theorem liveAll_keys {P : Nat → Nat → AV → AV → Prop} : ∀ {ol : OL}, (∀ k i sh c, k ∈ keysOf ol → P k i sh c) → liveAll P ol
  | [], _ => trivial
  | (k, .one sh c) :: r, h => ⟨h k 0 sh c (by simp [keysOf]), liveAll_keys (fun k i sh c hk => h k i sh c (by simp [keysOf, hk]))⟩
  | (k, .many f) :: r, h => ⟨fun i sh c _ => h k i sh c (by simp [keysOf]), liveAll_keys (fun k i sh c hk => h k i sh c (by simp [keysOf, hk]))⟩
  | (k, .gone) :: r, h => liveAll_keys (ol := r) (fun k i sh c hk => h k i sh c (by simp [keysOf, hk]))
theorem emb_L {m : List (Nat × Nat)} {kg c s : Nat} {env' env : Env} {ol' ol : OL} (hk : okL m s (keysOf ol) = true) (henv : envAll (fun t v => MtE (vwOf (ρL m kg c s) ol' ol) v (get env' t)) env)
    (hlive : liveAll (fun k i sh c_1 => match ol'.at_ (ρL m kg c s k i).1 (ρL m kg c s k i).2 with | some (sh', c') => sh' = sh ∧ ssh sh c_1 ∧ Mt (vwOf (ρL m kg c s) ol' ol) c_1 c' | none => False) ol) : Emb (ρL m kg c s) env' ol' env ol := by
  refine ⟨henv, hlive, liveAll_keys (fun k i _ _ hki => liveAll_keys (fun k2 i2 _ _ hk2 he => ?_))⟩
  simp only [okL, List.all_eq_true, Bool.and_eq_true, Bool.or_eq_true, Bool.not_eq_true'] at hk
  have ha := hk k hki
  have hb := hk k2 hk2
  unfold ρL at he
  cases h1 : (Nat.beq k kg && Nat.beq i c) <;> cases h2 : (Nat.beq k2 kg && Nat.beq i2 c) <;> rw [h1, h2] at he <;> simp only [cond_true, cond_false, Prod.mk.injEq] at he
  · refine ⟨?_, he.2⟩
    rcases ha.2 k2 hk2 with h | h
    · exact Nat.eq_of_beq_eq_true h
    · rw [he.1, Nat.beq_refl] at h; cases h
  · have := ha.1
    rw [he.1, Nat.beq_refl] at this; cases this
  · have := hb.1
    rw [← he.1, Nat.beq_refl] at this; cases this
  · simp only [Bool.and_eq_true] at h1 h2
    exact ⟨(Nat.eq_of_beq_eq_true h1.1).trans (Nat.eq_of_beq_eq_true h2.1).symm, (Nat.eq_of_beq_eq_true h1.2).trans (Nat.eq_of_beq_eq_true h2.2).symm⟩
theorem ρL_ne {m : List (Nat × Nat)} {kg c s k i : Nat} (h : k ≠ kg ∨ i ≠ c) : ρL m kg c s k i = (lk m k, i) := by
  unfold ρL
  rcases h with h | h
  · rw [beq_ff h]; rfl
  · rw [beq_ff h, Bool.and_false]; rfl
theorem ρL_eq {m : List (Nat × Nat)} {kg c s : Nat} : ρL m kg c s kg c = (s, 0) := by
  unfold ρL
  rw [Nat.beq_refl, Nat.beq_refl]; rfl
end Go.Am

set_option linter.unusedVariables false
set_option linter.unusedSimpArgs false
namespace Go.Am
section
variable {p : Int} {n : Nat} {A : Nat → Nat → Int} {b : Nat → Int}
end
end Go.Am

set_option linter.unusedVariables false
set_option linter.unusedSimpArgs false
namespace Go.Am
section
variable {p : Int} {C W : Nat → Nat → Int} {i k l r z n : Nat}
end
end Go.Am

set_option linter.unusedVariables false
set_option linter.unusedSimpArgs false
namespace Go.Am
section
variable {p : Int} {m no c i z : Nat} {O : Nat → Nat → Int} {l : Nat → Nat}
end
end Go.Am

set_option linter.unusedVariables false
set_option linter.unusedSimpArgs false
namespace Go.Am
theorem closed_ci {k : IntKind} {n : Int} : (AV.cptr (.int k n)).closed := trivial
end Go.Am

set_option linter.unusedVariables false
set_option linter.unusedSimpArgs false
namespace Go.Am
section
variable {p : Int} {n : Nat} {A : Nat → Nat → Int}
end
def prF (p n : Int) (T : Nat → Nat → Nat → Int) (fo : Nat → Int) (q m : Int) (S : Nat → Nat → Nat → Int) (go : Nat → Int) (Y : Nat → Nat → Int) : Nat → AV
  | 0 => algA p n T fo
  | 1 => algA q m S go
  | 2 => matA Y
  | _ => .any
abbrev prA (p n : Int) (T : Nat → Nat → Nat → Int) (fo : Nat → Int) (q m : Int) (S : Nat → Nat → Nat → Int) (go : Nat → Int) (Y : Nat → Nat → Int) : AV := .sct 3 (prF p n T fo q m S go Y)
section
variable {p n q m p' n' q' m' : Int} {T S T' S' : Nat → Nat → Nat → Int} {fo go fo' go' : Nat → Int} {Y Y' : Nat → Nat → Int} {V : Vw}
theorem closed_mat : (matA Y).closed := fun _ _ => trivial
theorem ssh_pr : ssh (prA p n T fo q m S go Y) (prA p' n' T' fo' q' m' S' go' Y') := by
  refine ⟨rfl, fun i => ?_⟩
  match i with
  | 0 => exact ssh_alg
  | 1 => exact ssh_alg
  | 2 => exact ssh_mat
  | n + 3 => exact trivial
theorem prF_congr {f : Nat → AV} (h0 : f 0 = algA p n T fo) (h1 : f 1 = algA q m S go) (h2 : f 2 = matA Y) (h4 : ∀ i, f (i + 3) = .any) : AV.sct 3 f = prA p n T fo q m S go Y := by
  refine congrArg (AV.sct 3) (funext fun i => ?_)
  match i with
  | 0 => exact h0
  | 1 => exact h1
  | 2 => exact h2
  | i + 3 => exact h4 i
theorem put_pr0 : put (prA p n T fo q m S go Y) [0] (algA p' n' T' fo') = prA p' n' T' fo' q m S go Y := prF_congr put_nil rfl rfl (fun _ => rfl)
theorem put_pr1 : put (prA p n T fo q m S go Y) [1] (algA p' n' T' fo') = prA p n T fo p' n' T' fo' Y := prF_congr rfl put_nil rfl (fun _ => rfl)
theorem put_pr2 : put (prA p n T fo q m S go Y) [2] (matA Y') = prA p n T fo q m S go Y' := prF_congr rfl rfl put_nil (fun _ => rfl)
variable {at_ : Nat → Nat → Option (AV × AV)} {d : Nat}
end
section
variable {z : Nat → Int}
end
section
variable {p : Int} {n m : Nat} {T S : Nat → Nat → Nat → Int} {fo go : Nat → Int} {Y : Nat → Nat → Int}
def zvP (p : Int) (n m : Nat) (Y : Nat → Nat → Int) (i : Nat) : Prop := smP p (m : Int) (Y i) ∧ (n ≤ i → eqN 6 (Y i) (fun _ => 0))
def prS (p : Int) (n m : Nat) (T S : Nat → Nat → Nat → Int) (Y : Nat → Nat → Int) : Prop :=
  ((∀ i, i < 6 → zvP p n m Y i) ∧ ∀ i, i < n → (∀ j, j < n → eqN 6 (apF p Y (T i j) n) (timesF p m S (Y i) (Y j))) ∧ ∀ j, j < m → eqN 6 (timesF p m S (Y i) (eF j)) (timesF p m S (eF j) (Y i))) ∧ eqN 6 (apF p Y (uF p n T) n) (uF p m S)
def prI (p : Int) (n m : Nat) (T S : Nat → Nat → Nat → Int) (Y : Nat → Nat → Int) : Prop :=
  (∀ i, i < 6 → (zvP p n m Y i ∧ ∀ j, j < m → eqN 6 (timesF p m S (Y i) (eF j)) (timesF p m S (eF j) (Y i))) ∧ ∀ j, j < 6 → eqN 6 (apF p Y (T i j) 6) (timesF p m S (Y i) (Y j))) ∧ eqN 6 (apF p Y (uF p n T) 6) (uF p m S)
noncomputable instance {i : Nat} : Decidable (zvP p n m Y i) := Classical.propDecidable _
noncomputable instance : Decidable (prS p n m T S Y) := Classical.propDecidable _
noncomputable instance : Decidable (prI p n m T S Y) := Classical.propDecidable _
end
end Go.Am

set_option linter.unusedVariables false
set_option linter.unusedSimpArgs false
namespace Go.Am
end Go.Am

set_option linter.unusedVariables false
set_option linter.unusedSimpArgs false
namespace Go.Am
structure PN (p : Int) (n : Nat) (T : Nat → Nat → Nat → Int) (fo : Nat → Int) (m : Nat) (S : Nat → Nat → Nat → Int) (go : Nat → Int) (Y : Nat → Nat → Int) : Prop where
  v : VN p n T fo
  w : VN p m S go
  c : comN n T
  r : rankT p n T fo = n
  s : rankT p m S go = m
  y : symA m (formT p S go)
  z : prS p n m T S Y
def PR (p n : Int) (T : Nat → Nat → Nat → Int) (fo : Nat → Int) (q m : Int) (S : Nat → Nat → Nat → Int) (go : Nat → Int) (Y : Nat → Nat → Int) : Prop :=
  ∃ a b : Nat, n = (a : Int) ∧ m = (b : Int) ∧ q = p ∧ PN p a T fo b S go Y
noncomputable instance {p n : Int} {T : Nat → Nat → Nat → Int} {fo : Nat → Int} {q m : Int} {S : Nat → Nat → Nat → Int} {go : Nat → Int} {Y : Nat → Nat → Int} : Decidable (PR p n T fo q m S go Y) := Classical.propDecidable _
section
variable {p n q m : Int} {T S : Nat → Nat → Nat → Int} {fo go : Nat → Int} {Y : Nat → Nat → Int}
end
end Go.Am
namespace Go.Am
end Go.Am

set_option linter.unusedVariables false
set_option linter.unusedSimpArgs false
namespace Go.Am
section
variable {p : Int} {n : Nat} {C : Nat → Nat → Int} {o : Nat → Int}
end
end Go.Am
namespace Go.Am
end Go.Am

set_option linter.unusedVariables false
set_option linter.unusedSimpArgs false
namespace Go.Am
def tnF (p n i o : Int) (s : AV) : Nat → AV
  | 0 => .int .i64 p
  | 1 => .int .i64 n
  | 2 => .int .i64 i
  | 3 => .int .i64 o
  | 4 => s
  | _ => .any
abbrev tnA (p n i o : Int) (s : AV) : AV := .sct 5 (tnF p n i o s)
section
variable {p n i o p' n' i' o' : Int} {s s' : AV} {V : Vw}
theorem sshTn (h : ssh s s') : ssh (tnA p n i o s) (tnA p' n' i' o' s') := by
  refine ⟨rfl, fun k => ?_⟩
  match k with
  | 0 => exact trivial
  | 1 => exact trivial
  | 2 => exact trivial
  | 3 => exact trivial
  | 4 => exact h
  | k + 5 => exact trivial
theorem tnF_congr {f : Nat → AV} (h0 : f 0 = .int .i64 p) (h1 : f 1 = .int .i64 n) (h2 : f 2 = .int .i64 i) (h3 : f 3 = .int .i64 o) (h : f 4 = s) (h5 : ∀ k, f (k + 5) = .any) : AV.sct 5 f = tnA p n i o s := by
  refine congrArg (AV.sct 5) (funext fun k => ?_)
  match k with
  | 0 => exact h0
  | 1 => exact h1
  | 2 => exact h2
  | 3 => exact h3
  | 4 => exact h
  | k + 5 => exact h5 k
theorem put_tn4 : put (tnA p n i o s) [4] s' = tnA p n i o s' := tnF_congr rfl rfl rfl rfl put_nil (fun _ => rfl)
end
end Go.Am

set_option linter.unusedVariables false
set_option linter.unusedSimpArgs false
namespace Go.Am
end Go.Am
namespace Go.Am
end Go.Am

set_option linter.unusedVariables false
set_option linter.unusedSimpArgs false
namespace Go.Am
section
variable {p : Int} {n : Nat} {T : Nat → Nat → Nat → Int} {fo : Nat → Int}
noncomputable def pw (p : Int) (n : Nat) (T : Nat → Nat → Nat → Int) (v : Nat → Int) (k : Nat) : Nat → Int := powV p n T (uF p n T) v k
def lc (p : Int) (c : Nat → Int) (w : Nat → Nat → Int) : Nat → Nat → Int
  | 0 => fun _ => 0
  | m + 1 => addF p (lc p c w m) (w m) (c m)
end
end Go.Am

set_option linter.unusedVariables false
set_option linter.unusedSimpArgs false
namespace Go.Am
section
variable {p : Int} {n : Nat} {T : Nat → Nat → Nat → Int} {fo : Nat → Int}
theorem VN.P (h : VN p n T fo) : p = ((p.toNat : Nat) : Int) := by have := h.p0; omega
end
end Go.Am
namespace Go.Am
end Go.Am

set_option linter.unusedVariables false
set_option linter.unusedSimpArgs false
namespace Go.Am
section
variable {p : Int} {n : Nat} {T : Nat → Nat → Nat → Int} {fo : Nat → Int}
end
end Go.Am

set_option linter.unusedVariables false
set_option linter.unusedSimpArgs false
namespace Go.Am
section
variable {p : Int} {n : Nat} {T : Nat → Nat → Nat → Int} {fo : Nat → Int}
end
end Go.Am

set_option linter.unusedVariables false
set_option linter.unusedSimpArgs false
namespace Go.Am
section
variable {p : Int} {n : Nat} {T : Nat → Nat → Nat → Int} {fo : Nat → Int}
noncomputable def mpS (p : Int) (n : Nat) (T : Nat → Nat → Nat → Int) (v : Nat → Int) (k j : Nat) : Int := pw p n T v j k
noncomputable def mpI (p : Int) (n : Nat) (T : Nat → Nat → Nat → Int) (v : Nat → Int) (m k j : Nat) : Int := if j < m then pw p n T v j k else (- pw p n T v j k) % p
structure MPd (p : Int) (n : Nat) (T : Nat → Nat → Nat → Int) (v : Nat → Int) (D : Nat) : Prop where
  d1 : 1 ≤ D
  dn : D ≤ n
  sy : oneP D (echGo p (D + 1) (mpS p n T v) n).no (echGo p (D + 1) (mpS p n T v) n).O
  sn : ∀ m, m < D → ¬ oneP m (echGo p (m + 1) (mpS p n T v) n).no (echGo p (m + 1) (mpS p n T v) n).O
  iy : conP D (redGo p n (mpI p n T v D) (D + 1)).no (redGo p n (mpI p n T v D) (D + 1)).O
  i_n : ∀ m, m < D → ¬ conP m (redGo p n (mpI p n T v m) (m + 1)).no (redGo p n (mpI p n T v m) (m + 1)).O
  out : ∀ a, a < D → solGo D (redGo p n (mpI p n T v D) (D + 1)).O (redGo p n (mpI p n T v D) (D + 1)).no a = (- (echGo p (D + 1) (mpS p n T v) n).O a D) % p
end
end Go.Am

set_option linter.unusedVariables false
set_option linter.unusedSimpArgs false
namespace Go.Am
def enN (P : Nat → Bool) : Nat → Nat
  | 0 => 0
  | j + 1 => if P j then enN P j + 1 else enN P j
def enF (P : Nat → Bool) : Nat → Nat → Nat
  | 0 => fun _ => 0
  | j + 1 => fun r => if P j ∧ r = enN P j then j else enF P j r
theorem enN_le (P : Nat → Bool) : ∀ j, enN P j ≤ j
  | 0 => Nat.le_refl _
  | j + 1 => by
    have := enN_le P j
    show (if P j then enN P j + 1 else enN P j) ≤ j + 1
    split <;> omega
theorem en_t {P : Nat → Bool} {j : Nat} (h : P j = true) : enN P (j + 1) = enN P j + 1 := by show (if P j then enN P j + 1 else enN P j) = _; rw [if_pos h]
theorem en_f {P : Nat → Bool} {j : Nat} (h : P j = false) : enN P (j + 1) = enN P j := by show (if P j then enN P j + 1 else enN P j) = _; rw [if_neg (by simp [h])]
theorem enF_t {P : Nat → Bool} {j : Nat} (h : P j = true) : enF P (j + 1) (enN P j) = j := by show (if P j = true ∧ enN P j = enN P j then j else _) = j; rw [if_pos ⟨h, rfl⟩]
theorem enF_o {P : Nat → Bool} {j r : Nat} (h : r < enN P j) : enF P (j + 1) r = enF P j r := by show (if P j = true ∧ r = enN P j then j else _) = _; rw [if_neg (fun e => by omega)]
theorem enF_n {P : Nat → Bool} {j r : Nat} (h : P j = false) : enF P (j + 1) r = enF P j r := by show (if P j = true ∧ r = enN P j then j else _) = _; rw [if_neg (fun e => by rw [h] at e; exact absurd e.1 (by simp))]
theorem enF_in {P : Nat → Bool} : ∀ j r, r < enN P j → enF P j r < j ∧ P (enF P j r) = true
  | 0, r, h => absurd h (Nat.not_lt_zero _)
  | j + 1, r, h => by
    cases hP : P j with
    | false =>
      rw [en_f hP] at h; rw [enF_n (r := r) hP]
      have := enF_in j r h; exact ⟨by omega, this.2⟩
    | true =>
      rw [en_t hP] at h
      by_cases hr : r = enN P j
      · subst hr; rw [enF_t hP]; exact ⟨by omega, hP⟩
      · rw [enF_o (P := P) (j := j) (r := r) (by omega)]
        have := enF_in (P := P) j r (by omega); exact ⟨by omega, this.2⟩
theorem enF_inc {P : Nat → Bool} : ∀ j a b, a < b → b < enN P j → enF P j a < enF P j b
  | 0, a, b, _, h => absurd h (Nat.not_lt_zero _)
  | j + 1, a, b, hab, h => by
    cases hP : P j with
    | false => rw [en_f hP] at h; rw [enF_n hP, enF_n hP]; exact enF_inc j a b hab h
    | true =>
      rw [en_t hP] at h
      by_cases hb : b = enN P j
      · subst hb; rw [enF_t hP, enF_o hab]; exact (enF_in j a hab).1
      · rw [enF_o (P := P) (j := j) (r := a) (by omega), enF_o (P := P) (j := j) (r := b) (by omega)]; exact enF_inc j a b hab (by omega)
theorem enF_all {P : Nat → Bool} : ∀ j z, z < j → P z = true → ∃ r, r < enN P j ∧ enF P j r = z
  | 0, z, h, _ => absurd h (Nat.not_lt_zero _)
  | j + 1, z, h, hz => by
    by_cases e : z = j
    · subst e; exact ⟨enN P z, by rw [en_t hz]; omega, enF_t hz⟩
    · obtain ⟨r, h1, h2⟩ := enF_all j z (by omega) hz
      refine ⟨r, ?_, by rw [enF_o h1, h2]⟩
      cases hP : P j with
      | false => rw [en_f hP]; exact h1
      | true => rw [en_t hP]; omega
theorem en_uniq {P : Nat → Bool} {n m : Nat} {f : Nat → Nat} (hinc : ∀ a b, a < b → b < m → f a < f b) (hin : ∀ r, r < m → f r < n ∧ P (f r) = true) (hall : ∀ z, z < n → P z = true → ∃ r, r < m ∧ f r = z) :
    m = enN P n ∧ ∀ r, r < m → f r = enF P n r := by
  exact inc_eq hinc (enF_inc n) (fun i hi => enF_all n (f i) (hin i hi).1 (hin i hi).2) (fun i hi => hall _ (enF_in n i hi).1 (enF_in n i hi).2)
theorem enF_0 {P : Nat → Bool} {n i : Nat} (hi : i < n) (hP : P i = true) : 0 < enN P n ∧ (enF P n 0 = i ↔ ∀ z, z < i → P z = false) := by
  obtain ⟨r, h1, h2⟩ := enF_all n i hi hP
  refine ⟨by omega, ?_, ?_⟩
  · intro h z hz
    cases hq : P z with
    | false => rfl
    | true =>
      obtain ⟨s, h3, h4⟩ := enF_all n z (by omega) hq
      rcases Nat.eq_zero_or_pos s with rfl | hs
      · omega
      · have := enF_inc n 0 s hs h3; omega
  · intro h
    rcases Nat.eq_zero_or_pos r with rfl | hr
    · exact h2
    · have h3 := enF_inc n 0 r hr h1
      have h4 := (enF_in n 0 (by omega : 0 < enN P n)).2
      rw [h _ (by omega)] at h4
      exact absurd h4 (by simp)
def entQ (n : Nat) (G : Nat → Nat → Nat) (i j : Nat) : Prop := if i < n ∧ j < n then G i j < n else G i j = 0
instance (n : Nat) (G : Nat → Nat → Nat) (i j : Nat) : Decidable (entQ n G i j) := by unfold entQ; exact inferInstance
def entP (n : Nat) (G : Nat → Nat → Nat) : Prop := ∀ i, i < 6 → ∀ j, j < 6 → entQ n G i j
noncomputable instance (n : Nat) (G : Nat → Nat → Nat) : Decidable (entP n G) := Classical.propDecidable _
def ivI (n : Nat) (G : Nat → Nat → Nat) (i : Nat) : Int := idxF (fun j => decide (G i j = 0 ∧ G j i = 0)) n
def ivN (n : Nat) (G : Nat → Nat → Nat) (i : Nat) : Nat := (idxF (fun j => decide (G i j = 0)) n).toNat
def idP (G : Nat → Nat → Nat) (i : Nat) : Prop := G 0 i = i ∧ G i 0 = i
def ascG (n : Nat) (G : Nat → Nat → Nat) (i : Nat) : Prop := ∀ j, j < n → ∀ k, k < n → G (G i j) k = G i (G j k)
structure GN (n : Nat) (G : Nat → Nat → Nat) : Prop where
  n1 : 1 ≤ n
  n6 : n ≤ 6
  ent : entP n G
  id : ∀ i, i < n → idP G i
  inv : ∀ i, i < n → ∃ j, j < n ∧ G i j = 0 ∧ G j i = 0
  asc : ∀ i, i < n → ascG n G i
noncomputable instance (n : Nat) (G : Nat → Nat → Nat) : Decidable (GN n G) := Classical.propDecidable _
section
variable {n : Nat} {G : Nat → Nat → Nat}
theorem GN.lt (h : GN n G) {i j : Nat} (hi : i < n) (hj : j < n) : G i j < n := by
  have hn := h.n6
  have := h.ent i (by omega) j (by omega)
  unfold entQ at this
  rwa [if_pos ⟨hi, hj⟩] at this
theorem GN.l (h : GN n G) {i : Nat} (hi : i < n) : G 0 i = i := (h.id i hi).1
theorem GN.r (h : GN n G) {i : Nat} (hi : i < n) : G i 0 = i := (h.id i hi).2
theorem GN.as (h : GN n G) {i j k : Nat} (hi : i < n) (hj : j < n) (hk : k < n) : G (G i j) k = G i (G j k) := h.asc i hi j hj k hk
theorem GN.uniq (h : GN n G) {i j j' : Nat} (hi : i < n) (hj : j < n) (hj' : j' < n) (h1 : G i j = 0) (h2 : G j' i = 0) : j = j' := by
  have := h.as hj' hi hj
  rw [h1, h2, h.l hj, h.r hj'] at this
  exact this
theorem GN.iv (h : GN n G) {i : Nat} (hi : i < n) : idxF (fun j => decide (G i j = 0)) n = ((ivN n G i : Nat) : Int) ∧ ivN n G i < n ∧ G i (ivN n G i) = 0 ∧ G (ivN n G i) i = 0 ∧ ivI n G i = ((ivN n G i : Nat) : Int) := by
  obtain ⟨j, hj, e1, e2⟩ := h.inv i hi
  have hu : ∀ z, z < n → G i z = 0 → z = j := fun z hz e => h.uniq hi hz hj e e2
  have k1 : idxF (fun j => decide (G i j = 0)) n = (j : Int) := idx_at hj (by simp [e1]) (fun z hz => by
    simp only [decide_eq_false_iff_not]
    intro e
    have := hu z (by omega) e; omega)
  have k2 : ivN n G i = j := by unfold ivN; rw [k1]; simp
  refine ⟨by rw [k2, k1], by rw [k2]; exact hj, by rw [k2]; exact e1, by rw [k2]; exact e2, ?_⟩
  rw [k2]
  exact idx_at hj (by simp [e1, e2]) (fun z hz => by
    simp only [decide_eq_false_iff_not]
    intro e
    have := hu z (by omega) e.1; omega)
theorem GN.iv_lt (h : GN n G) {i : Nat} (hi : i < n) : ivN n G i < n := (h.iv hi).2.1
theorem GN.iv_r (h : GN n G) {i : Nat} (hi : i < n) : G i (ivN n G i) = 0 := (h.iv hi).2.2.1
theorem GN.iv_l (h : GN n G) {i : Nat} (hi : i < n) : G (ivN n G i) i = 0 := (h.iv hi).2.2.2.1
theorem GN.iv_of (h : GN n G) {i j : Nat} (hi : i < n) (hj : j < n) (e : G i j = 0) : ivN n G i = j := (h.uniq hi hj (h.iv_lt hi) e (h.iv_l hi)).symm
def cj (n : Nat) (G : Nat → Nat → Nat) (i x : Nat) : Nat := G (G x i) (ivN n G x)
theorem GN.cj_lt (h : GN n G) {i x : Nat} (hi : i < n) (hx : x < n) : cj n G i x < n := h.lt (h.lt hx hi) (h.iv_lt hx)
def ownP (n : Nat) (G : Nat → Nat → Nat) (i j : Nat) : Prop := ∃ x, x < n ∧ cj n G i x = j
theorem GN.own_r (h : GN n G) {i : Nat} (hi : i < n) : ownP n G i i := by
  have h0 : 0 < n := h.n1
  refine ⟨0, h0, ?_⟩
  unfold cj
  rw [h.l hi, h.iv_of h0 h0 (h.l h0), h.r hi]
theorem GN.own_s (h : GN n G) {i j : Nat} (hi : i < n) (ho : ownP n G i j) : ownP n G j i := by
  obtain ⟨x, hx, rfl⟩ := ho
  have hv := h.iv_lt hx
  refine ⟨ivN n G x, hv, ?_⟩
  unfold cj
  rw [h.iv_of hv hx (h.iv_l hx)]
  have hxi := h.lt hx hi
  rw [← h.as hv hxi hv, ← h.as hv hx hi, h.iv_l hx, h.l hi, h.as hi hv hx, h.iv_l hx, h.r hi]
theorem GN.own_t (h : GN n G) {i j k : Nat} (hi : i < n) (h1 : ownP n G i j) (h2 : ownP n G j k) : ownP n G i k := by
  obtain ⟨x, hx, rfl⟩ := h1
  obtain ⟨y, hy, rfl⟩ := h2
  have hyx := h.lt hy hx
  have hvx := h.iv_lt hx
  have hvy := h.iv_lt hy
  have hv := h.lt hvx hvy
  refine ⟨G y x, hyx, ?_⟩
  have e : ivN n G (G y x) = G (ivN n G x) (ivN n G y) := h.iv_of hyx hv (by
    rw [h.as hy hx hv, ← h.as hx hvx hvy, h.iv_r hx, h.l hvy, h.iv_r hy])
  have hxi := h.lt hx hi
  unfold cj
  rw [e, h.as hy hx hi, ← h.as (h.lt hy hxi) hvx hvy, h.as hy hxi hvx]
def owF (n : Nat) (G : Nat → Nat → Nat) (i : Nat) : Nat → Nat → Bool
  | 0 => fun _ => false
  | x + 1 => fun j => if j = cj n G i x then true else owF n G i x j
theorem ownF_iff {i j : Nat} : ∀ x, owF n G i x j = true ↔ ∃ y, y < x ∧ cj n G i y = j
  | 0 => by simp [owF]
  | x + 1 => by
    have ih := ownF_iff (i := i) (j := j) x
    show (if j = cj n G i x then true else owF n G i x j) = true ↔ _
    split
    · rename_i h; exact ⟨fun _ => ⟨x, by omega, h.symm⟩, fun _ => rfl⟩
    · rename_i h
      rw [ih]
      constructor
      · rintro ⟨y, hy, e⟩; exact ⟨y, by omega, e⟩
      · rintro ⟨y, hy, e⟩
        refine ⟨y, ?_, e⟩
        rcases Nat.lt_or_ge y x with h3 | h3
        · exact h3
        · obtain rfl : y = x := by omega
          exact absurd e.symm h
theorem own_iff {i j : Nat} : owF n G i n j = true ↔ ownP n G i j := ownF_iff n
theorem GN.own_lt (h : GN n G) {i j : Nat} (hi : i < n) (ho : owF n G i n j = true) : j < n := by
  obtain ⟨x, hx, rfl⟩ := own_iff.1 ho
  exact h.cj_lt hi hx
def metF (n : Nat) (G : Nat → Nat → Nat) : Nat → Nat → Bool
  | 0 => fun _ => false
  | i + 1 => if metF n G i i then metF n G i else fun j => metF n G i j || owF n G i n j
theorem GN.met (h : GN n G) : ∀ i, i ≤ n → ∀ j, metF n G i j = true ↔ ∃ a, a < i ∧ ownP n G a j
  | 0, _, j => by simp [metF]
  | i + 1, hi, j => by
    have ih := h.met i (by omega)
    show (if metF n G i i then metF n G i else fun j => metF n G i j || owF n G i n j) j = true ↔ _
    split
    · rename_i hm
      rw [ih]
      constructor
      · rintro ⟨a, ha, e⟩; exact ⟨a, by omega, e⟩
      · rintro ⟨a, ha, e⟩
        rcases Nat.lt_or_ge a i with h3 | h3
        · exact ⟨a, h3, e⟩
        · obtain rfl : a = i := by omega
          obtain ⟨b, hb, e2⟩ := (ih a).1 hm
          exact ⟨b, hb, h.own_t (by omega) e2 e⟩
    · show (metF n G i j || owF n G i n j) = true ↔ _
      rw [Bool.or_eq_true, ih, own_iff]
      constructor
      · rintro (⟨a, ha, e⟩ | e)
        · exact ⟨a, by omega, e⟩
        · exact ⟨i, by omega, e⟩
      · rintro ⟨a, ha, e⟩
        rcases Nat.lt_or_ge a i with h3 | h3
        · exact .inl ⟨a, h3, e⟩
        · obtain rfl : a = i := by omega
          exact .inr e
def repB (n : Nat) (G : Nat → Nat → Nat) (i : Nat) : Bool := !metF n G i i
abbrev clN (n : Nat) (G : Nat → Nat → Nat) (i : Nat) : Nat := enN (owF n G i n) n
abbrev clF (n : Nat) (G : Nat → Nat → Nat) (i : Nat) : Nat → Nat := enF (owF n G i n) n
theorem GN.cl_0 (h : GN n G) {i : Nat} (hi : i < n) : 0 < clN n G i ∧ (clF n G i 0 = i ↔ repB n G i = true) := by
  obtain ⟨h1, h2⟩ := enF_0 (P := owF n G i n) hi (own_iff.2 (h.own_r hi))
  refine ⟨h1, h2.trans ?_⟩
  unfold repB
  rw [Bool.not_eq_true', ← Bool.not_eq_true, h.met i (by omega)]
  constructor
  · rintro hz ⟨a, ha, e⟩
    have := hz a ha
    rw [own_iff.2 (h.own_s (by omega) e)] at this
    exact absurd this (by simp)
  · intro hz a ha
    cases hq : owF n G i n a with
    | false => rfl
    | true => exact absurd ⟨a, ha, h.own_s hi (own_iff.1 hq)⟩ hz
abbrev ccN (n : Nat) (G : Nat → Nat → Nat) : Nat := enN (repB n G) n
abbrev rpF (n : Nat) (G : Nat → Nat → Nat) : Nat → Nat := enF (repB n G) n
theorem GN.rp (h : GN n G) {r : Nat} (hr : r < ccN n G) : rpF n G r < n ∧ clF n G (rpF n G r) 0 = rpF n G r ∧ 0 < clN n G (rpF n G r) := by
  obtain ⟨h1, h2⟩ := enF_in (P := repB n G) n r hr
  obtain ⟨h3, h4⟩ := h.cl_0 h1
  exact ⟨h1, h4.2 h2, h3⟩
theorem GN.cls (h : GN n G) {i : Nat} (hi : i < n) : ∃ r, r < ccN n G ∧ ownP n G (rpF n G r) i := by
  obtain ⟨h1, h2⟩ := h.cl_0 hi
  obtain ⟨h3, h4⟩ := enF_in (P := owF n G i n) n 0 h1
  have h5 := own_iff.1 h4
  have hrep : repB n G (clF n G i 0) = true := by
    refine (h.cl_0 h3).2.1 ?_
    obtain ⟨q1, q2⟩ := enF_0 (P := owF n G (clF n G i 0) n) h3 (own_iff.2 (h.own_r h3))
    refine q2.2 (fun z hz => ?_)
    cases hq : owF n G (clF n G i 0) n z with
    | false => rfl
    | true =>
      have hz2 := own_iff.2 (h.own_t hi h5 (own_iff.1 hq))
      obtain ⟨s, h6, h7⟩ := enF_all n z (by omega) hz2
      rcases Nat.eq_zero_or_pos s with rfl | hs
      · have : clF n G i 0 = z := h7
        omega
      · have h8 := enF_inc n 0 s hs h6
        have h7 : enF (owF n G i n) n s = z := h7
        have hz : z < enF (owF n G i n) n 0 := hz
        omega
  obtain ⟨r, h6, h7⟩ := enF_all (P := repB n G) n _ h3 hrep
  exact ⟨r, h6, by rw [show rpF n G r = clF n G i 0 from h7]; exact h.own_s hi h5⟩
theorem GN.cls_uniq (h : GN n G) {i r s : Nat} (hr : r < ccN n G) (hs : s < ccN n G) (h1 : ownP n G (rpF n G r) i) (h2 : ownP n G (rpF n G s) i) : r = s := by
  have a1 := h.rp hr
  have a2 := h.rp hs
  have k1 := enF_in (P := repB n G) n r hr
  have k2 := enF_in (P := repB n G) n s hs
  have e1 : ownP n G (rpF n G r) (rpF n G s) := h.own_t a1.1 h1 (h.own_s a2.1 h2)
  have e2 := h.own_s a1.1 e1
  rcases Nat.lt_trichotomy r s with q | q | q
  · have h3 := enF_inc (P := repB n G) n r s q hs
    have h4 : metF n G (rpF n G s) (rpF n G s) = true := (h.met _ (by have := a2.1; omega) _).2 ⟨_, h3, e1⟩
    have h5 : (!metF n G (rpF n G s) (rpF n G s)) = true := k2.2
    rw [h4] at h5; exact absurd h5 (by simp)
  · exact q
  · have h3 := enF_inc (P := repB n G) n s r q hr
    have h4 : metF n G (rpF n G r) (rpF n G r) = true := (h.met _ (by have := a1.1; omega) _).2 ⟨_, h3, e2⟩
    have h5 : (!metF n G (rpF n G r) (rpF n G r)) = true := k1.2
    rw [h4] at h5; exact absurd h5 (by simp)
end
end Go.Am

set_option linter.unusedVariables false
set_option linter.unusedSimpArgs false
namespace Go.Am
abbrev tb2 (G : Nat → Nat → Nat) : Nat → Nat → Int := fun i j => ((G i j : Nat) : Int)
def grpF (n : Int) (G : Nat → Nat → Nat) : Nat → AV
  | 0 => .int .i64 n
  | 1 => matA (tb2 G)
  | _ => .any
abbrev grpA (n : Int) (G : Nat → Nat → Nat) : AV := .sct 2 (grpF n G)
section
variable {n n' : Int} {G G' : Nat → Nat → Nat} {V : Vw}
theorem closed_grp : (grpA n G).closed := by
  intro i
  match i with
  | 0 => exact trivial
  | 1 => exact closed_mat
  | n + 2 => exact trivial
theorem closed_cgrp : (AV.cptr (grpA n G)).closed := closed_grp
theorem m_grp : MtE V (grpA n G) (grpA n G) := Mt_closed (V := V) closed_grp (fun _ _ _ => trivial) (by simp)
theorem m_cgrp : MtE V (.cptr (grpA n G)) (.cptr (grpA n G)) := Mt_closed (V := V) (v := .cptr (grpA n G)) closed_grp (fun _ _ _ => trivial) (by simp)
theorem ssh_grp : ssh (grpA n G) (grpA n' G') := by
  refine ⟨rfl, fun i => ?_⟩
  match i with
  | 0 => exact trivial
  | 1 => exact ssh_mat
  | n + 2 => exact trivial
theorem grpF_congr {f : Nat → AV} (h0 : f 0 = .int .i64 n) (h1 : f 1 = matA (tb2 G)) (h4 : ∀ i, f (i + 2) = .any) : AV.sct 2 f = grpA n G := by
  refine congrArg (AV.sct 2) (funext fun i => ?_)
  match i with
  | 0 => exact h0
  | 1 => exact h1
  | i + 2 => exact h4 i
theorem put_grp0 : put (grpA n G) [0] (.int .i64 n') = grpA n' G := grpF_congr put_nil rfl (fun _ => rfl)
theorem put_grp1 : put (grpA n G) [1] (matA (tb2 G')) = grpA n G' := grpF_congr rfl put_nil (fun _ => rfl)
variable {at_ : Nat → Nat → Option (AV × AV)} {d : Nat}
theorem exp_grp : exp at_ (d + 1) (grpA n G) = grpA n G := by
  simp only [exp, expS, AV.sct.injEq, true_and]
  funext i
  match i with
  | 0 => rfl
  | 1 => rfl
  | n + 2 => rfl
theorem exp_cgrp : exp at_ (d + 1) (.cptr (grpA n G)) = .cptr (grpA n G) := by
  have := @exp_grp n G at_ d
  simp only [exp, expS] at this ⊢
  rw [this]
end
def kdG (i : Nat) : IntKind := if i < 1 then .i64 else .u8
def tbG (z : Nat → Int) (i j : Nat) : Nat := if i < 6 ∧ j < 6 then (z (1 + (i * 6 + j))).toNat else 0
theorem kd_grp {P : Program} {a b : TypeId} (h1 : P.underlying a = some (.int .i64)) (h2 : P.underlying b = some (.int .u8)) (i : Nat) (hi : i < 37) (u : TypeId) (hu : (a :: List.replicate 36 b)[i]? = some u) : P.underlying u = some (.int (kdG i)) := by
  match i, hi with
  | 0, _ => rw [← Option.some.inj (show some a = some u from hu)]; exact h1
  | i + 1, hi =>
    rw [List.getElem?_cons_succ, List.getElem?_replicate, if_pos (by omega)] at hu
    rw [← Option.some.inj hu]
    unfold kdG; rw [if_neg (by omega)]; exact h2
section
variable {z : Nat → Int}
theorem grp_in {K : Kx} {cs : Array Value} (hs : cs.size = 37) (h : ∀ i, i < 37 → cs.getD i undef = .int (kdG i) (z i) ∧ (kdG i).has (z i)) : VR K (grpA (z 0) (tbG z)) (.agg cs) := by
  refine ⟨cs, rfl, ?_⟩
  rw [toList_seg, hs]
  have h : ∀ i, i < 37 → (fun i => cs.getD i undef) i = .int (kdG i) (z i) ∧ (kdG i).has (z i) := h
  generalize (fun i => cs.getD i undef) = f at h ⊢
  refine ⟨fun i => match i with | 0 => segF f 0 1 | 1 => segF f 1 36 | _ => [], ?_, fun i hi => ?_⟩
  · show segF f 0 (1 + 36) = _
    rw [seg_add]
    rfl
  · match i, hi with
    | 0, _ => exact FL_int_seg (h 0 (by omega)).1
    | 1, _ => exact FL_arr_seg (n := 6) (s := 6) (fun i hi => FL_vec_seg (fun j hj => by
        obtain ⟨h1, h2⟩ := h (1 + (i * 6 + j)) (by omega)
        rw [show 1 + i * 6 + j = 1 + (i * 6 + j) by omega, h1]
        unfold kdG at h2 ⊢
        rw [if_neg (by omega)] at h2 ⊢
        have := has_u8 h2
        have e : tb2 (tbG z) i j = (((z (1 + (i * 6 + j))).toNat : Nat) : Int) := by unfold tb2 tbG; exact congrArg _ (if_pos ⟨hi, hj⟩)
        rw [e]
        congr 1
        omega)) rfl
end
structure RG (G : Nat → Nat → Nat) : Prop where
  b : ∀ i j, G i j < 256
theorem grp_RG {z : Nat → Int} (h : ∀ i, i < 37 → (kdG i).has (z i)) : RG (tbG z) where
  b := fun i j => by
    unfold tbG
    split
    · have := h (1 + (i * 6 + j)) (by omega)
      unfold kdG at this
      rw [if_neg (by omega)] at this
      have := has_u8 this
      omega
    · omega
theorem RG.w8 {G : Nat → Nat → Nat} (h : RG G) (i j : Nat) : IntKind.i64.wrap ((G i j : Nat) : Int) = ((G i j : Nat) : Int) := w64 (by omega) (by have := h.b i j; omega)
end Go.Am

