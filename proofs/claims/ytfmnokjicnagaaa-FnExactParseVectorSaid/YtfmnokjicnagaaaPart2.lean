/- Part 2 of what the law stands on: abstract values, their walk, contracts of functions. My own work. Conditions: none. -/
import Derived.Test.YtfmnokjicnagaaaPart1
import Derived.Laws.Externs
import Derived.Lib.Bytealg
set_option linter.unusedVariables false
set_option linter.unusedSimpArgs false
namespace Go.Am
def kdx (fr : Nat → Bool) (i : Nat) (o : Oper) : Nat := bif fr i then 0 else kind o
theorem kdx_le (fr : Nat → Bool) (i : Nat) (o : Oper) : kdx fr i o = 0 ∨ kdx fr i o = 1 ∨ kdx fr i o = 2 := by
  unfold kdx
  cases fr i
  · exact kind_le o
  · exact .inl rfl
def StepK (q : Nat) (P : Program) (T : TT) (arr : Array Oper) (o : Oper) (env : Env) (ol : OL) (v : AV) (ol' : OL) : Prop :=
  (gd arr o env = some false ∧ v = undA ∧ ol' = ol) ∨
  (gd arr o env = some true ∧
    ((q = 0 ∧ ol' = ol ∧ PureJ P T o (evE env) v) ∨
     (q = 1 ∧ ∃ A : OL, ol' = A ++ ol ∧ PassJ' P T o (evE env) ol.ob v A ∧ ∀ k, A.has k = true → ol.has k = false) ∨
     (q = 2 ∧ ActJ P T o (evE env) ol.ob v ol'.ob)))
structure DrawOkX (ops : Array Oper) (U : Nat → Nat → Bool) (fr : Nat → Bool) : Prop where
  back : ∀ i oi, ops[i]? = some oi → ∀ e ∈ oi.after, Region.binds .any e = true → e.on < i
  clos : ∀ i oi j, ops[i]? = some oi → j < ops.size → U i j = true → ∃ e ∈ oi.after, Region.binds .any e = true ∧ (e.on = j ∨ U e.on j = true)
  ap : ∀ i oi j oj, ops[i]? = some oi → ops[j]? = some oj → j < i → oj.apart ops oi = true ∨ U i j = true
  act1 : ∀ i oi j oj, ops[i]? = some oi → ops[j]? = some oj → kdx fr i oi = 2 → kdx fr j oj = 1 → j < i → U i j = true
  act1' : ∀ i oi j oj, ops[i]? = some oi → ops[j]? = some oj → kdx fr i oi = 2 → kdx fr j oj = 1 → i < j → U j i = true
  act2 : ∀ i oi j oj, ops[i]? = some oi → ops[j]? = some oj → kdx fr i oi = 2 → kdx fr j oj = 2 → j < i → U i j = true
structure TrX (P : Program) (T : TT) (ops : Array Oper) (fr : Nat → Bool) (env : Env) (V : Nat → AV) (O : Nat → OL) : Prop where
  step : ∀ k o, ops[k]? = some o → StepK (kdx fr k o) P T ops o (envOf V (fun j => decide (j < k)) 0 ops.toList env) (O k) (V k) (O (k + 1))
variable {P : Program} {T : TT} {ops : Array Oper} {U : Nat → Nat → Bool} {fr : Nat → Bool} {env : Env} {V : Nat → AV} {O : Nat → OL}
theorem TrX.same (ht : TrX P T ops fr env V O) {k : Nat} {o : Oper} (hk : ops[k]? = some o) (h0 : kdx fr k o = 0) : O (k + 1) = O k := by
  rcases ht.step k o hk with ⟨_, _, h⟩ | ⟨_, ⟨_, h, _⟩ | ⟨h, _⟩ | ⟨h, _⟩⟩
  · exact h
  · exact h
  · rw [h0] at h; cases h
  · rw [h0] at h; cases h
theorem TrX.up (ht : TrX P T ops fr env V O) {j : Nat} {o : Oper} (hj : ops[j]? = some o) (h2 : kdx fr j o ≠ 2) {k : Nat} (hk : (O j).has k = true) : (O (j + 1)).has k = true ∧ ∀ i, (O (j + 1)).at_ k i = (O j).at_ k i := by
  rcases ht.step j o hj with ⟨_, _, h⟩ | ⟨_, ⟨_, h, _⟩ | ⟨_, A, h, _, hf⟩ | ⟨h, _⟩⟩
  · rw [h]; exact ⟨hk, fun _ => rfl⟩
  · rw [h]; exact ⟨hk, fun _ => rfl⟩
  · rw [h]
    refine ⟨by rw [OL.has_append, hk]; simp, fun i => ?_⟩
    rw [OL.at_append]
    split
    · rename_i hA
      rw [hf k hA] at hk; cases hk
    · rfl
  · exact absurd h h2
def noAct (ops : Array Oper) (fr : Nat → Bool) (a b : Nat) : Prop := ∀ i oi, ops[i]? = some oi → a ≤ i → i < b → kdx fr i oi ≠ 2
theorem noAct.sub {a b a' b' : Nat} (h : noAct ops fr a b) (ha : a ≤ a') (hb : b' ≤ b) : noAct ops fr a' b' := fun i oi hi h1 h2 => h i oi hi (by omega) (by omega)
theorem TrX.chain (ht : TrX P T ops fr env V O) {a : Nat} : ∀ d, a + d ≤ ops.size → noAct ops fr a (a + d) → ∀ {k : Nat}, (O a).has k = true → (O (a + d)).has k = true ∧ ∀ i, (O (a + d)).at_ k i = (O a).at_ k i
  | 0, _, _, k, hk => ⟨hk, fun _ => rfl⟩
  | d + 1, h, hn, k, hk => by
    obtain ⟨h1, h2⟩ := ht.chain d (by omega) (hn.sub (Nat.le_refl _) (by omega)) hk
    have hlt : a + d < ops.size := by omega
    have hx : ops[a + d]? = some ops[a + d] := by simp [hlt]
    obtain ⟨h3, h4⟩ := ht.up hx (hn _ _ hx (by omega) (by omega)) h1
    exact ⟨h3, fun i => (h4 i).trans (h2 i)⟩
theorem TrX.mono (ht : TrX P T ops fr env V O) {a b : Nat} (hab : a ≤ b) (hb : b ≤ ops.size) (hn : noAct ops fr a b) {k : Nat} (hk : (O a).has k = true) : (O b).has k = true ∧ ∀ i, (O b).at_ k i = (O a).at_ k i := by
  obtain ⟨d, rfl⟩ := Nat.exists_eq_add_of_le hab
  exact ht.chain d hb hn hk
theorem TrX.born (ht : TrX P T ops fr env V O) {a : Nat} {k : Nat} : ∀ d, (O (a + d)).has k = true → (O a).has k = true ∨ ∃ j, a ≤ j ∧ j < a + d ∧ (O (j + 1)).has k = true ∧ (O j).has k = false
  | 0, h => .inl h
  | d + 1, h => by
    cases hq : (O (a + d)).has k with
    | true =>
      rcases ht.born d hq with h | ⟨j, h1, h2, h3⟩
      · exact .inl h
      · exact .inr ⟨j, h1, by omega, h3⟩
    | false => exact .inr ⟨a + d, by omega, by omega, h, hq⟩
theorem nextAct (ops : Array Oper) (fr : Nat → Bool) : ∀ d m, m + d = ops.size → ∃ e, m ≤ e ∧ e ≤ ops.size ∧ noAct ops fr m e ∧ (e = ops.size ∨ ∃ oe, ops[e]? = some oe ∧ kdx fr e oe = 2)
  | 0, m, h => ⟨m, Nat.le_refl _, by omega, fun i oi _ h1 h2 => by omega, .inl (by omega)⟩
  | d + 1, m, h => by
    have hlt : m < ops.size := by omega
    have hx : ops[m]? = some ops[m] := by simp [hlt]
    by_cases h2 : kdx fr m ops[m] = 2
    · exact ⟨m, Nat.le_refl _, by omega, fun i oi _ h1 h2 => by omega, .inr ⟨_, hx, h2⟩⟩
    · obtain ⟨e, h3, h4, h5, h6⟩ := nextAct ops fr d (m + 1) (by omega)
      refine ⟨e, by omega, h4, fun i oi hi h7 h8 => ?_, h6⟩
      by_cases hi2 : i = m
      · subst hi2; rw [hx] at hi; cases hi; exact h2
      · exact h5 i oi hi (by omega) h8
structure Mem1 (ops : Array Oper) (fr : Nat → Bool) (O : Nat → OL) (D : Nat → Bool) (ob : Ob) (m e : Nat) : Prop where
  me : m ≤ e
  le : e ≤ ops.size
  acts : ∀ i oi, ops[i]? = some oi → kdx fr i oi = 2 → (D i = true ↔ i < m)
  no : noAct ops fr m e
  nx : e = ops.size ∨ ∃ oe, ops[e]? = some oe ∧ kdx fr e oe = 2
  p1 : ∀ i oi, ops[i]? = some oi → kdx fr i oi = 1 → i < m → D i = true
  p2 : ∀ i oi, ops[i]? = some oi → kdx fr i oi = 1 → e ≤ i → D i = false
  has : ∀ k, ob.has k = true ↔ (O m).has k = true ∨ ∃ j, m ≤ j ∧ j < e ∧ D j = true ∧ (O (j + 1)).has k = true ∧ (O j).has k = false
  at_ : ∀ k, ob.has k = true → ∀ i, ob.at_ k i = (O e).at_ k i
def MemX (ops : Array Oper) (fr : Nat → Bool) (O : Nat → OL) (D : Nat → Bool) (ob : Ob) : Prop := ∃ m e, Mem1 ops fr O D ob m e
theorem Mem1.turn (ht : TrX P T ops fr env V O) {D : Nat → Bool} {ob : Ob} {m e : Nat} (hob : ∀ k i, ob.at_ k i ≠ none → ob.has k = true) (hm : Mem1 ops fr O D ob m e)
    (h1 : ∀ i oi, ops[i]? = some oi → kdx fr i oi = 1 → m ≤ i → i < e → D i = true) : ob = (O e).ob := by
  have hh : ∀ k, ob.has k = true ↔ (O e).has k = true := by
    intro k
    rw [hm.has k]
    constructor
    · rintro (h | ⟨j, hj, hj2, _, h, _⟩)
      · exact (ht.mono hm.me hm.le hm.no h).1
      · exact (ht.mono (by omega : j + 1 ≤ e) hm.le (hm.no.sub (by omega) (Nat.le_refl _)) h).1
    · intro h
      obtain ⟨d, rfl⟩ := Nat.exists_eq_add_of_le hm.me
      rcases ht.born d h with h | ⟨j, hj, hj2, ha, hb⟩
      · exact .inl h
      · refine .inr ⟨j, hj, hj2, ?_, ha, hb⟩
        have hlt : j < ops.size := by have := hm.le; omega
        have hx : ops[j]? = some ops[j] := by simp [hlt]
        rcases kdx_le fr j ops[j] with h0 | h5 | h5
        · rw [ht.same hx h0, hb] at ha; cases ha
        · exact h1 _ _ hx h5 hj hj2
        · exact absurd h5 (hm.no _ _ hx hj hj2)
  refine Ob_ext (fun k i => ?_) (fun k => ?_)
  · cases hk : ob.has k with
    | true => exact hm.at_ k hk i
    | false =>
      have e1 : ob.at_ k i = none := by
        apply Classical.byContradiction
        intro hne
        rw [hob k i hne] at hk; cases hk
      have e2 : (O e).at_ k i = none := by
        apply Classical.byContradiction
        intro hne
        have := (hh k).2 (OL.has_of_at hne)
        rw [this] at hk; cases hk
      rw [e1]
      exact e2.symm
  · have := hh k
    show ob.has k = (O e).has k
    cases hx : ob.has k
    · rw [hx] at this
      cases hy : (O e).has k
      · rfl
      · exact absurd (this.2 hy) (by simp)
    · exact (this.1 hx).symm
section
variable {D D' : Nat → Bool} {i : Nat} {oi : Oper}
theorem Mem1.before (hd : DrawOkX ops U fr) {ob : Ob} {m e : Nat} (hm : Mem1 ops fr O D ob m e) (hi : ops[i]? = some oi) (h1 : kdx fr i oi = 1) (hU : ∀ j, j < ops.size → U i j = true → D j = true) : i < e := by
  have lt : ∀ {i : Nat} {oi : Oper}, ops[i]? = some oi → i < ops.size := fun hi => (Array.getElem?_eq_some_iff.1 hi).1
  apply Nat.lt_of_not_le
  intro hle
  rcases hm.nx with h | ⟨oe, he, h2⟩
  · have := lt hi; omega
  · have hne : e ≠ i := by
      intro h; subst h; rw [hi] at he; cases he; rw [h1] at h2; cases h2
    have := hU e (lt he) (hd.act1' e oe i oi he hi h2 h1 (by omega))
    have := (hm.acts e oe he h2).1 this
    have := hm.me
    omega
theorem MemX.zero (ht : TrX P T ops fr env V O) (hd : DrawOkX ops U fr) (hi : ops[i]? = some oi) (h0 : kdx fr i oi ≠ 2) (hU : ∀ j, j < ops.size → U i j = true → D j = true)
    (hD' : ∀ j, D' j = if j = i then true else D j) (hsame : O (i + 1) = O i) {ob : Ob} (hm : MemX ops fr O D ob) : MemX ops fr O D' ob := by
  obtain ⟨m, e, hm⟩ := hm
  refine ⟨m, e, hm.me, hm.le, fun j oj hj hk => ?_, hm.no, hm.nx, fun j oj hj hk hlt => ?_, fun j oj hj hk hle => ?_, fun k => ?_, hm.at_⟩
  · by_cases hji : j = i
    · subst hji; rw [hi] at hj; cases hj; exact absurd hk h0
    · rw [hD' j, if_neg hji]; exact hm.acts j oj hj hk
  · rw [hD' j]; split
    · rfl
    · exact hm.p1 j oj hj hk hlt
  · by_cases hji : j = i
    · subst hji; rw [hi] at hj; cases hj
      have := hm.before hd hi hk hU
      omega
    · rw [hD' j, if_neg hji]; exact hm.p2 j oj hj hk hle
  · rw [hm.has k]
    constructor
    · rintro (h | ⟨j, ha, hb, hc, hd⟩)
      · exact .inl h
      · exact .inr ⟨j, ha, hb, by rw [hD' j]; split <;> simp_all, hd⟩
    · rintro (h | ⟨j, ha, ha2, hb, hc, hd⟩)
      · exact .inl h
      · by_cases hji : j = i
        · subst hji; rw [hsame, hd] at hc; cases hc
        · rw [hD' j, if_neg hji] at hb
          exact .inr ⟨j, ha, ha2, hb, hc, hd⟩
theorem MemX.one (ht : TrX P T ops fr env V O) (hd : DrawOkX ops U fr) (hi : ops[i]? = some oi) (h1 : kdx fr i oi = 1) (hDi : D i = false) (hU : ∀ j, j < ops.size → U i j = true → D j = true)
    (hD' : ∀ j, D' j = if j = i then true else D j) {A : OL} (hA : O (i + 1) = A ++ O i) (hf : ∀ k, A.has k = true → (O i).has k = false) {ob : Ob} (hm : MemX ops fr O D ob) :
    (∀ k, ob.has k = true → (O i).ob.has k = true → ∀ j, ob.at_ k j = (O i).ob.at_ k j) ∧ (∀ k, A.has k = true → ob.has k = false) ∧ MemX ops fr O D' (A.ob.ext ob) := by
  obtain ⟨m, e, hm⟩ := hm
  have hie := hm.before hd hi h1 hU
  have hmi : m ≤ i := by
    apply Nat.le_of_not_lt
    intro h
    have := hm.p1 i oi hi h1 h
    rw [hDi] at this; cases this
  refine ⟨fun k hk hk2 j => ?_, fun k hk => ?_, m, e, hm.me, hm.le, fun j oj hj hk => ?_, hm.no, hm.nx, fun j oj hj hk hlt => ?_, fun j oj hj hk hle => ?_, fun k => ?_, fun k hk j => ?_⟩
  · rw [hm.at_ k hk j]
    exact (ht.mono (Nat.le_of_lt hie) hm.le (hm.no.sub hmi (Nat.le_refl _)) hk2).2 j
  · have hn := hf k hk
    apply Classical.byContradiction
    intro hh
    have hh : ob.has k = true := by simpa using hh
    rcases (hm.has k).1 hh with h | ⟨j, ha, ha2, hb, hc, hdd⟩
    · have := (ht.mono hmi (by have := hm.le; omega) (hm.no.sub (Nat.le_refl _) (by omega)) h).1
      rw [hn] at this; cases this
    · by_cases hji : j < i
      · have := (ht.mono (by omega : j + 1 ≤ i) (by have := hm.le; omega) (hm.no.sub (by omega) (by omega)) hc).1
        rw [hn] at this; cases this
      · by_cases hij : j = i
        · subst hij; rw [hDi] at hb; cases hb
        · have : (O (i + 1)).has k = true := by rw [hA, OL.has_append, hk]; rfl
          have := (ht.mono (by omega : i + 1 ≤ j) (by have := hm.le; omega) (hm.no.sub (by omega) (by omega)) this).1
          rw [hdd] at this; cases this
  · by_cases hji : j = i
    · subst hji; rw [hi] at hj; cases hj; rw [h1] at hk; cases hk
    · rw [hD' j, if_neg hji]; exact hm.acts j oj hj hk
  · rw [hD' j]; split
    · rfl
    · exact hm.p1 j oj hj hk hlt
  · by_cases hji : j = i
    · omega
    · rw [hD' j, if_neg hji]; exact hm.p2 j oj hj hk hle
  · have e' : (A.ob.ext ob).has k = (A.has k || ob.has k) := rfl
    rw [e', Bool.or_eq_true, hm.has k]
    constructor
    · rintro (h | h | ⟨j, ha, ha2, hb, hc⟩)
      · exact .inr ⟨i, hmi, hie, by rw [hD' i, if_pos rfl], by rw [hA, OL.has_append, h]; rfl, hf k h⟩
      · exact .inl h
      · exact .inr ⟨j, ha, ha2, by rw [hD' j]; split <;> simp_all, hc⟩
    · rintro (h | ⟨j, ha, ha2, hb, hc, hdd⟩)
      · exact .inr (.inl h)
      · by_cases hji : j = i
        · subst hji
          rw [hA, OL.has_append, hdd] at hc
          exact .inl (by simpa using hc)
        · rw [hD' j, if_neg hji] at hb
          exact .inr (.inr ⟨j, ha, ha2, hb, hc, hdd⟩)
  · have e' : (A.ob.ext ob).at_ k j = if A.has k = true then A.at_ k j else ob.at_ k j := rfl
    rw [e']
    split
    · rename_i hAk
      have hx : (O (i + 1)).has k = true := by rw [hA, OL.has_append, hAk]; rfl
      rw [(ht.mono (by omega : i + 1 ≤ e) hm.le (hm.no.sub (by omega) (Nat.le_refl _)) hx).2 j, hA, OL.at_append, if_pos hAk]
    · rename_i hAk
      refine hm.at_ k ?_ j
      have : (A.has k || ob.has k) = true := hk
      simpa [hAk] using this
theorem Mem1.start (ht : TrX P T ops fr env V O) {m e : Nat} (hme : m ≤ e) (hle : e ≤ ops.size) (hno : noAct ops fr m e) (hnx : e = ops.size ∨ ∃ oe, ops[e]? = some oe ∧ kdx fr e oe = 2)
    (hacts : ∀ i oi, ops[i]? = some oi → kdx fr i oi = 2 → (D i = true ↔ i < m)) (hp1 : ∀ i oi, ops[i]? = some oi → kdx fr i oi = 1 → i < m → D i = true) (hp2 : ∀ i oi, ops[i]? = some oi → kdx fr i oi = 1 → m ≤ i → D i = false) :
    Mem1 ops fr O D (O m).ob m e where
  me := hme
  le := hle
  acts := hacts
  no := hno
  nx := hnx
  p1 := hp1
  p2 := fun i oi hi h1 h => hp2 i oi hi h1 (by omega)
  has := fun k => by
    constructor
    · exact fun h => .inl h
    · rintro (h | ⟨j, ha, hb, hc, hd, he⟩)
      · exact h
      · have hlt : j < ops.size := by omega
        have hx : ops[j]? = some ops[j] := by simp [hlt]
        rcases kdx_le fr j ops[j] with h0 | h1 | h2
        · rw [ht.same hx h0, he] at hd; cases hd
        · rw [hp2 j _ hx h1 ha] at hc; cases hc
        · exact absurd h2 (hno j _ hx ha hb)
  at_ := fun k hk i => ((ht.mono hme hle hno hk).2 i).symm
theorem MemX.two (ht : TrX P T ops fr env V O) (hd : DrawOkX ops U fr) (hi : ops[i]? = some oi) (h2 : kdx fr i oi = 2) (hDi : D i = false)
    (hD' : ∀ j, D' j = if j = i then true else D j) (hU : ∀ j, j < ops.size → U i j = true → D j = true) (hUn : ∀ k ok, ops[k]? = some ok → U k i = true → D k = false) {ob : Ob} (hob : ∀ k i, ob.at_ k i ≠ none → ob.has k = true) (hm : MemX ops fr O D ob) :
    ob = (O i).ob ∧ MemX ops fr O D' (O (i + 1)).ob := by
  obtain ⟨m, e, hm⟩ := hm
  have lt : ∀ {i : Nat} {oi : Oper}, ops[i]? = some oi → i < ops.size := fun hi => (Array.getElem?_eq_some_iff.1 hi).1
  have hin := lt hi
  have hmi : m ≤ i := by
    apply Nat.le_of_not_lt
    intro h
    have := (hm.acts i oi hi h2).2 h
    rw [hDi] at this; cases this
  have hei : e ≤ i := by
    apply Nat.le_of_not_lt
    intro h
    exact hm.no i oi hi hmi h h2
  have hee : e = i := by
    rcases hm.nx with h | ⟨oe, he, h3⟩
    · omega
    · apply Classical.byContradiction
      intro hne
      have := hU e (lt he) (hd.act2 i oi e oe hi he h2 h3 (by omega))
      have := (hm.acts e oe he h3).1 this
      have := hm.me
      omega
  subst hee
  refine ⟨hm.turn ht hob (fun j oj hj hk ha hb => hU j (lt hj) (hd.act1 e oi j oj hi hj h2 hk hb)), ?_⟩
  obtain ⟨e', q1, q2, q3, q4⟩ := nextAct ops fr (ops.size - (e + 1)) (e + 1) (by omega)
  refine ⟨e + 1, e', Mem1.start ht q1 q2 q3 q4 (fun j oj hj hk => ?_) (fun j oj hj hk hlt => ?_) (fun j oj hj hk hle => ?_)⟩
  · rw [hD' j]
    by_cases hji : j = e
    · subst hji; simp
    · rw [if_neg hji, hm.acts j oj hj hk]
      constructor
      · intro h; omega
      · intro h
        have := hU j (lt hj) (hd.act2 e oi j oj hi hj h2 hk (by omega))
        exact (hm.acts j oj hj hk).1 this
  · rw [hD' j]; split
    · rfl
    · rename_i hne
      exact hU j (lt hj) (hd.act1 e oi j oj hi hj h2 hk (by omega))
  · rw [hD' j, if_neg (by omega)]
    exact hUn j oj hj (hd.act1' e oi j oj hi hj h2 hk (by omega))
theorem MemX.all (ht : TrX P T ops fr env V O) {ob : Ob} (hob : ∀ k i, ob.at_ k i ≠ none → ob.has k = true) (hm : MemX ops fr O D ob) (hall : ∀ i, i < ops.size → D i = true) : ob = (O ops.size).ob := by
  obtain ⟨m, e, hm⟩ := hm
  have lt : ∀ {i : Nat} {oi : Oper}, ops[i]? = some oi → i < ops.size := fun hi => (Array.getElem?_eq_some_iff.1 hi).1
  have he : e = ops.size := by
    rcases hm.nx with h | ⟨oe, he, h2⟩
    · exact h
    · have := (hm.acts e oe he h2).1 (hall e (lt he))
      have := hm.me
      omega
  have := hm.turn ht hob (fun j oj hj _ _ _ => hall j (lt hj))
  rw [this, he]
end
structure InvX (P : Program) (T : TT) (ops : Array Oper) (fr : Nat → Bool) (N : Nat) (env : Env) (V : Nat → AV) (O : Nat → OL) (X : Cx) (listed : Array Bool) (a : Act) (w : World) : Prop where
  sz : listed.size = ops.size
  cl : ∀ i oi, ops[i]? = some oi → Dl listed i = true → ∀ e ∈ oi.after, Region.binds .any e = true → Dl listed e.on = true
  pic : ∃ κ ob, Rel X κ ob w ∧ (∀ t, VR (KK X κ ob w) (get (envOf V (Dl listed) 0 ops.toList env) t) (a.tmps.getD t undef)) ∧ MemX ops fr O (Dl listed) ob
  size : a.tmps.size = N
  defers : a.defers = []
theorem WOps_cons (hT : TOk P T) (arr : Array Oper) {o : Oper} {r : List Oper} {env : Env} {ol : OL} {K : Env → OL → Prop} (h : WOps P T arr (o :: r) env ol K) :
    ∃ v ol1, StepJ P T arr o env ol v ol1 ∧ WOps P T arr r (putE o.dst v env) ol1 K := by
  unfold WOps at h
  have run : gd arr o env = some true → WOp P T o (evE env) ol (fun v ol' => WOps P T arr r (putE o.dst v env) ol' K) → ∃ v ol1, StepJ P T arr o env ol v ol1 ∧ WOps P T arr r (putE o.dst v env) ol1 K := by
    intro hg hw
    obtain ⟨v, hw⟩ := WOp_sound hT hw
    rcases hw with ⟨h0, h1, h2⟩ | ⟨h0, A, h1, h2, h3⟩ | ⟨h0, ol', h1, h2, _⟩
    · exact ⟨v, ol, .inr ⟨hg, .inl ⟨h0, rfl, h2⟩⟩, h1⟩
    · exact ⟨v, A ++ ol, .inr ⟨hg, .inr (.inl ⟨h0, A, rfl, h2, h3⟩)⟩, h1⟩
    · exact ⟨v, ol', .inr ⟨hg, .inr (.inr ⟨h0, h2⟩)⟩, h1⟩
  split at h
  · rename_i hg
    exact run (by simp [gd, hg]) h
  · rename_i j want hg
    split at h
    · rename_i d hd
      split at h
      · rename_i b hb
        split at h
        · rename_i hbw
          exact run (by simp only [gd, hg, hd, hb, hbw]) h
        · rename_i hbw
          exact ⟨undA, ol, .inl ⟨by simp only [gd, hg, hd, hb, hbw], rfl, rfl⟩, h⟩
      · rename_i hb
        exact ⟨undA, ol, .inl ⟨by simp only [gd, hg, hd, hb], rfl, rfl⟩, h⟩
      · exact h.elim
    · exact h.elim
def Ex (P : Program) (T : TT) (arr : Array Oper) (fr : Nat → Bool) (s : Nat) (ops : List Oper) (env : Env) (ol : OL) (K : Env → OL → Prop) : Prop :=
  ∃ (V : Nat → AV) (O : Nat → OL), O 0 = ol ∧ (∀ k o, ops[k]? = some o → StepK (kdx fr (s + k) o) P T arr o (envOf V (fun j => decide (j < k)) 0 ops env) (O k) (V k) (O (k + 1))) ∧ K (envOf V (fun _ => true) 0 ops env) (O ops.length)
theorem Ex.nil {arr : Array Oper} {s : Nat} {ol : OL} {K : Env → OL → Prop} (h : K env ol) : Ex P T arr fr s [] env ol K := ⟨fun _ => .any, fun _ => ol, rfl, fun k o hk => by simp at hk, h⟩
theorem Ex.cons {arr : Array Oper} {s : Nat} {o : Oper} {r : List Oper} {ol ol1 : OL} {v : AV} {K : Env → OL → Prop} (hs : StepK (kdx fr s o) P T arr o env ol v ol1) (h : Ex P T arr fr (s + 1) r (putE o.dst v env) ol1 K) : Ex P T arr fr s (o :: r) env ol K := by
  obtain ⟨V, O, hO, hst, hK⟩ := h
  refine ⟨fun | 0 => v | k + 1 => V k, fun | 0 => ol | k + 1 => O k, rfl, fun k o' hk => ?_, ?_⟩
  · cases k with
    | zero =>
      simp only [List.getElem?_cons_zero, Option.some.injEq] at hk
      subst hk
      have : (fun j : Nat => decide (j < 0)) = fun _ => false := by funext j; simp
      rw [this, envOf_none]
      simp only [Nat.zero_add, Nat.add_zero]
      rw [hO]
      exact hs
    | succ k =>
      have := hst k o' (by simpa using hk)
      simp only [envOf]
      rw [if_pos (by simp), envOf_shift]
      have e : (fun j : Nat => decide (j + 1 < k + 1)) = fun j => decide (j < k) := by funext j; simp
      rw [e, show s + (k + 1) = s + 1 + k from by omega]
      exact this
  · simp only [envOf, if_true]
    rw [envOf_shift]
    exact hK
theorem Ex.pre (hT : TOk P T) {arr : Array Oper} {r : List Oper} {K K' : Env → OL → Prop} : ∀ (l : List Oper) (s : Nat) (env : Env) (ol : OL), (∀ i, s ≤ i → i < s + l.length → fr i = false) → WOps P T arr l env ol K' → (∀ e o, K' e o → Ex P T arr fr (s + l.length) r e o K) → Ex P T arr fr s (l ++ r) env ol K
  | [], s, env, ol, _, h, hk => hk _ _ h
  | o :: l, s, env, ol, hf, h, hk' => by
    obtain ⟨v, ol1, hs, hw⟩ := WOps_cons hT arr h
    have hk : kdx fr s o = kind o := by unfold kdx; rw [hf s (Nat.le_refl _) (by simp)]; rfl
    refine Ex.cons (by rw [hk]; exact hs) (Ex.pre hT l (s + 1) _ _ (fun i h1 h2 => hf i (by omega) (by simp only [List.length_cons]; omega)) hw ?_)
    have e : s + (o :: l).length = s + 1 + l.length := by simp only [List.length_cons]; omega
    rw [e] at hk'
    exact hk'
def LoadC (P : Program) (T : TT) (o : Oper) (env : Env) (K : AV → Prop) : Prop :=
  o.guard = none ∧ ∃ t x u, o.op = .load t x ∧ evE env x = .cptr u ∧ (T.und t).known = true ∧ u.size = T.sz t ∧ u.isAgg = (T.und t).isAgg ∧ K u
theorem LoadC.step (hT : TOk P T) {arr : Array Oper} {o : Oper} {ol : OL} {K : AV → Prop} (h : LoadC P T o env K) : ∃ v, K v ∧ StepK 0 P T arr o env ol v ol := by
  obtain ⟨hg, t, x, u, ho, hx, hk, h1, h2, h⟩ := h
  refine ⟨u, h, .inr ⟨by simp [gd, hg], .inl ⟨rfl, rfl, fun X κ ob w ρ hP hTT hR hv => ?_⟩⟩⟩
  have hx' := hv x (by simp [ho, Op.operands])
  rw [hx] at hx'
  obtain ⟨b, oo, seg, e1, hJ, hu, hs⟩ := VR_cptr hx'
  obtain ⟨c, hrun, hvc⟩ := load_fin hT hk (K := KK X κ ob w) rfl hu hs h1 h2
  exact ⟨c, by simp [execOp, ho, e1, Instr.loadAt, Instr.sureAddr, hrun], hvc⟩
def WSeg (P : Program) (T : TT) (arr : Array Oper) : List Nat → List Oper → Env → OL → (Env → OL → Prop) → Prop
  | [], ops, env, ol, K => WOps P T arr ops env ol K
  | n :: fl, ops, env, ol, K => WOps P T arr (ops.take n) env ol (fun env' ol' => match ops.drop n with
    | o :: r => LoadC P T o env' (fun v => WSeg P T arr fl r (putE o.dst v env') ol' K)
    | [] => False)
def frL : List Nat → Nat → List Nat
  | [], _ => []
  | n :: fl, s => (s + n) :: frL fl (s + n + 1)
theorem frL_ge : ∀ (fl : List Nat) (s x : Nat), x ∈ frL fl s → s ≤ x
  | [], s, x, h => by cases h
  | n :: fl, s, x, h => by
    unfold frL at h
    rcases List.mem_cons.1 h with h | h
    · omega
    · have := frL_ge fl (s + n + 1) x h; omega
theorem frL_no (fl : List Nat) {s i : Nat} (h : i < s) : (frL fl s).any (Nat.beq i) = false := by
  cases hq : (frL fl s).any (Nat.beq i) with
  | false => rfl
  | true =>
    obtain ⟨x, h1, h2⟩ := List.any_eq_true.1 hq
    have := frL_ge fl s x h1
    have := Nat.eq_of_beq_eq_true h2
    omega
theorem WSeg.ex (hT : TOk P T) {arr : Array Oper} {K : Env → OL → Prop} : ∀ (fl : List Nat) (s : Nat) (ops : List Oper) (env : Env) (ol : OL), (∀ i, s ≤ i → fr i = (frL fl s).any (Nat.beq i)) → WSeg P T arr fl ops env ol K → Ex P T arr fr s ops env ol K
  | [], s, ops, env, ol, hf, h => by
    have := Ex.pre (r := []) hT ops s env ol (fun i h1 _ => by rw [hf i h1]; rfl) (K := K) (fr := fr) (arr := arr) (P := P) (T := T) h (fun _ _ h => Ex.nil h)
    rwa [List.append_nil] at this
  | n :: fl, s, ops, env, ol, hf, h => by
    have h : WOps P T arr (ops.take n) env ol (fun env' ol' => match ops.drop n with
      | o :: r => LoadC P T o env' (fun v => WSeg P T arr fl r (putE o.dst v env') ol' K)
      | [] => False) := h
    rcases Nat.lt_or_ge n ops.length with hn | hn
    · have hl : (ops.take n).length = n := by rw [List.length_take]; omega
      obtain ⟨o, r, hor⟩ : ∃ o r, ops.drop n = o :: r := by
        cases hq : ops.drop n with
        | nil => have := congrArg List.length hq; rw [List.length_drop, List.length_nil] at this; omega
        | cons o r => exact ⟨o, r, rfl⟩
      rw [hor] at h
      have hops : ops = ops.take n ++ (o :: r) := by rw [← hor, List.take_append_drop]
      rw [hops]
      refine Ex.pre hT (ops.take n) s env ol (fun i h1 h2 => ?_) h (fun env' ol' hh => ?_)
      · rw [hl] at h2
        rw [hf i h1]
        show (Nat.beq i (s + n) || (frL fl (s + n + 1)).any (Nat.beq i)) = false
        rw [frL_no fl (by omega), beq_ff (by omega)]; rfl
      · rw [hl]
        obtain ⟨v, hv, hs⟩ := LoadC.step hT (arr := arr) (ol := ol') hh
        have hfr : fr (s + n) = true := by
          rw [hf _ (by omega)]
          show (Nat.beq (s + n) (s + n) || _) = true
          rw [Nat.beq_refl]; rfl
        refine Ex.cons (v := v) (ol1 := ol') ?_ (WSeg.ex hT fl (s + n + 1) r _ _ (fun i hi => ?_) hv)
        · have : kdx fr (s + n) o = 0 := by unfold kdx; rw [hfr]; rfl
          rw [this]; exact hs
        · rw [hf i (by omega)]
          show (Nat.beq i (s + n) || _) = _
          rw [beq_ff (by omega)]; rfl
    · have e : ops.drop n = [] := List.drop_of_length_le hn
      rw [e] at h
      have := Ex.pre (r := []) hT (ops.take n) s env ol (fun i h1 h2 => ?_) (K := K) (fr := fr) (arr := arr) (P := P) (T := T) h (fun _ _ hh => hh.elim)
      · rwa [List.append_nil, List.take_of_length_le hn] at this
      · have : (ops.take n).length ≤ n := List.length_take_le _ _
        rw [hf i h1]
        show (Nat.beq i (s + n) || (frL fl (s + n + 1)).any (Nat.beq i)) = false
        rw [frL_no fl (by omega), beq_ff (by omega)]; rfl
section
variable {N : Nat} {id : Nat} {ol : OL} {Q : Exit → Env → OL → Prop}
end
end Go.Am

set_option linter.unusedVariables false
set_option linter.unusedSimpArgs false
namespace Go.Am
section
variable {P : Program} {T : TT} {N : Nat} {ks : List Nat} {env : Env} {ol : OL} {Q : Exit → Env → OL → Prop}
end
end Go.Am

set_option linter.unusedVariables false
set_option linter.unusedSimpArgs false
namespace Go.Am
end Go.Am

set_option linter.unusedVariables false
set_option linter.unusedSimpArgs false
namespace Go.Am
abbrev T3 := Nat → Nat → Nat → Int
end Go.Am

set_option linter.unusedVariables false
set_option linter.unusedSimpArgs false
namespace Go.Am
def apF (p : Int) (F : Nat → Nat → Int) (v : Nat → Int) : Nat → Nat → Int
  | 0 => fun _ => 0
  | i + 1 => addF p (apF p F v i) (F i) (v i)
def starP (p : Int) (n : Nat) (T : T3) (fo : Nat → Int) (F : Nat → Nat → Int) : Prop :=
  ∀ i, i < n → (eqN 6 (apF p F (F i) n) (eF i) ∧ formF p fo (F i) = fo i) ∧ ∀ j, j < n → eqN 6 (apF p F (T i j) n) (timesF p n T (F j) (F i))
noncomputable instance (p : Int) (n : Nat) (T : T3) (fo : Nat → Int) (F : Nat → Nat → Int) : Decidable (starP p n T fo F) := Classical.propDecidable _
def liP (p : Int) (n : Int) (M : Nat) (F : Nat → Nat → Int) : Prop := (M : Int) = n ∧ ∀ i, i < M → smP p n (F i)
noncomputable instance (p n : Int) (M : Nat) (F : Nat → Nat → Int) : Decidable (liP p n M F) := Classical.propDecidable _
end Go.Am

set_option linter.unusedVariables false
set_option linter.unusedSimpArgs false
namespace Go.Am
theorem idx_mid {P : Program} {T : TT} {f : FuncId} {fn : Func} (hf : P.funcs[f]? = some fn) (hname : (fn.name == "runtime.NumGoroutine") = false) (hb : fn.body.isNone = true) (hn : Extern.findNext fn = none) (he : Extern.find fn = some Extern.BytealgIndexByte.indexByte)
    {dst : Option Nat} {ty : TypeId} {pos : String} {af : Array Edge} {gu : Option (Nat × Bool)} {x y : Operand} {aty : Array TypeId} {env : Env} {ol : OL} {s : ByteArray} {c : Int} (hx : evE env x = .strg s) (hy : evE env y = .int .u8 c) :
    MidJ P T ⟨dst, .call { callee := .value (.func f), args := #[x, y], argTypes := aty }, ty, pos, af, gu⟩ env ol (.int .i64 (Lib.indexByte s.data.toList c.toNat.toUInt8)) ol := by
  intro X κ w act hP hTT hR hEn
  have h1 := hEn.ev x; rw [hx] at h1
  have h2 := hEn.ev y; rw [hy] at h2
  have e1 : act.eval x = .string s := VR_strg h1
  have e2 : act.eval y = .int .u8 c := VR_int h2
  have hfe : act.eval (.func f) = .func (.func f) #[] #[] := rfl
  have : (execOp act.eval ⟨dst, .call { callee := .value (.func f), args := #[x, y], argTypes := aty }, ty, pos, af, gu⟩).run P w = .ok (.value (.int .i64 (Lib.indexByte s.data.toList c.toNat.toUInt8))) w := by
    simp only [execOp, resolve, hfe, Deferred.ofValue, Sem.run_bind, Sem.run_pure, Result.andThen_ok, invoke]
    have hc := run_callFunc_extern hf hname hb hn he #[.string s, .int .u8 c] w
    rw [Lib.run_indexByteString] at hc
    simpa [e1, e2] using hc
  rw [this]
  exact ⟨κ, hR, rfl, Le.refl _⟩
def parD (c : Int) : Int := if 48 ≤ c ∧ c ≤ 57 then c - 48 else if 97 ≤ c ∧ c ≤ 99 then c - 87 else -1
def d13 : ByteArray := ⟨#[48, 49, 50, 51, 52, 53, 54, 55, 56, 57, 97, 98, 99]⟩
theorem parD_fin : ∀ k : Fin 256, Lib.indexByte d13.data.toList (k.1.toUInt8) = parD (k.1 : Int) := by decide +kernel
theorem parD_idx {c : Int} (hc : 0 ≤ c ∧ c < 256) : Lib.indexByte d13.data.toList c.toNat.toUInt8 = parD c := by
  have h := parD_fin ⟨c.toNat, by omega⟩
  rw [h]
  show parD ((c.toNat : Nat) : Int) = parD c
  rw [show ((c.toNat : Nat) : Int) = c by omega]
theorem byteAt_bd (s : ByteArray) (i : Nat) : 0 ≤ byteAt s i ∧ byteAt s i < 256 := by
  unfold byteAt
  split
  · rename_i h
    have := (s[i]'h).toNat_lt
    omega
  · omega
def rdD (s : ByteArray) (i : Nat) : Int := parD (byteAt s i)
theorem parD_bd {c : Int} : -1 ≤ parD c ∧ parD c ≤ 12 := by
  unfold parD
  split
  · omega
  · split <;> omega
def rdOk (s : ByteArray) (n : Nat) : Prop := s.size = n ∧ ∀ i, i < n → 0 ≤ rdD s i
noncomputable instance (s : ByteArray) (n : Nat) : Decidable (rdOk s n) := Classical.propDecidable _
theorem parD_no {c : Int} (h1 : ¬ (48 ≤ c ∧ c ≤ 57)) (h2 : ¬ (97 ≤ c ∧ c ≤ 99)) : parD c = -1 := by
  unfold parD
  rw [if_neg h1, if_neg h2]
def rdF (s : ByteArray) (n : Nat) : Nat → Int := fun i => if i < n ∧ 0 ≤ rdD s i then rdD s i else 0
theorem rdF_B8 (s : ByteArray) (n : Nat) : B8 (rdF s n) := fun i => by
  unfold rdF
  have := parD_bd (c := byteAt s i)
  unfold rdD
  split <;> omega
def rdV (p : Int) (n : Nat) (s : ByteArray) : Prop := rdOk s n ∧ smP p (n : Int) (rdF s n)
noncomputable instance (p : Int) (n : Nat) (s : ByteArray) : Decidable (rdV p n s) := Classical.propDecidable _
theorem rdF_step {s : ByteArray} {i z : Nat} {x : Int} (h : 0 ≤ rdD s i) (hx : x = rdD s i) : upd (rdF s i) i x z = rdF s (i + 1) z := by
  unfold upd rdF
  by_cases hz : z = i
  · subst hz; rw [if_pos rfl, if_pos ⟨Nat.lt_succ_self z, h⟩, hx]
  · rw [if_neg hz]
    by_cases h2 : z < i ∧ 0 ≤ rdD s z
    · rw [if_pos h2, if_pos ⟨by omega, h2.2⟩]
    · rw [if_neg h2, if_neg (fun q => h2 ⟨by omega, q.2⟩)]
end Go.Am

