/- Part 2 of what the law stands on: abstract values, their walk, contracts of functions. My own work. Conditions: none. -/
import Derived.Test.YtpaiipbomihocaaPart1
import Derived.Laws.Externs
import Derived.Lib.Bytealg
set_option linter.unusedVariables false
set_option linter.unusedSimpArgs false
namespace Go.Am
theorem fam_sh {b N e : Nat} {w : Nat → Nat} {F : Nat → Nat → Int} {ol : OL} {r : Nat} (hr : r < N) : OL.at_ (OL.shift b [(0, .one (ZR N) (CO 1 N w e)), (1, .many (famF N w F))] ++ ol) (b + 1) r = some (Z64 (w r), C64 (w r) (F r)) := by
  have e1 : Nat.beq (b + 1) (b + 0) = false := beq_ff (by omega)
  show (bif Nat.beq (b + 1) (b + 0) then _ else bif Nat.beq (b + 1) (b + 1) then (match famF N w F r with | some (sh, c) => some (sh, Am.shift b c) | none => none) else _) = _
  rw [e1, Nat.beq_refl, famF_at hr]
  rfl
def symA (n : Nat) (F : Nat → Nat → Int) : Prop := ∀ i, i < n → ∀ j, j < n → F j i = F i j
def symS (n : Nat) (F : Nat → Nat → Int) : Prop := ∀ i, i < n → ∀ j, j < i → F i j = F j i
noncomputable instance (n : Nat) (F : Nat → Nat → Int) : Decidable (symA n F) := Classical.propDecidable _
noncomputable instance (n : Nat) (F : Nat → Nat → Int) : Decidable (symS n F) := Classical.propDecidable _
theorem sym_iff {n : Nat} {F : Nat → Nat → Int} : symS n F ↔ symA n F := by
  constructor
  · intro h i hi j hj
    rcases Nat.lt_trichotomy i j with h1 | h1 | h1
    · exact h j hj i h1
    · subst h1; rfl
    · exact (h i hi j h1).symm
  · intro h i hi j hj; exact (h i hi j (by omega)).symm
theorem VN.ee {p : Int} {n : Nat} {T : Nat → Nat → Nat → Int} {fo : Nat → Int} (h : VN p n T fo) {i j : Nat} (hi : i < n) (hj : j < n) : timesF p n T (eF i) (eF j) = T i j := by
  funext k
  by_cases hk : k < n
  · exact times_ee hi hj hk (h.hT i j k)
  · unfold timesF; rw [if_neg hk, h.tz i j k (by omega)]
end Go.Am

set_option linter.unusedVariables false
set_option linter.unusedSimpArgs false
namespace Go.Am
def kdx (fr : Nat → Bool) (i : Nat) (o : Oper) : Nat := bif fr i then 0 else kind o
theorem kdx_le (fr : Nat → Bool) (i : Nat) (o : Oper) : kdx fr i o = 0 ∨ kdx fr i o = 1 ∨ kdx fr i o = 2 := by
  unfold kdx
  cases fr i
  · exact kind_le o
  · exact .inl rfl
def StepK (q : Nat) (P : Program) (T : TT) (arr : Array Oper) (o : Oper) (env : Env) (ol : OL) (v : AV) (ol' : OL) : Prop :=
  (gd arr o env = some false ∧ v = undA ∧ ol' = ol) ∨
  (gd arr o env = some true ∧
    ((q = 0 ∧ ol' = ol ∧ PureJ P T o (evE env) v) ∨
     (q = 1 ∧ ∃ A : OL, ol' = A ++ ol ∧ PassJ' P T o (evE env) ol.ob v A ∧ ∀ k, A.has k = true → ol.has k = false) ∨
     (q = 2 ∧ ActJ P T o (evE env) ol.ob v ol'.ob)))
structure DrawOkX (ops : Array Oper) (U : Nat → Nat → Bool) (fr : Nat → Bool) : Prop where
  back : ∀ i oi, ops[i]? = some oi → ∀ e ∈ oi.after, Region.binds .any e = true → e.on < i
  clos : ∀ i oi j, ops[i]? = some oi → j < ops.size → U i j = true → ∃ e ∈ oi.after, Region.binds .any e = true ∧ (e.on = j ∨ U e.on j = true)
  ap : ∀ i oi j oj, ops[i]? = some oi → ops[j]? = some oj → j < i → oj.apart ops oi = true ∨ U i j = true
  act1 : ∀ i oi j oj, ops[i]? = some oi → ops[j]? = some oj → kdx fr i oi = 2 → kdx fr j oj = 1 → j < i → U i j = true
  act1' : ∀ i oi j oj, ops[i]? = some oi → ops[j]? = some oj → kdx fr i oi = 2 → kdx fr j oj = 1 → i < j → U j i = true
  act2 : ∀ i oi j oj, ops[i]? = some oi → ops[j]? = some oj → kdx fr i oi = 2 → kdx fr j oj = 2 → j < i → U i j = true
def chkX (ops : Array Oper) (U : Nat → Nat → Bool) (fr : Nat → Bool) : Bool :=
  (List.range ops.size).all fun i => match ops[i]? with
    | none => true
    | some oi =>
      (oi.after.toList.all fun e => !Region.binds .any e || Nat.blt e.on i) &&
      (List.range ops.size).all fun j => match ops[j]? with
        | none => true
        | some oj =>
          (!U i j || oi.after.toList.any fun e => Region.binds .any e && (Nat.beq e.on j || U e.on j)) &&
          (!(Nat.blt j i) || (U i j || oj.apart ops oi)) &&
          (!(Nat.beq (kdx fr i oi) 2) || (!(Nat.beq (kdx fr j oj) 1) || ((!(Nat.blt j i) || U i j) && (!(Nat.blt i j) || U j i)))) &&
          (!(Nat.beq (kdx fr i oi) 2) || (!(Nat.beq (kdx fr j oj) 2) || (!(Nat.blt j i) || U i j)))
theorem chkX_ok {ops : Array Oper} {U : Nat → Nat → Bool} {fr : Nat → Bool} (h : chkX ops U fr = true) : DrawOkX ops U fr := by
  simp only [chkX, List.all_eq_true, List.mem_range] at h
  have lt : ∀ {i : Nat} {oi : Oper}, ops[i]? = some oi → i < ops.size := fun hi => (Array.getElem?_eq_some_iff.1 hi).1
  have g1 : ∀ i oi, ops[i]? = some oi → ∀ e ∈ oi.after.toList, (!Region.binds .any e || Nat.blt e.on i) = true := by
    intro i oi hi
    have := h i (lt hi)
    rw [hi] at this
    simp only [Bool.and_eq_true, List.all_eq_true] at this
    exact this.1
  have g2 : ∀ i oi j oj, ops[i]? = some oi → ops[j]? = some oj →
      ((((!U i j || oi.after.toList.any fun e => Region.binds .any e && (Nat.beq e.on j || U e.on j)) = true ∧ (!(Nat.blt j i) || (U i j || oj.apart ops oi)) = true) ∧
      (!(Nat.beq (kdx fr i oi) 2) || (!(Nat.beq (kdx fr j oj) 1) || ((!(Nat.blt j i) || U i j) && (!(Nat.blt i j) || U j i)))) = true) ∧ (!(Nat.beq (kdx fr i oi) 2) || (!(Nat.beq (kdx fr j oj) 2) || (!(Nat.blt j i) || U i j))) = true) := by
    intro i oi j oj hi hj
    have := h i (lt hi)
    rw [hi] at this
    simp only [Bool.and_eq_true, List.all_eq_true, List.mem_range] at this
    have := this.2 j (lt hj)
    rw [hj] at this
    simpa only [Bool.and_eq_true] using this
  refine ⟨fun i oi hi e he hb => ?_, fun i oi j hi hj hu => ?_, fun i oi j oj hi hj hlt => ?_, fun i oi j oj hi hj h2 h1 hlt => ?_, fun i oi j oj hi hj h2 h1 hlt => ?_, fun i oi j oj hi hj h2 h1 hlt => ?_⟩
  · have := (g1 i oi hi) e (by simpa using he)
    simpa [hb, Nat.blt_eq] using this
  · have := (g2 i oi j ops[j] hi (by simp [hj])).1.1.1
    simp only [hu, Bool.not_true, Bool.false_or, List.any_eq_true, Bool.and_eq_true, Bool.or_eq_true] at this
    obtain ⟨e, he, hb, hq⟩ := this
    exact ⟨e, by simpa using he, hb, hq.imp (fun h => Nat.eq_of_beq_eq_true h) id⟩
  · have := (g2 i oi j oj hi hj).1.1.2
    have hb : Nat.blt j i = true := by rw [Nat.blt_eq]; exact hlt
    simp only [hb, Bool.not_true, Bool.false_or, Bool.or_eq_true] at this
    exact this.symm
  · have := (g2 i oi j oj hi hj).1.2
    have hb : Nat.blt j i = true := by rw [Nat.blt_eq]; exact hlt
    simp [h2, h1, hb] at this
    exact this.1
  · have := (g2 i oi j oj hi hj).1.2
    have hb : Nat.blt i j = true := by rw [Nat.blt_eq]; exact hlt
    simp [h2, h1, hb] at this
    exact this.2
  · have := (g2 i oi j oj hi hj).2
    have hb : Nat.blt j i = true := by rw [Nat.blt_eq]; exact hlt
    simpa [h2, h1, hb] using this
def drawOkX (ops : Array Oper) (fr : Nat → Bool) : Bool := chkX ops (Uof (numsOf ops)) fr
structure TrX (P : Program) (T : TT) (ops : Array Oper) (fr : Nat → Bool) (env : Env) (V : Nat → AV) (O : Nat → OL) : Prop where
  step : ∀ k o, ops[k]? = some o → StepK (kdx fr k o) P T ops o (envOf V (fun j => decide (j < k)) 0 ops.toList env) (O k) (V k) (O (k + 1))
variable {P : Program} {T : TT} {ops : Array Oper} {U : Nat → Nat → Bool} {fr : Nat → Bool} {env : Env} {V : Nat → AV} {O : Nat → OL}
theorem TrX.same (ht : TrX P T ops fr env V O) {k : Nat} {o : Oper} (hk : ops[k]? = some o) (h0 : kdx fr k o = 0) : O (k + 1) = O k := by
  rcases ht.step k o hk with ⟨_, _, h⟩ | ⟨_, ⟨_, h, _⟩ | ⟨h, _⟩ | ⟨h, _⟩⟩
  · exact h
  · exact h
  · rw [h0] at h; cases h
  · rw [h0] at h; cases h
theorem TrX.up (ht : TrX P T ops fr env V O) {j : Nat} {o : Oper} (hj : ops[j]? = some o) (h2 : kdx fr j o ≠ 2) {k : Nat} (hk : (O j).has k = true) : (O (j + 1)).has k = true ∧ ∀ i, (O (j + 1)).at_ k i = (O j).at_ k i := by
  rcases ht.step j o hj with ⟨_, _, h⟩ | ⟨_, ⟨_, h, _⟩ | ⟨_, A, h, _, hf⟩ | ⟨h, _⟩⟩
  · rw [h]; exact ⟨hk, fun _ => rfl⟩
  · rw [h]; exact ⟨hk, fun _ => rfl⟩
  · rw [h]
    refine ⟨by rw [OL.has_append, hk]; simp, fun i => ?_⟩
    rw [OL.at_append]
    split
    · rename_i hA
      rw [hf k hA] at hk; cases hk
    · rfl
  · exact absurd h h2
def noAct (ops : Array Oper) (fr : Nat → Bool) (a b : Nat) : Prop := ∀ i oi, ops[i]? = some oi → a ≤ i → i < b → kdx fr i oi ≠ 2
theorem noAct.sub {a b a' b' : Nat} (h : noAct ops fr a b) (ha : a ≤ a') (hb : b' ≤ b) : noAct ops fr a' b' := fun i oi hi h1 h2 => h i oi hi (by omega) (by omega)
theorem TrX.chain (ht : TrX P T ops fr env V O) {a : Nat} : ∀ d, a + d ≤ ops.size → noAct ops fr a (a + d) → ∀ {k : Nat}, (O a).has k = true → (O (a + d)).has k = true ∧ ∀ i, (O (a + d)).at_ k i = (O a).at_ k i
  | 0, _, _, k, hk => ⟨hk, fun _ => rfl⟩
  | d + 1, h, hn, k, hk => by
    obtain ⟨h1, h2⟩ := ht.chain d (by omega) (hn.sub (Nat.le_refl _) (by omega)) hk
    have hlt : a + d < ops.size := by omega
    have hx : ops[a + d]? = some ops[a + d] := by simp [hlt]
    obtain ⟨h3, h4⟩ := ht.up hx (hn _ _ hx (by omega) (by omega)) h1
    exact ⟨h3, fun i => (h4 i).trans (h2 i)⟩
theorem TrX.mono (ht : TrX P T ops fr env V O) {a b : Nat} (hab : a ≤ b) (hb : b ≤ ops.size) (hn : noAct ops fr a b) {k : Nat} (hk : (O a).has k = true) : (O b).has k = true ∧ ∀ i, (O b).at_ k i = (O a).at_ k i := by
  obtain ⟨d, rfl⟩ := Nat.exists_eq_add_of_le hab
  exact ht.chain d hb hn hk
theorem TrX.born (ht : TrX P T ops fr env V O) {a : Nat} {k : Nat} : ∀ d, (O (a + d)).has k = true → (O a).has k = true ∨ ∃ j, a ≤ j ∧ j < a + d ∧ (O (j + 1)).has k = true ∧ (O j).has k = false
  | 0, h => .inl h
  | d + 1, h => by
    cases hq : (O (a + d)).has k with
    | true =>
      rcases ht.born d hq with h | ⟨j, h1, h2, h3⟩
      · exact .inl h
      · exact .inr ⟨j, h1, by omega, h3⟩
    | false => exact .inr ⟨a + d, by omega, by omega, h, hq⟩
theorem nextAct (ops : Array Oper) (fr : Nat → Bool) : ∀ d m, m + d = ops.size → ∃ e, m ≤ e ∧ e ≤ ops.size ∧ noAct ops fr m e ∧ (e = ops.size ∨ ∃ oe, ops[e]? = some oe ∧ kdx fr e oe = 2)
  | 0, m, h => ⟨m, Nat.le_refl _, by omega, fun i oi _ h1 h2 => by omega, .inl (by omega)⟩
  | d + 1, m, h => by
    have hlt : m < ops.size := by omega
    have hx : ops[m]? = some ops[m] := by simp [hlt]
    by_cases h2 : kdx fr m ops[m] = 2
    · exact ⟨m, Nat.le_refl _, by omega, fun i oi _ h1 h2 => by omega, .inr ⟨_, hx, h2⟩⟩
    · obtain ⟨e, h3, h4, h5, h6⟩ := nextAct ops fr d (m + 1) (by omega)
      refine ⟨e, by omega, h4, fun i oi hi h7 h8 => ?_, h6⟩
      by_cases hi2 : i = m
      · subst hi2; rw [hx] at hi; cases hi; exact h2
      · exact h5 i oi hi (by omega) h8
structure Mem1 (ops : Array Oper) (fr : Nat → Bool) (O : Nat → OL) (D : Nat → Bool) (ob : Ob) (m e : Nat) : Prop where
  me : m ≤ e
  le : e ≤ ops.size
  acts : ∀ i oi, ops[i]? = some oi → kdx fr i oi = 2 → (D i = true ↔ i < m)
  no : noAct ops fr m e
  nx : e = ops.size ∨ ∃ oe, ops[e]? = some oe ∧ kdx fr e oe = 2
  p1 : ∀ i oi, ops[i]? = some oi → kdx fr i oi = 1 → i < m → D i = true
  p2 : ∀ i oi, ops[i]? = some oi → kdx fr i oi = 1 → e ≤ i → D i = false
  has : ∀ k, ob.has k = true ↔ (O m).has k = true ∨ ∃ j, m ≤ j ∧ j < e ∧ D j = true ∧ (O (j + 1)).has k = true ∧ (O j).has k = false
  at_ : ∀ k, ob.has k = true → ∀ i, ob.at_ k i = (O e).at_ k i
def MemX (ops : Array Oper) (fr : Nat → Bool) (O : Nat → OL) (D : Nat → Bool) (ob : Ob) : Prop := ∃ m e, Mem1 ops fr O D ob m e
theorem Mem1.turn (ht : TrX P T ops fr env V O) {D : Nat → Bool} {ob : Ob} {m e : Nat} (hob : ∀ k i, ob.at_ k i ≠ none → ob.has k = true) (hm : Mem1 ops fr O D ob m e)
    (h1 : ∀ i oi, ops[i]? = some oi → kdx fr i oi = 1 → m ≤ i → i < e → D i = true) : ob = (O e).ob := by
  have hh : ∀ k, ob.has k = true ↔ (O e).has k = true := by
    intro k
    rw [hm.has k]
    constructor
    · rintro (h | ⟨j, hj, hj2, _, h, _⟩)
      · exact (ht.mono hm.me hm.le hm.no h).1
      · exact (ht.mono (by omega : j + 1 ≤ e) hm.le (hm.no.sub (by omega) (Nat.le_refl _)) h).1
    · intro h
      obtain ⟨d, rfl⟩ := Nat.exists_eq_add_of_le hm.me
      rcases ht.born d h with h | ⟨j, hj, hj2, ha, hb⟩
      · exact .inl h
      · refine .inr ⟨j, hj, hj2, ?_, ha, hb⟩
        have hlt : j < ops.size := by have := hm.le; omega
        have hx : ops[j]? = some ops[j] := by simp [hlt]
        rcases kdx_le fr j ops[j] with h0 | h5 | h5
        · rw [ht.same hx h0, hb] at ha; cases ha
        · exact h1 _ _ hx h5 hj hj2
        · exact absurd h5 (hm.no _ _ hx hj hj2)
  refine Ob_ext (fun k i => ?_) (fun k => ?_)
  · cases hk : ob.has k with
    | true => exact hm.at_ k hk i
    | false =>
      have e1 : ob.at_ k i = none := by
        apply Classical.byContradiction
        intro hne
        rw [hob k i hne] at hk; cases hk
      have e2 : (O e).at_ k i = none := by
        apply Classical.byContradiction
        intro hne
        have := (hh k).2 (OL.has_of_at hne)
        rw [this] at hk; cases hk
      rw [e1]
      exact e2.symm
  · have := hh k
    show ob.has k = (O e).has k
    cases hx : ob.has k
    · rw [hx] at this
      cases hy : (O e).has k
      · rfl
      · exact absurd (this.2 hy) (by simp)
    · exact (this.1 hx).symm
section
variable {D D' : Nat → Bool} {i : Nat} {oi : Oper}
theorem Mem1.before (hd : DrawOkX ops U fr) {ob : Ob} {m e : Nat} (hm : Mem1 ops fr O D ob m e) (hi : ops[i]? = some oi) (h1 : kdx fr i oi = 1) (hU : ∀ j, j < ops.size → U i j = true → D j = true) : i < e := by
  have lt : ∀ {i : Nat} {oi : Oper}, ops[i]? = some oi → i < ops.size := fun hi => (Array.getElem?_eq_some_iff.1 hi).1
  apply Nat.lt_of_not_le
  intro hle
  rcases hm.nx with h | ⟨oe, he, h2⟩
  · have := lt hi; omega
  · have hne : e ≠ i := by
      intro h; subst h; rw [hi] at he; cases he; rw [h1] at h2; cases h2
    have := hU e (lt he) (hd.act1' e oe i oi he hi h2 h1 (by omega))
    have := (hm.acts e oe he h2).1 this
    have := hm.me
    omega
theorem MemX.zero (ht : TrX P T ops fr env V O) (hd : DrawOkX ops U fr) (hi : ops[i]? = some oi) (h0 : kdx fr i oi ≠ 2) (hU : ∀ j, j < ops.size → U i j = true → D j = true)
    (hD' : ∀ j, D' j = if j = i then true else D j) (hsame : O (i + 1) = O i) {ob : Ob} (hm : MemX ops fr O D ob) : MemX ops fr O D' ob := by
  obtain ⟨m, e, hm⟩ := hm
  refine ⟨m, e, hm.me, hm.le, fun j oj hj hk => ?_, hm.no, hm.nx, fun j oj hj hk hlt => ?_, fun j oj hj hk hle => ?_, fun k => ?_, hm.at_⟩
  · by_cases hji : j = i
    · subst hji; rw [hi] at hj; cases hj; exact absurd hk h0
    · rw [hD' j, if_neg hji]; exact hm.acts j oj hj hk
  · rw [hD' j]; split
    · rfl
    · exact hm.p1 j oj hj hk hlt
  · by_cases hji : j = i
    · subst hji; rw [hi] at hj; cases hj
      have := hm.before hd hi hk hU
      omega
    · rw [hD' j, if_neg hji]; exact hm.p2 j oj hj hk hle
  · rw [hm.has k]
    constructor
    · rintro (h | ⟨j, ha, hb, hc, hd⟩)
      · exact .inl h
      · exact .inr ⟨j, ha, hb, by rw [hD' j]; split <;> simp_all, hd⟩
    · rintro (h | ⟨j, ha, ha2, hb, hc, hd⟩)
      · exact .inl h
      · by_cases hji : j = i
        · subst hji; rw [hsame, hd] at hc; cases hc
        · rw [hD' j, if_neg hji] at hb
          exact .inr ⟨j, ha, ha2, hb, hc, hd⟩
theorem MemX.one (ht : TrX P T ops fr env V O) (hd : DrawOkX ops U fr) (hi : ops[i]? = some oi) (h1 : kdx fr i oi = 1) (hDi : D i = false) (hU : ∀ j, j < ops.size → U i j = true → D j = true)
    (hD' : ∀ j, D' j = if j = i then true else D j) {A : OL} (hA : O (i + 1) = A ++ O i) (hf : ∀ k, A.has k = true → (O i).has k = false) {ob : Ob} (hm : MemX ops fr O D ob) :
    (∀ k, ob.has k = true → (O i).ob.has k = true → ∀ j, ob.at_ k j = (O i).ob.at_ k j) ∧ (∀ k, A.has k = true → ob.has k = false) ∧ MemX ops fr O D' (A.ob.ext ob) := by
  obtain ⟨m, e, hm⟩ := hm
  have hie := hm.before hd hi h1 hU
  have hmi : m ≤ i := by
    apply Nat.le_of_not_lt
    intro h
    have := hm.p1 i oi hi h1 h
    rw [hDi] at this; cases this
  refine ⟨fun k hk hk2 j => ?_, fun k hk => ?_, m, e, hm.me, hm.le, fun j oj hj hk => ?_, hm.no, hm.nx, fun j oj hj hk hlt => ?_, fun j oj hj hk hle => ?_, fun k => ?_, fun k hk j => ?_⟩
  · rw [hm.at_ k hk j]
    exact (ht.mono (Nat.le_of_lt hie) hm.le (hm.no.sub hmi (Nat.le_refl _)) hk2).2 j
  · have hn := hf k hk
    apply Classical.byContradiction
    intro hh
    have hh : ob.has k = true := by simpa using hh
    rcases (hm.has k).1 hh with h | ⟨j, ha, ha2, hb, hc, hdd⟩
    · have := (ht.mono hmi (by have := hm.le; omega) (hm.no.sub (Nat.le_refl _) (by omega)) h).1
      rw [hn] at this; cases this
    · by_cases hji : j < i
      · have := (ht.mono (by omega : j + 1 ≤ i) (by have := hm.le; omega) (hm.no.sub (by omega) (by omega)) hc).1
        rw [hn] at this; cases this
      · by_cases hij : j = i
        · subst hij; rw [hDi] at hb; cases hb
        · have : (O (i + 1)).has k = true := by rw [hA, OL.has_append, hk]; rfl
          have := (ht.mono (by omega : i + 1 ≤ j) (by have := hm.le; omega) (hm.no.sub (by omega) (by omega)) this).1
          rw [hdd] at this; cases this
  · by_cases hji : j = i
    · subst hji; rw [hi] at hj; cases hj; rw [h1] at hk; cases hk
    · rw [hD' j, if_neg hji]; exact hm.acts j oj hj hk
  · rw [hD' j]; split
    · rfl
    · exact hm.p1 j oj hj hk hlt
  · by_cases hji : j = i
    · omega
    · rw [hD' j, if_neg hji]; exact hm.p2 j oj hj hk hle
  · have e' : (A.ob.ext ob).has k = (A.has k || ob.has k) := rfl
    rw [e', Bool.or_eq_true, hm.has k]
    constructor
    · rintro (h | h | ⟨j, ha, ha2, hb, hc⟩)
      · exact .inr ⟨i, hmi, hie, by rw [hD' i, if_pos rfl], by rw [hA, OL.has_append, h]; rfl, hf k h⟩
      · exact .inl h
      · exact .inr ⟨j, ha, ha2, by rw [hD' j]; split <;> simp_all, hc⟩
    · rintro (h | ⟨j, ha, ha2, hb, hc, hdd⟩)
      · exact .inr (.inl h)
      · by_cases hji : j = i
        · subst hji
          rw [hA, OL.has_append, hdd] at hc
          exact .inl (by simpa using hc)
        · rw [hD' j, if_neg hji] at hb
          exact .inr (.inr ⟨j, ha, ha2, hb, hc, hdd⟩)
  · have e' : (A.ob.ext ob).at_ k j = if A.has k = true then A.at_ k j else ob.at_ k j := rfl
    rw [e']
    split
    · rename_i hAk
      have hx : (O (i + 1)).has k = true := by rw [hA, OL.has_append, hAk]; rfl
      rw [(ht.mono (by omega : i + 1 ≤ e) hm.le (hm.no.sub (by omega) (Nat.le_refl _)) hx).2 j, hA, OL.at_append, if_pos hAk]
    · rename_i hAk
      refine hm.at_ k ?_ j
      have : (A.has k || ob.has k) = true := hk
      simpa [hAk] using this
theorem Mem1.start (ht : TrX P T ops fr env V O) {m e : Nat} (hme : m ≤ e) (hle : e ≤ ops.size) (hno : noAct ops fr m e) (hnx : e = ops.size ∨ ∃ oe, ops[e]? = some oe ∧ kdx fr e oe = 2)
    (hacts : ∀ i oi, ops[i]? = some oi → kdx fr i oi = 2 → (D i = true ↔ i < m)) (hp1 : ∀ i oi, ops[i]? = some oi → kdx fr i oi = 1 → i < m → D i = true) (hp2 : ∀ i oi, ops[i]? = some oi → kdx fr i oi = 1 → m ≤ i → D i = false) :
    Mem1 ops fr O D (O m).ob m e where
  me := hme
  le := hle
  acts := hacts
  no := hno
  nx := hnx
  p1 := hp1
  p2 := fun i oi hi h1 h => hp2 i oi hi h1 (by omega)
  has := fun k => by
    constructor
    · exact fun h => .inl h
    · rintro (h | ⟨j, ha, hb, hc, hd, he⟩)
      · exact h
      · have hlt : j < ops.size := by omega
        have hx : ops[j]? = some ops[j] := by simp [hlt]
        rcases kdx_le fr j ops[j] with h0 | h1 | h2
        · rw [ht.same hx h0, he] at hd; cases hd
        · rw [hp2 j _ hx h1 ha] at hc; cases hc
        · exact absurd h2 (hno j _ hx ha hb)
  at_ := fun k hk i => ((ht.mono hme hle hno hk).2 i).symm
theorem MemX.two (ht : TrX P T ops fr env V O) (hd : DrawOkX ops U fr) (hi : ops[i]? = some oi) (h2 : kdx fr i oi = 2) (hDi : D i = false)
    (hD' : ∀ j, D' j = if j = i then true else D j) (hU : ∀ j, j < ops.size → U i j = true → D j = true) (hUn : ∀ k ok, ops[k]? = some ok → U k i = true → D k = false) {ob : Ob} (hob : ∀ k i, ob.at_ k i ≠ none → ob.has k = true) (hm : MemX ops fr O D ob) :
    ob = (O i).ob ∧ MemX ops fr O D' (O (i + 1)).ob := by
  obtain ⟨m, e, hm⟩ := hm
  have lt : ∀ {i : Nat} {oi : Oper}, ops[i]? = some oi → i < ops.size := fun hi => (Array.getElem?_eq_some_iff.1 hi).1
  have hin := lt hi
  have hmi : m ≤ i := by
    apply Nat.le_of_not_lt
    intro h
    have := (hm.acts i oi hi h2).2 h
    rw [hDi] at this; cases this
  have hei : e ≤ i := by
    apply Nat.le_of_not_lt
    intro h
    exact hm.no i oi hi hmi h h2
  have hee : e = i := by
    rcases hm.nx with h | ⟨oe, he, h3⟩
    · omega
    · apply Classical.byContradiction
      intro hne
      have := hU e (lt he) (hd.act2 i oi e oe hi he h2 h3 (by omega))
      have := (hm.acts e oe he h3).1 this
      have := hm.me
      omega
  subst hee
  refine ⟨hm.turn ht hob (fun j oj hj hk ha hb => hU j (lt hj) (hd.act1 e oi j oj hi hj h2 hk hb)), ?_⟩
  obtain ⟨e', q1, q2, q3, q4⟩ := nextAct ops fr (ops.size - (e + 1)) (e + 1) (by omega)
  refine ⟨e + 1, e', Mem1.start ht q1 q2 q3 q4 (fun j oj hj hk => ?_) (fun j oj hj hk hlt => ?_) (fun j oj hj hk hle => ?_)⟩
  · rw [hD' j]
    by_cases hji : j = e
    · subst hji; simp
    · rw [if_neg hji, hm.acts j oj hj hk]
      constructor
      · intro h; omega
      · intro h
        have := hU j (lt hj) (hd.act2 e oi j oj hi hj h2 hk (by omega))
        exact (hm.acts j oj hj hk).1 this
  · rw [hD' j]; split
    · rfl
    · rename_i hne
      exact hU j (lt hj) (hd.act1 e oi j oj hi hj h2 hk (by omega))
  · rw [hD' j, if_neg (by omega)]
    exact hUn j oj hj (hd.act1' e oi j oj hi hj h2 hk (by omega))
theorem MemX.all (ht : TrX P T ops fr env V O) {ob : Ob} (hob : ∀ k i, ob.at_ k i ≠ none → ob.has k = true) (hm : MemX ops fr O D ob) (hall : ∀ i, i < ops.size → D i = true) : ob = (O ops.size).ob := by
  obtain ⟨m, e, hm⟩ := hm
  have lt : ∀ {i : Nat} {oi : Oper}, ops[i]? = some oi → i < ops.size := fun hi => (Array.getElem?_eq_some_iff.1 hi).1
  have he : e = ops.size := by
    rcases hm.nx with h | ⟨oe, he, h2⟩
    · exact h
    · have := (hm.acts e oe he h2).1 (hall e (lt he))
      have := hm.me
      omega
  have := hm.turn ht hob (fun j oj hj _ _ _ => hall j (lt hj))
  rw [this, he]
end
theorem downX (hd : DrawOkX ops U fr) {D : Nat → Bool} (hcl : ∀ i oi, ops[i]? = some oi → D i = true → ∀ e ∈ oi.after, Region.binds .any e = true → D e.on = true) :
    ∀ i oi j, ops[i]? = some oi → j < ops.size → U i j = true → (∀ e ∈ oi.after, Region.binds .any e = true → D e.on = true) → D j = true := by
  intro i
  induction i using Nat.strongRecOn with
  | _ i ih =>
    intro oi j hi hj hu hr
    obtain ⟨e, he, hb, hq⟩ := hd.clos i oi j hi hj hu
    have hlt := hd.back i oi hi e he hb
    have hin := (Array.getElem?_eq_some_iff.1 hi).1
    have hD := hr e he hb
    rcases hq with hq | hq
    · exact hq ▸ hD
    · have hx : ops[e.on]? = some ops[e.on] := by simp [Nat.lt_trans hlt hin]
      exact ih e.on hlt _ j hx hj hq (hcl e.on _ hx hD)
theorem rdy_nilX (hd : DrawOkX ops U fr) {listed : Array Bool} (hs : listed.size = ops.size) (h : Region.ready .any ops listed = []) : ∀ i, i < ops.size → Dl listed i = true := by
  intro i
  induction i using Nat.strongRecOn with
  | _ i ih =>
    intro hi
    apply Classical.byContradiction
    intro hn
    have hx : ops[i]? = some ops[i] := by simp [hi]
    have : i ∈ Region.ready .any ops listed := by
      simp only [Region.ready, List.mem_filter, List.mem_range, Bool.and_eq_true, Bool.not_eq_true']
      refine ⟨hi, ?_, ?_⟩
      · have : Dl listed i = false := by simpa using hn
        simp only [Dl, Array.getD_eq_getD_getElem?] at this ⊢
        have hl : i < listed.size := hs ▸ hi
        simp only [hl, Array.getElem?_eq_getElem, Option.getD_some] at this ⊢
        exact this
      · rw [hx]
        simp only [Option.map_some, Option.getD_some, Array.all_eq_true_iff_forall_mem]
        intro e he
        cases hb : Region.binds .any e
        · rfl
        · have hlt := hd.back i _ hx e he hb
          have := ih e.on hlt (by omega)
          simp only [Dl] at this
          simp [this]
    rw [h] at this
    cases this
structure InvX (P : Program) (T : TT) (ops : Array Oper) (fr : Nat → Bool) (N : Nat) (env : Env) (V : Nat → AV) (O : Nat → OL) (X : Cx) (listed : Array Bool) (a : Act) (w : World) : Prop where
  sz : listed.size = ops.size
  cl : ∀ i oi, ops[i]? = some oi → Dl listed i = true → ∀ e ∈ oi.after, Region.binds .any e = true → Dl listed e.on = true
  pic : ∃ κ ob, Rel X κ ob w ∧ (∀ t, VR (KK X κ ob w) (get (envOf V (Dl listed) 0 ops.toList env) t) (a.tmps.getD t undef)) ∧ MemX ops fr O (Dl listed) ob
  size : a.tmps.size = N
  defers : a.defers = []
theorem draw_stepX (hd : DrawOkX ops U fr) (ht : TrX P T ops fr env V O) {N : Nat} (hdst : dstOk N ops.toList = true) {X : Cx} (hP : X.P = P) (hTT : X.T = T) {listed : Array Bool} {a : Act} {w : World}
    (h : InvX P T ops fr N env V O X listed a w) {i : Nat} (hi : i ∈ Region.ready .any ops listed) {Q : Exit → Act → World → Prop} {K : Act → World → Prop}
    (hK : ∀ a' w', InvX P T ops fr N env V O X (listed.setIfInBounds i true) a' w' → K a' w') : wpOp P ops Q i K a w := by
  obtain ⟨oi, hx, hli, hre⟩ := mem_rdy hi
  have lt : ∀ {i : Nat} {oi : Oper}, ops[i]? = some oi → i < ops.size := fun hi => (Array.getElem?_eq_some_iff.1 hi).1
  have hin := lt hx
  have hinl : i < listed.size := h.sz ▸ hin
  have hDi : Dl listed i = false := by
    simp only [Dl, Array.getD_eq_getD_getElem?, hinl, Array.getElem?_eq_getElem, Option.getD_some] at hli ⊢
    exact hli
  have hD' := listed_set (listed := listed) hinl
  have hU : ∀ j, j < ops.size → U i j = true → Dl listed j = true := fun j hj hu => downX hd h.cl i oi j hx hj hu hre
  have hUn : ∀ k ok, ops[k]? = some ok → U k i = true → Dl listed k = false := fun k ok hk hu => by
    apply Classical.byContradiction
    intro hn
    have hn : Dl listed k = true := by simpa using hn
    have := downX hd h.cl k ok i hk hin hu (h.cl k ok hk hn)
    rw [hDi] at this; cases this
  obtain ⟨κ, ob, hR, hE, hM⟩ := h.pic
  have hob : ∀ k i, ob.at_ k i ≠ none → ob.has k = true := hR.has
  have hag : ∀ t, t ∈ oi.looksAt ops → get (envOf V (Dl listed) 0 ops.toList env) t = get (envOf V (fun j => decide (j < i)) 0 ops.toList env) t := by
    intro t htl
    refine envOf_agree V _ _ t _ 0 env env rfl (fun k o hk ho => ?_)
    rw [Array.getElem?_toList] at hk
    rw [Nat.zero_add]
    rcases Nat.lt_trichotomy k i with hki | hki | hki
    · rw [decide_eq_true hki]
      rcases hd.ap i oi k o hx hk hki with hap | hu
      · exact absurd htl ((Oper.apart_spec hap).1 t ho)
      · exact hU k (lt hk) hu
    · subst hki
      rw [hDi]; simp
    · rw [decide_eq_false (by omega)]
      rcases hd.ap k o i oi hk hx hki with hap | hu
      · exact absurd htl ((Oper.apart_spec hap).2.2 t ho)
      · exact hUn k o hk hu
  have hput : ∀ t, get (envOf V (Dl (listed.setIfInBounds i true)) 0 ops.toList env) t = if oi.dst = some t then V i else get (envOf V (Dl listed) 0 ops.toList env) t := by
    intro t
    by_cases hdt : oi.dst = some t
    · rw [if_pos hdt, envOf_last V _ t ops.toList 0 i oi env (by rw [Array.getElem?_toList]; exact hx) hdt (by rw [Nat.zero_add, hD', if_pos rfl]) (fun k o hk hk2 ho => ?_), Nat.zero_add]
      rw [Array.getElem?_toList] at hk2
      rw [Nat.zero_add, hD', if_neg (by omega)]
      rcases hd.ap k o i oi hk2 hx hk with hap | hu
      · exact absurd ho ((Oper.apart_spec hap).2.1 t hdt)
      · exact hUn k o hk2 hu
    · rw [if_neg hdt]
      refine envOf_agree V _ _ t _ 0 env env rfl (fun k o hk ho => ?_)
      rw [Array.getElem?_toList] at hk
      rw [Nat.zero_add, hD', if_neg (fun e => by subst e; rw [hx] at hk; cases hk; exact hdt ho)]
  have hdstN : ∀ t, oi.dst = some t → t < a.tmps.size := fun t hdt => by
    simp only [dstOk, List.all_eq_true] at hdst
    have := hdst oi (by simpa using Array.mem_of_getElem? hx)
    rw [hdt] at this
    rw [h.size]; simpa [Nat.blt_eq] using this
  have hcl' : ∀ j oj, ops[j]? = some oj → Dl (listed.setIfInBounds i true) j = true → ∀ e ∈ oj.after, Region.binds .any e = true → Dl (listed.setIfInBounds i true) e.on = true := by
    intro j oj hj hDj e he hb
    rw [hD'] at hDj ⊢
    split
    · rfl
    · by_cases hji : j = i
      · subst hji; rw [hx] at hj; cases hj; exact hre e he hb
      · rw [if_neg hji] at hDj; exact h.cl j oj hj hDj e he hb
  have next : ∀ (c : Value) (w' : World) (κ' : Gh) (ob' : Ob), Rel X κ' ob' w' → VR (KK X κ' ob' w') (V i) c → Le (KK X κ ob w) (KK X κ' ob' w') → MemX ops fr O (Dl (listed.setIfInBounds i true)) ob' → K (a.put oi.dst c) w' := by
    intro c w' κ' ob' hR' hv hle hM'
    refine hK _ _ ⟨by simp [h.sz], hcl', ⟨κ', ob', hR', fun t => ?_, hM'⟩, by rw [Act.put_size]; exact h.size, by rw [Am.Act.put_defers]; exact h.defers⟩
    rw [hput t]
    by_cases hdt : oi.dst = some t
    · rw [if_pos hdt, hdt]
      have : (a.put (some t) c).tmps.getD t undef = c := by simp [Act.put, hdstN t hdt]
      rw [this]; exact hv
    · rw [if_neg hdt]
      have : (a.put oi.dst c).tmps.getD t undef = a.tmps.getD t undef := by
        cases hq : oi.dst with
        | none => rfl
        | some d =>
          have hne : d ≠ t := fun e => hdt (by rw [hq, e])
          simp [Act.put, Array.getElem?_setIfInBounds_ne hne]
      rw [this]; exact VR_mono hle (hE t)
  have hops : ∀ x ∈ oi.op.operands.toList, VR (KK X κ ob w) (evE (envOf V (fun j => decide (j < i)) 0 ops.toList env) x) (a.eval x) := by
    intro x hxo
    cases x with
    | tmp t => have := hE t; rw [hag t (looks_dst hxo)] at this; exact this
    | const v => exact constAV_ok _ v
    | global g => trivial
    | func g => exact ⟨#[], rfl, rfl, fun i hi => by omega⟩
  have want : ∀ b, gd ops oi (envOf V (fun j => decide (j < i)) 0 ops.toList env) = some b → Region.wanted oi (yielded ops a.tmps) = b := by
    intro b hb
    unfold gd at hb
    split at hb
    · rename_i hg
      cases hb
      simp [Region.wanted, hg]
    · rename_i j wnt hg
      split at hb
      · rename_i d hdd
        split at hb
        · rename_i b' hb'
          cases hb
          rw [← hag d (looks_guard hg hdd)] at hb'
          have hy := yielded_of hdd hE hb' (dst_lt_of_eq hE hb')
          simp [Region.wanted, hg, hy]
        · rename_i hb'
          cases hb
          rw [← hag d (looks_guard hg hdd)] at hb'
          have hy := yielded_none hdd hE hb'
          simp [Region.wanted, hg, hy]
        · cases hb
      · cases hb
  have hsz : ∀ r, Oper.upon X.P oi a K Q r → Oper.upon P oi a K Q r := fun r hr => by rw [← hP]; exact hr
  unfold wpOp
  rw [hx]
  simp only
  have hst := ht.step i oi hx
  rcases hst with ⟨hg, hv, hs⟩ | ⟨hg, hst⟩
  · rw [if_neg (by rw [want _ hg]; simp)]
    have hvu : VR (KK X κ ob w) (V i) undef := by rw [hv]; exact undA_ok _
    rcases kdx_le fr i oi with h0 | h1 | h2
    · exact next undef w κ ob hR hvu (Le.refl _) (hM.zero ht hd hx (by omega) hU hD' hs)
    · exact next undef w κ ob hR hvu (Le.refl _) (hM.zero ht hd hx (by omega) hU hD' hs)
    · obtain ⟨e1, e2⟩ := hM.two ht hd hx h2 hDi hD' hU hUn hob
      rw [hs, ← e1] at e2
      exact next undef w κ ob hR hvu (Le.refl _) e2
  · rw [if_pos (want _ hg)]
    refine .inl ?_
    unfold Oper.wp
    rw [← hP]
    rcases hst with ⟨h0, hs, hj⟩ | ⟨h1, A, hs, hj, hf⟩ | ⟨h2, hj⟩
    · have := (PassJ.of_pure hj ob) X κ ob w a.eval hP hTT hR (fun _ _ _ _ => rfl) (fun k hk => by cases hk) hops
      rw [Ob.ext_nil, ← hP] at this
      exact upon_of_Out this (fun c w' κ' hR' hv hle => next c w' κ' ob hR' hv hle (hM.zero ht hd hx (by omega) hU hD' hs))
    · obtain ⟨e1, e2, e3⟩ := hM.one ht hd hx h1 hDi hU hD' hs hf
      have := hj X κ ob w a.eval hP hTT (fun _ => rfl) hR e1 e2 hops
      rw [← hP] at this
      exact upon_of_Out this (fun c w' κ' hR' hv hle => next c w' κ' _ hR' hv hle e3)
    · obtain ⟨e1, e2⟩ := hM.two ht hd hx h2 hDi hD' hU hUn hob
      subst e1
      have := hj X κ w a.eval hP hTT hR hops
      rw [← hP] at this
      exact upon_of_Out this (fun c w' κ' hR' hv hle => next c w' κ' _ hR' hv hle e2)
theorem draw_anyX (hd : DrawOkX ops U fr) (ht : TrX P T ops fr env V O) {N : Nat} (hdst : dstOk N ops.toList = true) {X : Cx} (hP : X.P = P) (hTT : X.T = T) {Q : Exit → Env → OL → Prop}
    (hK : Q .normal (envOf V (fun _ => true) 0 ops.toList env) (O ops.size)) :
    ∀ (fuel : Nat) (listed : Array Bool) (a : Act) (w : World), left ops listed ≤ fuel → InvX P T ops fr N env V O X listed a w → wpAny P .any ops (QQ X N Q) fuel listed a w := by
  have fin : ∀ (listed : Array Bool) (a : Act) (w : World), InvX P T ops fr N env V O X listed a w → (∀ i, i < ops.size → Dl listed i = true) → QQ X N Q .normal a w := by
    intro listed a w h hall
    obtain ⟨κ, ob, hR, hE, hM⟩ := h.pic
    have e := hM.all ht hR.has hall
    subst e
    refine ⟨κ, _, _, hK, hR, fun t => ?_, h.size, h.defers⟩
    have := hE t
    rwa [envOf_agree V (Dl listed) (fun _ => true) t _ 0 env env rfl (fun k o hk _ => by
      rw [Array.getElem?_toList] at hk
      rw [Nat.zero_add, hall k (Array.getElem?_eq_some_iff.1 hk).1])] at this
  intro fuel
  induction fuel with
  | zero =>
    intro listed a w hl h
    have hall : ∀ i, i < ops.size → Dl listed i = true := by
      intro i hi
      apply Classical.byContradiction
      intro hn
      have hn : Dl listed i = false := by simpa using hn
      have : i ∈ (List.range ops.size).filter fun i => !Dl listed i := by simp [hi, hn]
      have := List.length_pos_of_mem this
      unfold left at hl
      omega
    refine ⟨?_, fin listed a w h hall⟩
    apply Classical.byContradiction
    intro hne
    obtain ⟨i, hi⟩ := List.exists_mem_of_ne_nil _ hne
    obtain ⟨oi, hx, hli, _⟩ := mem_rdy hi
    have hin := (Array.getElem?_eq_some_iff.1 hx).1
    have hh := hall i hin
    have hl2 : i < listed.size := h.sz ▸ hin
    simp only [Dl, Array.getD_eq_getD_getElem?, hl2, Array.getElem?_eq_getElem, Option.getD_some] at hli hh
    rw [hh] at hli; cases hli
  | succ fuel ih =>
    intro listed a w hl h
    refine ⟨fun hr => fin listed a w h (rdy_nilX hd h.sz hr), fun i hi => ?_⟩
    obtain ⟨oi, hx, hli, _⟩ := mem_rdy hi
    have hin := (Array.getElem?_eq_some_iff.1 hx).1
    have hl2 : i < listed.size := h.sz ▸ hin
    have hDi : Dl listed i = false := by
      simp only [Dl, Array.getD_eq_getD_getElem?, hl2, Array.getElem?_eq_getElem, Option.getD_some] at hli ⊢
      exact hli
    have := left_lt hin hl2 hDi
    exact draw_stepX hd ht hdst hP hTT h hi (fun a' w' h' => ih _ a' w' (by omega) h')
theorem WOps_cons (hT : TOk P T) (arr : Array Oper) {o : Oper} {r : List Oper} {env : Env} {ol : OL} {K : Env → OL → Prop} (h : WOps P T arr (o :: r) env ol K) :
    ∃ v ol1, StepJ P T arr o env ol v ol1 ∧ WOps P T arr r (putE o.dst v env) ol1 K := by
  unfold WOps at h
  have run : gd arr o env = some true → WOp P T o (evE env) ol (fun v ol' => WOps P T arr r (putE o.dst v env) ol' K) → ∃ v ol1, StepJ P T arr o env ol v ol1 ∧ WOps P T arr r (putE o.dst v env) ol1 K := by
    intro hg hw
    obtain ⟨v, hw⟩ := WOp_sound hT hw
    rcases hw with ⟨h0, h1, h2⟩ | ⟨h0, A, h1, h2, h3⟩ | ⟨h0, ol', h1, h2, _⟩
    · exact ⟨v, ol, .inr ⟨hg, .inl ⟨h0, rfl, h2⟩⟩, h1⟩
    · exact ⟨v, A ++ ol, .inr ⟨hg, .inr (.inl ⟨h0, A, rfl, h2, h3⟩)⟩, h1⟩
    · exact ⟨v, ol', .inr ⟨hg, .inr (.inr ⟨h0, h2⟩)⟩, h1⟩
  split at h
  · rename_i hg
    exact run (by simp [gd, hg]) h
  · rename_i j want hg
    split at h
    · rename_i d hd
      split at h
      · rename_i b hb
        split at h
        · rename_i hbw
          exact run (by simp only [gd, hg, hd, hb, hbw]) h
        · rename_i hbw
          exact ⟨undA, ol, .inl ⟨by simp only [gd, hg, hd, hb, hbw], rfl, rfl⟩, h⟩
      · rename_i hb
        exact ⟨undA, ol, .inl ⟨by simp only [gd, hg, hd, hb], rfl, rfl⟩, h⟩
      · exact h.elim
    · exact h.elim
def Ex (P : Program) (T : TT) (arr : Array Oper) (fr : Nat → Bool) (s : Nat) (ops : List Oper) (env : Env) (ol : OL) (K : Env → OL → Prop) : Prop :=
  ∃ (V : Nat → AV) (O : Nat → OL), O 0 = ol ∧ (∀ k o, ops[k]? = some o → StepK (kdx fr (s + k) o) P T arr o (envOf V (fun j => decide (j < k)) 0 ops env) (O k) (V k) (O (k + 1))) ∧ K (envOf V (fun _ => true) 0 ops env) (O ops.length)
theorem Ex.nil {arr : Array Oper} {s : Nat} {ol : OL} {K : Env → OL → Prop} (h : K env ol) : Ex P T arr fr s [] env ol K := ⟨fun _ => .any, fun _ => ol, rfl, fun k o hk => by simp at hk, h⟩
theorem Ex.cons {arr : Array Oper} {s : Nat} {o : Oper} {r : List Oper} {ol ol1 : OL} {v : AV} {K : Env → OL → Prop} (hs : StepK (kdx fr s o) P T arr o env ol v ol1) (h : Ex P T arr fr (s + 1) r (putE o.dst v env) ol1 K) : Ex P T arr fr s (o :: r) env ol K := by
  obtain ⟨V, O, hO, hst, hK⟩ := h
  refine ⟨fun | 0 => v | k + 1 => V k, fun | 0 => ol | k + 1 => O k, rfl, fun k o' hk => ?_, ?_⟩
  · cases k with
    | zero =>
      simp only [List.getElem?_cons_zero, Option.some.injEq] at hk
      subst hk
      have : (fun j : Nat => decide (j < 0)) = fun _ => false := by funext j; simp
      rw [this, envOf_none]
      simp only [Nat.zero_add, Nat.add_zero]
      rw [hO]
      exact hs
    | succ k =>
      have := hst k o' (by simpa using hk)
      simp only [envOf]
      rw [if_pos (by simp), envOf_shift]
      have e : (fun j : Nat => decide (j + 1 < k + 1)) = fun j => decide (j < k) := by funext j; simp
      rw [e, show s + (k + 1) = s + 1 + k from by omega]
      exact this
  · simp only [envOf, if_true]
    rw [envOf_shift]
    exact hK
theorem Ex.pre (hT : TOk P T) {arr : Array Oper} {r : List Oper} {K K' : Env → OL → Prop} : ∀ (l : List Oper) (s : Nat) (env : Env) (ol : OL), (∀ i, s ≤ i → i < s + l.length → fr i = false) → WOps P T arr l env ol K' → (∀ e o, K' e o → Ex P T arr fr (s + l.length) r e o K) → Ex P T arr fr s (l ++ r) env ol K
  | [], s, env, ol, _, h, hk => hk _ _ h
  | o :: l, s, env, ol, hf, h, hk' => by
    obtain ⟨v, ol1, hs, hw⟩ := WOps_cons hT arr h
    have hk : kdx fr s o = kind o := by unfold kdx; rw [hf s (Nat.le_refl _) (by simp)]; rfl
    refine Ex.cons (by rw [hk]; exact hs) (Ex.pre hT l (s + 1) _ _ (fun i h1 h2 => hf i (by omega) (by simp only [List.length_cons]; omega)) hw ?_)
    have e : s + (o :: l).length = s + 1 + l.length := by simp only [List.length_cons]; omega
    rw [e] at hk'
    exact hk'
def LoadC (P : Program) (T : TT) (o : Oper) (env : Env) (K : AV → Prop) : Prop :=
  o.guard = none ∧ ∃ t x u, o.op = .load t x ∧ evE env x = .cptr u ∧ (T.und t).known = true ∧ u.size = T.sz t ∧ u.isAgg = (T.und t).isAgg ∧ K u
theorem LoadC.step (hT : TOk P T) {arr : Array Oper} {o : Oper} {ol : OL} {K : AV → Prop} (h : LoadC P T o env K) : ∃ v, K v ∧ StepK 0 P T arr o env ol v ol := by
  obtain ⟨hg, t, x, u, ho, hx, hk, h1, h2, h⟩ := h
  refine ⟨u, h, .inr ⟨by simp [gd, hg], .inl ⟨rfl, rfl, fun X κ ob w ρ hP hTT hR hv => ?_⟩⟩⟩
  have hx' := hv x (by simp [ho, Op.operands])
  rw [hx] at hx'
  obtain ⟨b, oo, seg, e1, hJ, hu, hs⟩ := VR_cptr hx'
  obtain ⟨c, hrun, hvc⟩ := load_fin hT hk (K := KK X κ ob w) rfl hu hs h1 h2
  exact ⟨c, by simp [execOp, ho, e1, Instr.loadAt, Instr.sureAddr, hrun], hvc⟩
def WSeg (P : Program) (T : TT) (arr : Array Oper) : List Nat → List Oper → Env → OL → (Env → OL → Prop) → Prop
  | [], ops, env, ol, K => WOps P T arr ops env ol K
  | n :: fl, ops, env, ol, K => WOps P T arr (ops.take n) env ol (fun env' ol' => match ops.drop n with
    | o :: r => LoadC P T o env' (fun v => WSeg P T arr fl r (putE o.dst v env') ol' K)
    | [] => False)
def frL : List Nat → Nat → List Nat
  | [], _ => []
  | n :: fl, s => (s + n) :: frL fl (s + n + 1)
def frF (fl : List Nat) (i : Nat) : Bool := (frL fl 0).any (Nat.beq i)
theorem frL_ge : ∀ (fl : List Nat) (s x : Nat), x ∈ frL fl s → s ≤ x
  | [], s, x, h => by cases h
  | n :: fl, s, x, h => by
    unfold frL at h
    rcases List.mem_cons.1 h with h | h
    · omega
    · have := frL_ge fl (s + n + 1) x h; omega
theorem frL_no (fl : List Nat) {s i : Nat} (h : i < s) : (frL fl s).any (Nat.beq i) = false := by
  cases hq : (frL fl s).any (Nat.beq i) with
  | false => rfl
  | true =>
    obtain ⟨x, h1, h2⟩ := List.any_eq_true.1 hq
    have := frL_ge fl s x h1
    have := Nat.eq_of_beq_eq_true h2
    omega
theorem WSeg.ex (hT : TOk P T) {arr : Array Oper} {K : Env → OL → Prop} : ∀ (fl : List Nat) (s : Nat) (ops : List Oper) (env : Env) (ol : OL), (∀ i, s ≤ i → fr i = (frL fl s).any (Nat.beq i)) → WSeg P T arr fl ops env ol K → Ex P T arr fr s ops env ol K
  | [], s, ops, env, ol, hf, h => by
    have := Ex.pre (r := []) hT ops s env ol (fun i h1 _ => by rw [hf i h1]; rfl) (K := K) (fr := fr) (arr := arr) (P := P) (T := T) h (fun _ _ h => Ex.nil h)
    rwa [List.append_nil] at this
  | n :: fl, s, ops, env, ol, hf, h => by
    have h : WOps P T arr (ops.take n) env ol (fun env' ol' => match ops.drop n with
      | o :: r => LoadC P T o env' (fun v => WSeg P T arr fl r (putE o.dst v env') ol' K)
      | [] => False) := h
    rcases Nat.lt_or_ge n ops.length with hn | hn
    · have hl : (ops.take n).length = n := by rw [List.length_take]; omega
      obtain ⟨o, r, hor⟩ : ∃ o r, ops.drop n = o :: r := by
        cases hq : ops.drop n with
        | nil => have := congrArg List.length hq; rw [List.length_drop, List.length_nil] at this; omega
        | cons o r => exact ⟨o, r, rfl⟩
      rw [hor] at h
      have hops : ops = ops.take n ++ (o :: r) := by rw [← hor, List.take_append_drop]
      rw [hops]
      refine Ex.pre hT (ops.take n) s env ol (fun i h1 h2 => ?_) h (fun env' ol' hh => ?_)
      · rw [hl] at h2
        rw [hf i h1]
        show (Nat.beq i (s + n) || (frL fl (s + n + 1)).any (Nat.beq i)) = false
        rw [frL_no fl (by omega), beq_ff (by omega)]; rfl
      · rw [hl]
        obtain ⟨v, hv, hs⟩ := LoadC.step hT (arr := arr) (ol := ol') hh
        have hfr : fr (s + n) = true := by
          rw [hf _ (by omega)]
          show (Nat.beq (s + n) (s + n) || _) = true
          rw [Nat.beq_refl]; rfl
        refine Ex.cons (v := v) (ol1 := ol') ?_ (WSeg.ex hT fl (s + n + 1) r _ _ (fun i hi => ?_) hv)
        · have : kdx fr (s + n) o = 0 := by unfold kdx; rw [hfr]; rfl
          rw [this]; exact hs
        · rw [hf i (by omega)]
          show (Nat.beq i (s + n) || _) = _
          rw [beq_ff (by omega)]; rfl
    · have e : ops.drop n = [] := List.drop_of_length_le hn
      rw [e] at h
      have := Ex.pre (r := []) hT (ops.take n) s env ol (fun i h1 h2 => ?_) (K := K) (fr := fr) (arr := arr) (P := P) (T := T) h (fun _ _ hh => hh.elim)
      · rwa [List.append_nil, List.take_of_length_le hn] at this
      · have : (ops.take n).length ≤ n := List.length_take_le _ _
        rw [hf i h1]
        show (Nat.beq i (s + n) || (frL fl (s + n + 1)).any (Nat.beq i)) = false
        rw [frL_no fl (by omega), beq_ff (by omega)]; rfl
theorem snd_drawX (hT : TOk P T) (hm : P.follows .mixedOrders = true) (fl : List Nat) {N id : Nat} {ol : OL} {Q : Exit → Env → OL → Prop} (hd : drawOkX ops (frF fl) = true) (hdst : dstOk N ops.toList = true)
    (h : WSeg P T ops fl ops.toList env ol (fun env' ol' => Q .normal env' ol')) : Snd P T N (.region id ops true) env ol Q := by
  intro X κ a w hP hTT hR hE hN hD
  obtain ⟨V, O, hO, hst, hK⟩ := WSeg.ex hT (fr := frF fl) fl 0 ops.toList env ol (fun i _ => rfl) h
  have hd := chkX_ok hd
  have ht : TrX P T ops (frF fl) env V O := ⟨fun k o hk => by have := hst k o (by rw [Array.getElem?_toList]; exact hk); rwa [Nat.zero_add] at this⟩
  have hDl : ∀ j, Dl (Array.replicate ops.size false) j = false := fun j => by
    simp only [Dl, Array.getD_eq_getD_getElem?, Array.getElem?_replicate]
    split <;> rfl
  have hM : MemX ops (frF fl) O (Dl (Array.replicate ops.size false)) ol.ob := by
    obtain ⟨e, q1, q2, q3, q4⟩ := nextAct ops (frF fl) ops.size 0 (by omega)
    rw [← hO]
    exact ⟨0, e, Mem1.start ht q1 q2 q3 q4 (fun i oi _ _ => by rw [hDl]; exact ⟨fun h => (by cases h), fun h => absurd h (Nat.not_lt_zero _)⟩) (fun i oi _ _ h => absurd h (Nat.not_lt_zero _)) (fun i oi _ _ _ => hDl i)⟩
  refine wp_region_any hm (draw_anyX hd ht hdst hP hTT (by rw [Array.length_toList] at hK; exact hK) _ _ a _ ?_ ⟨by simp, fun i oi _ hi => (by rw [hDl] at hi; cases hi), ⟨κ, ol.ob, hR.drew, fun t => ?_, hM⟩, hN, hD⟩)
  · unfold left
    exact Nat.le_trans (List.length_filter_le _ _) (by simp)
  · have e : Dl (Array.replicate ops.size false) = fun _ => false := funext hDl
    rw [e, envOf_none]
    exact hE t
section
variable {N : Nat} {id : Nat} {ol : OL} {Q : Exit → Env → OL → Prop}
theorem sdX (hT : TOk P T) (hm : P.follows .mixedOrders = true) (fl : List Nat) {y : Code} {env' : Env} {ol' : OL} (ho : drawOkX ops (frF fl) = true) (hd : dstOk N ops.toList = true)
    (h : ∀ R : Env → OL → Prop, R env' ol' → WSeg P T ops fl ops.toList env ol R) (hy : Snd P T N y env' ol' Q) : Snd P T N (.seq (.region id ops true) y) env ol Q :=
  snd_seq (snd_drawX hT hm fl ho hd (h _ hy))
theorem wx_ldc {all : Array Oper} {fl : List Nat} {r : List Oper} {x : Operand} {t ty : TypeId} {d : Nat} {pos : String} {af : Array Edge} {K : Env → OL → Prop} {w v : AV} (hx : evE env x = .cptr w) (hk : (T.und t).known = true) (hv : HV w v) (hz : v.size = T.sz t) (ha : v.isAgg = (T.und t).isAgg)
    (hr : WSeg P T all fl r ((d, v) :: env) ol K) : LoadC P T ⟨some d, .load t x, ty, pos, af, none⟩ env (fun v => WSeg P T all fl r (putE (some d) v env) ol K) := by
  have := hv.eq; subst this
  exact ⟨rfl, t, x, _, rfl, hx, hk, hz, ha, hr⟩
end
end Go.Am

set_option linter.unusedVariables false
set_option linter.unusedSimpArgs false
namespace Go.Am
section
variable {P : Program} {T : TT} {N : Nat} {ks : List Nat} {env : Env} {ol : OL} {Q : Exit → Env → OL → Prop}
end
theorem emb_famR {ρ : Nat → Nat → Nat × Nat} {ko kf ko' kf' N e : Nat} {w : Nat → Nat} {F : Nat → Nat → Int} {g : Nat → AV} {env' env : Env} {ol' : OL} (h1' : ∀ i, ρ ko i = (ko', i)) (h2' : ∀ i, ρ kf i = (kf', i)) (hne : ko' ≠ kf')
    (hk : ko ≠ kf) (h1 : ol'.at_ ko' 0 = some (ZR N, .arr N g)) (hg : ∀ j, j < N → g j = .own kf' j (w j) e)
    (h3 : ∀ r, r < N → ∃ C, ol'.at_ kf' r = some (Z64 (w r), C) ∧ ∀ V : Vw, Mt V (C64 (w r) (F r)) C)
    (henv : envAll (fun t v => MtE (vwOf ρ ol' [(ko, .one (ZR N) (CO kf N w e)), (kf, .many (famF N w F))]) v (get env' t)) env) :
    Emb ρ env' ol' env [(ko, .one (ZR N) (CO kf N w e)), (kf, .many (famF N w F))] := by
  have hdom : OL.has [(ko, .one (ZR N) (CO kf N w e)), (kf, .many (famF N w F))] kf = true := by simp [OL.has]
  refine ⟨henv, ⟨?_, fun r sh cc h => ?_, trivial⟩, ⟨⟨fun _ => ⟨rfl, rfl⟩, fun r sh cc h he => ?_, trivial⟩, fun r sh cc h => ⟨fun he => ?_, fun r2' sh2 cc2 h2 he => ?_, trivial⟩, trivial⟩⟩
  · dsimp only
    rw [h1']
    dsimp only
    rw [h1]
    exact ⟨rfl, ⟨rfl, fun _ => trivial⟩, rfl, fun j hj => by rw [hg j hj]; exact ⟨h2' j, rfl, rfl, hdom⟩⟩
  · obtain ⟨hr, rfl, rfl⟩ := famF_some h
    rw [h2']
    dsimp only
    obtain ⟨C, h3, h4⟩ := h3 r hr
    rw [h3]
    exact ⟨rfl, ⟨rfl, fun _ => trivial⟩, h4 _⟩
  · rw [h1', h2'] at he
    exact absurd (congrArg Prod.fst he) hne
  · rw [h1', h2'] at he
    exact absurd (congrArg Prod.fst he).symm hne
  · rw [h2', h2'] at he
    exact ⟨rfl, congrArg Prod.snd he⟩
end Go.Am

set_option linter.unusedVariables false
set_option linter.unusedSimpArgs false
namespace Go.Am
end Go.Am

set_option linter.unusedVariables false
set_option linter.unusedSimpArgs false
namespace Go.Am
abbrev T3 := Nat → Nat → Nat → Int
theorem mul8 {x y : Int} (hx : 0 ≤ x ∧ x < 256) (hy : 0 ≤ y ∧ y < 256) : 0 ≤ x * y ∧ x * y ≤ 65025 := by
  refine ⟨Int.mul_nonneg hx.1 hy.1, ?_⟩
  have h1 : x * y ≤ 255 * y := Int.mul_le_mul_of_nonneg_right (by omega) hy.1
  omega
end Go.Am

set_option linter.unusedVariables false
set_option linter.unusedSimpArgs false
namespace Go.Am
def apF (p : Int) (F : Nat → Nat → Int) (v : Nat → Int) : Nat → Nat → Int
  | 0 => fun _ => 0
  | i + 1 => addF p (apF p F v i) (F i) (v i)
theorem apF_Bp {p : Int} (hp : 0 < p) (F : Nat → Nat → Int) (v : Nat → Int) : ∀ i, Bp p (apF p F v i)
  | 0 => fun _ => ⟨Int.le_refl _, hp⟩
  | i + 1 => addF_Bp hp _ _ _
def starP (p : Int) (n : Nat) (T : T3) (fo : Nat → Int) (F : Nat → Nat → Int) : Prop :=
  ∀ i, i < n → (eqN 6 (apF p F (F i) n) (eF i) ∧ formF p fo (F i) = fo i) ∧ ∀ j, j < n → eqN 6 (apF p F (T i j) n) (timesF p n T (F j) (F i))
noncomputable instance (p : Int) (n : Nat) (T : T3) (fo : Nat → Int) (F : Nat → Nat → Int) : Decidable (starP p n T fo F) := Classical.propDecidable _
def liP (p : Int) (n : Int) (M : Nat) (F : Nat → Nat → Int) : Prop := (M : Int) = n ∧ ∀ i, i < M → smP p n (F i)
noncomputable instance (p n : Int) (M : Nat) (F : Nat → Nat → Int) : Decidable (liP p n M F) := Classical.propDecidable _
end Go.Am

set_option linter.unusedVariables false
set_option linter.unusedSimpArgs false
namespace Go.Am
def parD (c : Int) : Int := if 48 ≤ c ∧ c ≤ 57 then c - 48 else if 97 ≤ c ∧ c ≤ 99 then c - 87 else -1
def rdD (s : ByteArray) (i : Nat) : Int := parD (byteAt s i)
def rdOk (s : ByteArray) (n : Nat) : Prop := s.size = n ∧ ∀ i, i < n → 0 ≤ rdD s i
noncomputable instance (s : ByteArray) (n : Nat) : Decidable (rdOk s n) := Classical.propDecidable _
def rdF (s : ByteArray) (n : Nat) : Nat → Int := fun i => if i < n ∧ 0 ≤ rdD s i then rdD s i else 0
def rdV (p : Int) (n : Nat) (s : ByteArray) : Prop := rdOk s n ∧ smP p (n : Int) (rdF s n)
noncomputable instance (p : Int) (n : Nat) (s : ByteArray) : Decidable (rdV p n s) := Classical.propDecidable _
end Go.Am

set_option linter.unusedVariables false
set_option linter.unusedSimpArgs false
namespace Go.Am
theorem inc_id {n : Nat} {l : Nat → Nat} (h : ∀ i j, i < j → j < n → l i < l j) (hl : ∀ i, i < n → l i < n) : ∀ i, i < n → l i = i := by
  have lo : ∀ i, i < n → i ≤ l i := by
    intro i
    induction i with
    | zero => intro _; omega
    | succ i ih => intro hi; have := ih (by omega); have := h i (i + 1) (by omega) hi; omega
  have hi : ∀ d i, i + d = n - 1 → i < n → l i ≤ i := by
    intro d
    induction d with
    | zero => intro i h1 h2; have := hl i h2; omega
    | succ d ih => intro i h1 h2; have h3 := ih (i + 1) (by omega) (by omega); have := h i (i + 1) (by omega) (by omega); omega
  intro i h1
  have := lo i h1
  have := hi (n - 1 - i) i (by omega) h1
  omega
section
variable {p : Int} {n : Nat} {A : Nat → Nat → Int}
def gS (n : Nat) (A : Nat → Nat → Int) (i : Nat) : Nat → Nat → Int := fun r j => if j < n then A r j else dl r i
theorem gS_Bp (hp : 1 < p) (hA : ∀ i, Bp p (A i)) (i r : Nat) : Bp p (gS n A i r) := fun j => by
  unfold gS dl
  split
  · exact hA r j
  · split <;> omega
theorem full_null (hp : primeB p = true) (hA : ∀ i, Bp p (A i)) (hr : (redGo p n A n).no = n) {x : Nat → Int} (hx : Null p n n A x) {j : Nat} (hj : j < n) : p ∣ x j := by
  obtain ⟨⟨l, rr⟩, hn⟩ := red_ok (m := n) hp (fun i (_ : i < n) => hA i)
  have hx' := (hn x).2 hx
  have hl : ∀ i, i < (redGo p n A n).no → l i = i := by
    have := inc_id (n := (redGo p n A n).no) rr.inc (fun i hi => by have := (rr.lead i hi).1; omega)
    exact this
  have := null_lead rr hx' (i := j) (by omega) (fun k hk hne => by
    rw [hl j (by omega)] at hne
    have h0 := rr.off k j (by omega) (by omega) hne
    rw [hl k (by omega)] at h0
    rw [h0, Int.zero_mul])
  rwa [hl j (by omega)] at this
theorem gS_dot {i r : Nat} (x : Nat → Int) : dot n (gS n A i r) x = dot n (A r) x := dot_congr n (fun j hj => by unfold gS; rw [if_pos hj])
theorem gS_n {i r : Nat} : gS n A i r n = dl r i := by unfold gS; rw [if_neg (Nat.lt_irrefl n)]
theorem gS_con (hp : primeB p = true) (hA : ∀ i, Bp p (A i)) (hr : (redGo p n A n).no = n) (i : Nat) : conP n (redGo p n (gS n A i) (n + 1)).no (redGo p n (gS n A i) (n + 1)).O := by
  have hpb := primeB_bd hp
  obtain ⟨⟨l, rr⟩, hn⟩ := red_ok (m := n + 1) hp (fun r (_ : r < n) => gS_Bp (n := n) (by omega) hA i r)
  have hno := red_counts p n (gS n A i) (n + 1)
  generalize (redGo p n (gS n A i) (n + 1)).no = no at *
  generalize (redGo p n (gS n A i) (n + 1)).O = O at *
  intro i0 hi0
  apply Classical.byContradiction
  intro hge
  have hl0 : l i0 = n := by
    have h1 := (rr.lead i0 hi0).1
    rw [leadN_of (rr.lead i0 hi0)] at hge
    omega
  obtain ⟨c, hc, hcl⟩ : ∃ c, c < n ∧ ¬ IsL no l c := by
    apply Classical.byContradiction
    intro hall
    have hall : ∀ c, c < n → IsL no l c := fun c hc => Classical.byContradiction fun h => hall ⟨c, hc, h⟩
    have := (inc_eq (n := no) (n' := n + 1) (l := l) (l' := fun i => i) rr.inc (fun i j h _ => h) (fun i hi => ⟨l i, (rr.lead i hi).1, rfl⟩) (fun c hc => by
      rcases Nat.lt_or_ge c n with h | h
      · exact hall c h
      · exact ⟨i0, hi0, by omega⟩)).1
    omega
  have hx := (hn _).1 (solC_null rr (c := c) (by omega) hcl)
  have hxn : solC no O l c n = 0 := by
    have h1 := solC_lead rr hcl hi0
    rw [hl0] at h1
    rw [h1, (rr.lead i0 hi0).2.2 c (by omega)]; rfl
  have hA0 : Null p n n A (solC no O l c) := by
    intro r hr'
    have h1 := hx r hr'
    unfold Z at h1 ⊢
    have h2 : dot (n + 1) (gS n A i r) (solC no O l c) = dot n (A r) (solC no O l c) := by
      show dot n (gS n A i r) _ + gS n A i r n * solC no O l c n = _
      rw [gS_dot, hxn, Int.mul_zero, Int.add_zero]
    rwa [h2] at h1
  have h1 := full_null hp hA hr hA0 hc
  rw [solC_self] at h1
  have := Int.le_of_dvd (by omega) h1
  omega
theorem gS_one (hp : primeB p = true) (hA : ∀ i, Bp p (A i)) (hr : (redGo p n A n).no = n) (i : Nat) : oS p n n (gS n A i) := by
  have hpb := primeB_bd hp
  obtain ⟨⟨l, rr⟩, hn⟩ := red_ok (m := n + 1) hp (fun r (_ : r < n) => gS_Bp (n := n) (by omega) hA i r)
  have hs := sol_of_con rr (gS_con hp hA hr i)
  have hs' : Sol p n n (gS n A i) _ := sol_null.2 ((hn _).1 (sol_null.1 hs))
  refine oS_of hp (gS_Bp (by omega) hA i) hs' (fun y hy j hj => ?_)
  generalize solGo n (redGo p n (gS n A i) (n + 1)).O (redGo p n (gS n A i) (n + 1)).no = x at hs'
  have hd : Null p n n A (fun j => y j - x j) := by
    intro r hr'
    have h1 := hy r hr'
    have h2 := hs' r hr'
    rw [gS_dot] at h1 h2
    have h3 : dot n (A r) (fun j => y j - x j) = dot n (A r) y - dot n (A r) x := by
      unfold dot
      rw [show (fun j => A r j * (y j - x j)) = fun j => A r j * y j + (-1) * (A r j * x j) from funext fun j => by rw [Int.mul_sub]; omega, sumZ_add, sumZ_mul]
      omega
    unfold Z
    rw [h3]
    exact dvd_tr h1 (dvd_sy h2)
  exact full_null hp hA hr hd hj
def cpM (p : Int) (n : Nat) (A : Nat → Nat → Int) (r i : Nat) : Int := sS p n n (gS n A i) r
theorem cpM_Bp (hp : primeB p = true) (hA : ∀ i, Bp p (A i)) (hr : (redGo p n A n).no = n) (r : Nat) : Bp p (cpM p n A r) := fun i =>
  (oS_sol hp (gS_Bp (by have := primeB_bd hp; omega) hA i) (gS_one hp hA hr i)).2.1.b r
theorem cpM_mul (hp : primeB p = true) (hA : ∀ i, Bp p (A i)) (hr : (redGo p n A n).no = n) {r i : Nat} (hr' : r < n) : p ∣ sumZ (fun j => A r j * cpM p n A j i) n - dl r i := by
  have h := (oS_sol hp (gS_Bp (by have := primeB_bd hp; omega) hA i) (gS_one hp hA hr i)).1 r hr'
  rw [gS_dot, gS_n] at h
  exact h
def auS (n : Nat) (A : Nat → Nat → Int) : Nat → Nat → Int := fun r j => if j < n then A r j else dl r (j - n)
theorem auS_Bp (hp : 1 < p) (hA : ∀ i, Bp p (A i)) (r : Nat) : Bp p (auS n A r) := fun j => by
  unfold auS dl
  split
  · exact hA r j
  · split <;> omega
def auO (p : Int) (n : Nat) (A : Nat → Nat → Int) : Nat → Nat → Int := fun r j => if j < n then dl r j else cpM p n A r (j - n)
theorem dot_split (f x : Nat → Int) (n : Nat) : ∀ m, dot (n + m) f x = dot n f x + dot m (fun j => f (n + j)) (fun j => x (n + j))
  | 0 => by show _ = _ + 0; rw [Int.add_zero]; rfl
  | m + 1 => by
    show dot (n + m) f x + f (n + m) * x (n + m) = dot n f x + (dot m _ _ + f (n + m) * x (n + m))
    rw [dot_split f x n m, Int.add_assoc]
theorem au_dot {r : Nat} (hr : r < n) (x : Nat → Int) : dot (n + n) (auS n A r) x = dot n (A r) x + x (n + r) := by
  rw [dot_split]
  congr 1
  · exact dot_congr n (fun j hj => by unfold auS; rw [if_pos hj])
  · have : dot n (fun j => auS n A r (n + j)) (fun j => x (n + j)) = sumZ (fun j => (fun j => x (n + j)) j * dl j r) n := by
      refine sumZ_congr n (fun j hj => ?_)
      show auS n A r (n + j) * x (n + j) = x (n + j) * dl j r
      unfold auS
      rw [if_neg (by omega), Nat.add_sub_cancel_left, Int.mul_comm]
      congr 1
      unfold dl
      by_cases h : r = j
      · rw [if_pos h, if_pos h.symm]
      · rw [if_neg h, if_neg (Ne.symm h)]
    rw [this, sum_dl (fun j => x (n + j)) hr]
theorem auO_dot {r : Nat} (hr : r < n) (x : Nat → Int) : dot (n + n) (auO p n A r) x = x r + sumZ (fun i => cpM p n A r i * x (n + i)) n := by
  rw [dot_split]
  congr 1
  · have : dot n (auO p n A r) x = sumZ (fun j => x j * dl j r) n := by
      refine sumZ_congr n (fun j hj => ?_)
      unfold auO
      rw [if_pos hj, Int.mul_comm]
      congr 1
      unfold dl
      by_cases h : r = j
      · rw [if_pos h, if_pos h.symm]
      · rw [if_neg h, if_neg (Ne.symm h)]
    rw [this, sum_dl x hr]
  · exact sumZ_congr n (fun j hj => by show auO p n A r (n + j) * x (n + j) = _; unfold auO; rw [if_neg (by omega), Nat.add_sub_cancel_left])
theorem cpM_app (hp : primeB p = true) (hA : ∀ i, Bp p (A i)) (hr : (redGo p n A n).no = n) (y : Nat → Int) {r : Nat} (hr' : r < n) : p ∣ sumZ (fun j => A r j * sumZ (fun i => cpM p n A j i * y i) n) n - y r := by
  have e : sumZ (fun j => A r j * sumZ (fun i => cpM p n A j i * y i) n) n = sumZ (fun i => sumZ (fun j => A r j * cpM p n A j i) n * y i) n := by
    rw [show (fun j => A r j * sumZ (fun i => cpM p n A j i * y i) n) = fun j => sumZ (fun i => A r j * (cpM p n A j i * y i)) n from funext fun j => (sumZ_mul _ _ n).symm, sumZ_swap]
    refine sumZ_congr n (fun i hi => ?_)
    rw [← sumZ_mulr]
    exact sumZ_congr n (fun j hj => by rw [Int.mul_assoc])
  rw [e]
  have h := sumZ_dvd (p := p) (f := fun i => sumZ (fun j => A r j * cpM p n A j i) n * y i) (g := fun i => y i * dl i r) n (fun i hi => by
    have h1 := cpM_mul hp hA hr (i := i) hr'
    have h2 : sumZ (fun j => A r j * cpM p n A j i) n * y i - y i * dl i r = (sumZ (fun j => A r j * cpM p n A j i) n - dl r i) * y i := by
      rw [Int.sub_mul, Int.mul_comm (y i)]
      congr 2
      unfold dl
      by_cases h : r = i
      · rw [if_pos h, if_pos h.symm]
      · rw [if_neg h, if_neg (Ne.symm h)]
    rw [h2]
    exact Int.dvd_mul_of_dvd_left h1)
  rwa [sum_dl y hr'] at h
theorem au_red (hp : primeB p = true) (hA : ∀ i, Bp p (A i)) (hr : (redGo p n A n).no = n) :
    (redGo p n (auS n A) (n + n)).no = n ∧ ∀ r, r < n → ∀ j, j < n + n → (redGo p n (auS n A) (n + n)).O r j = auO p n A r j := by
  have hpb := primeB_bd hp
  obtain ⟨⟨l, rr⟩, hn⟩ := red_ok (m := n + n) hp (fun r (_ : r < n) => auS_Bp (n := n) (by omega) hA r)
  have rr' : Rref p (n + n) n (auO p n A) (fun i => i) := by
    refine ⟨fun i hi j => ?_, fun i hi => ⟨by omega, ?_, fun j hj => ?_⟩, fun i j hi hj hne => ?_, fun i j h _ => h⟩
    · unfold auO dl
      split
      · split <;> omega
      · exact cpM_Bp hp hA hr i _
    · unfold auO dl; rw [if_pos hi, if_pos rfl]
    · unfold auO dl; rw [if_pos (by omega), if_neg (by omega)]
    · unfold auO dl; rw [if_pos hi, if_neg (Ne.symm hne)]
  have hN : ∀ x, Null p (n + n) (redGo p n (auS n A) (n + n)).no (redGo p n (auS n A) (n + n)).O x ↔ Null p (n + n) n (auO p n A) x := by
    intro x
    rw [hn x]
    have hC := fun r (hr' : r < n) => cpM_app hp hA hr (fun i => x (n + i)) hr'
    constructor
    · intro h
      have hz : Null p n n A (fun j => x j + sumZ (fun i => cpM p n A j i * x (n + i)) n) := by
        intro r hr'
        have h1 := h r hr'
        unfold Z at h1 ⊢
        rw [au_dot hr'] at h1
        have h2 := hC r hr'
        have e : dot n (A r) (fun j => x j + sumZ (fun i => cpM p n A j i * x (n + i)) n) = dot n (A r) x + sumZ (fun j => A r j * sumZ (fun i => cpM p n A j i * x (n + i)) n) n := by
          unfold dot
          rw [← sumZ_add]
          exact sumZ_congr n (fun j _ => Int.mul_add _ _ _)
        rw [e]
        have := Int.dvd_add h1 h2
        rwa [show dot n (A r) x + x (n + r) + (sumZ (fun j => A r j * sumZ (fun i => cpM p n A j i * x (n + i)) n) n - x (n + r)) = dot n (A r) x + sumZ (fun j => A r j * sumZ (fun i => cpM p n A j i * x (n + i)) n) n by omega] at this
      intro r hr'
      unfold Z
      rw [auO_dot hr']
      exact full_null hp hA hr hz hr'
    · intro h r hr'
      unfold Z
      rw [au_dot hr']
      have h2 := hC r hr'
      have h1 : p ∣ dot n (A r) x + sumZ (fun j => A r j * sumZ (fun i => cpM p n A j i * x (n + i)) n) n := by
        unfold dot
        rw [← sumZ_add]
        have := sumZ_dvd (p := p) (f := fun j => A r j * x j + A r j * sumZ (fun i => cpM p n A j i * x (n + i)) n) (g := fun _ => 0) n (fun j hj => by
          have h3 := h j hj
          unfold Z at h3
          rw [auO_dot hj] at h3
          rw [← Int.mul_add, Int.sub_zero]
          exact Int.dvd_mul_of_dvd_right h3)
        rwa [sumZ_zero, Int.sub_zero] at this
      have := Int.dvd_sub h1 h2
      rwa [show dot n (A r) x + sumZ (fun j => A r j * sumZ (fun i => cpM p n A j i * x (n + i)) n) n - (sumZ (fun j => A r j * sumZ (fun i => cpM p n A j i * x (n + i)) n) n - x (n + r)) = dot n (A r) x + x (n + r) by omega] at this
  obtain ⟨h1, h2⟩ := rref_unique (by omega) rr rr' hN
  exact ⟨h1, fun r hr' j hj => h2 r (by omega) j hj⟩
end
def ρ2x (a b : Nat) : Nat → Nat → Nat × Nat := fun k i => bif Nat.beq k a then (b, i) else (k, i)
section
variable {n i j r : Nat}
theorem w02 : (if r < i then n + n else n) = (if r < i then n + n else if r = i then n + 0 else n) := by
  by_cases h : r < i
  · rw [if_pos h, if_pos h]
  · rw [if_neg h, if_neg h]; split <;> rfl
theorem w20 : (if r < i then n + n else if r = i then n + n else n) = (if r < i + 1 then n + n else n) := by
  by_cases h : r < i
  · rw [if_pos h, if_pos (by omega)]
  · rw [if_neg h]
    by_cases h2 : r = i
    · rw [if_pos h2, if_pos (by omega)]
    · rw [if_neg h2, if_neg (by omega)]
theorem w2s (h : r ≠ i) : (if r < i then n + n else if r = i then n + j else n) = (if r < i then n + n else if r = i then n + (j + 1) else n) := by
  rw [if_neg h, if_neg h]
theorem w2j : (if i < i then n + n else if i = i then n + j else n) = n + j := by rw [if_neg (Nat.lt_irrefl i), if_pos rfl]
theorem w2i : (if i < i then n + n else if i = i then n + (j + 1) else n) = n + j + 1 := by rw [w2j]; rfl
theorem f02 {A : Nat → Nat → Int} {z : Nat} (hz : z < if r < i then n + n else n) : mixG (auS n A) A i r z = mixG (auS n A) A (i + 1) r z := by
  by_cases h : r < i
  · rw [mixG_lt _ _ h, mixG_lt _ _ (by omega)]
  · rw [if_neg h] at hz
    rw [mixG_ge _ _ (by omega)]
    by_cases h2 : r = i
    · rw [mixG_lt _ _ (by omega)]; unfold auS; rw [if_pos hz]
    · rw [mixG_ge _ _ (by omega)]
theorem auS_at {A : Nat → Nat → Int} : dl i j = auS n A i (n + j) := by unfold auS; rw [if_neg (by omega), Nat.add_sub_cancel_left]
end
end Go.Am

set_option linter.unusedVariables false
set_option linter.unusedSimpArgs false
namespace Go.Am
def lk : List (Nat × Nat) → Nat → Nat
  | [], k => k
  | (a, b) :: r, k => bif Nat.beq k a then b else lk r k
def ρL (m : List (Nat × Nat)) (kg c s : Nat) : Nat → Nat → Nat × Nat := fun k i => bif Nat.beq k kg && Nat.beq i c then (s, 0) else (lk m k, i)
def keysOf : OL → List Nat
  | [] => []
  | (k, _) :: r => k :: keysOf r
def okL (m : List (Nat × Nat)) (s : Nat) (ks : List Nat) : Bool := ks.all fun a => !Nat.beq (lk m a) s && ks.all fun b => Nat.beq a b || !Nat.beq (lk m a) (lk m b)
theorem liveAll_keys {P : Nat → Nat → AV → AV → Prop} : ∀ {ol : OL}, (∀ k i sh c, k ∈ keysOf ol → P k i sh c) → liveAll P ol
  | [], _ => trivial
  | (k, .one sh c) :: r, h => ⟨h k 0 sh c (by simp [keysOf]), liveAll_keys (fun k i sh c hk => h k i sh c (by simp [keysOf, hk]))⟩
  | (k, .many f) :: r, h => ⟨fun i sh c _ => h k i sh c (by simp [keysOf]), liveAll_keys (fun k i sh c hk => h k i sh c (by simp [keysOf, hk]))⟩
  | (k, .gone) :: r, h => liveAll_keys (ol := r) (fun k i sh c hk => h k i sh c (by simp [keysOf, hk]))
theorem emb_L {m : List (Nat × Nat)} {kg c s : Nat} {env' env : Env} {ol' ol : OL} (hk : okL m s (keysOf ol) = true) (henv : envAll (fun t v => MtE (vwOf (ρL m kg c s) ol' ol) v (get env' t)) env)
    (hlive : liveAll (fun k i sh c_1 => match ol'.at_ (ρL m kg c s k i).1 (ρL m kg c s k i).2 with | some (sh', c') => sh' = sh ∧ ssh sh c_1 ∧ Mt (vwOf (ρL m kg c s) ol' ol) c_1 c' | none => False) ol) : Emb (ρL m kg c s) env' ol' env ol := by
  refine ⟨henv, hlive, liveAll_keys (fun k i _ _ hki => liveAll_keys (fun k2 i2 _ _ hk2 he => ?_))⟩
  simp only [okL, List.all_eq_true, Bool.and_eq_true, Bool.or_eq_true, Bool.not_eq_true'] at hk
  have ha := hk k hki
  have hb := hk k2 hk2
  unfold ρL at he
  cases h1 : (Nat.beq k kg && Nat.beq i c) <;> cases h2 : (Nat.beq k2 kg && Nat.beq i2 c) <;> rw [h1, h2] at he <;> simp only [cond_true, cond_false, Prod.mk.injEq] at he
  · refine ⟨?_, he.2⟩
    rcases ha.2 k2 hk2 with h | h
    · exact Nat.eq_of_beq_eq_true h
    · rw [he.1, Nat.beq_refl] at h; cases h
  · have := ha.1
    rw [he.1, Nat.beq_refl] at this; cases this
  · have := hb.1
    rw [← he.1, Nat.beq_refl] at this; cases this
  · simp only [Bool.and_eq_true] at h1 h2
    exact ⟨(Nat.eq_of_beq_eq_true h1.1).trans (Nat.eq_of_beq_eq_true h2.1).symm, (Nat.eq_of_beq_eq_true h1.2).trans (Nat.eq_of_beq_eq_true h2.2).symm⟩
theorem ρL_ne {m : List (Nat × Nat)} {kg c s k i : Nat} (h : k ≠ kg ∨ i ≠ c) : ρL m kg c s k i = (lk m k, i) := by
  unfold ρL
  rcases h with h | h
  · rw [beq_ff h]; rfl
  · rw [beq_ff h, Bool.and_false]; rfl
theorem ρL_eq {m : List (Nat × Nat)} {kg c s : Nat} : ρL m kg c s kg c = (s, 0) := by
  unfold ρL
  rw [Nat.beq_refl, Nat.beq_refl]; rfl
theorem emb_two {m : List (Nat × Nat)} {kg c s ka fa kb N e : Nat} {wA wB : Nat → Nat} {FA FB : Nat → Nat → Int} {gA gB : Nat → AV} {env' env : Env} {ol' : OL} (hne : ka ≠ kg ∧ fa ≠ kg ∧ kb ≠ kg) (hk : okL m s [ka, fa, kb, kg] = true)
    (hA1 : ol'.at_ (lk m ka) 0 = some (ZR N, .arr N gA)) (hgA : ∀ j, j < N → gA j = .own (lk m fa) j (wA j) e) (hA2 : ∀ r, r < N → ∃ C, ol'.at_ (lk m fa) r = some (Z64 (wA r), C) ∧ ∀ V : Vw, Mt V (C64 (wA r) (FA r)) C)
    (hB1 : ol'.at_ (lk m kb) 0 = some (ZR N, .arr N gB)) (hgB : ∀ j, j < N → j ≠ c → gB j = .own (lk m kg) j (wB j) e) (hgc : c < N → gB c = .own s 0 (wB c) e)
    (hB2 : c < N → ∃ C, ol'.at_ s 0 = some (Z64 (wB c), C) ∧ ∀ V : Vw, Mt V (C64 (wB c) (FB c)) C) (hB3 : ∀ r, r < N → r ≠ c → ∃ C, ol'.at_ (lk m kg) r = some (Z64 (wB r), C) ∧ ∀ V : Vw, Mt V (C64 (wB r) (FB r)) C)
    (henv : envAll (fun t v => MtE (vwOf (ρL m kg c s) ol' [(ka, .one (ZR N) (CO fa N wA e)), (fa, .many (famF N wA FA)), (kb, .one (ZR N) (CO kg N wB e)), (kg, .many (famF N wB FB))]) v (get env' t)) env) :
    Emb (ρL m kg c s) env' ol' env [(ka, .one (ZR N) (CO fa N wA e)), (fa, .many (famF N wA FA)), (kb, .one (ZR N) (CO kg N wB e)), (kg, .many (famF N wB FB))] := by
  have d1 : OL.has [(ka, .one (ZR N) (CO fa N wA e)), (fa, .many (famF N wA FA)), (kb, .one (ZR N) (CO kg N wB e)), (kg, .many (famF N wB FB))] fa = true := by simp [OL.has]
  have d2 : OL.has [(ka, .one (ZR N) (CO fa N wA e)), (fa, .many (famF N wA FA)), (kb, .one (ZR N) (CO kg N wB e)), (kg, .many (famF N wB FB))] kg = true := by simp [OL.has]
  refine emb_L hk henv ⟨?_, fun r sh cc h => ?_, ?_, fun r sh cc h => ?_, trivial⟩
  · dsimp only
    rw [ρL_ne (.inl hne.1)]
    dsimp only
    rw [hA1]
    exact ⟨rfl, ⟨rfl, fun _ => trivial⟩, rfl, fun j hj => by rw [hgA j hj]; exact ⟨ρL_ne (.inl hne.2.1), rfl, rfl, d1⟩⟩
  · obtain ⟨hr, rfl, rfl⟩ := famF_some h
    skip
    rw [ρL_ne (.inl hne.2.1)]
    dsimp only
    obtain ⟨C, q1, q2⟩ := hA2 r hr
    rw [q1]
    exact ⟨rfl, ⟨rfl, fun _ => trivial⟩, q2 _⟩
  · dsimp only
    rw [ρL_ne (.inl hne.2.2)]
    dsimp only
    rw [hB1]
    refine ⟨rfl, ⟨rfl, fun _ => trivial⟩, rfl, fun j hj => ?_⟩
    by_cases hjc : j = c
    · subst hjc
      rw [hgc hj]
      exact ⟨ρL_eq, rfl, rfl, d2⟩
    · rw [hgB j hj hjc]
      exact ⟨ρL_ne (.inr hjc), rfl, rfl, d2⟩
  · obtain ⟨hr, rfl, rfl⟩ := famF_some h
    by_cases hrc : r = c
    · subst hrc
      skip
      rw [ρL_eq]
      dsimp only
      obtain ⟨C, q1, q2⟩ := hB2 hr
      rw [q1]
      exact ⟨rfl, ⟨rfl, fun _ => trivial⟩, q2 _⟩
    · skip
      rw [ρL_ne (.inr hrc)]
      dsimp only
      obtain ⟨C, q1, q2⟩ := hB3 r hr hrc
      rw [q1]
      exact ⟨rfl, ⟨rfl, fun _ => trivial⟩, q2 _⟩
theorem emb_three {m : List (Nat × Nat)} {kg c s ko kf kr N e : Nat} {w : Nat → Nat} {F : Nat → Nat → Int} {g : Nat → AV} {sh3 c3 : AV} {env' env : Env} {ol' : OL} (hne : ko ≠ kg ∧ kf ≠ kg ∧ kr ≠ kg) (hk : okL m s [ko, kf, kr] = true)
    (h1 : ol'.at_ (lk m ko) 0 = some (ZR N, .arr N g)) (hg : ∀ j, j < N → g j = .own (lk m kf) j (w j) e) (h2 : ∀ r, r < N → ∃ C, ol'.at_ (lk m kf) r = some (Z64 (w r), C) ∧ ∀ V : Vw, Mt V (C64 (w r) (F r)) C)
    (h4 : ∃ C, ol'.at_ (lk m kr) 0 = some (sh3, C) ∧ ssh sh3 c3 ∧ ∀ V : Vw, Mt V c3 C)
    (henv : envAll (fun t v => MtE (vwOf (ρL m kg c s) ol' [(ko, .one (ZR N) (CO kf N w e)), (kf, .many (famF N w F)), (kr, .one sh3 c3)]) v (get env' t)) env) :
    Emb (ρL m kg c s) env' ol' env [(ko, .one (ZR N) (CO kf N w e)), (kf, .many (famF N w F)), (kr, .one sh3 c3)] := by
  have d1 : OL.has [(ko, .one (ZR N) (CO kf N w e)), (kf, .many (famF N w F)), (kr, .one sh3 c3)] kf = true := by simp [OL.has]
  refine emb_L hk henv ⟨?_, fun r sh cc h => ?_, ?_, trivial⟩
  · dsimp only
    rw [ρL_ne (.inl hne.1)]
    dsimp only
    rw [h1]
    exact ⟨rfl, ⟨rfl, fun _ => trivial⟩, rfl, fun j hj => by rw [hg j hj]; exact ⟨ρL_ne (.inl hne.2.1), rfl, rfl, d1⟩⟩
  · obtain ⟨hr, rfl, rfl⟩ := famF_some h
    rw [ρL_ne (.inl hne.2.1)]
    dsimp only
    obtain ⟨C, q1, q2⟩ := h2 r hr
    rw [q1]
    exact ⟨rfl, ⟨rfl, fun _ => trivial⟩, q2 _⟩
  · dsimp only
    rw [ρL_ne (.inl hne.2.2)]
    dsimp only
    obtain ⟨C, q1, q2, q3⟩ := h4
    rw [q1]
    exact ⟨rfl, q2, q3 _⟩
def colF (C : Nat → Nat → Int) (i : Nat) : Nat → Nat → Int := fun r z => if z < i then C r z else 0
def colG (C : Nat → Nat → Int) (i k : Nat) : Nat → Nat → Int := fun r z => if z < i ∨ (z = i ∧ r < k) then C r z else 0
theorem colG_0 {C : Nat → Nat → Int} {i r z : Nat} : colF C i r z = colG C i 0 r z := by
  unfold colF colG
  by_cases h : z < i
  · rw [if_pos h, if_pos (.inl h)]
  · rw [if_neg h, if_neg (by omega)]
theorem colG_n {C : Nat → Nat → Int} {i n r z : Nat} (hr : r < n) : colG C i n r z = colF C (i + 1) r z := by
  unfold colF colG
  by_cases h : z < i ∨ (z = i ∧ r < n)
  · rw [if_pos h, if_pos (by omega)]
  · rw [if_neg h, if_neg (by omega)]
theorem colG_set {C : Nat → Nat → Int} {i k z : Nat} : upd (colG C i k k) i (C k i) z = colG C i (k + 1) k z := by
  unfold upd colG
  by_cases h : z = i
  · subst h; rw [if_pos rfl, if_pos (.inr ⟨rfl, by omega⟩)]
  · rw [if_neg h]
    by_cases h2 : z < i
    · rw [if_pos (.inl h2), if_pos (.inl h2)]
    · rw [if_neg (by omega), if_neg (by omega)]
theorem colG_oth {C : Nat → Nat → Int} {i k r z : Nat} (h : r ≠ k) : colG C i k r z = colG C i (k + 1) r z := by
  unfold colG
  by_cases h2 : z < i ∨ (z = i ∧ r < k)
  · rw [if_pos h2, if_pos (by omega)]
  · rw [if_neg h2, if_neg (by omega)]
theorem fam_cset {x : Fam} {l : OL} {C : Nat → Nat → Int} {n N i k r : Nat} {v : Int} (hr : r < N) (hv : v = C k i) :
    ∃ D, (OL.set ((905, x) :: (1, .many (famF N (fun _ => n) (colG C i k))) :: l) 1 k (some (Z64 n, C64 n (upd (colG C i k k) i v)))).at_ 1 r = some (Z64 n, D) ∧ ∀ V : Vw, Mt V (C64 n (colG C i (k + 1) r)) D := by
  subst hv
  rw [OL.at_set]
  by_cases h : r = k
  · subst h
    rw [if_pos ⟨rfl, rfl⟩]
    exact ⟨_, rfl, fun V => mt_vec (fun j _ => colG_set)⟩
  · rw [if_neg (fun q => h q.2)]
    refine ⟨C64 n (colG C i k r), ?_, fun V => mt_vec (fun j _ => colG_oth h)⟩
    show famF N (fun _ => n) (colG C i k) r = _
    exact famF_at (w := fun _ => n) hr
theorem w1s {n j r : Nat} (h : r ≠ j) : (if r < j then n + 1 else n) = (if r < j + 1 then n + 1 else n) := by
  by_cases h2 : r < j
  · rw [if_pos h2, if_pos (by omega)]
  · rw [if_neg h2, if_neg (by omega)]
theorem mix1s {α : Type} {F G : Nat → α} {j r : Nat} (h : r ≠ j) : mixG F G j r = mixG F G (j + 1) r := by
  by_cases h2 : r < j
  · rw [mixG_lt _ _ h2, mixG_lt _ _ (by omega)]
  · rw [mixG_ge _ _ (by omega), mixG_ge _ _ (by omega)]
end Go.Am

set_option linter.unusedVariables false
set_option linter.unusedSimpArgs false
namespace Go.Am
section
variable {p : Int} {n : Nat} {A : Nat → Nat → Int} {b : Nat → Int}
def gB (n : Nat) (A : Nat → Nat → Int) (b : Nat → Int) : Nat → Nat → Int := fun r j => if j < n then A r j else b r
end
end Go.Am

set_option linter.unusedVariables false
set_option linter.unusedSimpArgs false
namespace Go.Am
section
variable {p : Int} {C W : Nat → Nat → Int} {i k l r z n : Nat}
end
end Go.Am

set_option linter.unusedVariables false
set_option linter.unusedSimpArgs false
namespace Go.Am
section
variable {p : Int} {m no c i z : Nat} {O : Nat → Nat → Int} {l : Nat → Nat}
end
end Go.Am

set_option linter.unusedVariables false
set_option linter.unusedSimpArgs false
namespace Go.Am
end Go.Am

set_option linter.unusedVariables false
set_option linter.unusedSimpArgs false
namespace Go.Am
section
variable {p : Int} {n : Nat} {A : Nat → Nat → Int}
theorem dot_sb (f x y : Nat → Int) (m : Nat) : dot m f (fun j => x j - y j) = dot m f x - dot m f y := by
  unfold dot
  induction m with
  | zero => rfl
  | succ m ih =>
    show sumZ (fun j => f j * (x j - y j)) m + f m * (x m - y m) = (sumZ (fun j => f j * x j) m + f m * x m) - (sumZ (fun j => f j * y j) m + f m * y m)
    rw [ih, Int.mul_sub]; omega
theorem cpM_left (hp : primeB p = true) (hA : ∀ i, Bp p (A i)) (hr : (redGo p n A n).no = n) {j s : Nat} (hj : j < n) (hs : s < n) : p ∣ sumZ (fun i => cpM p n A j i * A i s) n - dl j s := by
  refine full_null hp hA hr (x := fun j => sumZ (fun i => cpM p n A j i * A i s) n - dl j s) (fun r hr' => ?_) hj
  show p ∣ dot n (A r) _
  rw [dot_sb]
  have h := cpM_app hp hA hr (fun i => A i s) hr'
  have e : dot n (A r) (fun j => dl j s) = A r s := by
    unfold dot
    rw [sumZ_one (c := s) n hs (fun i _ hne => by show A r i * dl i s = 0; unfold dl; rw [if_neg hne, Int.mul_zero])]
    show A r s * dl s s = _
    unfold dl; rw [if_pos rfl, Int.mul_one]
  rw [e]
  exact h
theorem cpM_symm (hp : primeB p = true) (hA : ∀ i, Bp p (A i)) (hr : (redGo p n A n).no = n) (hs : ∀ i j, i < n → j < n → A i j = A j i) {i j : Nat} (hi : i < n) (hj : j < n) : cpM p n A i j = cpM p n A j i := by
  have h := full_null hp hA hr (x := fun j => cpM p n A i j - cpM p n A j i) (fun r hr' => ?_) hj
  · have b1 := cpM_Bp hp hA hr i j
    have b2 := cpM_Bp hp hA hr j i
    obtain ⟨k, hk⟩ := h
    have hk : cpM p n A i j - cpM p n A j i = p * k := hk
    have hp0 := primeB_bd hp
    have : k = 0 := by
      apply Classical.byContradiction
      intro h0
      rcases Int.lt_or_gt_of_ne h0 with h1 | h1
      · have : p * k ≤ p * (-1) := Int.mul_le_mul_of_nonneg_left (by omega) (by omega)
        omega
      · have : p * 1 ≤ p * k := Int.mul_le_mul_of_nonneg_left (by omega) (by omega)
        omega
    rw [this] at hk
    omega
  · show p ∣ dot n (A r) _
    rw [dot_sb]
    have h1 := cpM_mul hp hA hr (i := i) hr'
    have h2 := cpM_left hp hA hr hi hr'
    have e : dot n (A r) (fun j => cpM p n A i j) = sumZ (fun j => cpM p n A i j * A j r) n := sumZ_congr n (fun z hz => by rw [hs r z hr' hz, Int.mul_comm])
    rw [e]
    show p ∣ _ - sumZ (fun j => A r j * cpM p n A j i) n
    have e2 : dl i r = dl r i := by unfold dl; by_cases h : i = r; (subst h; rfl); rw [if_neg h, if_neg (Ne.symm h)]
    rw [e2] at h2
    have := Int.dvd_sub h2 h1
    rw [show sumZ (fun i_1 => cpM p n A i i_1 * A i_1 r) n - dl r i - (sumZ (fun j => A r j * cpM p n A j i) n - dl r i) = sumZ (fun j => cpM p n A i j * A j r) n - sumZ (fun j => A r j * cpM p n A j i) n by omega] at this
    exact this
end
def prF (p n : Int) (T : Nat → Nat → Nat → Int) (fo : Nat → Int) (q m : Int) (S : Nat → Nat → Nat → Int) (go : Nat → Int) (Y : Nat → Nat → Int) : Nat → AV
  | 0 => algA p n T fo
  | 1 => algA q m S go
  | 2 => matA Y
  | _ => .any
abbrev prA (p n : Int) (T : Nat → Nat → Nat → Int) (fo : Nat → Int) (q m : Int) (S : Nat → Nat → Nat → Int) (go : Nat → Int) (Y : Nat → Nat → Int) : AV := .sct 3 (prF p n T fo q m S go Y)
section
variable {p n q m p' n' q' m' : Int} {T S T' S' : Nat → Nat → Nat → Int} {fo go fo' go' : Nat → Int} {Y Y' : Nat → Nat → Int} {V : Vw}
theorem closed_mat : (matA Y).closed := fun _ _ => trivial
theorem closed_pr : (prA p n T fo q m S go Y).closed := by
  intro i
  match i with
  | 0 => exact closed_alg
  | 1 => exact closed_alg
  | 2 => exact closed_mat
  | n + 3 => exact trivial
theorem m_pr : MtE V (prA p n T fo q m S go Y) (prA p n T fo q m S go Y) := Mt_closed (V := V) closed_pr (fun _ _ _ => trivial) (by simp)
theorem m_cpr : MtE V (.cptr (prA p n T fo q m S go Y)) (.cptr (prA p n T fo q m S go Y)) := Mt_closed (V := V) (v := .cptr (prA p n T fo q m S go Y)) closed_pr (fun _ _ _ => trivial) (by simp)
theorem ssh_pr : ssh (prA p n T fo q m S go Y) (prA p' n' T' fo' q' m' S' go' Y') := by
  refine ⟨rfl, fun i => ?_⟩
  match i with
  | 0 => exact ssh_alg
  | 1 => exact ssh_alg
  | 2 => exact ssh_mat
  | n + 3 => exact trivial
theorem prF_congr {f : Nat → AV} (h0 : f 0 = algA p n T fo) (h1 : f 1 = algA q m S go) (h2 : f 2 = matA Y) (h4 : ∀ i, f (i + 3) = .any) : AV.sct 3 f = prA p n T fo q m S go Y := by
  refine congrArg (AV.sct 3) (funext fun i => ?_)
  match i with
  | 0 => exact h0
  | 1 => exact h1
  | 2 => exact h2
  | i + 3 => exact h4 i
theorem put_pr0 : put (prA p n T fo q m S go Y) [0] (algA p' n' T' fo') = prA p' n' T' fo' q m S go Y := prF_congr put_nil rfl rfl (fun _ => rfl)
theorem put_pr1 : put (prA p n T fo q m S go Y) [1] (algA p' n' T' fo') = prA p n T fo p' n' T' fo' Y := prF_congr rfl put_nil rfl (fun _ => rfl)
theorem put_pr2 : put (prA p n T fo q m S go Y) [2] (matA Y') = prA p n T fo q m S go Y' := prF_congr rfl rfl put_nil (fun _ => rfl)
variable {at_ : Nat → Nat → Option (AV × AV)} {d : Nat}
theorem exp_pr : exp at_ (d + 1) (prA p n T fo q m S go Y) = prA p n T fo q m S go Y := by
  simp only [exp, expS, AV.sct.injEq, true_and]
  funext i
  match i with
  | 0 =>
    show expS _ (algA p n T fo) = algA p n T fo
    simp only [expS, AV.sct.injEq, true_and]
    funext j
    match j with
    | 0 => rfl
    | 1 => rfl
    | 2 => rfl
    | 3 => rfl
    | j + 4 => rfl
  | 1 =>
    show expS _ (algA q m S go) = algA q m S go
    simp only [expS, AV.sct.injEq, true_and]
    funext j
    match j with
    | 0 => rfl
    | 1 => rfl
    | 2 => rfl
    | 3 => rfl
    | j + 4 => rfl
  | 2 => rfl
  | n + 3 => rfl
end
def kdP (i : Nat) : IntKind := if i < 224 then kdA i else if i < 448 then kdA (i - 224) else .u8
def ypA (z : Nat → Int) (i j : Nat) : Int := if i < 6 ∧ j < 6 then z (448 + (i * 6 + j)) else 0
theorem len224 {α : Type} (a b : α) : (a :: a :: List.replicate 222 b).length = 224 := by rw [List.length_cons, List.length_cons, List.length_replicate]
theorem kd_pair {P : Program} {a b : TypeId} (h1 : P.underlying a = some (.int .i64)) (h2 : P.underlying b = some (.int .u8)) (i : Nat) (hi : i < 484) (u : TypeId)
    (hu : ((a :: a :: List.replicate 222 b) ++ ((a :: a :: List.replicate 222 b) ++ List.replicate 36 b))[i]? = some u) : P.underlying u = some (.int (kdP i)) := by
  unfold kdP
  have e := len224 a b
  have k := fun i (h : i < 224) u hu => kd_alg (a := a) (b := b) h1 h2 i h u hu
  generalize (a :: a :: List.replicate 222 b) = L at hu e k
  by_cases h : i < 224
  · rw [if_pos h]
    rw [List.getElem?_append_left (by omega)] at hu
    exact k i h u hu
  · rw [if_neg h]
    rw [List.getElem?_append_right (by omega), e] at hu
    by_cases h3 : i < 448
    · rw [if_pos h3]
      rw [List.getElem?_append_left (by omega)] at hu
      exact k (i - 224) (by omega) u hu
    · rw [if_neg h3]
      rw [List.getElem?_append_right (by omega), e] at hu
      exact kd_rep h2 _ (show i - 224 - 224 < 36 by omega) u hu
section
variable {z : Nat → Int}
theorem FL_alg_seg {K : Kx} {f : Nat → Value} {o : Nat} (h : ∀ i, i < 224 → f (o + i) = .int (kdA i) (z i)) : FL K (algA (z 0) (z 1) (tbA z) (foA z)) (segF f o 224) := by
  refine ⟨fun i => match i with | 0 => segF f o 1 | 1 => segF f (o + 1) 1 | 2 => segF f (o + 2) 216 | 3 => segF f (o + 218) 6 | _ => [], ?_, fun i hi => ?_⟩
  · show segF f o (((1 + 1) + 216) + 6) = _
    rw [seg_add, seg_add, seg_add]
    rfl
  · match i, hi with
    | 0, _ => exact FL_int_seg (h 0 (by omega))
    | 1, _ => exact FL_int_seg (h 1 (by omega))
    | 2, _ => exact FL_tab_seg (fun i j k hi hj hk => by
        rw [show o + 2 + (i * 36 + (j * 6 + k)) = o + (2 + (i * 36 + (j * 6 + k))) by omega, h (2 + (i * 36 + (j * 6 + k))) (by omega)]
        unfold kdA tbA
        rw [if_neg (by omega), if_pos ⟨hi, hj, hk⟩])
    | 3, _ => exact FL_vec_seg (fun k hk => by
        rw [show o + 218 + k = o + (218 + k) by omega, h (218 + k) (by omega)]
        unfold kdA foA
        rw [if_neg (by omega), if_pos hk])
theorem pr_in {K : Kx} {cs : Array Value} (hs : cs.size = 484) (h : ∀ i, i < 484 → cs.getD i undef = .int (kdP i) (z i) ∧ (kdP i).has (z i)) :
    VR K (prA (z 0) (z 1) (tbA z) (foA z) (z 224) (z 225) (tbA (fun i => z (224 + i))) (foA (fun i => z (224 + i))) (ypA z)) (.agg cs) := by
  refine ⟨cs, rfl, ?_⟩
  rw [toList_seg, hs]
  have h : ∀ i, i < 484 → (fun i => cs.getD i undef) i = .int (kdP i) (z i) ∧ (kdP i).has (z i) := h
  generalize (fun i => cs.getD i undef) = f at h ⊢
  refine ⟨fun i => match i with | 0 => segF f 0 224 | 1 => segF f 224 224 | 2 => segF f 448 36 | _ => [], ?_, fun i hi => ?_⟩
  · show segF f 0 ((224 + 224) + 36) = _
    rw [seg_add, seg_add]
    rfl
  · match i, hi with
    | 0, _ => exact FL_alg_seg (fun i hi => by rw [Nat.zero_add, (h i (by omega)).1]; unfold kdP; rw [if_pos hi])
    | 1, _ => exact FL_alg_seg (z := fun i => z (224 + i)) (fun i hi => by rw [(h (224 + i) (by omega)).1]; unfold kdP; rw [if_neg (by omega), if_pos (by omega), show 224 + i - 224 = i by omega])
    | 2, _ => exact FL_arr_seg (n := 6) (s := 6) (fun i hi => FL_vec_seg (fun j hj => by
        rw [show 448 + i * 6 + j = 448 + (i * 6 + j) by omega, (h (448 + (i * 6 + j)) (by omega)).1]
        unfold kdP ypA
        rw [if_neg (by omega), if_neg (by omega), if_pos ⟨hi, hj⟩])) rfl
theorem pr_h0 (h : ∀ i, i < 484 → (kdP i).has (z i)) : ∀ i, i < 224 → (kdA i).has (z i) := fun i hi => by have := h i (by omega); unfold kdP at this; rwa [if_pos hi] at this
theorem pr_h1 (h : ∀ i, i < 484 → (kdP i).has (z i)) : ∀ i, i < 224 → (kdA i).has (z (224 + i)) := fun i hi => by
  have := h (224 + i) (by omega); unfold kdP at this; rwa [if_neg (by omega), if_pos (by omega), show 224 + i - 224 = i by omega] at this
theorem pr_RV (h : ∀ i, i < 484 → (kdP i).has (z i)) (i : Nat) : RV (ypA z i) where
  b := fun j => by
    unfold ypA
    split
    · have := h (448 + (i * 6 + j)) (by omega)
      unfold kdP at this
      rw [if_neg (by omega), if_neg (by omega)] at this
      exact has_u8 this
    · omega
  z := fun j hj => by unfold ypA; rw [if_neg (by omega)]
end
section
variable {p : Int} {n m : Nat} {T S : Nat → Nat → Nat → Int} {fo go : Nat → Int} {Y : Nat → Nat → Int}
def zvP (p : Int) (n m : Nat) (Y : Nat → Nat → Int) (i : Nat) : Prop := smP p (m : Int) (Y i) ∧ (n ≤ i → eqN 6 (Y i) (fun _ => 0))
def prS (p : Int) (n m : Nat) (T S : Nat → Nat → Nat → Int) (Y : Nat → Nat → Int) : Prop :=
  ((∀ i, i < 6 → zvP p n m Y i) ∧ ∀ i, i < n → (∀ j, j < n → eqN 6 (apF p Y (T i j) n) (timesF p m S (Y i) (Y j))) ∧ ∀ j, j < m → eqN 6 (timesF p m S (Y i) (eF j)) (timesF p m S (eF j) (Y i))) ∧ eqN 6 (apF p Y (uF p n T) n) (uF p m S)
def prI (p : Int) (n m : Nat) (T S : Nat → Nat → Nat → Int) (Y : Nat → Nat → Int) : Prop :=
  (∀ i, i < 6 → (zvP p n m Y i ∧ ∀ j, j < m → eqN 6 (timesF p m S (Y i) (eF j)) (timesF p m S (eF j) (Y i))) ∧ ∀ j, j < 6 → eqN 6 (apF p Y (T i j) 6) (timesF p m S (Y i) (Y j))) ∧ eqN 6 (apF p Y (uF p n T) 6) (uF p m S)
noncomputable instance {i : Nat} : Decidable (zvP p n m Y i) := Classical.propDecidable _
noncomputable instance : Decidable (prS p n m T S Y) := Classical.propDecidable _
noncomputable instance : Decidable (prI p n m T S Y) := Classical.propDecidable _
theorem apF_more (hp : 0 < p) {v : Nat → Int} {k : Nat} (hv : ∀ i, k ≤ i → v i = 0) : ∀ d, apF p Y v (k + d) = apF p Y v k
  | 0 => rfl
  | d + 1 => by
    show addF p (apF p Y v (k + d)) (Y (k + d)) (v (k + d)) = _
    rw [apF_more hp hv d, hv (k + d) (by omega)]
    funext z
    unfold addF
    rw [Int.zero_mul, Int.add_zero]
    have := apF_Bp hp Y v k z
    exact Int.emod_eq_of_lt this.1 this.2
theorem apF_six (hp : 0 < p) {v : Nat → Int} {k : Nat} (hk : k ≤ 6) (hv : ∀ i, k ≤ i → v i = 0) : apF p Y v 6 = apF p Y v k := by
  rw [show 6 = k + (6 - k) by omega]; exact apF_more hp hv _
theorem apF_nil (hp : 0 < p) {v : Nat → Int} (hv : ∀ i, v i = 0) (k : Nat) : apF p Y v k = fun _ => 0 := by
  have := apF_more (Y := Y) hp (k := 0) (fun i _ => hv i) k
  rw [Nat.zero_add] at this
  exact this
theorem times_zl {v w : Nat → Int} (h : ∀ i, i < m → v i = 0) : timesF p m S v w = fun _ => 0 := by
  funext k
  unfold timesF
  split
  · rw [sumZ_congr (g := fun _ => 0) m (fun i hi => ?_), sumZ_zero, Int.zero_emod]
    unfold rowS
    rw [sumZ_congr (g := fun _ => 0) m (fun j hj => ?_), sumZ_zero]
    unfold tm; rw [h i hi, Int.zero_mul, Int.zero_mul]
  · rfl
theorem times_zr {v w : Nat → Int} (h : ∀ i, i < m → w i = 0) : timesF p m S v w = fun _ => 0 := by
  funext k
  unfold timesF
  split
  · rw [sumZ_congr (g := fun _ => 0) m (fun i hi => ?_), sumZ_zero, Int.zero_emod]
    unfold rowS
    rw [sumZ_congr (g := fun _ => 0) m (fun j hj => ?_), sumZ_zero]
    unfold tm; rw [h j hj, Int.mul_zero, Int.zero_mul]
  · rfl
theorem uF_z {i : Nat} (h : n ≤ i) : uF p n T i = 0 := by
  unfold uF
  split
  · unfold cutF; rw [if_neg (by omega)]
  · rfl
theorem pr_iff (h : VN p n T fo) (h2 : VN p m S go) : prI p n m T S Y ↔ prS p n m T S Y := by
  have hp := h.p0
  have hn := h.n6
  have hm := h2.n6
  have hu : apF p Y (uF p n T) 6 = apF p Y (uF p n T) n := apF_six (by omega) hn (fun i hi => uF_z hi)
  have ht : ∀ i j, apF p Y (T i j) 6 = apF p Y (T i j) n := fun i j => apF_six (by omega) hn (fun k hk => h.tz i j k (by omega))
  unfold prI prS
  rw [hu]
  constructor
  · rintro ⟨a, b⟩
    exact ⟨⟨fun i hi => (a i hi).1.1, fun i hi => ⟨fun j hj => ht i j ▸ (a i (by omega)).2 j (by omega), (a i (by omega)).1.2⟩⟩, b⟩
  · rintro ⟨⟨a, b⟩, c⟩
    refine ⟨fun i hi => ?_, c⟩
    have hz : ∀ i, i < 6 → n ≤ i → ∀ k, k < m → Y i k = 0 := fun i hi hn k hk => (a i hi).2 hn k (by omega)
    by_cases h1 : i < n
    · refine ⟨⟨a i hi, (b i h1).2⟩, fun j hj => ?_⟩
      rw [ht]
      by_cases h3 : j < n
      · exact (b i h1).1 j h3
      · rw [apF_nil (by omega) (fun k => h.tz i j k (by omega)), times_zr (hz j hj (by omega))]
        exact fun _ _ => rfl
    · refine ⟨⟨a i hi, fun j hj => ?_⟩, fun j hj => ?_⟩
      · rw [times_zl (hz i hi (by omega)), times_zr (hz i hi (by omega))]
        exact fun _ _ => rfl
      · rw [apF_nil (by omega) (fun k => h.tz i j k (by omega)), times_zl (hz i hi (by omega))]
        exact fun _ _ => rfl
end
end Go.Am

set_option linter.unusedVariables false
set_option linter.unusedSimpArgs false
namespace Go.Am
end Go.Am

set_option linter.unusedVariables false
set_option linter.unusedSimpArgs false
namespace Go.Am
theorem zv_b {p : Int} {n m i : Nat} {Y : Nat → Nat → Int} : (!(decide (smP p (m : Int) (Y i))) || (decide ((i : Int) ≥ (n : Int)) && decide (¬ eqN 6 (Y i) (fun _ => 0)))) = !(decide (zvP p n m Y i)) := by
  by_cases h1 : smP p (m : Int) (Y i)
  · by_cases h2 : n ≤ i
    · by_cases h3 : eqN 6 (Y i) (fun _ => 0)
      · rw [decide_eq_true h1, decide_eq_true (show (i : Int) ≥ (n : Int) by omega), decide_eq_false (not_not_intro h3), decide_eq_true (show zvP p n m Y i from ⟨h1, fun _ => h3⟩)]; rfl
      · rw [decide_eq_true h1, decide_eq_true (show (i : Int) ≥ (n : Int) by omega), decide_eq_true h3, decide_eq_false (show ¬ zvP p n m Y i from fun q => h3 (q.2 h2))]; rfl
    · rw [decide_eq_true h1, decide_eq_false (show ¬ (i : Int) ≥ (n : Int) by omega), decide_eq_true (show zvP p n m Y i from ⟨h1, fun q => absurd q h2⟩)]; rfl
  · rw [decide_eq_false h1, decide_eq_false (show ¬ zvP p n m Y i from fun q => h1 q.1)]; rfl
theorem zv_t {p : Int} {n m i : Nat} {Y : Nat → Nat → Int} (h : (!(decide (smP p (m : Int) (Y i))) || (decide ((i : Int) ≥ (n : Int)) && decide (¬ eqN 6 (Y i) (fun _ => 0)))) = true) : ¬ zvP p n m Y i := by
  rw [zv_b] at h; intro q; rw [decide_eq_true q] at h; cases h
theorem zv_f {p : Int} {n m i : Nat} {Y : Nat → Nat → Int} (h : (!(decide (smP p (m : Int) (Y i))) || (decide ((i : Int) ≥ (n : Int)) && decide (¬ eqN 6 (Y i) (fun _ => 0)))) = false) : zvP p n m Y i := by
  rw [zv_b] at h; apply Classical.byContradiction; intro q; rw [decide_eq_false q] at h; cases h
structure PN (p : Int) (n : Nat) (T : Nat → Nat → Nat → Int) (fo : Nat → Int) (m : Nat) (S : Nat → Nat → Nat → Int) (go : Nat → Int) (Y : Nat → Nat → Int) : Prop where
  v : VN p n T fo
  w : VN p m S go
  c : comN n T
  r : rankT p n T fo = n
  s : rankT p m S go = m
  y : symA m (formT p S go)
  z : prS p n m T S Y
def PR (p n : Int) (T : Nat → Nat → Nat → Int) (fo : Nat → Int) (q m : Int) (S : Nat → Nat → Nat → Int) (go : Nat → Int) (Y : Nat → Nat → Int) : Prop :=
  ∃ a b : Nat, n = (a : Int) ∧ m = (b : Int) ∧ q = p ∧ PN p a T fo b S go Y
noncomputable instance {p n : Int} {T : Nat → Nat → Nat → Int} {fo : Nat → Int} {q m : Int} {S : Nat → Nat → Nat → Int} {go : Nat → Int} {Y : Nat → Nat → Int} : Decidable (PR p n T fo q m S go Y) := Classical.propDecidable _
section
variable {p n q m : Int} {T S : Nat → Nat → Nat → Int} {fo go : Nat → Int} {Y : Nat → Nat → Int}
theorem PR_a (h : ¬ VA p n T fo) : ¬ PR p n T fo q m S go Y := by rintro ⟨a, b, rfl, rfl, rfl, z⟩; exact h z.v.va
theorem PR_b (h : ¬ VA q m S go) : ¬ PR p n T fo q m S go Y := by rintro ⟨a, b, rfl, rfl, rfl, z⟩; exact h z.w.va
theorem PR_c (h : ¬ p = q) : ¬ PR p n T fo q m S go Y := by rintro ⟨a, b, rfl, rfl, rfl, z⟩; exact h rfl
end
theorem PR_iff {p : Int} {n m : Nat} {T S : Nat → Nat → Nat → Int} {fo go : Nat → Int} {Y : Nat → Nat → Int} : PR p (n : Int) T fo p (m : Int) S go Y ↔ PN p n T fo m S go Y := by
  constructor
  · rintro ⟨a, b, h1, h2, _, z⟩
    obtain rfl : n = a := by omega
    obtain rfl : m = b := by omega
    exact z
  · exact fun z => ⟨n, m, rfl, rfl, rfl, z⟩
end Go.Am
namespace Go.Am
theorem nr_pr {p n q m : Int} {T S : Nat → Nat → Nat → Int} {fo go : Nat → Int} {Y : Nat → Nat → Int} : (prA p n T fo q m S go Y).noref := by
  intro i
  match i with
  | 0 => exact nr_alg
  | 1 => exact nr_alg
  | 2 => exact fun _ _ => trivial
  | n + 3 => exact trivial
theorem shift_pr {b : Nat} {p n q m : Int} {T S : Nat → Nat → Nat → Int} {fo go : Nat → Int} {Y : Nat → Nat → Int} : shift b (prA p n T fo q m S go Y) = prA p n T fo q m S go Y :=
  prF_congr shift_alg shift_alg rfl (fun _ => rfl)
end Go.Am

set_option linter.unusedVariables false
set_option linter.unusedSimpArgs false
namespace Go.Am
def us2 (p : Int) (C : Nat → Nat → Int) (o : Nat → Int) (k : Nat) (u : Nat → Int) : Nat → Nat → Int
  | 0 => u
  | l + 1 => addF p (us2 p C o k u l) (eF l) (o k * C k l)
def us1 (p : Int) (n : Nat) (C : Nat → Nat → Int) (o : Nat → Int) : Nat → Nat → Int
  | 0 => fun _ => 0
  | k + 1 => us2 p C o k (us1 p n C o k) n
def ui2 (p : Int) (C : Nat → Nat → Int) (o : Nat → Int) (k : Nat) (u : Nat → Int) : Nat → Nat → Int
  | 0 => u
  | i + 1 => addF p (ui2 p C o k u i) (eF k) (C k i * o i % p)
def ui1 (p : Int) (n : Nat) (C : Nat → Nat → Int) (o : Nat → Int) : Nat → Nat → Int
  | 0 => fun _ => 0
  | k + 1 => ui2 p C o k (ui1 p n C o k) n
section
variable {p : Int} {n : Nat} {C : Nat → Nat → Int} {o : Nat → Int}
theorem us2_Bp (hp : 0 < p) {k : Nat} {u : Nat → Int} (hu : Bp p u) : ∀ l, Bp p (us2 p C o k u l)
  | 0 => hu
  | l + 1 => addF_Bp hp _ _ _
theorem us1_Bp (hp : 0 < p) : ∀ k, Bp p (us1 p n C o k)
  | 0 => fun _ => ⟨Int.le_refl _, hp⟩
  | k + 1 => us2_Bp hp (us1_Bp hp k) n
theorem ui2_Bp (hp : 0 < p) {k : Nat} {u : Nat → Int} (hu : Bp p u) : ∀ l, Bp p (ui2 p C o k u l)
  | 0 => hu
  | l + 1 => addF_Bp hp _ _ _
theorem ui1_Bp (hp : 0 < p) : ∀ k, Bp p (ui1 p n C o k)
  | 0 => fun _ => ⟨Int.le_refl _, hp⟩
  | k + 1 => ui2_Bp hp (ui1_Bp hp k) n
theorem add_e {u : Nat → Int} (hu : Bp p u) {l : Nat} {c : Int} (z : Nat) : addF p u (eF l) c z = if z = l then (u z + c) % p else u z := by
  unfold addF
  by_cases h : z = l
  · subst h; rw [if_pos rfl]; simp [eF, upd]
  · rw [if_neg h]; simp [eF, upd, h]; exact Int.emod_eq_of_lt (hu z).1 (hu z).2
theorem ui2_skip (hp : 0 < p) {k i : Nat} {u : Nat → Int} (hu : Bp p u) (h : C k i = 0) : ui2 p C o k u (i + 1) = ui2 p C o k u i := by
  funext z
  show addF p (ui2 p C o k u i) (eF k) (C k i * o i % p) z = _
  rw [add_e (ui2_Bp hp hu i), h, Int.zero_mul, Int.zero_emod]
  have := ui2_Bp (C := C) (o := o) (k := k) hp hu i z
  by_cases hz : z = k
  · rw [if_pos hz, Int.add_zero]; exact Int.emod_eq_of_lt this.1 this.2
  · rw [if_neg hz]
theorem us2_at (hp : 0 < p) {k : Nat} {u : Nat → Int} (hu : Bp p u) : ∀ l z, us2 p C o k u l z = if z < l then (u z + o k * C k z) % p else u z
  | 0, z => by rw [if_neg (Nat.not_lt_zero _)]; rfl
  | l + 1, z => by
    show addF p (us2 p C o k u l) (eF l) (o k * C k l) z = _
    rw [add_e (us2_Bp hp hu l), us2_at hp hu l z]
    by_cases h : z = l
    · subst h; rw [if_pos rfl, if_neg (Nat.lt_irrefl z), if_pos (Nat.lt_succ_self z)]
    · rw [if_neg h]
      by_cases h2 : z < l
      · rw [if_pos h2, if_pos (by omega)]
      · rw [if_neg h2, if_neg (by omega)]
theorem us1_at (hp : 0 < p) : ∀ k z, us1 p n C o k z = if z < n then sumZ (fun j => o j * C j z) k % p else 0
  | 0, z => by show (0 : Int) = _; split <;> simp [sumZ]
  | k + 1, z => by
    show us2 p C o k (us1 p n C o k) n z = _
    rw [us2_at hp (us1_Bp hp k), us1_at hp k z]
    by_cases h : z < n
    · rw [if_pos h, if_pos h, if_pos h]
      show (sumZ (fun j => o j * C j z) k % p + o k * C k z) % p = (sumZ (fun j => o j * C j z) k + o k * C k z) % p
      rw [Int.emod_add_emod]
    · rw [if_neg h, if_neg h, if_neg h]
theorem ui2_at (hp : 0 < p) {k : Nat} {u : Nat → Int} (hu : Bp p u) : ∀ i z, ui2 p C o k u i z = if z = k then (u z + sumZ (fun j => C k j * o j) i) % p else u z
  | 0, z => by
    show u z = if z = k then (u z + 0) % p else u z
    split
    · rw [Int.add_zero]; exact (Int.emod_eq_of_lt (hu z).1 (hu z).2).symm
    · rfl
  | i + 1, z => by
    show addF p (ui2 p C o k u i) (eF k) (C k i * o i % p) z = _
    rw [add_e (ui2_Bp hp hu i), ui2_at hp hu i z]
    by_cases h : z = k
    · rw [if_pos h, if_pos h, if_pos h]
      show ((u z + sumZ (fun j => C k j * o j) i) % p + C k i * o i % p) % p = (u z + (sumZ (fun j => C k j * o j) i + C k i * o i)) % p
      rw [← Int.add_emod, Int.add_assoc]
    · rw [if_neg h, if_neg h, if_neg h]
theorem ui1_at (hp : 0 < p) : ∀ k z, ui1 p n C o k z = if z < k then sumZ (fun j => C z j * o j) n % p else 0
  | 0, z => by rw [if_neg (Nat.not_lt_zero _)]; rfl
  | k + 1, z => by
    show ui2 p C o k (ui1 p n C o k) n z = _
    rw [ui2_at hp (ui1_Bp hp k), ui1_at hp k z]
    by_cases h : z = k
    · subst h; rw [if_pos rfl, if_neg (Nat.lt_irrefl z), if_pos (Nat.lt_succ_self z), Int.zero_add]
    · rw [if_neg h]
      by_cases h2 : z < k
      · rw [if_pos h2, if_pos (by omega)]
      · rw [if_neg h2, if_neg (by omega)]
theorem uz_eq (hp : 0 < p) (hC : ∀ i j, i < n → j < n → C i j = C j i) : ui1 p n C o n = us1 p n C o n := by
  funext z
  rw [ui1_at hp, us1_at hp]
  by_cases h : z < n
  · rw [if_pos h, if_pos h, sumZ_congr n (fun j hj => by rw [hC z j h hj, Int.mul_comm])]
  · rw [if_neg h, if_neg h]
end
def uzO (p : Int) (m : Nat) (S : Nat → Nat → Nat → Int) (go : Nat → Int) (Y : Nat → Nat → Int) (v : Nat → Int) (i : Nat) : Int := formF p go (timesF p m S v (Y i))
def uzV (p : Int) (n : Nat) (T : Nat → Nat → Nat → Int) (fo : Nat → Int) (m : Nat) (S : Nat → Nat → Nat → Int) (go : Nat → Int) (Y : Nat → Nat → Int) (v : Nat → Int) : Nat → Int := us1 p n (cpM p n (formT p T fo)) (uzO p m S go Y v) n
theorem com_T {p : Int} {n : Nat} {T : Nat → Nat → Nat → Int} {fo : Nat → Int} (h : VN p n T fo) (hc : comN n T) {i j : Nat} (hi : i < n) (hj : j < n) : formT p T fo i j = formT p T fo j i := by
  have hP := (com_iff h).2 hc
  unfold formT
  have e : ∀ k, k < 6 → T i j k = T j i k := fun k hk => by
    have hn := h.n6
    rcases Nat.lt_trichotomy i j with h1 | h1 | h1
    · exact (hP j (by omega) i h1 k hk).symm
    · subst h1; rfl
    · exact hP i (by omega) j h1 k hk
  unfold formF
  rw [sumZ_congr 6 (fun k hk => by rw [e k hk])]
theorem uz_both {p : Int} {n m : Nat} {T S : Nat → Nat → Nat → Int} {fo go : Nat → Int} {Y : Nat → Nat → Int} (h : PN p n T fo m S go Y) (v : Nat → Int) : ui1 p n (cpM p n (formT p T fo)) (uzO p m S go Y v) n = uzV p n T fo m S go Y v := by
  have hp := h.v.p0
  exact uz_eq (by omega) (fun i j hi hj => cpM_symm h.v.hp (fun i => formT_Bp (by omega) i) h.r (fun i j hi hj => com_T h.v h.c hi hj) hi hj)
end Go.Am
namespace Go.Am
theorem op_all {p m : Int} {M : Nat} {F : Nat → Nat → Int} (ha : ∀ i, i < M → smP p m (F i)) : decide (0 ≤ idxF (fun i => !decide (smP p m (F i))) M) = false := by
  rw [idx_none (fun i hi => by rw [decide_eq_true (ha i hi)]; rfl)]; rfl
theorem op_some {p m : Int} {M : Nat} {F : Nat → Nat → Int} (ha : ¬ ∀ i, i < M → smP p m (F i)) : decide (0 ≤ idxF (fun i => !decide (smP p m (F i))) M) = true := by
  simp only [Classical.not_forall] at ha
  obtain ⟨i, hi, hn⟩ := ha
  exact decide_eq_true (idx_ge.2 ⟨i, hi, by rw [decide_eq_false hn]; rfl⟩)
end Go.Am

