/- Part 3 of what the law stands on: abstract values, their walk, contracts of functions. My own work. Conditions: none. -/
import Derived.Test.YtnmdenipfdgdgaaGreatPart2
import Derived.ChangeSlices
import Derived.Laws.Externs
import Derived.Lib.Bytealg
import Derived.Lib.SlicesCompact
set_option linter.unusedVariables false
set_option linter.unusedSimpArgs false
set_option linter.unusedSectionVars false
namespace Go.Am
section
variable {H : Type} {enc : TypeId × Value → H} {P : Program} {w : World} {base : Nat} {spare : Nat → Bool} {held : Bool}
end
end Go.Am

namespace Go.Am
section
variable {p : Int} {m : Nat}
theorem dot_congr {f g x : Nat → Int} : ∀ m, (∀ j, j < m → f j = g j) → dot m f x = dot m g x := fun m h => sumZ_congr m (fun j hj => by rw [h j hj])
theorem red_le {n : Nat} {R : Nat → Nat → Int} : (redGo p n R m).no ≤ m ∧ (redGo p n R m).no ≤ n := by
  have := red_counts p n R m
  omega
end
section
variable {p : Int} {m no : Nat} {O O' : Nat → Nat → Int}
end
end Go.Am

namespace Go.Am
theorem fam_sh {b N e : Nat} {w : Nat → Nat} {F : Nat → Nat → Int} {ol : OL} {r : Nat} (hr : r < N) : OL.at_ (OL.shift b [(0, .one (ZR N) (CO 1 N w e)), (1, .many (famF N w F))] ++ ol) (b + 1) r = some (Z64 (w r), C64 (w r) (F r)) := by
  have e1 : Nat.beq (b + 1) (b + 0) = false := beq_ff (by omega)
  show (bif Nat.beq (b + 1) (b + 0) then _ else bif Nat.beq (b + 1) (b + 1) then (match famF N w F r with | some (sh, c) => some (sh, Am.shift b c) | none => none) else _) = _
  rw [e1, Nat.beq_refl, famF_at hr]
  rfl
def symA (n : Nat) (F : Nat → Nat → Int) : Prop := ∀ i, i < n → ∀ j, j < n → F j i = F i j
def symS (n : Nat) (F : Nat → Nat → Int) : Prop := ∀ i, i < n → ∀ j, j < i → F i j = F j i
noncomputable instance (n : Nat) (F : Nat → Nat → Int) : Decidable (symA n F) := Classical.propDecidable _
noncomputable instance (n : Nat) (F : Nat → Nat → Int) : Decidable (symS n F) := Classical.propDecidable _
theorem Mt.rf {V : Vw} {v : AV} (h : v.closed) (hn : v ≠ .any) : Mt V v v := Mt_closed h (fun _ _ _ => trivial) hn
end Go.Am

namespace Go.Am
def kdx (fr : Nat → Bool) (i : Nat) (o : Oper) : Nat := bif fr i then 0 else kind o
theorem kdx_le (fr : Nat → Bool) (i : Nat) (o : Oper) : kdx fr i o = 0 ∨ kdx fr i o = 1 ∨ kdx fr i o = 2 := by
  unfold kdx
  cases fr i
  · exact kind_le o
  · exact .inl rfl
def StepK (q : Nat) (P : Program) (T : TT) (arr : Array Oper) (o : Oper) (env : Env) (ol : OL) (v : AV) (ol' : OL) : Prop :=
  (gd arr o env = some false ∧ v = undA ∧ ol' = ol) ∨
  (gd arr o env = some true ∧
    ((q = 0 ∧ ol' = ol ∧ PureJ P T o (evE env) v) ∨
     (q = 1 ∧ ∃ A : OL, ol' = A ++ ol ∧ PassJ' P T o (evE env) ol.ob v A ∧ ∀ k, A.has k = true → ol.has k = false) ∨
     (q = 2 ∧ ActJ P T o (evE env) ol.ob v ol'.ob)))
structure DrawOkX (ops : Array Oper) (U : Nat → Nat → Bool) (fr : Nat → Bool) : Prop where
  back : ∀ i oi, ops[i]? = some oi → ∀ e ∈ oi.after, Region.binds .any e = true → e.on < i
  clos : ∀ i oi j, ops[i]? = some oi → j < ops.size → U i j = true → ∃ e ∈ oi.after, Region.binds .any e = true ∧ (e.on = j ∨ U e.on j = true)
  ap : ∀ i oi j oj, ops[i]? = some oi → ops[j]? = some oj → j < i → oj.apart ops oi = true ∨ U i j = true
  act1 : ∀ i oi j oj, ops[i]? = some oi → ops[j]? = some oj → kdx fr i oi = 2 → kdx fr j oj = 1 → j < i → U i j = true
  act1' : ∀ i oi j oj, ops[i]? = some oi → ops[j]? = some oj → kdx fr i oi = 2 → kdx fr j oj = 1 → i < j → U j i = true
  act2 : ∀ i oi j oj, ops[i]? = some oi → ops[j]? = some oj → kdx fr i oi = 2 → kdx fr j oj = 2 → j < i → U i j = true
def chkX (ops : Array Oper) (U : Nat → Nat → Bool) (fr : Nat → Bool) : Bool :=
  (List.range ops.size).all fun i => match ops[i]? with
    | none => true
    | some oi =>
      (oi.after.toList.all fun e => !Region.binds .any e || Nat.blt e.on i) &&
      (List.range ops.size).all fun j => match ops[j]? with
        | none => true
        | some oj =>
          (!U i j || oi.after.toList.any fun e => Region.binds .any e && (Nat.beq e.on j || U e.on j)) &&
          (!(Nat.blt j i) || (U i j || oj.apart ops oi)) &&
          (!(Nat.beq (kdx fr i oi) 2) || (!(Nat.beq (kdx fr j oj) 1) || ((!(Nat.blt j i) || U i j) && (!(Nat.blt i j) || U j i)))) &&
          (!(Nat.beq (kdx fr i oi) 2) || (!(Nat.beq (kdx fr j oj) 2) || (!(Nat.blt j i) || U i j)))
theorem chkX_ok {ops : Array Oper} {U : Nat → Nat → Bool} {fr : Nat → Bool} (h : chkX ops U fr = true) : DrawOkX ops U fr := by
  simp only [chkX, List.all_eq_true, List.mem_range] at h
  have lt : ∀ {i : Nat} {oi : Oper}, ops[i]? = some oi → i < ops.size := fun hi => (Array.getElem?_eq_some_iff.1 hi).1
  have g1 : ∀ i oi, ops[i]? = some oi → ∀ e ∈ oi.after.toList, (!Region.binds .any e || Nat.blt e.on i) = true := by
    intro i oi hi
    have := h i (lt hi)
    rw [hi] at this
    simp only [Bool.and_eq_true, List.all_eq_true] at this
    exact this.1
  have g2 : ∀ i oi j oj, ops[i]? = some oi → ops[j]? = some oj →
      ((((!U i j || oi.after.toList.any fun e => Region.binds .any e && (Nat.beq e.on j || U e.on j)) = true ∧ (!(Nat.blt j i) || (U i j || oj.apart ops oi)) = true) ∧
      (!(Nat.beq (kdx fr i oi) 2) || (!(Nat.beq (kdx fr j oj) 1) || ((!(Nat.blt j i) || U i j) && (!(Nat.blt i j) || U j i)))) = true) ∧ (!(Nat.beq (kdx fr i oi) 2) || (!(Nat.beq (kdx fr j oj) 2) || (!(Nat.blt j i) || U i j))) = true) := by
    intro i oi j oj hi hj
    have := h i (lt hi)
    rw [hi] at this
    simp only [Bool.and_eq_true, List.all_eq_true, List.mem_range] at this
    have := this.2 j (lt hj)
    rw [hj] at this
    simpa only [Bool.and_eq_true] using this
  refine ⟨fun i oi hi e he hb => ?_, fun i oi j hi hj hu => ?_, fun i oi j oj hi hj hlt => ?_, fun i oi j oj hi hj h2 h1 hlt => ?_, fun i oi j oj hi hj h2 h1 hlt => ?_, fun i oi j oj hi hj h2 h1 hlt => ?_⟩
  · have := (g1 i oi hi) e (by simpa using he)
    simpa [hb, Nat.blt_eq] using this
  · have := (g2 i oi j ops[j] hi (by simp [hj])).1.1.1
    simp only [hu, Bool.not_true, Bool.false_or, List.any_eq_true, Bool.and_eq_true, Bool.or_eq_true] at this
    obtain ⟨e, he, hb, hq⟩ := this
    exact ⟨e, by simpa using he, hb, hq.imp (fun h => Nat.eq_of_beq_eq_true h) id⟩
  · have := (g2 i oi j oj hi hj).1.1.2
    have hb : Nat.blt j i = true := by rw [Nat.blt_eq]; exact hlt
    simp only [hb, Bool.not_true, Bool.false_or, Bool.or_eq_true] at this
    exact this.symm
  · have := (g2 i oi j oj hi hj).1.2
    have hb : Nat.blt j i = true := by rw [Nat.blt_eq]; exact hlt
    simp [h2, h1, hb] at this
    exact this.1
  · have := (g2 i oi j oj hi hj).1.2
    have hb : Nat.blt i j = true := by rw [Nat.blt_eq]; exact hlt
    simp [h2, h1, hb] at this
    exact this.2
  · have := (g2 i oi j oj hi hj).2
    have hb : Nat.blt j i = true := by rw [Nat.blt_eq]; exact hlt
    simpa [h2, h1, hb] using this
def drawOkX (ops : Array Oper) (fr : Nat → Bool) : Bool := chkX ops (Uof (numsOf ops)) fr
structure TrX (P : Program) (T : TT) (ops : Array Oper) (fr : Nat → Bool) (env : Env) (V : Nat → AV) (O : Nat → OL) : Prop where
  step : ∀ k o, ops[k]? = some o → StepK (kdx fr k o) P T ops o (envOf V (fun j => decide (j < k)) 0 ops.toList env) (O k) (V k) (O (k + 1))
variable {P : Program} {T : TT} {ops : Array Oper} {U : Nat → Nat → Bool} {fr : Nat → Bool} {env : Env} {V : Nat → AV} {O : Nat → OL}
theorem TrX.same (ht : TrX P T ops fr env V O) {k : Nat} {o : Oper} (hk : ops[k]? = some o) (h0 : kdx fr k o = 0) : O (k + 1) = O k := by
  rcases ht.step k o hk with ⟨_, _, h⟩ | ⟨_, ⟨_, h, _⟩ | ⟨h, _⟩ | ⟨h, _⟩⟩
  · exact h
  · exact h
  · rw [h0] at h; cases h
  · rw [h0] at h; cases h
theorem TrX.up (ht : TrX P T ops fr env V O) {j : Nat} {o : Oper} (hj : ops[j]? = some o) (h2 : kdx fr j o ≠ 2) {k : Nat} (hk : (O j).has k = true) : (O (j + 1)).has k = true ∧ ∀ i, (O (j + 1)).at_ k i = (O j).at_ k i := by
  rcases ht.step j o hj with ⟨_, _, h⟩ | ⟨_, ⟨_, h, _⟩ | ⟨_, A, h, _, hf⟩ | ⟨h, _⟩⟩
  · rw [h]; exact ⟨hk, fun _ => rfl⟩
  · rw [h]; exact ⟨hk, fun _ => rfl⟩
  · rw [h]
    refine ⟨by rw [OL.has_append, hk]; simp, fun i => ?_⟩
    rw [OL.at_append]
    split
    · rename_i hA
      rw [hf k hA] at hk; cases hk
    · rfl
  · exact absurd h h2
def noAct (ops : Array Oper) (fr : Nat → Bool) (a b : Nat) : Prop := ∀ i oi, ops[i]? = some oi → a ≤ i → i < b → kdx fr i oi ≠ 2
theorem noAct.sub {a b a' b' : Nat} (h : noAct ops fr a b) (ha : a ≤ a') (hb : b' ≤ b) : noAct ops fr a' b' := fun i oi hi h1 h2 => h i oi hi (by omega) (by omega)
theorem TrX.chain (ht : TrX P T ops fr env V O) {a : Nat} : ∀ d, a + d ≤ ops.size → noAct ops fr a (a + d) → ∀ {k : Nat}, (O a).has k = true → (O (a + d)).has k = true ∧ ∀ i, (O (a + d)).at_ k i = (O a).at_ k i
  | 0, _, _, k, hk => ⟨hk, fun _ => rfl⟩
  | d + 1, h, hn, k, hk => by
    obtain ⟨h1, h2⟩ := ht.chain d (by omega) (hn.sub (Nat.le_refl _) (by omega)) hk
    have hlt : a + d < ops.size := by omega
    have hx : ops[a + d]? = some ops[a + d] := by simp [hlt]
    obtain ⟨h3, h4⟩ := ht.up hx (hn _ _ hx (by omega) (by omega)) h1
    exact ⟨h3, fun i => (h4 i).trans (h2 i)⟩
theorem TrX.mono (ht : TrX P T ops fr env V O) {a b : Nat} (hab : a ≤ b) (hb : b ≤ ops.size) (hn : noAct ops fr a b) {k : Nat} (hk : (O a).has k = true) : (O b).has k = true ∧ ∀ i, (O b).at_ k i = (O a).at_ k i := by
  obtain ⟨d, rfl⟩ := Nat.exists_eq_add_of_le hab
  exact ht.chain d hb hn hk
theorem TrX.born (ht : TrX P T ops fr env V O) {a : Nat} {k : Nat} : ∀ d, (O (a + d)).has k = true → (O a).has k = true ∨ ∃ j, a ≤ j ∧ j < a + d ∧ (O (j + 1)).has k = true ∧ (O j).has k = false
  | 0, h => .inl h
  | d + 1, h => by
    cases hq : (O (a + d)).has k with
    | true =>
      rcases ht.born d hq with h | ⟨j, h1, h2, h3⟩
      · exact .inl h
      · exact .inr ⟨j, h1, by omega, h3⟩
    | false => exact .inr ⟨a + d, by omega, by omega, h, hq⟩
theorem nextAct (ops : Array Oper) (fr : Nat → Bool) : ∀ d m, m + d = ops.size → ∃ e, m ≤ e ∧ e ≤ ops.size ∧ noAct ops fr m e ∧ (e = ops.size ∨ ∃ oe, ops[e]? = some oe ∧ kdx fr e oe = 2)
  | 0, m, h => ⟨m, Nat.le_refl _, by omega, fun i oi _ h1 h2 => by omega, .inl (by omega)⟩
  | d + 1, m, h => by
    have hlt : m < ops.size := by omega
    have hx : ops[m]? = some ops[m] := by simp [hlt]
    by_cases h2 : kdx fr m ops[m] = 2
    · exact ⟨m, Nat.le_refl _, by omega, fun i oi _ h1 h2 => by omega, .inr ⟨_, hx, h2⟩⟩
    · obtain ⟨e, h3, h4, h5, h6⟩ := nextAct ops fr d (m + 1) (by omega)
      refine ⟨e, by omega, h4, fun i oi hi h7 h8 => ?_, h6⟩
      by_cases hi2 : i = m
      · subst hi2; rw [hx] at hi; cases hi; exact h2
      · exact h5 i oi hi (by omega) h8
structure Mem1 (ops : Array Oper) (fr : Nat → Bool) (O : Nat → OL) (D : Nat → Bool) (ob : Ob) (m e : Nat) : Prop where
  me : m ≤ e
  le : e ≤ ops.size
  acts : ∀ i oi, ops[i]? = some oi → kdx fr i oi = 2 → (D i = true ↔ i < m)
  no : noAct ops fr m e
  nx : e = ops.size ∨ ∃ oe, ops[e]? = some oe ∧ kdx fr e oe = 2
  p1 : ∀ i oi, ops[i]? = some oi → kdx fr i oi = 1 → i < m → D i = true
  p2 : ∀ i oi, ops[i]? = some oi → kdx fr i oi = 1 → e ≤ i → D i = false
  has : ∀ k, ob.has k = true ↔ (O m).has k = true ∨ ∃ j, m ≤ j ∧ j < e ∧ D j = true ∧ (O (j + 1)).has k = true ∧ (O j).has k = false
  at_ : ∀ k, ob.has k = true → ∀ i, ob.at_ k i = (O e).at_ k i
def MemX (ops : Array Oper) (fr : Nat → Bool) (O : Nat → OL) (D : Nat → Bool) (ob : Ob) : Prop := ∃ m e, Mem1 ops fr O D ob m e
theorem Mem1.turn (ht : TrX P T ops fr env V O) {D : Nat → Bool} {ob : Ob} {m e : Nat} (hob : ∀ k i, ob.at_ k i ≠ none → ob.has k = true) (hm : Mem1 ops fr O D ob m e)
    (h1 : ∀ i oi, ops[i]? = some oi → kdx fr i oi = 1 → m ≤ i → i < e → D i = true) : ob = (O e).ob := by
  have hh : ∀ k, ob.has k = true ↔ (O e).has k = true := by
    intro k
    rw [hm.has k]
    constructor
    · rintro (h | ⟨j, hj, hj2, _, h, _⟩)
      · exact (ht.mono hm.me hm.le hm.no h).1
      · exact (ht.mono (by omega : j + 1 ≤ e) hm.le (hm.no.sub (by omega) (Nat.le_refl _)) h).1
    · intro h
      obtain ⟨d, rfl⟩ := Nat.exists_eq_add_of_le hm.me
      rcases ht.born d h with h | ⟨j, hj, hj2, ha, hb⟩
      · exact .inl h
      · refine .inr ⟨j, hj, hj2, ?_, ha, hb⟩
        have hlt : j < ops.size := by have := hm.le; omega
        have hx : ops[j]? = some ops[j] := by simp [hlt]
        rcases kdx_le fr j ops[j] with h0 | h5 | h5
        · rw [ht.same hx h0, hb] at ha; cases ha
        · exact h1 _ _ hx h5 hj hj2
        · exact absurd h5 (hm.no _ _ hx hj hj2)
  refine Ob_ext (fun k i => ?_) (fun k => ?_)
  · cases hk : ob.has k with
    | true => exact hm.at_ k hk i
    | false =>
      have e1 : ob.at_ k i = none := by
        apply Classical.byContradiction
        intro hne
        rw [hob k i hne] at hk; cases hk
      have e2 : (O e).at_ k i = none := by
        apply Classical.byContradiction
        intro hne
        have := (hh k).2 (OL.has_of_at hne)
        rw [this] at hk; cases hk
      rw [e1]
      exact e2.symm
  · have := hh k
    show ob.has k = (O e).has k
    cases hx : ob.has k
    · rw [hx] at this
      cases hy : (O e).has k
      · rfl
      · exact absurd (this.2 hy) (by simp)
    · exact (this.1 hx).symm
section
variable {D D' : Nat → Bool} {i : Nat} {oi : Oper}
theorem Mem1.before (hd : DrawOkX ops U fr) {ob : Ob} {m e : Nat} (hm : Mem1 ops fr O D ob m e) (hi : ops[i]? = some oi) (h1 : kdx fr i oi = 1) (hU : ∀ j, j < ops.size → U i j = true → D j = true) : i < e := by
  have lt : ∀ {i : Nat} {oi : Oper}, ops[i]? = some oi → i < ops.size := fun hi => (Array.getElem?_eq_some_iff.1 hi).1
  apply Nat.lt_of_not_le
  intro hle
  rcases hm.nx with h | ⟨oe, he, h2⟩
  · have := lt hi; omega
  · have hne : e ≠ i := by
      intro h; subst h; rw [hi] at he; cases he; rw [h1] at h2; cases h2
    have := hU e (lt he) (hd.act1' e oe i oi he hi h2 h1 (by omega))
    have := (hm.acts e oe he h2).1 this
    have := hm.me
    omega
theorem MemX.zero (ht : TrX P T ops fr env V O) (hd : DrawOkX ops U fr) (hi : ops[i]? = some oi) (h0 : kdx fr i oi ≠ 2) (hU : ∀ j, j < ops.size → U i j = true → D j = true)
    (hD' : ∀ j, D' j = if j = i then true else D j) (hsame : O (i + 1) = O i) {ob : Ob} (hm : MemX ops fr O D ob) : MemX ops fr O D' ob := by
  obtain ⟨m, e, hm⟩ := hm
  refine ⟨m, e, hm.me, hm.le, fun j oj hj hk => ?_, hm.no, hm.nx, fun j oj hj hk hlt => ?_, fun j oj hj hk hle => ?_, fun k => ?_, hm.at_⟩
  · by_cases hji : j = i
    · subst hji; rw [hi] at hj; cases hj; exact absurd hk h0
    · rw [hD' j, if_neg hji]; exact hm.acts j oj hj hk
  · rw [hD' j]; split
    · rfl
    · exact hm.p1 j oj hj hk hlt
  · by_cases hji : j = i
    · subst hji; rw [hi] at hj; cases hj
      have := hm.before hd hi hk hU
      omega
    · rw [hD' j, if_neg hji]; exact hm.p2 j oj hj hk hle
  · rw [hm.has k]
    constructor
    · rintro (h | ⟨j, ha, hb, hc, hd⟩)
      · exact .inl h
      · exact .inr ⟨j, ha, hb, by rw [hD' j]; split <;> simp_all, hd⟩
    · rintro (h | ⟨j, ha, ha2, hb, hc, hd⟩)
      · exact .inl h
      · by_cases hji : j = i
        · subst hji; rw [hsame, hd] at hc; cases hc
        · rw [hD' j, if_neg hji] at hb
          exact .inr ⟨j, ha, ha2, hb, hc, hd⟩
theorem MemX.one (ht : TrX P T ops fr env V O) (hd : DrawOkX ops U fr) (hi : ops[i]? = some oi) (h1 : kdx fr i oi = 1) (hDi : D i = false) (hU : ∀ j, j < ops.size → U i j = true → D j = true)
    (hD' : ∀ j, D' j = if j = i then true else D j) {A : OL} (hA : O (i + 1) = A ++ O i) (hf : ∀ k, A.has k = true → (O i).has k = false) {ob : Ob} (hm : MemX ops fr O D ob) :
    (∀ k, ob.has k = true → (O i).ob.has k = true → ∀ j, ob.at_ k j = (O i).ob.at_ k j) ∧ (∀ k, A.has k = true → ob.has k = false) ∧ MemX ops fr O D' (A.ob.ext ob) := by
  obtain ⟨m, e, hm⟩ := hm
  have hie := hm.before hd hi h1 hU
  have hmi : m ≤ i := by
    apply Nat.le_of_not_lt
    intro h
    have := hm.p1 i oi hi h1 h
    rw [hDi] at this; cases this
  refine ⟨fun k hk hk2 j => ?_, fun k hk => ?_, m, e, hm.me, hm.le, fun j oj hj hk => ?_, hm.no, hm.nx, fun j oj hj hk hlt => ?_, fun j oj hj hk hle => ?_, fun k => ?_, fun k hk j => ?_⟩
  · rw [hm.at_ k hk j]
    exact (ht.mono (Nat.le_of_lt hie) hm.le (hm.no.sub hmi (Nat.le_refl _)) hk2).2 j
  · have hn := hf k hk
    apply Classical.byContradiction
    intro hh
    have hh : ob.has k = true := by simpa using hh
    rcases (hm.has k).1 hh with h | ⟨j, ha, ha2, hb, hc, hdd⟩
    · have := (ht.mono hmi (by have := hm.le; omega) (hm.no.sub (Nat.le_refl _) (by omega)) h).1
      rw [hn] at this; cases this
    · by_cases hji : j < i
      · have := (ht.mono (by omega : j + 1 ≤ i) (by have := hm.le; omega) (hm.no.sub (by omega) (by omega)) hc).1
        rw [hn] at this; cases this
      · by_cases hij : j = i
        · subst hij; rw [hDi] at hb; cases hb
        · have : (O (i + 1)).has k = true := by rw [hA, OL.has_append, hk]; rfl
          have := (ht.mono (by omega : i + 1 ≤ j) (by have := hm.le; omega) (hm.no.sub (by omega) (by omega)) this).1
          rw [hdd] at this; cases this
  · by_cases hji : j = i
    · subst hji; rw [hi] at hj; cases hj; rw [h1] at hk; cases hk
    · rw [hD' j, if_neg hji]; exact hm.acts j oj hj hk
  · rw [hD' j]; split
    · rfl
    · exact hm.p1 j oj hj hk hlt
  · by_cases hji : j = i
    · omega
    · rw [hD' j, if_neg hji]; exact hm.p2 j oj hj hk hle
  · have e' : (A.ob.ext ob).has k = (A.has k || ob.has k) := rfl
    rw [e', Bool.or_eq_true, hm.has k]
    constructor
    · rintro (h | h | ⟨j, ha, ha2, hb, hc⟩)
      · exact .inr ⟨i, hmi, hie, by rw [hD' i, if_pos rfl], by rw [hA, OL.has_append, h]; rfl, hf k h⟩
      · exact .inl h
      · exact .inr ⟨j, ha, ha2, by rw [hD' j]; split <;> simp_all, hc⟩
    · rintro (h | ⟨j, ha, ha2, hb, hc, hdd⟩)
      · exact .inr (.inl h)
      · by_cases hji : j = i
        · subst hji
          rw [hA, OL.has_append, hdd] at hc
          exact .inl (by simpa using hc)
        · rw [hD' j, if_neg hji] at hb
          exact .inr (.inr ⟨j, ha, ha2, hb, hc, hdd⟩)
  · have e' : (A.ob.ext ob).at_ k j = if A.has k = true then A.at_ k j else ob.at_ k j := rfl
    rw [e']
    split
    · rename_i hAk
      have hx : (O (i + 1)).has k = true := by rw [hA, OL.has_append, hAk]; rfl
      rw [(ht.mono (by omega : i + 1 ≤ e) hm.le (hm.no.sub (by omega) (Nat.le_refl _)) hx).2 j, hA, OL.at_append, if_pos hAk]
    · rename_i hAk
      refine hm.at_ k ?_ j
      have : (A.has k || ob.has k) = true := hk
      simpa [hAk] using this
theorem Mem1.start (ht : TrX P T ops fr env V O) {m e : Nat} (hme : m ≤ e) (hle : e ≤ ops.size) (hno : noAct ops fr m e) (hnx : e = ops.size ∨ ∃ oe, ops[e]? = some oe ∧ kdx fr e oe = 2)
    (hacts : ∀ i oi, ops[i]? = some oi → kdx fr i oi = 2 → (D i = true ↔ i < m)) (hp1 : ∀ i oi, ops[i]? = some oi → kdx fr i oi = 1 → i < m → D i = true) (hp2 : ∀ i oi, ops[i]? = some oi → kdx fr i oi = 1 → m ≤ i → D i = false) :
    Mem1 ops fr O D (O m).ob m e where
  me := hme
  le := hle
  acts := hacts
  no := hno
  nx := hnx
  p1 := hp1
  p2 := fun i oi hi h1 h => hp2 i oi hi h1 (by omega)
  has := fun k => by
    constructor
    · exact fun h => .inl h
    · rintro (h | ⟨j, ha, hb, hc, hd, he⟩)
      · exact h
      · have hlt : j < ops.size := by omega
        have hx : ops[j]? = some ops[j] := by simp [hlt]
        rcases kdx_le fr j ops[j] with h0 | h1 | h2
        · rw [ht.same hx h0, he] at hd; cases hd
        · rw [hp2 j _ hx h1 ha] at hc; cases hc
        · exact absurd h2 (hno j _ hx ha hb)
  at_ := fun k hk i => ((ht.mono hme hle hno hk).2 i).symm
theorem MemX.two (ht : TrX P T ops fr env V O) (hd : DrawOkX ops U fr) (hi : ops[i]? = some oi) (h2 : kdx fr i oi = 2) (hDi : D i = false)
    (hD' : ∀ j, D' j = if j = i then true else D j) (hU : ∀ j, j < ops.size → U i j = true → D j = true) (hUn : ∀ k ok, ops[k]? = some ok → U k i = true → D k = false) {ob : Ob} (hob : ∀ k i, ob.at_ k i ≠ none → ob.has k = true) (hm : MemX ops fr O D ob) :
    ob = (O i).ob ∧ MemX ops fr O D' (O (i + 1)).ob := by
  obtain ⟨m, e, hm⟩ := hm
  have lt : ∀ {i : Nat} {oi : Oper}, ops[i]? = some oi → i < ops.size := fun hi => (Array.getElem?_eq_some_iff.1 hi).1
  have hin := lt hi
  have hmi : m ≤ i := by
    apply Nat.le_of_not_lt
    intro h
    have := (hm.acts i oi hi h2).2 h
    rw [hDi] at this; cases this
  have hei : e ≤ i := by
    apply Nat.le_of_not_lt
    intro h
    exact hm.no i oi hi hmi h h2
  have hee : e = i := by
    rcases hm.nx with h | ⟨oe, he, h3⟩
    · omega
    · apply Classical.byContradiction
      intro hne
      have := hU e (lt he) (hd.act2 i oi e oe hi he h2 h3 (by omega))
      have := (hm.acts e oe he h3).1 this
      have := hm.me
      omega
  subst hee
  refine ⟨hm.turn ht hob (fun j oj hj hk ha hb => hU j (lt hj) (hd.act1 e oi j oj hi hj h2 hk hb)), ?_⟩
  obtain ⟨e', q1, q2, q3, q4⟩ := nextAct ops fr (ops.size - (e + 1)) (e + 1) (by omega)
  refine ⟨e + 1, e', Mem1.start ht q1 q2 q3 q4 (fun j oj hj hk => ?_) (fun j oj hj hk hlt => ?_) (fun j oj hj hk hle => ?_)⟩
  · rw [hD' j]
    by_cases hji : j = e
    · subst hji; simp
    · rw [if_neg hji, hm.acts j oj hj hk]
      constructor
      · intro h; omega
      · intro h
        have := hU j (lt hj) (hd.act2 e oi j oj hi hj h2 hk (by omega))
        exact (hm.acts j oj hj hk).1 this
  · rw [hD' j]; split
    · rfl
    · rename_i hne
      exact hU j (lt hj) (hd.act1 e oi j oj hi hj h2 hk (by omega))
  · rw [hD' j, if_neg (by omega)]
    exact hUn j oj hj (hd.act1' e oi j oj hi hj h2 hk (by omega))
theorem MemX.all (ht : TrX P T ops fr env V O) {ob : Ob} (hob : ∀ k i, ob.at_ k i ≠ none → ob.has k = true) (hm : MemX ops fr O D ob) (hall : ∀ i, i < ops.size → D i = true) : ob = (O ops.size).ob := by
  obtain ⟨m, e, hm⟩ := hm
  have lt : ∀ {i : Nat} {oi : Oper}, ops[i]? = some oi → i < ops.size := fun hi => (Array.getElem?_eq_some_iff.1 hi).1
  have he : e = ops.size := by
    rcases hm.nx with h | ⟨oe, he, h2⟩
    · exact h
    · have := (hm.acts e oe he h2).1 (hall e (lt he))
      have := hm.me
      omega
  have := hm.turn ht hob (fun j oj hj _ _ _ => hall j (lt hj))
  rw [this, he]
end
theorem downX (hd : DrawOkX ops U fr) {D : Nat → Bool} (hcl : ∀ i oi, ops[i]? = some oi → D i = true → ∀ e ∈ oi.after, Region.binds .any e = true → D e.on = true) :
    ∀ i oi j, ops[i]? = some oi → j < ops.size → U i j = true → (∀ e ∈ oi.after, Region.binds .any e = true → D e.on = true) → D j = true := by
  intro i
  induction i using Nat.strongRecOn with
  | _ i ih =>
    intro oi j hi hj hu hr
    obtain ⟨e, he, hb, hq⟩ := hd.clos i oi j hi hj hu
    have hlt := hd.back i oi hi e he hb
    have hin := (Array.getElem?_eq_some_iff.1 hi).1
    have hD := hr e he hb
    rcases hq with hq | hq
    · exact hq ▸ hD
    · have hx : ops[e.on]? = some ops[e.on] := by simp [Nat.lt_trans hlt hin]
      exact ih e.on hlt _ j hx hj hq (hcl e.on _ hx hD)
theorem rdy_nilX (hd : DrawOkX ops U fr) {listed : Array Bool} (hs : listed.size = ops.size) (h : Region.ready .any ops listed = []) : ∀ i, i < ops.size → Dl listed i = true := by
  intro i
  induction i using Nat.strongRecOn with
  | _ i ih =>
    intro hi
    apply Classical.byContradiction
    intro hn
    have hx : ops[i]? = some ops[i] := by simp [hi]
    have : i ∈ Region.ready .any ops listed := by
      simp only [Region.ready, List.mem_filter, List.mem_range, Bool.and_eq_true, Bool.not_eq_true']
      refine ⟨hi, ?_, ?_⟩
      · have : Dl listed i = false := by simpa using hn
        simp only [Dl, Array.getD_eq_getD_getElem?] at this ⊢
        have hl : i < listed.size := hs ▸ hi
        simp only [hl, Array.getElem?_eq_getElem, Option.getD_some] at this ⊢
        exact this
      · rw [hx]
        simp only [Option.map_some, Option.getD_some, Array.all_eq_true_iff_forall_mem]
        intro e he
        cases hb : Region.binds .any e
        · rfl
        · have hlt := hd.back i _ hx e he hb
          have := ih e.on hlt (by omega)
          simp only [Dl] at this
          simp [this]
    rw [h] at this
    cases this
structure InvX (P : Program) (T : TT) (ops : Array Oper) (fr : Nat → Bool) (N : Nat) (env : Env) (V : Nat → AV) (O : Nat → OL) (X : Cx) (listed : Array Bool) (a : Act) (w : World) : Prop where
  sz : listed.size = ops.size
  cl : ∀ i oi, ops[i]? = some oi → Dl listed i = true → ∀ e ∈ oi.after, Region.binds .any e = true → Dl listed e.on = true
  pic : ∃ κ ob, Rel X κ ob w ∧ (∀ t, VR (KK X κ ob w) (get (envOf V (Dl listed) 0 ops.toList env) t) (a.tmps.getD t undef)) ∧ MemX ops fr O (Dl listed) ob
  size : a.tmps.size = N
  defers : a.defers = []
theorem draw_stepX (hd : DrawOkX ops U fr) (ht : TrX P T ops fr env V O) {N : Nat} (hdst : dstOk N ops.toList = true) {X : Cx} (hP : X.P = P) (hTT : X.T = T) {listed : Array Bool} {a : Act} {w : World}
    (h : InvX P T ops fr N env V O X listed a w) {i : Nat} (hi : i ∈ Region.ready .any ops listed) {Q : Exit → Act → World → Prop} {K : Act → World → Prop}
    (hK : ∀ a' w', InvX P T ops fr N env V O X (listed.setIfInBounds i true) a' w' → K a' w') : wpOp P ops Q i K a w := by
  obtain ⟨oi, hx, hli, hre⟩ := mem_rdy hi
  have lt : ∀ {i : Nat} {oi : Oper}, ops[i]? = some oi → i < ops.size := fun hi => (Array.getElem?_eq_some_iff.1 hi).1
  have hin := lt hx
  have hinl : i < listed.size := h.sz ▸ hin
  have hDi : Dl listed i = false := by
    simp only [Dl, Array.getD_eq_getD_getElem?, hinl, Array.getElem?_eq_getElem, Option.getD_some] at hli ⊢
    exact hli
  have hD' := listed_set (listed := listed) hinl
  have hU : ∀ j, j < ops.size → U i j = true → Dl listed j = true := fun j hj hu => downX hd h.cl i oi j hx hj hu hre
  have hUn : ∀ k ok, ops[k]? = some ok → U k i = true → Dl listed k = false := fun k ok hk hu => by
    apply Classical.byContradiction
    intro hn
    have hn : Dl listed k = true := by simpa using hn
    have := downX hd h.cl k ok i hk hin hu (h.cl k ok hk hn)
    rw [hDi] at this; cases this
  obtain ⟨κ, ob, hR, hE, hM⟩ := h.pic
  have hob : ∀ k i, ob.at_ k i ≠ none → ob.has k = true := hR.has
  have hag : ∀ t, t ∈ oi.looksAt ops → get (envOf V (Dl listed) 0 ops.toList env) t = get (envOf V (fun j => decide (j < i)) 0 ops.toList env) t := by
    intro t htl
    refine envOf_agree V _ _ t _ 0 env env rfl (fun k o hk ho => ?_)
    rw [Array.getElem?_toList] at hk
    rw [Nat.zero_add]
    rcases Nat.lt_trichotomy k i with hki | hki | hki
    · rw [decide_eq_true hki]
      rcases hd.ap i oi k o hx hk hki with hap | hu
      · exact absurd htl ((Oper.apart_spec hap).1 t ho)
      · exact hU k (lt hk) hu
    · subst hki
      rw [hDi]; simp
    · rw [decide_eq_false (by omega)]
      rcases hd.ap k o i oi hk hx hki with hap | hu
      · exact absurd htl ((Oper.apart_spec hap).2.2 t ho)
      · exact hUn k o hk hu
  have hput : ∀ t, get (envOf V (Dl (listed.setIfInBounds i true)) 0 ops.toList env) t = if oi.dst = some t then V i else get (envOf V (Dl listed) 0 ops.toList env) t := by
    intro t
    by_cases hdt : oi.dst = some t
    · rw [if_pos hdt, envOf_last V _ t ops.toList 0 i oi env (by rw [Array.getElem?_toList]; exact hx) hdt (by rw [Nat.zero_add, hD', if_pos rfl]) (fun k o hk hk2 ho => ?_), Nat.zero_add]
      rw [Array.getElem?_toList] at hk2
      rw [Nat.zero_add, hD', if_neg (by omega)]
      rcases hd.ap k o i oi hk2 hx hk with hap | hu
      · exact absurd ho ((Oper.apart_spec hap).2.1 t hdt)
      · exact hUn k o hk2 hu
    · rw [if_neg hdt]
      refine envOf_agree V _ _ t _ 0 env env rfl (fun k o hk ho => ?_)
      rw [Array.getElem?_toList] at hk
      rw [Nat.zero_add, hD', if_neg (fun e => by subst e; rw [hx] at hk; cases hk; exact hdt ho)]
  have hdstN : ∀ t, oi.dst = some t → t < a.tmps.size := fun t hdt => by
    simp only [dstOk, List.all_eq_true] at hdst
    have := hdst oi (by simpa using Array.mem_of_getElem? hx)
    rw [hdt] at this
    rw [h.size]; simpa [Nat.blt_eq] using this
  have hcl' : ∀ j oj, ops[j]? = some oj → Dl (listed.setIfInBounds i true) j = true → ∀ e ∈ oj.after, Region.binds .any e = true → Dl (listed.setIfInBounds i true) e.on = true := by
    intro j oj hj hDj e he hb
    rw [hD'] at hDj ⊢
    split
    · rfl
    · by_cases hji : j = i
      · subst hji; rw [hx] at hj; cases hj; exact hre e he hb
      · rw [if_neg hji] at hDj; exact h.cl j oj hj hDj e he hb
  have next : ∀ (c : Value) (w' : World) (κ' : Gh) (ob' : Ob), Rel X κ' ob' w' → VR (KK X κ' ob' w') (V i) c → Le (KK X κ ob w) (KK X κ' ob' w') → MemX ops fr O (Dl (listed.setIfInBounds i true)) ob' → K (a.put oi.dst c) w' := by
    intro c w' κ' ob' hR' hv hle hM'
    refine hK _ _ ⟨by simp [h.sz], hcl', ⟨κ', ob', hR', fun t => ?_, hM'⟩, by rw [Act.put_size]; exact h.size, by rw [Am.Act.put_defers]; exact h.defers⟩
    rw [hput t]
    by_cases hdt : oi.dst = some t
    · rw [if_pos hdt, hdt]
      have : (a.put (some t) c).tmps.getD t undef = c := by simp [Act.put, hdstN t hdt]
      rw [this]; exact hv
    · rw [if_neg hdt]
      have : (a.put oi.dst c).tmps.getD t undef = a.tmps.getD t undef := by
        cases hq : oi.dst with
        | none => rfl
        | some d =>
          have hne : d ≠ t := fun e => hdt (by rw [hq, e])
          simp [Act.put, Array.getElem?_setIfInBounds_ne hne]
      rw [this]; exact VR_mono hle (hE t)
  have hops : ∀ x ∈ oi.op.operands.toList, VR (KK X κ ob w) (evE (envOf V (fun j => decide (j < i)) 0 ops.toList env) x) (a.eval x) := by
    intro x hxo
    cases x with
    | tmp t => have := hE t; rw [hag t (looks_dst hxo)] at this; exact this
    | const v => exact constAV_ok _ v
    | global g => trivial
    | func g => exact ⟨#[], rfl, rfl, fun i hi => by omega⟩
  have want : ∀ b, gd ops oi (envOf V (fun j => decide (j < i)) 0 ops.toList env) = some b → Region.wanted oi (yielded ops a.tmps) = b := by
    intro b hb
    unfold gd at hb
    split at hb
    · rename_i hg
      cases hb
      simp [Region.wanted, hg]
    · rename_i j wnt hg
      split at hb
      · rename_i d hdd
        split at hb
        · rename_i b' hb'
          cases hb
          rw [← hag d (looks_guard hg hdd)] at hb'
          have hy := yielded_of hdd hE hb' (dst_lt_of_eq hE hb')
          simp [Region.wanted, hg, hy]
        · rename_i hb'
          cases hb
          rw [← hag d (looks_guard hg hdd)] at hb'
          have hy := yielded_none hdd hE hb'
          simp [Region.wanted, hg, hy]
        · cases hb
      · cases hb
  have hsz : ∀ r, Oper.upon X.P oi a K Q r → Oper.upon P oi a K Q r := fun r hr => by rw [← hP]; exact hr
  unfold wpOp
  rw [hx]
  simp only
  have hst := ht.step i oi hx
  rcases hst with ⟨hg, hv, hs⟩ | ⟨hg, hst⟩
  · rw [if_neg (by rw [want _ hg]; simp)]
    have hvu : VR (KK X κ ob w) (V i) undef := by rw [hv]; exact undA_ok _
    rcases kdx_le fr i oi with h0 | h1 | h2
    · exact next undef w κ ob hR hvu (Le.refl _) (hM.zero ht hd hx (by omega) hU hD' hs)
    · exact next undef w κ ob hR hvu (Le.refl _) (hM.zero ht hd hx (by omega) hU hD' hs)
    · obtain ⟨e1, e2⟩ := hM.two ht hd hx h2 hDi hD' hU hUn hob
      rw [hs, ← e1] at e2
      exact next undef w κ ob hR hvu (Le.refl _) e2
  · rw [if_pos (want _ hg)]
    refine .inl ?_
    unfold Oper.wp
    rw [← hP]
    rcases hst with ⟨h0, hs, hj⟩ | ⟨h1, A, hs, hj, hf⟩ | ⟨h2, hj⟩
    · have := (PassJ.of_pure hj ob) X κ ob w a.eval hP hTT hR (fun _ _ _ _ => rfl) (fun k hk => by cases hk) hops
      rw [Ob.ext_nil, ← hP] at this
      exact upon_of_Out this (fun c w' κ' hR' hv hle => next c w' κ' ob hR' hv hle (hM.zero ht hd hx (by omega) hU hD' hs))
    · obtain ⟨e1, e2, e3⟩ := hM.one ht hd hx h1 hDi hU hD' hs hf
      have := hj X κ ob w a.eval hP hTT (fun _ => rfl) hR e1 e2 hops
      rw [← hP] at this
      exact upon_of_Out this (fun c w' κ' hR' hv hle => next c w' κ' _ hR' hv hle e3)
    · obtain ⟨e1, e2⟩ := hM.two ht hd hx h2 hDi hD' hU hUn hob
      subst e1
      have := hj X κ w a.eval hP hTT hR hops
      rw [← hP] at this
      exact upon_of_Out this (fun c w' κ' hR' hv hle => next c w' κ' _ hR' hv hle e2)
theorem draw_anyX (hd : DrawOkX ops U fr) (ht : TrX P T ops fr env V O) {N : Nat} (hdst : dstOk N ops.toList = true) {X : Cx} (hP : X.P = P) (hTT : X.T = T) {Q : Exit → Env → OL → Prop}
    (hK : Q .normal (envOf V (fun _ => true) 0 ops.toList env) (O ops.size)) :
    ∀ (fuel : Nat) (listed : Array Bool) (a : Act) (w : World), left ops listed ≤ fuel → InvX P T ops fr N env V O X listed a w → wpAny P .any ops (QQ X N Q) fuel listed a w := by
  have fin : ∀ (listed : Array Bool) (a : Act) (w : World), InvX P T ops fr N env V O X listed a w → (∀ i, i < ops.size → Dl listed i = true) → QQ X N Q .normal a w := by
    intro listed a w h hall
    obtain ⟨κ, ob, hR, hE, hM⟩ := h.pic
    have e := hM.all ht hR.has hall
    subst e
    refine ⟨κ, _, _, hK, hR, fun t => ?_, h.size, h.defers⟩
    have := hE t
    rwa [envOf_agree V (Dl listed) (fun _ => true) t _ 0 env env rfl (fun k o hk _ => by
      rw [Array.getElem?_toList] at hk
      rw [Nat.zero_add, hall k (Array.getElem?_eq_some_iff.1 hk).1])] at this
  intro fuel
  induction fuel with
  | zero =>
    intro listed a w hl h
    have hall : ∀ i, i < ops.size → Dl listed i = true := by
      intro i hi
      apply Classical.byContradiction
      intro hn
      have hn : Dl listed i = false := by simpa using hn
      have : i ∈ (List.range ops.size).filter fun i => !Dl listed i := by simp [hi, hn]
      have := List.length_pos_of_mem this
      unfold left at hl
      omega
    refine ⟨?_, fin listed a w h hall⟩
    apply Classical.byContradiction
    intro hne
    obtain ⟨i, hi⟩ := List.exists_mem_of_ne_nil _ hne
    obtain ⟨oi, hx, hli, _⟩ := mem_rdy hi
    have hin := (Array.getElem?_eq_some_iff.1 hx).1
    have hh := hall i hin
    have hl2 : i < listed.size := h.sz ▸ hin
    simp only [Dl, Array.getD_eq_getD_getElem?, hl2, Array.getElem?_eq_getElem, Option.getD_some] at hli hh
    rw [hh] at hli; cases hli
  | succ fuel ih =>
    intro listed a w hl h
    refine ⟨fun hr => fin listed a w h (rdy_nilX hd h.sz hr), fun i hi => ?_⟩
    obtain ⟨oi, hx, hli, _⟩ := mem_rdy hi
    have hin := (Array.getElem?_eq_some_iff.1 hx).1
    have hl2 : i < listed.size := h.sz ▸ hin
    have hDi : Dl listed i = false := by
      simp only [Dl, Array.getD_eq_getD_getElem?, hl2, Array.getElem?_eq_getElem, Option.getD_some] at hli ⊢
      exact hli
    have := left_lt hin hl2 hDi
    exact draw_stepX hd ht hdst hP hTT h hi (fun a' w' h' => ih _ a' w' (by omega) h')
theorem WOps_cons (hT : TOk P T) (arr : Array Oper) {o : Oper} {r : List Oper} {env : Env} {ol : OL} {K : Env → OL → Prop} (h : WOps P T arr (o :: r) env ol K) :
    ∃ v ol1, StepJ P T arr o env ol v ol1 ∧ WOps P T arr r (putE o.dst v env) ol1 K := by
  unfold WOps at h
  have run : gd arr o env = some true → WOp P T o (evE env) ol (fun v ol' => WOps P T arr r (putE o.dst v env) ol' K) → ∃ v ol1, StepJ P T arr o env ol v ol1 ∧ WOps P T arr r (putE o.dst v env) ol1 K := by
    intro hg hw
    obtain ⟨v, hw⟩ := WOp_sound hT hw
    rcases hw with ⟨h0, h1, h2⟩ | ⟨h0, A, h1, h2, h3⟩ | ⟨h0, ol', h1, h2, _⟩
    · exact ⟨v, ol, .inr ⟨hg, .inl ⟨h0, rfl, h2⟩⟩, h1⟩
    · exact ⟨v, A ++ ol, .inr ⟨hg, .inr (.inl ⟨h0, A, rfl, h2, h3⟩)⟩, h1⟩
    · exact ⟨v, ol', .inr ⟨hg, .inr (.inr ⟨h0, h2⟩)⟩, h1⟩
  split at h
  · rename_i hg
    exact run (by simp [gd, hg]) h
  · rename_i j want hg
    split at h
    · rename_i d hd
      split at h
      · rename_i b hb
        split at h
        · rename_i hbw
          exact run (by simp only [gd, hg, hd, hb, hbw]) h
        · rename_i hbw
          exact ⟨undA, ol, .inl ⟨by simp only [gd, hg, hd, hb, hbw], rfl, rfl⟩, h⟩
      · rename_i hb
        exact ⟨undA, ol, .inl ⟨by simp only [gd, hg, hd, hb], rfl, rfl⟩, h⟩
      · exact h.elim
    · exact h.elim
def Ex (P : Program) (T : TT) (arr : Array Oper) (fr : Nat → Bool) (s : Nat) (ops : List Oper) (env : Env) (ol : OL) (K : Env → OL → Prop) : Prop :=
  ∃ (V : Nat → AV) (O : Nat → OL), O 0 = ol ∧ (∀ k o, ops[k]? = some o → StepK (kdx fr (s + k) o) P T arr o (envOf V (fun j => decide (j < k)) 0 ops env) (O k) (V k) (O (k + 1))) ∧ K (envOf V (fun _ => true) 0 ops env) (O ops.length)
theorem Ex.nil {arr : Array Oper} {s : Nat} {ol : OL} {K : Env → OL → Prop} (h : K env ol) : Ex P T arr fr s [] env ol K := ⟨fun _ => .any, fun _ => ol, rfl, fun k o hk => by simp at hk, h⟩
theorem Ex.cons {arr : Array Oper} {s : Nat} {o : Oper} {r : List Oper} {ol ol1 : OL} {v : AV} {K : Env → OL → Prop} (hs : StepK (kdx fr s o) P T arr o env ol v ol1) (h : Ex P T arr fr (s + 1) r (putE o.dst v env) ol1 K) : Ex P T arr fr s (o :: r) env ol K := by
  obtain ⟨V, O, hO, hst, hK⟩ := h
  refine ⟨fun | 0 => v | k + 1 => V k, fun | 0 => ol | k + 1 => O k, rfl, fun k o' hk => ?_, ?_⟩
  · cases k with
    | zero =>
      simp only [List.getElem?_cons_zero, Option.some.injEq] at hk
      subst hk
      have : (fun j : Nat => decide (j < 0)) = fun _ => false := by funext j; simp
      rw [this, envOf_none]
      simp only [Nat.zero_add, Nat.add_zero]
      rw [hO]
      exact hs
    | succ k =>
      have := hst k o' (by simpa using hk)
      simp only [envOf]
      rw [if_pos (by simp), envOf_shift]
      have e : (fun j : Nat => decide (j + 1 < k + 1)) = fun j => decide (j < k) := by funext j; simp
      rw [e, show s + (k + 1) = s + 1 + k from by omega]
      exact this
  · simp only [envOf, if_true]
    rw [envOf_shift]
    exact hK
theorem Ex.pre (hT : TOk P T) {arr : Array Oper} {r : List Oper} {K K' : Env → OL → Prop} : ∀ (l : List Oper) (s : Nat) (env : Env) (ol : OL), (∀ i, s ≤ i → i < s + l.length → fr i = false) → WOps P T arr l env ol K' → (∀ e o, K' e o → Ex P T arr fr (s + l.length) r e o K) → Ex P T arr fr s (l ++ r) env ol K
  | [], s, env, ol, _, h, hk => hk _ _ h
  | o :: l, s, env, ol, hf, h, hk' => by
    obtain ⟨v, ol1, hs, hw⟩ := WOps_cons hT arr h
    have hk : kdx fr s o = kind o := by unfold kdx; rw [hf s (Nat.le_refl _) (by simp)]; rfl
    refine Ex.cons (by rw [hk]; exact hs) (Ex.pre hT l (s + 1) _ _ (fun i h1 h2 => hf i (by omega) (by simp only [List.length_cons]; omega)) hw ?_)
    have e : s + (o :: l).length = s + 1 + l.length := by simp only [List.length_cons]; omega
    rw [e] at hk'
    exact hk'
def LoadC (P : Program) (T : TT) (o : Oper) (env : Env) (K : AV → Prop) : Prop :=
  o.guard = none ∧ ∃ t x u, o.op = .load t x ∧ evE env x = .cptr u ∧ (T.und t).known = true ∧ u.size = T.sz t ∧ u.isAgg = (T.und t).isAgg ∧ K u
theorem LoadC.step (hT : TOk P T) {arr : Array Oper} {o : Oper} {ol : OL} {K : AV → Prop} (h : LoadC P T o env K) : ∃ v, K v ∧ StepK 0 P T arr o env ol v ol := by
  obtain ⟨hg, t, x, u, ho, hx, hk, h1, h2, h⟩ := h
  refine ⟨u, h, .inr ⟨by simp [gd, hg], .inl ⟨rfl, rfl, fun X κ ob w ρ hP hTT hR hv => ?_⟩⟩⟩
  have hx' := hv x (by simp [ho, Op.operands])
  rw [hx] at hx'
  obtain ⟨b, oo, seg, e1, hJ, hu, hs⟩ := VR_cptr hx'
  obtain ⟨c, hrun, hvc⟩ := load_fin hT hk (K := KK X κ ob w) rfl hu hs h1 h2
  exact ⟨c, by simp [execOp, ho, e1, Instr.loadAt, Instr.sureAddr, hrun], hvc⟩
def WSeg (P : Program) (T : TT) (arr : Array Oper) : List Nat → List Oper → Env → OL → (Env → OL → Prop) → Prop
  | [], ops, env, ol, K => WOps P T arr ops env ol K
  | n :: fl, ops, env, ol, K => WOps P T arr (ops.take n) env ol (fun env' ol' => match ops.drop n with
    | o :: r => LoadC P T o env' (fun v => WSeg P T arr fl r (putE o.dst v env') ol' K)
    | [] => False)
def frL : List Nat → Nat → List Nat
  | [], _ => []
  | n :: fl, s => (s + n) :: frL fl (s + n + 1)
def frF (fl : List Nat) (i : Nat) : Bool := (frL fl 0).any (Nat.beq i)
theorem frL_ge : ∀ (fl : List Nat) (s x : Nat), x ∈ frL fl s → s ≤ x
  | [], s, x, h => by cases h
  | n :: fl, s, x, h => by
    unfold frL at h
    rcases List.mem_cons.1 h with h | h
    · omega
    · have := frL_ge fl (s + n + 1) x h; omega
theorem frL_no (fl : List Nat) {s i : Nat} (h : i < s) : (frL fl s).any (Nat.beq i) = false := by
  cases hq : (frL fl s).any (Nat.beq i) with
  | false => rfl
  | true =>
    obtain ⟨x, h1, h2⟩ := List.any_eq_true.1 hq
    have := frL_ge fl s x h1
    have := Nat.eq_of_beq_eq_true h2
    omega
theorem WSeg.ex (hT : TOk P T) {arr : Array Oper} {K : Env → OL → Prop} : ∀ (fl : List Nat) (s : Nat) (ops : List Oper) (env : Env) (ol : OL), (∀ i, s ≤ i → fr i = (frL fl s).any (Nat.beq i)) → WSeg P T arr fl ops env ol K → Ex P T arr fr s ops env ol K
  | [], s, ops, env, ol, hf, h => by
    have := Ex.pre (r := []) hT ops s env ol (fun i h1 _ => by rw [hf i h1]; rfl) (K := K) (fr := fr) (arr := arr) (P := P) (T := T) h (fun _ _ h => Ex.nil h)
    rwa [List.append_nil] at this
  | n :: fl, s, ops, env, ol, hf, h => by
    have h : WOps P T arr (ops.take n) env ol (fun env' ol' => match ops.drop n with
      | o :: r => LoadC P T o env' (fun v => WSeg P T arr fl r (putE o.dst v env') ol' K)
      | [] => False) := h
    rcases Nat.lt_or_ge n ops.length with hn | hn
    · have hl : (ops.take n).length = n := by rw [List.length_take]; omega
      obtain ⟨o, r, hor⟩ : ∃ o r, ops.drop n = o :: r := by
        cases hq : ops.drop n with
        | nil => have := congrArg List.length hq; rw [List.length_drop, List.length_nil] at this; omega
        | cons o r => exact ⟨o, r, rfl⟩
      rw [hor] at h
      have hops : ops = ops.take n ++ (o :: r) := by rw [← hor, List.take_append_drop]
      rw [hops]
      refine Ex.pre hT (ops.take n) s env ol (fun i h1 h2 => ?_) h (fun env' ol' hh => ?_)
      · rw [hl] at h2
        rw [hf i h1]
        show (Nat.beq i (s + n) || (frL fl (s + n + 1)).any (Nat.beq i)) = false
        rw [frL_no fl (by omega), beq_ff (by omega)]; rfl
      · rw [hl]
        obtain ⟨v, hv, hs⟩ := LoadC.step hT (arr := arr) (ol := ol') hh
        have hfr : fr (s + n) = true := by
          rw [hf _ (by omega)]
          show (Nat.beq (s + n) (s + n) || _) = true
          rw [Nat.beq_refl]; rfl
        refine Ex.cons (v := v) (ol1 := ol') ?_ (WSeg.ex hT fl (s + n + 1) r _ _ (fun i hi => ?_) hv)
        · have : kdx fr (s + n) o = 0 := by unfold kdx; rw [hfr]; rfl
          rw [this]; exact hs
        · rw [hf i (by omega)]
          show (Nat.beq i (s + n) || _) = _
          rw [beq_ff (by omega)]; rfl
    · have e : ops.drop n = [] := List.drop_of_length_le hn
      rw [e] at h
      have := Ex.pre (r := []) hT (ops.take n) s env ol (fun i h1 h2 => ?_) (K := K) (fr := fr) (arr := arr) (P := P) (T := T) h (fun _ _ hh => hh.elim)
      · rwa [List.append_nil, List.take_of_length_le hn] at this
      · have : (ops.take n).length ≤ n := List.length_take_le _ _
        rw [hf i h1]
        show (Nat.beq i (s + n) || (frL fl (s + n + 1)).any (Nat.beq i)) = false
        rw [frL_no fl (by omega), beq_ff (by omega)]; rfl
theorem snd_drawX (hT : TOk P T) (hm : P.follows .mixedOrders = true) (fl : List Nat) {N id : Nat} {ol : OL} {Q : Exit → Env → OL → Prop} (hd : drawOkX ops (frF fl) = true) (hdst : dstOk N ops.toList = true)
    (h : WSeg P T ops fl ops.toList env ol (fun env' ol' => Q .normal env' ol')) : Snd P T N (.region id ops true) env ol Q := by
  intro X κ a w hP hTT hR hE hN hD
  obtain ⟨V, O, hO, hst, hK⟩ := WSeg.ex hT (fr := frF fl) fl 0 ops.toList env ol (fun i _ => rfl) h
  have hd := chkX_ok hd
  have ht : TrX P T ops (frF fl) env V O := ⟨fun k o hk => by have := hst k o (by rw [Array.getElem?_toList]; exact hk); rwa [Nat.zero_add] at this⟩
  have hDl : ∀ j, Dl (Array.replicate ops.size false) j = false := fun j => by
    simp only [Dl, Array.getD_eq_getD_getElem?, Array.getElem?_replicate]
    split <;> rfl
  have hM : MemX ops (frF fl) O (Dl (Array.replicate ops.size false)) ol.ob := by
    obtain ⟨e, q1, q2, q3, q4⟩ := nextAct ops (frF fl) ops.size 0 (by omega)
    rw [← hO]
    exact ⟨0, e, Mem1.start ht q1 q2 q3 q4 (fun i oi _ _ => by rw [hDl]; exact ⟨fun h => (by cases h), fun h => absurd h (Nat.not_lt_zero _)⟩) (fun i oi _ _ h => absurd h (Nat.not_lt_zero _)) (fun i oi _ _ _ => hDl i)⟩
  refine wp_region_any hm (draw_anyX hd ht hdst hP hTT (by rw [Array.length_toList] at hK; exact hK) _ _ a _ ?_ ⟨by simp, fun i oi _ hi => (by rw [hDl] at hi; cases hi), ⟨κ, ol.ob, hR.drew, fun t => ?_, hM⟩, hN, hD⟩)
  · unfold left
    exact Nat.le_trans (List.length_filter_le _ _) (by simp)
  · have e : Dl (Array.replicate ops.size false) = fun _ => false := funext hDl
    rw [e, envOf_none]
    exact hE t
section
variable {N : Nat} {id : Nat} {ol : OL} {Q : Exit → Env → OL → Prop}
theorem sdX (hT : TOk P T) (hm : P.follows .mixedOrders = true) (fl : List Nat) {y : Code} {env' : Env} {ol' : OL} (ho : drawOkX ops (frF fl) = true) (hd : dstOk N ops.toList = true)
    (h : ∀ R : Env → OL → Prop, R env' ol' → WSeg P T ops fl ops.toList env ol R) (hy : Snd P T N y env' ol' Q) : Snd P T N (.seq (.region id ops true) y) env ol Q :=
  snd_seq (snd_drawX hT hm fl ho hd (h _ hy))
theorem ldX (hT : TOk P T) (hm : P.follows .mixedOrders = true) (fl : List Nat) {env' : Env} {ol' : OL} (ho : drawOkX ops (frF fl) = true) (hd : dstOk N ops.toList = true)
    (h : ∀ R : Env → OL → Prop, R env' ol' → WSeg P T ops fl ops.toList env ol R) (hy : Q .normal env' ol') : Snd P T N (.region id ops true) env ol Q :=
  snd_drawX hT hm fl ho hd (h _ hy)
theorem wx_ldc {all : Array Oper} {fl : List Nat} {r : List Oper} {x : Operand} {t ty : TypeId} {d : Nat} {pos : String} {af : Array Edge} {K : Env → OL → Prop} {w v : AV} (hx : evE env x = .cptr w) (hk : (T.und t).known = true) (hv : HV w v) (hz : v.size = T.sz t) (ha : v.isAgg = (T.und t).isAgg)
    (hr : WSeg P T all fl r ((d, v) :: env) ol K) : LoadC P T ⟨some d, .load t x, ty, pos, af, none⟩ env (fun v => WSeg P T all fl r (putE (some d) v env) ol K) := by
  have := hv.eq; subst this
  exact ⟨rfl, t, x, _, rfl, hx, hk, hz, ha, hr⟩
end
theorem mt_expc {at_ : Nat → Nat → Option (AV × AV)} {d : Nat} {v : AV} (h : v.closed) (hn : v ≠ .any) : Mt V0 v (exp at_ d v) := by
  rw [exp_closed h]; exact Mt.rf h hn
end Go.Am

namespace Go.Am
section
variable {P : Program} {T : TT} {N : Nat} {ks : List Nat} {env : Env} {ol : OL} {Q : Exit → Env → OL → Prop}
theorem srp (hT : TOk P T) {id : Nat} {ops : Array Oper} {y : Code} {env' : Env} {ol' : OL} (hd : dstOk N ops.toList = true)
    (h : ∀ R : Env → OL → Prop, R env' ol' → WOps P T ops ops.toList env ol R) (hy : Snp ks P T N y env' ol' Q) : Snp ks P T N (.seq (.region id ops false) y) env ol Q :=
  snp_seq (snp_region hT hd (h _ hy))
theorem lrp (hT : TOk P T) {id : Nat} {ops : Array Oper} {env' : Env} {ol' : OL} (hd : dstOk N ops.toList = true)
    (h : ∀ R : Env → OL → Prop, R env' ol' → WOps P T ops ops.toList env ol R) (hy : Q .normal env' ol') : Snp ks P T N (.region id ops false) env ol Q :=
  snp_region hT hd (h _ hy)
theorem sqp {c : Code} {env2 : Env} {ol2 : OL} (he : env = env2) (ho : ol = ol2) (h : Snp ks P T N c env2 ol2 Q) : Snp ks P T N c env ol Q := by
  subst he; subst ho; exact h
theorem WOps_runp (hT : TOk P T) (arr : Array Oper) {X : Cx} (hP : X.P = P) (hTT : X.T = T) {κ0 : Gh} {K : Env → OL → Prop} {rest : List Oper} {Qx : Exit → Act → World → Prop}
    (hk : ∀ env ol κ a w, K env ol → Rel X κ ol.ob w → EnvR (KK X κ ol.ob w) env a.tmps → a.tmps.size = N → a.defers = [] → PinOk ks κ0 X κ ol w → wpList P arr Qx rest a w) :
    ∀ (ops : List Oper) (env : Env) (ol : OL), WOps P T arr ops env ol K → dstOk N ops = true → ∀ (κ : Gh) (a : Act) (w : World), Rel X κ ol.ob w → EnvR (KK X κ ol.ob w) env a.tmps → a.tmps.size = N → a.defers = [] → PinOk ks κ0 X κ ol w → wpList P arr Qx (ops ++ rest) a w
  | [], env, ol, h, _, κ, a, w, hR, hE, hN, hD, hp => hk env ol κ a w h hR hE hN hD hp
  | o :: r, env, ol, h, hdst, κ, a, w, hR, hE, hN, hD, hp => by
    simp only [dstOk, List.all_cons, Bool.and_eq_true] at hdst
    have hlt : ∀ t, o.dst = some t → t < a.tmps.size := fun t ht => by
      have := hdst.1
      rw [ht] at this
      rw [hN]; simpa [Nat.blt_eq] using this
    have run : WOp P T o (evE env) ol (fun v ol' => WOps P T arr r (putE o.dst v env) ol' K) → o.wp P a w (wpList P arr Qx (r ++ rest)) Qx := by
      intro hw
      obtain ⟨v, ol', h1, h2⟩ := WOp_out hT hw
      have := h2 X κ w a hP hTT hR hE
      unfold Oper.wp
      rw [← hP]
      rw [← hP] at this
      refine upon_of_Out this (fun c w' κ' hR' hv hle => ?_)
      rw [hP]
      exact WOps_runp hT arr hP hTT hk r _ ol' h1 hdst.2 κ' _ w' hR' ((hE.mono hle).put hv hlt) (by rw [Act.put_size]; exact hN) (by rw [Act.put_defers]; exact hD) (hp.le hle)
    have skip : WOps P T arr r (putE o.dst undA env) ol K → wpList P arr Qx (r ++ rest) (a.put o.dst undef) w := fun hw =>
      WOps_runp hT arr hP hTT hk r _ ol hw hdst.2 κ _ w hR (hE.put (undA_ok _) hlt) (by rw [Act.put_size]; exact hN) (by rw [Act.put_defers]; exact hD) hp
    unfold WOps at h
    show wpList P arr Qx (o :: (r ++ rest)) a w
    unfold wpList
    split at h
    · rename_i hg
      rw [if_pos (by simp [Region.wanted, hg])]
      exact .inl (run h)
    · rename_i j want hg
      split at h
      · rename_i d hd
        split at h
        · rename_i b hb
          have hy := yielded_of hd hE hb (dst_lt_of_eq hE hb)
          split at h
          · rename_i hbw
            have : b = want := by simpa using hbw
            subst this
            rw [if_pos (by simp [Region.wanted, hg, hy])]
            exact .inl (run h)
          · rename_i hbw
            have : b ≠ want := by simpa using hbw
            rw [if_neg (by simp [Region.wanted, hg, hy, this])]
            exact skip h
        · rename_i f hb
          have hy := yielded_none hd hE hb
          rw [if_neg (by simp [Region.wanted, hg, hy])]
          exact skip h
        · exact h.elim
      · exact h.elim
theorem lrDp (hT : TOk P T) {id : Nat} {ops : Array Oper} {ops1 ops2 : List Oper} {o : Oper} {env1 env' : Env} {ol1 ol2 ol' : OL} {v : AV} (hd : dstOk N ops.toList = true)
    (hops : ops.toList = ops1 ++ o :: ops2) (hg : o.guard = none)
    (h1 : ∀ R : Env → OL → Prop, R env1 ol1 → WOps P T ops ops1 env ol R) (hm : MidJ P T o env1 ol1 v ol2)
    (h2 : ∀ R : Env → OL → Prop, R env' ol' → WOps P T ops ops2 (putE o.dst v env1) ol2 R)
    (hy : Q .normal env' ol') : Snp ks P T N (.region id ops false) env ol Q := by
  intro κ0 X κ a w hP hTT hR hE hN hD hp
  refine wp_region_list ?_
  rw [hops] at hd ⊢
  simp only [dstOk, List.all_append, List.all_cons, Bool.and_eq_true] at hd
  have hlt : ∀ (a : Act), a.tmps.size = N → ∀ t, o.dst = some t → t < a.tmps.size := fun a hN t ht => by
    have := hd.2.1
    rw [ht] at this
    rw [hN]; simpa [Nat.blt_eq] using this
  refine WOps_runp hT ops hP hTT (K := fun e l => e = env1 ∧ l = ol1) ?_ ops1 env ol (h1 _ ⟨rfl, rfl⟩) hd.1 κ a w hR hE hN hD hp
  rintro e l κ1 a1 w1 ⟨rfl, rfl⟩ hR1 hE1 hN1 hD1 hp1
  unfold wpList
  rw [if_pos (by simp [Region.wanted, hg])]
  refine .inl ?_
  unfold Oper.wp
  have := hm X κ1 w1 a1 hP hTT hR1 hE1
  rw [← hP]
  rw [← hP] at this
  refine upon_of_Out this (fun c w' κ' hR' hv hle => ?_)
  rw [hP]
  exact WOps_soundp hT ops (Q := Q) ops2 _ _ (h2 _ hy) hd.2.2 X κ' (a1.put o.dst c) w' hP hTT hR' ((hE1.mono hle).put hv (hlt a1 hN1)) (by rw [Act.put_size]; exact hN1) (by rw [Act.put_defers]; exact hD1) (hp1.le hle)
theorem srDp (hT : TOk P T) {id : Nat} {ops : Array Oper} {ops1 ops2 : List Oper} {o : Oper} {y : Code} {env1 env' : Env} {ol1 ol2 ol' : OL} {v : AV} (hd : dstOk N ops.toList = true)
    (hops : ops.toList = ops1 ++ o :: ops2) (hg : o.guard = none)
    (h1 : ∀ R : Env → OL → Prop, R env1 ol1 → WOps P T ops ops1 env ol R) (hm : MidJ P T o env1 ol1 v ol2)
    (h2 : ∀ R : Env → OL → Prop, R env' ol' → WOps P T ops ops2 (putE o.dst v env1) ol2 R)
    (hy : Snp ks P T N y env' ol' Q) : Snp ks P T N (.seq (.region id ops false) y) env ol Q :=
  snp_seq (lrDp hT hd hops hg h1 hm h2 hy)
end
theorem emb_famR {ρ : Nat → Nat → Nat × Nat} {ko kf ko' kf' N e : Nat} {w : Nat → Nat} {F : Nat → Nat → Int} {g : Nat → AV} {env' env : Env} {ol' : OL} (h1' : ∀ i, ρ ko i = (ko', i)) (h2' : ∀ i, ρ kf i = (kf', i)) (hne : ko' ≠ kf')
    (hk : ko ≠ kf) (h1 : ol'.at_ ko' 0 = some (ZR N, .arr N g)) (hg : ∀ j, j < N → g j = .own kf' j (w j) e)
    (h3 : ∀ r, r < N → ∃ C, ol'.at_ kf' r = some (Z64 (w r), C) ∧ ∀ V : Vw, Mt V (C64 (w r) (F r)) C)
    (henv : envAll (fun t v => MtE (vwOf ρ ol' [(ko, .one (ZR N) (CO kf N w e)), (kf, .many (famF N w F))]) v (get env' t)) env) :
    Emb ρ env' ol' env [(ko, .one (ZR N) (CO kf N w e)), (kf, .many (famF N w F))] := by
  have hdom : OL.has [(ko, .one (ZR N) (CO kf N w e)), (kf, .many (famF N w F))] kf = true := by simp [OL.has]
  refine ⟨henv, ⟨?_, fun r sh cc h => ?_, trivial⟩, ⟨⟨fun _ => ⟨rfl, rfl⟩, fun r sh cc h he => ?_, trivial⟩, fun r sh cc h => ⟨fun he => ?_, fun r2' sh2 cc2 h2 he => ?_, trivial⟩, trivial⟩⟩
  · dsimp only
    rw [h1']
    dsimp only
    rw [h1]
    exact ⟨rfl, ⟨rfl, fun _ => trivial⟩, rfl, fun j hj => by rw [hg j hj]; exact ⟨h2' j, rfl, rfl, hdom⟩⟩
  · obtain ⟨hr, rfl, rfl⟩ := famF_some h
    rw [h2']
    dsimp only
    obtain ⟨C, h3, h4⟩ := h3 r hr
    rw [h3]
    exact ⟨rfl, ⟨rfl, fun _ => trivial⟩, h4 _⟩
  · rw [h1', h2'] at he
    exact absurd (congrArg Prod.fst he) hne
  · rw [h1', h2'] at he
    exact absurd (congrArg Prod.fst he).symm hne
  · rw [h2', h2'] at he
    exact ⟨rfl, congrArg Prod.snd he⟩
theorem rtp {T : TT} {ks : List Nat} {t : Nat} {env : Env} {ol H : OL} {r : AV} {ρ : Nat → Nat → Nat × Nat} (h : Emb ρ [(0, get env t)] ol [(0, r)] H) (hp : pins ks ρ H) : retQp ks T [.tmp t] r H .ret env ol := ⟨ρ, h, hp⟩
end Go.Am

namespace Go.Am
theorem rt_own_u {T : TT} {env : Env} {ol : OL} {t s key n m e : Nat} {F G : Nat → AV} {sh : Nat → AV} {u : AV} (hx : get env t = .own key 0 n e) (hu : ∀ V, Mt V u (get env s)) (ho : ol.at_ key 0 = some (.arr n sh, .arr n G)) (hn : n = m) (hs : ∀ i, ssh (sh i) (F i)) (hf : ∀ V : Vw, ∀ i, i < m → Mt V (F i) (G i)) :
    retQ T [.tmp t, .tmp s] (.tup 2 (pairA (.own 0 0 m e) u)) [(0, .one (.arr m sh) (.arr m F))] .ret env ol := by
  subst hn
  refine ⟨fun _ _ => (key, 0), ⟨⟨rfl, fun i hi => ?_⟩, trivial⟩, ⟨?_, trivial⟩, ⟨⟨fun _ => ⟨rfl, rfl⟩, trivial⟩, trivial⟩⟩
  · match i, hi with
    | 0, _ =>
      show Mt _ (.own 0 0 n e) (get env t)
      rw [hx]
      exact ⟨rfl, rfl, rfl, rfl⟩
    | 1, _ => exact hu _
  · show (match ol.at_ key 0 with | some (sh', c') => _ | none => False)
    rw [ho]
    exact ⟨rfl, ⟨rfl, hs⟩, rfl, hf _⟩
theorem mt_row0 {at_ : Nat → Nat → Option (AV × AV)} {k e N : Nat} {sh : AV} {f : Nat → Int} (h : at_ k 0 = some (sh, C64 N f)) : Mt V0 (rowA N f) (exp at_ 4 (.own k 0 N e)) := by
  show Mt V0 _ (match at_ k 0 with | some (_, .arr m f) => AV.ro m (fun j => exp at_ 3 (f j)) | _ => .any)
  rw [h]
  exact ⟨rfl, fun j _ => rfl⟩
theorem mt_int0 {at_ : Nat → Nat → Option (AV × AV)} {k : IntKind} {x : Int} : Mt V0 (.int k x) (exp at_ 4 (.int k x)) := rfl
theorem mt_nil0 {at_ : Nat → Nat → Option (AV × AV)} {S : Nat → AV} : Mt V0 (.ro 0 S) (exp at_ 4 .nilsl) := rfl
end Go.Am

namespace Go.Am
abbrev T3 := Nat → Nat → Nat → Int
end Go.Am

namespace Go.Am
def apF (p : Int) (F : Nat → Nat → Int) (v : Nat → Int) : Nat → Nat → Int
  | 0 => fun _ => 0
  | i + 1 => addF p (apF p F v i) (F i) (v i)
def starP (p : Int) (n : Nat) (T : T3) (fo : Nat → Int) (F : Nat → Nat → Int) : Prop :=
  ∀ i, i < n → (eqN 6 (apF p F (F i) n) (eF i) ∧ formF p fo (F i) = fo i) ∧ ∀ j, j < n → eqN 6 (apF p F (T i j) n) (timesF p n T (F j) (F i))
noncomputable instance (p : Int) (n : Nat) (T : T3) (fo : Nat → Int) (F : Nat → Nat → Int) : Decidable (starP p n T fo F) := Classical.propDecidable _
def liP (p : Int) (n : Int) (M : Nat) (F : Nat → Nat → Int) : Prop := (M : Int) = n ∧ ∀ i, i < M → smP p n (F i)
noncomputable instance (p n : Int) (M : Nat) (F : Nat → Nat → Int) : Decidable (liP p n M F) := Classical.propDecidable _
end Go.Am

namespace Go.Am
def parD (c : Int) : Int := if 48 ≤ c ∧ c ≤ 57 then c - 48 else if 97 ≤ c ∧ c ≤ 99 then c - 87 else -1
def rdD (s : ByteArray) (i : Nat) : Int := parD (byteAt s i)
def rdOk (s : ByteArray) (n : Nat) : Prop := s.size = n ∧ ∀ i, i < n → 0 ≤ rdD s i
noncomputable instance (s : ByteArray) (n : Nat) : Decidable (rdOk s n) := Classical.propDecidable _
def rdF (s : ByteArray) (n : Nat) : Nat → Int := fun i => if i < n ∧ 0 ≤ rdD s i then rdD s i else 0
def rdV (p : Int) (n : Nat) (s : ByteArray) : Prop := rdOk s n ∧ smP p (n : Int) (rdF s n)
noncomputable instance (p : Int) (n : Nat) (s : ByteArray) : Decidable (rdV p n s) := Classical.propDecidable _
end Go.Am

namespace Go.Am
theorem inc_id {n : Nat} {l : Nat → Nat} (h : ∀ i j, i < j → j < n → l i < l j) (hl : ∀ i, i < n → l i < n) : ∀ i, i < n → l i = i := by
  have lo : ∀ i, i < n → i ≤ l i := by
    intro i
    induction i with
    | zero => intro _; omega
    | succ i ih => intro hi; have := ih (by omega); have := h i (i + 1) (by omega) hi; omega
  have hi : ∀ d i, i + d = n - 1 → i < n → l i ≤ i := by
    intro d
    induction d with
    | zero => intro i h1 h2; have := hl i h2; omega
    | succ d ih => intro i h1 h2; have h3 := ih (i + 1) (by omega) (by omega); have := h i (i + 1) (by omega) (by omega); omega
  intro i h1
  have := lo i h1
  have := hi (n - 1 - i) i (by omega) h1
  omega
section
variable {p : Int} {n : Nat} {A : Nat → Nat → Int}
def gS (n : Nat) (A : Nat → Nat → Int) (i : Nat) : Nat → Nat → Int := fun r j => if j < n then A r j else dl r i
theorem gS_Bp (hp : 1 < p) (hA : ∀ i, Bp p (A i)) (i r : Nat) : Bp p (gS n A i r) := fun j => by
  unfold gS dl
  split
  · exact hA r j
  · split <;> omega
theorem full_null (hp : primeB p = true) (hA : ∀ i, Bp p (A i)) (hr : (redGo p n A n).no = n) {x : Nat → Int} (hx : Null p n n A x) {j : Nat} (hj : j < n) : p ∣ x j := by
  obtain ⟨⟨l, rr⟩, hn⟩ := red_ok (m := n) hp (fun i (_ : i < n) => hA i)
  have hx' := (hn x).2 hx
  have hl : ∀ i, i < (redGo p n A n).no → l i = i := by
    have := inc_id (n := (redGo p n A n).no) rr.inc (fun i hi => by have := (rr.lead i hi).1; omega)
    exact this
  have := null_lead rr hx' (i := j) (by omega) (fun k hk hne => by
    rw [hl j (by omega)] at hne
    have h0 := rr.off k j (by omega) (by omega) hne
    rw [hl k (by omega)] at h0
    rw [h0, Int.zero_mul])
  rwa [hl j (by omega)] at this
theorem gS_dot {i r : Nat} (x : Nat → Int) : dot n (gS n A i r) x = dot n (A r) x := dot_congr n (fun j hj => by unfold gS; rw [if_pos hj])
theorem gS_n {i r : Nat} : gS n A i r n = dl r i := by unfold gS; rw [if_neg (Nat.lt_irrefl n)]
theorem gS_con (hp : primeB p = true) (hA : ∀ i, Bp p (A i)) (hr : (redGo p n A n).no = n) (i : Nat) : conP n (redGo p n (gS n A i) (n + 1)).no (redGo p n (gS n A i) (n + 1)).O := by
  have hpb := primeB_bd hp
  obtain ⟨⟨l, rr⟩, hn⟩ := red_ok (m := n + 1) hp (fun r (_ : r < n) => gS_Bp (n := n) (by omega) hA i r)
  have hno := red_counts p n (gS n A i) (n + 1)
  generalize (redGo p n (gS n A i) (n + 1)).no = no at *
  generalize (redGo p n (gS n A i) (n + 1)).O = O at *
  intro i0 hi0
  apply Classical.byContradiction
  intro hge
  have hl0 : l i0 = n := by
    have h1 := (rr.lead i0 hi0).1
    rw [leadN_of (rr.lead i0 hi0)] at hge
    omega
  obtain ⟨c, hc, hcl⟩ : ∃ c, c < n ∧ ¬ IsL no l c := by
    apply Classical.byContradiction
    intro hall
    have hall : ∀ c, c < n → IsL no l c := fun c hc => Classical.byContradiction fun h => hall ⟨c, hc, h⟩
    have := (inc_eq (n := no) (n' := n + 1) (l := l) (l' := fun i => i) rr.inc (fun i j h _ => h) (fun i hi => ⟨l i, (rr.lead i hi).1, rfl⟩) (fun c hc => by
      rcases Nat.lt_or_ge c n with h | h
      · exact hall c h
      · exact ⟨i0, hi0, by omega⟩)).1
    omega
  have hx := (hn _).1 (solC_null rr (c := c) (by omega) hcl)
  have hxn : solC no O l c n = 0 := by
    have h1 := solC_lead rr hcl hi0
    rw [hl0] at h1
    rw [h1, (rr.lead i0 hi0).2.2 c (by omega)]; rfl
  have hA0 : Null p n n A (solC no O l c) := by
    intro r hr'
    have h1 := hx r hr'
    unfold Z at h1 ⊢
    have h2 : dot (n + 1) (gS n A i r) (solC no O l c) = dot n (A r) (solC no O l c) := by
      show dot n (gS n A i r) _ + gS n A i r n * solC no O l c n = _
      rw [gS_dot, hxn, Int.mul_zero, Int.add_zero]
    rwa [h2] at h1
  have h1 := full_null hp hA hr hA0 hc
  rw [solC_self] at h1
  have := Int.le_of_dvd (by omega) h1
  omega
theorem gS_one (hp : primeB p = true) (hA : ∀ i, Bp p (A i)) (hr : (redGo p n A n).no = n) (i : Nat) : oS p n n (gS n A i) := by
  have hpb := primeB_bd hp
  obtain ⟨⟨l, rr⟩, hn⟩ := red_ok (m := n + 1) hp (fun r (_ : r < n) => gS_Bp (n := n) (by omega) hA i r)
  have hs := sol_of_con rr (gS_con hp hA hr i)
  have hs' : Sol p n n (gS n A i) _ := sol_null.2 ((hn _).1 (sol_null.1 hs))
  refine oS_of hp (gS_Bp (by omega) hA i) hs' (fun y hy j hj => ?_)
  generalize solGo n (redGo p n (gS n A i) (n + 1)).O (redGo p n (gS n A i) (n + 1)).no = x at hs'
  have hd : Null p n n A (fun j => y j - x j) := by
    intro r hr'
    have h1 := hy r hr'
    have h2 := hs' r hr'
    rw [gS_dot] at h1 h2
    have h3 : dot n (A r) (fun j => y j - x j) = dot n (A r) y - dot n (A r) x := by
      unfold dot
      rw [show (fun j => A r j * (y j - x j)) = fun j => A r j * y j + (-1) * (A r j * x j) from funext fun j => by rw [Int.mul_sub]; omega, sumZ_add, sumZ_mul]
      omega
    unfold Z
    rw [h3]
    exact dvd_tr h1 (dvd_sy h2)
  exact full_null hp hA hr hd hj
def cpM (p : Int) (n : Nat) (A : Nat → Nat → Int) (r i : Nat) : Int := sS p n n (gS n A i) r
theorem cpM_Bp (hp : primeB p = true) (hA : ∀ i, Bp p (A i)) (hr : (redGo p n A n).no = n) (r : Nat) : Bp p (cpM p n A r) := fun i =>
  (oS_sol hp (gS_Bp (by have := primeB_bd hp; omega) hA i) (gS_one hp hA hr i)).2.1.b r
theorem cpM_mul (hp : primeB p = true) (hA : ∀ i, Bp p (A i)) (hr : (redGo p n A n).no = n) {r i : Nat} (hr' : r < n) : p ∣ sumZ (fun j => A r j * cpM p n A j i) n - dl r i := by
  have h := (oS_sol hp (gS_Bp (by have := primeB_bd hp; omega) hA i) (gS_one hp hA hr i)).1 r hr'
  rw [gS_dot, gS_n] at h
  exact h
def auS (n : Nat) (A : Nat → Nat → Int) : Nat → Nat → Int := fun r j => if j < n then A r j else dl r (j - n)
theorem auS_Bp (hp : 1 < p) (hA : ∀ i, Bp p (A i)) (r : Nat) : Bp p (auS n A r) := fun j => by
  unfold auS dl
  split
  · exact hA r j
  · split <;> omega
def auO (p : Int) (n : Nat) (A : Nat → Nat → Int) : Nat → Nat → Int := fun r j => if j < n then dl r j else cpM p n A r (j - n)
theorem dot_split (f x : Nat → Int) (n : Nat) : ∀ m, dot (n + m) f x = dot n f x + dot m (fun j => f (n + j)) (fun j => x (n + j))
  | 0 => by show _ = _ + 0; rw [Int.add_zero]; rfl
  | m + 1 => by
    show dot (n + m) f x + f (n + m) * x (n + m) = dot n f x + (dot m _ _ + f (n + m) * x (n + m))
    rw [dot_split f x n m, Int.add_assoc]
theorem au_dot {r : Nat} (hr : r < n) (x : Nat → Int) : dot (n + n) (auS n A r) x = dot n (A r) x + x (n + r) := by
  rw [dot_split]
  congr 1
  · exact dot_congr n (fun j hj => by unfold auS; rw [if_pos hj])
  · have : dot n (fun j => auS n A r (n + j)) (fun j => x (n + j)) = sumZ (fun j => (fun j => x (n + j)) j * dl j r) n := by
      refine sumZ_congr n (fun j hj => ?_)
      show auS n A r (n + j) * x (n + j) = x (n + j) * dl j r
      unfold auS
      rw [if_neg (by omega), Nat.add_sub_cancel_left, Int.mul_comm]
      congr 1
      unfold dl
      by_cases h : r = j
      · rw [if_pos h, if_pos h.symm]
      · rw [if_neg h, if_neg (Ne.symm h)]
    rw [this, sum_dl (fun j => x (n + j)) hr]
theorem auO_dot {r : Nat} (hr : r < n) (x : Nat → Int) : dot (n + n) (auO p n A r) x = x r + sumZ (fun i => cpM p n A r i * x (n + i)) n := by
  rw [dot_split]
  congr 1
  · have : dot n (auO p n A r) x = sumZ (fun j => x j * dl j r) n := by
      refine sumZ_congr n (fun j hj => ?_)
      unfold auO
      rw [if_pos hj, Int.mul_comm]
      congr 1
      unfold dl
      by_cases h : r = j
      · rw [if_pos h, if_pos h.symm]
      · rw [if_neg h, if_neg (Ne.symm h)]
    rw [this, sum_dl x hr]
  · exact sumZ_congr n (fun j hj => by show auO p n A r (n + j) * x (n + j) = _; unfold auO; rw [if_neg (by omega), Nat.add_sub_cancel_left])
theorem cpM_app (hp : primeB p = true) (hA : ∀ i, Bp p (A i)) (hr : (redGo p n A n).no = n) (y : Nat → Int) {r : Nat} (hr' : r < n) : p ∣ sumZ (fun j => A r j * sumZ (fun i => cpM p n A j i * y i) n) n - y r := by
  have e : sumZ (fun j => A r j * sumZ (fun i => cpM p n A j i * y i) n) n = sumZ (fun i => sumZ (fun j => A r j * cpM p n A j i) n * y i) n := by
    rw [show (fun j => A r j * sumZ (fun i => cpM p n A j i * y i) n) = fun j => sumZ (fun i => A r j * (cpM p n A j i * y i)) n from funext fun j => (sumZ_mul _ _ n).symm, sumZ_swap]
    refine sumZ_congr n (fun i hi => ?_)
    rw [← sumZ_mulr]
    exact sumZ_congr n (fun j hj => by rw [Int.mul_assoc])
  rw [e]
  have h := sumZ_dvd (p := p) (f := fun i => sumZ (fun j => A r j * cpM p n A j i) n * y i) (g := fun i => y i * dl i r) n (fun i hi => by
    have h1 := cpM_mul hp hA hr (i := i) hr'
    have h2 : sumZ (fun j => A r j * cpM p n A j i) n * y i - y i * dl i r = (sumZ (fun j => A r j * cpM p n A j i) n - dl r i) * y i := by
      rw [Int.sub_mul, Int.mul_comm (y i)]
      congr 2
      unfold dl
      by_cases h : r = i
      · rw [if_pos h, if_pos h.symm]
      · rw [if_neg h, if_neg (Ne.symm h)]
    rw [h2]
    exact Int.dvd_mul_of_dvd_left h1)
  rwa [sum_dl y hr'] at h
theorem au_red (hp : primeB p = true) (hA : ∀ i, Bp p (A i)) (hr : (redGo p n A n).no = n) :
    (redGo p n (auS n A) (n + n)).no = n ∧ ∀ r, r < n → ∀ j, j < n + n → (redGo p n (auS n A) (n + n)).O r j = auO p n A r j := by
  have hpb := primeB_bd hp
  obtain ⟨⟨l, rr⟩, hn⟩ := red_ok (m := n + n) hp (fun r (_ : r < n) => auS_Bp (n := n) (by omega) hA r)
  have rr' : Rref p (n + n) n (auO p n A) (fun i => i) := by
    refine ⟨fun i hi j => ?_, fun i hi => ⟨by omega, ?_, fun j hj => ?_⟩, fun i j hi hj hne => ?_, fun i j h _ => h⟩
    · unfold auO dl
      split
      · split <;> omega
      · exact cpM_Bp hp hA hr i _
    · unfold auO dl; rw [if_pos hi, if_pos rfl]
    · unfold auO dl; rw [if_pos (by omega), if_neg (by omega)]
    · unfold auO dl; rw [if_pos hi, if_neg (Ne.symm hne)]
  have hN : ∀ x, Null p (n + n) (redGo p n (auS n A) (n + n)).no (redGo p n (auS n A) (n + n)).O x ↔ Null p (n + n) n (auO p n A) x := by
    intro x
    rw [hn x]
    have hC := fun r (hr' : r < n) => cpM_app hp hA hr (fun i => x (n + i)) hr'
    constructor
    · intro h
      have hz : Null p n n A (fun j => x j + sumZ (fun i => cpM p n A j i * x (n + i)) n) := by
        intro r hr'
        have h1 := h r hr'
        unfold Z at h1 ⊢
        rw [au_dot hr'] at h1
        have h2 := hC r hr'
        have e : dot n (A r) (fun j => x j + sumZ (fun i => cpM p n A j i * x (n + i)) n) = dot n (A r) x + sumZ (fun j => A r j * sumZ (fun i => cpM p n A j i * x (n + i)) n) n := by
          unfold dot
          rw [← sumZ_add]
          exact sumZ_congr n (fun j _ => Int.mul_add _ _ _)
        rw [e]
        have := Int.dvd_add h1 h2
        rwa [show dot n (A r) x + x (n + r) + (sumZ (fun j => A r j * sumZ (fun i => cpM p n A j i * x (n + i)) n) n - x (n + r)) = dot n (A r) x + sumZ (fun j => A r j * sumZ (fun i => cpM p n A j i * x (n + i)) n) n by omega] at this
      intro r hr'
      unfold Z
      rw [auO_dot hr']
      exact full_null hp hA hr hz hr'
    · intro h r hr'
      unfold Z
      rw [au_dot hr']
      have h2 := hC r hr'
      have h1 : p ∣ dot n (A r) x + sumZ (fun j => A r j * sumZ (fun i => cpM p n A j i * x (n + i)) n) n := by
        unfold dot
        rw [← sumZ_add]
        have := sumZ_dvd (p := p) (f := fun j => A r j * x j + A r j * sumZ (fun i => cpM p n A j i * x (n + i)) n) (g := fun _ => 0) n (fun j hj => by
          have h3 := h j hj
          unfold Z at h3
          rw [auO_dot hj] at h3
          rw [← Int.mul_add, Int.sub_zero]
          exact Int.dvd_mul_of_dvd_right h3)
        rwa [sumZ_zero, Int.sub_zero] at this
      have := Int.dvd_sub h1 h2
      rwa [show dot n (A r) x + sumZ (fun j => A r j * sumZ (fun i => cpM p n A j i * x (n + i)) n) n - (sumZ (fun j => A r j * sumZ (fun i => cpM p n A j i * x (n + i)) n) n - x (n + r)) = dot n (A r) x + x (n + r) by omega] at this
  obtain ⟨h1, h2⟩ := rref_unique (by omega) rr rr' hN
  exact ⟨h1, fun r hr' j hj => h2 r (by omega) j hj⟩
end
def ρ2x (a b : Nat) : Nat → Nat → Nat × Nat := fun k i => bif Nat.beq k a then (b, i) else (k, i)
section
variable {n i j r : Nat}
theorem w02 : (if r < i then n + n else n) = (if r < i then n + n else if r = i then n + 0 else n) := by
  by_cases h : r < i
  · rw [if_pos h, if_pos h]
  · rw [if_neg h, if_neg h]; split <;> rfl
theorem w20 : (if r < i then n + n else if r = i then n + n else n) = (if r < i + 1 then n + n else n) := by
  by_cases h : r < i
  · rw [if_pos h, if_pos (by omega)]
  · rw [if_neg h]
    by_cases h2 : r = i
    · rw [if_pos h2, if_pos (by omega)]
    · rw [if_neg h2, if_neg (by omega)]
theorem w2s (h : r ≠ i) : (if r < i then n + n else if r = i then n + j else n) = (if r < i then n + n else if r = i then n + (j + 1) else n) := by
  rw [if_neg h, if_neg h]
theorem w2j : (if i < i then n + n else if i = i then n + j else n) = n + j := by rw [if_neg (Nat.lt_irrefl i), if_pos rfl]
theorem w2i : (if i < i then n + n else if i = i then n + (j + 1) else n) = n + j + 1 := by rw [w2j]; rfl
theorem f02 {A : Nat → Nat → Int} {z : Nat} (hz : z < if r < i then n + n else n) : mixG (auS n A) A i r z = mixG (auS n A) A (i + 1) r z := by
  by_cases h : r < i
  · rw [mixG_lt _ _ h, mixG_lt _ _ (by omega)]
  · rw [if_neg h] at hz
    rw [mixG_ge _ _ (by omega)]
    by_cases h2 : r = i
    · rw [mixG_lt _ _ (by omega)]; unfold auS; rw [if_pos hz]
    · rw [mixG_ge _ _ (by omega)]
theorem auS_at {A : Nat → Nat → Int} : dl i j = auS n A i (n + j) := by unfold auS; rw [if_neg (by omega), Nat.add_sub_cancel_left]
end
end Go.Am

namespace Go.Am
def lk : List (Nat × Nat) → Nat → Nat
  | [], k => k
  | (a, b) :: r, k => bif Nat.beq k a then b else lk r k
def ρL (m : List (Nat × Nat)) (kg c s : Nat) : Nat → Nat → Nat × Nat := fun k i => bif Nat.beq k kg && Nat.beq i c then (s, 0) else (lk m k, i)
def keysOf : OL → List Nat
  | [] => []
  | (k, _) :: r => k :: keysOf r
def okL (m : List (Nat × Nat)) (s : Nat) (ks : List Nat) : Bool := ks.all fun a => !Nat.beq (lk m a) s && ks.all fun b => Nat.beq a b || !Nat.beq (lk m a) (lk m b)
theorem liveAll_keys {P : Nat → Nat → AV → AV → Prop} : ∀ {ol : OL}, (∀ k i sh c, k ∈ keysOf ol → P k i sh c) → liveAll P ol
  | [], _ => trivial
  | (k, .one sh c) :: r, h => ⟨h k 0 sh c (by simp [keysOf]), liveAll_keys (fun k i sh c hk => h k i sh c (by simp [keysOf, hk]))⟩
  | (k, .many f) :: r, h => ⟨fun i sh c _ => h k i sh c (by simp [keysOf]), liveAll_keys (fun k i sh c hk => h k i sh c (by simp [keysOf, hk]))⟩
  | (k, .gone) :: r, h => liveAll_keys (ol := r) (fun k i sh c hk => h k i sh c (by simp [keysOf, hk]))
theorem emb_L {m : List (Nat × Nat)} {kg c s : Nat} {env' env : Env} {ol' ol : OL} (hk : okL m s (keysOf ol) = true) (henv : envAll (fun t v => MtE (vwOf (ρL m kg c s) ol' ol) v (get env' t)) env)
    (hlive : liveAll (fun k i sh c_1 => match ol'.at_ (ρL m kg c s k i).1 (ρL m kg c s k i).2 with | some (sh', c') => sh' = sh ∧ ssh sh c_1 ∧ Mt (vwOf (ρL m kg c s) ol' ol) c_1 c' | none => False) ol) : Emb (ρL m kg c s) env' ol' env ol := by
  refine ⟨henv, hlive, liveAll_keys (fun k i _ _ hki => liveAll_keys (fun k2 i2 _ _ hk2 he => ?_))⟩
  simp only [okL, List.all_eq_true, Bool.and_eq_true, Bool.or_eq_true, Bool.not_eq_true'] at hk
  have ha := hk k hki
  have hb := hk k2 hk2
  unfold ρL at he
  cases h1 : (Nat.beq k kg && Nat.beq i c) <;> cases h2 : (Nat.beq k2 kg && Nat.beq i2 c) <;> rw [h1, h2] at he <;> simp only [cond_true, cond_false, Prod.mk.injEq] at he
  · refine ⟨?_, he.2⟩
    rcases ha.2 k2 hk2 with h | h
    · exact Nat.eq_of_beq_eq_true h
    · rw [he.1, Nat.beq_refl] at h; cases h
  · have := ha.1
    rw [he.1, Nat.beq_refl] at this; cases this
  · have := hb.1
    rw [← he.1, Nat.beq_refl] at this; cases this
  · simp only [Bool.and_eq_true] at h1 h2
    exact ⟨(Nat.eq_of_beq_eq_true h1.1).trans (Nat.eq_of_beq_eq_true h2.1).symm, (Nat.eq_of_beq_eq_true h1.2).trans (Nat.eq_of_beq_eq_true h2.2).symm⟩
theorem ρL_ne {m : List (Nat × Nat)} {kg c s k i : Nat} (h : k ≠ kg ∨ i ≠ c) : ρL m kg c s k i = (lk m k, i) := by
  unfold ρL
  rcases h with h | h
  · rw [beq_ff h]; rfl
  · rw [beq_ff h, Bool.and_false]; rfl
theorem ρL_eq {m : List (Nat × Nat)} {kg c s : Nat} : ρL m kg c s kg c = (s, 0) := by
  unfold ρL
  rw [Nat.beq_refl, Nat.beq_refl]; rfl
end Go.Am

namespace Go.Am
def pr2 (p : Int) (G : Nat → Nat → Nat → Int) (C : Nat → Nat → Int) (k : Nat) (u : Nat → Int) : Nat → Nat → Int
  | 0 => u
  | l + 1 => addF p (pr2 p G C k u l) (G k l) (C k l)
def pr1 (p : Int) (n : Nat) (G : Nat → Nat → Nat → Int) (C : Nat → Nat → Int) : Nat → Nat → Int
  | 0 => fun _ => 0
  | k + 1 => pr2 p G C k (pr1 p n G C k) n
theorem pr2_Bp {p : Int} (hp : 0 < p) {G : Nat → Nat → Nat → Int} {C : Nat → Nat → Int} {k : Nat} {u : Nat → Int} (hu : Bp p u) : ∀ l, Bp p (pr2 p G C k u l)
  | 0 => hu
  | l + 1 => addF_Bp hp _ _ _
theorem pr1_Bp {p : Int} (hp : 0 < p) {n : Nat} {G : Nat → Nat → Nat → Int} {C : Nat → Nat → Int} : ∀ k, Bp p (pr1 p n G C k)
  | 0 => fun _ => ⟨Int.le_refl _, hp⟩
  | k + 1 => pr2_Bp hp (pr1_Bp hp k) n
section
variable {p : Int} {n : Nat} {A : Nat → Nat → Int} {b : Nat → Int}
end
end Go.Am

namespace Go.Am
section
variable {p : Int} {C W : Nat → Nat → Int} {i k l r z n : Nat}
end
end Go.Am

namespace Go.Am
section
variable {p : Int} {m no c i z : Nat} {O : Nat → Nat → Int} {l : Nat → Nat}
end
end Go.Am

namespace Go.Am
end Go.Am

namespace Go.Am
section
variable {p : Int} {n : Nat} {A : Nat → Nat → Int}
theorem dot_sb (f x y : Nat → Int) (m : Nat) : dot m f (fun j => x j - y j) = dot m f x - dot m f y := by
  unfold dot
  induction m with
  | zero => rfl
  | succ m ih =>
    show sumZ (fun j => f j * (x j - y j)) m + f m * (x m - y m) = (sumZ (fun j => f j * x j) m + f m * x m) - (sumZ (fun j => f j * y j) m + f m * y m)
    rw [ih, Int.mul_sub]; omega
theorem cpM_left (hp : primeB p = true) (hA : ∀ i, Bp p (A i)) (hr : (redGo p n A n).no = n) {j s : Nat} (hj : j < n) (hs : s < n) : p ∣ sumZ (fun i => cpM p n A j i * A i s) n - dl j s := by
  refine full_null hp hA hr (x := fun j => sumZ (fun i => cpM p n A j i * A i s) n - dl j s) (fun r hr' => ?_) hj
  show p ∣ dot n (A r) _
  rw [dot_sb]
  have h := cpM_app hp hA hr (fun i => A i s) hr'
  have e : dot n (A r) (fun j => dl j s) = A r s := by
    unfold dot
    rw [sumZ_one (c := s) n hs (fun i _ hne => by show A r i * dl i s = 0; unfold dl; rw [if_neg hne, Int.mul_zero])]
    show A r s * dl s s = _
    unfold dl; rw [if_pos rfl, Int.mul_one]
  rw [e]
  exact h
end
def prF (p n : Int) (T : Nat → Nat → Nat → Int) (fo : Nat → Int) (q m : Int) (S : Nat → Nat → Nat → Int) (go : Nat → Int) (Y : Nat → Nat → Int) : Nat → AV
  | 0 => algA p n T fo
  | 1 => algA q m S go
  | 2 => matA Y
  | _ => .any
abbrev prA (p n : Int) (T : Nat → Nat → Nat → Int) (fo : Nat → Int) (q m : Int) (S : Nat → Nat → Nat → Int) (go : Nat → Int) (Y : Nat → Nat → Int) : AV := .sct 3 (prF p n T fo q m S go Y)
section
variable {p n q m p' n' q' m' : Int} {T S T' S' : Nat → Nat → Nat → Int} {fo go fo' go' : Nat → Int} {Y Y' : Nat → Nat → Int} {V : Vw}
theorem ssh_pr : ssh (prA p n T fo q m S go Y) (prA p' n' T' fo' q' m' S' go' Y') := by
  refine ⟨rfl, fun i => ?_⟩
  match i with
  | 0 => exact ssh_alg
  | 1 => exact ssh_alg
  | 2 => exact ssh_mat
  | n + 3 => exact trivial
theorem prF_congr {f : Nat → AV} (h0 : f 0 = algA p n T fo) (h1 : f 1 = algA q m S go) (h2 : f 2 = matA Y) (h4 : ∀ i, f (i + 3) = .any) : AV.sct 3 f = prA p n T fo q m S go Y := by
  refine congrArg (AV.sct 3) (funext fun i => ?_)
  match i with
  | 0 => exact h0
  | 1 => exact h1
  | 2 => exact h2
  | i + 3 => exact h4 i
theorem put_pr0 : put (prA p n T fo q m S go Y) [0] (algA p' n' T' fo') = prA p' n' T' fo' q m S go Y := prF_congr put_nil rfl rfl (fun _ => rfl)
theorem put_pr1 : put (prA p n T fo q m S go Y) [1] (algA p' n' T' fo') = prA p n T fo p' n' T' fo' Y := prF_congr rfl put_nil rfl (fun _ => rfl)
theorem put_pr2 : put (prA p n T fo q m S go Y) [2] (matA Y') = prA p n T fo q m S go Y' := prF_congr rfl rfl put_nil (fun _ => rfl)
variable {at_ : Nat → Nat → Option (AV × AV)} {d : Nat}
end
section
variable {z : Nat → Int}
end
section
variable {p : Int} {n m : Nat} {T S : Nat → Nat → Nat → Int} {fo go : Nat → Int} {Y : Nat → Nat → Int}
def zvP (p : Int) (n m : Nat) (Y : Nat → Nat → Int) (i : Nat) : Prop := smP p (m : Int) (Y i) ∧ (n ≤ i → eqN 6 (Y i) (fun _ => 0))
def prS (p : Int) (n m : Nat) (T S : Nat → Nat → Nat → Int) (Y : Nat → Nat → Int) : Prop :=
  ((∀ i, i < 6 → zvP p n m Y i) ∧ ∀ i, i < n → (∀ j, j < n → eqN 6 (apF p Y (T i j) n) (timesF p m S (Y i) (Y j))) ∧ ∀ j, j < m → eqN 6 (timesF p m S (Y i) (eF j)) (timesF p m S (eF j) (Y i))) ∧ eqN 6 (apF p Y (uF p n T) n) (uF p m S)
def prI (p : Int) (n m : Nat) (T S : Nat → Nat → Nat → Int) (Y : Nat → Nat → Int) : Prop :=
  (∀ i, i < 6 → (zvP p n m Y i ∧ ∀ j, j < m → eqN 6 (timesF p m S (Y i) (eF j)) (timesF p m S (eF j) (Y i))) ∧ ∀ j, j < 6 → eqN 6 (apF p Y (T i j) 6) (timesF p m S (Y i) (Y j))) ∧ eqN 6 (apF p Y (uF p n T) 6) (uF p m S)
noncomputable instance {i : Nat} : Decidable (zvP p n m Y i) := Classical.propDecidable _
noncomputable instance : Decidable (prS p n m T S Y) := Classical.propDecidable _
noncomputable instance : Decidable (prI p n m T S Y) := Classical.propDecidable _
theorem uF_z {i : Nat} (h : n ≤ i) : uF p n T i = 0 := by
  unfold uF
  split
  · unfold cutF; rw [if_neg (by omega)]
  · rfl
end
end Go.Am

namespace Go.Am
def legV (p : Int) (n : Nat) (T : Nat → Nat → Nat → Int) (H : Nat → Int) (F : Nat → Nat → Int) : Nat → Nat → Int
  | 0 => H
  | i + 1 => timesF p n T (legV p n T H F i) (F i)
theorem legV_Bp {p : Int} (hp : 0 < p) {n : Nat} {T : Nat → Nat → Nat → Int} {H : Nat → Int} {F : Nat → Nat → Int} (hH : Bp p H) : ∀ i, Bp p (legV p n T H F i)
  | 0 => hH
  | i + 1 => timesF_Bp hp
theorem in_both {lo hi g : Int} (h : lo ≤ g ∧ g ≤ hi) : (decide (lo ≤ g) && decide (g ≤ hi)) = true := by rw [decide_eq_true h.1, decide_eq_true h.2]; rfl
theorem vz_code {p n : Int} {T : Nat → Nat → Nat → Int} {fo : Nat → Int} {M : Nat} {F : Nat → Nat → Int} (h : VZ p n T fo M F) : cZ p n T fo M F = 0 := if_pos h
end Go.Am

namespace Go.Am
structure PN (p : Int) (n : Nat) (T : Nat → Nat → Nat → Int) (fo : Nat → Int) (m : Nat) (S : Nat → Nat → Nat → Int) (go : Nat → Int) (Y : Nat → Nat → Int) : Prop where
  v : VN p n T fo
  w : VN p m S go
  c : comN n T
  r : rankT p n T fo = n
  s : rankT p m S go = m
  y : symA m (formT p S go)
  z : prS p n m T S Y
def PR (p n : Int) (T : Nat → Nat → Nat → Int) (fo : Nat → Int) (q m : Int) (S : Nat → Nat → Nat → Int) (go : Nat → Int) (Y : Nat → Nat → Int) : Prop :=
  ∃ a b : Nat, n = (a : Int) ∧ m = (b : Int) ∧ q = p ∧ PN p a T fo b S go Y
noncomputable instance {p n : Int} {T : Nat → Nat → Nat → Int} {fo : Nat → Int} {q m : Int} {S : Nat → Nat → Nat → Int} {go : Nat → Int} {Y : Nat → Nat → Int} : Decidable (PR p n T fo q m S go Y) := Classical.propDecidable _
section
variable {p n q m : Int} {T S : Nat → Nat → Nat → Int} {fo go : Nat → Int} {Y : Nat → Nat → Int}
end
end Go.Am
namespace Go.Am
end Go.Am

namespace Go.Am
section
variable {p : Int} {n : Nat} {C : Nat → Nat → Int} {o : Nat → Int}
end
end Go.Am
namespace Go.Am
end Go.Am

namespace Go.Am
def tnF (p n i o : Int) (s : AV) : Nat → AV
  | 0 => .int .i64 p
  | 1 => .int .i64 n
  | 2 => .int .i64 i
  | 3 => .int .i64 o
  | 4 => s
  | _ => .any
abbrev tnA (p n i o : Int) (s : AV) : AV := .sct 5 (tnF p n i o s)
section
variable {p n i o p' n' i' o' : Int} {s s' : AV} {V : Vw}
theorem sshTn (h : ssh s s') : ssh (tnA p n i o s) (tnA p' n' i' o' s') := by
  refine ⟨rfl, fun k => ?_⟩
  match k with
  | 0 => exact trivial
  | 1 => exact trivial
  | 2 => exact trivial
  | 3 => exact trivial
  | 4 => exact h
  | k + 5 => exact trivial
theorem tnF_congr {f : Nat → AV} (h0 : f 0 = .int .i64 p) (h1 : f 1 = .int .i64 n) (h2 : f 2 = .int .i64 i) (h3 : f 3 = .int .i64 o) (h : f 4 = s) (h5 : ∀ k, f (k + 5) = .any) : AV.sct 5 f = tnA p n i o s := by
  refine congrArg (AV.sct 5) (funext fun k => ?_)
  match k with
  | 0 => exact h0
  | 1 => exact h1
  | 2 => exact h2
  | 3 => exact h3
  | 4 => exact h
  | k + 5 => exact h5 k
theorem put_tn4 : put (tnA p n i o s) [4] s' = tnA p n i o s' := tnF_congr rfl rfl rfl rfl put_nil (fun _ => rfl)
end
end Go.Am

namespace Go.Am
end Go.Am
namespace Go.Am
end Go.Am

namespace Go.Am
theorem sumZ_first (f : Nat → Int) : ∀ m, sumZ f (m + 1) = f 0 + sumZ (fun i => f (i + 1)) m
  | 0 => by simp [sumZ]
  | m + 1 => by
    show sumZ f (m + 1) + f (m + 1) = f 0 + (sumZ (fun i => f (i + 1)) m + f (m + 1))
    rw [sumZ_first f m]; omega
section
variable {p : Int} {n : Nat} {T : Nat → Nat → Nat → Int} {fo : Nat → Int}
theorem pz_zero_l (v : Nat → Int) (k : Nat) : pz n T (fun _ => 0) v k = 0 := by
  unfold pz
  rw [sumZ_congr (g := fun _ => 0) n (fun i _ => by rw [sumZ_congr (g := fun _ => 0) n (fun j _ => by rw [Int.zero_mul, Int.zero_mul]), sumZ_zero]), sumZ_zero]
noncomputable def pw (p : Int) (n : Nat) (T : Nat → Nat → Nat → Int) (v : Nat → Int) (k : Nat) : Nat → Int := powV p n T (uF p n T) v k
theorem pw_VV (h : VN p n T fo) (v : Nat → Int) : ∀ k, VV p n (pw p n T v k)
  | 0 => ⟨h.u_Bp, fun k hk => uF_z hk⟩
  | k + 1 => VV.times h.pp
theorem pw_s {v : Nat → Int} {k : Nat} : pw p n T v (k + 1) = timesF p n T (pw p n T v k) v := rfl
def lc (p : Int) (c : Nat → Int) (w : Nat → Nat → Int) : Nat → Nat → Int
  | 0 => fun _ => 0
  | m + 1 => addF p (lc p c w m) (w m) (c m)
theorem dep_ex (hp : primeB p = true) {N m : Nat} (hNm : N < m) {R : Nat → Nat → Int} (hR : ∀ i, i < N → Bp p (R i)) : ∃ (x : Nat → Int) (c : Nat), c < m ∧ x c = 1 ∧ Null p m N R x := by
  obtain ⟨⟨l, rr⟩, hn⟩ := red_ok (m := m) hp hR
  have hle := (red_le (p := p) (m := m) (n := N) (R := R)).2
  obtain ⟨c, hc, hcl⟩ : ∃ c, c < m ∧ ¬ IsL (redGo p N R m).no l c := by
    apply Classical.byContradiction
    intro hall
    have hall : ∀ c, c < m → IsL (redGo p N R m).no l c := fun c hc => Classical.byContradiction fun h => hall ⟨c, hc, h⟩
    have := (inc_eq (n := (redGo p N R m).no) (n' := m) (l := l) (l' := fun i => i) rr.inc (fun i j h _ => h) (fun i hi => ⟨l i, (rr.lead i hi).1, rfl⟩) (fun c hc => hall c hc)).1
    omega
  exact ⟨solC (redGo p N R m).no (redGo p N R m).O l c, c, hc, solC_self _ _ _ _, (hn _).1 (solC_null rr hc hcl)⟩
theorem cancel (hp : primeB p = true) {c y : Int} (hc : ¬ p ∣ c) (h : p ∣ c * y) : p ∣ y := by
  have hpb := primeB_bd hp
  have hm : 0 < c % p := by
    have h1 := Int.emod_nonneg c (show p ≠ 0 by omega)
    have h2 : c % p ≠ 0 := fun e => hc (Int.dvd_of_emod_eq_zero e)
    omega
  have hi := (inv_ok hp hm (Int.emod_lt_of_pos c (by omega))).2
  have h1 : p ∣ invF p (c % p) * c - 1 := by
    have h2 : p ∣ invF p (c % p) * (c % p) - 1 := by
      refine ⟨invF p (c % p) * (c % p) / p, ?_⟩
      have e := Int.emod_add_mul_ediv (invF p (c % p) * (c % p)) p
      rw [hi] at e
      omega
    exact dvd_tr (mul_dvd (dvd_rf rfl) (dvd_sy (dvd_mod p c))) h2
  have h3 := mul_dvd h1 (dvd_rf (p := p) (a := y) rfl)
  rw [Int.one_mul, Int.mul_assoc] at h3
  have h4 : p ∣ invF p (c % p) * (c * y) := Int.dvd_mul_of_dvd_right h
  have := Int.dvd_sub h4 h3
  rwa [show invF p (c % p) * (c * y) - (invF p (c % p) * (c * y) - y) = y by omega] at this
theorem sumZ_split {f : Nat → Int} {i0 : Nat} : ∀ m, i0 < m → (∀ i, i < m → i ≠ i0 → p ∣ f i) → p ∣ sumZ f m - f i0
  | 0, h, _ => absurd h (Nat.not_lt_zero _)
  | m + 1, h, hz => by
    show p ∣ sumZ f m + f m - f i0
    by_cases e : i0 = m
    · subst e
      have h1 : p ∣ sumZ f i0 - sumZ (fun _ => 0) i0 := sumZ_dvd i0 (fun i hi => by rw [Int.sub_zero]; exact hz i (by omega) (by omega))
      rw [sumZ_zero, Int.sub_zero] at h1
      rwa [show sumZ f i0 + f i0 - f i0 = sumZ f i0 by omega]
    · have h1 := sumZ_split m (by omega) (fun i hi hne => hz i (by omega) hne)
      have := Int.dvd_add h1 (hz m (by omega) (Ne.symm e))
      rwa [show sumZ f m - f i0 + f m = sumZ f m + f m - f i0 by omega] at this
end
end Go.Am

namespace Go.Am
section
variable {p : Int} {n : Nat} {T : Nat → Nat → Nat → Int} {fo : Nat → Int}
theorem VN.P (h : VN p n T fo) : p = ((p.toNat : Nat) : Int) := by have := h.p0; omega
end
end Go.Am
namespace Go.Am
end Go.Am

namespace Go.Am
section
variable {p : Int} {n : Nat} {T : Nat → Nat → Nat → Int} {fo : Nat → Int}
end
end Go.Am

namespace Go.Am
section
variable {p : Int} {n : Nat} {T : Nat → Nat → Nat → Int} {fo : Nat → Int}
end
theorem mt_fzE {V : Vw} {k i n n' e : Nat} {sh : AV} {F G : Nat → AV} (hn : n' = n) (hz : V.fz k i) (ha : V.at' k i = some (sh, .arr n' G)) (hf : ∀ j, j < n → Mt V (F j) (G j)) : Mt V (.ro n F) (.own k i n' e) := by
  subst hn; exact mt_fz hz ha hf
end Go.Am

namespace Go.Am
section
variable {p : Int} {n : Nat} {T : Nat → Nat → Nat → Int} {fo : Nat → Int}
noncomputable def mpS (p : Int) (n : Nat) (T : Nat → Nat → Nat → Int) (v : Nat → Int) (k j : Nat) : Int := pw p n T v j k
noncomputable def mpI (p : Int) (n : Nat) (T : Nat → Nat → Nat → Int) (v : Nat → Int) (m k j : Nat) : Int := if j < m then pw p n T v j k else (- pw p n T v j k) % p
theorem mpS_Bp (h : VN p n T fo) (v : Nat → Int) (k : Nat) : Bp p (mpS p n T v k) := fun j => (pw_VV h v j).b k
theorem mpI_Bp (h : VN p n T fo) (v : Nat → Int) (m k : Nat) : Bp p (mpI p n T v m k) := fun j => by
  unfold mpI; split
  · exact (pw_VV h v j).b k
  · have := h.pp; exact ⟨Int.emod_nonneg _ (by omega), Int.emod_lt_of_pos _ this⟩
def indP (p : Int) (n : Nat) (T : Nat → Nat → Nat → Int) (v : Nat → Int) (m : Nat) : Prop := ∀ x, Null p m n (mpS p n T v) x → ∀ j, j < m → p ∣ x j
theorem ind_1 (h : VN p n T fo) {v : Nat → Int} (hv : VV p n v) : indP p n T v 1 := fun x hx j hj => by
  obtain rfl : j = 0 := by omega
  have hpb := primeB_bd h.hp
  apply Classical.byContradiction
  intro hno
  have hz : ∀ k, k < n → p ∣ uF p n T k := fun k hk => by
    have h1 : p ∣ 0 + pw p n T v 0 k * x 0 := hx k hk
    rw [Int.zero_add, Int.mul_comm] at h1
    exact cancel h.hp hno h1
  have h0 : uF p n T = fun _ => 0 := VV.ext (pw_VV h v 0) (VV.zero h.pp) (fun k hk => by rw [Int.sub_zero]; exact hz k hk)
  have he : timesF p n T (uF p n T) (eF 0) = eF 0 := h.one_l (VV.eF (by omega) h.n0)
  have e2 := congrFun he 0
  rw [h0, times_pz h.n0, pz_zero_l, eF_dl] at e2
  simp [dl] at e2
theorem ind_no (h : VN p n T fo) (v : Nat → Int) : ¬ indP p n T v (n + 1) := fun hi => by
  have hpb := primeB_bd h.hp
  obtain ⟨x, c, hc, hxc, hx⟩ := dep_ex h.hp (Nat.lt_succ_self n) (R := mpS p n T v) (fun i _ => mpS_Bp h v i)
  have := hi x hx c hc
  rw [hxc] at this
  have := Int.le_of_dvd (by omega) this
  omega
theorem dot_less_m {m m' : Nat} (hm : m' ≤ m) {f x : Nat → Int} (hz : ∀ j, j < m → m' ≤ j → p ∣ x j) : p ∣ dot m f x - dot m' f x := by
  induction m with
  | zero => obtain rfl : m' = 0 := by omega
            exact dvd_rf rfl
  | succ m ih =>
    rcases Nat.lt_or_ge m m' with h | h
    · obtain rfl : m' = m + 1 := by omega
      exact dvd_rf rfl
    · have h1 := ih h (fun j hj => hz j (by omega))
      have h2 : p ∣ f m * x m := Int.dvd_mul_of_dvd_right (hz m (by omega) h)
      have := Int.dvd_add h1 h2
      rwa [show dot m f x - dot m' f x + f m * x m = dot (m + 1) f x - dot m' f x by show _ = (dot m f x + f m * x m) - _; omega] at this
theorem ind_down {v : Nat → Int} {m m' : Nat} (hm : m' ≤ m) (h : indP p n T v m) : indP p n T v m' := fun x hx j hj => by
  have h1 : Null p m n (mpS p n T v) (fun j => if j < m' then x j else 0) := fun k hk => by
    have h2 : p ∣ dot m (mpS p n T v k) (fun j => if j < m' then x j else 0) - dot m' (mpS p n T v k) (fun j => if j < m' then x j else 0) := dot_less_m hm (fun j _ hj => by rw [if_neg (by omega)]; exact Int.dvd_zero p)
    have h3 : dot m' (mpS p n T v k) (fun j => if j < m' then x j else 0) = dot m' (mpS p n T v k) x := sumZ_congr m' (fun j hj => by show _ * (if j < m' then x j else 0) = _; rw [if_pos hj])
    rw [h3] at h2
    have := Int.dvd_add h2 (hx k hk)
    rwa [Int.sub_add_cancel] at this
  have := h _ h1 j (by omega)
  rwa [if_pos hj] at this
theorem ind_uniq {v : Nat → Int} {m : Nat} (h : indP p n T v m) {x y : Nat → Int} (hx : Sol p m n (mpS p n T v) x) (hy : Sol p m n (mpS p n T v) y) : cg p m y x := fun j hj => by
  refine h (fun j => y j - x j) (fun k hk => ?_) j hj
  have h1 := Int.dvd_sub (hy k hk) (hx k hk)
  have e : dot m (mpS p n T v k) (fun j => y j - x j) = dot m (mpS p n T v k) y - dot m (mpS p n T v k) x := by
    have := sumZ_add (fun j => mpS p n T v k j * (y j - x j)) (fun j => mpS p n T v k j * x j) m
    rw [sumZ_congr (f := fun j => mpS p n T v k j * (y j - x j) + mpS p n T v k j * x j) (g := fun j => mpS p n T v k j * y j) m (fun j _ => by rw [← Int.mul_add, Int.sub_add_cancel])] at this
    show sumZ (fun j => mpS p n T v k j * (y j - x j)) m = sumZ (fun j => mpS p n T v k j * y j) m - sumZ (fun j => mpS p n T v k j * x j) m
    omega
  unfold Z
  rw [e]
  rwa [show dot m (mpS p n T v k) y - mpS p n T v k m - (dot m (mpS p n T v k) x - mpS p n T v k m) = dot m (mpS p n T v k) y - dot m (mpS p n T v k) x by omega] at h1
theorem ind_sol (hp : 1 < p) {v : Nat → Int} {m : Nat} (h : indP p n T v (m + 1)) {x : Nat → Int} : ¬ Sol p m n (mpS p n T v) x := fun hx => by
  have := h _ (sol_null.1 hx) m (by omega)
  unfold extF at this
  rw [if_neg (Nat.lt_irrefl m)] at this
  have h1 : p ∣ 1 := by have := Int.dvd_neg.2 this; simpa using this
  have := Int.le_of_dvd (by omega) h1
  omega
theorem sol_ex (hp : primeB p = true) {v : Nat → Int} {m : Nat} (h : indP p n T v m) (h' : ¬ indP p n T v (m + 1)) : ∃ x, Sol p m n (mpS p n T v) x := by
  have hpb := primeB_bd hp
  obtain ⟨x, hx, j, hj, hn⟩ : ∃ x, Null p (m + 1) n (mpS p n T v) x ∧ ∃ j, j < m + 1 ∧ ¬ p ∣ x j := by
    apply Classical.byContradiction
    intro hno
    exact h' (fun x hx j hj => Classical.byContradiction fun hd => hno ⟨x, hx, j, hj, hd⟩)
  have hm : ¬ p ∣ x m := fun hd => by
    have h1 : Null p m n (mpS p n T v) x := fun k hk => by
      have h2 : p ∣ dot (m + 1) (mpS p n T v k) x - dot m (mpS p n T v k) x := dot_less_m (Nat.le_succ m) (fun i hi hi2 => (show i = m by omega) ▸ hd)
      have := Int.dvd_sub (hx k hk) h2
      rwa [show dot (m + 1) (mpS p n T v k) x - (dot (m + 1) (mpS p n T v k) x - dot m (mpS p n T v k) x) = dot m (mpS p n T v k) x by omega] at this
    rcases Nat.lt_or_ge j m with hj2 | hj2
    · exact hn (h x h1 j hj2)
    · obtain rfl : j = m := by omega
      exact hn hd
  have hr : 0 < x m % p := by
    have h1 := Int.emod_nonneg (x m) (show p ≠ 0 by omega)
    have h2 : x m % p ≠ 0 := fun e => hm (Int.dvd_of_emod_eq_zero e)
    omega
  have hinv := inv_dvd hp hr (Int.emod_lt_of_pos (x m) (by omega))
  generalize invF p (x m % p) = q at hinv
  have hq : p ∣ q * x m - 1 := dvd_tr (mul_dvd (dvd_rf rfl) (dvd_sy (dvd_mod p (x m)))) hinv
  refine ⟨fun j => (- q) * x j, fun k hk => ?_⟩
  have h1 : p ∣ (- q) * (dot m (mpS p n T v k) x + mpS p n T v k m * x m) := Int.dvd_mul_of_dvd_right (hx k hk)
  have h2 : p ∣ mpS p n T v k m * (q * x m - 1) := Int.dvd_mul_of_dvd_right hq
  have h3 := Int.dvd_add h1 h2
  have e : dot m (mpS p n T v k) (fun j => (- q) * x j) = (- q) * dot m (mpS p n T v k) x := by
    unfold dot
    rw [← sumZ_mul]
    exact sumZ_congr m (fun j _ => by rw [Int.mul_left_comm])
  rw [e]
  rwa [show (- q) * (dot m (mpS p n T v k) x + mpS p n T v k m * x m) + mpS p n T v k m * (q * x m - 1) = (- q) * dot m (mpS p n T v k) x - mpS p n T v k m by
    rw [Int.mul_add, Int.mul_sub, Int.mul_one, Int.neg_mul q (mpS p n T v k m * x m), Int.mul_left_comm q]; omega] at h3
theorem mp_deg (h : VN p n T fo) {v : Nat → Int} (hv : VV p n v) : ∃ D, 1 ≤ D ∧ D ≤ n ∧ indP p n T v D ∧ ¬ indP p n T v (D + 1) := by
  have key : ∀ m, 1 ≤ m → ¬ indP p n T v (m + 1) → ∃ D, 1 ≤ D ∧ D ≤ m ∧ indP p n T v D ∧ ¬ indP p n T v (D + 1) := by
    intro m
    induction m with
    | zero => intro h1; omega
    | succ m ih =>
      intro h1 h2
      by_cases h3 : indP p n T v (m + 1)
      · exact ⟨m + 1, h1, Nat.le_refl _, h3, h2⟩
      · rcases Nat.eq_zero_or_pos m with rfl | hm
        · exact absurd (ind_1 h hv) h3
        · obtain ⟨D, q1, q2, q3⟩ := ih hm h3
          exact ⟨D, q1, by omega, q3⟩
  exact key n h.n0 (ind_no h v)
theorem mpI_sol {v : Nat → Int} {m : Nat} {x : Nat → Int} : Sol p m n (mpI p n T v m) x ↔ Sol p m n (mpS p n T v) (fun j => - x j) := by
  have e : ∀ k, dot m (mpI p n T v m k) x = - dot m (mpS p n T v k) (fun j => - x j) := fun k => by
    have h2 := sumZ_add (fun j => mpS p n T v k j * x j) (fun j => mpS p n T v k j * (- x j)) m
    rw [sumZ_congr (f := fun j => mpS p n T v k j * x j + mpS p n T v k j * (- x j)) (g := fun _ => 0) m (fun j _ => by rw [← Int.mul_add, Int.add_right_neg, Int.mul_zero]), sumZ_zero] at h2
    have h1 : dot m (mpI p n T v m k) x = sumZ (fun j => mpS p n T v k j * x j) m := sumZ_congr m (fun j hj => by unfold mpI; rw [if_pos hj]; rfl)
    rw [h1]
    show _ = - sumZ (fun j => mpS p n T v k j * (- x j)) m
    omega
  have e2 : ∀ k, p ∣ mpI p n T v m k m - (- mpS p n T v k m) := fun k => by unfold mpI; rw [if_neg (Nat.lt_irrefl m)]; exact dvd_mod p _
  constructor
  · intro h k hk
    have h1 := h k hk
    rw [e k] at h1
    have := Int.dvd_neg.2 (Int.dvd_add h1 (e2 k))
    rwa [show -(- dot m (mpS p n T v k) (fun j => - x j) - mpI p n T v m k m + (mpI p n T v m k m - - mpS p n T v k m)) = dot m (mpS p n T v k) (fun j => - x j) - mpS p n T v k m by omega] at this
  · intro h k hk
    rw [e k]
    have := Int.dvd_neg.2 (Int.dvd_add (h k hk) (e2 k))
    rwa [show -(dot m (mpS p n T v k) (fun j => - x j) - mpS p n T v k m + (mpI p n T v m k m - - mpS p n T v k m)) = - dot m (mpS p n T v k) (fun j => - x j) - mpI p n T v m k m by omega] at this
structure MPd (p : Int) (n : Nat) (T : Nat → Nat → Nat → Int) (v : Nat → Int) (D : Nat) : Prop where
  d1 : 1 ≤ D
  dn : D ≤ n
  sy : oneP D (echGo p (D + 1) (mpS p n T v) n).no (echGo p (D + 1) (mpS p n T v) n).O
  sn : ∀ m, m < D → ¬ oneP m (echGo p (m + 1) (mpS p n T v) n).no (echGo p (m + 1) (mpS p n T v) n).O
  iy : conP D (redGo p n (mpI p n T v D) (D + 1)).no (redGo p n (mpI p n T v D) (D + 1)).O
  i_n : ∀ m, m < D → ¬ conP m (redGo p n (mpI p n T v m) (m + 1)).no (redGo p n (mpI p n T v m) (m + 1)).O
  out : ∀ a, a < D → solGo D (redGo p n (mpI p n T v D) (D + 1)).O (redGo p n (mpI p n T v D) (D + 1)).no a = (- (echGo p (D + 1) (mpS p n T v) n).O a D) % p
theorem mp_ex (h : VN p n T fo) {v : Nat → Int} (hv : VV p n v) : ∃ D, MPd p n T v D := by
  have hpb := primeB_bd h.hp
  obtain ⟨D, d1, d2, d3, d4⟩ := mp_deg h hv
  obtain ⟨x, hx⟩ := sol_ex h.hp d3 d4
  have sy : oS p D n (mpS p n T v) := oS_of h.hp (mpS_Bp h v) hx (fun y hy => ind_uniq d3 hx hy)
  have hno : ∀ m, m < D → ∀ x, ¬ Sol p m n (mpS p n T v) x := fun m hm x => ind_sol (by omega) (ind_down (show m + 1 ≤ D by omega) d3)
  have rd := fun m => red_ok (m := m + 1) (n := n) (R := mpI p n T v m) h.hp (fun i _ => mpI_Bp h v m i)
  have hs : ∀ m y, Sol p m (redGo p n (mpI p n T v m) (m + 1)).no (redGo p n (mpI p n T v m) (m + 1)).O y ↔ Sol p m n (mpI p n T v m) y := fun m y => by rw [sol_null, sol_null]; exact (rd m).2 _
  have iy : conP D (redGo p n (mpI p n T v D) (D + 1)).no (redGo p n (mpI p n T v D) (D + 1)).O := by
    obtain ⟨⟨l, rr⟩, _⟩ := rd D
    refine con_of_sol (by omega) rr (u := fun j => - x j) ((hs D _).2 (mpI_sol.2 ?_))
    have : (fun j => - - x j) = x := by funext j; omega
    rw [this]; exact hx
  refine ⟨D, d1, d2, sy, fun m hm ho => hno m hm _ (oS_sol h.hp (mpS_Bp h v) ho).1, iy, fun m hm hc => ?_, fun a ha => ?_⟩
  · obtain ⟨⟨l, rr⟩, _⟩ := rd m
    exact hno m hm _ (mpI_sol.1 ((hs m _).1 (sol_of_con rr hc)))
  · obtain ⟨⟨l, rr⟩, _⟩ := rd D
    have h1 := mpI_sol.1 ((hs D _).1 (sol_of_con rr iy))
    have h2 := (oS_sol h.hp (mpS_Bp h v) sy).2.2 _ h1 a ha
    have e : sS p D n (mpS p n T v) a = (echGo p (D + 1) (mpS p n T v) n).O a D := by unfold sS cutF; rw [if_pos ha]
    rw [e] at h2
    refine eq_of_dvd (solGo_Bp h.pp rr _ (Nat.le_refl _) a) ⟨Int.emod_nonneg _ (by omega), Int.emod_lt_of_pos _ h.pp⟩ ?_
    refine dvd_tr ?_ (dvd_sy (dvd_mod p _))
    have := Int.dvd_neg.2 h2
    rwa [show -(- solGo D (redGo p n (mpI p n T v D) (D + 1)).O (redGo p n (mpI p n T v D) (D + 1)).no a - (echGo p (D + 1) (mpS p n T v) n).O a D) = solGo D (redGo p n (mpI p n T v D) (D + 1)).O (redGo p n (mpI p n T v D) (D + 1)).no a - (- (echGo p (D + 1) (mpS p n T v) n).O a D) by omega] at this
end
end Go.Am

namespace Go.Am
def enN (P : Nat → Bool) : Nat → Nat
  | 0 => 0
  | j + 1 => if P j then enN P j + 1 else enN P j
def enF (P : Nat → Bool) : Nat → Nat → Nat
  | 0 => fun _ => 0
  | j + 1 => fun r => if P j ∧ r = enN P j then j else enF P j r
theorem enN_le (P : Nat → Bool) : ∀ j, enN P j ≤ j
  | 0 => Nat.le_refl _
  | j + 1 => by
    have := enN_le P j
    show (if P j then enN P j + 1 else enN P j) ≤ j + 1
    split <;> omega
theorem en_t {P : Nat → Bool} {j : Nat} (h : P j = true) : enN P (j + 1) = enN P j + 1 := by show (if P j then enN P j + 1 else enN P j) = _; rw [if_pos h]
theorem en_f {P : Nat → Bool} {j : Nat} (h : P j = false) : enN P (j + 1) = enN P j := by show (if P j then enN P j + 1 else enN P j) = _; rw [if_neg (by simp [h])]
theorem enF_t {P : Nat → Bool} {j : Nat} (h : P j = true) : enF P (j + 1) (enN P j) = j := by show (if P j = true ∧ enN P j = enN P j then j else _) = j; rw [if_pos ⟨h, rfl⟩]
theorem enF_o {P : Nat → Bool} {j r : Nat} (h : r < enN P j) : enF P (j + 1) r = enF P j r := by show (if P j = true ∧ r = enN P j then j else _) = _; rw [if_neg (fun e => by omega)]
theorem enF_n {P : Nat → Bool} {j r : Nat} (h : P j = false) : enF P (j + 1) r = enF P j r := by show (if P j = true ∧ r = enN P j then j else _) = _; rw [if_neg (fun e => by rw [h] at e; exact absurd e.1 (by simp))]
theorem enF_in {P : Nat → Bool} : ∀ j r, r < enN P j → enF P j r < j ∧ P (enF P j r) = true
  | 0, r, h => absurd h (Nat.not_lt_zero _)
  | j + 1, r, h => by
    cases hP : P j with
    | false =>
      rw [en_f hP] at h; rw [enF_n (r := r) hP]
      have := enF_in j r h; exact ⟨by omega, this.2⟩
    | true =>
      rw [en_t hP] at h
      by_cases hr : r = enN P j
      · subst hr; rw [enF_t hP]; exact ⟨by omega, hP⟩
      · rw [enF_o (P := P) (j := j) (r := r) (by omega)]
        have := enF_in (P := P) j r (by omega); exact ⟨by omega, this.2⟩
theorem enF_inc {P : Nat → Bool} : ∀ j a b, a < b → b < enN P j → enF P j a < enF P j b
  | 0, a, b, _, h => absurd h (Nat.not_lt_zero _)
  | j + 1, a, b, hab, h => by
    cases hP : P j with
    | false => rw [en_f hP] at h; rw [enF_n hP, enF_n hP]; exact enF_inc j a b hab h
    | true =>
      rw [en_t hP] at h
      by_cases hb : b = enN P j
      · subst hb; rw [enF_t hP, enF_o hab]; exact (enF_in j a hab).1
      · rw [enF_o (P := P) (j := j) (r := a) (by omega), enF_o (P := P) (j := j) (r := b) (by omega)]; exact enF_inc j a b hab (by omega)
theorem enF_all {P : Nat → Bool} : ∀ j z, z < j → P z = true → ∃ r, r < enN P j ∧ enF P j r = z
  | 0, z, h, _ => absurd h (Nat.not_lt_zero _)
  | j + 1, z, h, hz => by
    by_cases e : z = j
    · subst e; exact ⟨enN P z, by rw [en_t hz]; omega, enF_t hz⟩
    · obtain ⟨r, h1, h2⟩ := enF_all j z (by omega) hz
      refine ⟨r, ?_, by rw [enF_o h1, h2]⟩
      cases hP : P j with
      | false => rw [en_f hP]; exact h1
      | true => rw [en_t hP]; omega
def entQ (n : Nat) (G : Nat → Nat → Nat) (i j : Nat) : Prop := if i < n ∧ j < n then G i j < n else G i j = 0
instance (n : Nat) (G : Nat → Nat → Nat) (i j : Nat) : Decidable (entQ n G i j) := by unfold entQ; exact inferInstance
def entP (n : Nat) (G : Nat → Nat → Nat) : Prop := ∀ i, i < 6 → ∀ j, j < 6 → entQ n G i j
noncomputable instance (n : Nat) (G : Nat → Nat → Nat) : Decidable (entP n G) := Classical.propDecidable _
def idP (G : Nat → Nat → Nat) (i : Nat) : Prop := G 0 i = i ∧ G i 0 = i
def ascG (n : Nat) (G : Nat → Nat → Nat) (i : Nat) : Prop := ∀ j, j < n → ∀ k, k < n → G (G i j) k = G i (G j k)
structure GN (n : Nat) (G : Nat → Nat → Nat) : Prop where
  n1 : 1 ≤ n
  n6 : n ≤ 6
  ent : entP n G
  id : ∀ i, i < n → idP G i
  inv : ∀ i, i < n → ∃ j, j < n ∧ G i j = 0 ∧ G j i = 0
  asc : ∀ i, i < n → ascG n G i
noncomputable instance (n : Nat) (G : Nat → Nat → Nat) : Decidable (GN n G) := Classical.propDecidable _
section
variable {n : Nat} {G : Nat → Nat → Nat}
theorem GN.lt (h : GN n G) {i j : Nat} (hi : i < n) (hj : j < n) : G i j < n := by
  have hn := h.n6
  have := h.ent i (by omega) j (by omega)
  unfold entQ at this
  rwa [if_pos ⟨hi, hj⟩] at this
theorem GN.l (h : GN n G) {i : Nat} (hi : i < n) : G 0 i = i := (h.id i hi).1
theorem GN.r (h : GN n G) {i : Nat} (hi : i < n) : G i 0 = i := (h.id i hi).2
theorem GN.as (h : GN n G) {i j k : Nat} (hi : i < n) (hj : j < n) (hk : k < n) : G (G i j) k = G i (G j k) := h.asc i hi j hj k hk
end
end Go.Am

namespace Go.Am
abbrev tb2 (G : Nat → Nat → Nat) : Nat → Nat → Int := fun i j => ((G i j : Nat) : Int)
def grpF (n : Int) (G : Nat → Nat → Nat) : Nat → AV
  | 0 => .int .i64 n
  | 1 => matA (tb2 G)
  | _ => .any
abbrev grpA (n : Int) (G : Nat → Nat → Nat) : AV := .sct 2 (grpF n G)
section
variable {n n' : Int} {G G' : Nat → Nat → Nat} {V : Vw}
theorem ssh_grp : ssh (grpA n G) (grpA n' G') := by
  refine ⟨rfl, fun i => ?_⟩
  match i with
  | 0 => exact trivial
  | 1 => exact ssh_mat
  | n + 2 => exact trivial
theorem grpF_congr {f : Nat → AV} (h0 : f 0 = .int .i64 n) (h1 : f 1 = matA (tb2 G)) (h4 : ∀ i, f (i + 2) = .any) : AV.sct 2 f = grpA n G := by
  refine congrArg (AV.sct 2) (funext fun i => ?_)
  match i with
  | 0 => exact h0
  | 1 => exact h1
  | i + 2 => exact h4 i
theorem put_grp0 : put (grpA n G) [0] (.int .i64 n') = grpA n' G := grpF_congr put_nil rfl (fun _ => rfl)
theorem put_grp1 : put (grpA n G) [1] (matA (tb2 G')) = grpA n G' := grpF_congr rfl put_nil (fun _ => rfl)
variable {at_ : Nat → Nat → Option (AV × AV)} {d : Nat}
end
section
variable {z : Nat → Int}
end
structure RG (G : Nat → Nat → Nat) : Prop where
  b : ∀ i j, G i j < 256
theorem RG.w8 {G : Nat → Nat → Nat} (h : RG G) (i j : Nat) : IntKind.i64.wrap ((G i j : Nat) : Int) = ((G i j : Nat) : Int) := w64 (by omega) (by have := h.b i j; omega)
end Go.Am

namespace Go.Am
section
variable {P : Program} {T : TT}
end
end Go.Am

namespace Go.Am
open Go.Lib
section
variable {n : Nat} {F : Nat → Int}
end
end Go.Am

namespace Go.Am
theorem liveAll_imp {P Q : Nat → Nat → AV → AV → Prop} : ∀ {ol : OL}, liveAll P ol → (∀ k i sh c, k ∈ keysOf ol → P k i sh c → Q k i sh c) → liveAll Q ol
  | [], _, _ => trivial
  | (k, .one sh c) :: r, h, f => ⟨f k 0 sh c (by simp [keysOf]) h.1, liveAll_imp h.2 (fun k i sh c hk => f k i sh c (by simp [keysOf, hk]))⟩
  | (k, .many g) :: r, h, f => ⟨fun i sh c hi => f k i sh c (by simp [keysOf]) (h.1 i sh c hi), liveAll_imp h.2 (fun k i sh c hk => f k i sh c (by simp [keysOf, hk]))⟩
  | (k, .gone) :: r, h, f => liveAll_imp (ol := r) h (fun k i sh c hk => f k i sh c (by simp [keysOf, hk]))
theorem emb_famL {m : List (Nat × Nat)} {kf c s ko N e : Nat} {w : Nat → Nat} {F : Nat → Nat → Int} {g : Nat → AV} {env' env : Env} {ol' : OL} {rest : OL} (hne : ko ≠ kf) (hk : okL m s (ko :: kf :: keysOf rest) = true) (hnr : (keysOf rest).all (fun k => !Nat.beq k kf) = true) (hkf : lk m kf = kf)
    (h1 : ol'.at_ (lk m ko) 0 = some (ZR N, .arr N g)) (hg : ∀ j, j < N → j ≠ c → g j = .own kf j (w j) e) (hgc : c < N → g c = .own s 0 (w c) e)
    (h2 : c < N → ∃ C, ol'.at_ s 0 = some (Z64 (w c), C) ∧ ∀ V : Vw, Mt V (C64 (w c) (F c)) C)
    (h3 : ∀ r, r < N → r ≠ c → ∃ C, ol'.at_ kf r = some (Z64 (w r), C) ∧ ∀ V : Vw, Mt V (C64 (w r) (F r)) C)
    (h4 : liveAll (fun k i sh c3 => ∃ C, ol'.at_ (lk m k) i = some (sh, C) ∧ ssh sh c3 ∧ ∀ V : Vw, Mt V c3 C) rest)
    (henv : envAll (fun t v => MtE (vwOf (ρL m kf c s) ol' ((ko, .one (ZR N) (CO kf N w e)) :: (kf, .many (famF N w F)) :: rest)) v (get env' t)) env) :
    Emb (ρL m kf c s) env' ol' env ((ko, .one (ZR N) (CO kf N w e)) :: (kf, .many (famF N w F)) :: rest) := by
  have d1 : OL.has ((ko, .one (ZR N) (CO kf N w e)) :: (kf, .many (famF N w F)) :: rest) kf = true := by simp [OL.has]
  refine emb_L hk henv ⟨?_, fun r sh cc h => ?_, liveAll_imp h4 (fun k i sh c3 hki h => ?_)⟩
  · dsimp only
    rw [ρL_ne (.inl hne)]
    dsimp only
    rw [h1]
    refine ⟨rfl, ⟨rfl, fun _ => trivial⟩, rfl, fun j hj => ?_⟩
    by_cases hjc : j = c
    · subst hjc
      rw [hgc hj]
      exact ⟨ρL_eq, rfl, rfl, d1⟩
    · rw [hg j hj hjc]
      refine ⟨?_, rfl, rfl, d1⟩
      have := ρL_ne (m := m) (kg := kf) (c := c) (s := s) (k := kf) (i := j) (.inr hjc)
      rw [hkf] at this; exact this
  · obtain ⟨hr, rfl, rfl⟩ := famF_some h
    by_cases hrc : r = c
    · subst hrc
      rw [ρL_eq]
      dsimp only
      obtain ⟨C, q1, q2⟩ := h2 hr
      rw [q1]
      exact ⟨rfl, ⟨rfl, fun _ => trivial⟩, q2 _⟩
    · rw [ρL_ne (.inr hrc), hkf]
      dsimp only
      obtain ⟨C, q1, q2⟩ := h3 r hr hrc
      rw [q1]
      exact ⟨rfl, ⟨rfl, fun _ => trivial⟩, q2 _⟩
  · have hkk : k ≠ kf := fun e => by
      have := List.all_eq_true.1 hnr k hki
      rw [e, Nat.beq_refl] at this; cases this
    rw [ρL_ne (.inl hkk)]
    dsimp only
    obtain ⟨C, q1, q2, q3⟩ := h
    rw [q1]
    exact ⟨rfl, q2, q3 _⟩
end Go.Am

namespace Go.Am
section
variable {n : Nat} {G : Nat → Nat → Nat}
def GZ (n : Int) (G : Nat → Nat → Nat) : Prop := 0 ≤ n ∧ GN n.toNat G
noncomputable instance (n : Int) (G : Nat → Nat → Nat) : Decidable (GZ n G) := Classical.propDecidable _
def f3 (a b c : Nat) : Nat → Nat
  | 0 => a
  | 1 => b
  | 2 => c
  | _ => 0
def f2 (a b : Nat) : Nat → Nat
  | 0 => a
  | 1 => b
  | _ => 0
end
section
variable {P : Program} {T : TT} {all : Array Oper} {r : List Oper} {R : Env → OL → Prop} {ty : TypeId} {pos : String} {af : Array Edge} {x y : Operand} {t : TypeId} {env : Env} {ol : OL}
end
end Go.Am

namespace Go.Am
section
variable {n : Nat} {G : Nat → Nat → Nat}
end
end Go.Am

namespace Go.Am
theorem set3 {T : T3} {i j k : Nat} {v : Int} (a b c : Nat) : upd T i (upd (T i) j (upd (T i j) k v)) a b c = if a = i ∧ b = j ∧ c = k then v else T a b c := by
  unfold upd
  by_cases h1 : a = i
  · subst h1
    rw [if_pos rfl]
    by_cases h2 : b = j
    · subst h2
      rw [if_pos rfl]
      by_cases h3 : c = k
      · subst h3; rw [if_pos rfl, if_pos ⟨rfl, rfl, rfl⟩]
      · rw [if_neg h3, if_neg (fun q => h3 q.2.2)]
    · rw [if_neg h2, if_neg (fun q => h2 q.2.1)]
  · rw [if_neg h1, if_neg (fun q => h1 q.1)]
def dskF (A v w : AV) (s : ByteArray) : Nat → AV
  | 0 => A
  | 1 => v
  | 2 => w
  | 3 => .strg s
  | _ => .any
abbrev dskA (p n : Int) (T : T3) (fo v w : Nat → Int) (s : ByteArray) : AV := .sct 4 (dskF (algA p n T fo) (vecA v) (vecA w) s)
section
variable {p n p' n' : Int} {T T' : T3} {fo fo' v v' w w' : Nat → Int} {s s' : ByteArray} {V : Vw}
theorem ssh_dsk : ssh (dskA p n T fo v w s) (dskA p' n' T' fo' v' w' s') := by
  refine ⟨rfl, fun i => ?_⟩
  match i with
  | 0 => exact ssh_alg
  | 1 => exact ssh_vec
  | 2 => exact ssh_vec
  | 3 => exact trivial
  | n + 4 => exact trivial
variable {at_ : Nat → Nat → Option (AV × AV)} {d : Nat}
end
end Go.Am

namespace Go.Am
section
variable {p : Int}
def tl (v : Nat → Int) (j : Nat) : Int := v (j + 1)
def ev (d : Nat) (v : Nat → Int) (r : Int) : Int := sumZ (fun j => v j * r ^ j) d
theorem ev_s (m : Nat) (v : Nat → Int) (r : Int) : ev (m + 1) v r = v 0 + r * ev m (tl v) r := by
  unfold ev
  rw [sumZ_first, ← sumZ_mul, Int.pow_zero, Int.mul_one]
  congr 1
  exact sumZ_congr m (fun j _ => by unfold tl; rw [Int.pow_succ, ← Int.mul_assoc, Int.mul_comm])
theorem ev_top (m : Nat) (v : Nat → Int) (r : Int) : ev (m + 1) v r = ev m v r + v m * r ^ m := rfl
theorem ev_dvd {d : Nat} {v w : Nat → Int} (h : ∀ j, j < d → p ∣ v j - w j) (r : Int) : p ∣ ev d v r - ev d w r := sumZ_dvd d (fun j hj => mul_dvd (h j hj) (dvd_rf rfl))
theorem ev_0 (d : Nat) (r : Int) : ev d (fun _ => 0) r = 0 := by
  unfold ev
  rw [sumZ_congr (g := fun _ => 0) d (fun j _ => Int.zero_mul _)]
  exact sumZ_zero d
theorem ev_zero {d : Nat} {v : Nat → Int} (h : ∀ j, j < d → p ∣ v j) (r : Int) : p ∣ ev d v r := by
  have := ev_dvd (p := p) (v := v) (w := fun _ => 0) (d := d) (fun j hj => by rw [Int.sub_zero]; exact h j hj) r
  rwa [ev_0, Int.sub_zero] at this
theorem ev_congr {d : Nat} {v w : Nat → Int} (h : ∀ j, j < d → v j = w j) (r : Int) : ev d v r = ev d w r := sumZ_congr d (fun j hj => by rw [h j hj])
theorem ev_sum (d : Nat) (c : Nat → Int) (w : Nat → Nat → Int) (r : Int) : ∀ m, ev d (fun z => sumZ (fun i => c i * w i z) m) r = sumZ (fun i => c i * ev d (w i) r) m
  | 0 => ev_0 d r
  | m + 1 => by
    have h := ev_sum d c w r m
    show ev d (fun z => sumZ (fun i => c i * w i z) m + c m * w m z) r = sumZ (fun i => c i * ev d (w i) r) m + c m * ev d (w m) r
    rw [← h]
    unfold ev
    rw [← sumZ_mul, ← sumZ_add]
    exact sumZ_congr d (fun j _ => by rw [Int.add_mul, Int.mul_assoc])
def qd (a : Int) : Nat → (Nat → Int) → Nat → Int
  | 0, _, _ => 0
  | m + 1, v, 0 => ev (m + 1) (tl v) a
  | m + 1, v, j + 1 => qd a m (tl v) j
theorem qd_div (a r : Int) : ∀ m v, ev (m + 1) v r = (r - a) * ev m (qd a m v) r + ev (m + 1) v a
  | 0, v => by
    have e : ∀ q : Int, ev 0 (qd a 0 v) q = 0 := fun _ => rfl
    rw [ev_s, ev_s, e, show ev 0 (tl v) r = 0 from rfl, show ev 0 (tl v) a = 0 from rfl, Int.mul_zero, Int.mul_zero, Int.mul_zero, Int.zero_add]
  | m + 1, v => by
    have h1 := qd_div a r m (tl v)
    have h2 : ev (m + 1) (qd a (m + 1) v) r = ev (m + 1) (tl v) a + r * ev m (qd a m (tl v)) r := by rw [ev_s]; rfl
    rw [ev_s (m + 1) v r, ev_s (m + 1) v a, h1, h2]
    generalize ev m (qd a m (tl v)) r = Q
    generalize ev (m + 1) (tl v) a = W
    grind
theorem qd_top (a : Int) : ∀ m v, qd a (m + 1) v m = v (m + 1)
  | 0, v => by show ev 1 (tl v) a = _; rw [ev_s]; show tl v 0 + a * 0 = v 1; rw [Int.mul_zero, Int.add_zero]; rfl
  | m + 1, v => qd_top a m (tl v)
theorem qd_dvd (a : Int) : ∀ m v, (∀ j, j < m → p ∣ qd a m v j) → ∀ j, j < m → p ∣ v (j + 1)
  | 0, _, _, _, hj => absurd hj (Nat.not_lt_zero _)
  | m + 1, v, h, j, hj => by
    have h1 := qd_dvd a m (tl v) (fun j hj => h (j + 1) (by omega))
    cases j with
    | succ j => exact h1 j (by omega)
    | zero =>
      have h2 : p ∣ ev (m + 1) (tl v) a := h 0 (by omega)
      rw [ev_s] at h2
      exact (Int.dvd_add_left (Int.dvd_mul_of_dvd_right (ev_zero h1 a))).1 h2
theorem qd_rec (a : Int) : ∀ m v j, j + 1 < m → qd a m v j = v (j + 1) + a * qd a m v (j + 1)
  | 0, _, _, h => absurd h (Nat.not_lt_zero _)
  | 1, _, _, h => absurd h (by omega)
  | m + 2, v, 0, _ => by show ev (m + 2) (tl v) a = _; rw [ev_s]; rfl
  | m + 2, v, j + 1, h => qd_rec a (m + 1) (tl v) j (by omega)
theorem qd_first (a : Int) (m : Nat) (v : Nat → Int) (h : 0 < m) : ev (m + 1) v a = v 0 + a * qd a m v 0 := by
  obtain ⟨m, rfl⟩ : ∃ k, m = k + 1 := ⟨m - 1, by omega⟩
  rw [ev_s]; rfl
def slF (d : Nat) (v : Nat → Int) (r : Int) : Int := sumZ (fun i => ((i : Int) + 1) * v (i + 1) * r ^ i) d
theorem qd_sl (a : Int) : ∀ m v, ev m (qd a m v) a = slF m v a
  | 0, v => rfl
  | m + 1, v => by
    have h1 := qd_sl a m (tl v)
    have h2 : ev (m + 1) (qd a (m + 1) v) a = ev (m + 1) (tl v) a + a * ev m (qd a m (tl v)) a := by rw [ev_s]; rfl
    rw [h2, h1]
    unfold slF
    have h3 : sumZ (fun i => (i : Int) * v (i + 1) * a ^ i) (m + 1) = a * sumZ (fun i => ((i : Int) + 1) * tl v (i + 1) * a ^ i) m := by
      rw [sumZ_first, ← sumZ_mul]
      show ((0 : Nat) : Int) * v 1 * a ^ 0 + _ = _
      rw [show ((0 : Nat) : Int) = 0 from rfl, Int.zero_mul, Int.zero_mul, Int.zero_add]
      exact sumZ_congr m (fun j _ => by show ((j + 1 : Nat) : Int) * v (j + 1 + 1) * a ^ (j + 1) = a * (((j : Int) + 1) * v (j + 1 + 1) * a ^ j); rw [Int.pow_succ, ← Int.mul_assoc, Int.mul_comm a]; rfl)
    rw [← h3]
    unfold ev
    rw [← sumZ_add]
    exact sumZ_congr _ (fun j _ => by show tl v j * a ^ j + _ = _; unfold tl; rw [Int.add_mul, Int.add_mul, Int.one_mul, Int.add_comm])
theorem ker_pts (hp : primeB p = true) : ∀ m (v x : Nat → Int), (∀ i, i < m → p ∣ ev m v (x i)) → (∀ i j, i < j → j < m → ¬ p ∣ x i - x j) → ∀ j, j < m → p ∣ v j
  | 0, _, _, _, _, _, hj => absurd hj (Nat.not_lt_zero _)
  | m + 1, v, x, h, hx, j, hj => by
    have h1 := ker_pts hp m (qd (x m) m v) x (fun i hi => by
      have e := qd_div (x m) (x i) m v
      have h2 := Int.dvd_sub (h i (by omega)) (h m (by omega))
      rw [e, Int.add_sub_cancel] at h2
      exact cancel hp (hx i m hi (by omega)) h2) (fun i j hij hj => hx i j hij (by omega))
    have h3 := qd_dvd (x m) m v h1
    cases j with
    | succ j => exact h3 j (by omega)
    | zero =>
      have h2 := h m (by omega)
      rw [ev_s] at h2
      exact (Int.dvd_add_left (Int.dvd_mul_of_dvd_right (ev_zero h3 _))).1 h2
def vc (d : Nat) (c : Nat → Int) (j : Nat) : Int := if j < d then c j else if j = d then 1 else 0
def fv (d : Nat) (c : Nat → Int) (r : Int) : Int := ev (d + 1) (vc d c) r
theorem vc_lt {d : Nat} {c : Nat → Int} {j : Nat} (h : j < d) : vc d c j = c j := if_pos h
theorem vc_d {d : Nat} {c : Nat → Int} : vc d c d = 1 := by unfold vc; rw [if_neg (Nat.lt_irrefl d), if_pos rfl]
theorem fv_eq {d : Nat} {c : Nat → Int} {r : Int} : fv d c r = ev d c r + r ^ d := by
  unfold fv
  rw [ev_top, vc_d, Int.one_mul, ev_congr (w := c) (fun j hj => vc_lt hj)]
def rtB (p : Int) (d : Nat) (c : Nat → Int) (r : Nat) : Bool := decide (fv d c (r : Int) % p = 0)
theorem rtB_t {d : Nat} {c : Nat → Int} {r : Nat} : rtB p d c r = true ↔ p ∣ fv d c (r : Int) := by unfold rtB; rw [decide_eq_true_iff]; exact ⟨Int.dvd_of_emod_eq_zero, Int.emod_eq_zero_of_dvd⟩
abbrev roN (p : Int) (d : Nat) (c : Nat → Int) : Nat := enN (rtB p d c) p.toNat
abbrev roF (p : Int) (d : Nat) (c : Nat → Int) (i : Nat) : Nat := enF (rtB p d c) p.toNat i
theorem ro_in {d : Nat} {c : Nat → Int} {i : Nat} (h : i < roN p d c) : roF p d c i < p.toNat ∧ p ∣ fv d c (roF p d c i : Int) := ⟨(enF_in _ _ h).1, rtB_t.1 (enF_in _ _ h).2⟩
theorem ro_ne {d : Nat} {c : Nat → Int} {i j : Nat} (hij : i < j) (hj : j < roN p d c) : ¬ p ∣ ((roF p d c i : Nat) : Int) - ((roF p d c j : Nat) : Int) := fun h => by
  have h1 : roF p d c i < roF p d c j := enF_inc (P := rtB p d c) p.toNat i j hij hj
  have h2 : roF p d c j < p.toNat := (enF_in _ _ hj).1
  have h3 : ((roF p d c i : Nat) : Int) = ((roF p d c j : Nat) : Int) := eq_of_dvd (by omega) (by omega) h
  omega
theorem ro_le (hp : primeB p = true) (d : Nat) (c : Nat → Int) : roN p d c ≤ d := by
  rcases Nat.lt_or_ge d (roN p d c) with h | h
  · have := ker_pts hp (d + 1) (vc d c) (fun i => (roF p d c i : Int)) (fun i hi => (ro_in (show i < roN p d c by omega)).2) (fun i j hij hj => ro_ne hij (by omega)) d (by omega)
    rw [vc_d] at this
    have h1 := primeB_bd hp
    have h2 := Int.le_of_dvd (by omega) this
    omega
  · exact h
abbrev qr (d : Nat) (c : Nat → Int) (s : Int) : Nat → Int := qd s d (vc d c)
theorem qr_top {d : Nat} {c : Nat → Int} {s : Int} (hd : 0 < d) : qr d c s (d - 1) = 1 := by
  obtain ⟨d, rfl⟩ : ∃ k, d = k + 1 := ⟨d - 1, by omega⟩
  show qd s (d + 1) (vc (d + 1) c) d = 1
  rw [qd_top, vc_d]
theorem qr_off (hp : primeB p = true) {d : Nat} {c : Nat → Int} {s r : Int} (hs : p ∣ fv d c s) (hr : p ∣ fv d c r) (hne : ¬ p ∣ r - s) : p ∣ ev d (qr d c s) r := by
  have e := qd_div s r d (vc d c)
  have h2 : p ∣ fv d c r - fv d c s := Int.dvd_sub hr hs
  unfold fv at h2
  rw [e, Int.add_sub_cancel] at h2
  exact cancel hp hne h2
theorem qr_self {d : Nat} {c : Nat → Int} {s : Int} : ev d (qr d c s) s = slF d (vc d c) s := qd_sl s d _
theorem sl_ne (hp : primeB p = true) {d : Nat} {c : Nat → Int} (hd : 0 < d) (hN : roN p d c = d) {i : Nat} (hi : i < d) : ¬ p ∣ slF d (vc d c) (roF p d c i : Int) := fun h => by
  have hr := (ro_in (p := p) (d := d) (c := c) (i := i) (by omega)).2
  have := ker_pts hp d (qr d c (roF p d c i : Int)) (fun j => (roF p d c j : Int)) (fun j hj => by
    by_cases e : j = i
    · subst e; show p ∣ ev d _ (roF p d c j : Int); rw [qr_self]; exact h
    · refine qr_off hp hr (ro_in (by omega)).2 ?_
      rcases Nat.lt_or_ge j i with q | q
      · exact ro_ne q (by omega)
      · intro h'; exact ro_ne (p := p) (d := d) (c := c) (show i < j by omega) (by omega) (dvd_sy h' |> fun z => by simpa using z)) (fun a b hab hb => ro_ne hab (by omega)) (d - 1) (by omega)
  rw [qr_top hd] at this
  have h1 := primeB_bd hp
  have h2 := Int.le_of_dvd (by omega) this
  omega
def hG (p r o : Int) (w : Nat → Int) (m : Nat) : Nat → Int
  | 0 => o
  | k + 1 => (hG p r o w m k * r + w (m - 1 - k)) % p
theorem hG_ev (r o : Int) (w : Nat → Int) (m : Nat) : ∀ k, k ≤ m → p ∣ hG p r o w m k - (o * r ^ k + ev k (fun j => w (m - k + j)) r)
  | 0, _ => by
    show p ∣ o - (o * r ^ 0 + 0)
    rw [Int.pow_zero, Int.mul_one, Int.add_zero, Int.sub_self]; exact Int.dvd_zero p
  | k + 1, hk => by
    have h1 := hG_ev r o w m k (by omega)
    have h2 := dvd_mod p (hG p r o w m k * r + w (m - 1 - k))
    have h3 := mul_dvd h1 (dvd_rf (p := p) (a := r) rfl)
    show p ∣ (hG p r o w m k * r + w (m - 1 - k)) % p - _
    refine dvd_tr h2 ?_
    rw [ev_s, show (tl fun j => w (m - (k + 1) + j)) = fun j => w (m - k + j) from funext fun j => by show w (m - (k + 1) + (j + 1)) = _; rw [show m - (k + 1) + (j + 1) = m - k + j by omega], show m - (k + 1) + 0 = m - 1 - k by omega, Int.pow_succ]
    generalize ev k (fun j => w (m - k + j)) r = E at h3 ⊢
    have : hG p r o w m k * r + w (m - 1 - k) - (o * (r ^ k * r) + (w (m - 1 - k) + r * E)) = hG p r o w m k * r - (o * r ^ k + E) * r := by grind
    rw [this]; exact h3
theorem hG_bd (hp : 0 < p) (r o : Int) (w : Nat → Int) (m : Nat) (ho : 0 ≤ o ∧ o < p) : ∀ k, 0 ≤ hG p r o w m k ∧ hG p r o w m k < p
  | 0 => ho
  | k + 1 => ⟨Int.emod_nonneg _ (by omega), Int.emod_lt_of_pos _ hp⟩
theorem hG_val (hp : 0 < p) (r : Int) (v : Nat → Int) (m : Nat) : hG p r 0 v m m = ev m v r % p := by
  refine eq_of_dvd (hG_bd hp r 0 v m ⟨Int.le_refl _, hp⟩ m) ⟨Int.emod_nonneg _ (by omega), Int.emod_lt_of_pos _ hp⟩ ?_
  have h := hG_ev (p := p) r 0 v m m (Nat.le_refl m)
  rw [Int.zero_mul, Int.zero_add, Nat.sub_self] at h
  have e : (fun j => v (0 + j)) = v := funext fun j => by rw [Nat.zero_add]
  rw [e] at h
  exact dvd_tr h (dvd_sy (dvd_mod p _))
theorem hG_fv (hp : 1 < p) (r : Int) (c : Nat → Int) (d : Nat) (hd : 0 < d) : hG p r 1 c d d = fv d c r % p := by
  refine eq_of_dvd (hG_bd (by omega) r 1 c d ⟨by omega, hp⟩ d) ⟨Int.emod_nonneg _ (by omega), Int.emod_lt_of_pos _ (by omega)⟩ ?_
  have h := hG_ev (p := p) r 1 c d d (Nat.le_refl d)
  rw [Int.one_mul, Nat.sub_self] at h
  have e : (fun j => c (0 + j)) = c := funext fun j => by rw [Nat.zero_add]
  rw [e, Int.add_comm, ← fv_eq] at h
  exact dvd_tr h (dvd_sy (dvd_mod p _))
def slP (p : Int) (d : Nat) (c : Nat → Int) (r : Int) : Int := slF d (vc d c) r % p
def slI (p : Int) (d : Nat) (c : Nat → Int) (i : Nat) : Int := ((i : Int) + 1) * vc d c (i + 1) % p
theorem sl_i (hp : 0 < p) (r : Int) (c : Nat → Int) (d : Nat) : hG p r 0 (slI p d c) d d = slP p d c r := by
  rw [hG_val hp]
  unfold slP
  refine mod_eq_of_dvd (sumZ_dvd d (fun i _ => mul_dvd (dvd_mod p _) (dvd_rf rfl)))
def slS (c : Nat → Int) (i : Nat) : Int := (i : Int) * c i
theorem sl_s (hp : 0 < p) (r : Int) (c : Nat → Int) (d : Nat) (hd : 0 < d) : hG p r ((d : Int) % p) (slS c) d (d - 1) = slP p d c r := by
  have hb := hG_bd hp r ((d : Int) % p) (slS c) d ⟨Int.emod_nonneg _ (by omega), Int.emod_lt_of_pos _ hp⟩ (d - 1)
  refine eq_of_dvd hb ⟨Int.emod_nonneg _ (by omega), Int.emod_lt_of_pos _ hp⟩ ?_
  have h := hG_ev (p := p) r ((d : Int) % p) (slS c) d (d - 1) (by omega)
  refine dvd_tr h ?_
  refine dvd_tr ?_ (dvd_sy (dvd_mod p _))
  obtain ⟨e, rfl⟩ : ∃ k, d = k + 1 := ⟨d - 1, by omega⟩
  show p ∣ ((e + 1 : Nat) : Int) % p * r ^ e + ev e _ r - (sumZ (fun i => ((i : Int) + 1) * vc (e + 1) c (i + 1) * r ^ i) e + ((e : Int) + 1) * vc (e + 1) c (e + 1) * r ^ e)
  rw [vc_d, Int.mul_one]
  have h1 : ev e (fun j => slS c (e + 1 - (e + 1 - 1) + j)) r = sumZ (fun i => ((i : Int) + 1) * vc (e + 1) c (i + 1) * r ^ i) e := sumZ_congr e (fun j hj => by
    show slS c (e + 1 - (e + 1 - 1) + j) * r ^ j = _
    rw [show e + 1 - (e + 1 - 1) + j = j + 1 by omega, vc_lt (by omega)]; rfl)
  rw [h1]
  have h2 := mul_dvd (dvd_mod p ((e + 1 : Nat) : Int)) (dvd_rf (p := p) (a := r ^ e) rfl)
  generalize sumZ (fun i => ((i : Int) + 1) * vc (e + 1) c (i + 1) * r ^ i) e = S at *
  rw [show ((e : Int) + 1) = ((e + 1 : Nat) : Int) from rfl]
  rwa [show ((e + 1 : Nat) : Int) % p * r ^ e + S - (S + ((e + 1 : Nat) : Int) * r ^ e) = ((e + 1 : Nat) : Int) % p * r ^ e - ((e + 1 : Nat) : Int) * r ^ e by omega]
def po (p : Int) (x : Nat → Int) : Nat → Nat → Int
  | 0 => eF 0
  | m + 1 => fun k => ((if k = 0 then 0 else po p x m (k - 1)) - x m * po p x m k) % p
theorem po_Bp (hp : 1 < p) (x : Nat → Int) : ∀ m, Bp p (po p x m)
  | 0 => eF_Bp hp 0
  | m + 1 => fun k => ⟨Int.emod_nonneg _ (by omega), Int.emod_lt_of_pos _ (by omega)⟩
theorem po_z (x : Nat → Int) : ∀ m k, m < k → po p x m k = 0
  | 0, k, h => by show eF 0 k = 0; rw [eF_dl]; unfold dl; rw [if_neg (by omega)]
  | m + 1, k, h => by
    show ((if k = 0 then 0 else po p x m (k - 1)) - x m * po p x m k) % p = 0
    rw [if_neg (by omega), po_z x m (k - 1) (by omega), po_z x m k (by omega), Int.mul_zero]; rfl
theorem po_top (hp : 1 < p) (x : Nat → Int) : ∀ m, po p x m m = 1
  | 0 => by show eF 0 0 = 1; rw [eF_dl]; rfl
  | m + 1 => by
    show ((if m + 1 = 0 then 0 else po p x m (m + 1 - 1)) - x m * po p x m (m + 1)) % p = 1
    rw [if_neg (by omega), show m + 1 - 1 = m from rfl, po_top hp x m, po_z x m (m + 1) (by omega), Int.mul_zero, Int.sub_zero, Int.emod_eq_of_lt (by omega) hp]
theorem po_ev (x : Nat → Int) (m : Nat) (r : Int) : p ∣ ev (m + 2) (po p x (m + 1)) r - (r - x m) * ev (m + 1) (po p x m) r := by
  have h1 : p ∣ ev (m + 2) (po p x (m + 1)) r - ev (m + 2) (fun k => (if k = 0 then 0 else po p x m (k - 1)) - x m * po p x m k) r := ev_dvd (fun j _ => dvd_mod p _) r
  refine dvd_tr h1 (dvd_rf ?_)
  have h2 : ev (m + 2) (fun k => (if k = 0 then 0 else po p x m (k - 1)) - x m * po p x m k) r = ev (m + 2) (fun k => if k = 0 then 0 else po p x m (k - 1)) r - x m * ev (m + 2) (po p x m) r := by
    unfold ev
    rw [show ∀ a b : Int, a - b = a + (-1) * b from fun a b => by omega, ← Int.mul_assoc, ← sumZ_mul, ← sumZ_add]
    exact sumZ_congr _ (fun j _ => by rw [Int.sub_mul]; grind)
  rw [h2, ev_s (m + 1) (fun k => if k = 0 then 0 else po p x m (k - 1)) r, ev_top (m + 1) (po p x m), po_z x m (m + 1) (by omega), Int.zero_mul, Int.add_zero]
  rw [show (tl fun k => if k = 0 then 0 else po p x m (k - 1)) = po p x m from funext fun j => by show (if j + 1 = 0 then 0 else po p x m (j + 1 - 1)) = _; rw [if_neg (by omega)]; rfl]
  show 0 + r * _ - _ = _
  rw [Int.zero_add, Int.sub_mul]
theorem po_root (x : Nat → Int) : ∀ m i, i < m → p ∣ ev (m + 1) (po p x m) (x i)
  | 0, _, h => absurd h (Nat.not_lt_zero _)
  | m + 1, i, h => by
    have h1 := po_ev (p := p) x m (x i)
    refine (Int.dvd_iff_dvd_of_dvd_sub h1).2 ?_
    by_cases e : i = m
    · subst e; rw [Int.sub_self, Int.zero_mul]; exact Int.dvd_zero p
    · exact Int.dvd_mul_of_dvd_right (po_root x m i (by omega))
theorem po_fv (hp : 1 < p) (x : Nat → Int) {d i : Nat} (hi : i < d) {c : Nat → Int} (hc : ∀ j, j < d → c j = po p x d j) : p ∣ fv d c (x i) := by
  have h := po_root (p := p) x d i hi
  unfold fv
  rwa [ev_congr (w := vc d c) (fun j hj => by
    by_cases e : j < d
    · rw [vc_lt e, hc j e]
    · obtain rfl : j = d := by omega
      rw [vc_d, po_top hp])] at h
end
end Go.Am

namespace Go.Am
section
variable {p : Int} {d : Nat} {c : Nat → Int}
def SP (d : Nat) (c v : Nat → Int) (j : Nat) : Int := (if j = 0 then 0 else v (j - 1)) - v (d - 1) * c j
def rs (p : Int) (d : Nat) (c : Nat → Int) : Nat → Nat → Int
  | 0 => eF 0
  | k + 1 => fun j => if j < d then SP d c (rs p d c k) j % p else 0
theorem rs_s {k j : Nat} (hj : j < d) : rs p d c (k + 1) j = SP d c (rs p d c k) j % p := if_pos hj
theorem rs_VV (hp : 1 < p) (hd : 0 < d) : ∀ k, VV p d (rs p d c k)
  | 0 => VV.eF hp hd
  | k + 1 => ⟨fun j => by
      show 0 ≤ (if j < d then SP d c (rs p d c k) j % p else 0) ∧ (if j < d then SP d c (rs p d c k) j % p else 0) < p
      split
      · exact ⟨Int.emod_nonneg _ (by omega), Int.emod_lt_of_pos _ (by omega)⟩
      · omega, fun j hj => if_neg (by omega)⟩
theorem rs_low (hp : 1 < p) : ∀ i, i < d → rs p d c i = eF i
  | 0, _ => rfl
  | i + 1, hi => by
    have h := rs_low hp i (by omega)
    funext j
    by_cases hj : j < d
    · rw [rs_s hj]
      unfold SP
      rw [h, eF_dl, eF_dl, eF_dl, show dl i (d - 1) = 0 from if_neg (by omega), Int.zero_mul, Int.sub_zero]
      unfold dl
      by_cases e : j = 0
      · subst e; rw [if_pos rfl, if_neg (by omega)]; rfl
      · rw [if_neg e]
        by_cases e2 : i = j - 1
        · rw [if_pos e2, if_pos (by omega), Int.emod_eq_of_lt (by omega) hp]
        · rw [if_neg e2, if_neg (by omega)]; rfl
    · show (if j < d then _ else 0) = _
      rw [if_neg hj, eF_dl]; unfold dl; rw [if_neg (by omega)]
theorem SP_cg {u v : Nat → Int} (hd : 0 < d) (h : cg p d u v) : cg p d (SP d c u) (SP d c v) := fun j hj => by
  unfold SP
  have h1 := mul_dvd (h (d - 1) (by omega)) (dvd_rf (p := p) (a := c j) rfl)
  by_cases e : j = 0
  · subst e
    rw [if_pos rfl, if_pos rfl]
    rw [show 0 - u (d - 1) * c 0 - (0 - v (d - 1) * c 0) = - (u (d - 1) * c 0 - v (d - 1) * c 0) by omega]
    exact Int.dvd_neg.2 h1
  · rw [if_neg e, if_neg e]
    have h2 := Int.dvd_sub (h (j - 1) (by omega)) h1
    rwa [show u (j - 1) - u (d - 1) * c j - (v (j - 1) - v (d - 1) * c j) = u (j - 1) - v (j - 1) - (u (d - 1) * c j - v (d - 1) * c j) by omega]
theorem SP_sum (v : Nat → Int) (w : Nat → Nat → Int) (z : Nat) : ∀ m, sumZ (fun a => v a * SP d c (w a) z) m = SP d c (fun z => sumZ (fun a => v a * w a z) m) z
  | 0 => by show 0 = (if z = 0 then 0 else 0) - 0 * c z; rw [Int.zero_mul]; split <;> rfl
  | m + 1 => by
    have h := SP_sum v w z m
    show sumZ (fun a => v a * SP d c (w a) z) m + v m * SP d c (w m) z = _
    rw [h]
    unfold SP
    show _ = (if z = 0 then 0 else sumZ (fun a => v a * w a (z - 1)) m + v m * w m (z - 1)) - (sumZ (fun a => v a * w a (d - 1)) m + v m * w m (d - 1)) * c z
    by_cases e : z = 0
    · rw [if_pos e, if_pos e, if_pos e]; grind
    · rw [if_neg e, if_neg e, if_neg e]; grind
def sit (d : Nat) (c : Nat → Int) : Nat → (Nat → Int) → Nat → Int
  | 0, v => v
  | l + 1, v => SP d c (sit d c l v)
theorem rs_SP (k : Nat) : cg p d (rs p d c (k + 1)) (SP d c (rs p d c k)) := fun j hj => by rw [rs_s hj]; exact dvd_mod p _
theorem rs_sum (hp : 1 < p) (hd : 0 < d) (v : Nat → Int) : ∀ l, cg p d (fun z => sumZ (fun a => v a * rs p d c (a + l) z) d) (sit d c l v)
  | 0 => fun z hz => dvd_rf (by
    show sumZ (fun a => v a * rs p d c (a + 0) z) d = v z
    rw [sumZ_congr (g := fun a => v a * dl a z) d (fun a ha => by show v a * rs p d c a z = _; rw [rs_low hp a ha, eF_dl])]
    exact sum_dl v hz)
  | l + 1 => fun z hz => by
    have h1 : p ∣ sumZ (fun a => v a * rs p d c (a + (l + 1)) z) d - sumZ (fun a => v a * SP d c (rs p d c (a + l)) z) d := sumZ_dvd d (fun a _ => mul_dvd (dvd_rf rfl) (rs_SP (a + l) z hz))
    refine dvd_tr h1 ?_
    rw [SP_sum]
    exact SP_cg hd (rs_sum hp hd v l) z hz
theorem sit_rs (hd : 0 < d) (m : Nat) : ∀ l, cg p d (sit d c l (rs p d c m)) (rs p d c (m + l))
  | 0 => cg.rf _
  | l + 1 => (SP_cg hd (sit_rs hd m l)).tr (rs_SP (m + l)).sy
theorem rs_mul (hp : 1 < p) (hd : 0 < d) (m l : Nat) {z : Nat} (hz : z < d) : p ∣ sumZ (fun a => rs p d c m a * rs p d c (a + l) z) d - rs p d c (m + l) z := ((rs_sum hp hd (rs p d c m) l).tr (sit_rs hd m l)) z hz
def polT (p : Int) (d : Nat) (c : Nat → Int) (a b z : Nat) : Int := if a < d ∧ b < d then rs p d c (a + b) z else 0
theorem pol_at {a b : Nat} (ha : a < d) (hb : b < d) : polT p d c a b = rs p d c (a + b) := funext fun z => if_pos ⟨ha, hb⟩
theorem pol_er (hp : 1 < p) (hd : 0 < d) (m : Nat) {l : Nat} (hl : l < d) : timesF p d (polT p d c) (rs p d c m) (eF l) = rs p d c (m + l) := by
  refine VV.ext (VV.times (by omega)) (rs_VV hp hd _) fun z hz => ?_
  rw [times_er hl hz]
  refine dvd_tr (dvd_mod p _) ?_
  rw [sumZ_congr (g := fun a => rs p d c m a * rs p d c (a + l) z) d (fun a ha => by rw [pol_at ha hl, Int.mul_comm])]
  exact rs_mul hp hd m l hz
theorem pol_el (hp : 1 < p) (hd : 0 < d) (m : Nat) {l : Nat} (hl : l < d) : timesF p d (polT p d c) (eF l) (rs p d c m) = rs p d c (m + l) := by
  refine VV.ext (VV.times (by omega)) (rs_VV hp hd _) fun z hz => ?_
  rw [times_el hl hz]
  refine dvd_tr (dvd_mod p _) ?_
  rw [sumZ_congr (g := fun a => rs p d c m a * rs p d c (a + l) z) d (fun a ha => by rw [pol_at hl ha, Int.mul_comm, Nat.add_comm l a])]
  exact rs_mul hp hd m l hz
theorem pol_Bp (hp : 1 < p) (hd : 0 < d) : BpT p (polT p d c) := fun a b z => by
  unfold polT
  split
  · exact (rs_VV hp hd _).b z
  · omega
theorem pol_asc (hp : 1 < p) (hd : 0 < d) : assocP p d (polT p d c) := fun i hi j hj k hk z _ => by
  show timesF p d (polT p d c) (polT p d c i j) (eF k) z = timesF p d (polT p d c) (eF i) (polT p d c j k) z
  rw [pol_at hi hj, pol_at hj hk, pol_er hp hd _ hk, pol_el hp hd _ hi, show i + j + k = j + k + i by omega]
theorem pol_LU (hp : 1 < p) (hd : 0 < d) : LU p d (polT p d c) (eF 0) := fun i hi k hk => dvd_rf (by
  rw [sumZ_congr (g := fun j => polT p d c j i k * dl j 0) d (fun j _ => by rw [eF_dl]; unfold dl; by_cases e : j = 0 <;> simp [e, eq_comm]), sum_dl (fun j => polT p d c j i k) hd, pol_at hd hi, Nat.zero_add, rs_low hp i hi, eF_dl])
theorem pol_RU (hp : 1 < p) (hd : 0 < d) : RU p d (polT p d c) (eF 0) := fun i hi k hk => dvd_rf (by
  rw [sumZ_congr (g := fun j => polT p d c i j k * dl j 0) d (fun j _ => by rw [eF_dl]; unfold dl; by_cases e : j = 0 <;> simp [e, eq_comm]), sum_dl (fun j => polT p d c i j k) hd, pol_at hi hd, Nat.add_zero, rs_low hp i hi, eF_dl])
abbrev polO (d : Nat) : Nat → Int := eF (d - 1)
theorem pol_VN (hp : primeB p = true) (hd : 0 < d) (hd6 : d ≤ 6) : VN p d (polT p d c) (polO d) := by
  have hpb := primeB_bd hp
  exact { hp := hp, n0 := hd, n6 := hd6, hT := pol_Bp (by omega) hd
          tz := fun i j k h => by
            unfold polT
            split
            · exact (rs_VV (by omega) hd _).z k (by omega)
            · rfl
          f := eF_Bp (by omega) _, fz := (VV.eF (p := p) (n := d) (by omega) (by omega)).z, asc := pol_asc (by omega) hd
          u := uOk_of hp hd (pol_Bp (by omega) hd) (pol_LU (by omega) hd) (pol_RU (by omega) hd) }
theorem pol_com : comN d (polT p d c) := fun i hi j hj z _ => by rw [pol_at hi (by omega), pol_at (by omega) hi, Nat.add_comm]
theorem pol_u (hp : primeB p = true) (hd : 0 < d) (hd6 : d ≤ 6) : uF p d (polT p d c) = eF 0 := by
  have hpb := primeB_bd hp
  have h := pol_VN (c := c) hp hd hd6
  exact VV.ext h.u_V (VV.eF (by omega) hd) (fun k hk => unit_uniq h.LU (pol_RU (by omega) hd) hk)
theorem pol_pw (hp : primeB p = true) (hd : 1 < d) (hd6 : d ≤ 6) : ∀ k, pw p d (polT p d c) (eF 1) k = rs p d c k
  | 0 => pol_u hp (by omega) hd6
  | k + 1 => by
    have hpb := primeB_bd hp
    rw [pw_s, pol_pw hp hd hd6 k, pol_er (by omega) (by omega) k hd]
theorem full_of_null {A : Nat → Nat → Int} (hp : primeB p = true) (hA : ∀ i, Bp p (A i)) (h : ∀ x, Null p d d A x → ∀ j, j < d → p ∣ x j) : (redGo p d A d).no = d := by
  obtain ⟨⟨l, rr⟩, hn⟩ := red_ok (m := d) hp (fun i (_ : i < d) => hA i)
  have hall : ∀ j, j < d → IsL (redGo p d A d).no l j := fun j hj => Classical.byContradiction fun hcl => by
    have h1 := h _ ((hn _).1 (solC_null rr hj hcl)) j hj
    rw [solC_self] at h1
    have h2 := primeB_bd hp
    have := Int.le_of_dvd (by omega) h1
    omega
  exact (inc_eq (n := (redGo p d A d).no) (n' := d) (l := l) (l' := fun i => i) rr.inc (fun i j h _ => h) (fun i hi => ⟨l i, (rr.lead i hi).1, rfl⟩) (fun j hj => hall j hj)).1
theorem formT_pol (hp : 1 < p) (hd : 0 < d) (hd6 : d ≤ 6) {i j : Nat} (hi : i < d) (hj : j < d) : formT p (polT p d c) (polO d) i j = rs p d c (i + j) (d - 1) := by
  show sumZ (fun k => eF (d - 1) k * polT p d c i j k) 6 % p = _
  rw [sumZ_congr (g := fun k => polT p d c i j k * dl k (d - 1)) 6 (fun k _ => by rw [eF_dl, Int.mul_comm]; unfold dl; by_cases e : k = d - 1 <;> simp [e, eq_comm]), sum_dl (fun k => polT p d c i j k) (show d - 1 < 6 by omega), pol_at hi hj]
  have := (rs_VV (c := c) hp hd (i + j)).b (d - 1)
  exact Int.emod_eq_of_lt this.1 this.2
theorem pol_rank (hp : primeB p = true) (hd : 0 < d) (hd6 : d ≤ 6) : rankT p d (polT p d c) (polO d) = d := by
  have hpb := primeB_bd hp
  refine full_of_null hp (fun i => formT_Bp (by omega) i) fun x hx => ?_
  have key : ∀ t, t ≤ d → ∀ j, j < d → d ≤ j + t → p ∣ x j := by
    intro t
    induction t with
    | zero => intro _ j hj h; omega
    | succ t ih =>
      intro ht j hj h
      by_cases e : d ≤ j + t
      · exact ih (by omega) j hj e
      · have h1 : p ∣ sumZ (fun k => formT p (polT p d c) (polO d) t k * x k) d := hx t (by omega)
        have h2 := sumZ_split (p := p) (f := fun k => formT p (polT p d c) (polO d) t k * x k) (i0 := j) d hj (fun k hk hne => by
          show p ∣ formT p (polT p d c) (polO d) t k * x k
          rcases Nat.lt_or_ge k j with q | q
          · rw [formT_pol (by omega) hd hd6 (by omega) hk, rs_low (by omega) _ (by omega), eF_dl, show dl (t + k) (d - 1) = 0 from if_neg (by omega), Int.zero_mul]; exact Int.dvd_zero p
          · exact Int.dvd_mul_of_dvd_right (ih (by omega) k hk (by omega)))
        rw [formT_pol (by omega) hd hd6 (by omega) hj, rs_low (by omega) _ (by omega), eF_dl, show dl (t + j) (d - 1) = 1 from if_pos (by omega), Int.one_mul] at h2
        have := Int.dvd_sub h1 h2
        rwa [show ∀ a b : Int, a - (a - b) = b from fun a b => by omega] at this
  exact fun j hj => key d (Nat.le_refl d) j hj (by omega)
theorem pol_mp (hp : primeB p = true) (hd : 1 < d) (hd6 : d ≤ 6) (hc : ∀ j, j < d → 0 ≤ c j ∧ c j < p) {D : Nat} (h : MPd p d (polT p d c) (eF 1) D) :
    D = d ∧ ∀ a, a < d → (- (echGo p (D + 1) (mpS p d (polT p d c) (eF 1)) d).O a D) % p = c a := by
  have hpb := primeB_bd hp
  have hv := pol_VN (c := c) hp (by omega) hd6
  have hs := (oS_sol hp (mpS_Bp hv (eF 1)) h.sy).1
  have row : ∀ r j, mpS p d (polT p d c) (eF 1) r j = rs p d c j r := fun r j => by unfold mpS; rw [pol_pw hp hd hd6]
  have hdot : ∀ r (x : Nat → Int), r < D → dot D (mpS p d (polT p d c) (eF 1) r) x = x r := fun r x hr => by
    show sumZ (fun j => mpS p d (polT p d c) (eF 1) r j * x j) D = x r
    rw [sumZ_congr (g := fun j => x j * dl j r) D (fun j hj => by rw [row, rs_low (by omega) j (by have := h.dn; omega), eF_dl, Int.mul_comm])]
    exact sum_dl x hr
  have hD : D = d := by
    have hdn := h.dn
    rcases Nat.lt_or_ge D d with q | q
    · have h1 := hs D q
      have h2 : dot D (mpS p d (polT p d c) (eF 1) D) (sS p D d (mpS p d (polT p d c) (eF 1))) = 0 := by
        show sumZ (fun j => mpS p d (polT p d c) (eF 1) D j * _) D = 0
        rw [sumZ_congr (g := fun _ => 0) D (fun j hj => by rw [row, rs_low (by omega) j (by omega), eF_dl, show dl j D = 0 from if_neg (by omega), Int.zero_mul])]
        exact sumZ_zero D
      rw [h2, row, rs_low (by omega) D q, eF_dl, show dl D D = 1 from if_pos rfl] at h1
      have := Int.le_of_dvd (by omega) (dvd_sy h1)
      omega
    · omega
  subst hD
  refine ⟨rfl, fun a ha => ?_⟩
  have h1 := hs a ha
  rw [hdot a _ ha, row] at h1
  have e1 : sS p D D (mpS p D (polT p D c) (eF 1)) a = (echGo p (D + 1) (mpS p D (polT p D c) (eF 1)) D).O a D := by unfold sS cutF; rw [if_pos ha]
  rw [e1] at h1
  have e2 : p ∣ rs p D c D a - - c a := by
    obtain ⟨k, rfl⟩ : ∃ k, D = k + 1 := ⟨D - 1, by omega⟩
    refine dvd_tr (rs_SP k a ha) (dvd_rf ?_)
    unfold SP
    rw [rs_low (by omega) k (by omega), eF_dl, eF_dl, show k + 1 - 1 = k from rfl, show dl k k = 1 from if_pos rfl, Int.one_mul]
    by_cases e : a = 0
    · subst e; rw [if_pos rfl]; omega
    · rw [if_neg e, show dl k (a - 1) = 0 from if_neg (by omega)]; omega
  have h2 := dvd_tr h1 e2
  refine eq_of_dvd ⟨Int.emod_nonneg _ (by omega), Int.emod_lt_of_pos _ (by omega)⟩ (hc a ha) ?_
  refine dvd_tr (dvd_mod p _) ?_
  have := Int.dvd_neg.2 h2
  rwa [show ∀ a b : Int, -(a - -b) = -a - b from fun a b => by omega] at this
end
end Go.Am

namespace Go.Am
section
variable {p : Int} {d : Nat} {c : Nat → Int}
theorem ev_sub (d : Nat) (u w : Nat → Int) (r : Int) : ev d (fun z => u z - w z) r = ev d u r - ev d w r := by
  unfold ev
  rw [show ∀ a b : Int, a - b = a + (-1) * b from fun a b => by omega, ← sumZ_mul, ← sumZ_add]
  exact sumZ_congr _ (fun j _ => by rw [Int.sub_mul, Int.neg_mul, Int.one_mul, Int.sub_eq_add_neg])
theorem ev_rs (hd : 0 < d) {r : Int} (hr : p ∣ fv d c r) : ∀ k, p ∣ ev d (rs p d c k) r - r ^ k
  | 0 => dvd_rf (by
    show ev d (eF 0) r = r ^ 0
    unfold ev
    rw [sumZ_congr (g := fun j => r ^ j * dl j 0) d (fun j _ => by rw [eF_dl, Int.mul_comm]; unfold dl; by_cases e : j = 0 <;> simp [e, eq_comm]), sum_dl (fun j => r ^ j) hd])
  | k + 1 => by
    have h1 := ev_rs hd hr k
    have h2 : p ∣ ev d (rs p d c (k + 1)) r - ev d (SP d c (rs p d c k)) r := ev_dvd (rs_SP k) r
    refine dvd_tr h2 ?_
    generalize rs p d c k = v at *
    have h3 : ev d (SP d c v) r = r * ev d v r - v (d - 1) * fv d c r := by
      obtain ⟨e, rfl⟩ : ∃ k, d = k + 1 := ⟨d - 1, by omega⟩
      have h4 : ev (e + 1) (SP (e + 1) c v) r = ev (e + 1) (fun j => if j = 0 then 0 else v (j - 1)) r - v e * ev (e + 1) c r := by
        unfold ev SP
        rw [show ∀ a b : Int, a - b = a + (-1) * b from fun a b => by omega, ← Int.mul_assoc, ← sumZ_mul, ← sumZ_add]
        exact sumZ_congr _ (fun j _ => by rw [show e + 1 - 1 = e from rfl, Int.sub_mul]; grind)
      rw [h4, ev_s e (fun j => if j = 0 then 0 else v (j - 1)) r, fv_eq, ev_top e v r]
      rw [show (tl fun k => if k = 0 then 0 else v (k - 1)) = v from funext fun j => by show (if j + 1 = 0 then 0 else v (j + 1 - 1)) = _; rw [if_neg (by omega)]; rfl]
      show 0 + r * ev e v r - v e * ev (e + 1) c r = r * (ev e v r + v e * r ^ e) - v e * (ev (e + 1) c r + r ^ (e + 1))
      rw [Int.pow_succ]
      grind
    rw [h3, Int.pow_succ]
    have h5 : p ∣ v (d - 1) * fv d c r := Int.dvd_mul_of_dvd_right hr
    have h6 := mul_dvd h1 (dvd_rf (p := p) (a := r) rfl)
    have := Int.dvd_sub h6 h5
    rwa [show ev d v r * r - r ^ k * r - v (d - 1) * fv d c r = r * ev d v r - v (d - 1) * fv d c r - r ^ k * r by rw [Int.mul_comm r]; omega] at this
theorem ev_cg {u v : Nat → Int} (h : cg p d u v) (r : Int) : p ∣ ev d u r - ev d v r := ev_dvd h r
theorem ev_times (hd : 0 < d) {r : Int} (hr : p ∣ fv d c r) (u v : Nat → Int) : p ∣ ev d (timesF p d (polT p d c) u v) r - ev d u r * ev d v r := by
  refine dvd_tr (ev_cg (cg_times u v) r) ?_
  have e1 : ev d (pz d (polT p d c) u v) r = sumZ (fun i => sumZ (fun j => u i * v j * ev d (polT p d c i j) r) d) d := by
    have e2 : (pz d (polT p d c) u v) = fun k => sumZ (fun i => 1 * (fun z => sumZ (fun j => u i * v j * polT p d c i j z) d) k) d := funext fun k => by
      show sumZ (fun i => sumZ (fun j => u i * v j * polT p d c i j k) d) d = _
      exact sumZ_congr d (fun i _ => (Int.one_mul _).symm)
    rw [e2, ev_sum d (fun _ => 1) (fun i z => sumZ (fun j => u i * v j * polT p d c i j z) d) r d]
    exact sumZ_congr d (fun i _ => by rw [Int.one_mul]; exact ev_sum d (fun j => u i * v j) (fun j => polT p d c i j) r d)
  rw [e1]
  have e3 : ev d u r * ev d v r = sumZ (fun i => sumZ (fun j => u i * v j * (r ^ i * r ^ j)) d) d := by
    unfold ev
    rw [sum_mul_sum]
    exact sumZ_congr d (fun i _ => sumZ_congr d (fun j _ => by rw [Int.mul_assoc, Int.mul_assoc, Int.mul_left_comm (r ^ i)]))
  rw [e3]
  refine sumZ_dvd d (fun i hi => sumZ_dvd d (fun j hj => mul_dvd (dvd_rf rfl) ?_))
  rw [pol_at hi hj, ← Int.pow_add]
  exact ev_rs hd hr (i + j)
theorem ev_e0 (hd : 0 < d) (r : Int) : ev d (eF 0) r = 1 := by
  unfold ev
  rw [sumZ_congr (g := fun j => r ^ j * dl j 0) d (fun j _ => by rw [eF_dl, Int.mul_comm]; unfold dl; by_cases e : j = 0 <;> simp [e, eq_comm]), sum_dl (fun j => r ^ j) hd, Int.pow_zero]
theorem ev_pow (hp : primeB p = true) (hd : 0 < d) (hd6 : d ≤ 6) {r : Int} (hr : p ∣ fv d c r) (v : Nat → Int) : ∀ k, p ∣ ev d (powV p d (polT p d c) (uF p d (polT p d c)) v k) r - ev d v r ^ k
  | 0 => dvd_rf (by show ev d (uF p d (polT p d c)) r = _; rw [pol_u hp hd hd6, ev_e0 hd, Int.pow_zero])
  | k + 1 => by
    show p ∣ ev d (timesF p d (polT p d c) (powV p d (polT p d c) (uF p d (polT p d c)) v k) v) r - _
    refine dvd_tr (ev_times hd hr _ _) ?_
    rw [Int.pow_succ]
    exact mul_dvd (ev_pow hp hd hd6 hr v k) (dvd_rf rfl)
theorem pr2_sum (G : Nat → Nat → Nat → Int) (C : Nat → Nat → Int) (k : Nat) (u : Nat → Int) (z : Nat) : ∀ l, p ∣ pr2 p G C k u l z - (u z + sumZ (fun l => C k l * G k l z) l)
  | 0 => dvd_rf (by show u z = u z + 0; omega)
  | l + 1 => by
    show p ∣ (pr2 p G C k u l z + C k l * G k l z) % p - (u z + (sumZ (fun l => C k l * G k l z) l + C k l * G k l z))
    refine dvd_tr (dvd_mod p _) ?_
    have := pr2_sum G C k u z l
    rwa [show ∀ a b x y : Int, a + b - (x + (y + b)) = a - (x + y) from fun a b x y => by omega]
theorem pr1_sum (n : Nat) (G : Nat → Nat → Nat → Int) (C : Nat → Nat → Int) (z : Nat) : ∀ k, p ∣ pr1 p n G C k z - sumZ (fun k => sumZ (fun l => C k l * G k l z) n) k
  | 0 => dvd_rf rfl
  | k + 1 => by
    have h1 := pr2_sum (p := p) G C k (pr1 p n G C k) z n
    have h2 := pr1_sum n G C z k
    refine dvd_tr h1 ?_
    show p ∣ pr1 p n G C k z + _ - (sumZ (fun k => sumZ (fun l => C k l * G k l z) n) k + sumZ (fun l => C k l * G k l z) n)
    rwa [show ∀ a b x : Int, a + b - (x + b) = a - x from fun a b x => by omega]
theorem SP_qr (hd : 0 < d) {s : Int} (hs : p ∣ fv d c s) : cg p d (SP d c (qr d c s)) (fun j => s * qr d c s j) := fun j hj => by
  unfold SP
  rw [qr_top hd, Int.one_mul]
  by_cases e : j = 0
  · subst e
    rw [if_pos rfl]
    have h := qd_first s d (vc d c) hd
    have hs2 : p ∣ ev (d + 1) (vc d c) s := hs
    rw [h, vc_lt hd] at hs2
    have := Int.dvd_neg.2 hs2
    rwa [show -(c 0 + s * qd s d (vc d c) 0) = 0 - c 0 - s * qd s d (vc d c) 0 by omega] at this
  · rw [if_neg e]
    have h := qd_rec s d (vc d c) (j - 1) (by omega)
    rw [show j - 1 + 1 = j by omega, vc_lt hj] at h
    refine dvd_rf ?_
    show qd s d (vc d c) (j - 1) - c j = s * qd s d (vc d c) j
    omega
theorem sit_qr (hd : 0 < d) {s : Int} (hs : p ∣ fv d c s) : ∀ l, cg p d (sit d c l (qr d c s)) (fun j => s ^ l * qr d c s j)
  | 0 => fun j _ => dvd_rf (by show qr d c s j = s ^ 0 * qr d c s j; rw [Int.pow_zero, Int.one_mul])
  | l + 1 => by
    refine (SP_cg hd (sit_qr hd hs l)).tr ?_
    have h := SP_qr hd hs
    intro j hj
    have h1 : SP d c (fun j => s ^ l * qr d c s j) j = s ^ l * SP d c (qr d c s) j := by
      unfold SP
      by_cases e : j = 0
      · rw [if_pos e, if_pos e]; grind
      · rw [if_neg e, if_neg e]; grind
    show p ∣ SP d c (fun j => s ^ l * qr d c s j) j - s ^ (l + 1) * qr d c s j
    rw [h1, Int.pow_succ, Int.mul_assoc]
    exact mul_dvd (dvd_rf rfl) (h j hj)
theorem A_qr (hp : primeB p = true) (hd : 0 < d) (hd6 : d ≤ 6) {s : Int} (hs : p ∣ fv d c s) {i : Nat} (hi : i < d) : p ∣ sumZ (fun j => formT p (polT p d c) (polO d) i j * qr d c s j) d - s ^ i := by
  have hpb := primeB_bd hp
  rw [sumZ_congr (g := fun j => qr d c s j * rs p d c (j + i) (d - 1)) d (fun j hj => by rw [formT_pol (by omega) hd hd6 hi hj, Int.mul_comm, Nat.add_comm])]
  have h := ((rs_sum (c := c) (by omega : 1 < p) hd (qr d c s) i).tr (sit_qr hd hs i)) (d - 1) (by omega)
  have e : s ^ i * qr d c s (d - 1) = s ^ i := by rw [qr_top hd, Int.mul_one]
  exact e ▸ h
theorem ev_handle (hp : primeB p = true) (hd : 0 < d) (hd6 : d ≤ 6) {s : Int} (hs : p ∣ fv d c s) :
    p ∣ ev d (pr1 p d (polT p d c) (cpM p d (formT p (polT p d c) (polO d))) d) s - slF d (vc d c) s := by
  have hpb := primeB_bd hp
  have hA : ∀ i, Bp p (formT p (polT p d c) (polO d) i) := fun i => formT_Bp (by omega) i
  have hr : (redGo p d (formT p (polT p d c) (polO d)) d).no = d := pol_rank hp hd hd6
  generalize hC : cpM p d (formT p (polT p d c) (polO d)) = C at *
  have hq : cg p d (qr d c s) (fun k => sumZ (fun i => C k i * s ^ i) d) := fun k hk => by
    have h1 : p ∣ sumZ (fun i => C k i * sumZ (fun j => formT p (polT p d c) (polO d) i j * qr d c s j) d) d - sumZ (fun i => C k i * s ^ i) d := sumZ_dvd d (fun i hi => mul_dvd (dvd_rf rfl) (A_qr hp hd hd6 hs hi))
    refine dvd_tr ?_ h1
    have e : sumZ (fun i => C k i * sumZ (fun j => formT p (polT p d c) (polO d) i j * qr d c s j) d) d = sumZ (fun j => qr d c s j * sumZ (fun i => C k i * formT p (polT p d c) (polO d) i j) d) d := by
      rw [sumZ_congr (g := fun i => sumZ (fun j => C k i * (formT p (polT p d c) (polO d) i j * qr d c s j)) d) d (fun i _ => (sumZ_mul _ _ _).symm), sumZ_swap]
      refine sumZ_congr d (fun j _ => ?_)
      rw [← sumZ_mul]
      exact sumZ_congr d (fun i _ => by rw [← Int.mul_assoc, Int.mul_comm])
    rw [e]
    have h2 : p ∣ sumZ (fun j => qr d c s j * sumZ (fun i => C k i * formT p (polT p d c) (polO d) i j) d) d - sumZ (fun j => qr d c s j * dl j k) d := sumZ_dvd d (fun j hj => mul_dvd (dvd_rf rfl) (by
      have h3 := cpM_left hp hA hr hk hj
      rw [hC] at h3
      have e2 : dl k j = dl j k := by unfold dl; by_cases q : k = j <;> simp [q, eq_comm]
      rwa [e2] at h3))
    rw [sum_dl (fun j => qr d c s j) hk] at h2
    exact dvd_sy h2
  have h1 : cg p d (pr1 p d (polT p d c) C d) (fun z => sumZ (fun k => sumZ (fun l => C k l * polT p d c k l z) d) d) := fun z _ => pr1_sum d _ C z d
  refine dvd_tr (ev_cg h1 s) ?_
  have e1 : ev d (fun z => sumZ (fun k => sumZ (fun l => C k l * polT p d c k l z) d) d) s = sumZ (fun k => sumZ (fun l => C k l * ev d (polT p d c k l) s) d) d := by
    have e2 : (fun z => sumZ (fun k => sumZ (fun l => C k l * polT p d c k l z) d) d) = fun z => sumZ (fun k => 1 * (fun z => sumZ (fun l => C k l * polT p d c k l z) d) z) d := funext fun z => sumZ_congr d (fun k _ => (Int.one_mul _).symm)
    rw [e2, ev_sum d (fun _ => 1) (fun k z => sumZ (fun l => C k l * polT p d c k l z) d) s d]
    exact sumZ_congr d (fun k _ => by rw [Int.one_mul]; exact ev_sum d (fun l => C k l) (fun l => polT p d c k l) s d)
  rw [e1]
  have h2 : p ∣ sumZ (fun k => sumZ (fun l => C k l * ev d (polT p d c k l) s) d) d - sumZ (fun k => sumZ (fun l => C k l * (s ^ k * s ^ l)) d) d :=
    sumZ_dvd d (fun k hk => sumZ_dvd d (fun l hl => mul_dvd (dvd_rf rfl) (by rw [pol_at hk hl, ← Int.pow_add]; exact ev_rs hd hs (k + l))))
  refine dvd_tr h2 ?_
  have e3 : sumZ (fun k => sumZ (fun l => C k l * (s ^ k * s ^ l)) d) d = ev d (fun k => sumZ (fun i => C k i * s ^ i) d) s := by
    unfold ev
    refine sumZ_congr d (fun k _ => ?_)
    rw [← sumZ_mulr]
    exact sumZ_congr d (fun l _ => by rw [Int.mul_comm (s ^ k), ← Int.mul_assoc])
  rw [e3, ← qr_self]
  exact dvd_sy (ev_cg hq s)
def wI (p : Int) (d : Nat) (c : Nat → Int) (i : Nat) : Int := invF p (slP p d c (roF p d c i : Int))
theorem wI_ok (hp : primeB p = true) (hd : 0 < d) (hN : roN p d c = d) {i : Nat} (hi : i < d) : p ∣ wI p d c i * slF d (vc d c) (roF p d c i : Int) - 1 := by
  have hpb := primeB_bd hp
  have h0 := sl_ne hp hd hN hi
  have h1 : 0 ≤ slP p d c (roF p d c i : Int) ∧ slP p d c (roF p d c i : Int) < p := ⟨Int.emod_nonneg _ (by omega), Int.emod_lt_of_pos _ (by omega)⟩
  have h2 : slP p d c (roF p d c i : Int) ≠ 0 := fun e => h0 (Int.dvd_of_emod_eq_zero e)
  have h3 := inv_dvd hp (show 0 < slP p d c (roF p d c i : Int) by omega) h1.2
  refine dvd_tr ?_ h3
  exact mul_dvd (dvd_rf rfl) (dvd_sy (dvd_mod p _))
theorem form_roots (hp : primeB p = true) (hd : 0 < d) (hN : roN p d c = d) (v : Nat → Int) : p ∣ v (d - 1) - sumZ (fun i => wI p d c i * ev d v (roF p d c i : Int)) d := by
  have key := ker_pts hp d (fun z => v z - sumZ (fun i => wI p d c i * ev d v (roF p d c i : Int) * qr d c (roF p d c i : Int) z) d) (fun i => (roF p d c i : Int)) (fun s hs => by
    have e1 : ev d (fun z => v z - sumZ (fun i => wI p d c i * ev d v (roF p d c i : Int) * qr d c (roF p d c i : Int) z) d) (roF p d c s : Int)
        = ev d v (roF p d c s : Int) - sumZ (fun i => wI p d c i * ev d v (roF p d c i : Int) * ev d (qr d c (roF p d c i : Int)) (roF p d c s : Int)) d := by
      rw [← ev_sum d (fun i => wI p d c i * ev d v (roF p d c i : Int)) (fun i => qr d c (roF p d c i : Int)) (roF p d c s : Int) d]
      exact ev_sub d v _ _
    rw [e1]
    have h1 := sumZ_split (p := p) (f := fun i => wI p d c i * ev d v (roF p d c i : Int) * ev d (qr d c (roF p d c i : Int)) (roF p d c s : Int)) (i0 := s) d hs (fun i hi hne => by
      refine Int.dvd_mul_of_dvd_right (qr_off hp (ro_in (by omega)).2 (ro_in (by omega)).2 ?_)
      rcases Nat.lt_or_ge s i with q | q
      · exact ro_ne q (by omega)
      · intro h'; exact ro_ne (p := p) (d := d) (c := c) (show i < s by omega) (by omega) (by have := Int.dvd_neg.2 h'; rwa [Int.neg_sub] at this))
    refine dvd_sy (dvd_tr h1 ?_)
    rw [qr_self]
    have h2 := mul_dvd (wI_ok hp hd hN hs) (dvd_rf (p := p) (a := ev d v (roF p d c s : Int)) rfl)
    rw [Int.one_mul] at h2
    rwa [Int.mul_assoc, Int.mul_comm (ev d v _), ← Int.mul_assoc]) (fun i j hij hj => ro_ne hij (by omega)) (d - 1) (by omega)
  have e : sumZ (fun i => wI p d c i * ev d v (roF p d c i : Int) * qr d c (roF p d c i : Int) (d - 1)) d = sumZ (fun i => wI p d c i * ev d v (roF p d c i : Int)) d := sumZ_congr d (fun i _ => by rw [qr_top hd, Int.mul_one])
  rw [← e]; exact key
def rnF (p : Int) (d : Nat) (c : Nat → Int) (g : Nat) : Int := sumZ (fun i => wI p d c i * slF d (vc d c) (roF p d c i : Int) ^ g) d % p
theorem genus_roots (hp : primeB p = true) (hd : 0 < d) (hd6 : d ≤ 6) (hN : roN p d c = d) (g : Nat) :
    formF p (polO d) (powV p d (polT p d c) (uF p d (polT p d c)) (pr1 p d (polT p d c) (cpM p d (formT p (polT p d c) (polO d))) d) g) = rnF p d c g := by
  have hpb := primeB_bd hp
  generalize hH : pr1 p d (polT p d c) (cpM p d (formT p (polT p d c) (polO d))) d = H
  generalize hv : powV p d (polT p d c) (uF p d (polT p d c)) H g = v
  have e : formF p (polO d) v = v (d - 1) % p := by
    show sumZ (fun i => eF (d - 1) i * v i) 6 % p = _
    rw [sumZ_congr (g := fun k => v k * dl k (d - 1)) 6 (fun k _ => by rw [eF_dl, Int.mul_comm]; unfold dl; by_cases e : k = d - 1 <;> simp [e, eq_comm]), sum_dl v (show d - 1 < 6 by omega)]
  rw [e]
  refine mod_eq_of_dvd (dvd_tr (form_roots hp hd hN v) (sumZ_dvd d (fun i hi => mul_dvd (dvd_rf rfl) ?_)))
  have hr := (ro_in (p := p) (d := d) (c := c) (i := i) (by omega)).2
  have h1 := ev_pow hp hd hd6 hr H g
  rw [hv] at h1
  refine dvd_tr h1 ?_
  have h2 := ev_handle hp hd hd6 hr
  rw [hH] at h2
  have : ∀ k : Nat, p ∣ ev d H (roF p d c i : Int) ^ k - slF d (vc d c) (roF p d c i : Int) ^ k := fun k => by
    induction k with
    | zero => rw [Int.pow_zero, Int.pow_zero]; exact dvd_rf rfl
    | succ k ih => rw [Int.pow_succ, Int.pow_succ]; exact mul_dvd ih h2
  exact this g
end
end Go.Am

namespace Go.Am
def inB0 (p : Int) (f : Nat → Int) (i : Nat) : Bool := decide (0 ≤ f i) && decide (f i ≤ p - 1)
def PO (p : Int) (n : Nat) (f : Nat → Int) : Prop := primeB p = true ∧ (1 ≤ n ∧ n ≤ 6) ∧ ∀ j, j < n → 0 ≤ f j ∧ f j ≤ p - 1
noncomputable instance (p : Int) (n : Nat) (f : Nat → Int) : Decidable (PO p n f) := Classical.propDecidable _
noncomputable def poC (p : Int) (n : Nat) (f : Nat → Int) : Int := if PO p n f then 0 else 2
def poB (p : Int) (n : Nat) (f : Nat → Int) : Bool := (primeB p && (decide (1 ≤ (n : Int)) && decide ((n : Int) ≤ 6))) && !(decide (0 ≤ idxF (fun i => !(inB0 p f i)) n))
theorem inB0_t {p : Int} {f : Nat → Int} {i : Nat} : inB0 p f i = true ↔ 0 ≤ f i ∧ f i ≤ p - 1 := by unfold inB0; simp
theorem poB_PO {p : Int} {n : Nat} {f : Nat → Int} : poB p n f = decide (PO p n f) := by
  rw [Bool.eq_iff_iff, decide_eq_true_iff]
  unfold poB PO
  simp only [Bool.and_eq_true, Bool.not_eq_true', decide_eq_true_eq, decide_eq_false_iff_not, idx_ge]
  constructor
  · rintro ⟨⟨h1, h2, h3⟩, h4⟩
    refine ⟨h1, ⟨by omega, by omega⟩, fun j hj => ?_⟩
    by_cases q : inB0 p f j = true
    · exact inB0_t.1 q
    · exact absurd ⟨j, hj, by simpa using q⟩ h4
  · rintro ⟨h1, ⟨h2, h3⟩, h4⟩
    refine ⟨⟨h1, by omega, by omega⟩, ?_⟩
    rintro ⟨j, hj, q⟩
    rw [inB0_t.2 (h4 j hj)] at q
    cases q
theorem poC_t {p : Int} {n : Nat} {f : Nat → Int} (h : PO p n f) : poC p n f = 0 := if_pos h
theorem poC_f {p : Int} {n : Nat} {f : Nat → Int} (h : ¬ PO p n f) : poC p n f = 2 := if_neg h
theorem cut_Bp {p : Int} {n : Nat} {f : Nat → Int} (h : PO p n f) : Bp p (cutF f n) := fun j => by
  have hpb := primeB_bd h.1
  unfold cutF
  split
  · have := h.2.2 j ‹_›; omega
  · omega
theorem cut_at {n : Nat} {f : Nat → Int} {j : Nat} (hj : j < n) : cutF f n j = f j := if_pos hj
section
variable {p : Int} {d : Nat} {c : Nat → Int}
def polK (p : Int) (d : Nat) (c : Nat → Int) (K I a b z : Nat) : Int := if (a < d ∧ b < d) ∧ (a + b < K ∨ (a + b = K ∧ a < I)) then rs p d c (a + b) z else 0
theorem polK_0 {a b z : Nat} : polK p d c 0 0 a b z = 0 := by unfold polK; rw [if_neg (by omega)]
theorem polK_n {K a b z : Nat} : polK p d c K d a b z = polK p d c (K + 1) 0 a b z := by
  unfold polK
  by_cases h : (a < d ∧ b < d) ∧ (a + b < K ∨ (a + b = K ∧ a < d))
  · rw [if_pos h, if_pos (by omega)]
  · rw [if_neg h, if_neg (by omega)]
theorem polK_e {K a b z : Nat} (h : 2 * d - 1 ≤ K) : polK p d c K 0 a b z = polT p d c a b z := by
  unfold polK polT
  by_cases h : a < d ∧ b < d
  · rw [if_pos h, if_pos (by omega)]
  · rw [if_neg h, if_neg (by omega)]
theorem polK_t {K i j a b z : Nat} (hi : i < d) (hj : i + j = K) (hjd : j < d) : upd (polK p d c K i) i (upd (polK p d c K i i) j (rs p d c K)) a b z = polK p d c K (i + 1) a b z := by
  unfold upd
  by_cases h1 : a = i
  · subst h1
    rw [if_pos rfl]
    by_cases h2 : b = j
    · subst h2; rw [if_pos rfl]; unfold polK; rw [if_pos (by omega), hj]
    · rw [if_neg h2]; unfold polK
      by_cases h : (a < d ∧ b < d) ∧ (a + b < K ∨ (a + b = K ∧ a < a))
      · rw [if_pos h, if_pos (by omega)]
      · rw [if_neg h, if_neg (by omega)]
  · rw [if_neg h1]; unfold polK
    by_cases h : (a < d ∧ b < d) ∧ (a + b < K ∨ (a + b = K ∧ a < i))
    · rw [if_pos h, if_pos (by omega)]
    · rw [if_neg h, if_neg (by omega)]
theorem polK_f {K i a b z : Nat} (h : ¬ (i ≤ K ∧ K < d + i)) : polK p d c K i a b z = polK p d c K (i + 1) a b z := by
  unfold polK
  by_cases h : (a < d ∧ b < d) ∧ (a + b < K ∨ (a + b = K ∧ a < i))
  · rw [if_pos h, if_pos (by omega)]
  · rw [if_neg h, if_neg (by omega)]
theorem polK_i0 {K a b z : Nat} : polK p d c K 0 a b z = polK p d c K (K + 1 - d) a b z := by
  unfold polK
  by_cases h : (a < d ∧ b < d) ∧ (a + b < K ∨ (a + b = K ∧ a < 0))
  · rw [if_pos h, if_pos (by omega)]
  · rw [if_neg h, if_neg (by omega)]
theorem polK_i1 {K i a b z : Nat} (h : d ≤ i ∨ K < i) : polK p d c K i a b z = polK p d c (K + 1) 0 a b z := by
  unfold polK
  by_cases h : (a < d ∧ b < d) ∧ (a + b < K ∨ (a + b = K ∧ a < i))
  · rw [if_pos h, if_pos (by omega)]
  · rw [if_neg h, if_neg (by omega)]
def polZ (p : Int) (d : Nat) (c : Nat → Int) (K i k a b z : Nat) : Int := if (a = i ∧ a + b = K) ∧ z < k then rs p d c K z else polK p d c K i a b z
theorem polZ_0 {K i a b z : Nat} : polK p d c K i a b z = polZ p d c K i 0 a b z := by unfold polZ; rw [if_neg (by omega)]
theorem polZ_n (hp : 1 < p) (hd : 0 < d) {K i j a b z : Nat} (hi : i < d) (hj : i + j = K) (hjd : j < d) : polZ p d c K i d a b z = polK p d c K (i + 1) a b z := by
  unfold polZ
  by_cases h : a = i ∧ a + b = K
  · by_cases hz : z < d
    · rw [if_pos ⟨h, hz⟩]; unfold polK; rw [if_pos (by omega), h.2]
    · rw [if_neg (fun q => hz q.2)]; unfold polK
      rw [if_neg (by omega), if_pos (by omega), (rs_VV hp hd _).z z (by omega)]
  · rw [if_neg (fun q => h q.1)]; unfold polK
    by_cases h : (a < d ∧ b < d) ∧ (a + b < K ∨ (a + b = K ∧ a < i))
    · rw [if_pos h, if_pos (by omega)]
    · rw [if_neg h, if_neg (by omega)]
theorem polZ_t {K i j k a b z : Nat} (hj : i + j = K) : upd (polZ p d c K i k) i (upd (polZ p d c K i k i) j (upd (polZ p d c K i k i j) k (rs p d c K k))) a b z = polZ p d c K i (k + 1) a b z := by
  rw [set3]
  by_cases h : a = i ∧ b = j ∧ z = k
  · obtain ⟨rfl, rfl, rfl⟩ := h
    rw [if_pos ⟨rfl, rfl, rfl⟩]; unfold polZ; rw [if_pos ⟨⟨rfl, hj⟩, by omega⟩]
  · rw [if_neg h]; unfold polZ
    by_cases h2 : (a = i ∧ a + b = K) ∧ z < k
    · rw [if_pos h2, if_pos ⟨h2.1, by omega⟩]
    · rw [if_neg h2, if_neg (by omega)]
def shL (v : Nat → Int) (j : Nat) : Int := if j = 0 then 0 else v (j - 1)
theorem less_rs {k j : Nat} (hj : j < d) : lessF p (shL (rs p d c k)) c (rs p d c k (d - 1)) j = rs p d c (k + 1) j := by
  rw [rs_s hj]; unfold SP lessF shL; rw [Int.mul_comm]
end
theorem mt_rowX {at_ : Nat → Nat → Option (AV × AV)} {k e M N : Nat} {sh : AV} {F : Nat → AV} {f : Nat → Int} (h : at_ k 0 = some (sh, .arr M F)) (hM : M = N) (hF : ∀ j, j < N → F j = .int .i64 (f j)) : Mt V0 (rowA N f) (exp at_ 4 (.own k 0 M e)) := by
  subst hM
  show Mt V0 _ (match at_ k 0 with | some (_, .arr m f) => AV.ro m (fun j => exp at_ 3 (f j)) | _ => .any)
  rw [h]
  exact ⟨rfl, fun j hj => by show exp at_ 3 (F j) = _; rw [hF j hj]; rfl⟩
theorem vc_app {n j : Nat} {f : Nat → Int} (hj : j < n + 1) {A : Nat → AV} {g : Nat → AV} (hA : ∀ j, j < n → A j = .int .i64 (f j)) (hg : g 0 = .int .i64 1) : appF n A 1 g j = .int .i64 (vc n f j) := by
  rcases Nat.lt_or_ge j n with h | h
  · rw [appF_lt h, hA j h, vc_lt h]
  · obtain rfl : j = n := by omega
    rw [appF_ge (Nat.le_refl _) (by omega), Nat.sub_self, hg, vc_d]
end Go.Am

namespace Go.Am
section
variable {P : Program} {T : TT} {all : Array Oper} {r : List Oper} {env : Env} {ol : OL} {R : Env → OL → Prop} {d : Nat} {t u ty : TypeId} {x y : Operand} {pos : String} {af : Array Edge}
theorem w_shr {k : IntKind} {a b c : Int} (hx : evE env x = .int k a) (hy : evE env y = .int k b) (hb : 0 ≤ b) (hc : a.fdiv (2 ^ (min b.toNat k.bits)) = c) (hr : WOps P T all r ((d, .int k c) :: env) ol R) : WOps P T all (⟨some d, .binOp .shr t x y u, ty, pos, af, none⟩ :: r) env ol R := by
  subst hc
  simp only [WOps, WOp, PW, putE]
  rw [hx, hy]; simp only [BW]; exact ⟨trivial, hb, hr⟩
theorem w_and {k : IntKind} {a b c : Int} (hx : evE env x = .int k a) (hy : evE env y = .int k b) (hc : k.wrap ((BitVec.ofInt k.bits a &&& BitVec.ofInt k.bits b).toNat : Int) = c) (hr : WOps P T all r ((d, .int k c) :: env) ol R) : WOps P T all (⟨some d, .binOp .and t x y u, ty, pos, af, none⟩ :: r) env ol R := by
  subst hc
  simp only [WOps, WOp, PW, putE]
  rw [hx, hy]; simp only [BW]; exact ⟨trivial, hr⟩
theorem w_max {k k' : IntKind} {a b c : Int} {aty : Array TypeId} (hx : evE env x = .int k a) (hy : evE env y = .int k' b) (hc : (if b > a then b else a) = c) (hr : WOps P T all r ((d, .int k c) :: env) ol R) : WOps P T all (⟨some d, .call { callee := .builtin .max, args := #[x, y], argTypes := aty }, ty, pos, af, none⟩ :: r) env ol R := by
  subst hc
  simp only [WOps, WOp, PW, putE]
  rw [hx, hy]; exact hr
theorem w_sl3 {h m : Operand} {n a e : Nat} {g : Nat → AV} {k k' : IntKind} (hx : evE env x = .ro n g) (hh : evE env h = .int k (a : Int)) (hm : evE env m = .int k' (a : Int)) (ht : T.und t = .slc e) (ha : a ≤ n) (hk : (T.und e).known = true) (hz : (g 0).size = T.sz e)
    (hr : WOps P T all r ((d, .ro a g) :: env) ol R) : WOps P T all (⟨some d, .slice t x none (some h) (some m), ty, pos, af, none⟩ :: r) env ol R := by
  simp only [WOps, WOp, PW, putE]
  rw [hx, hh, hm]
  simp only [ht]
  exact ⟨⟨trivial, by omega, by omega, hk, hz⟩, by rw [Int.toNat_natCast]; exact hr⟩
theorem w_app_0 {k i n e : Nat} {s z : Operand} {aty : Array TypeId} {g : Nat → AV} (ht : T.und t = .slc e) (hx : evE env s = .own k i n e) (hat : aty = #[t, t]) (hk : (T.und e).known = true) (hz : evE env z = .ro 0 g)
    (hr : WOps P T all r ((d, .own k i n e) :: env) ol R) : WOps P T all (⟨some d, .call { callee := .builtin .append, args := #[s, z], argTypes := aty }, ty, pos, af, none⟩ :: r) env ol R := by
  subst hat
  refine ⟨rfl, ?_⟩
  show AppendW T t (evE env s) (evE env z) d ol _
  simp only [AppendW, ht]
  refine ⟨hk, .inl ⟨k, i, n, g, hx, hz, ?_⟩⟩
  rw [hx]; exact hr
end
theorem mt_cut {at_ : Nat → Nat → Option (AV × AV)} {n : Nat} {f : Nat → Int} : Mt V0 (rowA n (cutF f n)) (exp at_ 4 (rowA n f)) := ⟨rfl, fun j hj => congrArg (AV.int .i64) (cut_at hj).symm⟩
theorem cut_rs {p : Int} {n : Nat} {c : Nat → Int} (hp : 1 < p) (hn : 0 < n) (k : Nat) : cutF (rs p n c k) n = rs p n c k := funext fun j => by
  by_cases h : j < n
  · exact cut_at h
  · rw [(rs_VV hp hn k).z j (by omega)]; exact if_neg h
theorem upd_at {α : Type} (f : Nat → α) (i : Nat) (v : α) : upd f i v i = v := if_pos rfl
theorem nx_1 {A : Nat → Int} {j z : Nat} {w : Int} (hw : w = A j) : upd (mixG A (fun _ => 0) j) j w z = mixG A (fun _ => 0) (j + 1) z := by
  unfold upd
  by_cases h : z = j
  · subst h; rw [if_pos rfl, hw]; exact (mixG_lt _ _ (by omega)).symm
  · rw [if_neg h]
    rcases Nat.lt_or_ge z j with q | q
    · rw [mixG_lt _ _ q, mixG_lt _ _ (by omega)]
    · rw [mixG_ge _ _ q, mixG_ge _ _ (by omega)]
theorem nx_2 {A : Nat → Int} {j z : Nat} {v w : Int} (hw : w = A j) : upd (upd (mixG A (fun _ => 0) j) j v) j w z = mixG A (fun _ => 0) (j + 1) z := by
  rw [← nx_1 hw]
  unfold upd
  by_cases h : z = j
  · rw [if_pos h, if_pos h]
  · rw [if_neg h, if_neg h, if_neg h]
theorem rs_step {p : Int} {n k j : Nat} {c g : Nat → Int} (h : PO p n c) (hj : j < n) (hg : g j = if j = 0 then 0 else rs p n (cutF c n) k (j - 1)) :
    IntKind.i64.wrap (g j - IntKind.i64.wrap (rs p n (cutF c n) k (n - 1) * c j)) % p = rs p n (cutF c n) (k + 1) j := by
  have hpb := primeB_bd h.1
  have h1 := (rs_VV (c := cutF c n) (p := p) (d := n) (by omega) (by omega) k).b (n - 1)
  have h2 := h.2.2 j hj
  have h3 := mul_bd (a := rs p n (cutF c n) k (n - 1)) (b := c j) (A := 13) (B := 13) (by omega) (by omega)
  have h4 : 0 ≤ g j ∧ g j ≤ 13 := by
    rw [hg]
    split
    · omega
    · have := (rs_VV (c := cutF c n) (p := p) (d := n) (by omega) (by omega) k).b (j - 1); omega
  rw [w64 (n := rs p n (cutF c n) k (n - 1) * c j) (by omega) (by omega), w64 (by omega) (by omega), rs_s hj]
  unfold SP
  rw [cut_at hj, hg]
end Go.Am

namespace Go.Am
section
variable {p : Int} {n : Nat} {c : Nat → Int}
theorem powF_dvd (x : Int) (p : Int) : ∀ k, p ∣ powF x p k - x ^ k
  | 0 => dvd_rf (by rw [Int.pow_zero]; rfl)
  | k + 1 => by
    show p ∣ powF x p k * x % p - x ^ (k + 1)
    rw [Int.pow_succ]
    exact dvd_tr (dvd_mod p _) (mul_dvd (powF_dvd x p k) (dvd_rf rfl))
theorem powF_b2 (hp : 1 < p) (x : Int) : ∀ k, 0 ≤ powF x p k ∧ powF x p k < p
  | 0 => ⟨by show (0 : Int) ≤ 1; omega, hp⟩
  | k + 1 => ⟨Int.emod_nonneg _ (by omega), Int.emod_lt_of_pos _ (by omega)⟩
theorem pow_dvd {a b : Int} (h : p ∣ a - b) : ∀ k : Nat, p ∣ a ^ k - b ^ k
  | 0 => by rw [Int.pow_zero, Int.pow_zero]; exact dvd_rf rfl
  | k + 1 => by rw [Int.pow_succ, Int.pow_succ]; exact mul_dvd (pow_dvd h k) h
abbrev slR (p : Int) (n : Nat) (c : Nat → Int) (i : Nat) : Int := slP p n c (roF p n c i : Int)
theorem slP_bd (hp : 1 < p) (r : Int) : 0 ≤ slP p n c r ∧ slP p n c r < p := ⟨Int.emod_nonneg _ (by omega), Int.emod_lt_of_pos _ (by omega)⟩
theorem slP_pos (hp : primeB p = true) (hn : 0 < n) (hN : roN p n c = n) {i : Nat} (hi : i < n) : 0 < slR p n c i := by
  have hpb := primeB_bd hp
  have h1 := slP_bd (n := n) (c := c) (p := p) (by omega) (roF p n c i : Int)
  have h2 : slP p n c (roF p n c i : Int) ≠ 0 := fun e => sl_ne hp hn hN hi (Int.dvd_of_emod_eq_zero e)
  show 0 < slP p n c (roF p n c i : Int)
  omega
def rnI (p : Int) (n : Nat) (c : Nat → Int) (g i : Nat) : Int := invF p (slR p n c i) * powF (slR p n c i) p g
def owR (p x : Int) : Nat → Int
  | 0 => invF p x
  | k + 1 => owR p x k * x % p
def rnS (p : Int) (n : Nat) (c : Nat → Int) (g i : Nat) : Int := owR p (slR p n c i) g
theorem invF_b2 (hp : 1 < p) (x : Int) : 0 ≤ invF p x ∧ invF p x < p := powF_b2 hp x _
theorem owR_bd (hp : 1 < p) (x : Int) : ∀ k, 0 ≤ owR p x k ∧ owR p x k < p
  | 0 => invF_b2 hp x
  | k + 1 => ⟨Int.emod_nonneg _ (by omega), Int.emod_lt_of_pos _ (by omega)⟩
theorem owR_dvd (x : Int) : ∀ k, p ∣ owR p x k - invF p x * x ^ k
  | 0 => dvd_rf (by rw [Int.pow_zero, Int.mul_one]; rfl)
  | k + 1 => by
    show p ∣ owR p x k * x % p - invF p x * x ^ (k + 1)
    rw [Int.pow_succ, ← Int.mul_assoc]
    exact dvd_tr (dvd_mod p _) (mul_dvd (owR_dvd x k) (dvd_rf rfl))
theorem rnI_eq (g : Nat) : sumZ (rnI p n c g) n % p = rnF p n c g := by
  refine mod_eq_of_dvd (sumZ_dvd n (fun i hi => ?_))
  refine mul_dvd (dvd_rf rfl) (dvd_tr (powF_dvd _ p g) (pow_dvd (dvd_mod p _) g))
theorem rnS_eq (g : Nat) : sumZ (rnS p n c g) n % p = rnF p n c g := by
  refine mod_eq_of_dvd (sumZ_dvd n (fun i hi => ?_))
  exact dvd_tr (owR_dvd _ g) (mul_dvd (dvd_rf rfl) (pow_dvd (dvd_mod p _) g))
theorem rnI_bd (hp : 2 ≤ p ∧ p ≤ 13) (g i : Nat) : 0 ≤ rnI p n c g i ∧ rnI p n c g i ≤ 169 := by
  have h1 := invF_b2 (p := p) (by omega) (slR p n c i)
  have h2 := powF_b2 (p := p) (by omega) (slR p n c i) g
  exact mul_bd (A := 13) (B := 13) (by omega) (by omega)
theorem rnS_bd (hp : 2 ≤ p ∧ p ≤ 13) (g i : Nat) : 0 ≤ rnS p n c g i ∧ rnS p n c g i ≤ 13 := by
  have := owR_bd (p := p) (by omega) (slR p n c i) g
  exact ⟨this.1, by show owR p (slR p n c i) g ≤ 13; omega⟩
theorem po_step {x : Nat → Int} {m k : Nat} (hpb : 2 ≤ p ∧ p ≤ 13) (hx : 0 ≤ x m ∧ x m ≤ p - 1) {g : Int} (hg : g = if k = 0 then 0 else po p x m (k - 1)) : IntKind.i64.wrap (g - IntKind.i64.wrap (x m * po p x m k)) % p = po p x (m + 1) k := by
  have h1 := po_Bp (p := p) (by omega) x m k
  have h3 := mul_bd (a := x m) (b := po p x m k) (A := 13) (B := 13) (by omega) (by omega)
  have h4 : 0 ≤ g ∧ g ≤ 13 := by
    rw [hg]
    split
    · omega
    · have := po_Bp (p := p) (by omega) x m (k - 1); omega
  rw [w64 (n := x m * po p x m k) (by omega) (by omega), w64 (by omega) (by omega), hg]
  rfl
def poM (p : Int) (x : Nat → Int) (m k j : Nat) : Int := if j < k then po p x (m + 1) j else if j = 0 then 0 else po p x m (j - 1)
theorem poM_0 {x : Nat → Int} {m j : Nat} : poM p x m 0 j = shL (po p x m) j := by unfold poM shL; rw [if_neg (Nat.not_lt_zero j)]
theorem poM_s {x : Nat → Int} {m k j : Nat} {v : Int} (hv : v = po p x (m + 1) k) : upd (poM p x m k) k v j = poM p x m (k + 1) j := by
  unfold upd poM
  by_cases h : j = k
  · subst h; rw [if_pos rfl, if_pos (by omega), hv]
  · rw [if_neg h]
    by_cases q : j < k
    · rw [if_pos q, if_pos (show j < k + 1 by omega)]
    · rw [if_neg q, if_neg (show ¬ j < k + 1 by omega)]
theorem po_last (hp : 1 < p) {x : Nat → Int} {m : Nat} : po p x (m + 1) (m + 1) = po p x m m := by rw [po_top hp, po_top hp]
theorem poM_e (hp : 1 < p) {x : Nat → Int} {m j : Nat} (hj : j < m + 2) : poM p x m (m + 1) j = po p x (m + 1) j := by
  unfold poM
  by_cases q : j < m + 1
  · rw [if_pos q]
  · obtain rfl : j = m + 1 := by omega
    rw [if_neg q, if_neg (by omega), show m + 1 - 1 = m from rfl, po_last hp]
def poQ (p : Int) (x : Nat → Int) (m k j : Nat) : Int := if j < k then po p x (m + 1) j else if j = k ∧ k ≠ 0 then po p x m (k - 1) else 0
theorem poQ_e (hp : 1 < p) {x : Nat → Int} {m j : Nat} (hj : j < m + 2) : poQ p x m (m + 1) j = po p x (m + 1) j := by
  unfold poQ
  by_cases q : j < m + 1
  · rw [if_pos q]
  · obtain rfl : j = m + 1 := by omega
    rw [if_neg q, if_pos (by omega), show m + 1 - 1 = m from rfl, po_last hp]
theorem poQ_s {x : Nat → Int} {m k j : Nat} {v w : Int} (hv : v = po p x m k) (hw : w = po p x (m + 1) k) : upd (upd (poQ p x m k) (k + 1) v) k w j = poQ p x m (k + 1) j := by
  unfold upd poQ
  by_cases h : j = k
  · subst h; rw [if_pos rfl, if_pos (by omega), hw]
  · rw [if_neg h]
    by_cases h2 : j = k + 1
    · subst h2; rw [if_pos rfl, if_neg (by omega), if_pos (by omega), hv]; rfl
    · rw [if_neg h2]
      by_cases q : j < k
      · rw [if_pos q, if_pos (show j < k + 1 by omega)]
      · rw [if_neg q, if_neg (show ¬ (j = k ∧ k ≠ 0) by omega), if_neg (show ¬ j < k + 1 by omega), if_neg (show ¬ (j = k + 1 ∧ k + 1 ≠ 0) by omega)]
end
section
variable {p : Int} {n : Nat} {c : Nat → Int} {r lo hi : Int}
theorem chkI_t (h : PO p n c) (hr : lo ≤ r ∧ r ≤ hi) : (!(poB p n c) || !(decide (lo ≤ r) && decide (r ≤ hi))) = false := by
  rw [poB_PO, decide_eq_true h, decide_eq_true hr.1, decide_eq_true hr.2]; rfl
theorem chkI_f (h : ¬ (PO p n c ∧ lo ≤ r ∧ r ≤ hi)) : (!(poB p n c) || !(decide (lo ≤ r) && decide (r ≤ hi))) = true := by
  rw [poB_PO]
  by_cases h1 : PO p n c
  · by_cases h2 : lo ≤ r
    · by_cases h3 : r ≤ hi
      · exact absurd ⟨h1, h2, h3⟩ h
      · simp [h3]
    · simp [h2]
  · simp [h1]
theorem chkS_t (h : PO p n c) (hr : lo ≤ r ∧ r ≤ hi) : (decide (poC p n c ≠ 0) || !(decide (lo ≤ r) && decide (r ≤ hi))) = false := by
  rw [poC_t h, decide_eq_true hr.1, decide_eq_true hr.2]; rfl
theorem chkS_f (h : ¬ (PO p n c ∧ lo ≤ r ∧ r ≤ hi)) : (decide (poC p n c ≠ 0) || !(decide (lo ≤ r) && decide (r ≤ hi))) = true := by
  by_cases h1 : PO p n c
  · rw [poC_t h1]
    by_cases h2 : lo ≤ r
    · by_cases h3 : r ≤ hi
      · exact absurd ⟨h1, h2, h3⟩ h
      · simp [h3]
    · simp [h2]
  · rw [poC_f h1]; rfl
end
end Go.Am

namespace Go.Am
theorem sh_app {m j : Nat} {A g : Nat → AV} {f : Nat → Int} (hj : j < 1 + m) (hA : A 0 = .int .i64 0) (hg : ∀ j, j < m → g j = .int .i64 (f j)) : appF 1 A m g j = .int .i64 (shL f j) := by
  rcases Nat.eq_zero_or_pos j with q | q
  · subst q; rw [appF_lt (by omega), hA]; rfl
  · rw [appF_ge q (by omega), hg _ (by omega)]; unfold shL; rw [if_neg (by omega)]
theorem poQ_0 {p : Int} {x : Nat → Int} {m j : Nat} : poQ p x m 0 j = 0 := by unfold poQ; rw [if_neg (Nat.not_lt_zero j), if_neg (by omega)]
theorem poQ_k {p : Int} {x : Nat → Int} {m k : Nat} : poQ p x m k k = if k = 0 then 0 else po p x m (k - 1) := by
  unfold poQ
  rw [if_neg (Nat.lt_irrefl k)]
  by_cases h : k = 0
  · rw [if_pos h, if_neg (by omega)]
  · rw [if_neg h, if_pos ⟨rfl, h⟩]
theorem poQ_1 {p : Int} {x : Nat → Int} {m k : Nat} : poQ p x m k (k + 1) = 0 := by unfold poQ; rw [if_neg (by omega), if_neg (by omega)]
theorem poM_k {p : Int} {x : Nat → Int} {m k : Nat} : poM p x m k k = if k = 0 then 0 else po p x m (k - 1) := by unfold poM; rw [if_neg (Nat.lt_irrefl k)]
theorem poN {p : Int} {n : Nat} {f : Nat → Int} : ((!(primeB p) || !(decide (1 ≤ (n : Int)) && decide ((n : Int) ≤ 6))) || decide (0 ≤ idxF (fun i => !(inB0 p f i)) n)) = !(poB p n f) := by
  unfold poB
  cases primeB p <;> cases (decide (1 ≤ (n : Int)) && decide ((n : Int) ≤ 6)) <;> cases decide (0 ≤ idxF (fun i => !(inB0 p f i)) n) <;> rfl
theorem poN_t {p : Int} {n : Nat} {f : Nat → Int} (h : PO p n f) : ((!(primeB p) || !(decide (1 ≤ (n : Int)) && decide ((n : Int) ≤ 6))) || decide (0 ≤ idxF (fun i => !(inB0 p f i)) n)) = false := by rw [poN, poB_PO, decide_eq_true h]; rfl
theorem poN_f {p : Int} {n : Nat} {f : Nat → Int} (h : ¬ PO p n f) : ((!(primeB p) || !(decide (1 ≤ (n : Int)) && decide ((n : Int) ≤ 6))) || decide (0 ≤ idxF (fun i => !(inB0 p f i)) n)) = true := by rw [poN, poB_PO, decide_eq_false h]; rfl
end Go.Am

namespace Go.Am
theorem FL_sub {K K' : Kx} (h : KSub K K') {v : AV} {cs : List Value} (hc : v.closed) (hv : FL K v cs) : FL K' v cs := by
  have := (FL_closed h (fun _ => .any) hc hv).1
  rwa [expS_closed _ hc] at this
theorem VR_sub {K K' : Kx} (h : KSub K K') {v : AV} {c : Value} (hc : v.closed) (hv : VR K v c) : VR K' v c := by
  have := VR_closed h (fun _ => .any) hc hv
  rwa [expS_closed _ hc] at this
theorem VRs_sub {K K' : Kx} (h : KSub K K') : ∀ {vs : List AV} {cs : List Value}, closedL vs → VRs K vs cs → VRs K' vs cs
  | [], [], _, _ => trivial
  | [], _ :: _, _, hv => hv.elim
  | _ :: _, [], _, hv => hv.elim
  | a :: vs, c :: cs, hc, hv => ⟨VR_sub h hc.1 hv.1, VRs_sub h hc.2 hv.2⟩
section
variable {P : Program} {T : TT}
theorem mut_ptr1 (hT : TOk P T) {f : FuncId} {q : Nat} {root c0 c1 r : AV} {more : List AV} (hc : MCalls P T f [q] (.ptr q 0 [] 0 root :: more) [(q, .one root c0)] r [(q, .one root c1)]) {dst : Option Nat} {ty : TypeId} {pos : String} {af : Array Edge} {gu : Option (Nat × Bool)} {s : Operand} {args : List Operand} {aty : Array TypeId} {env : Env} {ol : OL} {k i : Nat}
    (hs : evE env s = .ptr k i [] 0 root) (ha : args.map (evE env) = more) (hin : closedL more) (hr : r.closed) (h0 : c0.closed) (h1 : c1.closed)
    (hat : ol.at_ k i = some (root, c0)) :
    MidJ P T ⟨dst, .call { callee := .value (.func f), args := (s :: args).toArray, argTypes := aty }, ty, pos, af, gu⟩ env ol r (ol.set k i (some (root, c1))) := by
  intro X κ w act hP hTT hR hEn
  have hhas : ol.has k = true := OL.has_of_at (i := i) (by rw [hat]; simp)
  have hlive : ol.ob.at_ k i ≠ none := by show ol.at_ k i ≠ none; rw [hat]; simp
  obtain ⟨cur0, e0, m1, m2, m3, m4, m5, m6, m7⟩ := hR.live k i root c0 hat
  let X' : Cx := ⟨P, T, w, (KK X κ ol.ob w).J, fun b => b = κ.blk k i⟩
  let κ0 : Gh := ⟨fun _ _ => κ.blk k i, fun _ _ => κ.shp k i⟩
  have hJM : ∀ b, (KK X κ ol.ob w).J b → b ≠ κ.blk k i := fun b hb he => hb.2 k i hlive he.symm
  have hq0 : ∀ k' i' sh' c', OL.at_ [(q, .one root c0)] k' i' = some (sh', c') → k' = q ∧ i' = 0 ∧ sh' = root ∧ c' = c0 := by
    intro k' i' sh' c' h
    simp only [OL.at_] at h
    cases hb : Nat.beq k' q
    · rw [hb] at h; cases h
    · rw [hb] at h
      simp only [cond_true, Fam.at_] at h
      cases hi : Nat.beq i' 0
      · rw [hi] at h; cases h
      · rw [hi] at h
        simp only [cond_true, Option.some.injEq, Prod.mk.injEq] at h
        exact ⟨Nat.eq_of_beq_eq_true hb, Nat.eq_of_beq_eq_true hi, h.1.symm, h.2.symm⟩
  have hqn : ∀ k' i', OL.at_ [(q, .one root c0)] k' i' ≠ none → k' = q ∧ i' = 0 := by
    intro k' i' h
    cases hh : OL.at_ [(q, .one root c0)] k' i' with
    | none => exact absurd hh h
    | some p => exact ⟨(hq0 k' i' p.1 p.2 hh).1, (hq0 k' i' p.1 p.2 hh).2.1⟩
  have hK0 : KSub (KK X κ ol.ob w) (KK X' κ0 (OL.ob [(q, .one root c0)]) w) :=
    ⟨rfl, fun b hb => ⟨.inl hb, fun k' i' hq => by intro he; exact hJM b hb he.symm⟩⟩
  have hR' : Rel X' κ0 (OL.ob [(q, .one root c0)]) w := by
    refine ⟨rfl, rfl, rfl, Nat.le_refl _, fun _ _ _ => rfl, fun k' i' sh' c' hq => ?_, fun k' i' k2 i2 hq hq2 _ => ?_, fun k' i' hq => OL.has_of_at hq, fun b hb => ⟨hR.J_lt hb, hJM b hb⟩, fun b hb => ?_⟩
    · obtain ⟨_, _, rfl, rfl⟩ := hq0 k' i' sh' c' hq
      exact ⟨cur0, e0, m1, m2, FL_sub hK0 h0 m3, m4, m5, .inr rfl, fun h => hJM _ h rfl⟩
    · obtain ⟨rfl, rfl⟩ := hqn k' i' hq
      obtain ⟨rfl, rfl⟩ := hqn k2 i2 hq2
      exact ⟨rfl, rfl⟩
    · have hb' : b = κ.blk k i := hb
      rw [hb']
      exact (Array.getElem?_eq_some_iff.1 m1).1
  have hvs : VRs (KK X' κ0 (OL.ob [(q, .one root c0)]) w) (.ptr q 0 [] 0 root :: more) ((s :: args).toArray.map act.eval).toList := by
    have h1 := EnvR_args hEn args
    rw [ha] at h1
    have h2 := hEn.ev s
    rw [hs] at h2
    simp only [List.map_toArray, List.map_cons]
    refine ⟨?_, VRs_sub hK0 hin h1⟩
    obtain ⟨_, e1, e2, e3, e4⟩ := (show (KK X κ ol.ob w).ptrR k i [] 0 root _ from h2)
    exact ⟨by show OL.has [(q, .one root c0)] q = true; simp [OL.has], e1, e2, e3, e4⟩
  rw [run_call hc.ent]
  show Calls X.P f _ w _
  rw [hP]
  have := hc.go X' κ0 w ((s :: args).toArray.map act.eval).toList rfl rfl rfl hR' hvs
  rw [Array.toArray_toList] at this
  refine Calls.mono this ?_
  rintro ex w' ⟨c, κ', rfl, hR1, hv, hpin⟩
  have hb' : ∀ b, b < w.heap.size → b ≠ κ.blk k i → w'.heap[b]? = w.heap[b]? := hR1.block
  have hs' : w.heap.size ≤ w'.heap.size := hR1.size
  obtain ⟨cur1, e1, l1, l2, l3, l4, l5, _, _⟩ := hR1.live q 0 root c1 (by show OL.at_ [(q, .one root c1)] q 0 = _; simp [OL.at_, Fam.at_])
  have hblk : κ'.blk q 0 = κ.blk k i := (hpin.blk q (by simp) 0).1
  rw [hblk] at l1
  have hset : ∀ k' i', (ol.set k i (some (root, c1))).at_ k' i' ≠ none ↔ ol.at_ k' i' ≠ none := fun k' i' => by
    rw [OL.at_set]
    split
    · rename_i h; obtain ⟨rfl, rfl⟩ := h; rw [hat]; simp
    · exact Iff.rfl
  have hhas' : ∀ k', (ol.set k i (some (root, c1))).has k' = ol.has k' := fun k' => by
    rw [OL.has_set]
    cases hb : Nat.beq k' k
    · simp
    · rw [Nat.eq_of_beq_eq_true hb, hhas]; rfl
  have hle : Le (KK X κ ol.ob w) (KK X κ (OL.ob (ol.set k i (some (root, c1)))) w') := by
    refine Le.step hs' (fun b hb => ⟨hb' b (hR.J_lt hb) (fun he => hb.2 k i hlive he.symm), fun k' i' hq => hb.2 k' i' ((hset k' i').1 hq)⟩) (fun k' hk' => ⟨by show OL.has _ k' = true; rw [hhas']; exact hk', fun i => ⟨rfl, rfl⟩⟩) hpin.size
  have hblt : ∀ k' i', ol.at_ k' i' ≠ none → κ.blk k' i' < w.heap.size := fun k' i' hq => hR.blk_lt hq
  have hK1 : KSub (KK X' κ' (OL.ob [(q, .one root c1)]) w') (KK X κ (OL.ob (ol.set k i (some (root, c1)))) w') := by
    refine ⟨rfl, fun b hb => ?_⟩
    obtain ⟨hb1, hb2⟩ := hb
    have hnb : b ≠ κ.blk k i := fun he => hb2 q 0 (by show OL.at_ [(q, .one root c1)] q 0 ≠ none; simp [OL.at_, Fam.at_]) (by rw [hblk]; exact he.symm)
    rcases hb1 with hb1 | hb1 | hb1
    · exact (hle.J b hb1).1
    · exact absurd hb1 hnb
    · have h1 : w.heap.size ≤ b := hb1.1
      refine ⟨.inr (.inr ⟨Nat.le_trans hR.size h1, hb1.2⟩), fun k' i' hq he => ?_⟩
      have := hblt k' i' ((hset k' i').1 hq)
      omega
  refine ⟨c, κ, rfl, ?_, VR_sub hK1 hr hv, hle⟩
  refine ⟨hR1.os.trans hR.os, hR1.tape.trans hR.tape, hR1.output.trans hR.output, Nat.le_trans hR.size hs', fun b hb hM => ?_, fun k' i' sh' c' hq => ?_, fun k' i' k2 i2 hq hq2 he => hR.inj k' i' k2 i2 ((hset k' i').1 hq) ((hset k2 i2).1 hq2) he, fun k' i' hq => ?_, hR.hI, hR.hM⟩
  · refine (hb' b (Nat.lt_of_lt_of_le hb hR.size) (fun he => ?_)).trans (hR.block b hb hM)
    subst he
    rcases m6 with m6 | m6
    · omega
    · exact hM m6
  · have hq : (ol.set k i (some (root, c1))).at_ k' i' = some (sh', c') := hq
    rw [OL.at_set] at hq
    by_cases h : k' = k ∧ i' = i
    · rw [if_pos h] at hq
      obtain ⟨q1, q2⟩ := Prod.mk.inj (Option.some.inj hq)
      obtain ⟨rfl, rfl⟩ := h
      subst q1; subst q2
      exact ⟨cur1, e1, l1, l2, FL_sub hK1 h1 l3, l4, m5, m6, m7⟩
    · rw [if_neg h] at hq
      obtain ⟨cur, e', g1, g2, g3, g4, g5, g6, g7⟩ := hR.live k' i' sh' c' hq
      have hne : κ.blk k' i' ≠ κ.blk k i := fun he => h (hR.inj k' i' k i (by show ol.at_ k' i' ≠ none; rw [hq]; simp) hlive he)
      exact ⟨cur, e', (hb' _ (Array.getElem?_eq_some_iff.1 g1).1 hne).trans g1, g2, FL_mono hle g3, g4, g5, g6, g7⟩
  · have := OL.has_of_at ((hset k' i').1 hq)
    show OL.has _ k' = true
    rw [hhas']; exact this
end
def srcF (len : Nat) (z : Nat → Int) (a : Nat) (h : Int) : Nat → AV
  | 0 => .ro len (fun i => .int .u8 (z i))
  | 1 => .int .i64 (a : Int)
  | 2 => .int .u64 h
  | _ => .any
abbrev srcA (len : Nat) (z : Nat → Int) (a : Nat) (h : Int) : AV := .sct 3 (srcF len z a h)
def src0F : Nat → AV
  | 0 => .nilsl
  | 1 => .int .i64 0
  | 2 => .int .u64 0
  | _ => .any
abbrev src0 : AV := .sct 3 src0F
abbrev codeA (len : Nat) (z : Nat → Int) : AV := .ro len (fun i => .int .u8 (z i))
def h0F (len : Nat) : Int := IntKind.u64.wrap (12671 + IntKind.u64.wrap (len : Int))
abbrev rtS (len : Nat) (z : Nat → Int) : AV := srcA len z 0 (h0F len)
section
variable {len : Nat} {z : Nat → Int} {a a' : Nat} {h h' : Int} {V : Vw}
theorem closed_src : (srcA len z a h).closed := by
  intro i
  match i with
  | 0 => exact fun _ => trivial
  | 1 => exact trivial
  | 2 => exact trivial
  | n + 3 => exact trivial
theorem ssh_src : ssh (rtS len z) (srcA len z a h) := by
  refine ⟨rfl, fun i => ?_⟩
  match i with
  | 0 => exact trivial
  | 1 => exact trivial
  | 2 => exact trivial
  | n + 3 => exact trivial
theorem m_src (ha : a' = a) (hh : h' = h) : MtE V (srcA len z a h) (srcA len z a' h') := by
  subst ha; subst hh
  exact Mt_closed (V := V) closed_src (fun _ _ _ => trivial) (by simp)
theorem srcF_of {g : Nat → AV} (h0 : g 0 = codeA len z) (h1 : g 1 = .int .i64 (a : Int)) (h2 : g 2 = .int .u64 h) (h3 : ∀ i, g (i + 3) = .any) : AV.sct 3 g = srcA len z a h := by
  refine congrArg (AV.sct 3) (funext fun i => ?_)
  match i with
  | 0 => exact h0
  | 1 => exact h1
  | 2 => exact h2
  | i + 3 => exact h3 i
end
structure Ss where
  a : Nat
  h : Int
def nhF (h : Int) : Int := IntKind.u64.wrap (IntKind.u64.wrap (h * 6364136223846793005) + 1442695040888963407)
def nvF (h : Int) : Int := IntKind.i64.wrap (IntKind.u64.wrap ((BitVec.ofInt IntKind.u64.bits ((nhF h).fdiv (2 ^ (min (33 : Int).toNat IntKind.u64.bits))) &&& BitVec.ofInt IntKind.u64.bits 16777215).toNat : Int))
theorem nvF_bd (h : Int) : 0 ≤ nvF h ∧ nvF h ≤ 16777215 := by
  unfold nvF
  generalize ((nhF h).fdiv (2 ^ (min (33 : Int).toNat IntKind.u64.bits))) = y
  have h1 : (BitVec.ofInt IntKind.u64.bits y &&& BitVec.ofInt IntKind.u64.bits 16777215).toNat ≤ 16777215 := by
    rw [BitVec.toNat_and]
    exact Nat.le_trans Nat.and_le_right (by decide)
  generalize (BitVec.ofInt IntKind.u64.bits y &&& BitVec.ofInt IntKind.u64.bits 16777215).toNat = m at h1
  have h2 : IntKind.u64.wrap (m : Int) = m := by
    show (m : Int) % 2 ^ 64 = m
    omega
  rw [h2, w64 (by omega) (by omega)]
  omega
def sxF (len : Nat) (z : Nat → Int) (n : Int) (s : Ss) : Int := if n < 1 then 0 else (if s.a < len then nvF s.h + z s.a else nvF s.h).tmod n
def snF (len : Nat) (n : Int) (s : Ss) : Ss := if n < 1 then s else ⟨if s.a < len then s.a + 1 else s.a, nhF s.h⟩
theorem sxF_bd {len : Nat} {z : Nat → Int} (hz : ∀ i, 0 ≤ z i ∧ z i < 256) (n : Int) (s : Ss) : 0 ≤ sxF len z n s ∧ (1 ≤ n → sxF len z n s < n) := by
  have h1 := nvF_bd s.h
  have h2 := hz s.a
  unfold sxF
  by_cases q : n < 1
  · rw [if_pos q]; exact ⟨Int.le_refl _, fun _ => by omega⟩
  · rw [if_neg q]
    have hx : 0 ≤ (if s.a < len then nvF s.h + z s.a else nvF s.h) := by split <;> omega
    rw [Int.tmod_eq_emod_of_nonneg hx]
    exact ⟨Int.emod_nonneg _ (by omega), fun _ => Int.emod_lt_of_pos _ (by omega)⟩
abbrev srcS (len : Nat) (z : Nat → Int) (s : Ss) : AV := srcA len z s.a s.h
end Go.Am

namespace Go.Am
section
variable {P : Program} {T : TT} {N : Nat} {ks : List Nat} {env : Env} {ol : OL} {Q : Exit → Env → OL → Prop} {ops : Array Oper}
theorem snp_draw (hT : TOk P T) (hm : P.follows .mixedOrders = true) {id : Nat} (hd : drawOk ops = true) (hdst : dstOk N ops.toList = true)
    (h : WOps P T ops ops.toList env ol (fun env' ol' => Q .normal env' ol')) : Snp ks P T N (.region id ops true) env ol Q := by
  intro κ0 X κ a w hP hTT hR hE hN hD hpin
  obtain ⟨V, O, hO, hst, hK⟩ := WOps_trace hT ops ops.toList env ol _ h
  have hd := chkD_ok hd
  have ht : Tr P T ops env V O := ⟨fun k o hk => hst k o (by rw [Array.getElem?_toList]; exact hk)⟩
  have hDl : ∀ j, Dl (Array.replicate ops.size false) j = false := fun j => by
    simp only [Dl, Array.getD_eq_getD_getElem?, Array.getElem?_replicate]
    split <;> rfl
  refine wp_region_any hm (draw_any (X := X) (G := fun κ2 ob2 w2 => Le (KK X κ ol.ob w) (KK X κ2 ob2 w2)) (fun _ _ _ _ _ _ h1 h2 => h1.trans h2) hd ht hdst hP hTT
    (fun κ2 a2 w2 r1 r2 r3 r4 r5 => ⟨κ2, _, _, (by rw [Array.length_toList] at hK; exact hK), r1, r2, r3, r4, hpin.le r5⟩) _ _ a _ ?_ ⟨by simp, fun i oi _ hi => (by rw [hDl] at hi; cases hi), ⟨κ, ol.ob, hR.drew, fun t => ?_, .inl ⟨fun i _ _ _ => hDl i, fun k => ?_, fun k hk i => ?_⟩, Le.refl _⟩, hN, hD⟩)
  · unfold left
    exact Nat.le_trans (List.length_filter_le _ _) (by simp)
  · have e : Dl (Array.replicate ops.size false) = fun _ => false := funext hDl
    rw [e, envOf_none]
    exact hE t
  · rw [hO]
    constructor
    · exact fun h => .inl h
    · rintro (h | ⟨j, _, hj, _⟩)
      · exact h
      · rw [hDl] at hj; cases hj
  · rw [← hO] at hk ⊢
    exact ((ht.mono hd (Nat.zero_le _) (Nat.le_refl _) hk).2 i).symm
theorem sdp (hT : TOk P T) (hm : P.follows .mixedOrders = true) {id : Nat} {y : Code} {env' : Env} {ol' : OL} (ho : drawOk ops = true) (hd : dstOk N ops.toList = true)
    (h : ∀ R : Env → OL → Prop, R env' ol' → WOps P T ops ops.toList env ol R) (hy : Snp ks P T N y env' ol' Q) : Snp ks P T N (.seq (.region id ops true) y) env ol Q :=
  snp_seq (snp_draw hT hm ho hd (h _ hy))
theorem snp_el {c : Code} {env' : Env} (h : EL env env') (hs : Snp ks P T N c env' ol Q) : Snp ks P T N c env ol Q :=
  fun κ0 X κ a w hP hTT hR hE hN hD hp => hs κ0 X κ a w hP hTT hR (fun t => by
    rcases h.get t with h | h
    · rw [h]; trivial
    · rw [← h]; exact hE t) hN hD hp
theorem srGp (hT : TOk P T) {id : Nat} {c : Code} {env' : Env} {ol' : OL} (hd : dstOk N ops.toList = true)
    (h : ∀ R : Env → OL → Prop, (∀ e, EL e env' → R e ol') → WOps P T ops ops.toList env ol R) (hy : Snp ks P T N c env' ol' Q) : Snp ks P T N (.seq (.region id ops false) c) env ol Q :=
  snp_seq (snp_region hT hd (h _ (fun e he => snp_el he hy)))
theorem lrDpE (hT : TOk P T) {id : Nat} {ops1 ops2 : List Oper} {o : Oper} {env1 env' : Env} {ol1 ol2 ol' : OL} {v : AV} {ρ : Nat → Nat → Nat × Nat} (hd : dstOk N ops.toList = true)
    (hops : ops.toList = ops1 ++ o :: ops2) (hg : o.guard = none)
    (h1 : ∀ R : Env → OL → Prop, (∀ e l, Emb ρ e l env1 ol1 → R e l) → WOps P T ops ops1 env ol R) (hpi : pins ks ρ ol1) (hm : MidJ P T o env1 ol1 v ol2)
    (h2 : ∀ R : Env → OL → Prop, R env' ol' → WOps P T ops ops2 (putE o.dst v env1) ol2 R)
    (hy : Q .normal env' ol') : Snp ks P T N (.region id ops false) env ol Q := by
  intro κ0 X κ a w hP hTT hR hE hN hD hp
  refine wp_region_list ?_
  rw [hops] at hd ⊢
  simp only [dstOk, List.all_append, List.all_cons, Bool.and_eq_true] at hd
  have hlt : ∀ (a : Act), a.tmps.size = N → ∀ t, o.dst = some t → t < a.tmps.size := fun a hN t ht => by
    have := hd.2.1
    rw [ht] at this
    rw [hN]; simpa [Nat.blt_eq] using this
  refine WOps_runp hT ops hP hTT (K := fun e l => Emb ρ e l env1 ol1) ?_ ops1 env ol (h1 _ (fun _ _ h => h)) hd.1 κ a w hR hE hN hD hp
  intro e l κ1 a1 w1 hem hR0 hE0 hN1 hD1 hp0
  obtain ⟨κ2, hR1, hV⟩ := hem.rel hR0
  have hE1 := hem.envR hV hE0
  have hp1 := hp0.emb hpi hV
  unfold wpList
  rw [if_pos (by simp [Region.wanted, hg])]
  refine .inl ?_
  unfold Oper.wp
  have := hm X κ2 w1 a1 hP hTT hR1 hE1
  rw [← hP]
  rw [← hP] at this
  refine upon_of_Out this (fun c w' κ' hR' hv hle => ?_)
  rw [hP]
  exact WOps_soundp hT ops (Q := Q) ops2 _ _ (h2 _ hy) hd.2.2 X κ' (a1.put o.dst c) w' hP hTT hR' ((hE1.mono hle).put hv (hlt a1 hN1)) (by rw [Act.put_size]; exact hN1) (by rw [Act.put_defers]; exact hD1) (hp1.le hle)
theorem srDpE (hT : TOk P T) {id : Nat} {ops1 ops2 : List Oper} {o : Oper} {y : Code} {env1 env' : Env} {ol1 ol2 ol' : OL} {v : AV} {ρ : Nat → Nat → Nat × Nat} (hd : dstOk N ops.toList = true)
    (hops : ops.toList = ops1 ++ o :: ops2) (hg : o.guard = none)
    (h1 : ∀ R : Env → OL → Prop, (∀ e l, Emb ρ e l env1 ol1 → R e l) → WOps P T ops ops1 env ol R) (hpi : pins ks ρ ol1) (hm : MidJ P T o env1 ol1 v ol2)
    (h2 : ∀ R : Env → OL → Prop, R env' ol' → WOps P T ops ops2 (putE o.dst v env1) ol2 R)
    (hy : Snp ks P T N y env' ol' Q) : Snp ks P T N (.seq (.region id ops false) y) env ol Q :=
  snp_seq (lrDpE hT hd hops hg h1 hpi hm h2 hy)
end
theorem mt_srcG {len : Nat} {z : Nat → Int} {a : Nat} {h : Int} {g : Nat → AV} {V : Vw} (h0 : g 0 = codeA len z) (h1 : g 1 = .int .i64 (a : Int)) (h2 : g 2 = .int .u64 h) : Mt V (srcA len z a h) (.sct 3 g) := by
  refine ⟨rfl, fun i hi => ?_⟩
  match i, hi with
  | 0, _ => rw [h0]; exact Mt_closed (V := V) (v := codeA len z) (fun _ => trivial) (fun _ _ _ => trivial) (by simp)
  | 1, _ => exact h1
  | 2, _ => exact h2
theorem rtp_tt {T : TT} {ks : List Nat} {t s : Nat} {env : Env} {ol H : OL} {v u : AV} {ρ : Nat → Nat → Nat × Nat} (h : Emb ρ env ol [(t, v), (s, u)] H) (hp : pins ks ρ H) (h1 : ∀ V v', MtE V v v' → Mt V v v') (h2 : ∀ V v', MtE V u v' → Mt V u v') : retQp ks T [.tmp t, .tmp s] (.tup 2 (pairA v u)) H .ret env ol := by
  refine ⟨ρ, ⟨⟨⟨rfl, fun i hi => ?_⟩, trivial⟩, h.2.1, h.2.2⟩, hp⟩
  match i, hi with
  | 0, _ => exact h1 _ _ h.1.1
  | 1, _ => exact h2 _ _ h.1.2.1
end Go.Am

namespace Go.Am
section
variable (len : Nat) (z : Nat → Int)
def itS (n : Int) (s : Ss) : Nat → Ss
  | 0 => s
  | k + 1 => snF len n (itS n s k)
def lzF (n : Int) (s : Ss) (j : Nat) : Int := sxF len z n (itS len n s j)
def pmL : Nat → Int
  | 0 => 2
  | 1 => 3
  | 2 => 3
  | 3 => 5
  | 4 => 7
  | 5 => 11
  | 6 => 13
  | _ => 0
def drP (s : Ss) : Int := pmL (sxF len z 7 s).toNat
def pk3 : Nat → Int
  | 0 => 4
  | 1 => 0
  | 2 => 17
  | _ => 0
def pk2 (p : Int) : Nat → Int
  | 0 => -1
  | 1 => p
  | _ => 0
def pk4 (m : Int) : Nat → Int
  | 0 => -1
  | 1 => m
  | 2 => 1099511627776
  | 3 => -4611686018427387904
  | _ => 0
def nrX (m : Int) (s : Ss) : Int := if sxF len z 14 s = 0 then pk4 (m + 1) (sxF len z 4 (snF len 14 s)).toNat else sxF len z (m + 1) (snF len 14 s)
def nrS (m : Int) (s : Ss) : Ss := if sxF len z 14 s = 0 then snF len 4 (snF len 14 s) else snF len (m + 1) (snF len 14 s)
structure Dl3 where
  p : Int
  n : Nat
  f : Nat → Int
  s : Ss
def l9s (s : Ss) : Ss := snF len 2 (snF len 7 s)
def l9k (m : Int) (s : Ss) : Nat := (1 + sxF len z m (l9s len s)).toNat
def l9t (m : Int) (s : Ss) : Ss := snF len m (l9s len s)
def l9a (s : Ss) : Dl3 :=
  if sxF len z 2 (snF len 7 s) = 0 then ⟨drP len z s, l9k len z 4 s, po (drP len z s) (lzF len z (drP len z s) (l9t len 4 s)) (l9k len z 4 s), itS len (drP len z s) (l9t len 4 s) (l9k len z 4 s)⟩
  else ⟨drP len z s, l9k len z 6 s, lzF len z (drP len z s) (l9t len 6 s), itS len (drP len z s) (l9t len 6 s) (l9k len z 6 s)⟩
def l9b (d : Dl3) : Dl3 :=
  if sxF len z 40 d.s = 0 then ⟨pk3 (sxF len z 3 (snF len 40 d.s)).toNat, d.n, d.f, snF len 3 (snF len 40 d.s)⟩
  else if sxF len z 40 d.s = 1 then ⟨d.p, d.n, upd d.f 0 (pk2 d.p (sxF len z 2 (snF len 40 d.s)).toNat), snF len 2 (snF len 40 d.s)⟩
  else if sxF len z 40 d.s = 2 then ⟨d.p, 0, fun _ => 0, snF len 40 d.s⟩
  else if sxF len z 40 d.s = 3 then ⟨d.p, d.n + 6, fun j => if j < d.n then d.f j else 0, snF len 40 d.s⟩
  else ⟨d.p, d.n, d.f, snF len 40 d.s⟩
def l9F (s : Ss) : Dl3 := l9b len z (l9a len z s)
end
section
variable {len : Nat} {z : Nat → Int} (hz : ∀ i, 0 ≤ z i ∧ z i < 256)
include hz
theorem drP_bd (s : Ss) : primeB (drP len z s) = true := by
  have h := sxF_bd (len := len) hz 7 s
  have h2 := h.2 (by omega)
  obtain ⟨m, hm⟩ : ∃ m : Nat, (sxF len z 7 s).toNat = m := ⟨_, rfl⟩
  have hm7 : m < 7 := by omega
  unfold drP
  rw [hm]
  match m, hm7 with
  | 0, _ => rfl
  | 1, _ => rfl
  | 2, _ => rfl
  | 3, _ => rfl
  | 4, _ => rfl
  | 5, _ => rfl
  | 6, _ => rfl
theorem lzF_bd {n : Int} (hn : 1 ≤ n) (s : Ss) (j : Nat) : 0 ≤ lzF len z n s j ∧ lzF len z n s j ≤ n - 1 := by
  have h := sxF_bd (len := len) hz n (itS len n s j)
  have h2 := h.2 hn
  exact ⟨h.1, by unfold lzF; omega⟩
theorem l9k_bd {m : Int} (hm : 1 ≤ m) (s : Ss) : 1 ≤ l9k len z m s ∧ (l9k len z m s : Int) ≤ m ∧ (l9k len z m s : Int) = 1 + sxF len z m (l9s len s) := by
  have h := sxF_bd (len := len) hz m (l9s len s)
  have h2 := h.2 hm
  unfold l9k
  omega
theorem l9a_bd (s : Ss) : (l9a len z s).p = drP len z s ∧ 1 ≤ (l9a len z s).n ∧ (l9a len z s).n ≤ 6 := by
  unfold l9a
  have h4 := l9k_bd (len := len) hz (m := 4) (by omega) s
  have h6 := l9k_bd (len := len) hz (m := 6) (by omega) s
  split
  · exact ⟨rfl, by show 1 ≤ l9k len z 4 s; omega, by show l9k len z 4 s ≤ 6; omega⟩
  · exact ⟨rfl, by show 1 ≤ l9k len z 6 s; omega, by show l9k len z 6 s ≤ 6; omega⟩
theorem pk3_bd (k : Nat) : 0 ≤ pk3 k ∧ pk3 k ≤ 17 := by
  match k with
  | 0 => decide
  | 1 => decide
  | 2 => decide
  | k + 3 => exact ⟨Int.le_refl _, by show (0 : Int) ≤ 17; decide⟩
theorem l9F_bd (s : Ss) : (-1000000 ≤ (l9F len z s).p ∧ (l9F len z s).p ≤ 1000000) ∧ (l9F len z s).n ≤ 12 := by
  obtain ⟨h1, h2, h3⟩ := l9a_bd (len := len) hz s
  have h4 := primeB_bd (drP_bd (len := len) hz s)
  unfold l9F l9b
  generalize l9a len z s = d at h1 h2 h3
  have hb : ∀ k, 0 ≤ pk3 k ∧ pk3 k ≤ 17 := fun k => pk3_bd hz k
  split
  · have := hb (sxF len z 3 (snF len 40 d.s)).toNat
    exact ⟨by show -1000000 ≤ pk3 _ ∧ pk3 _ ≤ 1000000; omega, by show d.n ≤ 12; omega⟩
  · split
    · exact ⟨by show -1000000 ≤ d.p ∧ d.p ≤ 1000000; omega, by show d.n ≤ 12; omega⟩
    · split
      · exact ⟨by show -1000000 ≤ d.p ∧ d.p ≤ 1000000; omega, by show 0 ≤ 12; omega⟩
      · split
        · exact ⟨by show -1000000 ≤ d.p ∧ d.p ≤ 1000000; omega, by show d.n + 6 ≤ 12; omega⟩
        · exact ⟨by show -1000000 ≤ d.p ∧ d.p ≤ 1000000; omega, by show d.n ≤ 12; omega⟩
end
section
variable (len : Nat) (z : Nat → Int)
def apG (s : Ss) : Nat → Nat × (Nat → Int) × Ss
  | 0 => (0, fun _ => 0, s)
  | r + 1 => if sxF len z 3 (apG s r).2.2 = 0 then ((apG s r).1 + 1, upd (apG s r).2.1 (apG s r).1 (r : Int), snF len 3 (apG s r).2.2) else ((apG s r).1, (apG s r).2.1, snF len 3 (apG s r).2.2)
def apC (p : Int) (s : Ss) (r : Nat) : Bool := !(decide ((r : Int) < p) && decide (((apG len z s r).1 : Int) < 6))
def apR (p : Int) (s : Ss) : Nat := (idxF (apC len z p s) (p.toNat + 1)).toNat
def apL (p : Int) (s : Ss) : Dl3 := if (apG len z s (apR len z p s)).1 = 0 then ⟨p, 1, fun _ => sxF len z p (apG len z s (apR len z p s)).2.2, snF len p (apG len z s (apR len z p s)).2.2⟩
  else ⟨p, (apG len z s (apR len z p s)).1, (apG len z s (apR len z p s)).2.1, (apG len z s (apR len z p s)).2.2⟩
end
section
variable {len : Nat} {z : Nat → Int}
theorem apG_t {s : Ss} {r : Nat} (h : sxF len z 3 (apG len z s r).2.2 = 0) : apG len z s (r + 1) = ((apG len z s r).1 + 1, upd (apG len z s r).2.1 (apG len z s r).1 (r : Int), snF len 3 (apG len z s r).2.2) := if_pos h
theorem apG_f {s : Ss} {r : Nat} (h : ¬ sxF len z 3 (apG len z s r).2.2 = 0) : apG len z s (r + 1) = ((apG len z s r).1, (apG len z s r).2.1, snF len 3 (apG len z s r).2.2) := if_neg h
theorem apG_le (s : Ss) : ∀ r, (apG len z s r).1 ≤ r
  | 0 => Nat.le_refl _
  | r + 1 => by
    have := apG_le s r
    by_cases h : sxF len z 3 (apG len z s r).2.2 = 0
    · rw [apG_t h]; show (apG len z s r).1 + 1 ≤ r + 1; omega
    · rw [apG_f h]; show (apG len z s r).1 ≤ r + 1; omega
theorem apR_at {p : Int} {s : Ss} {r : Nat} (hr : r ≤ p.toNat) (h : apC len z p s r = true) (hb : ∀ a, a < r → apC len z p s a = false) : apR len z p s = r := by
  unfold apR
  rw [idx_at (by omega) h hb]
  rfl
end
def fhF (len : Nat) (z : Nat → Int) : Nat → Int
  | 0 => h0F len
  | i + 1 => IntKind.u64.wrap (IntKind.u64.wrap (IntKind.u64.wrap (fhF len z i * 1099511628211) + IntKind.u64.wrap (z i)) + 83)
def frS (len : Nat) (z : Nat → Int) : Ss := ⟨0, fhF len z (min len 4096)⟩
theorem rt_ptr {T : TT} {t key : Nat} {env : Env} {ol : OL} {root c c' : AV} (hx : get env t = .ptr key 0 [] 0 root) (ho : ol.at_ key 0 = some (root, c')) (hs : ssh root c) (hm : ∀ V, Mt V c c') : retQ T [.tmp t] (.ptr 0 0 [] 0 root) [(0, .one root c)] .ret env ol := by
  refine ⟨fun _ _ => (key, 0), ⟨?_, trivial⟩, ⟨?_, trivial⟩, ⟨⟨fun _ => ⟨rfl, rfl⟩, trivial⟩, trivial⟩⟩
  · show Mt _ (.ptr 0 0 [] 0 root) (get env t)
    rw [hx]
    exact ⟨rfl, rfl, rfl, rfl, rfl⟩
  · show (match ol.at_ key 0 with | some (sh', c') => _ | none => False)
    rw [ho]
    exact ⟨rfl, hs, hm _⟩
theorem app6 {n j : Nat} {f : Nat → Int} {A g : Nat → AV} (hj : j < n + 6) (hA : ∀ j, j < n → A j = .int .i64 (f j) := by exact fun _ _ => rfl) (hg : ∀ j, j < 6 → g j = .int .i64 0 := by intro j hj; match j, hj with | 0, _ => rfl | 1, _ => rfl | 2, _ => rfl | 3, _ => rfl | 4, _ => rfl | 5, _ => rfl) : appF n A 6 g j = .int .i64 (if j < n then f j else 0) := by
  rcases Nat.lt_or_ge j n with h | h
  · rw [appF_lt h, hA j h, if_pos h]
  · rw [appF_ge h (by omega), hg _ (by omega), if_neg (by omega)]
end Go.Am

namespace Go.Am
section
variable {P : Program} {T : TT}
theorem srDG (hT : TOk P T) {N id : Nat} {ops : Array Oper} {ops1 ops2 : List Oper} {o : Oper} {y : Code} {env env1 env' : Env} {ol ol1 ol2 ol' : OL} {v : AV} {Q : Exit → Env → OL → Prop} (hd : dstOk N ops.toList = true)
    (hops : ops.toList = ops1 ++ o :: ops2) (hg : o.guard = none)
    (h1 : ∀ R : Env → OL → Prop, R env1 ol1 → WOps P T ops ops1 env ol R) (hm : MidJ P T o env1 ol1 v ol2)
    (h2 : ∀ R : Env → OL → Prop, (∀ e, EL e env' → R e ol') → WOps P T ops ops2 (putE o.dst v env1) ol2 R)
    (hy : Snd P T N y env' ol' Q) : Snd P T N (.seq (.region id ops false) y) env ol Q := by
  refine snd_seq ?_
  intro X κ a w hP hTT hR hE hN hD
  refine wp_region_list ?_
  rw [hops] at hd ⊢
  simp only [dstOk, List.all_append, List.all_cons, Bool.and_eq_true] at hd
  have hlt : ∀ (a : Act), a.tmps.size = N → ∀ t, o.dst = some t → t < a.tmps.size := fun a hN t ht => by
    have := hd.2.1
    rw [ht] at this
    rw [hN]; simpa [Nat.blt_eq] using this
  refine WOps_run hT ops hP hTT (K := fun e l => e = env1 ∧ l = ol1) ?_ ops1 env ol (h1 _ ⟨rfl, rfl⟩) hd.1 κ a w hR hE hN hD
  rintro e l κ1 a1 w1 ⟨rfl, rfl⟩ hR1 hE1 hN1 hD1
  unfold wpList
  rw [if_pos (by simp [Region.wanted, hg])]
  refine .inl ?_
  unfold Oper.wp
  have := hm X κ1 w1 a1 hP hTT hR1 hE1
  rw [← hP]
  rw [← hP] at this
  refine upon_of_Out this (fun c w' κ' hR' hv hle => ?_)
  rw [hP]
  have := WOps_run hT ops hP hTT (rest := []) (Q := QQ X N (thn P T N y Q)) (K := thn P T N y Q .normal) (N := N) (fun e l κ' a' w' h hR hE hN hD => ⟨κ', e, l, h, hR, hE, hN, hD⟩)
    ops2 _ _ (h2 _ (fun e he => snd_el he hy)) hd.2.2 κ' (a1.put o.dst c) w' hR' ((hE1.mono hle).put hv (hlt a1 hN1)) (by rw [Act.put_size]; exact hN1) (by rw [Act.put_defers]; exact hD1)
  rwa [List.append_nil] at this
theorem lrD (hT : TOk P T) {N id : Nat} {ops : Array Oper} {ops1 ops2 : List Oper} {o : Oper} {env env1 env' : Env} {ol ol1 ol2 ol' : OL} {v : AV} {Q : Exit → Env → OL → Prop} (hd : dstOk N ops.toList = true)
    (hops : ops.toList = ops1 ++ o :: ops2) (hg : o.guard = none)
    (h1 : ∀ R : Env → OL → Prop, R env1 ol1 → WOps P T ops ops1 env ol R) (hm : MidJ P T o env1 ol1 v ol2)
    (h2 : ∀ R : Env → OL → Prop, R env' ol' → WOps P T ops ops2 (putE o.dst v env1) ol2 R)
    (hy : Q .normal env' ol') : Snd P T N (.region id ops false) env ol Q := by
  intro X κ a w hP hTT hR hE hN hD
  refine wp_region_list ?_
  rw [hops] at hd ⊢
  simp only [dstOk, List.all_append, List.all_cons, Bool.and_eq_true] at hd
  have hlt : ∀ (a : Act), a.tmps.size = N → ∀ t, o.dst = some t → t < a.tmps.size := fun a hN t ht => by
    have := hd.2.1
    rw [ht] at this
    rw [hN]; simpa [Nat.blt_eq] using this
  refine WOps_run hT ops hP hTT (K := fun e l => e = env1 ∧ l = ol1) ?_ ops1 env ol (h1 _ ⟨rfl, rfl⟩) hd.1 κ a w hR hE hN hD
  rintro e l κ1 a1 w1 ⟨rfl, rfl⟩ hR1 hE1 hN1 hD1
  unfold wpList
  rw [if_pos (by simp [Region.wanted, hg])]
  refine .inl ?_
  unfold Oper.wp
  have := hm X κ1 w1 a1 hP hTT hR1 hE1
  rw [← hP]
  rw [← hP] at this
  refine upon_of_Out this (fun c w' κ' hR' hv hle => ?_)
  rw [hP]
  have := WOps_run hT ops hP hTT (rest := []) (Q := QQ X N Q) (K := Q .normal) (N := N) (fun e l κ' a' w' h hR hE hN hD => ⟨κ', e, l, h, hR, hE, hN, hD⟩)
    ops2 _ _ (h2 _ hy) hd.2.2 κ' (a1.put o.dst c) w' hR' ((hE1.mono hle).put hv (hlt a1 hN1)) (by rw [Act.put_size]; exact hN1) (by rw [Act.put_defers]; exact hD1)
  rwa [List.append_nil] at this
end
theorem closed_p2 {a b : AV} (ha : a.closed) (hb : b.closed) : (AV.tup 2 (pairA a b)).closed := fun i => by
  match i with
  | 0 => exact ha
  | 1 => exact hb
  | n + 2 => exact trivial
def trA (a b c : AV) : Nat → AV
  | 0 => a
  | 1 => b
  | 2 => c
  | _ => .any
theorem closed_tr {a b c : AV} (ha : a.closed) (hb : b.closed) (hc : c.closed) : (AV.tup 3 (trA a b c)).closed := fun i => by
  match i with
  | 0 => exact ha
  | 1 => exact hb
  | 2 => exact hc
  | n + 3 => exact trivial
theorem rt_tt0 {T : TT} {t s : Nat} {env : Env} {ol : OL} {v u : AV} (hv : Mt (vwOf ρ0 ol []) v (get env t)) (hu : Mt (vwOf ρ0 ol []) u (get env s)) : retQ T [.tmp t, .tmp s] (.tup 2 (pairA v u)) [] .ret env ol := by
  refine ⟨ρ0, ⟨⟨rfl, fun i hi => ?_⟩, trivial⟩, trivial, trivial⟩
  match i, hi with
  | 0, _ => exact hv
  | 1, _ => exact hu
theorem rt_ttt {T : TT} {t s r : Nat} {env : Env} {ol : OL} {v u x : AV} (hv : Mt (vwOf ρ0 ol []) v (get env t)) (hu : Mt (vwOf ρ0 ol []) u (get env s)) (hx : Mt (vwOf ρ0 ol []) x (get env r)) : retQ T [.tmp t, .tmp s, .tmp r] (.tup 3 (trA v u x)) [] .ret env ol := by
  refine ⟨ρ0, ⟨⟨rfl, fun i hi => ?_⟩, trivial⟩, trivial, trivial⟩
  match i, hi with
  | 0, _ => exact hv
  | 1, _ => exact hu
  | 2, _ => exact hx
theorem least {Q : Nat → Bool} : ∀ n, Q n = true → ∃ r, r ≤ n ∧ Q r = true ∧ ∀ a, a < r → Q a = false := by
  intro n
  induction n using Nat.strongRecOn with
  | _ n ih =>
    intro h
    by_cases q : ∃ a, a < n ∧ Q a = true
    · obtain ⟨a, ha, hq⟩ := q
      obtain ⟨r, h1, h2, h3⟩ := ih a ha hq
      exact ⟨r, by omega, h2, h3⟩
    · exact ⟨n, Nat.le_refl _, h, fun a ha => by
        cases hq : Q a
        · rfl
        · exact absurd ⟨a, ha, hq⟩ q⟩
section
variable {len : Nat} {z : Nat → Int}
theorem apG_val (s : Ss) : ∀ r j, j < (apG len z s r).1 → 0 ≤ (apG len z s r).2.1 j ∧ (apG len z s r).2.1 j < (r : Int)
  | 0, j, h => absurd h (Nat.not_lt_zero j)
  | r + 1, j, h => by
    have ih := apG_val s r
    by_cases q : sxF len z 3 (apG len z s r).2.2 = 0
    · rw [apG_t q] at h ⊢
      show 0 ≤ upd (apG len z s r).2.1 (apG len z s r).1 (r : Int) j ∧ upd (apG len z s r).2.1 (apG len z s r).1 (r : Int) j < ((r + 1 : Nat) : Int)
      by_cases e : j = (apG len z s r).1
      · subst e; rw [upd_at]; omega
      · rw [upd_ne _ _ e]
        have h : j < (apG len z s r).1 + 1 := h
        have := ih j (by omega)
        omega
    · rw [apG_f q] at h ⊢
      have := ih j h
      exact ⟨this.1, by show (apG len z s r).2.1 j < ((r + 1 : Nat) : Int); omega⟩
theorem apG_6 {p : Int} (s : Ss) : ∀ r, (∀ a, a < r → apC len z p s a = false) → (apG len z s r).1 ≤ 6
  | 0, _ => Nat.zero_le _
  | r + 1, h => by
    have h1 := h r (by omega)
    have h2 : ((r : Int) < p ∧ (((apG len z s r).1 : Nat) : Int) < 6) := by
      unfold apC at h1
      simpa using h1
    by_cases q : sxF len z 3 (apG len z s r).2.2 = 0
    · rw [apG_t q]; show (apG len z s r).1 + 1 ≤ 6; omega
    · rw [apG_f q]; show (apG len z s r).1 ≤ 6; omega
theorem apL_bd (hz : ∀ i, 0 ≤ z i ∧ z i < 256) {p : Int} (hp : 2 ≤ p ∧ p ≤ 13) (s : Ss) : (1 ≤ (apL len z p s).n ∧ (apL len z p s).n ≤ 6) ∧ ∀ j, j < (apL len z p s).n → 0 ≤ (apL len z p s).f j ∧ (apL len z p s).f j ≤ p - 1 := by
  obtain ⟨r, h1, h2, h3⟩ := least (Q := apC len z p s) p.toNat (by unfold apC; rw [decide_eq_false (show ¬ ((p.toNat : Nat) : Int) < p by omega)]; rfl)
  have hR : apR len z p s = r := apR_at h1 h2 h3
  unfold apL
  rw [hR]
  have h6 := apG_6 (len := len) (z := z) s r h3
  have hv := apG_val (len := len) (z := z) s r
  by_cases q : (apG len z s r).1 = 0
  · rw [if_pos q]
    refine ⟨⟨Nat.le_refl 1, by show 1 ≤ 6; omega⟩, fun j _ => ?_⟩
    have hb := sxF_bd (len := len) hz p (apG len z s r).2.2
    have := hb.2 (by omega)
    exact ⟨hb.1, by show sxF len z p (apG len z s r).2.2 ≤ p - 1; omega⟩
  · rw [if_neg q]
    refine ⟨⟨by show 1 ≤ (apG len z s r).1; omega, h6⟩, fun j hj => ?_⟩
    have := hv j hj
    exact ⟨this.1, by show (apG len z s r).2.1 j ≤ p - 1; omega⟩
end
section
variable (len : Nat) (z : Nat → Int)
def mxP (p : Int) : Int := if (0 : Int) > p - 1 then 0 else p - 1
structure Dr4 where
  p : Int
  n : Nat
  f : Nat → Int
  g : Int
def d13F (s : Ss) : Dr4 := if sxF len z 4 s = 0 then ⟨(l9F len z (snF len 4 s)).p, (l9F len z (snF len 4 s)).n, (l9F len z (snF len 4 s)).f, nrX len z 30 (l9F len z (snF len 4 s)).s⟩
  else ⟨drP len z (snF len 4 s), (apL len z (drP len z (snF len 4 s)) (snF len 7 (snF len 4 s))).n, po (drP len z (snF len 4 s)) (apL len z (drP len z (snF len 4 s)) (snF len 7 (snF len 4 s))).f (apL len z (drP len z (snF len 4 s)) (snF len 7 (snF len 4 s))).n, nrX len z 30 (apL len z (drP len z (snF len 4 s)) (snF len 7 (snF len 4 s))).s⟩
def d17B (s : Ss) : Bool := decide (sxF len z 2 (l9F len z s).s = 0) && primeB (l9F len z s).p
def d17F (s : Ss) : Dl3 := if d17B len z s = true then ⟨(l9F len z s).p, (apL len z (l9F len z s).p (snF len 2 (l9F len z s).s)).n, (apL len z (l9F len z s).p (snF len 2 (l9F len z s).s)).f, s⟩ else ⟨(l9F len z s).p, (l9F len z s).n, (l9F len z s).f, s⟩
end
section
variable {len : Nat} {z : Nat → Int} (hz : ∀ i, 0 ≤ z i ∧ z i < 256)
include hz
theorem mxP_bd {s : Ss} : -1000000 ≤ mxP (l9F len z s).p ∧ mxP (l9F len z s).p ≤ 1000000 := by
  have := (l9F_bd (len := len) hz s).1
  unfold mxP
  split <;> omega
theorem d13_bd (s : Ss) : (-1000000 ≤ (d13F len z s).p ∧ (d13F len z s).p ≤ 1000000) ∧ (d13F len z s).n ≤ 12 := by
  unfold d13F
  split
  · exact l9F_bd hz _
  · have h1 := primeB_bd (drP_bd (len := len) hz (snF len 4 s))
    have h2 := (apL_bd (len := len) hz h1 (snF len 7 (snF len 4 s))).1
    exact ⟨⟨by show -1000000 ≤ drP len z (snF len 4 s); omega, by show drP len z (snF len 4 s) ≤ 1000000; omega⟩, by show (apL len z _ _).n ≤ 12; omega⟩
theorem d17_bd (s : Ss) : (-1000000 ≤ (d17F len z s).p ∧ (d17F len z s).p ≤ 1000000) ∧ (d17F len z s).n ≤ 12 := by
  have h := l9F_bd (len := len) hz s
  unfold d17F
  split
  · rename_i q
    have hq : primeB (l9F len z s).p = true := by unfold d17B at q; simp at q; exact q.2
    have h1 := primeB_bd hq
    have h2 := (apL_bd (len := len) hz h1 (snF len 2 (l9F len z s).s)).1
    exact ⟨h.1, by show (apL len z _ _).n ≤ 12; omega⟩
  · exact h
end
theorem shift_src {b len : Nat} {z : Nat → Int} {s : Ss} : shift b (srcS len z s) = srcS len z s := srcF_of rfl rfl rfl (fun _ => rfl)
theorem hat_src {b len : Nat} {z : Nat → Int} {s : Ss} {o : Option (AV × AV)} (h : o = some (rtS len z, shift b (srcS len z s))) : o = some (rtS len z, srcS len z s) := by rw [h, shift_src]
end Go.Am

namespace Go.Am
section
variable {P : Program} {T : TT} {all : Array Oper} {r : List Oper} {env : Env} {ol : OL} {R : Env → OL → Prop} {d : Nat} {t u ty : TypeId} {x y : Operand} {pos : String} {af : Array Edge}
theorem w_sctn {n : Nat} {f : Nat → AV} {fs : List (TypeId × Nat)} (hx : evE env x = .sct n f) (hy : evE env y = .sct n f) (ht : T.und t = .sct fs) (hs : simT T 6 t (.sct n f))
    (hr : WOps P T all r ((d, .bool false) :: env) ol R) : WOps P T all (⟨some d, .binOp .neq t x y u, ty, pos, af, none⟩ :: r) env ol R := by
  simp only [WOps, WOp, PW, putE]
  rw [hx, hy]
  simp only [BW, ht]
  exact ⟨trivial, hs, hr⟩
theorem w_neq_f {k : IntKind} {a b : Int} (hx : evE env x = .int k a) (hy : evE env y = .int k b) (h : a = b) (hr : WOps P T all r ((d, .bool false) :: env) ol R) : WOps P T all (⟨some d, .binOp .neq t x y u, ty, pos, af, none⟩ :: r) env ol R :=
  w_neq hx hy (by rw [decide_eq_false (fun q => q h)]; exact hr)
theorem w_eql_t {k : IntKind} {a b : Int} (hx : evE env x = .int k a) (hy : evE env y = .int k b) (h : a = b) (hr : WOps P T all r ((d, .bool true) :: env) ol R) : WOps P T all (⟨some d, .binOp .eql t x y u, ty, pos, af, none⟩ :: r) env ol R :=
  w_eql hx hy (by rw [decide_eq_true h]; exact hr)
theorem w_gtr_f {k : IntKind} {a b : Int} (hx : evE env x = .int k a) (hy : evE env y = .int k b) (h : ¬ b < a) (hr : WOps P T all r ((d, .bool false) :: env) ol R) : WOps P T all (⟨some d, .binOp .gtr t x y u, ty, pos, af, none⟩ :: r) env ol R :=
  w_gtr hx hy (by rw [decide_eq_false h]; exact hr)
end
section
variable {T : TT} {d : Nat} {t : TypeId}
theorem simT_int {k k' : IntKind} {x : Int} (h : T.und t = .int k) : simT T (d + 1) t (.int k' x) := by
  unfold simT; rw [h]; exact ⟨_, _, rfl⟩
theorem simT_arr {n e : Nat} {f : Nat → AV} (h : T.und t = .arr n e) (he : (T.und e).known = true) (hf : ∀ i, i < n → (f i).size = T.sz e ∧ (f i).isAgg = (T.und e).isAgg ∧ simT T d e (f i)) : simT T (d + 1) t (.arr n f) := by
  unfold simT; rw [h]; exact ⟨_, rfl, he, hf⟩
theorem simT_alg {p n : Int} {D : Nat → Nat → Nat → Int} {fo : Nat → Int} {a b c e : TypeId × Nat} (h : T.und t = .sct [a, b, c, e]) (hp : plainT T 6 t = true)
    (ha : (T.und a.1).known = true ∧ 0 = a.2 ∧ 1 = T.sz a.1 ∧ false = (T.und a.1).isAgg ∧ ∃ k, T.und a.1 = .int k)
    (hb : (T.und b.1).known = true ∧ 1 = b.2 ∧ 1 = T.sz b.1 ∧ false = (T.und b.1).isAgg ∧ ∃ k, T.und b.1 = .int k)
    (hc : (T.und c.1).known = true ∧ 2 = c.2 ∧ 216 = T.sz c.1 ∧ true = (T.und c.1).isAgg ∧ simT T (d + 1) c.1 (tabA D))
    (he : (T.und e.1).known = true ∧ 218 = e.2 ∧ 6 = T.sz e.1 ∧ true = (T.und e.1).isAgg ∧ simT T (d + 1) e.1 (vecA fo)) : simT T (d + 2) t (algA p n D fo) := by
  unfold simT; rw [h]
  refine ⟨hp, algF p n D fo, rfl, fun i ft fo' hi => ?_⟩
  match i with
  | 0 =>
    obtain ⟨h1, h2, h3, h4, k, h5⟩ := ha
    obtain rfl : a = (ft, fo') := Option.some.inj hi
    exact ⟨h1, h2, h3, h4, simT_int h5⟩
  | 1 =>
    obtain ⟨h1, h2, h3, h4, k, h5⟩ := hb
    obtain rfl : b = (ft, fo') := Option.some.inj hi
    exact ⟨h1, h2, h3, h4, simT_int h5⟩
  | 2 =>
    obtain ⟨h1, h2, h3, h4, h5⟩ := hc
    obtain rfl : c = (ft, fo') := Option.some.inj hi
    exact ⟨h1, h2, h3, h4, h5⟩
  | 3 =>
    obtain ⟨h1, h2, h3, h4, h5⟩ := he
    obtain rfl : e = (ft, fo') := Option.some.inj hi
    exact ⟨h1, h2, h3, h4, h5⟩
  | i + 4 => simp at hi
end
theorem snd_cut {P : Program} {T : TT} {N : Nat} {whole rest : Code} {env env2 : Env} {ol ol2 : OL} {Q Q2 : Exit → Env → OL → Prop} (h1 : Snd P T N rest env2 ol2 Q2 → Snd P T N whole env ol Q) (h2 : Snd P T N rest env2 ol2 Q2) : Snd P T N whole env ol Q := h1 h2
section
variable {p : Int} {d : Nat} {c : Nat → Int}
theorem vc_cut : vc d (cutF c d) = vc d c := funext fun j => by
  unfold vc cutF
  by_cases h : j < d
  · rw [if_pos h, if_pos h, if_pos h]
  · rw [if_neg h, if_neg h]
theorem fv_cut (r : Int) : fv d (cutF c d) r = fv d c r := by unfold fv; rw [vc_cut]
theorem rtB_cut : rtB p d (cutF c d) = rtB p d c := funext fun r => by unfold rtB; rw [fv_cut]
theorem roN_cut : roN p d (cutF c d) = roN p d c := by unfold roN; rw [rtB_cut]
theorem roF_cut (i : Nat) : roF p d (cutF c d) i = roF p d c i := by unfold roF; rw [rtB_cut]
theorem slP_cut (r : Int) : slP p d (cutF c d) r = slP p d c r := by unfold slP; rw [vc_cut]
theorem wI_cut (i : Nat) : wI p d (cutF c d) i = wI p d c i := by unfold wI; rw [slP_cut, roF_cut]
theorem rnF_cut (g : Nat) : rnF p d (cutF c d) g = rnF p d c g := by
  unfold rnF
  congr 1
  refine sumZ_congr d (fun i hi => ?_)
  rw [wI_cut, vc_cut, roF_cut]
theorem po3 (p : Int) (d : Nat) (c : Nat → Int) : ¬ PO p d c ∨ (PO p d c ∧ d = 1) ∨ (PO p d c ∧ 1 < d) := by
  by_cases h : PO p d c
  · rcases Nat.lt_or_ge 1 d with q | q
    · exact .inr (.inr ⟨h, q⟩)
    · exact .inr (.inl ⟨h, by have := h.2.1; omega⟩)
  · exact .inl h
theorem po_rn (p : Int) (d : Nat) (c : Nat → Int) (g : Int) : ¬ (PO p d c ∧ 0 ≤ g ∧ g ≤ 30) ∨ (∃ k : Nat, g = (k : Int) ∧ k ≤ 30 ∧ PO p d c ∧ ¬ roN p d c = d) ∨ (∃ k : Nat, g = (k : Int) ∧ k ≤ 30 ∧ PO p d c ∧ roN p d c = d) := by
  by_cases h : PO p d c ∧ 0 ≤ g ∧ g ≤ 30
  · obtain ⟨h1, h2, h3⟩ := h
    by_cases hN : roN p d c = d
    · exact .inr (.inr ⟨g.toNat, by omega, by omega, h1, hN⟩)
    · exact .inr (.inl ⟨g.toNat, by omega, by omega, h1, hN⟩)
  · exact .inl h
theorem PO_po (h : PO p d c) : PO p d (po p c d) := ⟨h.1, h.2.1, fun j _ => by
  have hpb := primeB_bd h.1
  have := po_Bp (show 1 < p by omega) c d j
  omega⟩
theorem po_all (h : PO p d c) {i : Nat} (hi : i < d) : ∃ r, r < roN p d (po p c d) ∧ ((roF p d (po p c d) r : Nat) : Int) = c i := by
  have hpb := primeB_bd h.1
  have hc := h.2.2 i hi
  have hr : ((c i).toNat : Int) = c i := by omega
  obtain ⟨r, h1, h2⟩ := enF_all (P := rtB p d (po p c d)) p.toNat (c i).toNat (by omega) (rtB_t.2 (by rw [hr]; exact po_fv (by omega) c hi (fun j _ => rfl)))
  exact ⟨r, h1, by unfold roF; rw [h2]; exact hr⟩
theorem pol_coef (h : PO p d c) (hd : 1 < d) {D : Nat} (hD : MPd p d (polT p d (cutF c d)) (eF 1) D) :
    D = d ∧ (fun j => if j < D then (- (echGo p (D + 1) (mpS p d (polT p d (cutF c d)) (eF 1)) d).O j D) % p else 1) = (fun j => if j < d then c j else 1) := by
  obtain ⟨h1, h2⟩ := pol_mp h.1 hd h.2.1.2 (fun j hj => cut_Bp h j) hD
  refine ⟨h1, funext fun j => ?_⟩
  rw [h1] at h2 ⊢
  by_cases q : j < d
  · rw [if_pos q, if_pos q, h2 j q]; exact if_pos q
  · rw [if_neg q, if_neg q]
end
def hasF (R : Nat → Int) (x : Int) : Nat → Bool
  | 0 => false
  | k + 1 => hasF R x k || decide (R k = x)
theorem hasF_t {R : Nat → Int} {x : Int} : ∀ m, (∃ r, r < m ∧ R r = x) → hasF R x m = true
  | 0, h => by obtain ⟨r, hr, _⟩ := h; omega
  | m + 1, ⟨r, hr, h⟩ => by
    show (hasF R x m || decide (R m = x)) = true
    by_cases e : r = m
    · subst e; rw [decide_eq_true h]; simp
    · rw [hasF_t m ⟨r, by omega, h⟩]; rfl
theorem ef1 {ev : EV} {a b : Operand} (ha : ev a = .int .u8 0) (hb : ev b = .int .u8 1) : fillF ev [(0, a), (1, b)] (fun _ => .int .u8 0) = (fun i => .int .u8 (eF 1 i)) := by
  funext i
  match i with
  | 0 => exact ha
  | 1 => exact hb
  | i + 2 => rfl
end Go.Am

namespace Go.Am
theorem ldG {P : Program} {T : TT} {N : Nat} {env : Env} {ol : OL} {Q : Exit → Env → OL → Prop} (hT : TOk P T) (hm : P.follows .mixedOrders = true) {id : Nat} {ops : Array Oper} {env' : Env} {ol' : OL} (ho : drawOk ops = true) (hd : dstOk N ops.toList = true)
    (h : ∀ R : Env → OL → Prop, (∀ e, EL e env' → R e ol') → WOps P T ops ops.toList env ol R) (hy : ∀ e, EL e env' → Q .normal e ol') : Snd P T N (.region id ops true) env ol Q :=
  snd_draw hT hm ho hd (h _ hy)
section
variable {H : Type} {enc : TypeId × Value → H} {P : Program} {T : TT} {w : World} {base : Nat} {spare : Nat → Bool} {held : Bool} {t u : TypeId}
theorem open_bys {fuel : Nat} {cs : List Value} {x : DataW H × List MemPlace} (ht : P.underlying t = some (.slice u)) (hu : P.underlying u = some (.int .u8)) (hcu : P.cellsOf u = 1)
    (h : DataW.trod enc P w base spare held fuel t cs = some x) :
    cs = [.slice none 0 0] ∨
    ∃ (a : Addr) (len cap : Nat) (z : Nat → Int), cs = [.slice (some a) len cap] ∧ len ≤ cap ∧ cap ≤ maxLen ∧
      (∀ i, i < len → w.cell? (a.add i) = some (.int .u8 (z i)) ∧ IntKind.u8.has (z i)) := by
  rcases DataW.trod_slice ht h with h0 | ⟨a, len, cap, elems, rest, n, _, rfl, rfl, hb, hl, hm, hlen, hel, hsp, hns⟩
  · exact Or.inl h0.1
  right
  refine ⟨a, len, cap, fun i => match w.cell? (a.add i) with | some (.int _ m) => m | _ => 0, rfl, hl, hm, fun i hi => ?_⟩
  have hE := hel i hi
  rw [hcu, Nat.mul_one] at hE
  rw [List.getElem?_eq_getElem (by omega), Option.bind_eq_some_iff] at hE
  obtain ⟨cs', hcs, hy⟩ := hE
  obtain ⟨hb1, hlen', hcell⟩ := World.cells?_some hcs
  obtain ⟨q, hq1, hq2, hq3⟩ := DataW.trod_int hu hy
  have hcj : cs'[0]? = some (.int .u8 q) := by rw [hq1]; rfl
  have hc := hcell 0 (by omega)
  have hadd : (a.add i).add 0 = a.add i := by
    obtain ⟨b, o, s⟩ := a
    unfold Addr.add
    split <;> split <;> simp_all
  rw [hadd, hcj] at hc
  show w.cell? (a.add i) = some (.int .u8 (match w.cell? (a.add i) with | some (.int _ m) => m | _ => 0)) ∧ IntKind.u8.has (match w.cell? (a.add i) with | some (.int _ m) => m | _ => 0)
  rw [hc]
  refine ⟨rfl, ?_⟩
  have hwf : (Lit.int .u8 q).wf = true := hq3
  simpa [Lit.wf, IntKind.has] using hwf
def byF (len : Nat) (z : Nat → Int) (i : Nat) : Int := if i < len then z i else 0
theorem byF_bd {len : Nat} {z : Nat → Int} (h : ∀ i, i < len → IntKind.u8.has (z i)) (i : Nat) : 0 ≤ byF len z i ∧ byF len z i < 256 := by
  unfold byF; split
  · exact has_u8 (h i ‹_›)
  · omega
theorem bys_in {I : Nat → Prop} (hI : ∀ b, b < w.heap.size → I b) {a : Addr} {len cap : Nat} {z : Nat → Int} (hl : len ≤ cap) (hm : cap ≤ maxLen)
    (h : ∀ i, i < len → w.cell? (a.add i) = some (.int .u8 (z i))) : VR (K0 T I w) (codeA len (byF len z)) (.slice (some a) len cap) := by
  refine ⟨some a, cap, rfl, hl, hm, ?_⟩
  by_cases h0 : len = 0
  · exact .inl h0
  right
  have h1 := h 0 (by omega)
  obtain ⟨b, o, s⟩ := a
  have hs : s = none := by
    have := World.cell?_spot h1
    unfold Addr.add at this
    split at this <;> simp_all
  subst hs
  have hc : ∀ i, i < len → w.cell? ⟨b, o + i, none⟩ = some (.int .u8 (z i)) := fun i hi => by have := h i hi; rwa [addr_add] at this
  cases hb : w.heap[b]? with
  | none => have := hc 0 (by omega); simp [World.cell?, hb] at this
  | some ob =>
    cases ob with
    | cells cur e fr =>
      refine ⟨b, o, fun i => [.int .u8 (z i)], rfl, hI b (Array.getElem?_eq_some_iff.1 hb).1, ⟨cur, e, fr, hb, ?_⟩, fun i hi => ⟨?_, rfl⟩⟩
      · have hget : ∀ i, i < len → cur[o + i]? = some (.int .u8 (z i)) := fun i hi => by
          have := hc i hi
          simp only [World.cell?, hb] at this
          simpa using this
        have key : ∀ m, m ≤ len → ∀ (q : Nat) (x : Value), (flat (fun i => [Value.int .u8 (z i)]) m)[q]? = some x → cur[o + q]? = some x := by
          intro m
          induction m with
          | zero => intro _ q x hq; simp [flat] at hq
          | succ m ih =>
            intro hm q x hq
            simp only [flat] at hq
            have hlen : (flat (fun i => [Value.int .u8 (z i)]) m).length = m := by
              rw [flat_len]; exact (sumTo_congr (g := fun _ => 1) (fun _ _ => rfl)).trans ((sumTo_const 1 m).trans (Nat.mul_one m))
            by_cases hlt : q < m
            · rw [List.getElem?_append_left (by omega)] at hq
              exact ih (by omega) q x hq
            · rw [List.getElem?_append_right (by omega), hlen] at hq
              have hq1 : q - m < 1 := by
                have := (List.getElem?_eq_some_iff.1 hq).1
                simpa using this
              obtain rfl : q = m := by omega
              rw [Nat.sub_self] at hq
              rw [hget q (by omega)]
              exact hq
        exact key len (Nat.le_refl _)
      · show [Value.int .u8 (z i)] = [Value.int .u8 (byF len z i)]
        rw [show byF len z i = z i from if_pos hi]
    | _ => have := hc 0 (by omega); simp [World.cell?, hb] at this
theorem bys_arg {a : Option Addr} {len cap : Nat} {d : DataW H} {ps : List MemPlace} (ht : P.underlying t = some (.slice u)) (hu : P.underlying u = some (.int .u8)) (hcu : P.cellsOf u = 1) (h : DataW.Trod enc P w base spare held t (.slice a len cap) d ps) :
    ∃ (M : Nat) (z : Nat → Int), (∀ i, 0 ≤ z i ∧ z i < 256) ∧ VR (K0 T (fun b => b < w.heap.size) w) (codeA M z) (.slice a len cap) := by
  obtain ⟨fuel, hf⟩ := h
  rcases open_bys ht hu hcu hf with hcs | ⟨x, l, c, z, hcs, hl, hm, hz⟩
  · simp [Value.cells] at hcs
    obtain ⟨rfl, rfl, rfl⟩ := hcs
    exact ⟨0, fun _ => 0, fun _ => ⟨Int.le_refl 0, by show (0 : Int) < 256; decide⟩, ⟨none, 0, rfl, Nat.le_refl _, Nat.zero_le _, .inl rfl⟩⟩
  · simp [Value.cells] at hcs
    obtain ⟨rfl, rfl, rfl⟩ := hcs
    exact ⟨len, byF len z, byF_bd (fun i hi => (hz i hi).2), bys_in (fun b hb => hb) hl hm (fun i hi => (hz i hi).1)⟩
end
end Go.Am

