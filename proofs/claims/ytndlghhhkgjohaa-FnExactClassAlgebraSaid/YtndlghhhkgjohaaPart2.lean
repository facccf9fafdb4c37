/- Part 2 of what the law stands on: abstract values, their walk, contracts of functions. My own work. Conditions: none. -/
import Derived.Test.YtndlghhhkgjohaaPart1
set_option linter.unusedVariables false
set_option linter.unusedSimpArgs false
namespace Go.Am
abbrev rowsW (N : Nat) (W : Nat → Nat) (R : Nat → Nat → Int) : AV := .ro N (fun i => rowA (W i) (R i))
theorem closed_rowsW {N : Nat} {W : Nat → Nat} {R : Nat → Nat → Int} : (rowsW N W R).closed := fun _ _ => trivial
theorem mt_rowsW {V : Vw} {N : Nat} {W : Nat → Nat} {R S : Nat → Nat → Int} (h : ∀ i, i < N → ∀ j, j < W i → S i j = R i j) : Mt V (rowsW N W R) (rowsW N W S) :=
  ⟨rfl, fun i hi => ⟨rfl, fun j hj => congrArg (AV.int .i64) (h i hi j hj)⟩⟩
theorem mt_famW_fz {V : Vw} {ko kf N e e2 : Nat} {w : Nat → Nat} {F : Nat → Nat → Int} {sh : AV} (hz : V.fz ko 0) (hzf : ∀ r, V.fz kf r) (ha : V.at' ko 0 = some (sh, CO kf N w e)) (hf : ∀ r, r < N → V.at' kf r = some (Z64 (w r), C64 (w r) (F r))) : Mt V (rowsW N w F) (.own ko 0 N e2) :=
  mt_fz hz ha (fun r hr => mt_fz (hzf r) (sh := Z64 (w r)) (G := fun j => .int .i64 (F r j)) (hf r hr) (fun j hj => rfl))
theorem famW_cl {P : Program} {T : TT} {f : FuncId} {ars : List AV} {N e e2 : Nat} {w : Nat → Nat} {F : Nat → Nat → Int} (h : ACalls P T f ars (.own 0 0 N e2) [(0, .one (ZR N) (CO 1 N w e)), (1, .many (famF N w F))]) : ACalls P T f ars (rowsW N w F) [] :=
  h.res (ρ := ρ0) ⟨⟨mt_famW_fz (w := w) (F := F) trivial (fun _ => trivial) rfl (fun r hr => famF_at (w := w) hr), trivial⟩, trivial, trivial⟩
section
variable {n : Nat} {G : Nat → Nat → Nat}
theorem ent_lt (h : entP n G) (hn : n ≤ 6) {i j : Nat} (hi : i < n) (hj : j < n) : G i j < n := by
  have := h i (by omega) j (by omega)
  unfold entQ at this
  rwa [if_pos ⟨hi, hj⟩] at this
def gmI (n : Nat) (G : Nat → Nat → Nat) (i : Nat) : Prop := (G 0 i = i ∧ G i 0 = i ∧ 0 ≤ ivI n G i) ∧ ∀ j, j < n → ∀ k, k < n → G (G i j) k = G i (G j k)
theorem ivI_iff {i : Nat} : 0 ≤ ivI n G i ↔ ∃ j, j < n ∧ G i j = 0 ∧ G j i = 0 := by
  unfold ivI
  rw [idx_ge]
  constructor
  · rintro ⟨j, hj, h⟩; exact ⟨j, hj, of_decide_eq_true h⟩
  · rintro ⟨j, hj, h⟩; exact ⟨j, hj, decide_eq_true h⟩
theorem gn_of (h1 : 1 ≤ n) (h6 : n ≤ 6) (he : entP n G) (h : ∀ i, i < n → gmI n G i) : GN n G :=
  ⟨h1, h6, he, fun i hi => ⟨(h i hi).1.1, (h i hi).1.2.1⟩, fun i hi => ivI_iff.1 (h i hi).1.2.2, fun i hi => (h i hi).2⟩
theorem GN.gm (h : GN n G) {i : Nat} (hi : i < n) : gmI n G i := ⟨⟨h.l hi, h.r hi, ivI_iff.2 (h.inv i hi)⟩, fun j hj k hk => h.as hi hj hk⟩
def anyB (P : Nat → Bool) : Nat → Bool
  | 0 => false
  | j + 1 => anyB P j || P j
theorem anyB_iff {P : Nat → Bool} : ∀ j, anyB P j = true ↔ ∃ a, a < j ∧ P a = true
  | 0 => by simp [anyB]
  | j + 1 => by
    show (anyB P j || P j) = true ↔ _
    rw [Bool.or_eq_true, anyB_iff j]
    constructor
    · rintro (⟨a, ha, h⟩ | h)
      · exact ⟨a, by omega, h⟩
      · exact ⟨j, by omega, h⟩
    · rintro ⟨a, ha, h⟩
      rcases Nat.lt_or_ge a j with h2 | h2
      · exact .inl ⟨a, h2, h⟩
      · obtain rfl : a = j := by omega
        exact .inr h
def ivB (G : Nat → Nat → Nat) (i j : Nat) : Bool := decide (((G i j : Nat) : Int) = 0) && decide (((G j i : Nat) : Int) = 0)
theorem ivB_iff {i : Nat} : anyB (ivB G i) n = true ↔ 0 ≤ ivI n G i := by
  rw [anyB_iff, ivI_iff]
  constructor
  · rintro ⟨a, ha, h⟩
    simp only [ivB, Bool.and_eq_true, decide_eq_true_eq] at h
    exact ⟨a, ha, by omega, by omega⟩
  · rintro ⟨a, ha, h1, h2⟩
    exact ⟨a, ha, by simp [ivB, h1, h2]⟩
theorem ivB_d {i j : Nat} : ivB G i j = decide (G i j = 0 ∧ G j i = 0) := by
  unfold ivB
  rw [← Bool.decide_and]
  exact decide_eq_decide.2 ⟨fun ⟨a, b⟩ => ⟨by omega, by omega⟩, fun ⟨a, b⟩ => ⟨by omega, by omega⟩⟩
def entB (n : Nat) (G : Nat → Nat → Nat) (i j : Nat) : Bool := ((decide ((i : Int) < (n : Int)) && decide ((j : Int) < (n : Int))) && decide ((n : Int) ≤ ((G i j : Nat) : Int))) || (!(decide ((i : Int) < (n : Int)) && decide ((j : Int) < (n : Int))) && decide (((G i j : Nat) : Int) ≠ 0))
theorem entB_iff {i j : Nat} : entB n G i j = true ↔ ¬ entQ n G i j := by
  unfold entB entQ
  by_cases h1 : i < n <;> by_cases h2 : j < n <;> by_cases h3 : G i j < n <;> by_cases h4 : G i j = 0 <;> simp [h1, h2, h3, h4] <;> omega
theorem entB_t {i j : Nat} (h : entB n G i j = true) : ¬ entQ n G i j := entB_iff.1 h
theorem entB_f {i j : Nat} (h : entB n G i j = false) : entQ n G i j := Classical.byContradiction fun q => by rw [entB_iff.2 q] at h; cases h
theorem gn_in (h : (!(decide ((1 : Int) ≤ (n : Int)) && decide ((n : Int) ≤ 6)) || !(decide (entP n G))) = false) : 1 ≤ n ∧ n ≤ 6 ∧ entP n G := by
  simp only [Bool.or_eq_false_iff, Bool.not_eq_false', Bool.and_eq_true, decide_eq_true_eq] at h
  exact ⟨by omega, by omega, h.2⟩
theorem gn_in_t (h : (!(decide ((1 : Int) ≤ (n : Int)) && decide ((n : Int) ≤ 6)) || !(decide (entP n G))) = true) : ¬ GN n G := fun q => by
  have h1 := q.n1; have h6 := q.n6; have he := q.ent
  simp [he] at h
  omega
theorem gi_of {i : Nat} (h : ((decide (((G 0 i : Nat) : Int) ≠ (i : Int)) || decide (((G i 0 : Nat) : Int) ≠ (i : Int))) || decide (ivI n G i < 0)) = false) : G 0 i = i ∧ G i 0 = i ∧ 0 ≤ ivI n G i := by
  simp only [Bool.or_eq_false_iff, decide_eq_false_iff_not] at h
  exact ⟨by omega, by omega, by omega⟩
theorem gi_t {i : Nat} (h : ((decide (((G 0 i : Nat) : Int) ≠ (i : Int)) || decide (((G i 0 : Nat) : Int) ≠ (i : Int))) || decide (ivI n G i < 0)) = true) : ¬ gmI n G i := fun q => by
  obtain ⟨⟨q1, q2, q3⟩, _⟩ := q
  simp only [Bool.or_eq_true, decide_eq_true_eq] at h
  omega
theorem gs_of {i : Nat} (h : ((!(anyB (ivB G i) n) || decide (((G 0 i : Nat) : Int) ≠ (i : Int))) || decide (((G i 0 : Nat) : Int) ≠ (i : Int))) = false) : G 0 i = i ∧ G i 0 = i ∧ 0 ≤ ivI n G i := by
  simp only [Bool.or_eq_false_iff, decide_eq_false_iff_not, Bool.not_eq_false'] at h
  exact ⟨by omega, by omega, ivB_iff.1 h.1.1⟩
theorem gs_t {i : Nat} (h : ((!(anyB (ivB G i) n) || decide (((G 0 i : Nat) : Int) ≠ (i : Int))) || decide (((G i 0 : Nat) : Int) ≠ (i : Int))) = true) : ¬ gmI n G i := fun q => by
  obtain ⟨⟨q1, q2, q3⟩, _⟩ := q
  rw [ivB_iff.2 q3] at h
  simp only [Bool.not_true, Bool.false_or, Bool.or_eq_true, decide_eq_true_eq] at h
  omega
theorem ing_of (h : (!(decide ((1 : Int) ≤ (n : Int)) && decide ((n : Int) ≤ 6))) = false) : 1 ≤ n ∧ n ≤ 6 := by
  simp only [Bool.not_eq_false', Bool.and_eq_true, decide_eq_true_eq] at h
  omega
theorem ing_t (h : (!(decide ((1 : Int) ≤ (n : Int)) && decide ((n : Int) ≤ 6))) = true) : ¬ GN n G := fun q => by
  have h1 := q.n1; have h6 := q.n6
  simp at h
  omega
theorem eq_of {i j : Nat} (h : (decide ((n : Int) ≤ (i : Int)) || decide ((n : Int) ≤ (j : Int))) = true) : ¬ (i < n ∧ j < n) := by
  simp only [Bool.or_eq_true, decide_eq_true_eq] at h
  omega
theorem eq_in {i j : Nat} (h : (decide ((n : Int) ≤ (i : Int)) || decide ((n : Int) ≤ (j : Int))) = false) : i < n ∧ j < n := by
  simp only [Bool.or_eq_false_iff, decide_eq_false_iff_not] at h
  omega
theorem entQ_o {i j : Nat} (h : ¬ (i < n ∧ j < n)) (h2 : G i j = 0) : entQ n G i j := by unfold entQ; rwa [if_neg h]
theorem entQ_on {i j : Nat} (h : ¬ (i < n ∧ j < n)) (h2 : G i j ≠ 0) : ¬ entQ n G i j := by unfold entQ; rwa [if_neg h]
theorem entQ_i {i j : Nat} (h : i < n ∧ j < n) (h2 : G i j < n) : entQ n G i j := by unfold entQ; rwa [if_pos h]
theorem entQ_in {i j : Nat} (h : i < n ∧ j < n) (h2 : n ≤ G i j) : ¬ entQ n G i j := by unfold entQ; rw [if_pos h]; omega
def GZ (n : Int) (G : Nat → Nat → Nat) : Prop := 0 ≤ n ∧ GN n.toNat G
noncomputable instance (n : Int) (G : Nat → Nat → Nat) : Decidable (GZ n G) := Classical.propDecidable _
theorem in_neg {n : Int} (h : n < 0) : (decide ((1 : Int) ≤ n) && decide (n ≤ 6)) = false := by rw [decide_eq_false (by omega)]; rfl
theorem GZ_N : GZ (n : Int) G ↔ GN n G := by unfold GZ; simp
theorem GZ_neg {n : Int} (h : n < 0) : ¬ GZ n G := fun q => by have := q.1; omega
theorem GZ_of {n : Int} (h : GZ n G) : ∃ m : Nat, n = (m : Int) ∧ GN m G := ⟨n.toNat, by have := h.1; omega, h.2⟩
theorem GN.gz (h : GN n G) : GZ (n : Int) G := GZ_N.2 h
theorem GN.wle (h : GN n G) (r : Nat) : clN n G (rpF n G r) ≤ 6 := Nat.le_trans (enN_le _ _) h.n6
theorem GN.cle (h : GN n G) : ccN n G ≤ 6 := Nat.le_trans (enN_le _ _) h.n6
theorem GN.e6 (h : GN n G) (i j : Nat) (hi : i < n) (hj : j < n) : G i j < 6 := by have := h.lt hi hj; have := h.n6; omega
theorem enN_mono {P : Nat → Bool} {i : Nat} : ∀ n, i ≤ n → enN P i ≤ enN P n
  | 0, h => by obtain rfl : i = 0 := by omega
               exact Nat.le_refl _
  | n + 1, h => by
    rcases Nat.lt_or_ge n i with h2 | h2
    · obtain rfl : i = n + 1 := by omega
      exact Nat.le_refl _
    · have := enN_mono (P := P) n h2
      show enN P i ≤ (if P n then enN P n + 1 else enN P n)
      split <;> omega
theorem en_at {P : Nat → Bool} {i : Nat} (hP : P i = true) : ∀ n, i < n → enN P i < enN P n ∧ enF P n (enN P i) = i
  | 0, h => absurd h (Nat.not_lt_zero _)
  | n + 1, h => by
    by_cases e : i = n
    · subst e
      rw [en_t hP]
      exact ⟨by omega, enF_t hP⟩
    · obtain ⟨h1, h2⟩ := en_at hP n (by omega)
      refine ⟨Nat.lt_of_lt_of_le h1 (enN_mono (n + 1) (by omega)), ?_⟩
      rw [enF_o h1]; exact h2
def gpN (G : Nat → Nat → Nat) (f : Nat → Nat) : Nat → Nat
  | 0 => 0
  | r + 1 => G (gpN G f r) (f r)
theorem GN.gp (h : GN n G) {f : Nat → Nat} {m : Nat} (hf : ∀ r, r < m → f r < n) : ∀ r, r ≤ m → gpN G f r < n
  | 0, _ => h.n1
  | r + 1, hr => h.lt (h.gp hf r (by omega)) (hf r (by omega))
def f3 (a b c : Nat) : Nat → Nat
  | 0 => a
  | 1 => b
  | 2 => c
  | _ => 0
def f2 (a b : Nat) : Nat → Nat
  | 0 => a
  | 1 => b
  | _ => 0
theorem GN.gp3 (h : GN n G) {i x : Nat} (hi : i < n) (hx : x < n) : gpN G (f3 x i (ivN n G x)) 3 = cj n G i x := by
  show G (G (G 0 x) i) (ivN n G x) = _
  rw [h.l hx]; rfl
theorem GN.gp2 (h : GN n G) {x y : Nat} (hx : x < n) : gpN G (f2 x y) 2 = G x y := by
  show G (G 0 x) y = _
  rw [h.l hx]
abbrev ccW (n : Nat) (G : Nat → Nat → Nat) (r : Nat) : Nat := clN n G (rpF n G r)
abbrev ccF (n : Nat) (G : Nat → Nat → Nat) (r z : Nat) : Int := ((clF n G (rpF n G r) z : Nat) : Int)
theorem mt_bools {V : Vw} {m : Nat} {f g : Nat → Bool} (h : ∀ z, z < m → g z = f z) : Mt V (.arr m (fun z => .bool (f z))) (.arr m (fun z => .bool (g z))) := ⟨rfl, fun z hz => congrArg AV.bool (h z hz)⟩
theorem met_t {i : Nat} (h : metF n G i i = true) (z : Nat) : metF n G (i + 1) z = metF n G i z := by
  show (if metF n G i i then metF n G i else fun j => metF n G i j || owF n G i n j) z = _
  rw [if_pos h]
theorem met_f {i : Nat} (h : metF n G i i = false) (z : Nat) : metF n G (i + 1) z = (metF n G i z || owF n G i n z) := by
  show (if metF n G i i then metF n G i else fun j => metF n G i j || owF n G i n j) z = _
  rw [if_neg (by simp [h])]
def metG (n : Nat) (G : Nat → Nat → Nat) (i j z : Nat) : Bool := metF n G i z || (decide (z < j) && owF n G i n z)
theorem metG_0 {i z : Nat} : metF n G i z = metG n G i 0 z := by unfold metG; simp
theorem GN.metG_n (h : GN n G) {i z : Nat} (hi : i < n) (hm : metF n G i i = false) : metG n G i n z = metF n G (i + 1) z := by
  rw [met_f hm]
  unfold metG
  cases ho : owF n G i n z with
  | false => simp
  | true => simp [h.own_lt hi ho]
def updB (f : Nat → Bool) (j : Nat) (b : Bool) (i : Nat) : Bool := if i = j then b else f i
theorem metG_t {i j : Nat} (ho : owF n G i n j = true) (z : Nat) : updB (metG n G i j) j true z = metG n G i (j + 1) z := by
  unfold updB metG
  by_cases e : z = j
  · subst e; simp [ho]
  · rw [if_neg e, decide_eq_decide.2 (show z < j ↔ z < j + 1 by omega)]
theorem metG_f {i j : Nat} (ho : owF n G i n j = false) (z : Nat) : metG n G i j z = metG n G i (j + 1) z := by
  unfold metG
  by_cases e : z = j
  · subst e; simp [ho]
  · rw [decide_eq_decide.2 (show z < j ↔ z < j + 1 by omega)]
theorem put_bools {m j : Nat} {f : Nat → Bool} {b : Bool} : put (.arr m (fun i => .bool (f i))) [j] (.bool b) = .arr m (fun i => .bool (updB f j b i)) := by
  simp only [put, AV.arr.injEq, true_and]
  funext i
  unfold updB
  by_cases h : i = j
  · subst h; simp [put]
  · simp [beq_ff h, h]
end
theorem nr_grp {n : Int} {G : Nat → Nat → Nat} : (grpA n G).noref := by
  intro i
  match i with
  | 0 => exact trivial
  | 1 => exact fun _ _ => trivial
  | n + 2 => exact trivial
theorem shift_grp {b : Nat} {n : Int} {G : Nat → Nat → Nat} : shift b (grpA n G) = grpA n G := grpF_congr rfl rfl (fun _ => rfl)
section
variable {P : Program} {T : TT} {all : Array Oper} {r : List Oper} {R : Env → OL → Prop} {ty : TypeId} {pos : String} {af : Array Edge} {x y : Operand} {t : TypeId} {env : Env} {ol : OL}
theorem w_stb {k i o j n : Nat} {sh root : AV} {f : Nat → Bool} {z : Bool} (hx : evE env x = .ptr k i [j] o root) (hy : evE env y = .bool z) (hk : (T.und t).known = true) (ho : ol.at_ k i = some (sh, .arr n (fun i => .bool (f i)))) (hs : ssh (sub root [j]) (.bool z)) (hz : 1 = T.sz t)
    (hr : WOps P T all r env (ol.set k i (some (sh, .arr n (fun i => .bool (updB f j z i))))) R) : WOps P T all (⟨none, .store t x y, ty, pos, af, none⟩ :: r) env ol R :=
  w_store hx hy hk ho trivial hs hz (by rw [put_bools]) hr
end
end Go.Am

set_option linter.unusedVariables false
set_option linter.unusedSimpArgs false
namespace Go.Am
theorem w_cnt {x : Nat} {p : Int} (hp : 0 < p ∧ p ≤ 13) : IntKind.u8.wrap (((x : Nat) : Int).tmod p) = ((x : Nat) : Int) % p := by
  rw [Int.tmod_eq_emod_of_nonneg (by omega)]
  have h1 := Int.emod_nonneg (x : Int) (show p ≠ 0 by omega)
  have h2 := Int.emod_lt_of_pos (x : Int) hp.1
  exact w8 h1 (by omega)
section
variable {n : Nat} {G : Nat → Nat → Nat}
def cyN (G : Nat → Nat → Nat) (h x : Nat) (D : Nat → Nat) : Nat → Nat
  | 0 => 0
  | y + 1 => if G x (D y) = h then cyN G h x D y + 1 else cyN G h x D y
theorem cy_t {h x y : Nat} {D : Nat → Nat} (e : G x (D y) = h) : cyN G h x D (y + 1) = cyN G h x D y + 1 := if_pos e
theorem cy_f {h x y : Nat} {D : Nat → Nat} (e : G x (D y) ≠ h) : cyN G h x D (y + 1) = cyN G h x D y := if_neg e
theorem cy_le (h x : Nat) (D : Nat → Nat) : ∀ y, cyN G h x D y ≤ y
  | 0 => Nat.le_refl _
  | y + 1 => by
    have := cy_le h x D y
    show (if G x (D y) = h then cyN G h x D y + 1 else cyN G h x D y) ≤ y + 1
    split <;> omega
def cxN (G : Nat → Nat → Nat) (h : Nat) (C D : Nat → Nat) (m : Nat) : Nat → Nat
  | 0 => 0
  | x + 1 => cxN G h C D m x + cyN G h (C x) D m
theorem cx_le (h : Nat) (C D : Nat → Nat) (m : Nat) : ∀ x, cxN G h C D m x ≤ x * m
  | 0 => Nat.zero_le _
  | x + 1 => by
    have h1 := cx_le h C D m x
    have h2 := cy_le (G := G) h (C x) D m
    show cxN G h C D m x + cyN G h (C x) D m ≤ (x + 1) * m
    rw [Nat.succ_mul]; omega
abbrev ccC (n : Nat) (G : Nat → Nat → Nat) (r : Nat) : Nat → Nat := clF n G (rpF n G r)
def caN (n : Nat) (G : Nat → Nat → Nat) (i j k x : Nat) : Nat := cxN G (rpF n G k) (ccC n G i) (ccC n G j) (ccW n G j) x
def caT (p : Int) (n : Nat) (G : Nat → Nat → Nat) : T3 := fun i j k => ((caN n G i j k (ccW n G i) : Nat) : Int) % p
theorem GN.ccC_lt (h : GN n G) {r z : Nat} (hr : r < ccN n G) (hz : z < ccW n G r) : ccC n G r z < n := (enF_in (P := owF n G (rpF n G r) n) n z hz).1
theorem GN.ca_le (h : GN n G) {i j k x : Nat} (hx : x ≤ ccW n G i) : caN n G i j k x ≤ 36 := by
  have h1 := cx_le (G := G) (rpF n G k) (ccC n G i) (ccC n G j) (ccW n G j) x
  have h2 : x * ccW n G j ≤ 6 * 6 := Nat.mul_le_mul (Nat.le_trans hx (h.wle i)) (h.wle j)
  show cxN G (rpF n G k) (ccC n G i) (ccC n G j) (ccW n G j) x ≤ 36
  omega
end
end Go.Am

set_option linter.unusedVariables false
set_option linter.unusedSimpArgs false
namespace Go.Am
def dskF (A v w : AV) (s : ByteArray) : Nat → AV
  | 0 => A
  | 1 => v
  | 2 => w
  | 3 => .strg s
  | _ => .any
abbrev dskA (p n : Int) (T : T3) (fo v w : Nat → Int) (s : ByteArray) : AV := .sct 4 (dskF (algA p n T fo) (vecA v) (vecA w) s)
section
variable {p n p' n' : Int} {T T' : T3} {fo fo' v v' w w' : Nat → Int} {s s' : ByteArray} {V : Vw}
theorem ssh_dsk : ssh (dskA p n T fo v w s) (dskA p' n' T' fo' v' w' s') := by
  refine ⟨rfl, fun i => ?_⟩
  match i with
  | 0 => exact ssh_alg
  | 1 => exact ssh_vec
  | 2 => exact ssh_vec
  | 3 => exact trivial
  | n + 4 => exact trivial
variable {at_ : Nat → Nat → Option (AV × AV)} {d : Nat}
end
end Go.Am

