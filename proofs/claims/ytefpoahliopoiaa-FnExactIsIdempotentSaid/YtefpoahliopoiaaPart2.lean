/- Part 2 of what the law stands on: abstract values, their walk, contracts of functions. My own work. Conditions: none. -/
import Derived.Test.YtefpoahliopoiaaPart1
import Derived.WalkKit
import Derived.ProofKit
import Derived.OpenShut
import Derived.ShutString
import Derived.ChangeOld
import Derived.Below
/- Reduced rows: what both algorithms keep, and that there is one list of reduced rows alone for a space of solutions. My own work. -/
set_option linter.unusedVariables false
set_option linter.unusedSimpArgs false
namespace Go.Am

theorem sumZ_zero : ∀ m, sumZ (fun _ => 0) m = 0
  | 0 => rfl
  | m + 1 => by simp only [sumZ, sumZ_zero m]; rfl
def dot (m : Nat) (f x : Nat → Int) : Int := sumZ (fun j => f j * x j) m
theorem dot_sub (f g x : Nat → Int) (k : Int) : ∀ m, dot m (fun j => f j - k * g j) x = dot m f x - k * dot m g x
  | 0 => by simp [dot, sumZ]
  | m + 1 => by
    have h := dot_sub f g x k m
    simp only [dot, sumZ] at h ⊢
    rw [h, Int.sub_mul, Int.mul_add, Int.mul_assoc]; omega
theorem dot_mul (f x : Nat → Int) (k : Int) : ∀ m, dot m (fun j => f j * k) x = k * dot m f x
  | 0 => by simp [dot, sumZ]
  | m + 1 => by
    have h := dot_mul f x k m
    simp only [dot, sumZ] at h ⊢
    rw [h, Int.mul_add, Int.mul_comm (f m) k, Int.mul_assoc]
theorem dot_dvd {p : Int} {f g : Nat → Int} (x : Nat → Int) : ∀ m, (∀ j, j < m → p ∣ f j - g j) → p ∣ dot m f x - dot m g x
  | 0, _ => by simp [dot, sumZ]
  | m + 1, h => by
    have h1 := dot_dvd x m (fun j hj => h j (by omega))
    have h2 := Int.dvd_mul_of_dvd_left (h m (by omega)) (c := x m)
    simp only [dot, sumZ] at h1 ⊢
    have := Int.dvd_add h1 h2
    rw [Int.sub_mul] at this
    rwa [show ∀ a b c d : Int, a + c - (b + d) = a - b + (c - d) by intros; omega]
theorem dvd_mod (p a : Int) : p ∣ a % p - a := by
  have := Int.emod_add_mul_ediv a p
  exact ⟨-(a / p), by rw [Int.mul_neg]; omega⟩
theorem dot_less {p : Int} (f g : Nat → Int) (k : Int) (x : Nat → Int) (m : Nat) : p ∣ dot m (lessF p f g k) x - (dot m f x - k * dot m g x) := by
  rw [← dot_sub]
  exact dot_dvd x m (fun j _ => dvd_mod p _)
theorem dot_scaled {p : Int} (f : Nat → Int) (k : Int) (x : Nat → Int) (m : Nat) : p ∣ dot m (scaledF p f k) x - k * dot m f x := by
  rw [← dot_mul]
  exact dot_dvd x m (fun j _ => dvd_mod p _)

/-- Row f asks nothing of x beyond what it grants. -/
def Z (p : Int) (m : Nat) (f x : Nat → Int) : Prop := p ∣ dot m f x
theorem Z_less {p : Int} {m : Nat} {f g x : Nat → Int} {k : Int} (hg : Z p m g x) : Z p m (lessF p f g k) x ↔ Z p m f x := by
  have h := dot_less (p := p) f g k x m
  have hk : p ∣ k * dot m g x := Int.dvd_mul_of_dvd_right hg
  unfold Z
  constructor
  · intro h1
    have h2 := Int.dvd_sub h1 h
    rw [show dot m (lessF p f g k) x - (dot m (lessF p f g k) x - (dot m f x - k * dot m g x)) = dot m f x - k * dot m g x by omega] at h2
    have h3 := Int.dvd_add h2 hk
    rwa [show dot m f x - k * dot m g x + k * dot m g x = dot m f x by omega] at h3
  · intro h1
    have h2 := Int.dvd_add h (Int.dvd_sub h1 hk)
    rwa [show dot m (lessF p f g k) x - (dot m f x - k * dot m g x) + (dot m f x - k * dot m g x) = dot m (lessF p f g k) x by omega] at h2
theorem Z_scaled {p : Int} {m : Nat} {f x : Nat → Int} {k q : Int} (hk : p ∣ k * q - 1) : Z p m (scaledF p f k) x ↔ Z p m f x := by
  have h := dot_scaled (p := p) f k x m
  unfold Z
  constructor
  · intro h1
    have h2 := Int.dvd_sub h1 h
    rw [show dot m (scaledF p f k) x - (dot m (scaledF p f k) x - k * dot m f x) = k * dot m f x by omega] at h2
    have h3 : p ∣ q * (k * dot m f x) := Int.dvd_mul_of_dvd_right h2
    have h4 : p ∣ (k * q - 1) * dot m f x := Int.dvd_mul_of_dvd_left hk
    have h5 := Int.dvd_sub h3 h4
    rwa [show q * (k * dot m f x) - (k * q - 1) * dot m f x = dot m f x by rw [Int.sub_mul, ← Int.mul_assoc, Int.mul_comm q k]; omega] at h5
  · intro h1
    have h2 : p ∣ k * dot m f x := Int.dvd_mul_of_dvd_right h1
    have h3 := Int.dvd_add h h2
    rwa [show dot m (scaledF p f k) x - k * dot m f x + k * dot m f x = dot m (scaledF p f k) x by omega] at h3
theorem inv_dvd {p x : Int} (hp : primeB p = true) (hx : 0 < x) (hx2 : x < p) : p ∣ invF p x * x - 1 := by
  have := (inv_ok hp hx hx2).2
  have h2 := dvd_mod p (invF p x * x)
  rw [this] at h2
  obtain ⟨c, hc⟩ := h2
  exact ⟨-c, by rw [Int.mul_neg]; omega⟩

/-- Rows within bounds. -/
def Bp (p : Int) (f : Nat → Int) : Prop := ∀ j, 0 ≤ f j ∧ f j < p
theorem less_Bp {p : Int} (hp : 0 < p) (f g : Nat → Int) (k : Int) : Bp p (lessF p f g k) := fun j => ⟨Int.emod_nonneg _ (by omega), Int.emod_lt_of_pos _ hp⟩
theorem scaled_Bp {p : Int} (hp : 0 < p) (f : Nat → Int) (k : Int) : Bp p (scaledF p f k) := fun j => ⟨Int.emod_nonneg _ (by omega), Int.emod_lt_of_pos _ hp⟩
theorem less_zero {p : Int} {f g : Nat → Int} {k : Int} {j : Nat} (hf : Bp p f) (hg : g j = 0) : lessF p f g k j = f j := by
  unfold lessF
  rw [hg, Int.mul_zero, Int.sub_zero]
  exact Int.emod_eq_of_lt (hf j).1 (hf j).2
theorem less_self {p : Int} {f g : Nat → Int} {j : Nat} (hg : g j = 1) : lessF p f g (f j) j = 0 := by
  unfold lessF
  rw [hg, Int.mul_one, Int.sub_self]; rfl
theorem scaled_zero {p : Int} {f : Nat → Int} {k : Int} {j : Nat} (hf : f j = 0) : scaledF p f k j = 0 := by
  unfold scaledF; rw [hf, Int.zero_mul]; rfl
theorem scaled_lead {p : Int} (hp : primeB p = true) {f : Nat → Int} {j : Nat} (h0 : 0 < f j) (h1 : f j < p) : scaledF p f (invF p (f j)) j = 1 := by
  unfold scaledF
  rw [Int.mul_comm]
  exact (inv_ok hp h0 h1).2

/-- Row f begins at place l, with a 1. -/
def Lead (m : Nat) (f : Nat → Int) (l : Nat) : Prop := l < m ∧ f l = 1 ∧ ∀ j, j < l → f j = 0

/-- Reduced rows. -/
structure Rref (p : Int) (m n : Nat) (O : Nat → Nat → Int) (l : Nat → Nat) : Prop where
  bp : ∀ i, i < n → Bp p (O i)
  lead : ∀ i, i < n → Lead m (O i) (l i)
  off : ∀ i j, i < n → j < n → i ≠ j → O j (l i) = 0
  inc : ∀ i j, i < j → j < n → l i < l j

def Null (p : Int) (m n : Nat) (R : Nat → Nat → Int) (x : Nat → Int) : Prop := ∀ i, i < n → Z p m (R i) x

/-! ### reduce -/
structure RInv (p : Int) (m c : Nat) (s : RS) (l : Nat → Nat) : Prop where
  bl : ∀ i, i < s.nl → Bp p (s.L i)
  zl : ∀ i, i < s.nl → ∀ j, j < c → s.L i j = 0
  rr : Rref p m s.no s.O l
  lc : ∀ i, i < s.no → l i < c

theorem redHit_inv {p : Int} (hp : primeB p = true) {m c : Nat} (hc : c < m) {s : RS} {l : Nat → Nat} (h : RInv p m c s l) {k : Nat} (hk : k < s.nl) (h0 : s.L k c ≠ 0) :
    RInv p m (c + 1) (redHit p c s k) (fun i => if i = s.no then c else l i) ∧ ∀ x, (Null p m (redHit p c s k).nl (redHit p c s k).L x ∧ Null p m (redHit p c s k).no (redHit p c s k).O x) ↔ (Null p m s.nl s.L x ∧ Null p m s.no s.O x) := by
  have hpb := primeB_bd hp
  have hkp : 0 < s.L k c ∧ s.L k c < p := by have := h.bl k hk c; omega
  have hpc : scaledF p (s.L k) (invF p (s.L k c)) c = 1 := scaled_lead hp hkp.1 hkp.2
  have hpz : ∀ j, j < c → scaledF p (s.L k) (invF p (s.L k c)) j = 0 := fun j hj => scaled_zero (h.zl k hk j hj)
  have hpB : Bp p (scaledF p (s.L k) (invF p (s.L k c))) := scaled_Bp (by omega) _ _
  have hcut : ∀ i, i < s.nl - 1 → ∃ i', i' < s.nl ∧ i' ≠ k ∧ cutR s.L k i = s.L i' := by
    intro i hi
    unfold cutR
    by_cases hik : i < k
    · exact ⟨i, by omega, by omega, by rw [if_pos hik]⟩
    · exact ⟨i + 1, by omega, by omega, by rw [if_neg hik]⟩
  have hcut2 : ∀ i', i' < s.nl → i' ≠ k → ∃ i, i < s.nl - 1 ∧ cutR s.L k i = s.L i' := by
    intro i' hi' hne
    unfold cutR
    by_cases hik : i' < k
    · exact ⟨i', by omega, by rw [if_pos hik]⟩
    · exact ⟨i' - 1, by omega, by rw [if_neg (by omega)]; congr 1; omega⟩
  generalize hpv : scaledF p (s.L k) (invF p (s.L k c)) = piv at hpc hpz hpB
  have hOn : (redHit p c s k).O s.no = piv := by simp [redHit, hpv]
  have hOo : ∀ i, i ≠ s.no → (redHit p c s k).O i = lessF p (s.O i) piv (s.O i c) := fun i hi => by simp [redHit, hi, hpv]
  have hL : ∀ i, (redHit p c s k).L i = lessF p (cutR s.L k i) piv (cutR s.L k i c) := fun i => by simp [redHit, hpv]
  refine ⟨⟨fun i hi => ?_, fun i hi j hj => ?_, ⟨fun i hi => ?_, fun i hi => ?_, fun i j hi hj hne => ?_, fun i j hij hj => ?_⟩, fun i hi => ?_⟩, fun x => ?_⟩
  · rw [hL]; exact less_Bp (by omega) _ _ _
  · obtain ⟨i', h1, h2, h3⟩ := hcut i hi
    rw [hL, h3]
    by_cases hjc : j = c
    · subst hjc; exact less_self hpc
    · rw [less_zero (h.bl i' h1) (hpz j (by omega))]; exact h.zl i' h1 j (by omega)
  · by_cases hin : i = s.no
    · rw [hin, hOn]; exact hpB
    · rw [hOo i hin]; exact less_Bp (by omega) _ _ _
  · show Lead m _ (if i = s.no then c else l i)
    by_cases hin : i = s.no
    · rw [if_pos hin, hin, hOn]; exact ⟨hc, hpc, hpz⟩
    · rw [if_neg hin, hOo i hin]
      have hi' : i < s.no := by have : i < s.no + 1 := hi; omega
      obtain ⟨q1, q2, q3⟩ := h.rr.lead i hi'
      have := h.lc i hi'
      refine ⟨q1, ?_, fun j hj => ?_⟩
      · rw [less_zero (h.rr.bp i hi') (hpz _ this)]; exact q2
      · rw [less_zero (h.rr.bp i hi') (hpz _ (by omega))]; exact q3 j hj
  · have hi1 : i < s.no + 1 := hi
    have hj1 : j < s.no + 1 := hj
    show (redHit p c s k).O j (if i = s.no then c else l i) = 0
    by_cases hin : i = s.no
    · rw [if_pos hin, hOo j (by omega)]
      exact less_self hpc
    · rw [if_neg hin]
      have hl := h.lc i (by omega)
      by_cases hjn : j = s.no
      · rw [hjn, hOn]; exact hpz _ hl
      · rw [hOo j hjn, less_zero (h.rr.bp j (by omega)) (hpz _ hl)]
        exact h.rr.off i j (by omega) (by omega) hne
  · have hj1 : j < s.no + 1 := hj
    show (if i = s.no then c else l i) < (if j = s.no then c else l j)
    rw [if_neg (show ¬ i = s.no by omega)]
    by_cases hjn : j = s.no
    · rw [if_pos hjn]; exact h.lc i (by omega)
    · rw [if_neg hjn]; exact h.rr.inc i j hij (by omega)
  · have hi1 : i < s.no + 1 := hi
    show (if i = s.no then c else l i) < c + 1
    split
    · omega
    · have := h.lc i (by omega); omega
  · have hinv : Z p m piv x ↔ Z p m (s.L k) x := by
      rw [← hpv]
      exact Z_scaled (q := s.L k c) (inv_dvd hp hkp.1 hkp.2)
    constructor
    · rintro ⟨h1, h2⟩
      have hz : Z p m piv x := by have := h2 s.no (show s.no < s.no + 1 by omega); rwa [hOn] at this
      refine ⟨fun i' hi' => ?_, fun i hi => ?_⟩
      · by_cases hik : i' = k
        · subst hik; exact hinv.1 hz
        · obtain ⟨i, h3, h4⟩ := hcut2 i' hi' hik
          have := h1 i h3
          rw [hL, h4] at this
          exact (Z_less hz).1 this
      · have := h2 i (show i < s.no + 1 by omega)
        rw [hOo i (by omega)] at this
        exact (Z_less hz).1 this
    · rintro ⟨h1, h2⟩
      have hz : Z p m piv x := hinv.2 (h1 k hk)
      refine ⟨fun i hi => ?_, fun i hi => ?_⟩
      · obtain ⟨i', h3, _, h4⟩ := hcut i hi
        rw [hL, h4]
        exact (Z_less hz).2 (h1 i' h3)
      · have hi1 : i < s.no + 1 := hi
        by_cases hin : i = s.no
        · rw [hin, hOn]; exact hz
        · rw [hOo i hin]; exact (Z_less hz).2 (h2 i (by omega))

theorem red_inv {p : Int} (hp : primeB p = true) {m n : Nat} {R : Nat → Nat → Int} (hR : ∀ i, i < n → Bp p (R i)) : ∀ c, c ≤ m →
    (∃ l, RInv p m c (redGo p n R c) l) ∧ ∀ x, (Null p m (redGo p n R c).nl (redGo p n R c).L x ∧ Null p m (redGo p n R c).no (redGo p n R c).O x) ↔ Null p m n R x
  | 0, _ => ⟨⟨fun _ => 0, ⟨hR, fun i _ j hj => by omega, ⟨fun i hi => absurd hi (Nat.not_lt_zero _), fun i hi => absurd hi (Nat.not_lt_zero _), fun i j hi => absurd hi (Nat.not_lt_zero _), fun i j _ hj => absurd hj (Nat.not_lt_zero _)⟩, fun i hi => absurd hi (Nat.not_lt_zero _)⟩⟩,
      fun x => ⟨fun h => h.1, fun h => ⟨h, fun i hi => absurd hi (Nat.not_lt_zero _)⟩⟩⟩
  | c + 1, hc => by
    obtain ⟨⟨l, h1⟩, h2⟩ := red_inv (m := m) hp hR c (by omega)
    rcases idx_cases (fun i => decide ((redGo p n R c).L i c ≠ 0)) (redGo p n R c).nl with ⟨k, hk, hP, _, he⟩ | ⟨hn, he⟩
    · rw [red_hit he]
      obtain ⟨q1, q2⟩ := redHit_inv hp (show c < m by omega) h1 hk (by simpa using hP)
      exact ⟨⟨_, q1⟩, fun x => (q2 x).trans (h2 x)⟩
    · rw [red_miss (by rw [he]; omega)]
      refine ⟨⟨l, h1.bl, fun i hi j hj => ?_, h1.rr, fun i hi => by have := h1.lc i hi; omega⟩, h2⟩
      by_cases hjc : j = c
      · subst hjc; have := hn i hi; simpa using this
      · exact h1.zl i hi j (by omega)

/-- What reduce gives. -/
theorem red_ok {p : Int} (hp : primeB p = true) {m n : Nat} {R : Nat → Nat → Int} (hR : ∀ i, i < n → Bp p (R i)) :
    (∃ l, Rref p m (redGo p n R m).no (redGo p n R m).O l) ∧ ∀ x, Null p m (redGo p n R m).no (redGo p n R m).O x ↔ Null p m n R x := by
  obtain ⟨⟨l, h1⟩, h2⟩ := red_inv hp hR m (Nat.le_refl _)
  refine ⟨⟨l, h1.rr⟩, fun x => ?_⟩
  rw [← h2 x]
  refine ⟨fun h => ⟨fun i hi => ?_, h⟩, fun h => h.2⟩
  have : dot m ((redGo p n R m).L i) x = 0 := by
    unfold dot
    rw [sumZ_congr (g := fun _ => 0) m (fun j hj => by rw [h1.zl i hi j hj, Int.zero_mul])]
    exact sumZ_zero m
  unfold Z
  rw [this]; exact Int.dvd_zero p

/-! ### There is but one -/
theorem dot_one {f x : Nat → Int} {l : Nat} : ∀ m, l < m → (∀ j, j < m → j ≠ l → f j * x j = 0) → dot m f x = f l * x l
  | 0, h, _ => absurd h (Nat.not_lt_zero _)
  | m + 1, h, hz => by
    by_cases hl : l = m
    · subst hl
      simp only [dot, sumZ]
      rw [sumZ_congr (g := fun _ => 0) l (fun j hj => hz j (by omega) (by omega)), sumZ_zero]; omega
    · have := dot_one m (show l < m by omega) (fun j hj hne => hz j (by omega) hne)
      simp only [dot, sumZ] at this ⊢
      rw [this, hz m (by omega) (Ne.symm hl)]; omega
theorem dot_two {f x : Nat → Int} {l c : Nat} (hlc : l ≠ c) : ∀ m, l < m → c < m → (∀ j, j < m → j ≠ l → j ≠ c → f j * x j = 0) → dot m f x = f l * x l + f c * x c
  | 0, h, _, _ => absurd h (Nat.not_lt_zero _)
  | m + 1, h1, h2, hz => by
    by_cases hl : l = m
    · subst hl
      have := dot_one (f := f) (x := x) (l := c) l (by omega) (fun j hj hne => hz j (by omega) (by omega) hne)
      simp only [dot, sumZ] at this ⊢
      rw [this]; omega
    · by_cases hc : c = m
      · subst hc
        have := dot_one (f := f) (x := x) (l := l) c (by omega) (fun j hj hne => hz j (by omega) hne (by omega))
        simp only [dot, sumZ] at this ⊢
        rw [this]
      · have := dot_two hlc m (show l < m by omega) (show c < m by omega) (fun j hj h3 h4 => hz j (by omega) h3 h4)
        simp only [dot, sumZ] at this ⊢
        rw [this, hz m (by omega) (Ne.symm hl) (Ne.symm hc)]; omega

/-- Is c a place where a row begins? -/
def IsL (n : Nat) (l : Nat → Nat) (c : Nat) : Prop := ∃ i, i < n ∧ l i = c
noncomputable instance (n : Nat) (l : Nat → Nat) (c : Nat) : Decidable (IsL n l c) := Classical.propDecidable _

/-- The solution that has 1 at c, no place where a row begins. -/
noncomputable def solC (n : Nat) (O : Nat → Nat → Int) (l : Nat → Nat) (c : Nat) : Nat → Int := fun j =>
  if j = c then 1 else if h : ∃ i, i < n ∧ l i = j then - O h.choose c else 0
theorem solC_self (n : Nat) (O : Nat → Nat → Int) (l : Nat → Nat) (c : Nat) : solC n O l c c = 1 := by simp [solC]
theorem solC_lead {p : Int} {m n : Nat} {O : Nat → Nat → Int} {l : Nat → Nat} (h : Rref p m n O l) {c : Nat} (hc : ¬ IsL n l c) {i : Nat} (hi : i < n) : solC n O l c (l i) = - O i c := by
  have hne : l i ≠ c := fun e => hc ⟨i, hi, e⟩
  have hex : ∃ i', i' < n ∧ l i' = l i := ⟨i, hi, rfl⟩
  unfold solC
  rw [if_neg hne, dif_pos hex]
  have h2 := hex.choose_spec
  have : hex.choose = i := by
    rcases Nat.lt_trichotomy hex.choose i with h3 | h3 | h3
    · have := h.inc _ _ h3 hi; omega
    · exact h3
    · have := h.inc _ _ h3 h2.1; omega
  rw [this]
theorem solC_off (n : Nat) (O : Nat → Nat → Int) (l : Nat → Nat) {c j : Nat} (hj : j ≠ c) (hl : ¬ IsL n l j) : solC n O l c j = 0 := by
  unfold solC
  rw [if_neg hj, dif_neg (show ¬ ∃ i, i < n ∧ l i = j from hl)]
theorem solC_null {p : Int} {m n : Nat} {O : Nat → Nat → Int} {l : Nat → Nat} (h : Rref p m n O l) {c : Nat} (hcm : c < m) (hc : ¬ IsL n l c) : Null p m n O (solC n O l c) := by
  intro i hi
  obtain ⟨q1, q2, q3⟩ := h.lead i hi
  have hne : l i ≠ c := fun e => hc ⟨i, hi, e⟩
  have : dot m (O i) (solC n O l c) = 0 := by
    rw [dot_two hne m q1 hcm (fun j hj h1 h2 => ?_), q2, solC_lead h hc hi, solC_self]
    · omega
    · by_cases hl : IsL n l j
      · obtain ⟨i', hi', rfl⟩ := hl
        rw [h.off i' i hi' hi (fun e => h1 (by rw [e])), Int.zero_mul]
      · rw [solC_off n O l h2 hl, Int.mul_zero]
  unfold Z
  rw [this]; exact Int.dvd_zero p

/-- A row that begins at c says what stands at c. -/
theorem null_lead {p : Int} {m n : Nat} {O : Nat → Nat → Int} {l : Nat → Nat} (h : Rref p m n O l) {x : Nat → Int} (hx : Null p m n O x) {i : Nat} (hi : i < n) (hz : ∀ j, j < m → j ≠ l i → O i j * x j = 0) : p ∣ x (l i) := by
  have := hx i hi
  obtain ⟨q1, q2, q3⟩ := h.lead i hi
  unfold Z at this
  rw [dot_one m q1 hz, q2, Int.one_mul] at this
  exact this

theorem leads_sub {p : Int} (hp : 1 < p) {m n n' : Nat} {O O' : Nat → Nat → Int} {l l' : Nat → Nat} (h : Rref p m n O l) (h' : Rref p m n' O' l') (hN : ∀ x, Null p m n O x → Null p m n' O' x) {c : Nat} (hc : c < m) (h1 : IsL n' l' c) : IsL n l c := by
  apply Classical.byContradiction
  intro hn
  obtain ⟨i', hi', rfl⟩ := h1
  have hx := hN _ (solC_null h hc hn)
  obtain ⟨q1, q2, q3⟩ := h'.lead i' hi'
  -- the solution stands at places up to c alone
  have hsup : ∀ j, j < m → j ≠ l' i' → O' i' j * solC n O l (l' i') j = 0 := by
    intro j hj hne
    by_cases hlt : j < l' i'
    · rw [q3 j hlt, Int.zero_mul]
    · by_cases hl : IsL n l j
      · obtain ⟨i, hi, rfl⟩ := hl
        rw [solC_lead h hn hi, (h.lead i hi).2.2 (l' i') (by omega)]; simp
      · rw [solC_off n O l hne hl, Int.mul_zero]
  have := null_lead h' hx hi' hsup
  rw [solC_self] at this
  have := Int.le_of_dvd (by omega) this
  omega

theorem inc_eq {n n' : Nat} {l l' : Nat → Nat} (h : ∀ i j, i < j → j < n → l i < l j) (h' : ∀ i j, i < j → j < n' → l' i < l' j) (h1 : ∀ i, i < n → IsL n' l' (l i)) (h2 : ∀ i, i < n' → IsL n l (l' i)) :
    n = n' ∧ ∀ i, i < n → l i = l' i := by
  have key : ∀ {n n' : Nat} {l l' : Nat → Nat}, (∀ i j, i < j → j < n → l i < l j) → (∀ i j, i < j → j < n' → l' i < l' j) → (∀ i, i < n → IsL n' l' (l i)) → (∀ i, i < n' → IsL n l (l' i)) → ∀ i, i < n → i < n' ∧ l i = l' i := by
    intro n n' l l' h h' h1 h2 i
    induction i using Nat.strongRecOn with
    | _ i ih =>
      intro hi
      obtain ⟨j, hj, e⟩ := h1 i hi
      have hij : i ≤ j := by
        apply Nat.le_of_not_lt
        intro hlt
        have := (ih j hlt (by omega)).2
        have h3 := h j i hlt hi
        omega
      have hi' : i < n' := by omega
      refine ⟨hi', ?_⟩
      by_cases hE : j = i
      · rw [← e, hE]
      · obtain ⟨k, hk, e2⟩ := h2 i hi'
        have h3 := h' i j (by omega) hj
        have hki : k < i := by
          apply Nat.lt_of_not_le
          intro hle
          rcases Nat.lt_or_eq_of_le hle with h4 | h4
          · have := h i k h4 hk; omega
          · rw [← h4] at e2; omega
        have h5 := (ih k hki (by omega)).2
        have h6 := h' k i hki hi'
        omega
  have k1 := key h h' h1 h2
  have k2 := key h' h h2 h1
  refine ⟨?_, fun i hi => (k1 i hi).2⟩
  apply Nat.le_antisymm
  · apply Nat.le_of_not_lt
    intro hlt
    have := (k1 n' hlt).1
    omega
  · apply Nat.le_of_not_lt
    intro hlt
    have := (k2 n hlt).1
    omega

theorem rref_unique {p : Int} (hp : 1 < p) {m n n' : Nat} {O O' : Nat → Nat → Int} {l l' : Nat → Nat} (h : Rref p m n O l) (h' : Rref p m n' O' l') (hN : ∀ x, Null p m n O x ↔ Null p m n' O' x) :
    n = n' ∧ ∀ i, i < n → ∀ j, j < m → O i j = O' i j := by
  obtain ⟨hn, hl⟩ := inc_eq h.inc h'.inc (fun i hi => leads_sub hp h' h (fun x hx => (hN x).2 hx) (h.lead i hi).1 ⟨i, hi, rfl⟩) (fun i hi => leads_sub hp h h' (fun x hx => (hN x).1 hx) (h'.lead i hi).1 ⟨i, hi, rfl⟩)
  subst hn
  refine ⟨rfl, fun i hi c hc => ?_⟩
  by_cases hL : IsL n l c
  · obtain ⟨i2, hi2, rfl⟩ := hL
    by_cases hii : i2 = i
    · subst hii
      rw [(h.lead i2 hi2).2.1, hl i2 hi2, (h'.lead i2 hi2).2.1]
    · rw [h.off i2 i hi2 hi hii, hl i2 hi2, h'.off i2 i hi2 hi hii]
  · -- the solution for c in the other rows
    have hx := (hN _).1 (solC_null h hc hL) i hi
    obtain ⟨q1, q2, q3⟩ := h'.lead i hi
    have hne : l' i ≠ c := fun e => hL ⟨i, hi, (hl i hi).trans e⟩
    unfold Z at hx
    rw [dot_two hne m q1 hc (fun j hj h1 h2 => ?_), q2, ← hl i hi, solC_lead h hL hi, solC_self] at hx
    · have b1 := h.bp i hi c
      have b2 := h'.bp i hi c
      obtain ⟨q, hq⟩ := hx
      have : O' i c - O i c = p * q := by omega
      have hq0 : q = 0 := by
        rcases Int.lt_trichotomy q 0 with h3 | h3 | h3
        · have := Int.mul_le_mul_of_nonneg_left (show q ≤ -1 by omega) (show 0 ≤ p by omega)
          omega
        · exact h3
        · have := Int.mul_le_mul_of_nonneg_left (show 1 ≤ q by omega) (show 0 ≤ p by omega)
          omega
      rw [hq0] at this
      omega
    · by_cases hl2 : IsL n l j
      · obtain ⟨i2, hi2, rfl⟩ := hl2
        rw [hl i2 hi2, h'.off i2 i hi2 hi (fun e => h1 (by rw [hl i2 hi2, e])), Int.zero_mul]
      · rw [solC_off n O l h2 hl2, Int.mul_zero]
end Go.Am
/- The reference's way to reduced rows: row by row. My own work. -/
set_option linter.unusedVariables false
set_option linter.unusedSimpArgs false
namespace Go.Am

def leadB (f : Nat → Int) : Nat → Bool := fun i => decide (f i ≠ 0)
def leadN (m : Nat) (f : Nat → Int) : Nat := (idxF (leadB f) m).toNat
theorem lead_idx {m : Nat} {f : Nat → Int} {l : Nat} (h : Lead m f l) : idxF (leadB f) m = l :=
  idx_at h.1 (by simp [leadB, h.2.1]) (fun j hj => by simp [leadB, h.2.2 j hj])
theorem leadN_of {m : Nat} {f : Nat → Int} {l : Nat} (h : Lead m f l) : leadN m f = l := by unfold leadN; rw [lead_idx h]; simp

def byGo (p : Int) (m : Nat) (O : Nat → Nat → Int) (own : Nat → Int) : Nat → Nat → Int
  | 0 => own
  | k + 1 => lessF p (byGo p m O own k) (O k) (byGo p m O own k (leadN m (O k)))
def insG {α : Type} (pos : Nat) (v : α) (F : Nat → α) (j : Nat) : α := if j < pos then F j else if j = pos then v else F (j - 1)
structure ES where
  no : Nat
  O : Nat → Nat → Int
def posN (m : Nat) (O : Nat → Nat → Int) (no at_ : Nat) : Nat := if idxF (fun k => decide (at_ < leadN m (O k))) no < 0 then no else (idxF (fun k => decide (at_ < leadN m (O k))) no).toNat
/-- A row's own part with a 1 at its head. -/
def ownF (p : Int) (m : Nat) (f : Nat → Int) : Nat → Int := scaledF p f (invF p (f (leadN m f)))
def restF (p : Int) (O : Nat → Nat → Int) (own : Nat → Int) (at_ : Nat) (j : Nat) : Nat → Int := lessF p (O j) own (O j at_)
def echHit (p : Int) (m : Nat) (s : ES) (f : Nat → Int) : ES :=
  ⟨s.no + 1, insG (posN m s.O s.no (leadN m f)) (ownF p m f) (restF p s.O (ownF p m f) (leadN m f))⟩
def echStep (p : Int) (m : Nat) (s : ES) (row : Nat → Int) : ES :=
  if idxF (leadB (byGo p m s.O row s.no)) m < 0 then s else echHit p m s (byGo p m s.O row s.no)
def echGo (p : Int) (m : Nat) (R : Nat → Nat → Int) : Nat → ES
  | 0 => ⟨0, fun _ _ => 0⟩
  | i + 1 => echStep p m (echGo p m R i) (R i)

theorem byGo_Bp {p : Int} (hp : 0 < p) {m : Nat} {O : Nat → Nat → Int} {own : Nat → Int} (h : Bp p own) : ∀ k, Bp p (byGo p m O own k)
  | 0 => h
  | k + 1 => less_Bp hp _ _ _
theorem byGo_zero {p : Int} (hp : 0 < p) {m n : Nat} {O : Nat → Nat → Int} {l : Nat → Nat} (hO : Rref p m n O l) {own : Nat → Int} (h : Bp p own) : ∀ k, k ≤ n → ∀ i, i < k → byGo p m O own k (l i) = 0
  | 0, _, i, hi => absurd hi (Nat.not_lt_zero _)
  | k + 1, hk, i, hi => by
    show lessF p _ _ _ _ = 0
    rw [leadN_of (hO.lead k (by omega))]
    by_cases hik : i = k
    · subst hik; exact less_self (hO.lead i (by omega)).2.1
    · rw [less_zero (byGo_Bp hp h k) (hO.off i k (by omega) (by omega) hik)]
      exact byGo_zero hp hO h k (by omega) i (by omega)
theorem byGo_Z {p : Int} {m n : Nat} {O : Nat → Nat → Int} {own x : Nat → Int} (hx : Null p m n O x) : ∀ k, k ≤ n → (Z p m (byGo p m O own k) x ↔ Z p m own x)
  | 0, _ => Iff.rfl
  | k + 1, hk => (Z_less (hx k (by omega))).trans (byGo_Z hx k (by omega))

theorem echHit_inv {p : Int} (hp : primeB p = true) {m : Nat} {s : ES} {l : Nat → Nat} (h : Rref p m s.no s.O l) {f : Nat → Int} (hf : Bp p f) (hz : ∀ i, i < s.no → f (l i) = 0) {a : Nat} (ha : a < m) (hfa : f a ≠ 0) (hfz : ∀ j, j < a → f j = 0) :
    Rref p m (s.no + 1) (echHit p m s f).O (insG (posN m s.O s.no (leadN m f)) a l) ∧
    (∀ x, Null p m (s.no + 1) (echHit p m s f).O x ↔ (Null p m s.no s.O x ∧ Z p m f x)) ∧ leadN m f = a ∧ posN m s.O s.no a ≤ s.no ∧ (∀ k, k < posN m s.O s.no a → l k < a) ∧ (∀ k, posN m s.O s.no a ≤ k → k < s.no → a < l k) := by
  have hpb := primeB_bd hp
  have hla : leadN m f = a := by
    unfold leadN
    rw [idx_at (P := leadB f) ha (by simp [leadB, hfa]) (fun j hj => by simp [leadB, hfz j hj])]; simp
  have hlk : ∀ k, k < s.no → leadN m (s.O k) = l k := fun k hk => leadN_of (h.lead k hk)
  have hne : ∀ k, k < s.no → l k ≠ a := fun k hk e => hfa (by rw [← e]; exact hz k hk)
  have hpos : posN m s.O s.no a ≤ s.no ∧ (∀ k, k < posN m s.O s.no a → l k < a) ∧ (∀ k, posN m s.O s.no a ≤ k → k < s.no → a < l k) := by
    unfold posN
    rcases idx_cases (fun k => decide (a < leadN m (s.O k))) s.no with ⟨k, hk, hP, hb, he⟩ | ⟨hn, he⟩
    · rw [he, if_neg (by omega)]
      have hP' : a < leadN m (s.O k) := by simpa using hP
      rw [hlk k hk] at hP'
      refine ⟨by simp; omega, fun j hj => ?_, fun j hj hj2 => ?_⟩
      · have hj' : j < k := by simpa using hj
        have := hb j hj'
        rw [hlk j (by omega)] at this
        have h1 := hne j (by omega)
        have h2 : ¬ a < l j := by simpa using this
        omega
      · have hj' : k ≤ j := by simpa using hj
        rcases Nat.lt_or_eq_of_le hj' with h1 | h1
        · have := h.inc k j h1 hj2; omega
        · rw [← h1]; exact hP'
    · rw [he, if_pos (by omega)]
      refine ⟨Nat.le_refl _, fun j hj => ?_, fun j hj hj2 => by omega⟩
      have := hn j hj
      rw [hlk j hj] at this
      have h1 := hne j hj
      have h2 : ¬ a < l j := by simpa using this
      omega
  refine ⟨?_, ?_, hla, hpos⟩
  all_goals (obtain ⟨hp0, hp1, hp2⟩ := hpos)
  all_goals (have hfa' : 0 < f a ∧ f a < p := by have := hf a; omega)
  all_goals (have ho1 : ownF p m f a = 1 := by unfold ownF; rw [hla]; exact scaled_lead hp hfa'.1 hfa'.2)
  all_goals (have hoz : ∀ j, f j = 0 → ownF p m f j = 0 := fun j hj => by unfold ownF; exact scaled_zero hj)
  all_goals (have hoB : Bp p (ownF p m f) := scaled_Bp (by omega) _ _)
  all_goals (have hO : (echHit p m s f).O = insG (posN m s.O s.no a) (ownF p m f) (restF p s.O (ownF p m f) a) := by simp [echHit, hla])
  all_goals (rw [hO])
  · rw [hla]
    generalize posN m s.O s.no a = pos at *
    have hrl : ∀ k, k < s.no → Lead m (restF p s.O (ownF p m f) a k) (l k) := by
      intro k hk
      obtain ⟨q1, q2, q3⟩ := h.lead k hk
      refine ⟨q1, ?_, fun j hj => ?_⟩
      · show lessF p _ _ _ _ = 1
        rw [less_zero (h.bp k hk) (hoz _ (hz k hk))]; exact q2
      · show lessF p _ _ _ _ = 0
        by_cases hlt : l k < a
        · rw [less_zero (h.bp k hk) (hoz _ (hfz j (by omega)))]; exact q3 j hj
        · have h1 := hne k hk
          rw [show s.O k a = 0 from q3 a (by omega)]
          unfold lessF
          rw [Int.zero_mul, Int.sub_zero, q3 j hj]; rfl
    have hro : ∀ i k, i < s.no → k < s.no → i ≠ k → restF p s.O (ownF p m f) a k (l i) = 0 := fun i k hi hk hne2 => by
      show lessF p _ _ _ _ = 0
      rw [less_zero (h.bp k hk) (hoz _ (hz i hi))]; exact h.off i k hi hk hne2
    have hra : ∀ k, restF p s.O (ownF p m f) a k a = 0 := fun k => less_self ho1
    refine ⟨fun i hi => ?_, fun i hi => ?_, fun i j hi hj hij => ?_, fun i j hij hj => ?_⟩
    · unfold insG
      split
      · exact less_Bp (by omega) _ _ _
      · split
        · exact hoB
        · exact less_Bp (by omega) _ _ _
    · unfold insG
      split
      · rename_i h1; exact hrl i (by omega)
      · split
        · exact ⟨ha, ho1, fun j hj => hoz j (hfz j hj)⟩
        · rename_i h1 h2; exact hrl (i - 1) (by omega)
    · unfold insG
      by_cases h1 : i < pos
      · rw [if_pos h1]
        by_cases h2 : j < pos
        · rw [if_pos h2]; exact hro i j (by omega) (by omega) hij
        · rw [if_neg h2]
          by_cases h3 : j = pos
          · rw [if_pos h3]; exact hoz _ (hz i (by omega))
          · rw [if_neg h3]; exact hro i (j - 1) (by omega) (by omega) (by omega)
      · rw [if_neg h1]
        by_cases h4 : i = pos
        · rw [if_pos h4]
          by_cases h2 : j < pos
          · rw [if_pos h2]; exact hra j
          · rw [if_neg h2, if_neg (by omega)]; exact hra (j - 1)
        · rw [if_neg h4]
          by_cases h2 : j < pos
          · rw [if_pos h2]; exact hro (i - 1) j (by omega) (by omega) (by omega)
          · rw [if_neg h2]
            by_cases h3 : j = pos
            · rw [if_pos h3]; exact hoz _ (hz (i - 1) (by omega))
            · rw [if_neg h3]; exact hro (i - 1) (j - 1) (by omega) (by omega) (by omega)
    · unfold insG
      by_cases h1 : i < pos
      · rw [if_pos h1]
        by_cases h2 : j < pos
        · rw [if_pos h2]; exact h.inc i j hij (by omega)
        · rw [if_neg h2]
          by_cases h3 : j = pos
          · rw [if_pos h3]; exact hp1 i h1
          · rw [if_neg h3]
            have := hp1 i h1
            have := hp2 (j - 1) (by omega) (by omega)
            omega
      · rw [if_neg h1, if_neg (show ¬ j < pos by omega), if_neg (show ¬ j = pos by omega)]
        by_cases h4 : i = pos
        · rw [if_pos h4]; exact hp2 (j - 1) (by omega) (by omega)
        · rw [if_neg h4]; exact h.inc (i - 1) (j - 1) (by omega) (by omega)
  · intro x
    generalize posN m s.O s.no a = pos at *
    have hown : Z p m (ownF p m f) x ↔ Z p m f x := by
      unfold ownF
      rw [hla]
      exact Z_scaled (q := f a) (inv_dvd hp hfa'.1 hfa'.2)
    constructor
    · intro hN
      have h1 : Z p m (ownF p m f) x := by
        have := hN pos (by omega)
        simpa [insG] using this
      refine ⟨fun k hk => ?_, hown.1 h1⟩
      by_cases hkp : k < pos
      · have := hN k (by omega)
        simp only [insG, if_pos hkp] at this
        exact (Z_less h1).1 this
      · have := hN (k + 1) (by omega)
        simp only [insG, if_neg (show ¬ k + 1 < pos by omega), if_neg (show ¬ k + 1 = pos by omega), Nat.add_sub_cancel] at this
        exact (Z_less h1).1 this
    · rintro ⟨hN, hx⟩ i hi
      have h1 := hown.2 hx
      unfold insG
      split
      · exact (Z_less h1).2 (hN i (by omega))
      · split
        · exact h1
        · exact (Z_less h1).2 (hN (i - 1) (by omega))

theorem ech_ok {p : Int} (hp : primeB p = true) {m : Nat} {R : Nat → Nat → Int} : ∀ n, (∀ i, i < n → Bp p (R i)) →
    (∃ l, Rref p m (echGo p m R n).no (echGo p m R n).O l) ∧ ∀ x, Null p m (echGo p m R n).no (echGo p m R n).O x ↔ Null p m n R x
  | 0, _ => ⟨⟨fun _ => 0, ⟨fun i hi => absurd hi (Nat.not_lt_zero _), fun i hi => absurd hi (Nat.not_lt_zero _), fun i j hi => absurd hi (Nat.not_lt_zero _), fun i j _ hj => absurd hj (Nat.not_lt_zero _)⟩⟩,
      fun x => ⟨fun _ i hi => absurd hi (Nat.not_lt_zero _), fun _ i hi => absurd hi (Nat.not_lt_zero _)⟩⟩
  | n + 1, hR => by
    have hpb := primeB_bd hp
    obtain ⟨⟨l, h1⟩, h2⟩ := ech_ok (m := m) hp n (fun i hi => hR i (by omega))
    have hB := byGo_Bp (p := p) (m := m) (O := (echGo p m R n).O) (by omega) (hR n (by omega)) (echGo p m R n).no
    have hz := byGo_zero (by omega) h1 (hR n (by omega)) (echGo p m R n).no (Nat.le_refl _)
    have hN : ∀ x, Null p m (n + 1) R x ↔ Null p m n R x ∧ Z p m (R n) x := fun x => ⟨fun h => ⟨fun i hi => h i (by omega), h n (by omega)⟩, fun h i hi => by
      by_cases e : i = n
      · subst e; exact h.2
      · exact h.1 i (by omega)⟩
    show (∃ l, Rref p m (echStep p m (echGo p m R n) (R n)).no (echStep p m (echGo p m R n) (R n)).O l) ∧ ∀ x, Null p m (echStep p m (echGo p m R n) (R n)).no (echStep p m (echGo p m R n) (R n)).O x ↔ Null p m (n + 1) R x
    unfold echStep
    rcases idx_cases (leadB (byGo p m (echGo p m R n).O (R n) (echGo p m R n).no)) m with ⟨a, ha, hP, hb, he⟩ | ⟨hn, he⟩
    · rw [he, if_neg (by omega)]
      obtain ⟨q1, q2, _⟩ := echHit_inv hp h1 hB hz ha (by simpa [leadB] using hP) (fun j hj => by simpa [leadB] using hb j hj)
      refine ⟨⟨_, q1⟩, fun x => ?_⟩
      rw [hN x, ← h2 x]
      refine (q2 x).trans ?_
      constructor
      · rintro ⟨h3, h4⟩; exact ⟨h3, (byGo_Z h3 _ (Nat.le_refl _)).1 h4⟩
      · rintro ⟨h3, h4⟩; exact ⟨h3, (byGo_Z h3 _ (Nat.le_refl _)).2 h4⟩
    · rw [he, if_pos (by omega)]
      refine ⟨⟨l, h1⟩, fun x => ?_⟩
      rw [hN x, ← h2 x]
      refine ⟨fun h3 => ⟨h3, (byGo_Z h3 _ (Nat.le_refl _)).1 ?_⟩, fun h3 => h3.1⟩
      have : dot m (byGo p m (echGo p m R n).O (R n) (echGo p m R n).no) x = 0 := by
        unfold dot
        rw [sumZ_congr (g := fun _ => 0) m (fun j hj => by
          have := hn j hj
          rw [show byGo p m (echGo p m R n).O (R n) (echGo p m R n).no j = 0 by simpa [leadB] using this, Int.zero_mul])]
        exact sumZ_zero m
      unfold Z
      rw [this]; exact Int.dvd_zero p

/-- Both ways give the same rows. -/
theorem ech_red {p : Int} (hp : primeB p = true) {m n : Nat} {R : Nat → Nat → Int} (hR : ∀ i, i < n → Bp p (R i)) :
    (echGo p m R n).no = (redGo p n R m).no ∧ ∀ i, i < (echGo p m R n).no → ∀ j, j < m → (echGo p m R n).O i j = (redGo p n R m).O i j := by
  have hpb := primeB_bd hp
  obtain ⟨⟨l, h1⟩, h2⟩ := ech_ok (m := m) hp n hR
  obtain ⟨⟨l', h3⟩, h4⟩ := red_ok (m := m) hp hR
  exact rref_unique (by omega) h1 h3 (fun x => (h2 x).trans (h4 x).symm)

/-! ### For the walk -/
theorem B8_of {p : Int} (hp : p ≤ 256) {f : Nat → Int} (h : Bp p f) : B8 f := fun i => by have := h i; omega
theorem idx_in {m : Nat} {f : Nat → Int} {l : Nat} (h : Lead m f l) : 0 ≤ idxF (fun i => decide (f i ≠ 0)) m ∧ idxF (fun i => decide (f i ≠ 0)) m < (m : Int) := by
  have h1 : idxF (fun i => decide (f i ≠ 0)) m = l := lead_idx h
  have := h.1
  omega
theorem ech_count (p : Int) (m : Nat) (R : Nat → Nat → Int) : ∀ n, (echGo p m R n).no ≤ n
  | 0 => Nat.le_refl _
  | n + 1 => by
    have := ech_count p m R n
    show (echStep p m (echGo p m R n) (R n)).no ≤ n + 1
    unfold echStep
    split
    · omega
    · show (echGo p m R n).no + 1 ≤ n + 1; omega
theorem ech_miss {p : Int} {m : Nat} {R : Nat → Nat → Int} {i : Nat} (h : idxF (fun j => decide (byGo p m (echGo p m R i).O (R i) (echGo p m R i).no j ≠ 0)) m < 0) : echGo p m R (i + 1) = echGo p m R i := by
  show echStep p m (echGo p m R i) (R i) = _
  unfold echStep
  exact if_pos h
theorem ech_hit {p : Int} {m : Nat} {R : Nat → Nat → Int} {i : Nat} (h : ¬ idxF (fun j => decide (byGo p m (echGo p m R i).O (R i) (echGo p m R i).no j ≠ 0)) m < 0) :
    echGo p m R (i + 1) = echHit p m (echGo p m R i) (byGo p m (echGo p m R i).O (R i) (echGo p m R i).no) := by
  show echStep p m (echGo p m R i) (R i) = _
  unfold echStep
  exact if_neg h
def cntN (pos k : Nat) : Nat := bif Nat.blt pos k then k + 1 else k
theorem cntN_lt {pos k : Nat} (h : pos < k) : cntN pos k = k + 1 := by
  have : Nat.blt pos k = true := by rw [Nat.blt_eq]; exact h
  simp [cntN, this]
theorem cntN_ge {pos k : Nat} (h : ¬ pos < k) : cntN pos k = k := by
  have : Nat.blt pos k = false := by
    cases hb : Nat.blt pos k
    · rfl
    · rw [Nat.blt_eq] at hb; exact absurd hb h
  simp [cntN, this]
theorem cntN_le (pos k : Nat) : k ≤ cntN pos k ∧ cntN pos k ≤ k + 1 := by
  by_cases h : pos < k
  · rw [cntN_lt h]; omega
  · rw [cntN_ge h]; omega
theorem mt_app' {V : Vw} {n N : Nat} {F f g : Nat → AV} (hn : n + 1 = N) (h1 : ∀ j, j < n → Mt V (F j) (f j)) (h2 : Mt V (F n) (g 0)) : Mt V (.arr N F) (.arr (n + 1) (appF n f 1 g)) := by
  subst hn; exact mt_app h1 h2
theorem mixF_self (F G : Nat → Int) (k : Nat) : mixF F G k k = G k := if_neg (by omega)
theorem w_mk {F G : Nat → Int} {q : Int} (hG : B8 G) (hq : 0 ≤ q ∧ q < 256) (k : Nat) : IntKind.i64.wrap (mixF F G k k * q) = G k * q := by
  rw [mixF_self]; exact w_fk hG hq k
theorem insG_lt {α : Type} {pos j : Nat} (v : α) (F : Nat → α) (h : j < pos) : insG pos v F j = F j := if_pos h
theorem insG_at {α : Type} {pos j : Nat} (v : α) (F : Nat → α) (h : j = pos) : insG pos v F j = v := by subst h; simp [insG]
theorem insG_eq {α : Type} {pos : Nat} (v : α) (F : Nat → α) : insG pos v F pos = v := by simp [insG]
theorem insG_gt {α : Type} {pos j : Nat} (v : α) (F : Nat → α) (h : pos < j + 1) : insG pos v F (j + 1) = F j := by
  unfold insG
  rw [if_neg (by omega), if_neg (by omega)]; rfl
end Go.Am
/- Closures as results; solving systems. My own work. -/
set_option linter.unusedVariables false
set_option linter.unusedSimpArgs false
namespace Go.Am

theorem shift_closed (b : Nat) : ∀ {v : AV}, v.closed → shift b v = v := by
  intro v
  induction v with
  | arr n f ih => intro h; simp only [shift]; congr 1; funext i; exact ih i (h i)
  | sct n f ih => intro h; simp only [shift]; congr 1; funext i; exact ih i (h i)
  | tup n f ih => intro h; simp only [shift]; congr 1; funext i; exact ih i (h i)
  | ro n f ih => intro h; simp only [shift]; congr 1; funext i; exact ih i (h i)
  | fn g n f ih => intro h; simp only [shift]; congr 1; funext i; exact ih i (h i)
  | cptr v ih => intro h; simp only [shift]; rw [ih h]
  | own => intro h; exact h.elim
  | ptr => intro h; exact h.elim
  | _ => intro _; rfl
theorem closed_calg {p n : Int} {T : Nat → Nat → Nat → Int} {fo : Nat → Int} : (AV.cptr (algA p n T fo)).closed := closed_alg
theorem closed_cap2 {g : Nat} {a b : AV} (ha : a.closed) (hb : b.closed) : (AV.fn g 2 (cap2 a b)).closed := fun i => by
  match i with
  | 0 => exact ha
  | 1 => exact hb
  | i + 2 => exact trivial
theorem closed_cap1 {g : Nat} {a : AV} (ha : a.closed) : (AV.fn g 1 (cap1 a)).closed := fun i => by
  match i with
  | 0 => exact ha
  | i + 1 => exact trivial
section
variable {P : Program} {T : TT} {N : Nat} {env : Env} {ol : OL}
variable {all : Array Oper} {r : List Oper} {R : Env → OL → Prop} {ty : TypeId} {pos : String} {af : Array Edge} {x y : Operand} {d : Nat} {t : TypeId}
/-- A call whose result names no object that lives, and that was handed none. -/
theorem w_callc {f : Operand} {args : Array Operand} {aty : Array TypeId} {g n : Nat} {caps : Nat → AV} {ars : List AV} {v : AV} (hf : callee (evE env) f = .fn g n caps) (ha : (args.toList.map (evE env) ++ capL n caps).map (exp ol.at_ 4) = ars) (hc : ACalls P T g ars v [])
    (hv : v.closed) (hcl : closedL (args.toList.map (evE env) ++ capL n caps))
    (hr : WOps P T all r ((d, v) :: env) ol R) : WOps P T all (⟨some d, .call { callee := .value f, args := args, argTypes := aty }, ty, pos, af, none⟩ :: r) env ol R := by
  subst ha
  simp only [WOps, WOp, putE, Option.getD_some]
  unfold CallW
  rw [hf]
  refine ⟨v, [], hc, .inr hcl, rfl, ?_⟩
  rw [shift_closed _ hv]
  exact hr
/-- A row of two. -/
theorem w_bsl2 {e : Nat} {v w : AV} (ht : T.und t = .slc e) (hk : (T.und e).known = true) (hb : Nat.ble (2 * T.sz e) 16777216 = true) (hf : ol.has d = false) (hx : HV (evE env x) v) (hy : HV (evE env y) w) (hc : v.cel) (hc2 : w.cel) (hz : v.size = T.sz e) (hz2 : w.size = T.sz e) (hs : ssh (T.zero e) v) (hs2 : ssh (T.zero e) w)
    (hr : WOps P T all r ((d, .own d 0 2 e) :: env) ((d, .one (.arr 2 (fun _ => T.zero e)) (.arr 2 (fun i => bif Nat.beq i 1 then w else bif Nat.beq i 0 then v else T.zero e))) :: ol) R) : WOps P T all (⟨some d, .buildSlice t 2 #[(0, x), (1, y)], ty, pos, af, none⟩ :: r) env ol R := by
  have := hx.eq; subst this
  have := hy.eq; subst this
  exact w_bsl ht hk hb hf ⟨⟨by decide, hc, hz⟩, ⟨by decide, hc2, hz2⟩, trivial⟩ ⟨hs, hs2, trivial⟩ rfl hr
end

/-! ### Systems -/
def solGo (n : Nat) (O : Nat → Nat → Int) : Nat → Nat → Int
  | 0 => fun _ => 0
  | i + 1 => upd (solGo n O i) (leadN (n + 1) (O i)) (O i n)
/-- No row says 0 = 1. -/
def conP (n no : Nat) (O : Nat → Nat → Int) : Prop := ∀ i, i < no → leadN (n + 1) (O i) < n
/-- There is just one solution. -/
def oneP (n no : Nat) (O : Nat → Nat → Int) : Prop := no = n ∧ ∀ i, i < n → leadN (n + 1) (O i) = i
theorem solGo_B8 {n no : Nat} {O : Nat → Nat → Int} (hO : ∀ i, i < no → B8 (O i)) : ∀ i, i ≤ no → B8 (solGo n O i)
  | 0, _ => fun j => by show 0 ≤ (0 : Int) ∧ (0 : Int) < 256; omega
  | i + 1, hi => fun j => by
    show 0 ≤ upd _ _ _ j ∧ upd _ _ _ j < 256
    unfold upd
    split
    · exact hO i (by omega) n
    · exact solGo_B8 hO i (by omega) j
theorem rt_own_t {T : TT} {env : Env} {ol : OL} {t u key n m e : Nat} {F G : Nat → AV} {sh : Nat → AV} {b : Bool} (hx : get env t = .own key 0 n e) (hu : get env u = .bool b) (ho : ol.at_ key 0 = some (.arr n sh, .arr n G)) (hn : n = m) (hs : ∀ i, ssh (sh i) (F i)) (hf : ∀ V : Vw, ∀ i, i < m → Mt V (F i) (G i)) :
    retQ T [.tmp t, .tmp u] (.tup 2 (pairA (.own 0 0 m e) (.bool b))) [(0, .one (.arr m sh) (.arr m F))] .ret env ol := by
  subst hn
  refine ⟨fun _ _ => (key, 0), ⟨⟨rfl, fun i hi => ?_⟩, trivial⟩, ⟨?_, trivial⟩, ⟨⟨fun _ => ⟨rfl, rfl⟩, trivial⟩, trivial⟩⟩
  · match i, hi with
    | 0, _ =>
      show Mt _ (.own 0 0 n e) (get env t)
      rw [hx]
      exact ⟨rfl, rfl, rfl, rfl⟩
    | 1, _ =>
      show Mt _ (.bool b) (get env u)
      rw [hu]
      exact rfl
  · show (match ol.at_ key 0 with | some (sh', c') => _ | none => False)
    rw [ho]
    exact ⟨rfl, ⟨rfl, hs⟩, rfl, hf _⟩
theorem lead_idx' {m : Nat} {f : Nat → Int} {l : Nat} (h : Lead m f l) : idxF (fun i => decide (f i ≠ 0)) m = ((leadN m f : Nat) : Int) := by
  rw [leadN_of h]; exact lead_idx h
theorem shift_own_pair {b n e : Nat} {q : Bool} : shift b (.tup 2 (pairA (.own 0 0 n e) (.bool q))) = .tup 2 (pairA (.own b 0 n e) (.bool q)) := by
  simp only [shift, AV.tup.injEq, true_and]
  funext i
  match i with
  | 0 => rfl
  | 1 => rfl
  | n + 2 => rfl

/-! ### The unit -/
def BpT (p : Int) (T : Nat → Nat → Nat → Int) : Prop := ∀ i j k, 0 ≤ T i j k ∧ T i j k < p
theorem B8T_of {p : Int} (hp : p ≤ 256) {T : Nat → Nat → Nat → Int} (h : BpT p T) : B8T T := fun i j k => by have := h i j k; omega
/-- The reference's equations: the number at k of u e(i). -/
def unitS (n : Nat) (T : Nat → Nat → Nat → Int) (r j : Nat) : Int := if j < n then T j (r / n) (r % n) else if r / n = r % n then 1 else 0
theorem unitS_Bp {p : Int} (hp : 1 < p) {n : Nat} {T : Nat → Nat → Nat → Int} (h : BpT p T) (r : Nat) : Bp p (unitS n T r) := fun j => by
  unfold unitS
  split
  · exact h _ _ _
  · split <;> omega
theorem div_of {n i k : Nat} (hk : k < n) : (i * n + k) / n = i := by
  rw [Nat.mul_comm, Nat.mul_add_div (by omega), Nat.div_eq_of_lt hk]; rfl
theorem mod_of {n i k : Nat} (hk : k < n) : (i * n + k) % n = k := by
  rw [Nat.mul_comm, Nat.mul_add_mod]; exact Nat.mod_eq_of_lt hk
theorem unitS_lt {n : Nat} {T : Nat → Nat → Nat → Int} {i k j : Nat} (hk : k < n) (hj : j < n) : unitS n T (i * n + k) j = T j i k := by
  unfold unitS; rw [if_pos hj, div_of hk, mod_of hk]
theorem unitS_n {n : Nat} {T : Nat → Nat → Nat → Int} {i k : Nat} (hk : k < n) : unitS n T (i * n + k) n = if i = k then 1 else 0 := by
  unfold unitS; rw [if_neg (Nat.lt_irrefl n), div_of hk, mod_of hk]
def uS (p : Int) (n : Nat) (T : Nat → Nat → Nat → Int) : Nat → Int := cutF (fun a => (echGo p (n + 1) (unitS n T) (n * n)).O a n) n
def okS (p : Int) (n : Nat) (T : Nat → Nat → Nat → Int) : Prop :=
  oneP n (echGo p (n + 1) (unitS n T) (n * n)).no (echGo p (n + 1) (unitS n T) (n * n)).O ∧ ∀ i, i < n → eqN 6 (timesF p n T (eF i) (uS p n T)) (eF i)
noncomputable instance (p : Int) (n : Nat) (T : Nat → Nat → Nat → Int) : Decidable (okS p n T) := Classical.propDecidable _
noncomputable def findV (p : Int) (n : Nat) (T : Nat → Nat → Nat → Int) : Nat → Int := if okS p n T then uS p n T else fun _ => 0
end Go.Am
/- Rows of rows of one's own: families of objects. My own work. -/
set_option linter.unusedVariables false
set_option linter.unusedSimpArgs false
namespace Go.Am

/-- A family of rows: row r is there for r below c; its length and its numbers. -/
def famF (c : Nat) (w : Nat → Nat) (F : Nat → Nat → Int) : Nat → Option (AV × AV) := fun r => if r < c then some (Z64 (w r), C64 (w r) (F r)) else none
abbrev CO (key c : Nat) (w : Nat → Nat) (e : Nat) : AV := .arr c (fun r => .own key r (w r) e)
theorem famF_some {c : Nat} {w : Nat → Nat} {F : Nat → Nat → Int} {r : Nat} {sh cc : AV} (h : famF c w F r = some (sh, cc)) : r < c ∧ sh = Z64 (w r) ∧ cc = C64 (w r) (F r) := by
  unfold famF at h
  split at h
  · simp only [Option.some.injEq, Prod.mk.injEq] at h
    exact ⟨by assumption, h.1.symm, h.2.symm⟩
  · cases h
theorem famF_at {c : Nat} {w : Nat → Nat} {F : Nat → Nat → Int} {r : Nat} (h : r < c) : famF c w F r = some (Z64 (w r), C64 (w r) (F r)) := if_pos h

/-- The names: the outer row is a; row c of the family is s; the others stay. -/
def ρP (ko kf a s c : Nat) : Nat → Nat → Nat × Nat := fun k r => bif Nat.beq k ko then (a, 0) else bif Nat.beq k kf then (bif Nat.beq r c then (s, 0) else (kf, r)) else (k, r)

/-- One place of a family (an old one or a new one) has been laid anew. -/
theorem emb_fam {ko kf a s c N e : Nat} {w : Nat → Nat} {F : Nat → Nat → Int} {g : Nat → AV} {env' env : Env} {ol' : OL} (hk : ko ≠ kf) (ha : a ≠ kf) (hs : s ≠ kf) (has : a ≠ s)
    (h1 : ol'.at_ a 0 = some (ZR N, .arr N g)) (hg : ∀ j, j < N → j ≠ c → g j = .own kf j (w j) e) (hgc : c < N → g c = .own s 0 (w c) e)
    (h2 : c < N → ∃ C, ol'.at_ s 0 = some (Z64 (w c), C) ∧ ∀ V : Vw, Mt V (C64 (w c) (F c)) C)
    (h3 : ∀ r, r < N → r ≠ c → ol'.at_ kf r = some (Z64 (w r), C64 (w r) (F r)))
    (henv : envAll (fun t v => MtE (vwOf (ρP ko kf a s c) ol' [(ko, .one (ZR N) (CO kf N w e)), (kf, .many (famF N w F))]) v (get env' t)) env) :
    Emb (ρP ko kf a s c) env' ol' env [(ko, .one (ZR N) (CO kf N w e)), (kf, .many (famF N w F))] := by
  have r1 : ∀ i, ρP ko kf a s c ko i = (a, 0) := fun i => by simp [ρP]
  have r2 : ρP ko kf a s c kf c = (s, 0) := by simp [ρP, beq_ff (Ne.symm hk)]
  have r3 : ∀ r, r ≠ c → ρP ko kf a s c kf r = (kf, r) := fun r hr => by simp [ρP, beq_ff (Ne.symm hk), beq_ff hr]
  have hdom : OL.has [(ko, .one (ZR N) (CO kf N w e)), (kf, .many (famF N w F))] kf = true := by simp [OL.has]
  refine ⟨henv, ⟨?_, fun r sh cc h => ?_, trivial⟩, ⟨⟨fun _ => ⟨rfl, rfl⟩, fun r sh cc h he => ?_, trivial⟩, fun r sh cc h => ⟨fun he => ?_, fun r2' sh2 cc2 h2' he => ?_, trivial⟩, trivial⟩⟩
  · dsimp only
    rw [r1]
    dsimp only
    rw [h1]
    refine ⟨rfl, ⟨rfl, fun _ => trivial⟩, rfl, fun j hj => ?_⟩
    by_cases hjc : j = c
    · subst hjc
      rw [hgc hj]
      exact ⟨r2, rfl, rfl, hdom⟩
    · rw [hg j hj hjc]
      exact ⟨r3 j hjc, rfl, rfl, hdom⟩
  · obtain ⟨hr, rfl, rfl⟩ := famF_some h
    by_cases hrc : r = c
    · subst hrc
      rw [r2]
      dsimp only
      obtain ⟨C, h2, h2'⟩ := h2 hr
      rw [h2]
      exact ⟨rfl, ⟨rfl, fun _ => trivial⟩, h2' _⟩
    · rw [r3 r hrc]
      dsimp only
      rw [h3 r hr hrc]
      exact ⟨rfl, ⟨rfl, fun _ => trivial⟩, mt_vec (fun _ _ => rfl)⟩
  · rw [r1] at he
    by_cases hrc : r = c
    · subst hrc
      rw [r2] at he
      exact absurd (congrArg Prod.fst he) has
    · rw [r3 r hrc] at he
      exact absurd (congrArg Prod.fst he) ha
  · rw [r1] at he
    by_cases hrc : r = c
    · subst hrc
      rw [r2] at he
      exact absurd (congrArg Prod.fst he).symm has
    · rw [r3 r hrc] at he
      exact absurd (congrArg Prod.fst he).symm ha
  · refine ⟨rfl, ?_⟩
    by_cases hrc : r = c
    · subst hrc
      by_cases hr2 : r2' = r
      · exact hr2.symm
      · rw [r2, r3 r2' hr2] at he
        exact absurd (congrArg Prod.fst he) hs
    · rw [r3 r hrc] at he
      by_cases hr2 : r2' = c
      · subst hr2
        rw [r2] at he
        exact absurd (congrArg Prod.fst he).symm hs
      · rw [r3 r2' hr2] at he
        exact congrArg Prod.snd he

/-- The same beside one more row of numbers. -/
def ρQ (ko kf a s c kr b : Nat) : Nat → Nat → Nat × Nat := fun k r => bif Nat.beq k kr then (b, 0) else ρP ko kf a s c k r
theorem emb_fam1 {ko kf kr a s c b N e : Nat} {sh3 c3 : AV} {w : Nat → Nat} {F : Nat → Nat → Int} {g : Nat → AV} {env' env : Env} {ol' : OL} (hk : ko ≠ kf) (hr1 : kr ≠ ko) (hr2 : kr ≠ kf) (ha : a ≠ kf) (hs : s ≠ kf) (has : a ≠ s) (hb1 : b ≠ kf) (hb2 : b ≠ a) (hb3 : b ≠ s)
    (h1 : ol'.at_ a 0 = some (ZR N, .arr N g)) (hg : ∀ j, j < N → j ≠ c → g j = .own kf j (w j) e) (hgc : c < N → g c = .own s 0 (w c) e)
    (h2 : c < N → ∃ C, ol'.at_ s 0 = some (Z64 (w c), C) ∧ ∀ V : Vw, Mt V (C64 (w c) (F c)) C)
    (h3 : ∀ r, r < N → r ≠ c → ol'.at_ kf r = some (Z64 (w r), C64 (w r) (F r)))
    (h4 : ∃ C, ol'.at_ b 0 = some (sh3, C) ∧ ssh sh3 c3 ∧ ∀ V : Vw, Mt V c3 C)
    (henv : envAll (fun t v => MtE (vwOf (ρQ ko kf a s c kr b) ol' [(ko, .one (ZR N) (CO kf N w e)), (kf, .many (famF N w F)), (kr, .one sh3 c3)]) v (get env' t)) env) :
    Emb (ρQ ko kf a s c kr b) env' ol' env [(ko, .one (ZR N) (CO kf N w e)), (kf, .many (famF N w F)), (kr, .one sh3 c3)] := by
  have r1 : ∀ i, ρQ ko kf a s c kr b ko i = (a, 0) := fun i => by simp [ρQ, ρP, beq_ff (Ne.symm hr1)]
  have r2 : ρQ ko kf a s c kr b kf c = (s, 0) := by simp [ρQ, ρP, beq_ff (Ne.symm hk), beq_ff (Ne.symm hr2)]
  have r3 : ∀ r, r ≠ c → ρQ ko kf a s c kr b kf r = (kf, r) := fun r hr => by simp [ρQ, ρP, beq_ff (Ne.symm hk), beq_ff hr, beq_ff (Ne.symm hr2)]
  have r4 : ∀ i, ρQ ko kf a s c kr b kr i = (b, 0) := fun i => by simp [ρQ]
  have hdom : OL.has [(ko, .one (ZR N) (CO kf N w e)), (kf, .many (famF N w F)), (kr, .one sh3 c3)] kf = true := by simp [OL.has]
  obtain ⟨C, h4, h6, h5⟩ := h4
  have fk : ∀ r, (ρQ ko kf a s c kr b kf r).1 = s ∨ (ρQ ko kf a s c kr b kf r).1 = kf := fun r => by
    by_cases hrc : r = c
    · subst hrc; rw [r2]; exact .inl rfl
    · rw [r3 r hrc]; exact .inr rfl
  refine ⟨henv, ⟨?_, fun r sh cc h => ?_, ?_, trivial⟩, ⟨⟨fun _ => ⟨rfl, rfl⟩, fun r sh cc h he => ?_, fun he => ?_, trivial⟩, fun r sh cc h => ⟨fun he => ?_, fun r2' sh2 cc2 h2' he => ?_, fun he => ?_, trivial⟩, ⟨fun he => ?_, fun r sh cc h he => ?_, fun _ => ⟨rfl, rfl⟩, trivial⟩, trivial⟩⟩
  · dsimp only
    rw [r1]
    dsimp only
    rw [h1]
    refine ⟨rfl, ⟨rfl, fun _ => trivial⟩, rfl, fun j hj => ?_⟩
    by_cases hjc : j = c
    · subst hjc
      rw [hgc hj]
      exact ⟨r2, rfl, rfl, hdom⟩
    · rw [hg j hj hjc]
      exact ⟨r3 j hjc, rfl, rfl, hdom⟩
  · obtain ⟨hr, rfl, rfl⟩ := famF_some h
    by_cases hrc : r = c
    · subst hrc
      rw [r2]
      dsimp only
      obtain ⟨C, h2, h2'⟩ := h2 hr
      rw [h2]
      exact ⟨rfl, ⟨rfl, fun _ => trivial⟩, h2' _⟩
    · rw [r3 r hrc]
      dsimp only
      rw [h3 r hr hrc]
      exact ⟨rfl, ⟨rfl, fun _ => trivial⟩, mt_vec (fun _ _ => rfl)⟩
  · dsimp only
    rw [r4]
    dsimp only
    rw [h4]
    exact ⟨rfl, h6, h5 _⟩
  · rw [r1] at he
    have := congrArg Prod.fst he
    rcases fk r with h | h <;> rw [h] at this
    · exact absurd this has
    · exact absurd this ha
  · rw [r1, r4] at he
    exact absurd (congrArg Prod.fst he).symm hb2
  · rw [r1] at he
    have := congrArg Prod.fst he
    rcases fk r with h | h <;> rw [h] at this
    · exact absurd this.symm has
    · exact absurd this.symm ha
  · refine ⟨rfl, ?_⟩
    by_cases hrc : r = c
    · subst hrc
      by_cases hr2 : r2' = r
      · exact hr2.symm
      · rw [r2, r3 r2' hr2] at he
        exact absurd (congrArg Prod.fst he) hs
    · rw [r3 r hrc] at he
      by_cases hr2 : r2' = c
      · subst hr2
        rw [r2] at he
        exact absurd (congrArg Prod.fst he).symm hs
      · rw [r3 r2' hr2] at he
        exact congrArg Prod.snd he
  · rw [r4] at he
    have := congrArg Prod.fst he
    rcases fk r with h | h <;> rw [h] at this
    · exact absurd this.symm hb3
    · exact absurd this.symm hb1
  · rw [r1, r4] at he
    exact absurd (congrArg Prod.fst he) hb2
  · rw [r4] at he
    have := congrArg Prod.fst he
    rcases fk r with h | h <;> rw [h] at this
    · exact absurd this hb3
    · exact absurd this hb1

/-- All rows laid open, for reading. -/
theorem mt_fam_fz {V : Vw} {ko kf N m e e2 : Nat} {w : Nat → Nat} {S : Nat → Nat → Int} {F : Nat → Nat → Int} {sh : AV} (hz : V.fz ko 0) (hzf : ∀ r, V.fz kf r) (ha : V.at' ko 0 = some (sh, CO kf N w e)) (hf : ∀ r, r < N → V.at' kf r = some (Z64 (w r), C64 (w r) (F r))) (hw : ∀ r, r < N → w r = m)
    (hS : ∀ r, r < N → ∀ j, j < m → F r j = S r j) : Mt V (rowsA N m S) (.own ko 0 N e2) := by
  refine mt_fz hz ha (fun r hr => ?_)
  rw [hw r hr]
  refine mt_fz (hzf r) (sh := Z64 m) (G := fun j => .int .i64 (F r j)) ?_ (fun j hj => congrArg (AV.int .i64) (hS r hr j hj))
  have := hf r hr
  rw [hw r hr] at this
  exact this

theorem rt_fam {T : TT} {env : Env} {ol : OL} {t a N M e e2 : Nat} {w : Nat → Nat} {F : Nat → Nat → Int} (hx : get env t = .own a 0 N e2) (ha : a ≠ 1) (hN : N = M) (h1 : ol.at_ a 0 = some (ZR N, CO 1 N w e)) (h3 : ∀ r, r < N → ol.at_ 1 r = some (Z64 (w r), C64 (w r) (F r))) :
    retQ T [.tmp t] (.own 0 0 M e2) [(0, .one (ZR M) (CO 1 M w e)), (1, .many (famF M w F))] .ret env ol := by
  subst hN
  refine ⟨ρP 0 1 a (a + 2) N, emb_fam (by decide) ha (by omega) (by omega) h1 (fun j _ _ => rfl) (fun h => absurd h (Nat.lt_irrefl N)) (fun h => absurd h (Nat.lt_irrefl N)) (fun r hr _ => h3 r hr) ⟨?_, trivial⟩⟩
  show Mt _ (.own 0 0 N e2) (get env t)
  rw [hx]
  exact ⟨rfl, rfl, rfl, rfl⟩
/-- The equations of some maps: number k of what map x makes of e(i). -/
def eqR (n : Nat) (Fv : Nat → Nat → Nat → Int) (r i : Nat) : Int := Fv (r / n) i (r % n)
theorem eqR_at {n : Nat} {Fv : Nat → Nat → Nat → Int} {x k i : Nat} (hk : k < n) : eqR n Fv (x * n + k) i = Fv x i k := by
  unfold eqR; rw [div_of hk, mod_of hk]
/-- The same with the other side behind each row. -/
def sysR (n : Nat) (Fv : Nat → Nat → Nat → Int) (W : Nat → Nat → Int) (r j : Nat) : Int := if j < n then Fv (r / n) j (r % n) else W (r / n) (r % n)
theorem fam_beside {c : Nat} {w : Nat → Nat} {F : Nat → Nat → Int} {ko kf : Nat} {sh cc : AV} (rest : OL) (h : ko ≠ kf) (r : Nat) (hr : r < c) : OL.at_ ((ko, .one sh cc) :: (kf, .many (famF c w F)) :: rest) kf r = some (Z64 (w r), C64 (w r) (F r)) := by
  simp only [OL.at_, beq_ff (Ne.symm h), cond_false, Nat.beq_refl, cond_true, Fam.at_]
  exact famF_at hr
end Go.Am
/- Whole quotients of natural numbers; systems of linear maps. My own work. -/
set_option linter.unusedVariables false
set_option linter.unusedSimpArgs false
namespace Go.Am
section
variable {P : Program} {T : TT} {env : Env} {ol : OL}
variable {all : Array Oper} {r : List Oper} {R : Env → OL → Prop} {ty : TypeId} {pos : String} {af : Array Edge} {x y : Operand} {d : Nat} {t u : TypeId}
theorem w_quoN {a b : Nat} (hx : evE env x = .int .i64 (a : Int)) (hy : evE env y = .int .i64 (b : Int)) (hb : b ≠ 0) (ha : a < 9223372036854775808) (hr : WOps P T all r ((d, .int .i64 ((a / b : Nat) : Int)) :: env) ol R) : WOps P T all (⟨some d, .binOp .quo t x y u, ty, pos, af, none⟩ :: r) env ol R := by
  refine w_quo hx hy (by omega) ?_ hr
  rw [show ((a : Int).tdiv (b : Int)) = ((a / b : Nat) : Int) from (Int.ofNat_tdiv a b).symm]
  have := Nat.div_le_self a b
  generalize a / b = q at this ⊢
  exact w64 (by omega) (by omega)
theorem w_remN {a b : Nat} (hx : evE env x = .int .i64 (a : Int)) (hy : evE env y = .int .i64 (b : Int)) (hb : b ≠ 0) (hr : WOps P T all r ((d, .int .i64 ((a % b : Nat) : Int)) :: env) ol R) : WOps P T all (⟨some d, .binOp .rem t x y u, ty, pos, af, none⟩ :: r) env ol R := by
  refine w_rem hx hy (by omega) ?_
  rw [show ((a : Int).tmod (b : Int)) = ((a % b : Nat) : Int) from (Int.ofNat_tmod a b).symm]
  exact hr
end
theorem sysR_Bp {p : Int} {n : Nat} {Fv : Nat → Nat → Nat → Int} {W : Nat → Nat → Int} (hF : ∀ x i, Bp p (Fv x i)) (hW : ∀ x, Bp p (W x)) (r : Nat) : Bp p (sysR n Fv W r) := fun j => by
  unfold sysR
  split
  · exact hF _ _ _
  · exact hW _ _
theorem sysR_n {n : Nat} {Fv : Nat → Nat → Nat → Int} {W : Nat → Nat → Int} {r : Nat} : sysR n Fv W r n = W (r / n) (r % n) := if_neg (Nat.lt_irrefl n)
theorem sysR_lt {n : Nat} {Fv : Nat → Nat → Nat → Int} {W : Nat → Nat → Int} {r j : Nat} (h : j < n) : sysR n Fv W r j = eqR n Fv r j := if_pos h
end Go.Am
/- Systems of equations over reduced rows: solvable, solvable in one way; the unit. My own work. -/
set_option linter.unusedVariables false
set_option linter.unusedSimpArgs false
namespace Go.Am

/-! ### Sums -/
theorem sumZ_add (f g : Nat → Int) : ∀ n, sumZ (fun i => f i + g i) n = sumZ f n + sumZ g n
  | 0 => rfl
  | n + 1 => by simp only [sumZ, sumZ_add f g n]; omega
theorem sumZ_mul (k : Int) (f : Nat → Int) : ∀ n, sumZ (fun i => k * f i) n = k * sumZ f n
  | 0 => by simp [sumZ]
  | n + 1 => by simp only [sumZ, sumZ_mul k f n, Int.mul_add]
theorem sumZ_mulr (k : Int) (f : Nat → Int) (n : Nat) : sumZ (fun i => f i * k) n = sumZ f n * k := by
  rw [Int.mul_comm, ← sumZ_mul]; exact sumZ_congr n (fun i _ => Int.mul_comm _ _)
theorem sumZ_swap (f : Nat → Nat → Int) (m : Nat) : ∀ n, sumZ (fun i => sumZ (f i) m) n = sumZ (fun j => sumZ (fun i => f i j) n) m
  | 0 => by simp only [sumZ]; exact (sumZ_zero m).symm
  | n + 1 => by
    simp only [sumZ]
    rw [sumZ_swap f m n, ← sumZ_add]
theorem sumZ_dvd {p : Int} {f g : Nat → Int} : ∀ n, (∀ i, i < n → p ∣ f i - g i) → p ∣ sumZ f n - sumZ g n
  | 0, _ => by simp [sumZ]
  | n + 1, h => by
    have h1 := sumZ_dvd n (fun i hi => h i (by omega))
    have := Int.dvd_add h1 (h n (by omega))
    simp only [sumZ]
    rw [show sumZ f n + f n - (sumZ g n + g n) = sumZ f n - sumZ g n + (f n - g n) by omega]
    exact this
theorem sumZ_one {f : Nat → Int} {c : Nat} : ∀ n, c < n → (∀ i, i < n → i ≠ c → f i = 0) → sumZ f n = f c
  | 0, h, _ => absurd h (Nat.not_lt_zero _)
  | n + 1, h, hz => by
    simp only [sumZ]
    by_cases hc : c = n
    · subst hc
      rw [sumZ_congr (g := fun _ => 0) c (fun j hj => hz j (by omega) (by omega)), sumZ_zero]; omega
    · rw [sumZ_one n (by omega) (fun i hi hne => hz i (by omega) hne), hz n (by omega) (Ne.symm hc)]; omega
theorem dvd_of_mod {p a b : Int} (h : p ∣ a % p - b) : p ∣ a - b := by
  have := Int.dvd_sub h (dvd_mod p a)
  rw [show a % p - b - (a % p - a) = a - b by omega] at this
  exact this
theorem dvd_to_mod {p a b : Int} (h : p ∣ a - b) : p ∣ a % p - b := by
  have := Int.dvd_add h (dvd_mod p a)
  rw [show a - b + (a % p - a) = a % p - b by omega] at this
  exact this
theorem eq_of_dvd {p a b : Int} (ha : 0 ≤ a ∧ a < p) (hb : 0 ≤ b ∧ b < p) (h : p ∣ a - b) : a = b := by
  obtain ⟨q, hq⟩ := h
  have hq0 : q = 0 := by
    rcases Int.lt_trichotomy q 0 with h3 | h3 | h3
    · have := Int.mul_le_mul_of_nonneg_left (show q ≤ -1 by omega) (show 0 ≤ p by omega); omega
    · exact h3
    · have := Int.mul_le_mul_of_nonneg_left (show 1 ≤ q by omega) (show 0 ≤ p by omega); omega
  rw [hq0] at hq
  omega
theorem mod_eq_of_dvd {p a b : Int} (h : p ∣ a - b) : a % p = b % p := Int.emod_eq_emod_iff_emod_sub_eq_zero.2 (Int.emod_eq_zero_of_dvd h)
theorem dvd_tr {p a b c : Int} (h : p ∣ a - b) (h' : p ∣ b - c) : p ∣ a - c := by
  have := Int.dvd_add h h'; rwa [show a - b + (b - c) = a - c by omega] at this
theorem dvd_sy {p a b : Int} (h : p ∣ a - b) : p ∣ b - a := by
  have := Int.dvd_neg.2 h; rwa [show -(a - b) = b - a by omega] at this
theorem dvd_rf {p a b : Int} (h : a = b) : p ∣ a - b := by subst h; rw [Int.sub_self]; exact Int.dvd_zero p

/-! ### Systems -/
/-- u solves rows whose last number stands on the other side. -/
def Sol (p : Int) (n N : Nat) (R : Nat → Nat → Int) (u : Nat → Int) : Prop := ∀ r, r < N → p ∣ dot n (R r) u - R r n
def extF (n : Nat) (u : Nat → Int) : Nat → Int := fun j => if j < n then u j else -1
theorem dot_ext (n : Nat) (f u : Nat → Int) : dot (n + 1) f (extF n u) = dot n f u - f n := by
  show sumZ _ n + f n * extF n u n = _
  rw [sumZ_congr (g := fun j => f j * u j) n (fun j hj => by unfold extF; rw [if_pos hj])]
  unfold extF
  rw [if_neg (Nat.lt_irrefl n), Int.mul_neg, Int.mul_one]
  unfold dot
  omega
theorem sol_null {p : Int} {n N : Nat} {R : Nat → Nat → Int} {u : Nat → Int} : Sol p n N R u ↔ Null p (n + 1) N R (extF n u) := by
  unfold Sol Null Z
  constructor
  · intro h i hi; rw [dot_ext]; exact h i hi
  · intro h i hi; have := h i hi; rwa [dot_ext] at this
section
variable {p : Int} {n no N : Nat} {O R : Nat → Nat → Int} {l : Nat → Nat}
theorem con_of_sol (hp : 1 < p) (h : Rref p (n + 1) no O l) {u : Nat → Int} (hu : Sol p n no O u) : conP n no O := by
  intro i hi
  rw [leadN_of (h.lead i hi)]
  obtain ⟨q1, q2, q3⟩ := h.lead i hi
  by_cases hn : l i = n
  · have := hu i hi
    rw [show dot n (O i) u = 0 from by
      unfold dot
      rw [sumZ_congr (g := fun _ => 0) n (fun j hj => by rw [q3 j (by omega), Int.zero_mul]), sumZ_zero]] at this
    rw [hn] at q2
    rw [q2] at this
    have h1 : p ∣ 1 := by have := Int.dvd_neg.2 this; simpa using this
    have := Int.le_of_dvd (by omega) h1
    omega
  · omega
theorem solGo_lead (h : Rref p (n + 1) no O l) {i : Nat} (hi : i < no) : ∀ k, k ≤ no → solGo n O k (l i) = if i < k then O i n else 0
  | 0, _ => by simp [solGo]
  | k + 1, hk => by
    show upd (solGo n O k) (leadN (n + 1) (O k)) (O k n) (l i) = _
    rw [leadN_of (h.lead k (by omega))]
    unfold upd
    by_cases hik : i = k
    · subst hik; simp
    · have hne : l i ≠ l k := by
        rcases Nat.lt_or_gt_of_ne hik with h1 | h1
        · have := h.inc i k h1 (by omega); omega
        · have := h.inc k i h1 hi; omega
      rw [solGo_lead h hi k (by omega)]
      simp only [hne, if_false]
      by_cases h1 : i < k
      · rw [if_pos h1, if_pos (by omega)]
      · rw [if_neg h1, if_neg (by omega)]
theorem solGo_off (h : Rref p (n + 1) no O l) {c : Nat} (hc : ¬ IsL no l c) : ∀ k, k ≤ no → solGo n O k c = 0
  | 0, _ => rfl
  | k + 1, hk => by
    show upd (solGo n O k) (leadN (n + 1) (O k)) (O k n) c = _
    rw [leadN_of (h.lead k (by omega))]
    unfold upd
    have hne : c ≠ l k := fun e => hc ⟨k, by omega, e.symm⟩
    simp only [hne, if_false]
    exact solGo_off h hc k (by omega)
theorem sol_of_con (h : Rref p (n + 1) no O l) (hcon : conP n no O) : Sol p n no O (solGo n O no) := by
  intro i hi
  have hl : l i < n := by have := hcon i hi; rwa [leadN_of (h.lead i hi)] at this
  obtain ⟨q1, q2, q3⟩ := h.lead i hi
  rw [dot_one n hl (fun j hj hne => ?_), q2, solGo_lead h hi no (Nat.le_refl _), if_pos hi]
  · rw [Int.one_mul, Int.sub_self]; exact Int.dvd_zero p
  · by_cases hL : IsL no l j
    · obtain ⟨i', hi', rfl⟩ := hL
      rw [h.off i' i hi' hi (fun e => hne (by rw [e])), Int.zero_mul]
    · rw [solGo_off h hL no (Nat.le_refl _), Int.mul_zero]
theorem solGo_Bp (hp : 0 < p) (h : Rref p (n + 1) no O l) : ∀ k, k ≤ no → Bp p (solGo n O k)
  | 0, _ => fun j => ⟨Int.le_refl _, hp⟩
  | k + 1, hk => fun j => by
    show 0 ≤ upd _ _ _ j ∧ upd _ _ _ j < p
    unfold upd
    split
    · exact h.bp k (by omega) n
    · exact solGo_Bp hp h k (by omega) j
/-- If there is one solution at most, each place is one where a row begins. -/
theorem one_of_uniq (hp : 1 < p) (h : Rref p (n + 1) no O l) (hcon : conP n no O) (hu : ∀ u v, Sol p n no O u → Sol p n no O v → ∀ j, j < n → p ∣ u j - v j) : oneP n no O := by
  have hl : ∀ i, i < no → l i < n := fun i hi => by have := hcon i hi; rwa [leadN_of (h.lead i hi)] at this
  have hall : ∀ c, c < n → IsL no l c := by
    intro c hc
    apply Classical.byContradiction
    intro hn
    have hnn : ¬ IsL no l n := fun ⟨i, hi, e⟩ => by have := hl i hi; omega
    have h1 := solC_null h (show c < n + 1 by omega) hn
    have h2 := sol_of_con h hcon
    have h3 : Sol p n no O (fun j => solGo n O no j + solC no O l c j) := by
      intro i hi
      have a1 := h2 i hi
      have a2 := h1 i hi
      unfold Z at a2
      have a3 : dot (n + 1) (O i) (solC no O l c) = dot n (O i) (solC no O l c) := by
        show sumZ _ n + O i n * solC no O l c n = _
        rw [solC_off no O l (show n ≠ c by omega) hnn, Int.mul_zero, Int.add_zero]; rfl
      rw [a3] at a2
      have a4 : dot n (O i) (fun j => solGo n O no j + solC no O l c j) = dot n (O i) (solGo n O no) + dot n (O i) (solC no O l c) := by
        unfold dot; rw [← sumZ_add]; exact sumZ_congr n (fun j _ => Int.mul_add _ _ _)
      rw [a4]
      have := Int.dvd_add a1 a2
      rwa [show dot n (O i) (solGo n O no) - O i n + dot n (O i) (solC no O l c) = dot n (O i) (solGo n O no) + dot n (O i) (solC no O l c) - O i n by omega] at this
    have h4 := hu _ _ h3 h2 c hc
    rw [solC_self, show solGo n O no c + 1 - solGo n O no c = 1 by omega] at h4
    have := Int.le_of_dvd (by omega) h4
    omega
  obtain ⟨e1, e2⟩ := inc_eq (l' := fun i => i) (n' := n) h.inc (fun i j hij _ => hij) (fun i hi => ⟨l i, hl i hi, rfl⟩) (fun i hi => hall i hi)
  exact ⟨e1, fun i hi => by rw [leadN_of (h.lead i (by omega))]; exact e2 i (by omega)⟩
theorem one_lead (h : Rref p (n + 1) no O l) (ho : oneP n no O) {i : Nat} (hi : i < n) : l i = i := by
  have := ho.2 i hi
  rwa [leadN_of (h.lead i (by rw [ho.1]; exact hi))] at this
theorem one_dot (h : Rref p (n + 1) no O l) (ho : oneP n no O) (v : Nat → Int) {i : Nat} (hi : i < n) : dot n (O i) v = v i := by
  have hino : i < no := by rw [ho.1]; exact hi
  have hl := one_lead h ho hi
  rw [dot_one n hi (fun j hj hne => ?_)]
  · have := (h.lead i hino).2.1
    rw [hl] at this
    rw [this, Int.one_mul]
  · have := h.off j i (by rw [ho.1]; exact hj) hino hne
    rw [one_lead h ho hj] at this
    rw [this, Int.zero_mul]
theorem one_con (h : Rref p (n + 1) no O l) (ho : oneP n no O) : conP n no O := fun i hi => by
  have := ho.2 i (by rw [← ho.1]; exact hi)
  have h2 := ho.1
  omega
theorem one_sol (h : Rref p (n + 1) no O l) (ho : oneP n no O) : Sol p n no O (cutF (fun a => O a n) n) := fun i hi => by
  have hin : i < n := by rw [← ho.1]; exact hi
  rw [one_dot h ho _ hin]
  unfold cutF
  rw [if_pos hin, Int.sub_self]; exact Int.dvd_zero p
theorem one_uniq (h : Rref p (n + 1) no O l) (ho : oneP n no O) {v : Nat → Int} (hv : Sol p n no O v) {i : Nat} (hi : i < n) : p ∣ v i - O i n := by
  have := hv i (by rw [ho.1]; exact hi)
  rwa [one_dot h ho _ hi] at this
end

/-! ### The unit -/
def dl (i k : Nat) : Int := if i = k then 1 else 0
/-- u e(i) = e(i) for all i. -/
def LU (p : Int) (n : Nat) (T : Nat → Nat → Nat → Int) (u : Nat → Int) : Prop := ∀ i, i < n → ∀ k, k < n → p ∣ sumZ (fun j => T j i k * u j) n - dl i k
def RU (p : Int) (n : Nat) (T : Nat → Nat → Nat → Int) (u : Nat → Int) : Prop := ∀ i, i < n → ∀ k, k < n → p ∣ sumZ (fun j => T i j k * u j) n - dl i k
theorem sum_dl (f : Nat → Int) {n k : Nat} (hk : k < n) : sumZ (fun i => f i * dl i k) n = f k := by
  rw [sumZ_one (c := k) n hk (fun i _ hne => by simp [dl, hne])]
  simp [dl]
theorem unit_uniq {p : Int} {n : Nat} {T : Nat → Nat → Nat → Int} {x u : Nat → Int} (hx : LU p n T x) (hu : RU p n T u) {k : Nat} (hk : k < n) : p ∣ x k - u k := by
  have h1 : p ∣ sumZ (fun j => u j * sumZ (fun i => T i j k * x i) n) n - u k := by
    have := sumZ_dvd (p := p) (f := fun j => u j * sumZ (fun i => T i j k * x i) n) (g := fun j => u j * dl j k) n (fun j hj => by
      rw [← Int.mul_sub]; exact Int.dvd_mul_of_dvd_right (hx j hj k hk))
    rwa [sum_dl u hk] at this
  have h2 : p ∣ sumZ (fun i => x i * sumZ (fun j => T i j k * u j) n) n - x k := by
    have := sumZ_dvd (p := p) (f := fun i => x i * sumZ (fun j => T i j k * u j) n) (g := fun i => x i * dl i k) n (fun i hi => by
      rw [← Int.mul_sub]; exact Int.dvd_mul_of_dvd_right (hu i hi k hk))
    rwa [sum_dl x hk] at this
  have h3 : sumZ (fun j => u j * sumZ (fun i => T i j k * x i) n) n = sumZ (fun i => x i * sumZ (fun j => T i j k * u j) n) n := by
    have e1 : ∀ j, u j * sumZ (fun i => T i j k * x i) n = sumZ (fun i => u j * (T i j k * x i)) n := fun j => (sumZ_mul _ _ _).symm
    have e2 : ∀ i, x i * sumZ (fun j => T i j k * u j) n = sumZ (fun j => x i * (T i j k * u j)) n := fun i => (sumZ_mul _ _ _).symm
    rw [sumZ_congr n (fun j _ => e1 j), sumZ_congr n (fun i _ => e2 i), sumZ_swap]
    exact sumZ_congr n (fun i _ => sumZ_congr n (fun j _ => by rw [Int.mul_comm (u j), Int.mul_comm (x i), Int.mul_assoc, Int.mul_assoc, Int.mul_comm (x i)]))
  rw [h3] at h1
  exact dvd_tr (dvd_sy h2) h1
/-- The number at k of e(i) v. -/
theorem times_el {p : Int} {n : Nat} {T : Nat → Nat → Nat → Int} {v : Nat → Int} {i k : Nat} (hi : i < n) (hk : k < n) : timesF p n T (eF i) v k = sumZ (fun j => T i j k * v j) n % p := by
  unfold timesF
  rw [if_pos hk, sumZ_one (c := i) n hi (fun a _ hne => ?_)]
  · congr 1
    unfold rowS tm
    exact sumZ_congr n (fun j _ => by simp [eF, upd, Int.mul_comm])
  · unfold rowS tm
    rw [sumZ_congr (g := fun _ => 0) n (fun j _ => by simp [eF, upd, hne]), sumZ_zero]
theorem times_er {p : Int} {n : Nat} {T : Nat → Nat → Nat → Int} {v : Nat → Int} {i k : Nat} (hi : i < n) (hk : k < n) : timesF p n T v (eF i) k = sumZ (fun j => T j i k * v j) n % p := by
  unfold timesF
  rw [if_pos hk]
  congr 1
  refine sumZ_congr n (fun j _ => ?_)
  unfold rowS tm
  rw [sumZ_one (c := i) n hi (fun a _ hne => by simp [eF, upd, hne])]
  simp [eF, upd, Int.mul_comm]
theorem eF_dl (i k : Nat) : eF i k = dl i k := by
  unfold eF upd dl
  by_cases h : k = i
  · subst h; simp
  · simp [h, Ne.symm h]
theorem times_ee {p : Int} {n : Nat} {T : Nat → Nat → Nat → Int} {i j k : Nat} (hi : i < n) (hj : j < n) (hk : k < n) (hT : 0 ≤ T i j k ∧ T i j k < p) : timesF p n T (eF i) (eF j) k = T i j k := by
  rw [times_el hi hk, sumZ_one (c := j) n hj (fun a _ hne => by simp [eF, upd, hne])]
  simp [eF, upd]
  exact Int.emod_eq_of_lt hT.1 hT.2

/-- What a left unit's equations say, row by row. -/
theorem unitS_sol {p : Int} {n : Nat} {T : Nat → Nat → Nat → Int} {u : Nat → Int} (hn : 0 < n) : Sol p n (n * n) (unitS n T) u ↔ LU p n T u := by
  constructor
  · intro h i hi k hk
    have h1 := h (i * n + k) (by have : (i + 1) * n ≤ n * n := Nat.mul_le_mul_right n hi; rw [Nat.add_mul] at this; omega)
    rw [unitS_n hk] at h1
    unfold dot at h1
    rw [sumZ_congr (g := fun j => T j i k * u j) n (fun j hj => by rw [unitS_lt hk hj])] at h1
    exact h1
  · intro h r hr
    have hk : r % n < n := Nat.mod_lt _ hn
    have hi : r / n < n := (Nat.div_lt_iff_lt_mul hn).2 hr
    have e : r = r / n * n + r % n := by have := Nat.div_add_mod r n; rw [Nat.mul_comm] at this; omega
    rw [e, unitS_n hk]
    unfold dot
    rw [sumZ_congr (g := fun j => T j (r / n) (r % n) * u j) n (fun j hj => by rw [unitS_lt hk hj])]
    exact h _ hi _ hk
/-- The maps of findUnit: behind and ahead of each e(i). -/
def uM (p : Int) (n : Nat) (T : Nat → Nat → Nat → Int) (x j : Nat) : Nat → Int := if x % 2 = 0 then timesF p n T (eF j) (eF (x / 2)) else timesF p n T (eF (x / 2)) (eF j)
def uW (x : Nat) : Nat → Int := eF (x / 2)
/-- findUnit's equations. -/
abbrev uR (p : Int) (n : Nat) (T : Nat → Nat → Nat → Int) : Nat → Nat → Int := sysR n (uM p n T) uW
theorem timesF_Bp {p : Int} (hp : 0 < p) {n : Nat} {T : Nat → Nat → Nat → Int} {u v : Nat → Int} : Bp p (timesF p n T u v) := fun k => by
  unfold timesF
  split
  · exact ⟨Int.emod_nonneg _ (by omega), Int.emod_lt_of_pos _ hp⟩
  · exact ⟨Int.le_refl _, hp⟩
theorem uM_Bp {p : Int} (hp : 0 < p) {n : Nat} {T : Nat → Nat → Nat → Int} (x j : Nat) : Bp p (uM p n T x j) := by
  unfold uM; split <;> exact timesF_Bp hp
theorem eF_Bp {p : Int} (hp : 1 < p) (i : Nat) : Bp p (eF i) := fun k => by rw [eF_dl]; unfold dl; split <;> omega
theorem uR_sol {p : Int} {n : Nat} {T : Nat → Nat → Nat → Int} {u : Nat → Int} (hn : 0 < n) (hT : BpT p T) : Sol p n (2 * n * n) (uR p n T) u ↔ LU p n T u ∧ RU p n T u := by
  have row : ∀ x k, x < 2 * n → k < n → (p ∣ dot n (uR p n T (x * n + k)) u - uR p n T (x * n + k) n ↔ (if x % 2 = 0 then p ∣ sumZ (fun j => T j (x / 2) k * u j) n - dl (x / 2) k else p ∣ sumZ (fun j => T (x / 2) j k * u j) n - dl (x / 2) k)) := by
    intro x k hx hk
    have hx2 : x / 2 < n := by omega
    have e1 : uR p n T (x * n + k) n = dl (x / 2) k := by unfold uR; rw [sysR_n, div_of hk, mod_of hk]; exact eF_dl _ _
    have e2 : ∀ j, j < n → uR p n T (x * n + k) j = uM p n T x j k := fun j hj => by unfold uR; rw [sysR_lt hj, eqR_at hk]
    rw [e1]
    unfold dot
    rw [sumZ_congr (g := fun j => uM p n T x j k * u j) n (fun j hj => by rw [e2 j hj])]
    unfold uM
    by_cases h0 : x % 2 = 0
    · simp only [h0, if_true]
      rw [sumZ_congr (g := fun j => T j (x / 2) k * u j) n (fun j hj => by rw [times_ee hj hx2 hk (hT _ _ _)])]
    · simp only [h0, if_false]
      rw [sumZ_congr (g := fun j => T (x / 2) j k * u j) n (fun j hj => by rw [times_ee hx2 hj hk (hT _ _ _)])]
  have hlt : ∀ x k, x < 2 * n → k < n → x * n + k < 2 * n * n := fun x k hx hk => by
    have : (x + 1) * n ≤ 2 * n * n := Nat.mul_le_mul_right n hx
    rw [Nat.add_mul] at this; omega
  constructor
  · intro h
    refine ⟨fun i hi k hk => ?_, fun i hi k hk => ?_⟩
    · have := (row (2 * i) k (by omega) hk).1 (h _ (hlt _ _ (by omega) hk))
      rw [if_pos (by omega), show 2 * i / 2 = i by omega] at this
      exact this
    · have := (row (2 * i + 1) k (by omega) hk).1 (h _ (hlt _ _ (by omega) hk))
      rw [if_neg (by omega), show (2 * i + 1) / 2 = i by omega] at this
      exact this
  · rintro ⟨hL, hR⟩ r hr
    have hk : r % n < n := Nat.mod_lt _ hn
    have hx : r / n < 2 * n := (Nat.div_lt_iff_lt_mul hn).2 hr
    have e : r = r / n * n + r % n := by have := Nat.div_add_mod r n; rw [Nat.mul_comm] at this; omega
    rw [e]
    rw [row _ _ hx hk]
    split
    · exact hL _ (by omega) _ hk
    · exact hR _ (by omega) _ hk
theorem uR_Bp {p : Int} (hp : 1 < p) {n : Nat} {T : Nat → Nat → Nat → Int} (r : Nat) : Bp p (uR p n T r) := sysR_Bp (fun x i => uM_Bp (by omega) x i) (fun x => eF_Bp hp _) r
/-- What findUnit finds. -/
def uOk (p : Int) (n : Nat) (T : Nat → Nat → Nat → Int) : Prop := conP n (redGo p (2 * n * n) (uR p n T) (n + 1)).no (redGo p (2 * n * n) (uR p n T) (n + 1)).O
noncomputable instance (p : Int) (n : Nat) (T : Nat → Nat → Nat → Int) : Decidable (uOk p n T) := Classical.propDecidable _
noncomputable def uF (p : Int) (n : Nat) (T : Nat → Nat → Nat → Int) : Nat → Int := if uOk p n T then cutF (solGo n (redGo p (2 * n * n) (uR p n T) (n + 1)).O (redGo p (2 * n * n) (uR p n T) (n + 1)).no) n else fun _ => 0
theorem LU_cut {p : Int} {n : Nat} {T : Nat → Nat → Nat → Int} {u : Nat → Int} : LU p n T (cutF u n) ↔ LU p n T u := by
  unfold LU
  have e : ∀ i k, sumZ (fun j => T j i k * cutF u n j) n = sumZ (fun j => T j i k * u j) n := fun i k => sumZ_congr n (fun j hj => by unfold cutF; rw [if_pos hj])
  simp only [e]
theorem RU_cut {p : Int} {n : Nat} {T : Nat → Nat → Nat → Int} {u : Nat → Int} : RU p n T (cutF u n) ↔ RU p n T u := by
  unfold RU
  have e : ∀ i k, sumZ (fun j => T i j k * cutF u n j) n = sumZ (fun j => T i j k * u j) n := fun i k => sumZ_congr n (fun j hj => by unfold cutF; rw [if_pos hj])
  simp only [e]
theorem uF_unit {p : Int} (hp : primeB p = true) {n : Nat} (hn : 0 < n) {T : Nat → Nat → Nat → Int} (hT : BpT p T) (h : uOk p n T) : LU p n T (uF p n T) ∧ RU p n T (uF p n T) ∧ Bp p (uF p n T) ∧ ∀ j, n ≤ j → uF p n T j = 0 := by
  have hpb := primeB_bd hp
  obtain ⟨⟨l, hrr⟩, hnl⟩ := red_ok (m := n + 1) (n := 2 * n * n) (R := uR p n T) hp (fun i _ => uR_Bp (by omega) i)
  have h1 := sol_of_con hrr h
  have h2 : Sol p n (2 * n * n) (uR p n T) (solGo n (redGo p (2 * n * n) (uR p n T) (n + 1)).O (redGo p (2 * n * n) (uR p n T) (n + 1)).no) := sol_null.2 ((hnl _).1 (sol_null.1 h1))
  obtain ⟨h3, h4⟩ := (uR_sol hn hT).1 h2
  unfold uF
  rw [if_pos h]
  refine ⟨LU_cut.2 h3, RU_cut.2 h4, fun j => ?_, fun j hj => by unfold cutF; rw [if_neg (by omega)]⟩
  unfold cutF
  split
  · exact solGo_Bp (by omega) hrr _ (Nat.le_refl _) j
  · omega
theorem uOk_of {p : Int} (hp : primeB p = true) {n : Nat} (hn : 0 < n) {T : Nat → Nat → Nat → Int} (hT : BpT p T) {u : Nat → Int} (h1 : LU p n T u) (h2 : RU p n T u) : uOk p n T := by
  have hpb := primeB_bd hp
  obtain ⟨⟨l, hrr⟩, hnl⟩ := red_ok (m := n + 1) (n := 2 * n * n) (R := uR p n T) hp (fun i _ => uR_Bp (by omega) i)
  exact con_of_sol (by omega) hrr (sol_null.2 ((hnl _).2 (sol_null.1 ((uR_sol hn hT).2 ⟨h1, h2⟩))))
/-- The reference finds a unit where findUnit does, and the same. -/
theorem okS_iff {p : Int} (hp : primeB p = true) {n : Nat} (hn : 0 < n) (hn6 : n ≤ 6) {T : Nat → Nat → Nat → Int} (hT : BpT p T) : (okS p n T ↔ uOk p n T) ∧ ∀ j, findV p n T j = uF p n T j := by
  have hpb := primeB_bd hp
  obtain ⟨⟨l, hrr⟩, hnl⟩ := ech_ok (m := n + 1) (R := unitS n T) hp (n * n) (fun i _ => unitS_Bp (by omega) hT i)
  have hsol : ∀ u, Sol p n _ (echGo p (n + 1) (unitS n T) (n * n)).O u ↔ LU p n T u := fun u => by
    rw [← unitS_sol hn, sol_null, sol_null]; exact hnl _
  have chk : ∀ u, (∀ i, i < n → eqN 6 (timesF p n T (eF i) u) (eF i)) ↔ RU p n T u := fun u => by
    constructor
    · intro h i hi k hk
      have := h i hi k (by omega)
      rw [times_el hi hk, eF_dl] at this
      exact dvd_of_mod (dvd_rf this)
    · intro h i hi k hk
      by_cases hkn : k < n
      · rw [times_el hi hkn, eF_dl]
        have h1 := dvd_to_mod (h i hi k hkn)
        refine eq_of_dvd ⟨Int.emod_nonneg _ (by omega), Int.emod_lt_of_pos _ (by omega)⟩ ?_ h1
        unfold dl; split <;> omega
      · unfold timesF
        rw [if_neg hkn, eF_dl]
        unfold dl
        rw [if_neg (by omega)]
  have fw : okS p n T → LU p n T (uS p n T) ∧ RU p n T (uS p n T) := fun h =>
    ⟨(hsol _).1 (one_sol hrr h.1), (chk _).1 h.2⟩
  have bw : ∀ u, LU p n T u → RU p n T u → okS p n T ∧ ∀ j, j < n → p ∣ u j - uS p n T j := fun u h1 h2 => by
    have h3 : Sol p n _ (echGo p (n + 1) (unitS n T) (n * n)).O u := (hsol u).2 h1
    have h4 : oneP n (echGo p (n + 1) (unitS n T) (n * n)).no (echGo p (n + 1) (unitS n T) (n * n)).O :=
      one_of_uniq (by omega) hrr (con_of_sol (by omega) hrr h3) (fun x y hx hy j hj => dvd_tr (unit_uniq ((hsol x).1 hx) h2 hj) (dvd_sy (unit_uniq ((hsol y).1 hy) h2 hj)))
    have h5 : ∀ j, j < n → p ∣ u j - uS p n T j := fun j hj => by
      have := one_uniq hrr h4 h3 hj
      unfold uS cutF
      rwa [if_pos hj]
    refine ⟨⟨h4, (chk _).2 (fun i hi k hk => ?_)⟩, h5⟩
    have := sumZ_dvd (p := p) (f := fun j => T i j k * uS p n T j) (g := fun j => T i j k * u j) n (fun j hj => by
      rw [← Int.mul_sub]; exact Int.dvd_mul_of_dvd_right (dvd_sy (h5 j hj)))
    exact dvd_tr this (h2 i hi k hk)
  have hiff : okS p n T ↔ uOk p n T := by
    constructor
    · intro h; exact uOk_of hp hn hT (fw h).1 (fw h).2
    · intro h; exact (bw _ (uF_unit hp hn hT h).1 (uF_unit hp hn hT h).2.1).1
  refine ⟨hiff, fun j => ?_⟩
  by_cases h : uOk p n T
  · have h2 := uF_unit hp hn hT h
    unfold findV
    rw [if_pos (hiff.2 h)]
    by_cases hj : j < n
    · refine (eq_of_dvd (h2.2.2.1 j) ?_ ((bw _ h2.1 h2.2.1).2 j hj)).symm
      have ho := (hiff.2 h).1
      unfold uS cutF
      rw [if_pos hj]
      exact hrr.bp j (by rw [ho.1]; exact hj) n
    · rw [h2.2.2.2 j (by omega)]
      unfold uS cutF
      rw [if_neg hj]
  · unfold findV uF
    rw [if_neg h, if_neg (fun q => h (hiff.1 q))]
end Go.Am
/- More that closes the walks' small goals. My own work. -/
set_option linter.unusedVariables false
set_option linter.unusedSimpArgs false
namespace Go.Am
theorem mt_app2 {V : Vw} {n N : Nat} {F f g : Nat → AV} (hn : n + 2 = N) (h1 : ∀ j, j < n → Mt V (F j) (f j)) (h2 : Mt V (F n) (g 0)) (h3 : Mt V (F (n + 1)) (g 1)) : Mt V (.arr N F) (.arr (n + 2) (appF n f 2 g)) := by
  subst hn
  refine ⟨rfl, fun i hi => ?_⟩
  by_cases h : i < n
  · rw [appF_lt h]; exact h1 i h
  · by_cases h0 : i = n
    · subst h0
      rw [appF_ge (Nat.le_refl _) (by omega), Nat.sub_self]; exact h2
    · have : i = n + 1 := by omega
      subst this
      rw [appF_ge (by omega) (by omega), show n + 1 - n = 1 by omega]; exact h3
theorem cel_cap2 {g : Nat} {a b : AV} : (AV.fn g 2 (cap2 (.cptr a) (.cptr b))).cel := fun i hi => by
  match i, hi with
  | 0, _ => trivial
  | 1, _ => trivial
end Go.Am
/- Valid algebras; plain functions of the first chapter. My own work. -/
set_option linter.unusedVariables false
set_option linter.unusedSimpArgs false
namespace Go.Am

/-! ### Arguments seen another way -/
def V0 : Vw := ⟨fun k i => (k, i), fun _ => false, fun _ _ => none, fun _ _ => False⟩
theorem V0_ok (K : Kx) : VwOk V0 K K := ⟨rfl, rfl, rfl, fun _ h => h, fun k h => by simp [V0] at h, fun k i k' i' h => by simp only [V0, Prod.mk.injEq] at h; obtain ⟨rfl, rfl⟩ := h; exact ⟨rfl, rfl⟩, fun k i sh c h => by simp [V0] at h⟩
def MtL : List AV → List AV → Prop
  | [], [] => True
  | a :: ars, b :: bs => Mt V0 a b ∧ MtL ars bs
  | _, _ => False
theorem MtL_VRs {K : Kx} : ∀ {ars ars' : List AV} {cs : List Value}, MtL ars ars' → VRs K ars' cs → VRs K ars cs
  | [], [], [], _, _ => trivial
  | [], [], _ :: _, _, h => h.elim
  | a :: ars, b :: bs, [], _, h => h.elim
  | a :: ars, b :: bs, c :: cs, h, h2 => ⟨Mt_VR (V0_ok K) h.1 h2.1, MtL_VRs h.2 h2.2⟩
  | [], _ :: _, _, h, _ => h.elim
  | _ :: _, [], _, h, _ => h.elim
theorem ACalls.mt {P : Program} {T : TT} {f : FuncId} {ars ars' : List AV} {r : AV} {H : OL} (h : ACalls P T f ars r H) (hm : MtL ars ars') : ACalls P T f ars' r H :=
  ⟨h.ent, fun w I cs hI ha => h.go w I cs hI (MtL_VRs hm ha)⟩

/-! ### What is valid -/
/-- Numbers of bytes, and 0 behind what is there. -/
structure RB (T : Nat → Nat → Nat → Int) : Prop where
  b : B8T T
  z : ∀ i j k, 6 ≤ i ∨ 6 ≤ j ∨ 6 ≤ k → T i j k = 0
structure RV (v : Nat → Int) : Prop where
  b : B8 v
  z : ∀ k, 6 ≤ k → v k = 0
/-- The program's IsAlgebra. -/
def VA (p n : Int) (T : Nat → Nat → Nat → Int) (fo : Nat → Int) : Prop := shapeP p n T fo ∧ assocP p n.toNat T ∧ uOk p n.toNat T
noncomputable instance (p n : Int) (T : Nat → Nat → Nat → Int) (fo : Nat → Int) : Decidable (VA p n T fo) := Classical.propDecidable _
/-- A valid algebra. -/
structure VN (p : Int) (n : Nat) (T : Nat → Nat → Nat → Int) (fo : Nat → Int) : Prop where
  hp : primeB p = true
  n0 : 0 < n
  n6 : n ≤ 6
  hT : BpT p T
  tz : ∀ i j k, n ≤ i ∨ n ≤ j ∨ n ≤ k → T i j k = 0
  f : Bp p fo
  fz : ∀ k, n ≤ k → fo k = 0
  asc : assocP p n T
  u : uOk p n T
/-- A vector of it. -/
structure VV (p : Int) (n : Nat) (v : Nat → Int) : Prop where
  b : Bp p v
  z : ∀ k, n ≤ k → v k = 0
theorem VV_of {p : Int} (hp : 0 < p) {n : Nat} (hn : n ≤ 6) {v : Nat → Int} (hv : RV v) (h : smP p (n : Int) v) : VV p n v where
  b := fun k => by
    by_cases hk : k < 6
    · exact ⟨(hv.b k).1, (h k hk).1⟩
    · rw [hv.z k (by omega)]; omega
  z := fun k hk => by
    by_cases hk6 : k < 6
    · exact (h k hk6).2 (by omega)
    · exact hv.z k (by omega)
theorem VV.sm {p : Int} {n : Nat} {v : Nat → Int} (h : VV p n v) : smP p (n : Int) v := fun k _ => ⟨(h.b k).2, fun hk => h.z k (by omega)⟩
theorem VV.B8 {p : Int} {n : Nat} {v : Nat → Int} (h : VV p n v) (hp : p ≤ 256) : B8 v := B8_of hp h.b
theorem VN_of {p n : Int} {T : Nat → Nat → Nat → Int} {fo : Nat → Int} (hT : RB T) (hf : RV fo) (h : VA p n T fo) : VN p n.toNat T fo ∧ n = (n.toNat : Int) := by
  obtain ⟨hs, ha, hu⟩ := h
  obtain ⟨h1, h2, h3, h4⟩ := shape_iff.1 hs
  have hpb := primeB_bd h1
  have hn : n = (n.toNat : Int) := by omega
  have hfV : VV p n.toNat fo := VV_of (by omega) (by omega) hf (by rw [← hn]; exact h4)
  refine ⟨⟨h1, by omega, by omega, fun i j k => ?_, fun i j k hz => ?_, hfV.b, hfV.z, ha, hu⟩, hn⟩
  · by_cases h6 : 6 ≤ i ∨ 6 ≤ j ∨ 6 ≤ k
    · rw [hT.z i j k h6]; omega
    · exact ⟨(hT.b i j k).1, ((h3 i (by omega) j (by omega)).1 k (by omega)).1⟩
  · by_cases h6 : 6 ≤ i ∨ 6 ≤ j ∨ 6 ≤ k
    · exact hT.z i j k h6
    · by_cases hij : n ≤ (i : Int) ∨ n ≤ (j : Int)
      · exact (h3 i (by omega) j (by omega)).2 hij k (by omega)
      · exact ((h3 i (by omega) j (by omega)).1 k (by omega)).2 (by omega)
theorem BpT_of {p n : Int} {T : Nat → Nat → Nat → Int} {fo : Nat → Int} (hT : RB T) (hs : shapeP p n T fo) : BpT p T := by
  obtain ⟨h1, h2, h3, h4⟩ := shape_iff.1 hs
  have hpb := primeB_bd h1
  intro i j k
  by_cases h6 : 6 ≤ i ∨ 6 ≤ j ∨ 6 ≤ k
  · rw [hT.z i j k h6]; omega
  · exact ⟨(hT.b i j k).1, ((h3 i (by omega) j (by omega)).1 k (by omega)).1⟩
theorem shape_neg {p n : Int} {T : Nat → Nat → Nat → Int} {fo : Nat → Int} (h : n < 0) : ¬ shapeP p n T fo := fun hs => by have := (shape_iff.1 hs).2.1; omega
theorem VA_neg {p n : Int} {T : Nat → Nat → Nat → Int} {fo : Nat → Int} (h : n < 0) : ¬ VA p n T fo := fun hs => shape_neg h hs.1
theorem VN.p0 {p : Int} {n : Nat} {T : Nat → Nat → Nat → Int} {fo : Nat → Int} (h : VN p n T fo) : 2 ≤ p ∧ p ≤ 13 := primeB_bd h.hp
theorem VN.T8 {p : Int} {n : Nat} {T : Nat → Nat → Nat → Int} {fo : Nat → Int} (h : VN p n T fo) : B8T T := B8T_of (by have := h.p0; omega) h.hT
theorem VN.f8 {p : Int} {n : Nat} {T : Nat → Nat → Nat → Int} {fo : Nat → Int} (h : VN p n T fo) : B8 fo := B8_of (by have := h.p0; omega) h.f
/-- A valid algebra and valid vectors. -/
def VZ (p n : Int) (T : Nat → Nat → Nat → Int) (fo : Nat → Int) (M : Nat) (V : Nat → Nat → Int) : Prop := VA p n T fo ∧ ∀ i, i < M → smP p n (V i)
noncomputable instance (p n : Int) (T : Nat → Nat → Nat → Int) (fo : Nat → Int) (M : Nat) (V : Nat → Nat → Int) : Decidable (VZ p n T fo M V) := Classical.propDecidable _
/-- The code of such a call. -/
noncomputable def cZ (p n : Int) (T : Nat → Nat → Nat → Int) (fo : Nat → Int) (M : Nat) (V : Nat → Nat → Int) : Int := if VZ p n T fo M V then 0 else 1
/-- A list of vectors. -/
abbrev vlA (M : Nat) (V : Nat → Nat → Int) : AV := .ro M (fun i => vecA (V i))
theorem closed_vl {M : Nat} {F : Nat → Nat → Int} : (vlA M F).closed := fun _ _ => trivial
theorem m_vl {V : Vw} {M : Nat} {F : Nat → Nat → Int} : Mt V (vlA M F) (vlA M F) := Mt_closed closed_vl (fun _ _ _ => trivial) (by simp)
theorem ex_vl {at_ : Nat → Nat → Option (AV × AV)} {d M : Nat} {F : Nat → Nat → Int} : exp at_ (d + 1) (vlA M F) = vlA M F := exp_closed closed_vl
def vs1 (v : Nat → Int) : Nat → Nat → Int := fun i => if i = 0 then v else fun _ => 0
def vs2 (v w : Nat → Int) : Nat → Nat → Int := fun i => if i = 0 then v else if i = 1 then w else fun _ => 0
theorem ex_l1 {at_ : Nat → Nat → Option (AV × AV)} {k e : Nat} {sh : AV} {v : Nat → Int} {z : AV} (hz : z = vecA (fun _ => 0)) (h : at_ k 0 = some (sh, .arr 1 (fun i => bif Nat.beq i 0 then vecA v else z))) : exp at_ 4 (.own k 0 1 e) = vlA 1 (vs1 v) := by
  subst hz
  show (match at_ k 0 with | some (_, .arr m f) => AV.ro m (fun j => exp at_ 3 (f j)) | _ => .any) = _
  rw [h]
  refine congrArg (AV.ro 1) (funext fun i => ?_)
  match i with
  | 0 => rfl
  | i + 1 => rfl
theorem ex_l2 {at_ : Nat → Nat → Option (AV × AV)} {k e : Nat} {sh : AV} {v w : Nat → Int} {z : AV} (hz : z = vecA (fun _ => 0)) (h : at_ k 0 = some (sh, .arr 2 (fun i => bif Nat.beq i 1 then vecA w else bif Nat.beq i 0 then vecA v else z))) : exp at_ 4 (.own k 0 2 e) = vlA 2 (vs2 v w) := by
  subst hz
  show (match at_ k 0 with | some (_, .arr m f) => AV.ro m (fun j => exp at_ 3 (f j)) | _ => .any) = _
  rw [h]
  refine congrArg (AV.ro 2) (funext fun i => ?_)
  match i with
  | 0 => rfl
  | 1 => rfl
  | i + 2 => rfl
theorem ex_cap1 {at_ : Nat → Nat → Option (AV × AV)} {d : Nat} {a : AV} (h : a.closed) : (capL 1 (cap1 a)).map (exp at_ (d + 1)) = [a] := by
  show [exp at_ (d + 1) a] = [a]
  rw [exp_closed h]
theorem cZ_ok {p n : Int} {T : Nat → Nat → Nat → Int} {fo : Nat → Int} {M : Nat} {V : Nat → Nat → Int} (h : VZ p n T fo M V) : cZ p n T fo M V = 0 := if_pos h
theorem cZ_no {p n : Int} {T : Nat → Nat → Nat → Int} {fo : Nat → Int} {M : Nat} {V : Nat → Nat → Int} (h : ¬ VZ p n T fo M V) : cZ p n T fo M V = 1 := if_neg h

theorem VZ_1 {p n : Int} {T : Nat → Nat → Nat → Int} {fo v : Nat → Int} : VZ p n T fo 1 (vs1 v) ↔ VA p n T fo ∧ smP p n v :=
  ⟨fun h => ⟨h.1, h.2 0 (by omega)⟩, fun h => ⟨h.1, fun i hi => by rw [show i = 0 by omega]; exact h.2⟩⟩
theorem VZ_2 {p n : Int} {T : Nat → Nat → Nat → Int} {fo v w : Nat → Int} : VZ p n T fo 2 (vs2 v w) ↔ VA p n T fo ∧ smP p n v ∧ smP p n w :=
  ⟨fun h => ⟨h.1, h.2 0 (by omega), h.2 1 (by omega)⟩, fun h => ⟨h.1, fun i hi => by
    match i, hi with
    | 0, _ => exact h.2.1
    | 1, _ => exact h.2.2⟩⟩
theorem VZ_0 {p n : Int} {T : Nat → Nat → Nat → Int} {fo : Nat → Int} {F : Nat → Nat → Int} : VZ p n T fo 0 F ↔ VA p n T fo := ⟨fun h => h.1, fun h => ⟨h, fun i hi => absurd hi (Nat.not_lt_zero _)⟩⟩
theorem B8_0 : B8 (fun _ => 0) := fun k => by show 0 ≤ (0 : Int) ∧ (0 : Int) < 256; omega
theorem vs1_B8 {v : Nat → Int} (hv : B8 v) (i : Nat) : B8 (vs1 v i) := by
  unfold vs1; split
  · exact hv
  · intro k; show 0 ≤ (0 : Int) ∧ (0 : Int) < 256; omega
theorem vs2_B8 {v w : Nat → Int} (hv : B8 v) (hw : B8 w) (i : Nat) : B8 (vs2 v w i) := by
  unfold vs2; split
  · exact hv
  · split
    · exact hw
    · intro k; show 0 ≤ (0 : Int) ∧ (0 : Int) < 256; omega

theorem VN.va {p : Int} {n : Nat} {T : Nat → Nat → Nat → Int} {fo : Nat → Int} (h : VN p n T fo) : VA p n T fo := by
  have hp := h.p0
  have h0 := h.n0
  have h6 := h.n6
  refine ⟨shape_iff.2 ⟨h.hp, by omega, fun i hi j hj => ⟨fun k hk => ⟨(h.hT i j k).2, fun hk => h.tz i j k (by omega)⟩, fun hij k hk => h.tz i j k (by omega)⟩, fun k hk => ⟨(h.f k).2, fun hk => h.fz k (by omega)⟩⟩, h.asc, h.u⟩
theorem VN.rb {p : Int} {n : Nat} {T : Nat → Nat → Nat → Int} {fo : Nat → Int} (h : VN p n T fo) : RB T := ⟨h.T8, fun i j k hz => h.tz i j k (by have := h.n6; omega)⟩
theorem VN.rv {p : Int} {n : Nat} {T : Nat → Nat → Nat → Int} {fo : Nat → Int} (h : VN p n T fo) : RV fo := ⟨h.f8, fun k hz => h.fz k (by have := h.n6; omega)⟩

/-! ### Commutative -/
def comP (T : Nat → Nat → Nat → Int) : Prop := ∀ i, i < 6 → ∀ j, j < i → eqN 6 (T i j) (T j i)
def comN (n : Nat) (T : Nat → Nat → Nat → Int) : Prop := ∀ i, i < n → ∀ j, j < i → eqN 6 (T i j) (T j i)
noncomputable instance (T : Nat → Nat → Nat → Int) : Decidable (comP T) := Classical.propDecidable _
noncomputable instance (n : Nat) (T : Nat → Nat → Nat → Int) : Decidable (comN n T) := Classical.propDecidable _
theorem com_iff {p : Int} {n : Nat} {T : Nat → Nat → Nat → Int} {fo : Nat → Int} (h : VN p n T fo) : comP T ↔ comN n T := by
  constructor
  · intro hc i hi j hj; exact hc i (by have := h.n6; omega) j hj
  · intro hc i hi j hj
    by_cases hin : i < n
    · exact hc i hin j hj
    · intro k _; rw [h.tz i j k (by omega), h.tz j i k (by omega)]

/-! ### The form, sums -/
def formF (p : Int) (fo v : Nat → Int) : Int := sumZ (fun i => fo i * v i) 6 % p
theorem formF_comm {p : Int} {fo v : Nat → Int} : sumZ (fun i => v i * fo i) 6 % p = formF p fo v := by
  unfold formF; congr 1; exact sumZ_congr 6 (fun i _ => Int.mul_comm _ _)
theorem formF_bd {p : Int} (hp : 0 < p) (fo v : Nat → Int) : 0 ≤ formF p fo v ∧ formF p fo v < p := ⟨Int.emod_nonneg _ (by omega), Int.emod_lt_of_pos _ hp⟩
theorem form_acc {u v : Nat → Int} (hu : B8 u) (hv : B8 v) {i : Nat} (hi : i ≤ 6) : 0 ≤ sumZ (fun i => u i * v i) i ∧ sumZ (fun i => u i * v i) i ≤ 6 * 65025 := by
  have := sumZ_bd (f := fun i => u i * v i) (M := 65025) (fun i => mul_bd (A := 255) (B := 255) ⟨(hu i).1, by have := (hu i).2; omega⟩ ⟨(hv i).1, by have := (hv i).2; omega⟩) i
  have h2 : (i : Int) * 65025 ≤ 6 * 65025 := by omega
  omega
theorem uv_small {u v : Nat → Int} (hu : B8 u) (hv : B8 v) (i : Nat) : 0 ≤ u i * v i ∧ u i * v i ≤ 65025 := mul_bd (A := 255) (B := 255) ⟨(hu i).1, by have := (hu i).2; omega⟩ ⟨(hv i).1, by have := (hv i).2; omega⟩
def addF (p : Int) (u v : Nat → Int) (k : Int) (i : Nat) : Int := (u i + k * v i) % p
theorem addF_Bp {p : Int} (hp : 0 < p) (u v : Nat → Int) (k : Int) : Bp p (addF p u v k) := fun i => ⟨Int.emod_nonneg _ (by omega), Int.emod_lt_of_pos _ hp⟩
theorem kv_bd {v : Nat → Int} (hv : B8 v) {k : Int} (hk : -1000000000000 ≤ k ∧ k ≤ 1000000000000) (i : Nat) : -1000000000000 * 256 ≤ k * v i ∧ k * v i ≤ 1000000000000 * 256 := by
  have := hv i
  constructor
  · have h1 := Int.mul_le_mul_of_nonneg_right hk.1 this.1
    have h2 := Int.mul_le_mul_of_nonneg_left (show v i ≤ 256 by omega) (show (0 : Int) ≤ 1000000000000 by omega)
    omega
  · have h1 := Int.mul_le_mul_of_nonneg_right hk.2 this.1
    have h2 := Int.mul_le_mul_of_nonneg_left (show v i ≤ 256 by omega) (show (0 : Int) ≤ 1000000000000 by omega)
    omega
theorem tmod_nn {a p : Int} (ha : 0 ≤ a) : a.tmod p = a % p := Int.tmod_eq_emod_of_nonneg ha
end Go.Am
/- What comes in as data, read as abstract values. My own work. -/
set_option linter.unusedVariables false
set_option linter.unusedSimpArgs false
namespace Go.Am
def segF (f : Nat → Value) (o m : Nat) : List Value := (List.range m).map (fun j => f (o + j))
theorem seg_len (f : Nat → Value) (o m : Nat) : (segF f o m).length = m := by simp [segF]
theorem seg_add (f : Nat → Value) (o a b : Nat) : segF f o (a + b) = segF f o a ++ segF f (o + a) b := by
  refine List.ext_getElem? (fun i => ?_)
  simp only [segF, List.getElem?_append, List.length_map, List.length_range, List.getElem?_map, List.getElem?_range']
  by_cases h : i < a
  · simp [h, List.getElem?_range, show i < a + b by omega]
  · by_cases h2 : i < a + b
    · simp [h, List.getElem?_range, h2, show i - a < b by omega]; congr 1; omega
    · simp [h, List.getElem?_range, h2, show ¬ i - a < b by omega]
theorem seg_arr (f : Nat → Value) (o s : Nat) : ∀ n, segF f o (n * s) = flat (fun i => segF f (o + i * s) s) n
  | 0 => by simp [segF, flat]
  | n + 1 => by rw [Nat.add_mul, Nat.one_mul, seg_add, seg_arr f o s n]; rfl
theorem toList_seg (cs : Array Value) : cs.toList = segF (fun i => cs.getD i undef) 0 cs.size := by
  refine List.ext_getElem? (fun i => ?_)
  simp only [segF, List.getElem?_map, Array.getElem?_toList, Nat.zero_add]
  by_cases h : i < cs.size
  · simp [h, List.getElem?_range]
  · simp [h, List.getElem?_range]
theorem FL_int_seg {K : Kx} {f : Nat → Value} {o : Nat} {k : IntKind} {z : Int} (h : f o = .int k z) : FL K (.int k z) (segF f o 1) := by
  show segF f o 1 = [.int k z]
  simp [segF, List.range_succ, h]
theorem FL_arr_seg {K : Kx} {f : Nat → Value} {o n s : Nat} {F : Nat → AV} (h : ∀ i, i < n → FL K (F i) (segF f (o + i * s) s)) (hs : (F 0).size = s) : FL K (.arr n F) (segF f o (n * s)) := by
  rw [seg_arr]
  exact ⟨_, rfl, fun i hi => ⟨h i hi, by rw [seg_len, hs]⟩⟩
theorem FL_vec_seg {K : Kx} {f : Nat → Value} {o n : Nat} {k : IntKind} {z : Nat → Int} (h : ∀ i, i < n → f (o + i) = .int k (z i)) : FL K (.arr n (fun i => .int k (z i))) (segF f o n) := by
  have := FL_arr_seg (K := K) (f := f) (o := o) (n := n) (s := 1) (F := fun i => .int k (z i)) (fun i hi => by rw [Nat.mul_one]; exact FL_int_seg (h i hi)) rfl
  rwa [Nat.mul_one] at this

section
variable {P : Program} {w : World} {base : Nat} {t : TypeId} {v : Value}
/-- An array or a struct of whole numbers that came in: its cells. -/
theorem open_agg {N : Nat} {ts : List TypeId} {kd : Nat → IntKind} (hA : ∃ x, P.underlying t = some x ∧ ((∃ fs, x = .struct fs) ∨ ∃ n e, x = .array n e)) (hc : P.cellTypes P.depth t = some ts) (hn : P.cellsOf t = N) (hl : ts.length = N)
    (hk : ∀ i, i < N → ∀ u, ts[i]? = some u → P.underlying u = some (.int (kd i))) (h : Value.okWide P w .any base t v) :
    ∃ (cs : Array Value) (z : Nat → Int), v = .agg cs ∧ cs.size = N ∧ ∀ i, i < N → cs.getD i undef = .int (kd i) (z i) ∧ (kd i).has (z i) := by
  have h' : ∃ cs, v = .agg cs ∧ cs.size = P.cellsOf t ∧ Row.okWide P w .any base t cs := by
    obtain ⟨x, hx, hA⟩ := hA
    unfold Value.okWide at h
    rw [hx] at h
    rcases hA with ⟨fs, rfl⟩ | ⟨n, e, rfl⟩ <;> exact h
  obtain ⟨cs, rfl, hs, ts', h1, _, h3⟩ := h'
  rw [hc] at h1
  obtain rfl := Option.some.inj h1
  rw [hn] at hs
  refine ⟨cs, fun i => match cs.getD i undef with | .int _ m => m | _ => 0, rfl, hs, fun i hi => ?_⟩
  have hci : cs[i]? = some (cs.getD i undef) := by simp [hs, hi]
  obtain ⟨u, hu, hok⟩ := h3 i _ hci
  rw [hl, Nat.mod_eq_of_lt hi] at hu
  have hku := hk i hi u hu
  show cs.getD i undef = .int (kd i) (match cs.getD i undef with | .int _ m => m | _ => 0) ∧ (kd i).has (match cs.getD i undef with | .int _ m => m | _ => 0)
  generalize cs.getD i undef = c at hok ⊢
  unfold Cell.okWide at hok
  rw [hku] at hok
  unfold Cell.ok at hok
  rw [hku] at hok
  cases c <;> first | exact hok.elim | skip
  simp only at hok
  obtain ⟨rfl, hok⟩ := hok
  exact ⟨rfl, hok⟩
end
theorem has_u8 {n : Int} (h : IntKind.u8.has n) : 0 ≤ n ∧ n < 256 := by
  have h' : IntKind.u8.min ≤ n ∧ n ≤ IntKind.u8.max := h
  have e1 : IntKind.u8.min = 0 := rfl
  have e2 : IntKind.u8.max = 255 := rfl
  omega
/-- A vector that came in. -/
theorem vec_in {K : Kx} {cs : Array Value} {z : Nat → Int} {N : Nat} (hs : cs.size = N) (h : ∀ i, i < N → cs.getD i undef = .int .u8 (z i) ∧ IntKind.u8.has (z i)) : VR K (.arr N (fun i => .int .u8 (if i < N then z i else 0))) (.agg cs) := by
  refine ⟨cs, rfl, ?_⟩
  rw [toList_seg, hs]
  exact FL_vec_seg (fun i hi => by rw [Nat.zero_add, if_pos hi]; exact (h i hi).1)
theorem vec_RV {z : Nat → Int} (h : ∀ i, i < 6 → IntKind.u8.has (z i)) : RV (fun i => if i < 6 then z i else 0) :=
  ⟨fun i => by show 0 ≤ (if i < 6 then z i else 0) ∧ (if i < 6 then z i else 0) < 256; split; (exact has_u8 (h i (by assumption))); omega, fun i hi => if_neg (by omega)⟩
def kdA (i : Nat) : IntKind := if i < 2 then .i64 else .u8
def tbA (z : Nat → Int) (i j k : Nat) : Int := if i < 6 ∧ j < 6 ∧ k < 6 then z (2 + (i * 36 + (j * 6 + k))) else 0
def foA (z : Nat → Int) (k : Nat) : Int := if k < 6 then z (218 + k) else 0
theorem FL_tab_seg {K : Kx} {f : Nat → Value} {o : Nat} {T : Nat → Nat → Nat → Int} (h : ∀ i j k, i < 6 → j < 6 → k < 6 → f (o + (i * 36 + (j * 6 + k))) = .int .u8 (T i j k)) : FL K (tabA T) (segF f o 216) := by
  refine FL_arr_seg (n := 6) (s := 36) (fun i hi => ?_) rfl
  refine FL_arr_seg (n := 6) (s := 6) (fun j hj => ?_) rfl
  exact FL_vec_seg (fun k hk => by rw [show o + i * 36 + j * 6 + k = o + (i * 36 + (j * 6 + k)) by omega]; exact h i j k hi hj hk)
theorem alg_in {K : Kx} {cs : Array Value} {z : Nat → Int} (hs : cs.size = 224) (h : ∀ i, i < 224 → cs.getD i undef = .int (kdA i) (z i) ∧ (kdA i).has (z i)) : VR K (algA (z 0) (z 1) (tbA z) (foA z)) (.agg cs) := by
  refine ⟨cs, rfl, ?_⟩
  rw [toList_seg, hs]
  have h : ∀ i, i < 224 → (fun i => cs.getD i undef) i = .int (kdA i) (z i) ∧ (kdA i).has (z i) := h
  generalize (fun i => cs.getD i undef) = f at h ⊢
  refine ⟨fun i => match i with | 0 => segF f 0 1 | 1 => segF f 1 1 | 2 => segF f 2 216 | 3 => segF f 218 6 | _ => [], ?_, fun i hi => ?_⟩
  · show segF f 0 (((1 + 1) + 216) + 6) = _
    rw [seg_add, seg_add, seg_add]
    rfl
  · match i, hi with
    | 0, _ => exact FL_int_seg (h 0 (by omega)).1
    | 1, _ => exact FL_int_seg (h 1 (by omega)).1
    | 2, _ => exact FL_tab_seg (fun i j k hi hj hk => by
        rw [(h (2 + (i * 36 + (j * 6 + k))) (by omega)).1]
        unfold kdA tbA
        rw [if_neg (by omega), if_pos ⟨hi, hj, hk⟩])
    | 3, _ => exact FL_vec_seg (fun k hk => by
        rw [(h (218 + k) (by omega)).1]
        unfold kdA foA
        rw [if_neg (by omega), if_pos hk])
theorem alg_RB {z : Nat → Int} (h : ∀ i, i < 224 → (kdA i).has (z i)) : RB (tbA z) where
  b := fun i j k => by
    unfold tbA
    split
    · have := h (2 + (i * 36 + (j * 6 + k))) (by omega)
      unfold kdA at this
      rw [if_neg (by omega)] at this
      exact has_u8 this
    · omega
  z := fun i j k hz => by unfold tbA; rw [if_neg (by omega)]
theorem alg_RV {z : Nat → Int} (h : ∀ i, i < 224 → (kdA i).has (z i)) : RV (foA z) where
  b := fun k => by
    unfold foA
    split
    · have := h (218 + k) (by omega)
      unfold kdA at this
      rw [if_neg (by omega)] at this
      exact has_u8 this
    · omega
  z := fun k hz => by unfold foA; rw [if_neg (by omega)]
theorem kd_alg {P : Program} {a b : TypeId} (h1 : P.underlying a = some (.int .i64)) (h2 : P.underlying b = some (.int .u8)) (i : Nat) (hi : i < 224) (u : TypeId) (hu : (a :: a :: List.replicate 222 b)[i]? = some u) : P.underlying u = some (.int (kdA i)) := by
  match i, hi with
  | 0, _ => rw [← Option.some.inj (show some a = some u from hu)]; exact h1
  | 1, _ => rw [← Option.some.inj (show some a = some u from hu)]; exact h1
  | i + 2, hi =>
    rw [List.getElem?_cons_succ, List.getElem?_cons_succ, List.getElem?_replicate, if_pos (by omega)] at hu
    rw [← Option.some.inj hu]
    unfold kdA; rw [if_neg (by omega)]; exact h2
theorem kd_rep {P : Program} {b : TypeId} {k : IntKind} {N : Nat} (h2 : P.underlying b = some (.int k)) (i : Nat) (hi : i < N) (u : TypeId) (hu : (List.replicate N b)[i]? = some u) : P.underlying u = some (.int k) := by
  rw [List.getElem?_replicate, if_pos hi] at hu
  rw [← Option.some.inj hu]; exact h2
/-- What a law's contract gives the frame of its row. -/
theorem law_walk {P : Program} {T : TT} {f : FuncId} {ars : List AV} (h : ACalls P T f ars (.bool true) []) (w : World) (cs : List Value) (ha : VRs (K0 T (fun b => b < w.heap.size) w) ars cs) :
    Calls P f cs.toArray w fun e w' => e = .returned (.bool true) ∧ Go.RowKit.Below w.heap.size w w' := by
  refine (h.go w (fun b => b < w.heap.size) cs (fun b hb => hb) ha).mono ?_
  rintro e w' ⟨c, κ, rfl, hR, hv⟩
  rw [VR_bool hv]
  exact ⟨rfl, hR.os, hR.tape, hR.output, hR.size, fun b hb => hR.block b hb (fun h => h)⟩
end Go.Am
set_option linter.unusedVariables false
set_option linter.unusedSimpArgs false
set_option maxRecDepth 4000
namespace Go.Am
attribute [local irreducible] retQ
open Go.Proofs
theorem c_n {p n : Int} {T : Nat → Nat → Nat → Int} {fo : Nat → Int} : ACalls Try.prog TB 48 [.cptr (algA p n T fo)] (.int .i64 n) [] := by
  refine acalls_of tokTB Try.func48 rfl rfl (Nat.le_of_ble_eq_true rfl) ?_
  apply sr tokTB (by kernel_rfl)
  · intro RR hRR
    refine w_assign (by constructor) ?_
    exact hRR
  apply sr tokTB (by kernel_rfl)
  · intro RR hRR
    refine w_move (by constructor) ?_
    first | refine w_nilc rfl ?_ | refine w_nilp rfl ?_ | refine w_nilf rfl ?_
    first | refine w_fac rfl und31 rfl kn2 nz2 (by decide) rfl (by constructor) ?_ | refine w_fap rfl und31 rfl kn2 nz2 rfl (by decide) rfl ?_
    first | refine w_ldc rfl kn2 (by constructor) (by exact sz2.symm) (by exact ag2.symm) ?_ | refine w_ldp rfl kn2 rfl (by constructor) (by exact sz2.symm) (by exact ag2.symm) ?_
    refine w_assign (by constructor) ?_
    exact hRR
  refine snd_ret ?_
  exact rt (T := TB) (fun V => by first | exact m_bool rfl | exact m_int rfl)
theorem c_l01In {n lo hi : Int} : ACalls Try.prog TB 61 [.int .i64 n, .int .i64 lo, .int .i64 hi] (.bool (decide (lo ≤ n) && decide (n ≤ hi))) [] := by
  refine acalls_of tokTB Try.func61 rfl rfl (Nat.le_of_ble_eq_true rfl) ?_
  apply sr tokTB (by kernel_rfl)
  · intro RR hRR
    refine w_assign (by constructor) ?_
    exact hRR
  apply srG (env' := (6, .bool (decide (lo ≤ n) && decide (n ≤ hi))) :: (14, .bool (decide (lo ≤ n) && decide (n ≤ hi))) :: (13, .any) :: (12, .any) :: (11, .any) :: (10, _) :: (9, _) :: (8, _) :: (7, _) :: _) tokTB (by kernel_rfl)
  · intro RR hRR
    refine w_move (by constructor) ?_
    refine w_move (by constructor) ?_
    refine w_geq rfl rfl ?_
    refine w_move (by constructor) ?_
    refine w_g rfl rfl (fun hg3 => ?_) (fun hg3 => ?_)
    · skip
      refine w_move (by constructor) ?_
      refine w_g_on rfl rfl hg3 ?_
      refine w_move (by constructor) ?_
      refine w_g_on rfl rfl hg3 ?_
      refine w_leq rfl rfl ?_
      refine w_pick_1 rfl hg3 (by constructor) ?_
      refine w_assign (by constructor) ?_
      try simp only [Int.toNat_natCast] at hg3
      exact hRR _ (EL.cons (.inr (by first | rfl | (simp only [hg3, Bool.true_or, Bool.false_or, Bool.true_and, Bool.false_and, Bool.or_true, Bool.or_false]; done) | (simp only [hg3, Bool.true_or, Bool.false_or, Bool.true_and, Bool.false_and, Bool.or_true, Bool.or_false]; rfl) | simp [hg3])) (EL.cons (.inr (by first | rfl | (simp only [hg3, Bool.true_or, Bool.false_or, Bool.true_and, Bool.false_and, Bool.or_true, Bool.or_false]; done) | (simp only [hg3, Bool.true_or, Bool.false_or, Bool.true_and, Bool.false_and, Bool.or_true, Bool.or_false]; rfl) | simp [hg3])) (EL.cons (.inl rfl) (EL.cons (.inl rfl) (EL.cons (.inl rfl) (EL.cons (.inr rfl) (EL.cons (.inr rfl) (EL.cons (.inr rfl) (EL.cons (.inr rfl) (EL.refl _))))))))))
    · have hg3 := eq_false_of_ne_true hg3
      refine w_g_off rfl rfl (by rw [hg3]; decide) ?_
      refine w_g_off rfl rfl (by rw [hg3]; decide) ?_
      refine w_pick_0 rfl hg3 (by constructor) ?_
      refine w_assign (by constructor) ?_
      try simp only [Int.toNat_natCast] at hg3
      exact hRR _ (EL.cons (.inr (by first | rfl | (simp only [hg3, Bool.true_or, Bool.false_or, Bool.true_and, Bool.false_and, Bool.or_true, Bool.or_false]; done) | (simp only [hg3, Bool.true_or, Bool.false_or, Bool.true_and, Bool.false_and, Bool.or_true, Bool.or_false]; rfl) | simp [hg3])) (EL.cons (.inr (by first | rfl | (simp only [hg3, Bool.true_or, Bool.false_or, Bool.true_and, Bool.false_and, Bool.or_true, Bool.or_false]; done) | (simp only [hg3, Bool.true_or, Bool.false_or, Bool.true_and, Bool.false_and, Bool.or_true, Bool.or_false]; rfl) | simp [hg3])) (EL.cons (.inl rfl) (EL.cons (.inl rfl) (EL.cons (.inl rfl) (EL.cons (.inr rfl) (EL.cons (.inr rfl) (EL.cons (.inr rfl) (EL.cons (.inr rfl) (EL.refl _))))))))))
  refine snd_ret ?_
  exact rt (T := TB) (fun V => by first | exact m_bool rfl | exact m_int rfl)
theorem c_in {n lo hi : Int} : ACalls Try.prog TB 63 [.int .i64 n, .int .i64 lo, .int .i64 hi] (.bool (decide (lo ≤ n) && decide (n ≤ hi))) [] := by
  refine acalls_of tokTB Try.func63 rfl rfl (Nat.le_of_ble_eq_true rfl) ?_
  apply sr tokTB (by kernel_rfl)
  · intro RR hRR
    refine w_assign (by constructor) ?_
    exact hRR
  apply srG (env' := (6, .bool (decide (lo ≤ n) && decide (n ≤ hi))) :: (14, .bool (decide (lo ≤ n) && decide (n ≤ hi))) :: (13, .any) :: (12, .any) :: (11, .any) :: (10, _) :: (9, _) :: (8, _) :: (7, _) :: _) tokTB (by kernel_rfl)
  · intro RR hRR
    refine w_move (by constructor) ?_
    refine w_move (by constructor) ?_
    refine w_geq rfl rfl ?_
    refine w_move (by constructor) ?_
    refine w_g rfl rfl (fun hg3 => ?_) (fun hg3 => ?_)
    · skip
      refine w_move (by constructor) ?_
      refine w_g_on rfl rfl hg3 ?_
      refine w_move (by constructor) ?_
      refine w_g_on rfl rfl hg3 ?_
      refine w_leq rfl rfl ?_
      refine w_pick_1 rfl hg3 (by constructor) ?_
      refine w_assign (by constructor) ?_
      try simp only [Int.toNat_natCast] at hg3
      exact hRR _ (EL.cons (.inr (by first | rfl | (simp only [hg3, Bool.true_or, Bool.false_or, Bool.true_and, Bool.false_and, Bool.or_true, Bool.or_false]; done) | (simp only [hg3, Bool.true_or, Bool.false_or, Bool.true_and, Bool.false_and, Bool.or_true, Bool.or_false]; rfl) | simp [hg3])) (EL.cons (.inr (by first | rfl | (simp only [hg3, Bool.true_or, Bool.false_or, Bool.true_and, Bool.false_and, Bool.or_true, Bool.or_false]; done) | (simp only [hg3, Bool.true_or, Bool.false_or, Bool.true_and, Bool.false_and, Bool.or_true, Bool.or_false]; rfl) | simp [hg3])) (EL.cons (.inl rfl) (EL.cons (.inl rfl) (EL.cons (.inl rfl) (EL.cons (.inr rfl) (EL.cons (.inr rfl) (EL.cons (.inr rfl) (EL.cons (.inr rfl) (EL.refl _))))))))))
    · have hg3 := eq_false_of_ne_true hg3
      refine w_g_off rfl rfl (by rw [hg3]; decide) ?_
      refine w_g_off rfl rfl (by rw [hg3]; decide) ?_
      refine w_pick_0 rfl hg3 (by constructor) ?_
      refine w_assign (by constructor) ?_
      try simp only [Int.toNat_natCast] at hg3
      exact hRR _ (EL.cons (.inr (by first | rfl | (simp only [hg3, Bool.true_or, Bool.false_or, Bool.true_and, Bool.false_and, Bool.or_true, Bool.or_false]; done) | (simp only [hg3, Bool.true_or, Bool.false_or, Bool.true_and, Bool.false_and, Bool.or_true, Bool.or_false]; rfl) | simp [hg3])) (EL.cons (.inr (by first | rfl | (simp only [hg3, Bool.true_or, Bool.false_or, Bool.true_and, Bool.false_and, Bool.or_true, Bool.or_false]; done) | (simp only [hg3, Bool.true_or, Bool.false_or, Bool.true_and, Bool.false_and, Bool.or_true, Bool.or_false]; rfl) | simp [hg3])) (EL.cons (.inl rfl) (EL.cons (.inl rfl) (EL.cons (.inl rfl) (EL.cons (.inr rfl) (EL.cons (.inr rfl) (EL.cons (.inr rfl) (EL.cons (.inr rfl) (EL.refl _))))))))))
  refine snd_ret ?_
  exact rt (T := TB) (fun V => by first | exact m_bool rfl | exact m_int rfl)
theorem c_l01Mod {p x : Int} (hp : 0 < p) (hp2 : p < 4294967296) : ACalls Try.prog TB 77 [.int .i64 p, .int .i64 x] (.int .i64 (x % p)) [] := by
  have h1 := tmod_lo x hp
  have h2 := tmod_hi x hp
  refine acalls_of tokTB Try.func77 rfl rfl (Nat.le_of_ble_eq_true rfl) ?_
  apply sr tokTB (by kernel_rfl)
  · intro RR hRR
    refine w_assign (by constructor) ?_
    exact hRR
  apply sr tokTB (by kernel_rfl)
  · intro RR hRR
    refine w_move (by constructor) ?_
    refine w_move (by constructor) ?_
    refine w_rem rfl rfl (by first | assumption | omega) ?_
    refine w_move (by constructor) ?_
    refine w_add rfl rfl (by first | exact w64 (by omega) (by omega) | exact w64b (by assumption) _ | exact w64t (by assumption) _ _ _ | exact rfl) ?_
    refine w_move (by constructor) ?_
    refine w_rem rfl rfl (by first | assumption | omega) ?_
    refine w_assign (by constructor) ?_
    exact hRR
  refine snd_ret ?_
  exact rt (T := TB) (fun V => m_int (tmod_add hp))
theorem c_rest {p x : Int} (hp : 0 < p) (hp2 : p < 4294967296) : ACalls Try.prog TB 111 [.int .i64 x, .int .i64 p] (.int .i64 (x % p)) [] := by
  have h1 := tmod_lo x hp
  have h2 := tmod_hi x hp
  refine acalls_of tokTB Try.func111 rfl rfl (Nat.le_of_ble_eq_true rfl) ?_
  apply sr tokTB (by kernel_rfl)
  · intro RR hRR
    refine w_assign (by constructor) ?_
    exact hRR
  apply sr tokTB (by kernel_rfl)
  · intro RR hRR
    refine w_move (by constructor) ?_
    refine w_move (by constructor) ?_
    refine w_rem rfl rfl (by first | assumption | omega) ?_
    refine w_move (by constructor) ?_
    refine w_add rfl rfl (by first | exact w64 (by omega) (by omega) | exact w64b (by assumption) _ | exact w64t (by assumption) _ _ _ | exact rfl) ?_
    refine w_move (by constructor) ?_
    refine w_rem rfl rfl (by first | assumption | omega) ?_
    refine w_assign (by constructor) ?_
    exact hRR
  refine snd_ret ?_
  exact rt (T := TB) (fun V => m_int (tmod_add hp))
theorem c_l01Basis {i : Nat} (hi : i < 6) : ACalls Try.prog TB 47 [.int .i64 (i : Int)] (vecA (eF i)) [] := by
  refine acalls_of tokTB Try.func47 rfl rfl (Nat.le_of_ble_eq_true rfl) ?_
  apply sr tokTB (by kernel_rfl)
  · intro RR hRR
    refine w_alloc kn29 rfl zr29 ?_
    exact hRR
  apply sr tokTB (by kernel_rfl)
  · intro RR hRR
    refine w_bld_a kn29 zr29 und29 kn5 (fun _ => (by exact sz5.symm)) trivial rfl (by exact sz5.symm) ?_
    refine w_alloc kn29 rfl zr29 ?_
    first | refine w_stw rfl (by constructor) kn29 rfl (by exact trivial) (by first | exact trivial | exact ssh_vec | exact ssh_alg | exact ssh_tab | exact ssh_mat | exact ⟨rfl, fun _ => trivial⟩ | exact ⟨rfl, fun _ => by rw [zr29]; exact ssh_vec⟩) (by exact sz29.symm) ?_ | refine w_sti rfl rfl kn29 rfl (by exact trivial) (by exact sz29.symm) ?_ | refine w_store rfl (HV.eq (by constructor)) kn29 rfl (by exact trivial) (by first | exact trivial | exact ssh_vec | exact ssh_alg | exact ssh_tab | exact ssh_mat | exact ⟨rfl, fun _ => trivial⟩ | exact ⟨rfl, fun _ => by rw [zr29]; exact ssh_vec⟩) (by exact sz29.symm) (put_in (by first | exact put_mat | exact put_tab | exact put_alg0 | exact put_alg1 | exact put_alg2 | exact put_alg3 | exact put_alg3i | exact put_alg2ij | exact put_alg2ijk | exact put_mat2 | exact put_tab2 | exact put_tab3)) ?_ | refine w_store rfl (HV.eq (by constructor)) kn29 rfl (by exact trivial) (by exact trivial) (by exact sz29.symm) rfl ?_
    exact hRR
  apply sr tokTB (by kernel_rfl)
  · intro RR hRR
    refine w_move (by constructor) ?_
    first | refine w_iac rfl rfl und29 kn5 (by exact sz5.symm) ?_ rfl ?_ | refine w_iap rfl rfl und29 kn5 rfl (by exact sz5.symm) rfl ?_ ?_
    · exact ⟨by omega, by omega⟩
    first | refine w_stw rfl (by constructor) kn5 rfl (by exact trivial) (by first | exact trivial | exact ssh_vec | exact ssh_alg | exact ssh_tab | exact ssh_mat | exact ⟨rfl, fun _ => trivial⟩ | exact ⟨rfl, fun _ => by rw [zr29]; exact ssh_vec⟩) (by exact sz5.symm) ?_ | refine w_sti rfl rfl kn5 rfl (by exact trivial) (by exact sz5.symm) ?_ | refine w_store rfl (HV.eq (by constructor)) kn5 rfl (by exact trivial) (by first | exact trivial | exact ssh_vec | exact ssh_alg | exact ssh_tab | exact ssh_mat | exact ⟨rfl, fun _ => trivial⟩ | exact ⟨rfl, fun _ => by rw [zr29]; exact ssh_vec⟩) (by exact sz5.symm) (put_in (by first | exact put_mat | exact put_tab | exact put_alg0 | exact put_alg1 | exact put_alg2 | exact put_alg3 | exact put_alg3i | exact put_alg2ij | exact put_alg2ijk | exact put_mat2 | exact put_tab2 | exact put_tab3)) ?_ | refine w_store rfl (HV.eq (by constructor)) kn5 rfl (by exact trivial) (by exact trivial) (by exact sz5.symm) rfl ?_
    exact hRR
  apply sr tokTB (by kernel_rfl)
  · intro RR hRR
    first | refine w_ldc rfl kn29 (by constructor) (by exact sz29.symm) (by exact ag29.symm) ?_ | refine w_ldp rfl kn29 rfl (by constructor) (by exact sz29.symm) (by exact ag29.symm) ?_
    first | refine w_stw rfl (by constructor) kn29 rfl (by exact trivial) (by first | exact trivial | exact ssh_vec | exact ssh_alg | exact ssh_tab | exact ssh_mat | exact ⟨rfl, fun _ => trivial⟩ | exact ⟨rfl, fun _ => by rw [zr29]; exact ssh_vec⟩) (by exact sz29.symm) ?_ | refine w_sti rfl rfl kn29 rfl (by exact trivial) (by exact sz29.symm) ?_ | refine w_store rfl (HV.eq (by constructor)) kn29 rfl (by exact trivial) (by first | exact trivial | exact ssh_vec | exact ssh_alg | exact ssh_tab | exact ssh_mat | exact ⟨rfl, fun _ => trivial⟩ | exact ⟨rfl, fun _ => by rw [zr29]; exact ssh_vec⟩) (by exact sz29.symm) (put_in (by first | exact put_mat | exact put_tab | exact put_alg0 | exact put_alg1 | exact put_alg2 | exact put_alg3 | exact put_alg3i | exact put_alg2ij | exact put_alg2ijk | exact put_mat2 | exact put_tab2 | exact put_tab3)) ?_ | refine w_store rfl (HV.eq (by constructor)) kn29 rfl (by exact trivial) (by exact trivial) (by exact sz29.symm) rfl ?_
    exact hRR
  refine snd_ret ?_
  exact rt_c (T := TB) rfl kn29 rfl sz29.symm ag29.symm (fun V => m_vec (fun j hj => rfl))
theorem c_basis {i : Nat} (hi : i < 6) : ACalls Try.prog TB 50 [.int .i64 (i : Int)] (vecA (eF i)) [] := by
  refine acalls_of tokTB Try.func50 rfl rfl (Nat.le_of_ble_eq_true rfl) ?_
  apply sr tokTB (by kernel_rfl)
  · intro RR hRR
    refine w_alloc kn29 rfl zr29 ?_
    exact hRR
  apply sr tokTB (by kernel_rfl)
  · intro RR hRR
    refine w_bld_a kn29 zr29 und29 kn5 (fun _ => (by exact sz5.symm)) trivial rfl (by exact sz5.symm) ?_
    refine w_alloc kn29 rfl zr29 ?_
    first | refine w_stw rfl (by constructor) kn29 rfl (by exact trivial) (by first | exact trivial | exact ssh_vec | exact ssh_alg | exact ssh_tab | exact ssh_mat | exact ⟨rfl, fun _ => trivial⟩ | exact ⟨rfl, fun _ => by rw [zr29]; exact ssh_vec⟩) (by exact sz29.symm) ?_ | refine w_sti rfl rfl kn29 rfl (by exact trivial) (by exact sz29.symm) ?_ | refine w_store rfl (HV.eq (by constructor)) kn29 rfl (by exact trivial) (by first | exact trivial | exact ssh_vec | exact ssh_alg | exact ssh_tab | exact ssh_mat | exact ⟨rfl, fun _ => trivial⟩ | exact ⟨rfl, fun _ => by rw [zr29]; exact ssh_vec⟩) (by exact sz29.symm) (put_in (by first | exact put_mat | exact put_tab | exact put_alg0 | exact put_alg1 | exact put_alg2 | exact put_alg3 | exact put_alg3i | exact put_alg2ij | exact put_alg2ijk | exact put_mat2 | exact put_tab2 | exact put_tab3)) ?_ | refine w_store rfl (HV.eq (by constructor)) kn29 rfl (by exact trivial) (by exact trivial) (by exact sz29.symm) rfl ?_
    exact hRR
  apply sr tokTB (by kernel_rfl)
  · intro RR hRR
    refine w_move (by constructor) ?_
    first | refine w_iac rfl rfl und29 kn5 (by exact sz5.symm) ?_ rfl ?_ | refine w_iap rfl rfl und29 kn5 rfl (by exact sz5.symm) rfl ?_ ?_
    · exact ⟨by omega, by omega⟩
    first | refine w_stw rfl (by constructor) kn5 rfl (by exact trivial) (by first | exact trivial | exact ssh_vec | exact ssh_alg | exact ssh_tab | exact ssh_mat | exact ⟨rfl, fun _ => trivial⟩ | exact ⟨rfl, fun _ => by rw [zr29]; exact ssh_vec⟩) (by exact sz5.symm) ?_ | refine w_sti rfl rfl kn5 rfl (by exact trivial) (by exact sz5.symm) ?_ | refine w_store rfl (HV.eq (by constructor)) kn5 rfl (by exact trivial) (by first | exact trivial | exact ssh_vec | exact ssh_alg | exact ssh_tab | exact ssh_mat | exact ⟨rfl, fun _ => trivial⟩ | exact ⟨rfl, fun _ => by rw [zr29]; exact ssh_vec⟩) (by exact sz5.symm) (put_in (by first | exact put_mat | exact put_tab | exact put_alg0 | exact put_alg1 | exact put_alg2 | exact put_alg3 | exact put_alg3i | exact put_alg2ij | exact put_alg2ijk | exact put_mat2 | exact put_tab2 | exact put_tab3)) ?_ | refine w_store rfl (HV.eq (by constructor)) kn5 rfl (by exact trivial) (by exact trivial) (by exact sz5.symm) rfl ?_
    exact hRR
  apply sr tokTB (by kernel_rfl)
  · intro RR hRR
    first | refine w_ldc rfl kn29 (by constructor) (by exact sz29.symm) (by exact ag29.symm) ?_ | refine w_ldp rfl kn29 rfl (by constructor) (by exact sz29.symm) (by exact ag29.symm) ?_
    first | refine w_stw rfl (by constructor) kn29 rfl (by exact trivial) (by first | exact trivial | exact ssh_vec | exact ssh_alg | exact ssh_tab | exact ssh_mat | exact ⟨rfl, fun _ => trivial⟩ | exact ⟨rfl, fun _ => by rw [zr29]; exact ssh_vec⟩) (by exact sz29.symm) ?_ | refine w_sti rfl rfl kn29 rfl (by exact trivial) (by exact sz29.symm) ?_ | refine w_store rfl (HV.eq (by constructor)) kn29 rfl (by exact trivial) (by first | exact trivial | exact ssh_vec | exact ssh_alg | exact ssh_tab | exact ssh_mat | exact ⟨rfl, fun _ => trivial⟩ | exact ⟨rfl, fun _ => by rw [zr29]; exact ssh_vec⟩) (by exact sz29.symm) (put_in (by first | exact put_mat | exact put_tab | exact put_alg0 | exact put_alg1 | exact put_alg2 | exact put_alg3 | exact put_alg3i | exact put_alg2ij | exact put_alg2ijk | exact put_mat2 | exact put_tab2 | exact put_tab3)) ?_ | refine w_store rfl (HV.eq (by constructor)) kn29 rfl (by exact trivial) (by exact trivial) (by exact sz29.symm) rfl ?_
    exact hRR
  refine snd_ret ?_
  exact rt_c (T := TB) rfl kn29 rfl sz29.symm ag29.symm (fun V => m_vec (fun j hj => rfl))
end Go.Am
set_option linter.unusedVariables false
set_option linter.unusedSimpArgs false
set_option maxRecDepth 4000
namespace Go.Am
attribute [local irreducible] retQ
open Go.Proofs
theorem c_l01Small {p n : Int} {v : Nat → Int} (hv : B8 v) : ACalls Try.prog TB 82 [.int .i64 p, .int .i64 n, vecA v] (.bool (decide (smP p n v))) [] := by
  refine acalls_of tokTB Try.func82 rfl rfl (Nat.le_of_ble_eq_true rfl) ?_
  apply sr tokTB (by kernel_rfl)
  · intro RR hRR
    refine w_boxc (HV.eq (by constructor)) (by exact trivial) ?_
    refine w_assign (by constructor) ?_
    exact hRR
  refine snd_seq ?_
  apply sr tokTB (by kernel_rfl)
  · intro RR hRR
    refine w_assign (by constructor) ?_
    exact hRR
  refine snd_block ?_
  refine snd_loop (S := Nat) (fun i => ([(0, .int .i64 p), (1, .int .i64 n), (5, .cptr (vecA v)), (7, .int .i64 (i : Int))], [])) (fun i => i ≤ 6 ∧ ∀ j, j < i → smG p n v j) (fun i => 6 - i) (0) ρ0 ?_ ?_ ?_
  · exact ⟨⟨(by first | exact m_int rfl | exact m_int (by omega) | exact m_int (by simp; done) | (exact m_int (by simp; omega))), (by first | exact m_int rfl | exact m_int (by omega) | exact m_int (by simp; done) | (exact m_int (by simp; omega))), (m_cvec (fun _ _ => rfl)), (by first | exact m_int rfl | exact m_int (by omega) | exact m_int (by simp; done) | (exact m_int (by simp; omega))), trivial⟩, trivial, trivial⟩
  · exact ⟨Nat.zero_le _, fun j hj => by omega⟩
  intro i hi0
  refine sq (env2 := [(0, .int .i64 p), (1, .int .i64 n), (5, .cptr (vecA v)), (7, .int .i64 (i : Int))]) (ol2 := []) rfl rfl ?_
  obtain ⟨hi1, hi2⟩ := hi0
  refine snd_seq ?_
  apply sr tokTB (by kernel_rfl)
  · intro RR hRR
    refine w_move (by constructor) ?_
    refine w_lss rfl rfl ?_
    exact hRR
  refine snd_cond _ rfl (fun hc9 => ?_) (fun hc9 => ?_)
  · try simp only [Bool.not_eq_true', Bool.not_eq_false', Bool.not_eq_true, Bool.not_eq_false, decide_eq_true_eq, decide_eq_false_iff_not, Int.not_lt, Int.not_le, Classical.not_not, ne_eq] at hc9
    refine snd_skip ?_
    refine snd_seq ?_
    refine snd_block ?_
    apply srG (env' := (28, .bool (decide (p ≤ v i) || (decide (n ≤ (i : Int)) && decide (v i ≠ 0)))) :: (27, .any) :: (26, .any) :: (25, .any) :: (24, .any) :: (23, .any) :: (22, .any) :: (21, .any) :: (20, .any) :: (19, .any) :: (18, _) :: (17, _) :: (16, _) :: (15, _) :: (14, _) :: (13, _) :: (12, _) :: _) tokTB (by kernel_rfl)
    · intro RR hRR
      refine w_move (by constructor) ?_
      first | refine w_iac rfl rfl und29 kn5 (by exact sz5.symm) ?_ rfl ?_ | refine w_iap rfl rfl und29 kn5 rfl (by exact sz5.symm) rfl ?_ ?_
      · exact ⟨by omega, by omega⟩
      first | refine w_ldc rfl kn5 (by constructor) (by exact sz5.symm) (by exact ag5.symm) ?_ | refine w_ldp rfl kn5 rfl (by constructor) (by exact sz5.symm) (by exact ag5.symm) ?_
      refine w_conv rfl und5 und2 (by first | exact w64 (by omega) (by omega) | exact w64b (by assumption) _ | exact w64t (by assumption) _ _ _ | exact rfl) ?_
      refine w_move (by constructor) ?_
      refine w_geq rfl rfl ?_
      refine w_move (by constructor) ?_
      refine w_g rfl rfl (fun hg6 => ?_) (fun hg6 => ?_)
      · skip
        refine w_move (by constructor) ?_
        refine w_g_on rfl rfl hg6 ?_
        refine w_move (by constructor) ?_
        refine w_g_on rfl rfl hg6 ?_
        refine w_geq rfl rfl ?_
        refine w_g_on rfl rfl hg6 ?_
        refine w_move (by constructor) ?_
        refine w_g rfl rfl (fun hg10 => ?_) (fun hg10 => ?_)
        · skip
          refine w_move (by constructor) ?_
          refine w_g_on rfl rfl hg10 ?_
          first | refine w_iac rfl rfl und29 kn5 (by exact sz5.symm) ?_ rfl ?_ | refine w_iap rfl rfl und29 kn5 rfl (by exact sz5.symm) rfl ?_ ?_
          · exact ⟨by omega, by omega⟩
          refine w_g_on rfl rfl hg10 ?_
          first | refine w_ldc rfl kn5 (by constructor) (by exact sz5.symm) (by exact ag5.symm) ?_ | refine w_ldp rfl kn5 rfl (by constructor) (by exact sz5.symm) (by exact ag5.symm) ?_
          refine w_g_on rfl rfl hg10 ?_
          refine w_neq rfl rfl ?_
          refine w_g_on rfl rfl hg6 ?_
          refine w_pick_1 rfl hg10 (by constructor) ?_
          refine w_pick_0 rfl hg6 (by constructor) ?_
          try simp only [Int.toNat_natCast] at hg6 hg10
          exact hRR _ (EL.cons (.inr (by first | rfl | (simp only [hg6, hg10, Bool.true_or, Bool.false_or, Bool.true_and, Bool.false_and, Bool.or_true, Bool.or_false]; done) | (simp only [hg6, hg10, Bool.true_or, Bool.false_or, Bool.true_and, Bool.false_and, Bool.or_true, Bool.or_false]; rfl) | simp [hg6, hg10])) (EL.cons (.inl rfl) (EL.cons (.inl rfl) (EL.cons (.inl rfl) (EL.cons (.inl rfl) (EL.cons (.inl rfl) (EL.cons (.inl rfl) (EL.cons (.inl rfl) (EL.cons (.inl rfl) (EL.cons (.inl rfl) (EL.cons (.inr rfl) (EL.cons (.inr rfl) (EL.cons (.inr rfl) (EL.cons (.inr rfl) (EL.cons (.inr rfl) (EL.cons (.inr rfl) (EL.cons (.inr rfl) (EL.refl _))))))))))))))))))
        · have hg10 := eq_false_of_ne_true hg10
          refine w_g_off rfl rfl (by rw [hg10]; decide) ?_
          refine w_g_off rfl rfl (by rw [hg10]; decide) ?_
          refine w_g_off rfl rfl (by rw [hg10]; decide) ?_
          refine w_g_on rfl rfl hg6 ?_
          refine w_pick_0 rfl hg10 (by constructor) ?_
          refine w_pick_0 rfl hg6 (by constructor) ?_
          try simp only [Int.toNat_natCast] at hg6 hg10
          exact hRR _ (EL.cons (.inr (by first | rfl | (simp only [hg6, hg10, Bool.true_or, Bool.false_or, Bool.true_and, Bool.false_and, Bool.or_true, Bool.or_false]; done) | (simp only [hg6, hg10, Bool.true_or, Bool.false_or, Bool.true_and, Bool.false_and, Bool.or_true, Bool.or_false]; rfl) | simp [hg6, hg10])) (EL.cons (.inl rfl) (EL.cons (.inl rfl) (EL.cons (.inl rfl) (EL.cons (.inl rfl) (EL.cons (.inl rfl) (EL.cons (.inl rfl) (EL.cons (.inl rfl) (EL.cons (.inl rfl) (EL.cons (.inl rfl) (EL.cons (.inr rfl) (EL.cons (.inr rfl) (EL.cons (.inr rfl) (EL.cons (.inr rfl) (EL.cons (.inr rfl) (EL.cons (.inr rfl) (EL.cons (.inr rfl) (EL.refl _))))))))))))))))))
      · have hg6 := eq_true_of_ne_false hg6
        refine w_g_off rfl rfl (by rw [hg6]; decide) ?_
        refine w_g_off rfl rfl (by rw [hg6]; decide) ?_
        refine w_g_off rfl rfl (by rw [hg6]; decide) ?_
        refine w_g_und rfl rfl ?_
        refine w_g_und rfl rfl ?_
        refine w_g_und rfl rfl ?_
        refine w_g_und rfl rfl ?_
        refine w_g_off rfl rfl (by rw [hg6]; decide) ?_
        refine w_pick_1 rfl hg6 (by constructor) ?_
        try simp only [Int.toNat_natCast] at hg6
        exact hRR _ (EL.cons (.inr (by first | rfl | (simp only [hg6, Bool.true_or, Bool.false_or, Bool.true_and, Bool.false_and, Bool.or_true, Bool.or_false]; done) | (simp only [hg6, Bool.true_or, Bool.false_or, Bool.true_and, Bool.false_and, Bool.or_true, Bool.or_false]; rfl) | simp [hg6])) (EL.cons (.inl rfl) (EL.cons (.inl rfl) (EL.cons (.inl rfl) (EL.cons (.inl rfl) (EL.cons (.inl rfl) (EL.cons (.inl rfl) (EL.cons (.inl rfl) (EL.cons (.inl rfl) (EL.cons (.inl rfl) (EL.cons (.inr rfl) (EL.cons (.inr rfl) (EL.cons (.inr rfl) (EL.cons (.inr rfl) (EL.cons (.inr rfl) (EL.cons (.inr rfl) (EL.cons (.inr rfl) (EL.refl _))))))))))))))))))
    refine snd_cond _ rfl (fun hc28 => ?_) (fun hc28 => ?_)
    · skip
      apply sr tokTB (by kernel_rfl)
      · intro RR hRR
        refine w_assign (by constructor) ?_
        exact hRR
      refine snd_ret ?_
      exact rt (T := TB) (fun V => m_bool (by symm; rw [decide_eq_false_iff_not]; intro h; rw [smG_iff.1 (h i (by omega))] at hc28; cases hc28))
    · skip
      refine snd_skip ?_
      apply lr tokTB (by kernel_rfl)
      · intro RR hRR
        refine w_move (by constructor) ?_
        refine w_add rfl rfl (by first | exact w64 (by omega) (by omega) | exact w64b (by assumption) _ | exact w64t (by assumption) _ _ _ | exact rfl) ?_
        refine w_assign (by constructor) ?_
        exact hRR
      refine ⟨i + 1, ρ0, ?_, ⟨by omega, all_step hi2 (smG_iff.2 hc28)⟩, (by dsimp only; omega)⟩
      exact ⟨⟨(by first | exact m_int rfl | exact m_int (by omega) | exact m_int (by simp; done) | (exact m_int (by simp; omega))), (by first | exact m_int rfl | exact m_int (by omega) | exact m_int (by simp; done) | (exact m_int (by simp; omega))), (m_cvec (fun _ _ => rfl)), (by first | exact m_int rfl | exact m_int (by omega) | exact m_int (by simp; done) | (exact m_int (by simp; omega))), trivial⟩, trivial, trivial⟩
  · try simp only [Bool.not_eq_true', Bool.not_eq_false', Bool.not_eq_true, Bool.not_eq_false, decide_eq_true_eq, decide_eq_false_iff_not, Int.not_lt, Int.not_le, Classical.not_not, ne_eq] at hc9
    refine snd_exit ?_
    apply sr tokTB (by kernel_rfl)
    · intro RR hRR
      refine w_assign (by constructor) ?_
      exact hRR
    refine snd_ret ?_
    exact rt (T := TB) (fun V => m_bool (by symm; rw [decide_eq_true_eq]; exact fun j hj => hi2 j (by omega)))
theorem c_isVector {p n : Int} {v : Nat → Int} (hv : B8 v) : ACalls Try.prog TB 74 [vecA v, .int .i64 n, .int .i64 p] (.bool (decide (smP p n v))) [] := by
  refine acalls_of tokTB Try.func74 rfl rfl (Nat.le_of_ble_eq_true rfl) ?_
  apply sr tokTB (by kernel_rfl)
  · intro RR hRR
    refine w_boxc (HV.eq (by constructor)) (by exact trivial) ?_
    refine w_assign (by constructor) ?_
    exact hRR
  refine snd_seq ?_
  apply sr tokTB (by kernel_rfl)
  · intro RR hRR
    first | refine w_ldc rfl kn29 (by constructor) (by exact sz29.symm) (by exact ag29.symm) ?_ | refine w_ldp rfl kn29 rfl (by constructor) (by exact sz29.symm) (by exact ag29.symm) ?_
    refine w_move (by constructor) ?_
    exact hRR
  refine snd_block ?_
  refine snd_loop (S := Nat) (fun i => ([(1, .int .i64 n), (2, .int .i64 p), (9, vecA v), (10, .int .i64 (i : Int))], [])) (fun i => i ≤ 6 ∧ ∀ j, j < i → smG p n v j) (fun i => 6 - i) (0) ρ0 ?_ ?_ ?_
  · exact ⟨⟨(by first | exact m_int rfl | exact m_int (by omega) | exact m_int (by simp; done) | (exact m_int (by simp; omega))), (by first | exact m_int rfl | exact m_int (by omega) | exact m_int (by simp; done) | (exact m_int (by simp; omega))), (m_vec (fun _ _ => rfl)), (by first | exact m_int rfl | exact m_int (by omega) | exact m_int (by simp; done) | (exact m_int (by simp; omega))), trivial⟩, trivial, trivial⟩
  · exact ⟨Nat.zero_le _, fun j hj => by omega⟩
  intro i hi0
  refine sq (env2 := [(1, .int .i64 n), (2, .int .i64 p), (9, vecA v), (10, .int .i64 (i : Int))]) (ol2 := []) rfl rfl ?_
  obtain ⟨hi1, hi2⟩ := hi0
  apply sr tokTB (by kernel_rfl)
  · intro RR hRR
    refine w_lss rfl rfl ?_
    exact hRR
  refine snd_seq ?_
  refine snd_cond _ rfl (fun hc11 => ?_) (fun hc11 => ?_)
  · try simp only [Bool.not_eq_true', Bool.not_eq_false', Bool.not_eq_true, Bool.not_eq_false, decide_eq_true_eq, decide_eq_false_iff_not, Int.not_lt, Int.not_le, Classical.not_not, ne_eq] at hc11
    refine snd_skip ?_
    refine snd_seq ?_
    refine snd_block ?_
    apply sr tokTB (by kernel_rfl)
    · intro RR hRR
      refine w_move (by constructor) ?_
      refine w_ixa rfl rfl und29 kn5 (by exact sz5.symm) ?_ (by constructor) (by exact ag5.symm) ?_
      · exact ⟨by omega, by omega⟩
      refine w_assign (by constructor) ?_
      refine w_assign (by constructor) ?_
      exact hRR
    apply srG (env' := (26, .bool (decide (p ≤ v i) || (decide (n ≤ (i : Int)) && decide (v i ≠ 0)))) :: (25, .any) :: (24, .any) :: (23, .any) :: (22, .any) :: (21, .any) :: (20, .any) :: (19, .any) :: (18, _) :: (17, _) :: (16, _) :: (15, _) :: (14, _) :: _) tokTB (by kernel_rfl)
    · intro RR hRR
      refine w_move (by constructor) ?_
      refine w_conv rfl und5 und2 (by first | exact w64 (by omega) (by omega) | exact w64b (by assumption) _ | exact w64t (by assumption) _ _ _ | exact rfl) ?_
      refine w_move (by constructor) ?_
      refine w_geq rfl rfl ?_
      refine w_move (by constructor) ?_
      refine w_g rfl rfl (fun hg4 => ?_) (fun hg4 => ?_)
      · skip
        refine w_move (by constructor) ?_
        refine w_g_on rfl rfl hg4 ?_
        refine w_move (by constructor) ?_
        refine w_g_on rfl rfl hg4 ?_
        refine w_geq rfl rfl ?_
        refine w_g_on rfl rfl hg4 ?_
        refine w_move (by constructor) ?_
        refine w_g rfl rfl (fun hg8 => ?_) (fun hg8 => ?_)
        · skip
          refine w_move (by constructor) ?_
          refine w_g_on rfl rfl hg8 ?_
          refine w_neq rfl rfl ?_
          refine w_g_on rfl rfl hg4 ?_
          refine w_pick_1 rfl hg8 (by constructor) ?_
          refine w_pick_0 rfl hg4 (by constructor) ?_
          try simp only [Int.toNat_natCast] at hg4 hg8
          exact hRR _ (EL.cons (.inr (by first | rfl | (simp only [hg4, hg8, Bool.true_or, Bool.false_or, Bool.true_and, Bool.false_and, Bool.or_true, Bool.or_false]; done) | (simp only [hg4, hg8, Bool.true_or, Bool.false_or, Bool.true_and, Bool.false_and, Bool.or_true, Bool.or_false]; rfl) | simp [hg4, hg8])) (EL.cons (.inl rfl) (EL.cons (.inl rfl) (EL.cons (.inl rfl) (EL.cons (.inl rfl) (EL.cons (.inl rfl) (EL.cons (.inl rfl) (EL.cons (.inl rfl) (EL.cons (.inr rfl) (EL.cons (.inr rfl) (EL.cons (.inr rfl) (EL.cons (.inr rfl) (EL.cons (.inr rfl) (EL.refl _))))))))))))))
        · have hg8 := eq_false_of_ne_true hg8
          refine w_g_off rfl rfl (by rw [hg8]; decide) ?_
          refine w_g_on rfl rfl hg4 ?_
          refine w_pick_0 rfl hg8 (by constructor) ?_
          refine w_pick_0 rfl hg4 (by constructor) ?_
          try simp only [Int.toNat_natCast] at hg4 hg8
          exact hRR _ (EL.cons (.inr (by first | rfl | (simp only [hg4, hg8, Bool.true_or, Bool.false_or, Bool.true_and, Bool.false_and, Bool.or_true, Bool.or_false]; done) | (simp only [hg4, hg8, Bool.true_or, Bool.false_or, Bool.true_and, Bool.false_and, Bool.or_true, Bool.or_false]; rfl) | simp [hg4, hg8])) (EL.cons (.inl rfl) (EL.cons (.inl rfl) (EL.cons (.inl rfl) (EL.cons (.inl rfl) (EL.cons (.inl rfl) (EL.cons (.inl rfl) (EL.cons (.inl rfl) (EL.cons (.inr rfl) (EL.cons (.inr rfl) (EL.cons (.inr rfl) (EL.cons (.inr rfl) (EL.cons (.inr rfl) (EL.refl _))))))))))))))
      · have hg4 := eq_true_of_ne_false hg4
        refine w_g_off rfl rfl (by rw [hg4]; decide) ?_
        refine w_g_off rfl rfl (by rw [hg4]; decide) ?_
        refine w_g_off rfl rfl (by rw [hg4]; decide) ?_
        refine w_g_und rfl rfl ?_
        refine w_g_und rfl rfl ?_
        refine w_g_off rfl rfl (by rw [hg4]; decide) ?_
        refine w_pick_1 rfl hg4 (by constructor) ?_
        try simp only [Int.toNat_natCast] at hg4
        exact hRR _ (EL.cons (.inr (by first | rfl | (simp only [hg4, Bool.true_or, Bool.false_or, Bool.true_and, Bool.false_and, Bool.or_true, Bool.or_false]; done) | (simp only [hg4, Bool.true_or, Bool.false_or, Bool.true_and, Bool.false_and, Bool.or_true, Bool.or_false]; rfl) | simp [hg4])) (EL.cons (.inl rfl) (EL.cons (.inl rfl) (EL.cons (.inl rfl) (EL.cons (.inl rfl) (EL.cons (.inl rfl) (EL.cons (.inl rfl) (EL.cons (.inl rfl) (EL.cons (.inr rfl) (EL.cons (.inr rfl) (EL.cons (.inr rfl) (EL.cons (.inr rfl) (EL.cons (.inr rfl) (EL.refl _))))))))))))))
    refine snd_cond _ rfl (fun hc26 => ?_) (fun hc26 => ?_)
    · skip
      apply sr tokTB (by kernel_rfl)
      · intro RR hRR
        refine w_assign (by constructor) ?_
        exact hRR
      refine snd_ret ?_
      exact rt (T := TB) (fun V => m_bool (by symm; rw [decide_eq_false_iff_not]; intro h; rw [smG_iff.1 (h i (by omega))] at hc26; cases hc26))
    · skip
      refine snd_skip ?_
      apply lr tokTB (by kernel_rfl)
      · intro RR hRR
        refine w_add rfl rfl (by first | exact w64 (by omega) (by omega) | exact w64b (by assumption) _ | exact w64t (by assumption) _ _ _ | exact rfl) ?_
        refine w_move (by constructor) ?_
        exact hRR
      refine ⟨i + 1, ρ0, ?_, ⟨by omega, all_step hi2 (smG_iff.2 hc26)⟩, (by dsimp only; omega)⟩
      exact ⟨⟨(by first | exact m_int rfl | exact m_int (by omega) | exact m_int (by simp; done) | (exact m_int (by simp; omega))), (by first | exact m_int rfl | exact m_int (by omega) | exact m_int (by simp; done) | (exact m_int (by simp; omega))), (m_vec (fun _ _ => rfl)), (by first | exact m_int rfl | exact m_int (by omega) | exact m_int (by simp; done) | (exact m_int (by simp; omega))), trivial⟩, trivial, trivial⟩
  · try simp only [Bool.not_eq_true', Bool.not_eq_false', Bool.not_eq_true, Bool.not_eq_false, decide_eq_true_eq, decide_eq_false_iff_not, Int.not_lt, Int.not_le, Classical.not_not, ne_eq] at hc11
    refine snd_exit ?_
    apply sr tokTB (by kernel_rfl)
    · intro RR hRR
      refine w_assign (by constructor) ?_
      exact hRR
    refine snd_ret ?_
    exact rt (T := TB) (fun V => m_bool (by symm; rw [decide_eq_true_eq]; exact fun j hj => hi2 j (by omega)))
end Go.Am
set_option linter.unusedVariables false
set_option linter.unusedSimpArgs false
set_option maxRecDepth 4000
namespace Go.Am
attribute [local irreducible] retQ
open Go.Proofs
theorem c_l01Times {p : Int} {n : Nat} {T : Nat → Nat → Nat → Int} {fo u v : Nat → Int} (hp : 0 < p) (hp2 : p < 256) (hn : n ≤ 6) (hT : B8T T) (hu : B8 u) (hv : B8 v) : ACalls Try.prog TB 43 [algA p (n : Int) T fo, vecA u, vecA v] (vecA (timesF p n T u v)) [] := by
  refine acalls_of tokTB Try.func43 rfl rfl (Nat.le_of_ble_eq_true rfl) ?_
  apply sr tokTB (by kernel_rfl)
  · intro RR hRR
    refine w_boxc (HV.eq (by constructor)) (by exact trivial) ?_
    refine w_boxc (HV.eq (by constructor)) (by exact trivial) ?_
    refine w_boxc (HV.eq (by constructor)) (by exact trivial) ?_
    refine w_alloc kn29 rfl zr29 ?_
    exact hRR
  apply sr tokTB (by kernel_rfl)
  · intro RR hRR
    refine w_bld_a kn29 zr29 und29 kn5 (fun _ => (by exact sz5.symm)) trivial rfl (by exact sz5.symm) ?_
    refine w_alloc kn29 rfl zr29 ?_
    first | refine w_stw rfl (by constructor) kn29 rfl (by exact trivial) (by first | exact trivial | exact ssh_vec | exact ssh_alg | exact ssh_tab | exact ssh_mat | exact ⟨rfl, fun _ => trivial⟩ | exact ⟨rfl, fun _ => by rw [zr29]; exact ssh_vec⟩) (by exact sz29.symm) ?_ | refine w_sti rfl rfl kn29 rfl (by exact trivial) (by exact sz29.symm) ?_ | refine w_store rfl (HV.eq (by constructor)) kn29 rfl (by exact trivial) (by first | exact trivial | exact ssh_vec | exact ssh_alg | exact ssh_tab | exact ssh_mat | exact ⟨rfl, fun _ => trivial⟩ | exact ⟨rfl, fun _ => by rw [zr29]; exact ssh_vec⟩) (by exact sz29.symm) (put_in (by first | exact put_mat | exact put_tab | exact put_alg0 | exact put_alg1 | exact put_alg2 | exact put_alg3 | exact put_alg3i | exact put_alg2ij | exact put_alg2ijk | exact put_mat2 | exact put_tab2 | exact put_tab3)) ?_ | refine w_store rfl (HV.eq (by constructor)) kn29 rfl (by exact trivial) (by exact trivial) (by exact sz29.symm) rfl ?_
    exact hRR
  refine snd_seq ?_
  apply sr tokTB (by kernel_rfl)
  · intro RR hRR
    refine w_assign (by constructor) ?_
    exact hRR
  refine snd_block ?_
  refine snd_loop (S := Nat) (fun k => ([(3, .cptr (algA p (n : Int) T fo)), (4, .cptr (vecA u)), (5, .cptr (vecA v)), (6, .ptr 6 0 [] 0 (vecA (fun _ => 0))), (7, .ptr 7 0 [] 0 (vecA (fun _ => 0))), (8, .int .i64 (k : Int))], [(6, .one (vecA (fun _ => 0)) (vecA (fun _ => 0))), (7, .one (vecA (fun _ => 0)) (vecA (cutF (timesF p n T u v) k)))])) (fun k => k ≤ n) (fun k => n - k) (0) ρ0 ?_ ?_ ?_
  · exact ⟨⟨m_calg, (m_cvec (fun _ _ => rfl)), (m_cvec (fun _ _ => rfl)), ⟨rfl, rfl, rfl, rfl, rfl⟩, ⟨rfl, rfl, rfl, rfl, rfl⟩, (by first | exact m_int rfl | exact m_int (by omega) | exact m_int (by simp; done) | (exact m_int (by simp; omega))), trivial⟩, ⟨⟨rfl, (by first | exact trivial | exact ssh_vec | exact ssh_alg | exact ssh_tab | exact ssh_mat | exact ⟨rfl, fun _ => trivial⟩ | exact ⟨rfl, fun _ => by rw [zr29]; exact ssh_vec⟩), (by exact mt_vec (fun _ _ => rfl))⟩, ⟨rfl, (by first | exact trivial | exact ssh_vec | exact ssh_alg | exact ssh_tab | exact ssh_mat | exact ⟨rfl, fun _ => trivial⟩ | exact ⟨rfl, fun _ => by rw [zr29]; exact ssh_vec⟩), (by exact mt_vec (fun j _ => rfl))⟩, trivial⟩, ⟨⟨(fun h => by first | exact ⟨rfl, rfl⟩ | exact absurd h (by decide)), (fun h => by first | exact ⟨rfl, rfl⟩ | exact absurd h (by decide)), trivial⟩, ⟨(fun h => by first | exact ⟨rfl, rfl⟩ | exact absurd h (by decide)), (fun h => by first | exact ⟨rfl, rfl⟩ | exact absurd h (by decide)), trivial⟩, trivial⟩⟩
  · exact Nat.zero_le _
  intro k hi0
  refine sq (env2 := [(3, .cptr (algA p (n : Int) T fo)), (4, .cptr (vecA u)), (5, .cptr (vecA v)), (6, .ptr 6 0 [] 0 (vecA (fun _ => 0))), (7, .ptr 7 0 [] 0 (vecA (fun _ => 0))), (8, .int .i64 (k : Int))]) (ol2 := [(6, .one (vecA (fun _ => 0)) (vecA (fun _ => 0))), (7, .one (vecA (fun _ => 0)) (vecA (cutF (timesF p n T u v) k)))]) rfl rfl ?_
  refine snd_seq ?_
  apply sr tokTB (by kernel_rfl)
  · intro RR hRR
    refine w_move (by constructor) ?_
    first | refine w_fac rfl und31 rfl kn2 nz2 (by decide) rfl (by constructor) ?_ | refine w_fap rfl und31 rfl kn2 nz2 rfl (by decide) rfl ?_
    first | refine w_ldc rfl kn2 (by constructor) (by exact sz2.symm) (by exact ag2.symm) ?_ | refine w_ldp rfl kn2 rfl (by constructor) (by exact sz2.symm) (by exact ag2.symm) ?_
    refine w_lss rfl rfl ?_
    exact hRR
  refine snd_cond _ rfl (fun hc16 => ?_) (fun hc16 => ?_)
  · try simp only [Bool.not_eq_true', Bool.not_eq_false', Bool.not_eq_true, Bool.not_eq_false, decide_eq_true_eq, decide_eq_false_iff_not, Int.not_lt, Int.not_le, Classical.not_not, ne_eq] at hc16
    refine snd_skip ?_
    refine snd_seq ?_
    refine snd_block ?_
    apply sr tokTB (by kernel_rfl)
    · intro RR hRR
      refine w_assign (by constructor) ?_
      exact hRR
    refine snd_seq ?_
    apply sr tokTB (by kernel_rfl)
    · intro RR hRR
      refine w_assign (by constructor) ?_
      exact hRR
    refine snd_block ?_
    refine snd_loop (S := Nat) (fun i => ([(3, .cptr (algA p (n : Int) T fo)), (4, .cptr (vecA u)), (5, .cptr (vecA v)), (6, .ptr 6 0 [] 0 (vecA (fun _ => 0))), (7, .ptr 7 0 [] 0 (vecA (fun _ => 0))), (8, .int .i64 (k : Int)), (9, .int .i64 (sumZ (rowS T u v n k) i)), (10, .int .i64 (i : Int))], [(6, .one (vecA (fun _ => 0)) (vecA (fun _ => 0))), (7, .one (vecA (fun _ => 0)) (vecA (cutF (timesF p n T u v) k)))])) (fun i => i ≤ n) (fun i => n - i) (0) ρ0 ?_ ?_ ?_
    · exact ⟨⟨m_calg, (m_cvec (fun _ _ => rfl)), (m_cvec (fun _ _ => rfl)), ⟨rfl, rfl, rfl, rfl, rfl⟩, ⟨rfl, rfl, rfl, rfl, rfl⟩, (by first | exact m_int rfl | exact m_int (by omega) | exact m_int (by simp; done) | (exact m_int (by simp; omega))), (by first | exact m_int rfl | exact m_int (by omega) | exact m_int (by simp; done) | (exact m_int (by simp; omega))), (by first | exact m_int rfl | exact m_int (by omega) | exact m_int (by simp; done) | (exact m_int (by simp; omega))), trivial⟩, ⟨⟨rfl, (by first | exact trivial | exact ssh_vec | exact ssh_alg | exact ssh_tab | exact ssh_mat | exact ⟨rfl, fun _ => trivial⟩ | exact ⟨rfl, fun _ => by rw [zr29]; exact ssh_vec⟩), (by exact mt_vec (fun _ _ => rfl))⟩, ⟨rfl, (by first | exact trivial | exact ssh_vec | exact ssh_alg | exact ssh_tab | exact ssh_mat | exact ⟨rfl, fun _ => trivial⟩ | exact ⟨rfl, fun _ => by rw [zr29]; exact ssh_vec⟩), (by exact mt_vec (fun _ _ => rfl))⟩, trivial⟩, ⟨⟨(fun h => by first | exact ⟨rfl, rfl⟩ | exact absurd h (by decide)), (fun h => by first | exact ⟨rfl, rfl⟩ | exact absurd h (by decide)), trivial⟩, ⟨(fun h => by first | exact ⟨rfl, rfl⟩ | exact absurd h (by decide)), (fun h => by first | exact ⟨rfl, rfl⟩ | exact absurd h (by decide)), trivial⟩, trivial⟩⟩
    · exact Nat.zero_le _
    intro i hi2
    refine sq (env2 := [(3, .cptr (algA p (n : Int) T fo)), (4, .cptr (vecA u)), (5, .cptr (vecA v)), (6, .ptr 6 0 [] 0 (vecA (fun _ => 0))), (7, .ptr 7 0 [] 0 (vecA (fun _ => 0))), (8, .int .i64 (k : Int)), (9, .int .i64 (sumZ (rowS T u v n k) i)), (10, .int .i64 (i : Int))]) (ol2 := [(6, .one (vecA (fun _ => 0)) (vecA (fun _ => 0))), (7, .one (vecA (fun _ => 0)) (vecA (cutF (timesF p n T u v) k)))]) rfl rfl ?_
    refine snd_seq ?_
    apply sr tokTB (by kernel_rfl)
    · intro RR hRR
      refine w_move (by constructor) ?_
      first | refine w_fac rfl und31 rfl kn2 nz2 (by decide) rfl (by constructor) ?_ | refine w_fap rfl und31 rfl kn2 nz2 rfl (by decide) rfl ?_
      first | refine w_ldc rfl kn2 (by constructor) (by exact sz2.symm) (by exact ag2.symm) ?_ | refine w_ldp rfl kn2 rfl (by constructor) (by exact sz2.symm) (by exact ag2.symm) ?_
      refine w_lss rfl rfl ?_
      exact hRR
    refine snd_cond _ rfl (fun hc22 => ?_) (fun hc22 => ?_)
    · try simp only [Bool.not_eq_true', Bool.not_eq_false', Bool.not_eq_true, Bool.not_eq_false, decide_eq_true_eq, decide_eq_false_iff_not, Int.not_lt, Int.not_le, Classical.not_not, ne_eq] at hc22
      refine snd_skip ?_
      refine snd_seq ?_
      refine snd_block ?_
      apply sr tokTB (by kernel_rfl)
      · intro RR hRR
        refine w_assign (by constructor) ?_
        exact hRR
      refine snd_block ?_
      refine snd_loop (S := Nat) (fun j => ([(3, .cptr (algA p (n : Int) T fo)), (4, .cptr (vecA u)), (5, .cptr (vecA v)), (6, .ptr 6 0 [] 0 (vecA (fun _ => 0))), (7, .ptr 7 0 [] 0 (vecA (fun _ => 0))), (8, .int .i64 (k : Int)), (9, .int .i64 (sumZ (rowS T u v n k) i + sumZ (tm T u v k i) j)), (10, .int .i64 (i : Int)), (11, .int .i64 (j : Int))], [(6, .one (vecA (fun _ => 0)) (vecA (fun _ => 0))), (7, .one (vecA (fun _ => 0)) (vecA (cutF (timesF p n T u v) k)))])) (fun j => j ≤ n) (fun j => n - j) (0) ρ0 ?_ ?_ ?_
      · exact ⟨⟨m_calg, (m_cvec (fun _ _ => rfl)), (m_cvec (fun _ _ => rfl)), ⟨rfl, rfl, rfl, rfl, rfl⟩, ⟨rfl, rfl, rfl, rfl, rfl⟩, (by first | exact m_int rfl | exact m_int (by omega) | exact m_int (by simp; done) | (exact m_int (by simp; omega))), (by exact m_int (by simp [sumZ])), (by first | exact m_int rfl | exact m_int (by omega) | exact m_int (by simp; done) | (exact m_int (by simp; omega))), (by first | exact m_int rfl | exact m_int (by omega) | exact m_int (by simp; done) | (exact m_int (by simp; omega))), trivial⟩, ⟨⟨rfl, (by first | exact trivial | exact ssh_vec | exact ssh_alg | exact ssh_tab | exact ssh_mat | exact ⟨rfl, fun _ => trivial⟩ | exact ⟨rfl, fun _ => by rw [zr29]; exact ssh_vec⟩), (by exact mt_vec (fun _ _ => rfl))⟩, ⟨rfl, (by first | exact trivial | exact ssh_vec | exact ssh_alg | exact ssh_tab | exact ssh_mat | exact ⟨rfl, fun _ => trivial⟩ | exact ⟨rfl, fun _ => by rw [zr29]; exact ssh_vec⟩), (by exact mt_vec (fun _ _ => rfl))⟩, trivial⟩, ⟨⟨(fun h => by first | exact ⟨rfl, rfl⟩ | exact absurd h (by decide)), (fun h => by first | exact ⟨rfl, rfl⟩ | exact absurd h (by decide)), trivial⟩, ⟨(fun h => by first | exact ⟨rfl, rfl⟩ | exact absurd h (by decide)), (fun h => by first | exact ⟨rfl, rfl⟩ | exact absurd h (by decide)), trivial⟩, trivial⟩⟩
      · exact Nat.zero_le _
      intro j hi4
      refine sq (env2 := [(3, .cptr (algA p (n : Int) T fo)), (4, .cptr (vecA u)), (5, .cptr (vecA v)), (6, .ptr 6 0 [] 0 (vecA (fun _ => 0))), (7, .ptr 7 0 [] 0 (vecA (fun _ => 0))), (8, .int .i64 (k : Int)), (9, .int .i64 (sumZ (rowS T u v n k) i + sumZ (tm T u v k i) j)), (10, .int .i64 (i : Int)), (11, .int .i64 (j : Int))]) (ol2 := [(6, .one (vecA (fun _ => 0)) (vecA (fun _ => 0))), (7, .one (vecA (fun _ => 0)) (vecA (cutF (timesF p n T u v) k)))]) rfl rfl ?_
      refine snd_seq ?_
      apply sr tokTB (by kernel_rfl)
      · intro RR hRR
        refine w_move (by constructor) ?_
        first | refine w_fac rfl und31 rfl kn2 nz2 (by decide) rfl (by constructor) ?_ | refine w_fap rfl und31 rfl kn2 nz2 rfl (by decide) rfl ?_
        first | refine w_ldc rfl kn2 (by constructor) (by exact sz2.symm) (by exact ag2.symm) ?_ | refine w_ldp rfl kn2 rfl (by constructor) (by exact sz2.symm) (by exact ag2.symm) ?_
        refine w_lss rfl rfl ?_
        exact hRR
      refine snd_cond _ rfl (fun hc28 => ?_) (fun hc28 => ?_)
      · try simp only [Bool.not_eq_true', Bool.not_eq_false', Bool.not_eq_true, Bool.not_eq_false, decide_eq_true_eq, decide_eq_false_iff_not, Int.not_lt, Int.not_le, Classical.not_not, ne_eq] at hc28
        refine snd_skip ?_
        refine snd_seq ?_
        refine snd_block ?_
        apply ld tokTB mixed (by kernel_rfl) (by kernel_rfl)
        · intro RR hRR
          refine w_move (by constructor) ?_
          refine w_move (by constructor) ?_
          first | refine w_iac rfl rfl und29 kn5 (by exact sz5.symm) ?_ rfl ?_ | refine w_iap rfl rfl und29 kn5 rfl (by exact sz5.symm) rfl ?_ ?_
          · exact ⟨by omega, by omega⟩
          first | refine w_ldc rfl kn5 (by constructor) (by exact sz5.symm) (by exact ag5.symm) ?_ | refine w_ldp rfl kn5 rfl (by constructor) (by exact sz5.symm) (by exact ag5.symm) ?_
          refine w_conv rfl und5 und2 (by first | exact w64 (by omega) (by omega) | exact w64b (by assumption) _ | exact w64t (by assumption) _ _ _ | exact rfl) ?_
          refine w_move (by constructor) ?_
          first | refine w_iac rfl rfl und29 kn5 (by exact sz5.symm) ?_ rfl ?_ | refine w_iap rfl rfl und29 kn5 rfl (by exact sz5.symm) rfl ?_ ?_
          · exact ⟨by omega, by omega⟩
          first | refine w_ldc rfl kn5 (by constructor) (by exact sz5.symm) (by exact ag5.symm) ?_ | refine w_ldp rfl kn5 rfl (by constructor) (by exact sz5.symm) (by exact ag5.symm) ?_
          refine w_conv rfl und5 und2 (by first | exact w64 (by omega) (by omega) | exact w64b (by assumption) _ | exact w64t (by assumption) _ _ _ | exact rfl) ?_
          refine w_mul rfl rfl (by exact w_uv hu hv i j) ?_
          refine w_move (by constructor) ?_
          refine w_move (by constructor) ?_
          refine w_move (by constructor) ?_
          first | refine w_fac rfl und31 rfl kn24 nz24 (by decide) rfl (by constructor) ?_ | refine w_fap rfl und31 rfl kn24 nz24 rfl (by decide) rfl ?_
          first | refine w_iac rfl rfl und24 kn23 (by exact sz23.symm) ?_ rfl ?_ | refine w_iap rfl rfl und24 kn23 rfl (by exact sz23.symm) rfl ?_ ?_
          · exact ⟨by omega, by omega⟩
          first | refine w_iac rfl rfl und23 kn22 (by exact sz22.symm) ?_ rfl ?_ | refine w_iap rfl rfl und23 kn22 rfl (by exact sz22.symm) rfl ?_ ?_
          · exact ⟨by omega, by omega⟩
          first | refine w_iac rfl rfl und22 kn5 (by exact sz5.symm) ?_ rfl ?_ | refine w_iap rfl rfl und22 kn5 rfl (by exact sz5.symm) rfl ?_ ?_
          · exact ⟨by omega, by omega⟩
          first | refine w_ldc rfl kn5 (by constructor) (by exact sz5.symm) (by exact ag5.symm) ?_ | refine w_ldp rfl kn5 rfl (by constructor) (by exact sz5.symm) (by exact ag5.symm) ?_
          refine w_conv rfl und5 und2 (by first | exact w64 (by omega) (by omega) | exact w64b (by assumption) _ | exact w64t (by assumption) _ _ _ | exact rfl) ?_
          refine w_mul rfl rfl (by exact w_tm hu hv hT k i j) ?_
          refine w_add rfl rfl (by exact w_acc hu hv hT hn k (by omega) (by omega)) ?_
          refine w_assign (by constructor) ?_
          exact hRR
        apply lr tokTB (by kernel_rfl)
        · intro RR hRR
          refine w_move (by constructor) ?_
          refine w_add rfl rfl (by first | exact w64 (by omega) (by omega) | exact w64b (by assumption) _ | exact w64t (by assumption) _ _ _ | exact rfl) ?_
          refine w_assign (by constructor) ?_
          exact hRR
        refine ⟨j + 1, ρ0, ?_, (by omega), (by dsimp only; omega)⟩
        exact ⟨⟨m_calg, (m_cvec (fun _ _ => rfl)), (m_cvec (fun _ _ => rfl)), ⟨rfl, rfl, rfl, rfl, rfl⟩, ⟨rfl, rfl, rfl, rfl, rfl⟩, (by first | exact m_int rfl | exact m_int (by omega) | exact m_int (by simp; done) | (exact m_int (by simp; omega))), (by first | exact m_int rfl | exact m_int (by omega) | exact m_int (by simp; done) | (exact m_int (by simp; omega))), (by first | exact m_int rfl | exact m_int (by omega) | exact m_int (by simp; done) | (exact m_int (by simp; omega))), (by first | exact m_int rfl | exact m_int (by omega) | exact m_int (by simp; done) | (exact m_int (by simp; omega))), trivial⟩, ⟨⟨rfl, (by first | exact trivial | exact ssh_vec | exact ssh_alg | exact ssh_tab | exact ssh_mat | exact ⟨rfl, fun _ => trivial⟩ | exact ⟨rfl, fun _ => by rw [zr29]; exact ssh_vec⟩), (by exact mt_vec (fun _ _ => rfl))⟩, ⟨rfl, (by first | exact trivial | exact ssh_vec | exact ssh_alg | exact ssh_tab | exact ssh_mat | exact ⟨rfl, fun _ => trivial⟩ | exact ⟨rfl, fun _ => by rw [zr29]; exact ssh_vec⟩), (by exact mt_vec (fun _ _ => rfl))⟩, trivial⟩, ⟨⟨(fun h => by first | exact ⟨rfl, rfl⟩ | exact absurd h (by decide)), (fun h => by first | exact ⟨rfl, rfl⟩ | exact absurd h (by decide)), trivial⟩, ⟨(fun h => by first | exact ⟨rfl, rfl⟩ | exact absurd h (by decide)), (fun h => by first | exact ⟨rfl, rfl⟩ | exact absurd h (by decide)), trivial⟩, trivial⟩⟩
      · try simp only [Bool.not_eq_true', Bool.not_eq_false', Bool.not_eq_true, Bool.not_eq_false, decide_eq_true_eq, decide_eq_false_iff_not, Int.not_lt, Int.not_le, Classical.not_not, ne_eq] at hc28
        have hjn : n = j := by omega
        subst hjn
        refine snd_exit ?_
        apply lr tokTB (by kernel_rfl)
        · intro RR hRR
          refine w_move (by constructor) ?_
          refine w_add rfl rfl (by first | exact w64 (by omega) (by omega) | exact w64b (by assumption) _ | exact w64t (by assumption) _ _ _ | exact rfl) ?_
          refine w_assign (by constructor) ?_
          exact hRR
        refine ⟨i + 1, ρ0, ?_, (by omega), (by dsimp only; omega)⟩
        exact ⟨⟨m_calg, (m_cvec (fun _ _ => rfl)), (m_cvec (fun _ _ => rfl)), ⟨rfl, rfl, rfl, rfl, rfl⟩, ⟨rfl, rfl, rfl, rfl, rfl⟩, (by first | exact m_int rfl | exact m_int (by omega) | exact m_int (by simp; done) | (exact m_int (by simp; omega))), (by first | exact m_int rfl | exact m_int (by omega) | exact m_int (by simp; done) | (exact m_int (by simp; omega))), (by first | exact m_int rfl | exact m_int (by omega) | exact m_int (by simp; done) | (exact m_int (by simp; omega))), trivial⟩, ⟨⟨rfl, (by first | exact trivial | exact ssh_vec | exact ssh_alg | exact ssh_tab | exact ssh_mat | exact ⟨rfl, fun _ => trivial⟩ | exact ⟨rfl, fun _ => by rw [zr29]; exact ssh_vec⟩), (by exact mt_vec (fun _ _ => rfl))⟩, ⟨rfl, (by first | exact trivial | exact ssh_vec | exact ssh_alg | exact ssh_tab | exact ssh_mat | exact ⟨rfl, fun _ => trivial⟩ | exact ⟨rfl, fun _ => by rw [zr29]; exact ssh_vec⟩), (by exact mt_vec (fun _ _ => rfl))⟩, trivial⟩, ⟨⟨(fun h => by first | exact ⟨rfl, rfl⟩ | exact absurd h (by decide)), (fun h => by first | exact ⟨rfl, rfl⟩ | exact absurd h (by decide)), trivial⟩, ⟨(fun h => by first | exact ⟨rfl, rfl⟩ | exact absurd h (by decide)), (fun h => by first | exact ⟨rfl, rfl⟩ | exact absurd h (by decide)), trivial⟩, trivial⟩⟩
    · try simp only [Bool.not_eq_true', Bool.not_eq_false', Bool.not_eq_true, Bool.not_eq_false, decide_eq_true_eq, decide_eq_false_iff_not, Int.not_lt, Int.not_le, Classical.not_not, ne_eq] at hc22
      have hin : n = i := by omega
      subst hin
      refine snd_exit ?_
      apply lr tokTB (by kernel_rfl)
      · intro RR hRR
        refine w_move (by constructor) ?_
        refine w_move (by constructor) ?_
        first | refine w_fac rfl und31 rfl kn2 nz2 (by decide) rfl (by constructor) ?_ | refine w_fap rfl und31 rfl kn2 nz2 rfl (by decide) rfl ?_
        first | refine w_ldc rfl kn2 (by constructor) (by exact sz2.symm) (by exact ag2.symm) ?_ | refine w_ldp rfl kn2 rfl (by constructor) (by exact sz2.symm) (by exact ag2.symm) ?_
        refine w_rem rfl rfl (by first | assumption | omega) ?_
        refine w_conv rfl und2 und5 (by exact w_fin hu hv hT hn (by omega) hp hp2) ?_
        first | refine w_iac rfl rfl und29 kn5 (by exact sz5.symm) ?_ rfl ?_ | refine w_iap rfl rfl und29 kn5 rfl (by exact sz5.symm) rfl ?_ ?_
        · exact ⟨by omega, by omega⟩
        first | refine w_stw rfl (by constructor) kn5 rfl (by exact trivial) (by first | exact trivial | exact ssh_vec | exact ssh_alg | exact ssh_tab | exact ssh_mat | exact ⟨rfl, fun _ => trivial⟩ | exact ⟨rfl, fun _ => by rw [zr29]; exact ssh_vec⟩) (by exact sz5.symm) ?_ | refine w_sti rfl rfl kn5 rfl (by exact trivial) (by exact sz5.symm) ?_ | refine w_store rfl (HV.eq (by constructor)) kn5 rfl (by exact trivial) (by first | exact trivial | exact ssh_vec | exact ssh_alg | exact ssh_tab | exact ssh_mat | exact ⟨rfl, fun _ => trivial⟩ | exact ⟨rfl, fun _ => by rw [zr29]; exact ssh_vec⟩) (by exact sz5.symm) (put_in (by first | exact put_mat | exact put_tab | exact put_alg0 | exact put_alg1 | exact put_alg2 | exact put_alg3 | exact put_alg3i | exact put_alg2ij | exact put_alg2ijk | exact put_mat2 | exact put_tab2 | exact put_tab3)) ?_ | refine w_store rfl (HV.eq (by constructor)) kn5 rfl (by exact trivial) (by exact trivial) (by exact sz5.symm) rfl ?_
        exact hRR
      apply lr tokTB (by kernel_rfl)
      · intro RR hRR
        refine w_move (by constructor) ?_
        refine w_add rfl rfl (by first | exact w64 (by omega) (by omega) | exact w64b (by assumption) _ | exact w64t (by assumption) _ _ _ | exact rfl) ?_
        refine w_assign (by constructor) ?_
        exact hRR
      refine ⟨k + 1, ρ0, ?_, (by omega), (by dsimp only; omega)⟩
      exact ⟨⟨m_calg, (m_cvec (fun _ _ => rfl)), (m_cvec (fun _ _ => rfl)), ⟨rfl, rfl, rfl, rfl, rfl⟩, ⟨rfl, rfl, rfl, rfl, rfl⟩, (by first | exact m_int rfl | exact m_int (by omega) | exact m_int (by simp; done) | (exact m_int (by simp; omega))), trivial⟩, ⟨⟨rfl, (by first | exact trivial | exact ssh_vec | exact ssh_alg | exact ssh_tab | exact ssh_mat | exact ⟨rfl, fun _ => trivial⟩ | exact ⟨rfl, fun _ => by rw [zr29]; exact ssh_vec⟩), (by exact mt_vec (fun _ _ => rfl))⟩, ⟨rfl, (by first | exact trivial | exact ssh_vec | exact ssh_alg | exact ssh_tab | exact ssh_mat | exact ⟨rfl, fun _ => trivial⟩ | exact ⟨rfl, fun _ => by rw [zr29]; exact ssh_vec⟩), (by exact mt_vec (fun j _ => upd_cut _ k j))⟩, trivial⟩, ⟨⟨(fun h => by first | exact ⟨rfl, rfl⟩ | exact absurd h (by decide)), (fun h => by first | exact ⟨rfl, rfl⟩ | exact absurd h (by decide)), trivial⟩, ⟨(fun h => by first | exact ⟨rfl, rfl⟩ | exact absurd h (by decide)), (fun h => by first | exact ⟨rfl, rfl⟩ | exact absurd h (by decide)), trivial⟩, trivial⟩⟩
  · try simp only [Bool.not_eq_true', Bool.not_eq_false', Bool.not_eq_true, Bool.not_eq_false, decide_eq_true_eq, decide_eq_false_iff_not, Int.not_lt, Int.not_le, Classical.not_not, ne_eq] at hc16
    have hkn : n = k := by omega
    subst hkn
    refine snd_exit ?_
    apply sr tokTB (by kernel_rfl)
    · intro RR hRR
      first | refine w_ldc rfl kn29 (by constructor) (by exact sz29.symm) (by exact ag29.symm) ?_ | refine w_ldp rfl kn29 rfl (by constructor) (by exact sz29.symm) (by exact ag29.symm) ?_
      first | refine w_stw rfl (by constructor) kn29 rfl (by exact trivial) (by first | exact trivial | exact ssh_vec | exact ssh_alg | exact ssh_tab | exact ssh_mat | exact ⟨rfl, fun _ => trivial⟩ | exact ⟨rfl, fun _ => by rw [zr29]; exact ssh_vec⟩) (by exact sz29.symm) ?_ | refine w_sti rfl rfl kn29 rfl (by exact trivial) (by exact sz29.symm) ?_ | refine w_store rfl (HV.eq (by constructor)) kn29 rfl (by exact trivial) (by first | exact trivial | exact ssh_vec | exact ssh_alg | exact ssh_tab | exact ssh_mat | exact ⟨rfl, fun _ => trivial⟩ | exact ⟨rfl, fun _ => by rw [zr29]; exact ssh_vec⟩) (by exact sz29.symm) (put_in (by first | exact put_mat | exact put_tab | exact put_alg0 | exact put_alg1 | exact put_alg2 | exact put_alg3 | exact put_alg3i | exact put_alg2ij | exact put_alg2ijk | exact put_mat2 | exact put_tab2 | exact put_tab3)) ?_ | refine w_store rfl (HV.eq (by constructor)) kn29 rfl (by exact trivial) (by exact trivial) (by exact sz29.symm) rfl ?_
      exact hRR
    refine snd_ret ?_
    exact rt_c (T := TB) rfl kn29 rfl sz29.symm ag29.symm (fun V => m_vec (fun j hj => timesF_cut j))
end Go.Am
set_option linter.unusedVariables false
set_option linter.unusedSimpArgs false
set_option maxRecDepth 4000
namespace Go.Am
attribute [local irreducible] retQ
open Go.Proofs
theorem c_times {p : Int} {n : Nat} {T : Nat → Nat → Nat → Int} {fo u v : Nat → Int} (hp : 0 < p) (hp2 : p < 256) (hn : n ≤ 6) (hT : B8T T) (hu : B8 u) (hv : B8 v) : ACalls Try.prog TB 49 [.cptr (algA p (n : Int) T fo), vecA u, vecA v] (vecA (timesF p n T u v)) [] := by
  refine acalls_of tokTB Try.func49 rfl rfl (Nat.le_of_ble_eq_true rfl) ?_
  apply sr tokTB (by kernel_rfl)
  · intro RR hRR
    refine w_boxc (HV.eq (by constructor)) (by exact trivial) ?_
    refine w_boxc (HV.eq (by constructor)) (by exact trivial) ?_
    refine w_alloc kn29 rfl zr29 ?_
    exact hRR
  apply sr tokTB (by kernel_rfl)
  · intro RR hRR
    refine w_bld_a kn79 zr79 und79 kn2 (fun _ => (by exact sz2.symm)) trivial rfl (by exact sz2.symm) ?_
    refine w_alloc kn79 rfl zr79 ?_
    first | refine w_stw rfl (by constructor) kn79 rfl (by exact trivial) (by first | exact trivial | exact ssh_vec | exact ssh_alg | exact ssh_tab | exact ssh_mat | exact ⟨rfl, fun _ => trivial⟩ | exact ⟨rfl, fun _ => by rw [zr29]; exact ssh_vec⟩) (by exact sz79.symm) ?_ | refine w_sti rfl rfl kn79 rfl (by exact trivial) (by exact sz79.symm) ?_ | refine w_store rfl (HV.eq (by constructor)) kn79 rfl (by exact trivial) (by first | exact trivial | exact ssh_vec | exact ssh_alg | exact ssh_tab | exact ssh_mat | exact ⟨rfl, fun _ => trivial⟩ | exact ⟨rfl, fun _ => by rw [zr29]; exact ssh_vec⟩) (by exact sz79.symm) (put_in (by first | exact put_mat | exact put_tab | exact put_alg0 | exact put_alg1 | exact put_alg2 | exact put_alg3 | exact put_alg3i | exact put_alg2ij | exact put_alg2ijk | exact put_mat2 | exact put_tab2 | exact put_tab3)) ?_ | refine w_store rfl (HV.eq (by constructor)) kn79 rfl (by exact trivial) (by exact trivial) (by exact sz79.symm) rfl ?_
    exact hRR
  refine snd_seq ?_
  apply sr tokTB (by kernel_rfl)
  · intro RR hRR
    refine w_move (by constructor) ?_
    refine w_call0 rfl (exc (by first | exact rfl | exact exp_alg | exact exp_calg | exact ex_vl | exact exp_closed (by assumption)) exn) (c_n) (by first | exact trivial | exact fun _ => trivial | exact fun _ _ => trivial | exact fun _ _ _ => trivial | exact nr_alg | exact nr_pair (by first | exact trivial | exact fun _ => trivial | exact nr_alg) (by first | exact trivial | exact fun _ => trivial)) (fun _ => by first | exact rfl | exact shift_alg | exact shift_pair rfl rfl | exact shift_pair shift_alg rfl) ?_
    refine w_move (by constructor) ?_
    exact hRR
  refine snd_block ?_
  refine snd_loop (S := Nat) (fun i => ([(0, .cptr (algA p (n : Int) T fo)), (4, .cptr (vecA u)), (5, .cptr (vecA v)), (6, .ptr 6 0 [] 0 (vecA (fun _ => 0))), (7, .ptr 7 0 [] 0 (v64A (fun _ => 0))), (17, .int .i64 (n : Int)), (18, .int .i64 (i : Int))], [(6, .one (vecA (fun _ => 0)) (vecA (fun _ => 0))), (7, .one (v64A (fun _ => 0)) (v64A (accF T u v n i 0)))])) (fun i => i ≤ n) (fun i => n - i) (0) ρ0 ?_ ?_ ?_
  · exact ⟨⟨m_calg, (m_cvec (fun _ _ => rfl)), (m_cvec (fun _ _ => rfl)), ⟨rfl, rfl, rfl, rfl, rfl⟩, ⟨rfl, rfl, rfl, rfl, rfl⟩, (by first | exact m_int rfl | exact m_int (by omega) | exact m_int (by simp; done) | (exact m_int (by simp; omega))), (by first | exact m_int rfl | exact m_int (by omega) | exact m_int (by simp; done) | (exact m_int (by simp; omega))), trivial⟩, ⟨⟨rfl, (by first | exact trivial | exact ssh_vec | exact ssh_alg | exact ssh_tab | exact ssh_mat | exact ⟨rfl, fun _ => trivial⟩ | exact ⟨rfl, fun _ => by rw [zr29]; exact ssh_vec⟩), (by exact mt_vec (fun _ _ => rfl))⟩, ⟨rfl, (by first | exact trivial | exact ssh_vec | exact ssh_alg | exact ssh_tab | exact ssh_mat | exact ⟨rfl, fun _ => trivial⟩ | exact ⟨rfl, fun _ => by rw [zr29]; exact ssh_vec⟩), (by exact mt_vec (fun k _ => by simp [accF, sumZ]))⟩, trivial⟩, ⟨⟨(fun h => by first | exact ⟨rfl, rfl⟩ | exact absurd h (by decide)), (fun h => by first | exact ⟨rfl, rfl⟩ | exact absurd h (by decide)), trivial⟩, ⟨(fun h => by first | exact ⟨rfl, rfl⟩ | exact absurd h (by decide)), (fun h => by first | exact ⟨rfl, rfl⟩ | exact absurd h (by decide)), trivial⟩, trivial⟩⟩
  · exact Nat.zero_le _
  intro i hi0
  refine sq (env2 := [(0, .cptr (algA p (n : Int) T fo)), (4, .cptr (vecA u)), (5, .cptr (vecA v)), (6, .ptr 6 0 [] 0 (vecA (fun _ => 0))), (7, .ptr 7 0 [] 0 (v64A (fun _ => 0))), (17, .int .i64 (n : Int)), (18, .int .i64 (i : Int))]) (ol2 := [(6, .one (vecA (fun _ => 0)) (vecA (fun _ => 0))), (7, .one (v64A (fun _ => 0)) (v64A (accF T u v n i 0)))]) rfl rfl ?_
  apply sr tokTB (by kernel_rfl)
  · intro RR hRR
    refine w_lss rfl rfl ?_
    exact hRR
  refine snd_seq ?_
  refine snd_cond _ rfl (fun hc19 => ?_) (fun hc19 => ?_)
  · try simp only [Bool.not_eq_true', Bool.not_eq_false', Bool.not_eq_true, Bool.not_eq_false, decide_eq_true_eq, decide_eq_false_iff_not, Int.not_lt, Int.not_le, Classical.not_not, ne_eq] at hc19
    refine snd_skip ?_
    refine snd_seq ?_
    refine snd_block ?_
    apply sr tokTB (by kernel_rfl)
    · intro RR hRR
      refine w_move (by constructor) ?_
      refine w_assign (by constructor) ?_
      exact hRR
    apply sr tokTB (by kernel_rfl)
    · intro RR hRR
      refine w_move (by constructor) ?_
      refine w_call0 rfl (exc (by first | exact rfl | exact exp_alg | exact exp_calg | exact ex_vl | exact exp_closed (by assumption)) exn) (c_n) (by first | exact trivial | exact fun _ => trivial | exact fun _ _ => trivial | exact fun _ _ _ => trivial | exact nr_alg | exact nr_pair (by first | exact trivial | exact fun _ => trivial | exact nr_alg) (by first | exact trivial | exact fun _ => trivial)) (fun _ => by first | exact rfl | exact shift_alg | exact shift_pair rfl rfl | exact shift_pair shift_alg rfl) ?_
      refine w_move (by constructor) ?_
      exact hRR
    refine snd_block ?_
    refine snd_loop (S := Nat) (fun j => ([(0, .cptr (algA p (n : Int) T fo)), (4, .cptr (vecA u)), (5, .cptr (vecA v)), (6, .ptr 6 0 [] 0 (vecA (fun _ => 0))), (7, .ptr 7 0 [] 0 (v64A (fun _ => 0))), (17, .int .i64 (n : Int)), (18, .int .i64 (i : Int)), (8, .int .i64 (i : Int)), (22, .int .i64 (n : Int)), (23, .int .i64 (j : Int))], [(6, .one (vecA (fun _ => 0)) (vecA (fun _ => 0))), (7, .one (v64A (fun _ => 0)) (v64A (accF T u v n i j)))])) (fun j => j ≤ n) (fun j => n - j) (0) ρ0 ?_ ?_ ?_
    · exact ⟨⟨m_calg, (m_cvec (fun _ _ => rfl)), (m_cvec (fun _ _ => rfl)), ⟨rfl, rfl, rfl, rfl, rfl⟩, ⟨rfl, rfl, rfl, rfl, rfl⟩, (by first | exact m_int rfl | exact m_int (by omega) | exact m_int (by simp; done) | (exact m_int (by simp; omega))), (by first | exact m_int rfl | exact m_int (by omega) | exact m_int (by simp; done) | (exact m_int (by simp; omega))), (by first | exact m_int rfl | exact m_int (by omega) | exact m_int (by simp; done) | (exact m_int (by simp; omega))), (by first | exact m_int rfl | exact m_int (by omega) | exact m_int (by simp; done) | (exact m_int (by simp; omega))), (by first | exact m_int rfl | exact m_int (by omega) | exact m_int (by simp; done) | (exact m_int (by simp; omega))), trivial⟩, ⟨⟨rfl, (by first | exact trivial | exact ssh_vec | exact ssh_alg | exact ssh_tab | exact ssh_mat | exact ⟨rfl, fun _ => trivial⟩ | exact ⟨rfl, fun _ => by rw [zr29]; exact ssh_vec⟩), (by exact mt_vec (fun _ _ => rfl))⟩, ⟨rfl, (by first | exact trivial | exact ssh_vec | exact ssh_alg | exact ssh_tab | exact ssh_mat | exact ⟨rfl, fun _ => trivial⟩ | exact ⟨rfl, fun _ => by rw [zr29]; exact ssh_vec⟩), (by exact mt_vec (fun _ _ => rfl))⟩, trivial⟩, ⟨⟨(fun h => by first | exact ⟨rfl, rfl⟩ | exact absurd h (by decide)), (fun h => by first | exact ⟨rfl, rfl⟩ | exact absurd h (by decide)), trivial⟩, ⟨(fun h => by first | exact ⟨rfl, rfl⟩ | exact absurd h (by decide)), (fun h => by first | exact ⟨rfl, rfl⟩ | exact absurd h (by decide)), trivial⟩, trivial⟩⟩
    · exact Nat.zero_le _
    intro j hi2
    refine sq (env2 := [(0, .cptr (algA p (n : Int) T fo)), (4, .cptr (vecA u)), (5, .cptr (vecA v)), (6, .ptr 6 0 [] 0 (vecA (fun _ => 0))), (7, .ptr 7 0 [] 0 (v64A (fun _ => 0))), (17, .int .i64 (n : Int)), (18, .int .i64 (i : Int)), (8, .int .i64 (i : Int)), (22, .int .i64 (n : Int)), (23, .int .i64 (j : Int))]) (ol2 := [(6, .one (vecA (fun _ => 0)) (vecA (fun _ => 0))), (7, .one (v64A (fun _ => 0)) (v64A (accF T u v n i j)))]) rfl rfl ?_
    apply sr tokTB (by kernel_rfl)
    · intro RR hRR
      refine w_lss rfl rfl ?_
      exact hRR
    refine snd_seq ?_
    refine snd_cond _ rfl (fun hc24 => ?_) (fun hc24 => ?_)
    · try simp only [Bool.not_eq_true', Bool.not_eq_false', Bool.not_eq_true, Bool.not_eq_false, decide_eq_true_eq, decide_eq_false_iff_not, Int.not_lt, Int.not_le, Classical.not_not, ne_eq] at hc24
      refine snd_skip ?_
      refine snd_seq ?_
      refine snd_block ?_
      apply sr tokTB (by kernel_rfl)
      · intro RR hRR
        refine w_move (by constructor) ?_
        refine w_assign (by constructor) ?_
        exact hRR
      apply sd tokTB mixed (by kernel_rfl) (by kernel_rfl)
      · intro RR hRR
        refine w_move (by constructor) ?_
        first | refine w_iac rfl rfl und29 kn5 (by exact sz5.symm) ?_ rfl ?_ | refine w_iap rfl rfl und29 kn5 rfl (by exact sz5.symm) rfl ?_ ?_
        · exact ⟨by omega, by omega⟩
        first | refine w_ldc rfl kn5 (by constructor) (by exact sz5.symm) (by exact ag5.symm) ?_ | refine w_ldp rfl kn5 rfl (by constructor) (by exact sz5.symm) (by exact ag5.symm) ?_
        refine w_conv rfl und5 und2 (by first | exact w64 (by omega) (by omega) | exact w64b (by assumption) _ | exact w64t (by assumption) _ _ _ | exact rfl) ?_
        refine w_move (by constructor) ?_
        first | refine w_iac rfl rfl und29 kn5 (by exact sz5.symm) ?_ rfl ?_ | refine w_iap rfl rfl und29 kn5 rfl (by exact sz5.symm) rfl ?_ ?_
        · exact ⟨by omega, by omega⟩
        first | refine w_ldc rfl kn5 (by constructor) (by exact sz5.symm) (by exact ag5.symm) ?_ | refine w_ldp rfl kn5 rfl (by constructor) (by exact sz5.symm) (by exact ag5.symm) ?_
        refine w_conv rfl und5 und2 (by first | exact w64 (by omega) (by omega) | exact w64b (by assumption) _ | exact w64t (by assumption) _ _ _ | exact rfl) ?_
        refine w_mul rfl rfl (by exact w_uv hu hv i j) ?_
        refine w_assign (by constructor) ?_
        exact hRR
      refine snd_seq ?_
      apply sr tokTB (by kernel_rfl)
      · intro RR hRR
        refine w_move (by constructor) ?_
        refine w_eql rfl rfl ?_
        exact hRR
      refine snd_cond _ rfl (fun hc36 => ?_) (fun hc36 => ?_)
      · try simp only [Bool.not_eq_true', Bool.not_eq_false', Bool.not_eq_true, Bool.not_eq_false, decide_eq_true_eq, decide_eq_false_iff_not, Int.not_lt, Int.not_le, Classical.not_not, ne_eq] at hc36
        refine snd_exit ?_
        apply lr tokTB (by kernel_rfl)
        · intro RR hRR
          refine w_add rfl rfl (by first | exact w64 (by omega) (by omega) | exact w64b (by assumption) _ | exact w64t (by assumption) _ _ _ | exact rfl) ?_
          refine w_move (by constructor) ?_
          exact hRR
        refine ⟨j + 1, ρ0, ?_, (by omega), (by dsimp only; omega)⟩
        exact ⟨⟨m_calg, (m_cvec (fun _ _ => rfl)), (m_cvec (fun _ _ => rfl)), ⟨rfl, rfl, rfl, rfl, rfl⟩, ⟨rfl, rfl, rfl, rfl, rfl⟩, (by first | exact m_int rfl | exact m_int (by omega) | exact m_int (by simp; done) | (exact m_int (by simp; omega))), (by first | exact m_int rfl | exact m_int (by omega) | exact m_int (by simp; done) | (exact m_int (by simp; omega))), (by first | exact m_int rfl | exact m_int (by omega) | exact m_int (by simp; done) | (exact m_int (by simp; omega))), (by first | exact m_int rfl | exact m_int (by omega) | exact m_int (by simp; done) | (exact m_int (by simp; omega))), (by first | exact m_int rfl | exact m_int (by omega) | exact m_int (by simp; done) | (exact m_int (by simp; omega))), trivial⟩, ⟨⟨rfl, (by first | exact trivial | exact ssh_vec | exact ssh_alg | exact ssh_tab | exact ssh_mat | exact ⟨rfl, fun _ => trivial⟩ | exact ⟨rfl, fun _ => by rw [zr29]; exact ssh_vec⟩), (by exact mt_vec (fun _ _ => rfl))⟩, ⟨rfl, (by first | exact trivial | exact ssh_vec | exact ssh_alg | exact ssh_tab | exact ssh_mat | exact ⟨rfl, fun _ => trivial⟩ | exact ⟨rfl, fun _ => by rw [zr29]; exact ssh_vec⟩), (by first | exact mt_vec (fun z _ => mix_all) | exact mt_vec (fun z _ => (acc_zero hc36).symm))⟩, trivial⟩, ⟨⟨(fun h => by first | exact ⟨rfl, rfl⟩ | exact absurd h (by decide)), (fun h => by first | exact ⟨rfl, rfl⟩ | exact absurd h (by decide)), trivial⟩, ⟨(fun h => by first | exact ⟨rfl, rfl⟩ | exact absurd h (by decide)), (fun h => by first | exact ⟨rfl, rfl⟩ | exact absurd h (by decide)), trivial⟩, trivial⟩⟩
      · try simp only [Bool.not_eq_true', Bool.not_eq_false', Bool.not_eq_true, Bool.not_eq_false, decide_eq_true_eq, decide_eq_false_iff_not, Int.not_lt, Int.not_le, Classical.not_not, ne_eq] at hc36
        refine snd_skip ?_
        apply sr tokTB (by kernel_rfl)
        · intro RR hRR
          refine w_move (by constructor) ?_
          refine w_call0 rfl (exc (by first | exact rfl | exact exp_alg | exact exp_calg | exact ex_vl | exact exp_closed (by assumption)) exn) (c_n) (by first | exact trivial | exact fun _ => trivial | exact fun _ _ => trivial | exact fun _ _ _ => trivial | exact nr_alg | exact nr_pair (by first | exact trivial | exact fun _ => trivial | exact nr_alg) (by first | exact trivial | exact fun _ => trivial)) (fun _ => by first | exact rfl | exact shift_alg | exact shift_pair rfl rfl | exact shift_pair shift_alg rfl) ?_
          refine w_move (by constructor) ?_
          exact hRR
        refine snd_block ?_
        refine snd_loop (S := Nat) (fun k => ([(0, .cptr (algA p (n : Int) T fo)), (4, .cptr (vecA u)), (5, .cptr (vecA v)), (6, .ptr 6 0 [] 0 (vecA (fun _ => 0))), (7, .ptr 7 0 [] 0 (v64A (fun _ => 0))), (17, .int .i64 (n : Int)), (18, .int .i64 (i : Int)), (8, .int .i64 (i : Int)), (22, .int .i64 (n : Int)), (23, .int .i64 (j : Int)), (9, .int .i64 (j : Int)), (10, .int .i64 (u i * v j)), (38, .int .i64 (n : Int)), (39, .int .i64 (k : Int))], [(6, .one (vecA (fun _ => 0)) (vecA (fun _ => 0))), (7, .one (v64A (fun _ => 0)) (v64A (mixF (accF T u v n i (j + 1)) (accF T u v n i j) k)))])) (fun k => k ≤ n) (fun k => n - k) (0) ρ0 ?_ ?_ ?_
        · exact ⟨⟨m_calg, (m_cvec (fun _ _ => rfl)), (m_cvec (fun _ _ => rfl)), ⟨rfl, rfl, rfl, rfl, rfl⟩, ⟨rfl, rfl, rfl, rfl, rfl⟩, (by first | exact m_int rfl | exact m_int (by omega) | exact m_int (by simp; done) | (exact m_int (by simp; omega))), (by first | exact m_int rfl | exact m_int (by omega) | exact m_int (by simp; done) | (exact m_int (by simp; omega))), (by first | exact m_int rfl | exact m_int (by omega) | exact m_int (by simp; done) | (exact m_int (by simp; omega))), (by first | exact m_int rfl | exact m_int (by omega) | exact m_int (by simp; done) | (exact m_int (by simp; omega))), (by first | exact m_int rfl | exact m_int (by omega) | exact m_int (by simp; done) | (exact m_int (by simp; omega))), (by first | exact m_int rfl | exact m_int (by omega) | exact m_int (by simp; done) | (exact m_int (by simp; omega))), (by first | exact m_int rfl | exact m_int (by omega) | exact m_int (by simp; done) | (exact m_int (by simp; omega))), (by first | exact m_int rfl | exact m_int (by omega) | exact m_int (by simp; done) | (exact m_int (by simp; omega))), (by first | exact m_int rfl | exact m_int (by omega) | exact m_int (by simp; done) | (exact m_int (by simp; omega))), trivial⟩, ⟨⟨rfl, (by first | exact trivial | exact ssh_vec | exact ssh_alg | exact ssh_tab | exact ssh_mat | exact ⟨rfl, fun _ => trivial⟩ | exact ⟨rfl, fun _ => by rw [zr29]; exact ssh_vec⟩), (by exact mt_vec (fun _ _ => rfl))⟩, ⟨rfl, (by first | exact trivial | exact ssh_vec | exact ssh_alg | exact ssh_tab | exact ssh_mat | exact ⟨rfl, fun _ => trivial⟩ | exact ⟨rfl, fun _ => by rw [zr29]; exact ssh_vec⟩), (by exact mt_vec (fun k _ => by simp [mixF]))⟩, trivial⟩, ⟨⟨(fun h => by first | exact ⟨rfl, rfl⟩ | exact absurd h (by decide)), (fun h => by first | exact ⟨rfl, rfl⟩ | exact absurd h (by decide)), trivial⟩, ⟨(fun h => by first | exact ⟨rfl, rfl⟩ | exact absurd h (by decide)), (fun h => by first | exact ⟨rfl, rfl⟩ | exact absurd h (by decide)), trivial⟩, trivial⟩⟩
        · exact Nat.zero_le _
        intro k hi4
        refine sq (env2 := [(0, .cptr (algA p (n : Int) T fo)), (4, .cptr (vecA u)), (5, .cptr (vecA v)), (6, .ptr 6 0 [] 0 (vecA (fun _ => 0))), (7, .ptr 7 0 [] 0 (v64A (fun _ => 0))), (17, .int .i64 (n : Int)), (18, .int .i64 (i : Int)), (8, .int .i64 (i : Int)), (22, .int .i64 (n : Int)), (23, .int .i64 (j : Int)), (9, .int .i64 (j : Int)), (10, .int .i64 (u i * v j)), (38, .int .i64 (n : Int)), (39, .int .i64 (k : Int))]) (ol2 := [(6, .one (vecA (fun _ => 0)) (vecA (fun _ => 0))), (7, .one (v64A (fun _ => 0)) (v64A (mixF (accF T u v n i (j + 1)) (accF T u v n i j) k)))]) rfl rfl ?_
        apply sr tokTB (by kernel_rfl)
        · intro RR hRR
          refine w_lss rfl rfl ?_
          exact hRR
        refine snd_seq ?_
        refine snd_cond _ rfl (fun hc40 => ?_) (fun hc40 => ?_)
        · try simp only [Bool.not_eq_true', Bool.not_eq_false', Bool.not_eq_true, Bool.not_eq_false, decide_eq_true_eq, decide_eq_false_iff_not, Int.not_lt, Int.not_le, Classical.not_not, ne_eq] at hc40
          refine snd_skip ?_
          refine snd_seq ?_
          refine snd_block ?_
          apply sr tokTB (by kernel_rfl)
          · intro RR hRR
            refine w_move (by constructor) ?_
            refine w_assign (by constructor) ?_
            exact hRR
          apply ld tokTB mixed (by kernel_rfl) (by kernel_rfl)
          · intro RR hRR
            refine w_move (by constructor) ?_
            first | refine w_iac rfl rfl und79 kn2 (by exact sz2.symm) ?_ rfl ?_ | refine w_iap rfl rfl und79 kn2 rfl (by exact sz2.symm) rfl ?_ ?_
            · exact ⟨by omega, by omega⟩
            first | refine w_ldc rfl kn2 (by constructor) (by exact sz2.symm) (by exact ag2.symm) ?_ | refine w_ldp rfl kn2 rfl (by constructor) (by exact sz2.symm) (by exact ag2.symm) ?_
            refine w_move (by constructor) ?_
            refine w_move (by constructor) ?_
            refine w_move (by constructor) ?_
            refine w_move (by constructor) ?_
            refine w_move (by constructor) ?_
            first | refine w_nilc rfl ?_ | refine w_nilp rfl ?_ | refine w_nilf rfl ?_
            first | refine w_fac rfl und31 rfl kn24 nz24 (by decide) rfl (by constructor) ?_ | refine w_fap rfl und31 rfl kn24 nz24 rfl (by decide) rfl ?_
            first | refine w_iac rfl rfl und24 kn23 (by exact sz23.symm) ?_ rfl ?_ | refine w_iap rfl rfl und24 kn23 rfl (by exact sz23.symm) rfl ?_ ?_
            · exact ⟨by omega, by omega⟩
            first | refine w_iac rfl rfl und23 kn22 (by exact sz22.symm) ?_ rfl ?_ | refine w_iap rfl rfl und23 kn22 rfl (by exact sz22.symm) rfl ?_ ?_
            · exact ⟨by omega, by omega⟩
            first | refine w_iac rfl rfl und22 kn5 (by exact sz5.symm) ?_ rfl ?_ | refine w_iap rfl rfl und22 kn5 rfl (by exact sz5.symm) rfl ?_ ?_
            · exact ⟨by omega, by omega⟩
            first | refine w_ldc rfl kn5 (by constructor) (by exact sz5.symm) (by exact ag5.symm) ?_ | refine w_ldp rfl kn5 rfl (by constructor) (by exact sz5.symm) (by exact ag5.symm) ?_
            refine w_conv rfl und5 und2 (by first | exact w64 (by omega) (by omega) | exact w64b (by assumption) _ | exact w64t (by assumption) _ _ _ | exact rfl) ?_
            refine w_mul rfl rfl (by exact w_tm hu hv hT k i j) ?_
            refine w_add rfl rfl (by exact w_acc2 hu hv hT hn (by omega) (by omega) (by omega)) ?_
            first | refine w_iac rfl rfl und79 kn2 (by exact sz2.symm) ?_ rfl ?_ | refine w_iap rfl rfl und79 kn2 rfl (by exact sz2.symm) rfl ?_ ?_
            · exact ⟨by omega, by omega⟩
            first | refine w_stw rfl (by constructor) kn2 rfl (by exact trivial) (by first | exact trivial | exact ssh_vec | exact ssh_alg | exact ssh_tab | exact ssh_mat | exact ⟨rfl, fun _ => trivial⟩ | exact ⟨rfl, fun _ => by rw [zr29]; exact ssh_vec⟩) (by exact sz2.symm) ?_ | refine w_sti rfl rfl kn2 rfl (by exact trivial) (by exact sz2.symm) ?_ | refine w_store rfl (HV.eq (by constructor)) kn2 rfl (by exact trivial) (by first | exact trivial | exact ssh_vec | exact ssh_alg | exact ssh_tab | exact ssh_mat | exact ⟨rfl, fun _ => trivial⟩ | exact ⟨rfl, fun _ => by rw [zr29]; exact ssh_vec⟩) (by exact sz2.symm) (put_in (by first | exact put_mat | exact put_tab | exact put_alg0 | exact put_alg1 | exact put_alg2 | exact put_alg3 | exact put_alg3i | exact put_alg2ij | exact put_alg2ijk | exact put_mat2 | exact put_tab2 | exact put_tab3)) ?_ | refine w_store rfl (HV.eq (by constructor)) kn2 rfl (by exact trivial) (by exact trivial) (by exact sz2.symm) rfl ?_
            exact hRR
          apply lr tokTB (by kernel_rfl)
          · intro RR hRR
            refine w_add rfl rfl (by first | exact w64 (by omega) (by omega) | exact w64b (by assumption) _ | exact w64t (by assumption) _ _ _ | exact rfl) ?_
            refine w_move (by constructor) ?_
            exact hRR
          refine ⟨k + 1, ρ0, ?_, (by omega), (by dsimp only; omega)⟩
          exact ⟨⟨m_calg, (m_cvec (fun _ _ => rfl)), (m_cvec (fun _ _ => rfl)), ⟨rfl, rfl, rfl, rfl, rfl⟩, ⟨rfl, rfl, rfl, rfl, rfl⟩, (by first | exact m_int rfl | exact m_int (by omega) | exact m_int (by simp; done) | (exact m_int (by simp; omega))), (by first | exact m_int rfl | exact m_int (by omega) | exact m_int (by simp; done) | (exact m_int (by simp; omega))), (by first | exact m_int rfl | exact m_int (by omega) | exact m_int (by simp; done) | (exact m_int (by simp; omega))), (by first | exact m_int rfl | exact m_int (by omega) | exact m_int (by simp; done) | (exact m_int (by simp; omega))), (by first | exact m_int rfl | exact m_int (by omega) | exact m_int (by simp; done) | (exact m_int (by simp; omega))), (by first | exact m_int rfl | exact m_int (by omega) | exact m_int (by simp; done) | (exact m_int (by simp; omega))), (by first | exact m_int rfl | exact m_int (by omega) | exact m_int (by simp; done) | (exact m_int (by simp; omega))), (by first | exact m_int rfl | exact m_int (by omega) | exact m_int (by simp; done) | (exact m_int (by simp; omega))), (by first | exact m_int rfl | exact m_int (by omega) | exact m_int (by simp; done) | (exact m_int (by simp; omega))), trivial⟩, ⟨⟨rfl, (by first | exact trivial | exact ssh_vec | exact ssh_alg | exact ssh_tab | exact ssh_mat | exact ⟨rfl, fun _ => trivial⟩ | exact ⟨rfl, fun _ => by rw [zr29]; exact ssh_vec⟩), (by exact mt_vec (fun _ _ => rfl))⟩, ⟨rfl, (by first | exact trivial | exact ssh_vec | exact ssh_alg | exact ssh_tab | exact ssh_mat | exact ⟨rfl, fun _ => trivial⟩ | exact ⟨rfl, fun _ => by rw [zr29]; exact ssh_vec⟩), (by exact mt_vec (fun z _ => upd_mix _ _ k z))⟩, trivial⟩, ⟨⟨(fun h => by first | exact ⟨rfl, rfl⟩ | exact absurd h (by decide)), (fun h => by first | exact ⟨rfl, rfl⟩ | exact absurd h (by decide)), trivial⟩, ⟨(fun h => by first | exact ⟨rfl, rfl⟩ | exact absurd h (by decide)), (fun h => by first | exact ⟨rfl, rfl⟩ | exact absurd h (by decide)), trivial⟩, trivial⟩⟩
        · try simp only [Bool.not_eq_true', Bool.not_eq_false', Bool.not_eq_true, Bool.not_eq_false, decide_eq_true_eq, decide_eq_false_iff_not, Int.not_lt, Int.not_le, Classical.not_not, ne_eq] at hc40
          have hkn : n = k := by omega
          subst hkn
          refine snd_exit ?_
          apply lr tokTB (by kernel_rfl)
          · intro RR hRR
            refine w_add rfl rfl (by first | exact w64 (by omega) (by omega) | exact w64b (by assumption) _ | exact w64t (by assumption) _ _ _ | exact rfl) ?_
            refine w_move (by constructor) ?_
            exact hRR
          refine ⟨j + 1, ρ0, ?_, (by omega), (by dsimp only; omega)⟩
          exact ⟨⟨m_calg, (m_cvec (fun _ _ => rfl)), (m_cvec (fun _ _ => rfl)), ⟨rfl, rfl, rfl, rfl, rfl⟩, ⟨rfl, rfl, rfl, rfl, rfl⟩, (by first | exact m_int rfl | exact m_int (by omega) | exact m_int (by simp; done) | (exact m_int (by simp; omega))), (by first | exact m_int rfl | exact m_int (by omega) | exact m_int (by simp; done) | (exact m_int (by simp; omega))), (by first | exact m_int rfl | exact m_int (by omega) | exact m_int (by simp; done) | (exact m_int (by simp; omega))), (by first | exact m_int rfl | exact m_int (by omega) | exact m_int (by simp; done) | (exact m_int (by simp; omega))), (by first | exact m_int rfl | exact m_int (by omega) | exact m_int (by simp; done) | (exact m_int (by simp; omega))), trivial⟩, ⟨⟨rfl, (by first | exact trivial | exact ssh_vec | exact ssh_alg | exact ssh_tab | exact ssh_mat | exact ⟨rfl, fun _ => trivial⟩ | exact ⟨rfl, fun _ => by rw [zr29]; exact ssh_vec⟩), (by exact mt_vec (fun _ _ => rfl))⟩, ⟨rfl, (by first | exact trivial | exact ssh_vec | exact ssh_alg | exact ssh_tab | exact ssh_mat | exact ⟨rfl, fun _ => trivial⟩ | exact ⟨rfl, fun _ => by rw [zr29]; exact ssh_vec⟩), (by first | exact mt_vec (fun z _ => mix_all) | exact mt_vec (fun z _ => (acc_zero hc36).symm))⟩, trivial⟩, ⟨⟨(fun h => by first | exact ⟨rfl, rfl⟩ | exact absurd h (by decide)), (fun h => by first | exact ⟨rfl, rfl⟩ | exact absurd h (by decide)), trivial⟩, ⟨(fun h => by first | exact ⟨rfl, rfl⟩ | exact absurd h (by decide)), (fun h => by first | exact ⟨rfl, rfl⟩ | exact absurd h (by decide)), trivial⟩, trivial⟩⟩
    · try simp only [Bool.not_eq_true', Bool.not_eq_false', Bool.not_eq_true, Bool.not_eq_false, decide_eq_true_eq, decide_eq_false_iff_not, Int.not_lt, Int.not_le, Classical.not_not, ne_eq] at hc24
      have hin : n = j := by omega
      subst hin
      refine snd_exit ?_
      apply lr tokTB (by kernel_rfl)
      · intro RR hRR
        refine w_add rfl rfl (by first | exact w64 (by omega) (by omega) | exact w64b (by assumption) _ | exact w64t (by assumption) _ _ _ | exact rfl) ?_
        refine w_move (by constructor) ?_
        exact hRR
      refine ⟨i + 1, ρ0, ?_, (by omega), (by dsimp only; omega)⟩
      exact ⟨⟨m_calg, (m_cvec (fun _ _ => rfl)), (m_cvec (fun _ _ => rfl)), ⟨rfl, rfl, rfl, rfl, rfl⟩, ⟨rfl, rfl, rfl, rfl, rfl⟩, (by first | exact m_int rfl | exact m_int (by omega) | exact m_int (by simp; done) | (exact m_int (by simp; omega))), (by first | exact m_int rfl | exact m_int (by omega) | exact m_int (by simp; done) | (exact m_int (by simp; omega))), trivial⟩, ⟨⟨rfl, (by first | exact trivial | exact ssh_vec | exact ssh_alg | exact ssh_tab | exact ssh_mat | exact ⟨rfl, fun _ => trivial⟩ | exact ⟨rfl, fun _ => by rw [zr29]; exact ssh_vec⟩), (by exact mt_vec (fun _ _ => rfl))⟩, ⟨rfl, (by first | exact trivial | exact ssh_vec | exact ssh_alg | exact ssh_tab | exact ssh_mat | exact ⟨rfl, fun _ => trivial⟩ | exact ⟨rfl, fun _ => by rw [zr29]; exact ssh_vec⟩), (by exact mt_vec (fun k _ => acc_next))⟩, trivial⟩, ⟨⟨(fun h => by first | exact ⟨rfl, rfl⟩ | exact absurd h (by decide)), (fun h => by first | exact ⟨rfl, rfl⟩ | exact absurd h (by decide)), trivial⟩, ⟨(fun h => by first | exact ⟨rfl, rfl⟩ | exact absurd h (by decide)), (fun h => by first | exact ⟨rfl, rfl⟩ | exact absurd h (by decide)), trivial⟩, trivial⟩⟩
  · try simp only [Bool.not_eq_true', Bool.not_eq_false', Bool.not_eq_true, Bool.not_eq_false, decide_eq_true_eq, decide_eq_false_iff_not, Int.not_lt, Int.not_le, Classical.not_not, ne_eq] at hc19
    have hkn : n = i := by omega
    subst hkn
    refine snd_exit ?_
    apply sr tokTB (by kernel_rfl)
    · intro RR hRR
      refine w_bld_a kn29 zr29 und29 kn5 (fun _ => (by exact sz5.symm)) trivial rfl (by exact sz5.symm) ?_
      refine w_alloc kn29 rfl zr29 ?_
      first | refine w_stw rfl (by constructor) kn29 rfl (by exact trivial) (by first | exact trivial | exact ssh_vec | exact ssh_alg | exact ssh_tab | exact ssh_mat | exact ⟨rfl, fun _ => trivial⟩ | exact ⟨rfl, fun _ => by rw [zr29]; exact ssh_vec⟩) (by exact sz29.symm) ?_ | refine w_sti rfl rfl kn29 rfl (by exact trivial) (by exact sz29.symm) ?_ | refine w_store rfl (HV.eq (by constructor)) kn29 rfl (by exact trivial) (by first | exact trivial | exact ssh_vec | exact ssh_alg | exact ssh_tab | exact ssh_mat | exact ⟨rfl, fun _ => trivial⟩ | exact ⟨rfl, fun _ => by rw [zr29]; exact ssh_vec⟩) (by exact sz29.symm) (put_in (by first | exact put_mat | exact put_tab | exact put_alg0 | exact put_alg1 | exact put_alg2 | exact put_alg3 | exact put_alg3i | exact put_alg2ij | exact put_alg2ijk | exact put_mat2 | exact put_tab2 | exact put_tab3)) ?_ | refine w_store rfl (HV.eq (by constructor)) kn29 rfl (by exact trivial) (by exact trivial) (by exact sz29.symm) rfl ?_
      exact hRR
    refine snd_seq ?_
    apply sr tokTB (by kernel_rfl)
    · intro RR hRR
      first | refine w_ldc rfl kn79 (by constructor) (by exact sz79.symm) (by exact ag79.symm) ?_ | refine w_ldp rfl kn79 rfl (by constructor) (by exact sz79.symm) (by exact ag79.symm) ?_
      refine w_move (by constructor) ?_
      exact hRR
    refine snd_block ?_
    refine snd_loop (S := Nat) (fun k => ([(0, .cptr (algA p (n : Int) T fo)), (6, .ptr 6 0 [] 0 (vecA (fun _ => 0))), (12, .ptr 12 0 [] 0 (vecA (fun _ => 0))), (64, v64A (accF T u v n n 0)), (65, .int .i64 (k : Int))], [(6, .one (vecA (fun _ => 0)) (vecA (fun _ => 0))), (12, .one (vecA (fun _ => 0)) (vecA (cutF (timesF p n T u v) k)))])) (fun k => k ≤ 6) (fun k => 6 - k) (0) ρ0 ?_ ?_ ?_
    · exact ⟨⟨m_calg, ⟨rfl, rfl, rfl, rfl, rfl⟩, ⟨rfl, rfl, rfl, rfl, rfl⟩, (m_vec (fun _ _ => rfl)), (by first | exact m_int rfl | exact m_int (by omega) | exact m_int (by simp; done) | (exact m_int (by simp; omega))), trivial⟩, ⟨⟨rfl, (by first | exact trivial | exact ssh_vec | exact ssh_alg | exact ssh_tab | exact ssh_mat | exact ⟨rfl, fun _ => trivial⟩ | exact ⟨rfl, fun _ => by rw [zr29]; exact ssh_vec⟩), (by exact mt_vec (fun _ _ => rfl))⟩, ⟨rfl, (by first | exact trivial | exact ssh_vec | exact ssh_alg | exact ssh_tab | exact ssh_mat | exact ⟨rfl, fun _ => trivial⟩ | exact ⟨rfl, fun _ => by rw [zr29]; exact ssh_vec⟩), (by exact mt_vec (fun k _ => rfl))⟩, trivial⟩, ⟨⟨(fun h => by first | exact ⟨rfl, rfl⟩ | exact absurd h (by decide)), (fun h => by first | exact ⟨rfl, rfl⟩ | exact absurd h (by decide)), trivial⟩, ⟨(fun h => by first | exact ⟨rfl, rfl⟩ | exact absurd h (by decide)), (fun h => by first | exact ⟨rfl, rfl⟩ | exact absurd h (by decide)), trivial⟩, trivial⟩⟩
    · exact Nat.zero_le _
    intro k hi6
    refine sq (env2 := [(0, .cptr (algA p (n : Int) T fo)), (6, .ptr 6 0 [] 0 (vecA (fun _ => 0))), (12, .ptr 12 0 [] 0 (vecA (fun _ => 0))), (64, v64A (accF T u v n n 0)), (65, .int .i64 (k : Int))]) (ol2 := [(6, .one (vecA (fun _ => 0)) (vecA (fun _ => 0))), (12, .one (vecA (fun _ => 0)) (vecA (cutF (timesF p n T u v) k)))]) rfl rfl ?_
    apply sr tokTB (by kernel_rfl)
    · intro RR hRR
      refine w_lss rfl rfl ?_
      exact hRR
    refine snd_seq ?_
    refine snd_cond _ rfl (fun hc66 => ?_) (fun hc66 => ?_)
    · try simp only [Bool.not_eq_true', Bool.not_eq_false', Bool.not_eq_true, Bool.not_eq_false, decide_eq_true_eq, decide_eq_false_iff_not, Int.not_lt, Int.not_le, Classical.not_not, ne_eq] at hc66
      refine snd_skip ?_
      refine snd_seq ?_
      refine snd_block ?_
      apply sr tokTB (by kernel_rfl)
      · intro RR hRR
        refine w_move (by constructor) ?_
        refine w_ixa rfl rfl und79 kn2 (by exact sz2.symm) ?_ (by constructor) (by exact ag2.symm) ?_
        · exact ⟨by omega, by omega⟩
        refine w_assign (by constructor) ?_
        refine w_assign (by constructor) ?_
        exact hRR
      apply lr tokTB (by kernel_rfl)
      · intro RR hRR
        refine w_move (by constructor) ?_
        refine w_move (by constructor) ?_
        refine w_move (by constructor) ?_
        first | refine w_nilc rfl ?_ | refine w_nilp rfl ?_ | refine w_nilf rfl ?_
        first | refine w_fac rfl und31 rfl kn2 nz2 (by decide) rfl (by constructor) ?_ | refine w_fap rfl und31 rfl kn2 nz2 rfl (by decide) rfl ?_
        first | refine w_ldc rfl kn2 (by constructor) (by exact sz2.symm) (by exact ag2.symm) ?_ | refine w_ldp rfl kn2 rfl (by constructor) (by exact sz2.symm) (by exact ag2.symm) ?_
        refine w_rem rfl rfl (by first | assumption | omega) ?_
        refine w_conv rfl und2 und5 (by exact w_fin2 hu hv hT hn hp hp2) ?_
        first | refine w_iac rfl rfl und29 kn5 (by exact sz5.symm) ?_ rfl ?_ | refine w_iap rfl rfl und29 kn5 rfl (by exact sz5.symm) rfl ?_ ?_
        · exact ⟨by omega, by omega⟩
        first | refine w_stw rfl (by constructor) kn5 rfl (by exact trivial) (by first | exact trivial | exact ssh_vec | exact ssh_alg | exact ssh_tab | exact ssh_mat | exact ⟨rfl, fun _ => trivial⟩ | exact ⟨rfl, fun _ => by rw [zr29]; exact ssh_vec⟩) (by exact sz5.symm) ?_ | refine w_sti rfl rfl kn5 rfl (by exact trivial) (by exact sz5.symm) ?_ | refine w_store rfl (HV.eq (by constructor)) kn5 rfl (by exact trivial) (by first | exact trivial | exact ssh_vec | exact ssh_alg | exact ssh_tab | exact ssh_mat | exact ⟨rfl, fun _ => trivial⟩ | exact ⟨rfl, fun _ => by rw [zr29]; exact ssh_vec⟩) (by exact sz5.symm) (put_in (by first | exact put_mat | exact put_tab | exact put_alg0 | exact put_alg1 | exact put_alg2 | exact put_alg3 | exact put_alg3i | exact put_alg2ij | exact put_alg2ijk | exact put_mat2 | exact put_tab2 | exact put_tab3)) ?_ | refine w_store rfl (HV.eq (by constructor)) kn5 rfl (by exact trivial) (by exact trivial) (by exact sz5.symm) rfl ?_
        exact hRR
      apply lr tokTB (by kernel_rfl)
      · intro RR hRR
        refine w_add rfl rfl (by first | exact w64 (by omega) (by omega) | exact w64b (by assumption) _ | exact w64t (by assumption) _ _ _ | exact rfl) ?_
        refine w_move (by constructor) ?_
        exact hRR
      refine ⟨k + 1, ρ0, ?_, (by omega), (by dsimp only; omega)⟩
      exact ⟨⟨m_calg, ⟨rfl, rfl, rfl, rfl, rfl⟩, ⟨rfl, rfl, rfl, rfl, rfl⟩, (m_vec (fun _ _ => rfl)), (by first | exact m_int rfl | exact m_int (by omega) | exact m_int (by simp; done) | (exact m_int (by simp; omega))), trivial⟩, ⟨⟨rfl, (by first | exact trivial | exact ssh_vec | exact ssh_alg | exact ssh_tab | exact ssh_mat | exact ⟨rfl, fun _ => trivial⟩ | exact ⟨rfl, fun _ => by rw [zr29]; exact ssh_vec⟩), (by exact mt_vec (fun _ _ => rfl))⟩, ⟨rfl, (by first | exact trivial | exact ssh_vec | exact ssh_alg | exact ssh_tab | exact ssh_mat | exact ⟨rfl, fun _ => trivial⟩ | exact ⟨rfl, fun _ => by rw [zr29]; exact ssh_vec⟩), (by exact mt_vec (fun z _ => upd_cut _ k z))⟩, trivial⟩, ⟨⟨(fun h => by first | exact ⟨rfl, rfl⟩ | exact absurd h (by decide)), (fun h => by first | exact ⟨rfl, rfl⟩ | exact absurd h (by decide)), trivial⟩, ⟨(fun h => by first | exact ⟨rfl, rfl⟩ | exact absurd h (by decide)), (fun h => by first | exact ⟨rfl, rfl⟩ | exact absurd h (by decide)), trivial⟩, trivial⟩⟩
    · try simp only [Bool.not_eq_true', Bool.not_eq_false', Bool.not_eq_true, Bool.not_eq_false, decide_eq_true_eq, decide_eq_false_iff_not, Int.not_lt, Int.not_le, Classical.not_not, ne_eq] at hc66
      have hk6 : k = 6 := by omega
      subst hk6
      refine snd_exit ?_
      apply sr tokTB (by kernel_rfl)
      · intro RR hRR
        first | refine w_ldc rfl kn29 (by constructor) (by exact sz29.symm) (by exact ag29.symm) ?_ | refine w_ldp rfl kn29 rfl (by constructor) (by exact sz29.symm) (by exact ag29.symm) ?_
        first | refine w_stw rfl (by constructor) kn29 rfl (by exact trivial) (by first | exact trivial | exact ssh_vec | exact ssh_alg | exact ssh_tab | exact ssh_mat | exact ⟨rfl, fun _ => trivial⟩ | exact ⟨rfl, fun _ => by rw [zr29]; exact ssh_vec⟩) (by exact sz29.symm) ?_ | refine w_sti rfl rfl kn29 rfl (by exact trivial) (by exact sz29.symm) ?_ | refine w_store rfl (HV.eq (by constructor)) kn29 rfl (by exact trivial) (by first | exact trivial | exact ssh_vec | exact ssh_alg | exact ssh_tab | exact ssh_mat | exact ⟨rfl, fun _ => trivial⟩ | exact ⟨rfl, fun _ => by rw [zr29]; exact ssh_vec⟩) (by exact sz29.symm) (put_in (by first | exact put_mat | exact put_tab | exact put_alg0 | exact put_alg1 | exact put_alg2 | exact put_alg3 | exact put_alg3i | exact put_alg2ij | exact put_alg2ijk | exact put_mat2 | exact put_tab2 | exact put_tab3)) ?_ | refine w_store rfl (HV.eq (by constructor)) kn29 rfl (by exact trivial) (by exact trivial) (by exact sz29.symm) rfl ?_
        exact hRR
      refine snd_ret ?_
      exact rt_c (T := TB) rfl kn29 rfl sz29.symm ag29.symm (fun V => m_vec (fun j hj => by simp [cutF, hj]))
end Go.Am
set_option linter.unusedVariables false
set_option linter.unusedSimpArgs false
set_option maxRecDepth 4000
namespace Go.Am
attribute [local irreducible] retQ
open Go.Proofs
theorem c_toByteA6 {v : Nat → Int} : ACalls Try.prog TB 83 [vecA v] (vecA v) [] := by
  refine acalls_of tokTB Try.func83 rfl rfl (Nat.le_of_ble_eq_true rfl) ?_
  apply sr tokTB (by kernel_rfl)
  · intro RR hRR
    refine w_boxc (HV.eq (by constructor)) (by exact trivial) ?_
    refine w_alloc kn22 rfl zr22 ?_
    exact hRR
  apply sr tokTB (by kernel_rfl)
  · intro RR hRR
    refine w_alloc kn22 rfl zr22 ?_
    exact hRR
  refine snd_seq ?_
  apply sr tokTB (by kernel_rfl)
  · intro RR hRR
    refine w_assign (by constructor) ?_
    exact hRR
  refine snd_block ?_
  refine snd_loop (S := Nat) (fun i => ([(1, .cptr (vecA v)), (2, .ptr 2 0 [] 0 (vecA (fun _ => 0))), (3, .ptr 3 0 [] 0 (vecA (fun _ => 0))), (4, .int .i64 (i : Int))], [(2, .one (vecA (fun _ => 0)) (vecA (fun _ => 0))), (3, .one (vecA (fun _ => 0)) (vecA (cutG 0 v i)))])) (fun i => i ≤ 6) (fun i => 6 - i) (0) ρ0 ?_ ?_ ?_
  · exact ⟨⟨(by exact m_cvec (fun _ _ => rfl)), ⟨rfl, rfl, rfl, rfl, rfl⟩, ⟨rfl, rfl, rfl, rfl, rfl⟩, (by first | exact m_int rfl | exact m_int (by omega) | exact m_int (by simp; done) | (exact m_int (by simp; omega))), trivial⟩, ⟨⟨rfl, (by first | exact trivial | exact ssh_vec | exact ssh_alg | exact ssh_tab | exact ssh_mat | exact ⟨rfl, fun _ => trivial⟩ | exact ⟨rfl, fun _ => by rw [zr29]; exact ssh_vec⟩), (by exact mt_vec (fun _ _ => rfl))⟩, ⟨rfl, (by first | exact trivial | exact ssh_vec | exact ssh_alg | exact ssh_tab | exact ssh_mat | exact ⟨rfl, fun _ => trivial⟩ | exact ⟨rfl, fun _ => by rw [zr29]; exact ssh_vec⟩), (by exact mt_vec (fun _ _ => rfl))⟩, trivial⟩, ⟨⟨(fun h => by first | exact ⟨rfl, rfl⟩ | exact absurd h (by decide)), (fun h => by first | exact ⟨rfl, rfl⟩ | exact absurd h (by decide)), trivial⟩, ⟨(fun h => by first | exact ⟨rfl, rfl⟩ | exact absurd h (by decide)), (fun h => by first | exact ⟨rfl, rfl⟩ | exact absurd h (by decide)), trivial⟩, trivial⟩⟩
  · exact Nat.zero_le _
  intro i hi0
  refine sq (env2 := [(1, .cptr (vecA v)), (2, .ptr 2 0 [] 0 (vecA (fun _ => 0))), (3, .ptr 3 0 [] 0 (vecA (fun _ => 0))), (4, .int .i64 (i : Int))]) (ol2 := [(2, .one (vecA (fun _ => 0)) (vecA (fun _ => 0))), (3, .one (vecA (fun _ => 0)) (vecA (cutG 0 v i)))]) rfl rfl ?_
  refine snd_seq ?_
  apply sr tokTB (by kernel_rfl)
  · intro RR hRR
    refine w_move (by constructor) ?_
    refine w_lss rfl rfl ?_
    exact hRR
  refine snd_cond _ rfl (fun hc6 => ?_) (fun hc6 => ?_)
  · try simp only [Bool.not_eq_true', Bool.not_eq_false', Bool.not_eq_true, Bool.not_eq_false, decide_eq_true_eq, decide_eq_false_iff_not, Int.not_lt, Int.not_le, Classical.not_not, ne_eq] at hc6
    refine snd_skip ?_
    refine snd_seq ?_
    refine snd_block ?_
    apply lr tokTB (by kernel_rfl)
    · intro RR hRR
      refine w_move (by constructor) ?_
      refine w_move (by constructor) ?_
      first | refine w_iac rfl rfl und22 kn5 (by exact sz5.symm) ?_ rfl ?_ | refine w_iap rfl rfl und22 kn5 rfl (by exact sz5.symm) rfl ?_ ?_
      · exact ⟨by omega, by omega⟩
      first | refine w_ldc rfl kn5 (by constructor) (by exact sz5.symm) (by exact ag5.symm) ?_ | refine w_ldp rfl kn5 rfl (by constructor) (by exact sz5.symm) (by exact ag5.symm) ?_
      first | refine w_iac rfl rfl und22 kn5 (by exact sz5.symm) ?_ rfl ?_ | refine w_iap rfl rfl und22 kn5 rfl (by exact sz5.symm) rfl ?_ ?_
      · exact ⟨by omega, by omega⟩
      first | refine w_stw rfl (by constructor) kn5 rfl (by exact trivial) (by first | exact trivial | exact ssh_vec | exact ssh_alg | exact ssh_tab | exact ssh_mat | exact ⟨rfl, fun _ => trivial⟩ | exact ⟨rfl, fun _ => by rw [zr29]; exact ssh_vec⟩) (by exact sz5.symm) ?_ | refine w_sti rfl rfl kn5 rfl (by exact trivial) (by exact sz5.symm) ?_ | refine w_store rfl (HV.eq (by constructor)) kn5 rfl (by exact trivial) (by first | exact trivial | exact ssh_vec | exact ssh_alg | exact ssh_tab | exact ssh_mat | exact ⟨rfl, fun _ => trivial⟩ | exact ⟨rfl, fun _ => by rw [zr29]; exact ssh_vec⟩) (by exact sz5.symm) (put_in (by first | exact put_mat | exact put_tab | exact put_alg0 | exact put_alg1 | exact put_alg2 | exact put_alg3 | exact put_alg3i | exact put_alg2ij | exact put_alg2ijk | exact put_mat2 | exact put_tab2 | exact put_tab3)) ?_ | refine w_store rfl (HV.eq (by constructor)) kn5 rfl (by exact trivial) (by exact trivial) (by exact sz5.symm) rfl ?_
      exact hRR
    apply lr tokTB (by kernel_rfl)
    · intro RR hRR
      refine w_move (by constructor) ?_
      refine w_add rfl rfl (by first | exact w64 (by omega) (by omega) | exact w64b (by assumption) _ | exact w64t (by assumption) _ _ _ | exact rfl) ?_
      refine w_assign (by constructor) ?_
      exact hRR
    refine ⟨i + 1, ρ0, ?_, (by omega), (by dsimp only; omega)⟩
    exact ⟨⟨(by exact m_cvec (fun _ _ => rfl)), ⟨rfl, rfl, rfl, rfl, rfl⟩, ⟨rfl, rfl, rfl, rfl, rfl⟩, (by first | exact m_int rfl | exact m_int (by omega) | exact m_int (by simp; done) | (exact m_int (by simp; omega))), trivial⟩, ⟨⟨rfl, (by first | exact trivial | exact ssh_vec | exact ssh_alg | exact ssh_tab | exact ssh_mat | exact ⟨rfl, fun _ => trivial⟩ | exact ⟨rfl, fun _ => by rw [zr29]; exact ssh_vec⟩), (by exact mt_vec (fun _ _ => rfl))⟩, ⟨rfl, (by first | exact trivial | exact ssh_vec | exact ssh_alg | exact ssh_tab | exact ssh_mat | exact ⟨rfl, fun _ => trivial⟩ | exact ⟨rfl, fun _ => by rw [zr29]; exact ssh_vec⟩), (by exact mt_vec (fun z _ => upd_cutG _ _ i z))⟩, trivial⟩, ⟨⟨(fun h => by first | exact ⟨rfl, rfl⟩ | exact absurd h (by decide)), (fun h => by first | exact ⟨rfl, rfl⟩ | exact absurd h (by decide)), trivial⟩, ⟨(fun h => by first | exact ⟨rfl, rfl⟩ | exact absurd h (by decide)), (fun h => by first | exact ⟨rfl, rfl⟩ | exact absurd h (by decide)), trivial⟩, trivial⟩⟩
  · try simp only [Bool.not_eq_true', Bool.not_eq_false', Bool.not_eq_true, Bool.not_eq_false, decide_eq_true_eq, decide_eq_false_iff_not, Int.not_lt, Int.not_le, Classical.not_not, ne_eq] at hc6
    have hi6 : i = 6 := by omega
    subst hi6
    refine snd_exit ?_
    apply sr tokTB (by kernel_rfl)
    · intro RR hRR
      first | refine w_ldc rfl kn22 (by constructor) (by exact sz22.symm) (by exact ag22.symm) ?_ | refine w_ldp rfl kn22 rfl (by constructor) (by exact sz22.symm) (by exact ag22.symm) ?_
      first | refine w_stw rfl (by constructor) kn22 rfl (by exact trivial) (by first | exact trivial | exact ssh_vec | exact ssh_alg | exact ssh_tab | exact ssh_mat | exact ⟨rfl, fun _ => trivial⟩ | exact ⟨rfl, fun _ => by rw [zr29]; exact ssh_vec⟩) (by exact sz22.symm) ?_ | refine w_sti rfl rfl kn22 rfl (by exact trivial) (by exact sz22.symm) ?_ | refine w_store rfl (HV.eq (by constructor)) kn22 rfl (by exact trivial) (by first | exact trivial | exact ssh_vec | exact ssh_alg | exact ssh_tab | exact ssh_mat | exact ⟨rfl, fun _ => trivial⟩ | exact ⟨rfl, fun _ => by rw [zr29]; exact ssh_vec⟩) (by exact sz22.symm) (put_in (by first | exact put_mat | exact put_tab | exact put_alg0 | exact put_alg1 | exact put_alg2 | exact put_alg3 | exact put_alg3i | exact put_alg2ij | exact put_alg2ijk | exact put_mat2 | exact put_tab2 | exact put_tab3)) ?_ | refine w_store rfl (HV.eq (by constructor)) kn22 rfl (by exact trivial) (by exact trivial) (by exact sz22.symm) rfl ?_
      exact hRR
    refine snd_ret ?_
    exact rt_c (T := TB) rfl kn22 rfl sz22.symm ag22.symm (fun V => m_vec (fun j hj => by simp [cutG, hj]))
theorem c_toVector {v : Nat → Int} : ACalls Try.prog TB 17 [vecA v] (vecA v) [] := by
  refine acalls_of tokTB Try.func17 rfl rfl (Nat.le_of_ble_eq_true rfl) ?_
  apply sr tokTB (by kernel_rfl)
  · intro RR hRR
    refine w_boxc (HV.eq (by constructor)) (by exact trivial) ?_
    refine w_alloc kn29 rfl zr29 ?_
    exact hRR
  apply sr tokTB (by kernel_rfl)
  · intro RR hRR
    refine w_alloc kn29 rfl zr29 ?_
    exact hRR
  refine snd_seq ?_
  apply sr tokTB (by kernel_rfl)
  · intro RR hRR
    refine w_assign (by constructor) ?_
    exact hRR
  refine snd_block ?_
  refine snd_loop (S := Nat) (fun i => ([(1, .cptr (vecA v)), (2, .ptr 2 0 [] 0 (vecA (fun _ => 0))), (3, .ptr 3 0 [] 0 (vecA (fun _ => 0))), (4, .int .i64 (i : Int))], [(2, .one (vecA (fun _ => 0)) (vecA (fun _ => 0))), (3, .one (vecA (fun _ => 0)) (vecA (cutG 0 v i)))])) (fun i => i ≤ 6) (fun i => 6 - i) (0) ρ0 ?_ ?_ ?_
  · exact ⟨⟨(by exact m_cvec (fun _ _ => rfl)), ⟨rfl, rfl, rfl, rfl, rfl⟩, ⟨rfl, rfl, rfl, rfl, rfl⟩, (by first | exact m_int rfl | exact m_int (by omega) | exact m_int (by simp; done) | (exact m_int (by simp; omega))), trivial⟩, ⟨⟨rfl, (by first | exact trivial | exact ssh_vec | exact ssh_alg | exact ssh_tab | exact ssh_mat | exact ⟨rfl, fun _ => trivial⟩ | exact ⟨rfl, fun _ => by rw [zr29]; exact ssh_vec⟩), (by exact mt_vec (fun _ _ => rfl))⟩, ⟨rfl, (by first | exact trivial | exact ssh_vec | exact ssh_alg | exact ssh_tab | exact ssh_mat | exact ⟨rfl, fun _ => trivial⟩ | exact ⟨rfl, fun _ => by rw [zr29]; exact ssh_vec⟩), (by exact mt_vec (fun _ _ => rfl))⟩, trivial⟩, ⟨⟨(fun h => by first | exact ⟨rfl, rfl⟩ | exact absurd h (by decide)), (fun h => by first | exact ⟨rfl, rfl⟩ | exact absurd h (by decide)), trivial⟩, ⟨(fun h => by first | exact ⟨rfl, rfl⟩ | exact absurd h (by decide)), (fun h => by first | exact ⟨rfl, rfl⟩ | exact absurd h (by decide)), trivial⟩, trivial⟩⟩
  · exact Nat.zero_le _
  intro i hi0
  refine sq (env2 := [(1, .cptr (vecA v)), (2, .ptr 2 0 [] 0 (vecA (fun _ => 0))), (3, .ptr 3 0 [] 0 (vecA (fun _ => 0))), (4, .int .i64 (i : Int))]) (ol2 := [(2, .one (vecA (fun _ => 0)) (vecA (fun _ => 0))), (3, .one (vecA (fun _ => 0)) (vecA (cutG 0 v i)))]) rfl rfl ?_
  refine snd_seq ?_
  apply sr tokTB (by kernel_rfl)
  · intro RR hRR
    refine w_move (by constructor) ?_
    refine w_lss rfl rfl ?_
    exact hRR
  refine snd_cond _ rfl (fun hc6 => ?_) (fun hc6 => ?_)
  · try simp only [Bool.not_eq_true', Bool.not_eq_false', Bool.not_eq_true, Bool.not_eq_false, decide_eq_true_eq, decide_eq_false_iff_not, Int.not_lt, Int.not_le, Classical.not_not, ne_eq] at hc6
    refine snd_skip ?_
    refine snd_seq ?_
    refine snd_block ?_
    apply lr tokTB (by kernel_rfl)
    · intro RR hRR
      refine w_move (by constructor) ?_
      refine w_move (by constructor) ?_
      first | refine w_iac rfl rfl und22 kn5 (by exact sz5.symm) ?_ rfl ?_ | refine w_iap rfl rfl und22 kn5 rfl (by exact sz5.symm) rfl ?_ ?_
      · exact ⟨by omega, by omega⟩
      first | refine w_ldc rfl kn5 (by constructor) (by exact sz5.symm) (by exact ag5.symm) ?_ | refine w_ldp rfl kn5 rfl (by constructor) (by exact sz5.symm) (by exact ag5.symm) ?_
      first | refine w_iac rfl rfl und29 kn5 (by exact sz5.symm) ?_ rfl ?_ | refine w_iap rfl rfl und29 kn5 rfl (by exact sz5.symm) rfl ?_ ?_
      · exact ⟨by omega, by omega⟩
      first | refine w_stw rfl (by constructor) kn5 rfl (by exact trivial) (by first | exact trivial | exact ssh_vec | exact ssh_alg | exact ssh_tab | exact ssh_mat | exact ⟨rfl, fun _ => trivial⟩ | exact ⟨rfl, fun _ => by rw [zr29]; exact ssh_vec⟩) (by exact sz5.symm) ?_ | refine w_sti rfl rfl kn5 rfl (by exact trivial) (by exact sz5.symm) ?_ | refine w_store rfl (HV.eq (by constructor)) kn5 rfl (by exact trivial) (by first | exact trivial | exact ssh_vec | exact ssh_alg | exact ssh_tab | exact ssh_mat | exact ⟨rfl, fun _ => trivial⟩ | exact ⟨rfl, fun _ => by rw [zr29]; exact ssh_vec⟩) (by exact sz5.symm) (put_in (by first | exact put_mat | exact put_tab | exact put_alg0 | exact put_alg1 | exact put_alg2 | exact put_alg3 | exact put_alg3i | exact put_alg2ij | exact put_alg2ijk | exact put_mat2 | exact put_tab2 | exact put_tab3)) ?_ | refine w_store rfl (HV.eq (by constructor)) kn5 rfl (by exact trivial) (by exact trivial) (by exact sz5.symm) rfl ?_
      exact hRR
    apply lr tokTB (by kernel_rfl)
    · intro RR hRR
      refine w_move (by constructor) ?_
      refine w_add rfl rfl (by first | exact w64 (by omega) (by omega) | exact w64b (by assumption) _ | exact w64t (by assumption) _ _ _ | exact rfl) ?_
      refine w_assign (by constructor) ?_
      exact hRR
    refine ⟨i + 1, ρ0, ?_, (by omega), (by dsimp only; omega)⟩
    exact ⟨⟨(by exact m_cvec (fun _ _ => rfl)), ⟨rfl, rfl, rfl, rfl, rfl⟩, ⟨rfl, rfl, rfl, rfl, rfl⟩, (by first | exact m_int rfl | exact m_int (by omega) | exact m_int (by simp; done) | (exact m_int (by simp; omega))), trivial⟩, ⟨⟨rfl, (by first | exact trivial | exact ssh_vec | exact ssh_alg | exact ssh_tab | exact ssh_mat | exact ⟨rfl, fun _ => trivial⟩ | exact ⟨rfl, fun _ => by rw [zr29]; exact ssh_vec⟩), (by exact mt_vec (fun _ _ => rfl))⟩, ⟨rfl, (by first | exact trivial | exact ssh_vec | exact ssh_alg | exact ssh_tab | exact ssh_mat | exact ⟨rfl, fun _ => trivial⟩ | exact ⟨rfl, fun _ => by rw [zr29]; exact ssh_vec⟩), (by exact mt_vec (fun z _ => upd_cutG _ _ i z))⟩, trivial⟩, ⟨⟨(fun h => by first | exact ⟨rfl, rfl⟩ | exact absurd h (by decide)), (fun h => by first | exact ⟨rfl, rfl⟩ | exact absurd h (by decide)), trivial⟩, ⟨(fun h => by first | exact ⟨rfl, rfl⟩ | exact absurd h (by decide)), (fun h => by first | exact ⟨rfl, rfl⟩ | exact absurd h (by decide)), trivial⟩, trivial⟩⟩
  · try simp only [Bool.not_eq_true', Bool.not_eq_false', Bool.not_eq_true, Bool.not_eq_false, decide_eq_true_eq, decide_eq_false_iff_not, Int.not_lt, Int.not_le, Classical.not_not, ne_eq] at hc6
    have hi6 : i = 6 := by omega
    subst hi6
    refine snd_exit ?_
    apply sr tokTB (by kernel_rfl)
    · intro RR hRR
      first | refine w_ldc rfl kn29 (by constructor) (by exact sz29.symm) (by exact ag29.symm) ?_ | refine w_ldp rfl kn29 rfl (by constructor) (by exact sz29.symm) (by exact ag29.symm) ?_
      first | refine w_stw rfl (by constructor) kn29 rfl (by exact trivial) (by first | exact trivial | exact ssh_vec | exact ssh_alg | exact ssh_tab | exact ssh_mat | exact ⟨rfl, fun _ => trivial⟩ | exact ⟨rfl, fun _ => by rw [zr29]; exact ssh_vec⟩) (by exact sz29.symm) ?_ | refine w_sti rfl rfl kn29 rfl (by exact trivial) (by exact sz29.symm) ?_ | refine w_store rfl (HV.eq (by constructor)) kn29 rfl (by exact trivial) (by first | exact trivial | exact ssh_vec | exact ssh_alg | exact ssh_tab | exact ssh_mat | exact ⟨rfl, fun _ => trivial⟩ | exact ⟨rfl, fun _ => by rw [zr29]; exact ssh_vec⟩) (by exact sz29.symm) (put_in (by first | exact put_mat | exact put_tab | exact put_alg0 | exact put_alg1 | exact put_alg2 | exact put_alg3 | exact put_alg3i | exact put_alg2ij | exact put_alg2ijk | exact put_mat2 | exact put_tab2 | exact put_tab3)) ?_ | refine w_store rfl (HV.eq (by constructor)) kn29 rfl (by exact trivial) (by exact trivial) (by exact sz29.symm) rfl ?_
      exact hRR
    refine snd_ret ?_
    exact rt_c (T := TB) rfl kn29 rfl sz29.symm ag29.symm (fun V => m_vec (fun j hj => by simp [cutG, hj]))
theorem c_toByteA6A6 {M : Nat → Nat → Int} : ACalls Try.prog TB 70 [matA M] (matA M) [] := by
  refine acalls_of tokTB Try.func70 rfl rfl (Nat.le_of_ble_eq_true rfl) ?_
  apply sr tokTB (by kernel_rfl)
  · intro RR hRR
    refine w_boxc (HV.eq (by constructor)) (by exact trivial) ?_
    refine w_alloc kn23 rfl zr23 ?_
    exact hRR
  apply sr tokTB (by kernel_rfl)
  · intro RR hRR
    refine w_alloc kn23 rfl zr23 ?_
    exact hRR
  refine snd_seq ?_
  apply sr tokTB (by kernel_rfl)
  · intro RR hRR
    refine w_assign (by constructor) ?_
    exact hRR
  refine snd_block ?_
  refine snd_loop (S := Nat) (fun i => ([(1, .cptr (matA M)), (2, .ptr 2 0 [] 0 (matA (fun _ _ => 0))), (3, .ptr 3 0 [] 0 (matA (fun _ _ => 0))), (4, .int .i64 (i : Int))], [(2, .one (matA (fun _ _ => 0)) (matA (fun _ _ => 0))), (3, .one (matA (fun _ _ => 0)) (matA (cutG (fun _ => 0) M i)))])) (fun i => i ≤ 6) (fun i => 6 - i) (0) ρ0 ?_ ?_ ?_
  · exact ⟨⟨(by exact mt_mat (V := _) (fun _ _ _ _ => rfl)), ⟨rfl, rfl, rfl, rfl, rfl⟩, ⟨rfl, rfl, rfl, rfl, rfl⟩, (by first | exact m_int rfl | exact m_int (by omega) | exact m_int (by simp; done) | (exact m_int (by simp; omega))), trivial⟩, ⟨⟨rfl, (by first | exact trivial | exact ssh_vec | exact ssh_alg | exact ssh_tab | exact ssh_mat | exact ⟨rfl, fun _ => trivial⟩ | exact ⟨rfl, fun _ => by rw [zr29]; exact ssh_vec⟩), (by exact mt_mat (fun _ _ _ _ => rfl))⟩, ⟨rfl, (by first | exact trivial | exact ssh_vec | exact ssh_alg | exact ssh_tab | exact ssh_mat | exact ⟨rfl, fun _ => trivial⟩ | exact ⟨rfl, fun _ => by rw [zr29]; exact ssh_vec⟩), (by exact mt_mat (fun _ _ _ _ => rfl))⟩, trivial⟩, ⟨⟨(fun h => by first | exact ⟨rfl, rfl⟩ | exact absurd h (by decide)), (fun h => by first | exact ⟨rfl, rfl⟩ | exact absurd h (by decide)), trivial⟩, ⟨(fun h => by first | exact ⟨rfl, rfl⟩ | exact absurd h (by decide)), (fun h => by first | exact ⟨rfl, rfl⟩ | exact absurd h (by decide)), trivial⟩, trivial⟩⟩
  · exact Nat.zero_le _
  intro i hi0
  refine sq (env2 := [(1, .cptr (matA M)), (2, .ptr 2 0 [] 0 (matA (fun _ _ => 0))), (3, .ptr 3 0 [] 0 (matA (fun _ _ => 0))), (4, .int .i64 (i : Int))]) (ol2 := [(2, .one (matA (fun _ _ => 0)) (matA (fun _ _ => 0))), (3, .one (matA (fun _ _ => 0)) (matA (cutG (fun _ => 0) M i)))]) rfl rfl ?_
  refine snd_seq ?_
  apply sr tokTB (by kernel_rfl)
  · intro RR hRR
    refine w_move (by constructor) ?_
    refine w_lss rfl rfl ?_
    exact hRR
  refine snd_cond _ rfl (fun hc6 => ?_) (fun hc6 => ?_)
  · try simp only [Bool.not_eq_true', Bool.not_eq_false', Bool.not_eq_true, Bool.not_eq_false, decide_eq_true_eq, decide_eq_false_iff_not, Int.not_lt, Int.not_le, Classical.not_not, ne_eq] at hc6
    refine snd_skip ?_
    refine snd_seq ?_
    refine snd_block ?_
    apply lr tokTB (by kernel_rfl)
    · intro RR hRR
      refine w_move (by constructor) ?_
      refine w_move (by constructor) ?_
      first | refine w_iac rfl rfl und23 kn22 (by exact sz22.symm) ?_ rfl ?_ | refine w_iap rfl rfl und23 kn22 rfl (by exact sz22.symm) rfl ?_ ?_
      · exact ⟨by omega, by omega⟩
      first | refine w_ldc rfl kn22 (by constructor) (by exact sz22.symm) (by exact ag22.symm) ?_ | refine w_ldp rfl kn22 rfl (by constructor) (by exact sz22.symm) (by exact ag22.symm) ?_
      refine w_call0 rfl (exc (by first | exact rfl | exact exp_alg | exact exp_calg | exact ex_vl | exact exp_closed (by assumption)) exn) (c_toByteA6) (by first | exact trivial | exact fun _ => trivial | exact fun _ _ => trivial | exact fun _ _ _ => trivial | exact nr_alg | exact nr_pair (by first | exact trivial | exact fun _ => trivial | exact nr_alg) (by first | exact trivial | exact fun _ => trivial)) (fun _ => by first | exact rfl | exact shift_alg | exact shift_pair rfl rfl | exact shift_pair shift_alg rfl) ?_
      first | refine w_iac rfl rfl und23 kn22 (by exact sz22.symm) ?_ rfl ?_ | refine w_iap rfl rfl und23 kn22 rfl (by exact sz22.symm) rfl ?_ ?_
      · exact ⟨by omega, by omega⟩
      first | refine w_stw rfl (by constructor) kn22 rfl (by exact trivial) (by first | exact trivial | exact ssh_vec | exact ssh_alg | exact ssh_tab | exact ssh_mat | exact ⟨rfl, fun _ => trivial⟩ | exact ⟨rfl, fun _ => by rw [zr29]; exact ssh_vec⟩) (by exact sz22.symm) ?_ | refine w_sti rfl rfl kn22 rfl (by exact trivial) (by exact sz22.symm) ?_ | refine w_store rfl (HV.eq (by constructor)) kn22 rfl (by exact trivial) (by first | exact trivial | exact ssh_vec | exact ssh_alg | exact ssh_tab | exact ssh_mat | exact ⟨rfl, fun _ => trivial⟩ | exact ⟨rfl, fun _ => by rw [zr29]; exact ssh_vec⟩) (by exact sz22.symm) (put_in (by first | exact put_mat | exact put_tab | exact put_alg0 | exact put_alg1 | exact put_alg2 | exact put_alg3 | exact put_alg3i | exact put_alg2ij | exact put_alg2ijk | exact put_mat2 | exact put_tab2 | exact put_tab3)) ?_ | refine w_store rfl (HV.eq (by constructor)) kn22 rfl (by exact trivial) (by exact trivial) (by exact sz22.symm) rfl ?_
      exact hRR
    apply lr tokTB (by kernel_rfl)
    · intro RR hRR
      refine w_move (by constructor) ?_
      refine w_add rfl rfl (by first | exact w64 (by omega) (by omega) | exact w64b (by assumption) _ | exact w64t (by assumption) _ _ _ | exact rfl) ?_
      refine w_assign (by constructor) ?_
      exact hRR
    refine ⟨i + 1, ρ0, ?_, (by omega), (by dsimp only; omega)⟩
    exact ⟨⟨(by exact mt_mat (V := _) (fun _ _ _ _ => rfl)), ⟨rfl, rfl, rfl, rfl, rfl⟩, ⟨rfl, rfl, rfl, rfl, rfl⟩, (by first | exact m_int rfl | exact m_int (by omega) | exact m_int (by simp; done) | (exact m_int (by simp; omega))), trivial⟩, ⟨⟨rfl, (by first | exact trivial | exact ssh_vec | exact ssh_alg | exact ssh_tab | exact ssh_mat | exact ⟨rfl, fun _ => trivial⟩ | exact ⟨rfl, fun _ => by rw [zr29]; exact ssh_vec⟩), (by exact mt_mat (fun _ _ _ _ => rfl))⟩, ⟨rfl, (by first | exact trivial | exact ssh_vec | exact ssh_alg | exact ssh_tab | exact ssh_mat | exact ⟨rfl, fun _ => trivial⟩ | exact ⟨rfl, fun _ => by rw [zr29]; exact ssh_vec⟩), (by exact mt_mat (fun z w _ _ => congrFun (upd_cutG _ _ i z) w))⟩, trivial⟩, ⟨⟨(fun h => by first | exact ⟨rfl, rfl⟩ | exact absurd h (by decide)), (fun h => by first | exact ⟨rfl, rfl⟩ | exact absurd h (by decide)), trivial⟩, ⟨(fun h => by first | exact ⟨rfl, rfl⟩ | exact absurd h (by decide)), (fun h => by first | exact ⟨rfl, rfl⟩ | exact absurd h (by decide)), trivial⟩, trivial⟩⟩
  · try simp only [Bool.not_eq_true', Bool.not_eq_false', Bool.not_eq_true, Bool.not_eq_false, decide_eq_true_eq, decide_eq_false_iff_not, Int.not_lt, Int.not_le, Classical.not_not, ne_eq] at hc6
    have hi6 : i = 6 := by omega
    subst hi6
    refine snd_exit ?_
    apply sr tokTB (by kernel_rfl)
    · intro RR hRR
      first | refine w_ldc rfl kn23 (by constructor) (by exact sz23.symm) (by exact ag23.symm) ?_ | refine w_ldp rfl kn23 rfl (by constructor) (by exact sz23.symm) (by exact ag23.symm) ?_
      first | refine w_stw rfl (by constructor) kn23 rfl (by exact trivial) (by first | exact trivial | exact ssh_vec | exact ssh_alg | exact ssh_tab | exact ssh_mat | exact ⟨rfl, fun _ => trivial⟩ | exact ⟨rfl, fun _ => by rw [zr29]; exact ssh_vec⟩) (by exact sz23.symm) ?_ | refine w_sti rfl rfl kn23 rfl (by exact trivial) (by exact sz23.symm) ?_ | refine w_store rfl (HV.eq (by constructor)) kn23 rfl (by exact trivial) (by first | exact trivial | exact ssh_vec | exact ssh_alg | exact ssh_tab | exact ssh_mat | exact ⟨rfl, fun _ => trivial⟩ | exact ⟨rfl, fun _ => by rw [zr29]; exact ssh_vec⟩) (by exact sz23.symm) (put_in (by first | exact put_mat | exact put_tab | exact put_alg0 | exact put_alg1 | exact put_alg2 | exact put_alg3 | exact put_alg3i | exact put_alg2ij | exact put_alg2ijk | exact put_mat2 | exact put_tab2 | exact put_tab3)) ?_ | refine w_store rfl (HV.eq (by constructor)) kn23 rfl (by exact trivial) (by exact trivial) (by exact sz23.symm) rfl ?_
      exact hRR
    refine snd_ret ?_
    exact rt_c (T := TB) rfl kn23 rfl sz23.symm ag23.symm (fun V => mt_mat (fun j k hj _ => by simp [cutG, hj]))
theorem c_toByteA6A6A6 {T : Nat → Nat → Nat → Int} : ACalls Try.prog TB 44 [tabA T] (tabA T) [] := by
  refine acalls_of tokTB Try.func44 rfl rfl (Nat.le_of_ble_eq_true rfl) ?_
  apply sr tokTB (by kernel_rfl)
  · intro RR hRR
    refine w_boxc (HV.eq (by constructor)) (by exact trivial) ?_
    refine w_alloc kn24 rfl zr24 ?_
    exact hRR
  apply sr tokTB (by kernel_rfl)
  · intro RR hRR
    refine w_alloc kn24 rfl zr24 ?_
    exact hRR
  refine snd_seq ?_
  apply sr tokTB (by kernel_rfl)
  · intro RR hRR
    refine w_assign (by constructor) ?_
    exact hRR
  refine snd_block ?_
  refine snd_loop (S := Nat) (fun i => ([(1, .cptr (tabA T)), (2, .ptr 2 0 [] 0 (tabA (fun _ _ _ => 0))), (3, .ptr 3 0 [] 0 (tabA (fun _ _ _ => 0))), (4, .int .i64 (i : Int))], [(2, .one (tabA (fun _ _ _ => 0)) (tabA (fun _ _ _ => 0))), (3, .one (tabA (fun _ _ _ => 0)) (tabA (cutG (fun _ _ => 0) T i)))])) (fun i => i ≤ 6) (fun i => 6 - i) (0) ρ0 ?_ ?_ ?_
  · exact ⟨⟨(by exact mt_tab (V := _) (fun _ _ _ _ _ _ => rfl)), ⟨rfl, rfl, rfl, rfl, rfl⟩, ⟨rfl, rfl, rfl, rfl, rfl⟩, (by first | exact m_int rfl | exact m_int (by omega) | exact m_int (by simp; done) | (exact m_int (by simp; omega))), trivial⟩, ⟨⟨rfl, (by first | exact trivial | exact ssh_vec | exact ssh_alg | exact ssh_tab | exact ssh_mat | exact ⟨rfl, fun _ => trivial⟩ | exact ⟨rfl, fun _ => by rw [zr29]; exact ssh_vec⟩), (by exact mt_tab (fun _ _ _ _ _ _ => rfl))⟩, ⟨rfl, (by first | exact trivial | exact ssh_vec | exact ssh_alg | exact ssh_tab | exact ssh_mat | exact ⟨rfl, fun _ => trivial⟩ | exact ⟨rfl, fun _ => by rw [zr29]; exact ssh_vec⟩), (by exact mt_tab (fun _ _ _ _ _ _ => rfl))⟩, trivial⟩, ⟨⟨(fun h => by first | exact ⟨rfl, rfl⟩ | exact absurd h (by decide)), (fun h => by first | exact ⟨rfl, rfl⟩ | exact absurd h (by decide)), trivial⟩, ⟨(fun h => by first | exact ⟨rfl, rfl⟩ | exact absurd h (by decide)), (fun h => by first | exact ⟨rfl, rfl⟩ | exact absurd h (by decide)), trivial⟩, trivial⟩⟩
  · exact Nat.zero_le _
  intro i hi0
  refine sq (env2 := [(1, .cptr (tabA T)), (2, .ptr 2 0 [] 0 (tabA (fun _ _ _ => 0))), (3, .ptr 3 0 [] 0 (tabA (fun _ _ _ => 0))), (4, .int .i64 (i : Int))]) (ol2 := [(2, .one (tabA (fun _ _ _ => 0)) (tabA (fun _ _ _ => 0))), (3, .one (tabA (fun _ _ _ => 0)) (tabA (cutG (fun _ _ => 0) T i)))]) rfl rfl ?_
  refine snd_seq ?_
  apply sr tokTB (by kernel_rfl)
  · intro RR hRR
    refine w_move (by constructor) ?_
    refine w_lss rfl rfl ?_
    exact hRR
  refine snd_cond _ rfl (fun hc6 => ?_) (fun hc6 => ?_)
  · try simp only [Bool.not_eq_true', Bool.not_eq_false', Bool.not_eq_true, Bool.not_eq_false, decide_eq_true_eq, decide_eq_false_iff_not, Int.not_lt, Int.not_le, Classical.not_not, ne_eq] at hc6
    refine snd_skip ?_
    refine snd_seq ?_
    refine snd_block ?_
    apply lr tokTB (by kernel_rfl)
    · intro RR hRR
      refine w_move (by constructor) ?_
      refine w_move (by constructor) ?_
      first | refine w_iac rfl rfl und24 kn23 (by exact sz23.symm) ?_ rfl ?_ | refine w_iap rfl rfl und24 kn23 rfl (by exact sz23.symm) rfl ?_ ?_
      · exact ⟨by omega, by omega⟩
      first | refine w_ldc rfl kn23 (by constructor) (by exact sz23.symm) (by exact ag23.symm) ?_ | refine w_ldp rfl kn23 rfl (by constructor) (by exact sz23.symm) (by exact ag23.symm) ?_
      refine w_call0 rfl (exc (by first | exact rfl | exact exp_alg | exact exp_calg | exact ex_vl | exact exp_closed (by assumption)) exn) (c_toByteA6A6) (by first | exact trivial | exact fun _ => trivial | exact fun _ _ => trivial | exact fun _ _ _ => trivial | exact nr_alg | exact nr_pair (by first | exact trivial | exact fun _ => trivial | exact nr_alg) (by first | exact trivial | exact fun _ => trivial)) (fun _ => by first | exact rfl | exact shift_alg | exact shift_pair rfl rfl | exact shift_pair shift_alg rfl) ?_
      first | refine w_iac rfl rfl und24 kn23 (by exact sz23.symm) ?_ rfl ?_ | refine w_iap rfl rfl und24 kn23 rfl (by exact sz23.symm) rfl ?_ ?_
      · exact ⟨by omega, by omega⟩
      first | refine w_stw rfl (by constructor) kn23 rfl (by exact trivial) (by first | exact trivial | exact ssh_vec | exact ssh_alg | exact ssh_tab | exact ssh_mat | exact ⟨rfl, fun _ => trivial⟩ | exact ⟨rfl, fun _ => by rw [zr29]; exact ssh_vec⟩) (by exact sz23.symm) ?_ | refine w_sti rfl rfl kn23 rfl (by exact trivial) (by exact sz23.symm) ?_ | refine w_store rfl (HV.eq (by constructor)) kn23 rfl (by exact trivial) (by first | exact trivial | exact ssh_vec | exact ssh_alg | exact ssh_tab | exact ssh_mat | exact ⟨rfl, fun _ => trivial⟩ | exact ⟨rfl, fun _ => by rw [zr29]; exact ssh_vec⟩) (by exact sz23.symm) (put_in (by first | exact put_mat | exact put_tab | exact put_alg0 | exact put_alg1 | exact put_alg2 | exact put_alg3 | exact put_alg3i | exact put_alg2ij | exact put_alg2ijk | exact put_mat2 | exact put_tab2 | exact put_tab3)) ?_ | refine w_store rfl (HV.eq (by constructor)) kn23 rfl (by exact trivial) (by exact trivial) (by exact sz23.symm) rfl ?_
      exact hRR
    apply lr tokTB (by kernel_rfl)
    · intro RR hRR
      refine w_move (by constructor) ?_
      refine w_add rfl rfl (by first | exact w64 (by omega) (by omega) | exact w64b (by assumption) _ | exact w64t (by assumption) _ _ _ | exact rfl) ?_
      refine w_assign (by constructor) ?_
      exact hRR
    refine ⟨i + 1, ρ0, ?_, (by omega), (by dsimp only; omega)⟩
    exact ⟨⟨(by exact mt_tab (V := _) (fun _ _ _ _ _ _ => rfl)), ⟨rfl, rfl, rfl, rfl, rfl⟩, ⟨rfl, rfl, rfl, rfl, rfl⟩, (by first | exact m_int rfl | exact m_int (by omega) | exact m_int (by simp; done) | (exact m_int (by simp; omega))), trivial⟩, ⟨⟨rfl, (by first | exact trivial | exact ssh_vec | exact ssh_alg | exact ssh_tab | exact ssh_mat | exact ⟨rfl, fun _ => trivial⟩ | exact ⟨rfl, fun _ => by rw [zr29]; exact ssh_vec⟩), (by exact mt_tab (fun _ _ _ _ _ _ => rfl))⟩, ⟨rfl, (by first | exact trivial | exact ssh_vec | exact ssh_alg | exact ssh_tab | exact ssh_mat | exact ⟨rfl, fun _ => trivial⟩ | exact ⟨rfl, fun _ => by rw [zr29]; exact ssh_vec⟩), (by exact mt_tab (fun z w y _ _ _ => congrFun (congrFun (upd_cutG _ _ i z) w) y))⟩, trivial⟩, ⟨⟨(fun h => by first | exact ⟨rfl, rfl⟩ | exact absurd h (by decide)), (fun h => by first | exact ⟨rfl, rfl⟩ | exact absurd h (by decide)), trivial⟩, ⟨(fun h => by first | exact ⟨rfl, rfl⟩ | exact absurd h (by decide)), (fun h => by first | exact ⟨rfl, rfl⟩ | exact absurd h (by decide)), trivial⟩, trivial⟩⟩
  · try simp only [Bool.not_eq_true', Bool.not_eq_false', Bool.not_eq_true, Bool.not_eq_false, decide_eq_true_eq, decide_eq_false_iff_not, Int.not_lt, Int.not_le, Classical.not_not, ne_eq] at hc6
    have hi6 : i = 6 := by omega
    subst hi6
    refine snd_exit ?_
    apply sr tokTB (by kernel_rfl)
    · intro RR hRR
      first | refine w_ldc rfl kn24 (by constructor) (by exact sz24.symm) (by exact ag24.symm) ?_ | refine w_ldp rfl kn24 rfl (by constructor) (by exact sz24.symm) (by exact ag24.symm) ?_
      first | refine w_stw rfl (by constructor) kn24 rfl (by exact trivial) (by first | exact trivial | exact ssh_vec | exact ssh_alg | exact ssh_tab | exact ssh_mat | exact ⟨rfl, fun _ => trivial⟩ | exact ⟨rfl, fun _ => by rw [zr29]; exact ssh_vec⟩) (by exact sz24.symm) ?_ | refine w_sti rfl rfl kn24 rfl (by exact trivial) (by exact sz24.symm) ?_ | refine w_store rfl (HV.eq (by constructor)) kn24 rfl (by exact trivial) (by first | exact trivial | exact ssh_vec | exact ssh_alg | exact ssh_tab | exact ssh_mat | exact ⟨rfl, fun _ => trivial⟩ | exact ⟨rfl, fun _ => by rw [zr29]; exact ssh_vec⟩) (by exact sz24.symm) (put_in (by first | exact put_mat | exact put_tab | exact put_alg0 | exact put_alg1 | exact put_alg2 | exact put_alg3 | exact put_alg3i | exact put_alg2ij | exact put_alg2ijk | exact put_mat2 | exact put_tab2 | exact put_tab3)) ?_ | refine w_store rfl (HV.eq (by constructor)) kn24 rfl (by exact trivial) (by exact trivial) (by exact sz24.symm) rfl ?_
      exact hRR
    refine snd_ret ?_
    exact rt_c (T := TB) rfl kn24 rfl sz24.symm ag24.symm (fun V => mt_tab (fun j k l hj _ _ => by simp [cutG, hj]))
theorem c_toAlgebra {p n : Int} {T : Nat → Nat → Nat → Int} {fo : Nat → Int} : ACalls Try.prog TB 16 [algA p n T fo] (algA p n T fo) [] := by
  refine acalls_of tokTB Try.func16 rfl rfl (Nat.le_of_ble_eq_true rfl) ?_
  apply sr tokTB (by kernel_rfl)
  · intro RR hRR
    refine w_boxc (HV.eq (by constructor)) (by exact trivial) ?_
    refine w_alloc kn31 rfl zr31 ?_
    exact hRR
  apply sr tokTB (by kernel_rfl)
  · intro RR hRR
    refine w_alloc kn31 rfl zr31 ?_
    exact hRR
  apply sr tokTB (by kernel_rfl)
  · intro RR hRR
    first | refine w_fac rfl und26 rfl kn2 nz2 (by decide) rfl (by constructor) ?_ | refine w_fap rfl und26 rfl kn2 nz2 rfl (by decide) rfl ?_
    first | refine w_ldc rfl kn2 (by constructor) (by exact sz2.symm) (by exact ag2.symm) ?_ | refine w_ldp rfl kn2 rfl (by constructor) (by exact sz2.symm) (by exact ag2.symm) ?_
    first | refine w_fac rfl und31 rfl kn2 nz2 (by decide) rfl (by constructor) ?_ | refine w_fap rfl und31 rfl kn2 nz2 rfl (by decide) rfl ?_
    first | refine w_stw rfl (by constructor) kn2 rfl (by exact trivial) (by first | exact trivial | exact ssh_vec | exact ssh_alg | exact ssh_tab | exact ssh_mat | exact ⟨rfl, fun _ => trivial⟩ | exact ⟨rfl, fun _ => by rw [zr29]; exact ssh_vec⟩) (by exact sz2.symm) ?_ | refine w_sti rfl rfl kn2 rfl (by exact trivial) (by exact sz2.symm) ?_ | refine w_store rfl (HV.eq (by constructor)) kn2 rfl (by exact trivial) (by first | exact trivial | exact ssh_vec | exact ssh_alg | exact ssh_tab | exact ssh_mat | exact ⟨rfl, fun _ => trivial⟩ | exact ⟨rfl, fun _ => by rw [zr29]; exact ssh_vec⟩) (by exact sz2.symm) (put_in (by first | exact put_mat | exact put_tab | exact put_alg0 | exact put_alg1 | exact put_alg2 | exact put_alg3 | exact put_alg3i | exact put_alg2ij | exact put_alg2ijk | exact put_mat2 | exact put_tab2 | exact put_tab3)) ?_ | refine w_store rfl (HV.eq (by constructor)) kn2 rfl (by exact trivial) (by exact trivial) (by exact sz2.symm) rfl ?_
    exact hRR
  apply sr tokTB (by kernel_rfl)
  · intro RR hRR
    first | refine w_fac rfl und26 rfl kn2 nz2 (by decide) rfl (by constructor) ?_ | refine w_fap rfl und26 rfl kn2 nz2 rfl (by decide) rfl ?_
    first | refine w_ldc rfl kn2 (by constructor) (by exact sz2.symm) (by exact ag2.symm) ?_ | refine w_ldp rfl kn2 rfl (by constructor) (by exact sz2.symm) (by exact ag2.symm) ?_
    first | refine w_fac rfl und31 rfl kn2 nz2 (by decide) rfl (by constructor) ?_ | refine w_fap rfl und31 rfl kn2 nz2 rfl (by decide) rfl ?_
    first | refine w_stw rfl (by constructor) kn2 rfl (by exact trivial) (by first | exact trivial | exact ssh_vec | exact ssh_alg | exact ssh_tab | exact ssh_mat | exact ⟨rfl, fun _ => trivial⟩ | exact ⟨rfl, fun _ => by rw [zr29]; exact ssh_vec⟩) (by exact sz2.symm) ?_ | refine w_sti rfl rfl kn2 rfl (by exact trivial) (by exact sz2.symm) ?_ | refine w_store rfl (HV.eq (by constructor)) kn2 rfl (by exact trivial) (by first | exact trivial | exact ssh_vec | exact ssh_alg | exact ssh_tab | exact ssh_mat | exact ⟨rfl, fun _ => trivial⟩ | exact ⟨rfl, fun _ => by rw [zr29]; exact ssh_vec⟩) (by exact sz2.symm) (put_in (by first | exact put_mat | exact put_tab | exact put_alg0 | exact put_alg1 | exact put_alg2 | exact put_alg3 | exact put_alg3i | exact put_alg2ij | exact put_alg2ijk | exact put_mat2 | exact put_tab2 | exact put_tab3)) ?_ | refine w_store rfl (HV.eq (by constructor)) kn2 rfl (by exact trivial) (by exact trivial) (by exact sz2.symm) rfl ?_
    exact hRR
  apply sr tokTB (by kernel_rfl)
  · intro RR hRR
    first | refine w_fac rfl und26 rfl kn24 nz24 (by decide) rfl (by constructor) ?_ | refine w_fap rfl und26 rfl kn24 nz24 rfl (by decide) rfl ?_
    first | refine w_ldc rfl kn24 (by constructor) (by exact sz24.symm) (by exact ag24.symm) ?_ | refine w_ldp rfl kn24 rfl (by constructor) (by exact sz24.symm) (by exact ag24.symm) ?_
    refine w_call0 rfl (exc (by first | exact rfl | exact exp_alg | exact exp_calg | exact ex_vl | exact exp_closed (by assumption)) exn) (c_toByteA6A6A6) (by first | exact trivial | exact fun _ => trivial | exact fun _ _ => trivial | exact fun _ _ _ => trivial | exact nr_alg | exact nr_pair (by first | exact trivial | exact fun _ => trivial | exact nr_alg) (by first | exact trivial | exact fun _ => trivial)) (fun _ => by first | exact rfl | exact shift_alg | exact shift_pair rfl rfl | exact shift_pair shift_alg rfl) ?_
    first | refine w_fac rfl und31 rfl kn24 nz24 (by decide) rfl (by constructor) ?_ | refine w_fap rfl und31 rfl kn24 nz24 rfl (by decide) rfl ?_
    first | refine w_stw rfl (by constructor) kn24 rfl (by exact trivial) (by first | exact trivial | exact ssh_vec | exact ssh_alg | exact ssh_tab | exact ssh_mat | exact ⟨rfl, fun _ => trivial⟩ | exact ⟨rfl, fun _ => by rw [zr29]; exact ssh_vec⟩) (by exact sz24.symm) ?_ | refine w_sti rfl rfl kn24 rfl (by exact trivial) (by exact sz24.symm) ?_ | refine w_store rfl (HV.eq (by constructor)) kn24 rfl (by exact trivial) (by first | exact trivial | exact ssh_vec | exact ssh_alg | exact ssh_tab | exact ssh_mat | exact ⟨rfl, fun _ => trivial⟩ | exact ⟨rfl, fun _ => by rw [zr29]; exact ssh_vec⟩) (by exact sz24.symm) (put_in (by first | exact put_mat | exact put_tab | exact put_alg0 | exact put_alg1 | exact put_alg2 | exact put_alg3 | exact put_alg3i | exact put_alg2ij | exact put_alg2ijk | exact put_mat2 | exact put_tab2 | exact put_tab3)) ?_ | refine w_store rfl (HV.eq (by constructor)) kn24 rfl (by exact trivial) (by exact trivial) (by exact sz24.symm) rfl ?_
    exact hRR
  apply sr tokTB (by kernel_rfl)
  · intro RR hRR
    first | refine w_fac rfl und26 rfl kn22 nz22 (by decide) rfl (by constructor) ?_ | refine w_fap rfl und26 rfl kn22 nz22 rfl (by decide) rfl ?_
    first | refine w_ldc rfl kn22 (by constructor) (by exact sz22.symm) (by exact ag22.symm) ?_ | refine w_ldp rfl kn22 rfl (by constructor) (by exact sz22.symm) (by exact ag22.symm) ?_
    refine w_call0 rfl (exc (by first | exact rfl | exact exp_alg | exact exp_calg | exact ex_vl | exact exp_closed (by assumption)) exn) (c_toVector) (by first | exact trivial | exact fun _ => trivial | exact fun _ _ => trivial | exact fun _ _ _ => trivial | exact nr_alg | exact nr_pair (by first | exact trivial | exact fun _ => trivial | exact nr_alg) (by first | exact trivial | exact fun _ => trivial)) (fun _ => by first | exact rfl | exact shift_alg | exact shift_pair rfl rfl | exact shift_pair shift_alg rfl) ?_
    first | refine w_fac rfl und31 rfl kn29 nz29 (by decide) rfl (by constructor) ?_ | refine w_fap rfl und31 rfl kn29 nz29 rfl (by decide) rfl ?_
    first | refine w_stw rfl (by constructor) kn29 rfl (by exact trivial) (by first | exact trivial | exact ssh_vec | exact ssh_alg | exact ssh_tab | exact ssh_mat | exact ⟨rfl, fun _ => trivial⟩ | exact ⟨rfl, fun _ => by rw [zr29]; exact ssh_vec⟩) (by exact sz29.symm) ?_ | refine w_sti rfl rfl kn29 rfl (by exact trivial) (by exact sz29.symm) ?_ | refine w_store rfl (HV.eq (by constructor)) kn29 rfl (by exact trivial) (by first | exact trivial | exact ssh_vec | exact ssh_alg | exact ssh_tab | exact ssh_mat | exact ⟨rfl, fun _ => trivial⟩ | exact ⟨rfl, fun _ => by rw [zr29]; exact ssh_vec⟩) (by exact sz29.symm) (put_in (by first | exact put_mat | exact put_tab | exact put_alg0 | exact put_alg1 | exact put_alg2 | exact put_alg3 | exact put_alg3i | exact put_alg2ij | exact put_alg2ijk | exact put_mat2 | exact put_tab2 | exact put_tab3)) ?_ | refine w_store rfl (HV.eq (by constructor)) kn29 rfl (by exact trivial) (by exact trivial) (by exact sz29.symm) rfl ?_
    exact hRR
  apply sr tokTB (by kernel_rfl)
  · intro RR hRR
    first | refine w_ldc rfl kn31 (by constructor) (by exact sz31.symm) (by exact ag31.symm) ?_ | refine w_ldp rfl kn31 rfl (by constructor) (by exact sz31.symm) (by exact ag31.symm) ?_
    first | refine w_stw rfl (by constructor) kn31 rfl (by exact trivial) (by first | exact trivial | exact ssh_vec | exact ssh_alg | exact ssh_tab | exact ssh_mat | exact ⟨rfl, fun _ => trivial⟩ | exact ⟨rfl, fun _ => by rw [zr29]; exact ssh_vec⟩) (by exact sz31.symm) ?_ | refine w_sti rfl rfl kn31 rfl (by exact trivial) (by exact sz31.symm) ?_ | refine w_store rfl (HV.eq (by constructor)) kn31 rfl (by exact trivial) (by first | exact trivial | exact ssh_vec | exact ssh_alg | exact ssh_tab | exact ssh_mat | exact ⟨rfl, fun _ => trivial⟩ | exact ⟨rfl, fun _ => by rw [zr29]; exact ssh_vec⟩) (by exact sz31.symm) (put_in (by first | exact put_mat | exact put_tab | exact put_alg0 | exact put_alg1 | exact put_alg2 | exact put_alg3 | exact put_alg3i | exact put_alg2ij | exact put_alg2ijk | exact put_mat2 | exact put_tab2 | exact put_tab3)) ?_ | refine w_store rfl (HV.eq (by constructor)) kn31 rfl (by exact trivial) (by exact trivial) (by exact sz31.symm) rfl ?_
    exact hRR
  refine snd_ret ?_
  exact rt_c (T := TB) rfl kn31 rfl sz31.symm ag31.symm (fun V => m_alg)
end Go.Am
