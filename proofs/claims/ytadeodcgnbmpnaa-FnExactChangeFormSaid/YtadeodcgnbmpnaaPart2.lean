/- Part 2 of what the law stands on: abstract values, their walk, contracts of functions. My own work. Conditions: none. -/
import Derived.Test.YtadeodcgnbmpnaaPart1
import Derived.ChangeSlices
import Derived.Laws.Externs
import Derived.Lib.Bytealg
set_option linter.unusedVariables false
set_option linter.unusedSimpArgs false
namespace Go.Am
section
variable {p : Int} {n : Nat} {T : Nat → Nat → Nat → Int}
def pz (n : Nat) (T : Nat → Nat → Nat → Int) (u v : Nat → Int) (k : Nat) : Int := sumZ (fun i => sumZ (fun j => u i * v j * T i j k) n) n
theorem times_pz {u v : Nat → Int} {k : Nat} (hk : k < n) : timesF p n T u v k = pz n T u v k % p := by
  unfold timesF; rw [if_pos hk]; rfl
def cg (p : Int) (n : Nat) (u v : Nat → Int) : Prop := ∀ j, j < n → p ∣ u j - v j
theorem cg.rf (u : Nat → Int) : cg p n u u := fun j _ => dvd_rf rfl
theorem cg.sy {u v : Nat → Int} (h : cg p n u v) : cg p n v u := fun j hj => dvd_sy (h j hj)
theorem cg.tr {u v w : Nat → Int} (h : cg p n u v) (h' : cg p n v w) : cg p n u w := fun j hj => dvd_tr (h j hj) (h' j hj)
theorem mul_dvd {a b c d : Int} (h : p ∣ a - b) (h' : p ∣ c - d) : p ∣ a * c - b * d := by
  have h1 : p ∣ (a - b) * c := Int.dvd_mul_of_dvd_left h
  have h2 : p ∣ b * (c - d) := Int.dvd_mul_of_dvd_right h'
  have := Int.dvd_add h1 h2
  rwa [Int.sub_mul, Int.mul_sub, show a * c - b * c + (b * c - b * d) = a * c - b * d by omega] at this
theorem pz_cg {u u' v v' : Nat → Int} (hu : cg p n u u') (hv : cg p n v v') (k : Nat) : p ∣ pz n T u v k - pz n T u' v' k :=
  sumZ_dvd n (fun i hi => sumZ_dvd n (fun j hj => mul_dvd (mul_dvd (hu i hi) (hv j hj)) (dvd_rf rfl)))
theorem times_cg {u u' v v' : Nat → Int} (hu : cg p n u u') (hv : cg p n v v') : timesF p n T u v = timesF p n T u' v' := by
  funext k
  by_cases hk : k < n
  · rw [times_pz hk, times_pz hk]; exact mod_eq_of_dvd (pz_cg hu hv k)
  · unfold timesF; rw [if_neg hk, if_neg hk]
theorem cg_times (u v : Nat → Int) : cg p n (timesF p n T u v) (pz n T u v) := fun k hk => by rw [times_pz hk]; exact dvd_mod p _
theorem VV.ext {u v : Nat → Int} (hu : VV p n u) (hv : VV p n v) (h : cg p n u v) : u = v := by
  funext k
  by_cases hk : k < n
  · exact eq_of_dvd (hu.b k) (hv.b k) (h k hk)
  · rw [hu.z k (by omega), hv.z k (by omega)]
theorem VV.times (hp : 0 < p) {u v : Nat → Int} : VV p n (timesF p n T u v) := ⟨timesF_Bp hp, fun k hk => by unfold timesF; rw [if_neg (by omega)]⟩
theorem VV.zero (hp : 0 < p) : VV p n (fun _ => 0) := ⟨fun _ => ⟨Int.le_refl _, hp⟩, fun _ _ => rfl⟩
theorem VV.eF (hp : 1 < p) {i : Nat} (hi : i < n) : VV p n (eF i) := ⟨eF_Bp hp i, fun k hk => by rw [eF_dl]; unfold dl; rw [if_neg (by omega)]⟩
theorem VV.add (hp : 0 < p) {u v : Nat → Int} (hu : VV p n u) (hv : VV p n v) (c : Int) : VV p n (addF p u v c) := ⟨addF_Bp hp u v c, fun k hk => by unfold addF; rw [hu.z k hk, hv.z k hk, Int.mul_zero]; rfl⟩
theorem VV.eqN {u v : Nat → Int} (h6 : n ≤ 6) (hu : VV p n u) (hv : VV p n v) : eqN 6 u v ↔ u = v := by
  constructor
  · intro h
    funext k
    by_cases hk : k < 6
    · exact h k hk
    · rw [hu.z k (by omega), hv.z k (by omega)]
  · rintro rfl k _; rfl
theorem pz_add_r (u v w : Nat → Int) (c : Int) (k : Nat) : pz n T u (fun j => v j + c * w j) k = pz n T u v k + c * pz n T u w k := by
  unfold pz
  rw [← sumZ_mul, ← sumZ_add]
  refine sumZ_congr n (fun i _ => ?_)
  rw [← sumZ_mul, ← sumZ_add]
  refine sumZ_congr n (fun j _ => ?_)
  rw [Int.mul_add, Int.add_mul]
  congr 1
  rw [Int.mul_left_comm (u i), Int.mul_assoc, Int.mul_assoc]
theorem pz_basis_r (v x : Nat → Int) (k : Nat) : sumZ (fun i => x i * pz n T v (eF i) k) n = pz n T v x k := by
  unfold pz
  have e : ∀ i, i < n → x i * sumZ (fun a => sumZ (fun j => v a * eF i j * T a j k) n) n = sumZ (fun a => v a * x i * T a i k) n := fun i hi => by
    rw [← sumZ_mul]
    refine sumZ_congr n (fun a _ => ?_)
    rw [sumZ_one (c := i) n hi (fun j _ hne => by rw [eF_dl]; unfold dl; rw [if_neg (Ne.symm hne)]; simp)]
    rw [eF_dl]; unfold dl; rw [if_pos rfl, Int.mul_one, Int.mul_left_comm, Int.mul_assoc]
  rw [sumZ_congr n e, sumZ_swap]
theorem pz_basis_l (v x : Nat → Int) (k : Nat) : sumZ (fun i => x i * pz n T (eF i) v k) n = pz n T x v k := by
  unfold pz
  refine sumZ_congr n (fun i hi => ?_)
  rw [sumZ_one (c := i) n hi (fun a _ hne => ?_)]
  · rw [← sumZ_mul]
    refine sumZ_congr n (fun j _ => ?_)
    rw [eF_dl]; unfold dl; rw [if_pos rfl, Int.one_mul, Int.mul_assoc]
  · rw [sumZ_congr (g := fun _ => 0) n (fun j _ => by rw [eF_dl]; unfold dl; rw [if_neg (Ne.symm hne)]; simp), sumZ_zero]
theorem times_basis_r (v x : Nat → Int) {k : Nat} (hk : k < n) : p ∣ sumZ (fun i => timesF p n T v (eF i) k * x i) n - pz n T v x k := by
  rw [← pz_basis_r]
  refine sumZ_dvd n (fun i hi => ?_)
  rw [Int.mul_comm (x i)]
  refine mul_dvd ?_ (dvd_rf rfl)
  rw [times_pz hk]; exact dvd_mod p _
theorem times_basis_l (v x : Nat → Int) {k : Nat} (hk : k < n) : p ∣ sumZ (fun i => timesF p n T (eF i) v k * x i) n - pz n T x v k := by
  rw [← pz_basis_l]
  refine sumZ_dvd n (fun i hi => ?_)
  rw [Int.mul_comm (x i)]
  refine mul_dvd ?_ (dvd_rf rfl)
  rw [times_pz hk]; exact dvd_mod p _
theorem asc_basis (h6 : n ≤ 6) (h : assocP p n T) {i j k l : Nat} (hi : i < n) (hj : j < n) (hk : k < n) (hl : l < n) :
    p ∣ sumZ (fun a => T i j a * T a k l) n - sumZ (fun b => T j k b * T i b l) n := by
  have := h i hi j hj k hk l (by omega)
  rw [times_er hk hl, times_el hi hl] at this
  have h2 := dvd_sy (dvd_mod p (sumZ (fun a => T a k l * T i j a) n))
  rw [this] at h2
  have h3 := dvd_tr h2 (dvd_mod p _)
  rw [sumZ_congr (g := fun a => T a k l * T i j a) n (fun a _ => Int.mul_comm _ _), sumZ_congr (f := fun b => T j k b * T i b l) (g := fun b => T i b l * T j k b) n (fun b _ => Int.mul_comm _ _)]
  exact h3
def s3 (n : Nat) (f : Nat → Nat → Nat → Int) : Int := sumZ (fun i => sumZ (fun j => sumZ (f i j) n) n) n
theorem s3_dvd {f g : Nat → Nat → Nat → Int} (h : ∀ i j k, i < n → j < n → k < n → p ∣ f i j k - g i j k) : p ∣ s3 n f - s3 n g :=
  sumZ_dvd n (fun i hi => sumZ_dvd n (fun j hj => sumZ_dvd n (fun k hk => h i j k hi hj hk)))
theorem pz_left (u v w : Nat → Int) (l : Nat) : pz n T (pz n T u v) w l = s3 n (fun i j k => u i * v j * w k * sumZ (fun a => T i j a * T a k l) n) := by
  have e1 : pz n T (pz n T u v) w l = sumZ (fun a => sumZ (fun k => sumZ (fun i => sumZ (fun j => u i * v j * T i j a * w k * T a k l) n) n) n) n := by
    refine sumZ_congr n (fun a _ => sumZ_congr n (fun k _ => ?_))
    show sumZ (fun i => sumZ (fun j => u i * v j * T i j a) n) n * w k * T a k l = _
    rw [Int.mul_assoc, ← sumZ_mulr]
    refine sumZ_congr n (fun i _ => ?_)
    rw [← sumZ_mulr]
    exact sumZ_congr n (fun j _ => by rw [Int.mul_assoc (u i * v j * T i j a)])
  rw [e1]
  unfold s3
  have e2 : ∀ a, sumZ (fun k => sumZ (fun i => sumZ (fun j => u i * v j * T i j a * w k * T a k l) n) n) n = sumZ (fun i => sumZ (fun j => sumZ (fun k => u i * v j * T i j a * w k * T a k l) n) n) n := fun a => by
    rw [sumZ_swap (fun k i => sumZ (fun j => u i * v j * T i j a * w k * T a k l) n)]
    exact sumZ_congr n (fun i _ => sumZ_swap (fun k j => u i * v j * T i j a * w k * T a k l) n n)
  rw [sumZ_congr n (fun a _ => e2 a), sumZ_swap]
  refine sumZ_congr n (fun i _ => ?_)
  rw [sumZ_swap]
  refine sumZ_congr n (fun j _ => ?_)
  rw [sumZ_swap]
  refine sumZ_congr n (fun k _ => ?_)
  show _ = u i * v j * w k * sumZ (fun a => T i j a * T a k l) n
  rw [← sumZ_mul]
  exact sumZ_congr n (fun a _ => by simp only [Int.mul_assoc, Int.mul_comm, Int.mul_left_comm])
theorem pz_right (u v w : Nat → Int) (l : Nat) : pz n T u (pz n T v w) l = s3 n (fun i j k => u i * v j * w k * sumZ (fun b => T j k b * T i b l) n) := by
  unfold s3
  refine sumZ_congr n (fun i _ => ?_)
  have e1 : ∀ b, u i * pz n T v w b * T i b l = sumZ (fun j => sumZ (fun k => u i * v j * w k * (T j k b * T i b l)) n) n := fun b => by
    show u i * sumZ (fun j => sumZ (fun k => v j * w k * T j k b) n) n * T i b l = _
    rw [← sumZ_mul, ← sumZ_mulr]
    refine sumZ_congr n (fun j _ => ?_)
    show u i * sumZ (fun k => v j * w k * T j k b) n * T i b l = _
    rw [← sumZ_mul, ← sumZ_mulr]
    exact sumZ_congr n (fun k _ => by simp only [Int.mul_assoc, Int.mul_comm, Int.mul_left_comm])
  rw [sumZ_congr n (fun b _ => e1 b), sumZ_swap]
  refine sumZ_congr n (fun j _ => ?_)
  rw [sumZ_swap]
  refine sumZ_congr n (fun k _ => ?_)
  show _ = u i * v j * w k * sumZ (fun b => T j k b * T i b l) n
  rw [← sumZ_mul]
theorem times_asc (h6 : n ≤ 6) (h : assocP p n T) (u v w : Nat → Int) : timesF p n T (timesF p n T u v) w = timesF p n T u (timesF p n T v w) := by
  rw [times_cg (cg_times u v) (cg.rf w), times_cg (cg.rf u) (cg_times v w)]
  funext l
  by_cases hl : l < n
  · rw [times_pz hl, times_pz hl]
    refine mod_eq_of_dvd ?_
    rw [pz_left, pz_right]
    exact s3_dvd (fun i j k hi hj hk => mul_dvd (dvd_rf rfl) (asc_basis h6 h hi hj hk hl))
  · unfold timesF; rw [if_neg hl, if_neg hl]
theorem pz_one_l {u v : Nat → Int} (hu : LU p n T u) {k : Nat} (hk : k < n) : p ∣ pz n T u v k - v k := by
  unfold pz
  rw [sumZ_swap]
  have : p ∣ sumZ (fun j => v j * sumZ (fun i => T i j k * u i) n) n - v k := by
    have h := sumZ_dvd (p := p) (f := fun j => v j * sumZ (fun i => T i j k * u i) n) (g := fun j => v j * dl j k) n (fun j hj => mul_dvd (dvd_rf rfl) (hu j hj k hk))
    rwa [sum_dl v hk] at h
  rw [sumZ_congr (g := fun j => v j * sumZ (fun i => T i j k * u i) n) n (fun j _ => by
    rw [← sumZ_mul]
    exact sumZ_congr n (fun i _ => by simp only [Int.mul_assoc, Int.mul_comm, Int.mul_left_comm]))]
  exact this
theorem pz_one_r {u v : Nat → Int} (hu : RU p n T u) {k : Nat} (hk : k < n) : p ∣ pz n T v u k - v k := by
  unfold pz
  have : p ∣ sumZ (fun i => v i * sumZ (fun j => T i j k * u j) n) n - v k := by
    have h := sumZ_dvd (p := p) (f := fun i => v i * sumZ (fun j => T i j k * u j) n) (g := fun i => v i * dl i k) n (fun i hi => mul_dvd (dvd_rf rfl) (hu i hi k hk))
    rwa [sum_dl v hk] at h
  rw [sumZ_congr (g := fun i => v i * sumZ (fun j => T i j k * u j) n) n (fun i _ => by
    rw [← sumZ_mul]
    exact sumZ_congr n (fun j _ => by simp only [Int.mul_assoc, Int.mul_comm, Int.mul_left_comm]))]
  exact this
end
section
variable {p : Int} {n : Nat} {T : Nat → Nat → Nat → Int} {fo : Nat → Int}
theorem VN.asc' (h : VN p n T fo) (u v w : Nat → Int) : timesF p n T (timesF p n T u v) w = timesF p n T u (timesF p n T v w) := times_asc h.n6 h.asc u v w
theorem VN.pp (h : VN p n T fo) : 0 < p := by have := h.p0; omega
theorem VN.LU (h : VN p n T fo) : LU p n T (uF p n T) := (uF_unit h.hp h.n0 h.hT h.u).1
theorem VN.RU (h : VN p n T fo) : RU p n T (uF p n T) := (uF_unit h.hp h.n0 h.hT h.u).2.1
theorem VN.one_l (h : VN p n T fo) {v : Nat → Int} (hv : VV p n v) : timesF p n T (uF p n T) v = v :=
  VV.ext (VV.times h.pp) hv (fun k hk => dvd_tr (by rw [times_pz hk]; exact dvd_mod p _) (pz_one_l h.LU hk))
theorem VN.one_r (h : VN p n T fo) {v : Nat → Int} (hv : VV p n v) : timesF p n T v (uF p n T) = v :=
  VV.ext (VV.times h.pp) hv (fun k hk => dvd_tr (by rw [times_pz hk]; exact dvd_mod p _) (pz_one_r h.RU hk))
def iM (p : Int) (n : Nat) (T : Nat → Nat → Nat → Int) (v : Nat → Int) (x j : Nat) : Nat → Int := if x = 0 then timesF p n T v (eF j) else timesF p n T (eF j) v
noncomputable abbrev iR (p : Int) (n : Nat) (T : Nat → Nat → Nat → Int) (v : Nat → Int) : Nat → Nat → Int := sysR n (iM p n T v) (fun _ => uF p n T)
theorem iM_Bp (hp : 0 < p) (v : Nat → Int) (x j : Nat) : Bp p (iM p n T v x j) := by
  unfold iM; split <;> exact timesF_Bp hp
def iOk (p : Int) (n : Nat) (T : Nat → Nat → Nat → Int) (v : Nat → Int) : Prop := conP n (redGo p (2 * n) (iR p n T v) (n + 1)).no (redGo p (2 * n) (iR p n T v) (n + 1)).O
noncomputable instance (p : Int) (n : Nat) (T : Nat → Nat → Nat → Int) (v : Nat → Int) : Decidable (iOk p n T v) := Classical.propDecidable _
noncomputable def iF (p : Int) (n : Nat) (T : Nat → Nat → Nat → Int) (v : Nat → Int) : Nat → Int := if iOk p n T v then cutF (solGo n (redGo p (2 * n) (iR p n T v) (n + 1)).O (redGo p (2 * n) (iR p n T v) (n + 1)).no) n else fun _ => 0
theorem map_sol {M : Nat} {Fv : Nat → Nat → Nat → Int} {W : Nat → Nat → Int} {x : Nat → Int} (hn : 0 < n) : Sol p n (M * n) (sysR n Fv W) x ↔ ∀ a, a < M → ∀ k, k < n → p ∣ sumZ (fun j => Fv a j k * x j) n - W a k := by
  have row : ∀ a k, k < n → dot n (sysR n Fv W (a * n + k)) x - sysR n Fv W (a * n + k) n = sumZ (fun j => Fv a j k * x j) n - W a k := fun a k hk => by
    rw [sysR_n, div_of hk, mod_of hk]
    unfold dot
    rw [sumZ_congr (g := fun j => Fv a j k * x j) n (fun j hj => by rw [sysR_lt hj, eqR_at hk])]
  constructor
  · intro h a ha k hk
    have := h (a * n + k) (by have : (a + 1) * n ≤ M * n := Nat.mul_le_mul_right n ha; rw [Nat.add_mul] at this; omega)
    rwa [row a k hk] at this
  · intro h r hr
    have hk : r % n < n := Nat.mod_lt _ hn
    have ha : r / n < M := (Nat.div_lt_iff_lt_mul hn).2 hr
    have e : r = r / n * n + r % n := by have := Nat.div_add_mod r n; rw [Nat.mul_comm] at this; omega
    rw [e, row _ _ hk]
    exact h _ ha _ hk
theorem iR_sol (hn : 0 < n) {v x : Nat → Int} : Sol p n (2 * n) (iR p n T v) x ↔ cg p n (pz n T v x) (uF p n T) ∧ cg p n (pz n T x v) (uF p n T) := by
  unfold iR
  rw [map_sol hn]
  constructor
  · intro h
    refine ⟨fun k hk => dvd_tr (dvd_sy (times_basis_r v x hk)) ?_, fun k hk => dvd_tr (dvd_sy (times_basis_l v x hk)) ?_⟩
    · have := h 0 (by omega) k hk
      unfold iM at this; simpa using this
    · have := h 1 (by omega) k hk
      unfold iM at this; simpa using this
  · rintro ⟨h1, h2⟩ a ha k hk
    unfold iM
    by_cases h0 : a = 0
    · simp only [h0, if_true]; exact dvd_tr (times_basis_r v x hk) (h1 k hk)
    · simp only [h0, if_false]; exact dvd_tr (times_basis_l v x hk) (h2 k hk)
theorem iR_Bp (h : VN p n T fo) (v : Nat → Int) (r : Nat) : Bp p (iR p n T v r) := sysR_Bp (fun x j => iM_Bp h.pp v x j) (fun _ => h.u_Bp) r
def IsInv (p : Int) (n : Nat) (T : Nat → Nat → Nat → Int) (v x : Nat → Int) : Prop := timesF p n T v x = uF p n T ∧ timesF p n T x v = uF p n T
theorem pz_times (h : VN p n T fo) {u v w : Nat → Int} (hw : VV p n w) : cg p n (pz n T u v) w ↔ timesF p n T u v = w := by
  constructor
  · intro hc; exact VV.ext (VV.times h.pp) hw ((cg_times u v).tr hc)
  · rintro rfl; exact (cg_times u v).sy
theorem iF_inv (h : VN p n T fo) {v : Nat → Int} (hok : iOk p n T v) : VV p n (iF p n T v) ∧ IsInv p n T v (iF p n T v) := by
  have hpb := h.p0
  obtain ⟨⟨l, hrr⟩, hnl⟩ := red_ok (m := n + 1) (n := 2 * n) (R := iR p n T v) h.hp (fun i _ => iR_Bp h v i)
  have h2 : Sol p n (2 * n) (iR p n T v) _ := sol_null.2 ((hnl _).1 (sol_null.1 (sol_of_con hrr hok)))
  obtain ⟨h3, h4⟩ := (iR_sol h.n0).1 h2
  have hc : cg p n (cutF (solGo n (redGo p (2 * n) (iR p n T v) (n + 1)).O (redGo p (2 * n) (iR p n T v) (n + 1)).no) n) (solGo n (redGo p (2 * n) (iR p n T v) (n + 1)).O (redGo p (2 * n) (iR p n T v) (n + 1)).no) := fun j hj => dvd_rf (by unfold cutF; rw [if_pos hj])
  have hB := solGo_Bp h.pp hrr _ (Nat.le_refl _)
  unfold iF
  rw [if_pos hok]
  refine ⟨⟨fun j => ?_, fun j hj => by unfold cutF; rw [if_neg (by omega)]⟩, ?_, ?_⟩
  · unfold cutF; split
    · exact hB j
    · omega
  · rw [times_cg (cg.rf v) hc]; exact (pz_times h h.u_V).1 h3
  · rw [times_cg hc (cg.rf v)]; exact (pz_times h h.u_V).1 h4
theorem iOk_iff (h : VN p n T fo) {v : Nat → Int} (hv : VV p n v) : iOk p n T v ↔ ∃ x, VV p n x ∧ IsInv p n T v x := by
  have hpb := h.p0
  obtain ⟨⟨l, hrr⟩, hnl⟩ := red_ok (m := n + 1) (n := 2 * n) (R := iR p n T v) h.hp (fun i _ => iR_Bp h v i)
  constructor
  · intro hok
    exact ⟨_, (iF_inv h hok).1, (iF_inv h hok).2⟩
  · rintro ⟨x, hx, h1, h2⟩
    exact con_of_sol (u := x) (by omega) hrr (sol_null.2 ((hnl _).2 (sol_null.1 ((iR_sol h.n0).2 ⟨(pz_times h h.u_V).2 h1, (pz_times h h.u_V).2 h2⟩))))
theorem inv_uniq (h : VN p n T fo) {v x y : Nat → Int} (hx : VV p n x) (hy : VV p n y) (h1 : timesF p n T x v = uF p n T) (h2 : timesF p n T v y = uF p n T) : x = y := by
  have e := h.asc' x v y
  rw [h1, h2, h.one_l hy, h.one_r hx] at e
  exact e.symm
theorem one_sol_map {M1 : Nat → Nat → Int} {u x : Nat → Int} (hn : 0 < n) : Sol p n n (sysR n (fun _ => M1) (fun _ => u)) x ↔ ∀ k, k < n → p ∣ sumZ (fun j => M1 j k * x j) n - u k := by
  have := map_sol (p := p) (M := 1) (Fv := fun _ => M1) (W := fun _ => u) (x := x) hn
  rw [Nat.one_mul] at this
  rw [this]
  exact ⟨fun h k hk => h 0 (by omega) k hk, fun h _ _ k hk => h k hk⟩
noncomputable abbrev fR (p : Int) (n : Nat) (T : Nat → Nat → Nat → Int) (v : Nat → Int) : Nat → Nat → Int := sysR n (fun _ j => timesF p n T v (eF j)) (fun _ => uF p n T)
theorem fR_sol (h : VN p n T fo) {v x : Nat → Int} : Sol p n n (fR p n T v) x ↔ timesF p n T v x = uF p n T := by
  rw [← pz_times h h.u_V]
  refine (one_sol_map h.n0).trans ⟨fun q k hk => dvd_tr (dvd_sy (times_basis_r v x hk)) (q k hk), fun q k hk => dvd_tr (times_basis_r v x hk) (q k hk)⟩
theorem fR_Bp (h : VN p n T fo) (v : Nat → Int) (r : Nat) : Bp p (fR p n T v r) := sysR_Bp (fun _ j => timesF_Bp h.pp) (fun _ => h.u_Bp) r
def sS (p : Int) (n N : Nat) (S : Nat → Nat → Int) : Nat → Int := cutF (fun a => (echGo p (n + 1) S N).O a n) n
def oS (p : Int) (n N : Nat) (S : Nat → Nat → Int) : Prop := oneP n (echGo p (n + 1) S N).no (echGo p (n + 1) S N).O
noncomputable instance (p : Int) (n N : Nat) (S : Nat → Nat → Int) : Decidable (oS p n N S) := Classical.propDecidable _
theorem oS_sol {N : Nat} {S : Nat → Nat → Int} (hp : primeB p = true) (hS : ∀ i, Bp p (S i)) (h : oS p n N S) : Sol p n N S (sS p n N S) ∧ VV p n (sS p n N S) ∧ ∀ x, Sol p n N S x → cg p n x (sS p n N S) := by
  have hpb := primeB_bd hp
  obtain ⟨⟨l, hrr⟩, hnl⟩ := ech_ok (m := n + 1) (R := S) hp N (fun i _ => hS i)
  refine ⟨sol_null.2 ((hnl _).1 (sol_null.1 (one_sol hrr h))), ⟨fun j => ?_, fun j hj => by unfold sS cutF; rw [if_neg (by omega)]⟩, fun x hx j hj => ?_⟩
  · unfold sS cutF
    split
    · exact hrr.bp j (by have := h.1; omega) n
    · omega
  · have := one_uniq hrr h (sol_null.2 ((hnl _).2 (sol_null.1 hx))) hj
    unfold sS cutF
    rwa [if_pos hj]
theorem oS_of {N : Nat} {S : Nat → Nat → Int} (hp : primeB p = true) (hS : ∀ i, Bp p (S i)) {x : Nat → Int} (hx : Sol p n N S x) (hu : ∀ y, Sol p n N S y → cg p n y x) : oS p n N S := by
  have hpb := primeB_bd hp
  obtain ⟨⟨l, hrr⟩, hnl⟩ := ech_ok (m := n + 1) (R := S) hp N (fun i _ => hS i)
  have hs : ∀ y, Sol p n _ (echGo p (n + 1) S N).O y ↔ Sol p n N S y := fun y => by rw [sol_null, sol_null]; exact hnl _
  exact one_of_uniq (by omega) hrr (con_of_sol (by omega) hrr ((hs x).2 hx)) (fun u v hu' hv' => (hu u ((hs u).1 hu')).tr (hu v ((hs v).1 hv')).sy)
theorem cut_sol {N : Nat} {S : Nat → Nat → Int} {x : Nat → Int} (hp : 0 < p) (h : Sol p n N S x) : ∃ y, VV p n y ∧ Sol p n N S y ∧ cg p n y x := by
  refine ⟨cutF (fun j => x j % p) n, ⟨fun j => ?_, fun j hj => by unfold cutF; rw [if_neg (by omega)]⟩, ?_, fun j hj => ?_⟩
  · unfold cutF; split
    · exact ⟨Int.emod_nonneg _ (by omega), Int.emod_lt_of_pos _ hp⟩
    · omega
  · intro r hr
    refine dvd_tr ?_ (h r hr)
    refine sumZ_dvd n (fun j hj => ?_)
    refine mul_dvd (dvd_rf rfl) ?_
    unfold cutF; rw [if_pos hj]; exact dvd_mod p _
  · unfold cutF; rw [if_pos hj]; exact dvd_mod p _
theorem fwd_iff (h : VN p n T fo) {v : Nat → Int} (hv : VV p n v) : oS p n n (fR p n T v) ↔ iOk p n T v := by
  constructor
  · intro ho
    obtain ⟨a1, a2, a3⟩ := oS_sol h.hp (fR_Bp h v) ho
    have hx : timesF p n T v (sS p n n (fR p n T v)) = uF p n T := (fR_sol h).1 a1
    generalize sS p n n (fR p n T v) = x at a1 a2 a3 hx
    refine (iOk_iff h hv).2 ⟨x, a2, hx, ?_⟩
    have hy : Sol p n n (fR p n T v) (fun j => (timesF p n T x v j + (-1) * uF p n T j) + 1 * x j) := by
      refine (fR_sol h).2 ?_
      refine VV.ext (VV.times h.pp) h.u_V (fun k hk => ?_)
      rw [times_pz hk]
      refine dvd_tr (dvd_mod p _) ?_
      rw [pz_add_r, pz_add_r]
      have e1 : p ∣ pz n T v (timesF p n T x v) k - v k := by
        have : timesF p n T v (timesF p n T x v) = v := by rw [← h.asc', hx, h.one_l hv]
        have h2 := cg_times (p := p) (T := T) v (timesF p n T x v) k hk
        rw [this] at h2
        exact dvd_sy h2
      have e2 : p ∣ pz n T v (uF p n T) k - v k := pz_one_r h.RU hk
      have e3 : p ∣ pz n T v x k - uF p n T k := (pz_times h h.u_V).2 hx k hk
      have := Int.dvd_add (Int.dvd_sub e1 e2) e3
      rwa [show pz n T v (timesF p n T x v) k - v k - (pz n T v (uF p n T) k - v k) + (pz n T v x k - uF p n T k) = pz n T v (timesF p n T x v) k + -1 * pz n T v (uF p n T) k + 1 * pz n T v x k - uF p n T k by omega] at this
    refine VV.ext (VV.times h.pp) h.u_V (fun k hk => ?_)
    have h1 := a3 _ hy k hk
    rwa [show timesF p n T x v k + -1 * uF p n T k + 1 * x k - x k = timesF p n T x v k - uF p n T k by omega] at h1
  · intro hok
    obtain ⟨h1, h2, h3⟩ := iF_inv h hok
    exact oS_of h.hp (fR_Bp h v) ((fR_sol h).2 h2) (fun y hy => by
      obtain ⟨y', hy1, hy2, hy3⟩ := cut_sol h.pp hy
      rw [← inv_uniq h h1 hy1 h3 ((fR_sol h).1 hy2)] at hy3
      exact hy3.sy)
end
end Go.Am

set_option linter.unusedVariables false
set_option linter.unusedSimpArgs false
namespace Go.Am
section
variable {H : Type} {enc : TypeId × Value → H} {P : Program} {w : World} {base : Nat} {spare : Nat → Bool} {held : Bool}
end
end Go.Am

set_option linter.unusedVariables false
set_option linter.unusedSimpArgs false
namespace Go.Am
section
variable {p : Int} {m : Nat}
end
section
variable {p : Int} {m no : Nat} {O O' : Nat → Nat → Int}
end
end Go.Am

set_option linter.unusedVariables false
set_option linter.unusedSimpArgs false
namespace Go.Am
def symA (n : Nat) (F : Nat → Nat → Int) : Prop := ∀ i, i < n → ∀ j, j < n → F j i = F i j
def symS (n : Nat) (F : Nat → Nat → Int) : Prop := ∀ i, i < n → ∀ j, j < i → F i j = F j i
noncomputable instance (n : Nat) (F : Nat → Nat → Int) : Decidable (symA n F) := Classical.propDecidable _
noncomputable instance (n : Nat) (F : Nat → Nat → Int) : Decidable (symS n F) := Classical.propDecidable _
theorem sys1_lt {n : Nat} {M : Nat → Nat → Int} {u : Nat → Int} {k j : Nat} (hk : k < n) (hj : j < n) : sysR n (fun _ => M) (fun _ => u) k j = M j k := by
  rw [sysR_lt hj]; unfold eqR; rw [Nat.mod_eq_of_lt hk]
theorem sys1_n {n : Nat} {M : Nat → Nat → Int} {u : Nat → Int} {k : Nat} (hk : k < n) : sysR n (fun _ => M) (fun _ => u) k n = u k := by
  rw [sysR_n, Nat.mod_eq_of_lt hk]
noncomputable def bkV (p : Int) (n : Nat) (S : Nat → Nat → Int) : Nat → Int := if oS p n n S then sS p n n S else fun _ => 0
theorem Mt.rf {V : Vw} {v : AV} (h : v.closed) (hn : v ≠ .any) : Mt V v v := Mt_closed h (fun _ _ _ => trivial) hn
end Go.Am

set_option linter.unusedVariables false
set_option linter.unusedSimpArgs false
namespace Go.Am
def kdx (fr : Nat → Bool) (i : Nat) (o : Oper) : Nat := bif fr i then 0 else kind o
theorem kdx_le (fr : Nat → Bool) (i : Nat) (o : Oper) : kdx fr i o = 0 ∨ kdx fr i o = 1 ∨ kdx fr i o = 2 := by
  unfold kdx
  cases fr i
  · exact kind_le o
  · exact .inl rfl
def StepK (q : Nat) (P : Program) (T : TT) (arr : Array Oper) (o : Oper) (env : Env) (ol : OL) (v : AV) (ol' : OL) : Prop :=
  (gd arr o env = some false ∧ v = undA ∧ ol' = ol) ∨
  (gd arr o env = some true ∧
    ((q = 0 ∧ ol' = ol ∧ PureJ P T o (evE env) v) ∨
     (q = 1 ∧ ∃ A : OL, ol' = A ++ ol ∧ PassJ' P T o (evE env) ol.ob v A ∧ ∀ k, A.has k = true → ol.has k = false) ∨
     (q = 2 ∧ ActJ P T o (evE env) ol.ob v ol'.ob)))
structure DrawOkX (ops : Array Oper) (U : Nat → Nat → Bool) (fr : Nat → Bool) : Prop where
  back : ∀ i oi, ops[i]? = some oi → ∀ e ∈ oi.after, Region.binds .any e = true → e.on < i
  clos : ∀ i oi j, ops[i]? = some oi → j < ops.size → U i j = true → ∃ e ∈ oi.after, Region.binds .any e = true ∧ (e.on = j ∨ U e.on j = true)
  ap : ∀ i oi j oj, ops[i]? = some oi → ops[j]? = some oj → j < i → oj.apart ops oi = true ∨ U i j = true
  act1 : ∀ i oi j oj, ops[i]? = some oi → ops[j]? = some oj → kdx fr i oi = 2 → kdx fr j oj = 1 → j < i → U i j = true
  act1' : ∀ i oi j oj, ops[i]? = some oi → ops[j]? = some oj → kdx fr i oi = 2 → kdx fr j oj = 1 → i < j → U j i = true
  act2 : ∀ i oi j oj, ops[i]? = some oi → ops[j]? = some oj → kdx fr i oi = 2 → kdx fr j oj = 2 → j < i → U i j = true
structure TrX (P : Program) (T : TT) (ops : Array Oper) (fr : Nat → Bool) (env : Env) (V : Nat → AV) (O : Nat → OL) : Prop where
  step : ∀ k o, ops[k]? = some o → StepK (kdx fr k o) P T ops o (envOf V (fun j => decide (j < k)) 0 ops.toList env) (O k) (V k) (O (k + 1))
variable {P : Program} {T : TT} {ops : Array Oper} {U : Nat → Nat → Bool} {fr : Nat → Bool} {env : Env} {V : Nat → AV} {O : Nat → OL}
theorem TrX.same (ht : TrX P T ops fr env V O) {k : Nat} {o : Oper} (hk : ops[k]? = some o) (h0 : kdx fr k o = 0) : O (k + 1) = O k := by
  rcases ht.step k o hk with ⟨_, _, h⟩ | ⟨_, ⟨_, h, _⟩ | ⟨h, _⟩ | ⟨h, _⟩⟩
  · exact h
  · exact h
  · rw [h0] at h; cases h
  · rw [h0] at h; cases h
theorem TrX.up (ht : TrX P T ops fr env V O) {j : Nat} {o : Oper} (hj : ops[j]? = some o) (h2 : kdx fr j o ≠ 2) {k : Nat} (hk : (O j).has k = true) : (O (j + 1)).has k = true ∧ ∀ i, (O (j + 1)).at_ k i = (O j).at_ k i := by
  rcases ht.step j o hj with ⟨_, _, h⟩ | ⟨_, ⟨_, h, _⟩ | ⟨_, A, h, _, hf⟩ | ⟨h, _⟩⟩
  · rw [h]; exact ⟨hk, fun _ => rfl⟩
  · rw [h]; exact ⟨hk, fun _ => rfl⟩
  · rw [h]
    refine ⟨by rw [OL.has_append, hk]; simp, fun i => ?_⟩
    rw [OL.at_append]
    split
    · rename_i hA
      rw [hf k hA] at hk; cases hk
    · rfl
  · exact absurd h h2
def noAct (ops : Array Oper) (fr : Nat → Bool) (a b : Nat) : Prop := ∀ i oi, ops[i]? = some oi → a ≤ i → i < b → kdx fr i oi ≠ 2
theorem noAct.sub {a b a' b' : Nat} (h : noAct ops fr a b) (ha : a ≤ a') (hb : b' ≤ b) : noAct ops fr a' b' := fun i oi hi h1 h2 => h i oi hi (by omega) (by omega)
theorem TrX.chain (ht : TrX P T ops fr env V O) {a : Nat} : ∀ d, a + d ≤ ops.size → noAct ops fr a (a + d) → ∀ {k : Nat}, (O a).has k = true → (O (a + d)).has k = true ∧ ∀ i, (O (a + d)).at_ k i = (O a).at_ k i
  | 0, _, _, k, hk => ⟨hk, fun _ => rfl⟩
  | d + 1, h, hn, k, hk => by
    obtain ⟨h1, h2⟩ := ht.chain d (by omega) (hn.sub (Nat.le_refl _) (by omega)) hk
    have hlt : a + d < ops.size := by omega
    have hx : ops[a + d]? = some ops[a + d] := by simp [hlt]
    obtain ⟨h3, h4⟩ := ht.up hx (hn _ _ hx (by omega) (by omega)) h1
    exact ⟨h3, fun i => (h4 i).trans (h2 i)⟩
theorem TrX.mono (ht : TrX P T ops fr env V O) {a b : Nat} (hab : a ≤ b) (hb : b ≤ ops.size) (hn : noAct ops fr a b) {k : Nat} (hk : (O a).has k = true) : (O b).has k = true ∧ ∀ i, (O b).at_ k i = (O a).at_ k i := by
  obtain ⟨d, rfl⟩ := Nat.exists_eq_add_of_le hab
  exact ht.chain d hb hn hk
theorem TrX.born (ht : TrX P T ops fr env V O) {a : Nat} {k : Nat} : ∀ d, (O (a + d)).has k = true → (O a).has k = true ∨ ∃ j, a ≤ j ∧ j < a + d ∧ (O (j + 1)).has k = true ∧ (O j).has k = false
  | 0, h => .inl h
  | d + 1, h => by
    cases hq : (O (a + d)).has k with
    | true =>
      rcases ht.born d hq with h | ⟨j, h1, h2, h3⟩
      · exact .inl h
      · exact .inr ⟨j, h1, by omega, h3⟩
    | false => exact .inr ⟨a + d, by omega, by omega, h, hq⟩
theorem nextAct (ops : Array Oper) (fr : Nat → Bool) : ∀ d m, m + d = ops.size → ∃ e, m ≤ e ∧ e ≤ ops.size ∧ noAct ops fr m e ∧ (e = ops.size ∨ ∃ oe, ops[e]? = some oe ∧ kdx fr e oe = 2)
  | 0, m, h => ⟨m, Nat.le_refl _, by omega, fun i oi _ h1 h2 => by omega, .inl (by omega)⟩
  | d + 1, m, h => by
    have hlt : m < ops.size := by omega
    have hx : ops[m]? = some ops[m] := by simp [hlt]
    by_cases h2 : kdx fr m ops[m] = 2
    · exact ⟨m, Nat.le_refl _, by omega, fun i oi _ h1 h2 => by omega, .inr ⟨_, hx, h2⟩⟩
    · obtain ⟨e, h3, h4, h5, h6⟩ := nextAct ops fr d (m + 1) (by omega)
      refine ⟨e, by omega, h4, fun i oi hi h7 h8 => ?_, h6⟩
      by_cases hi2 : i = m
      · subst hi2; rw [hx] at hi; cases hi; exact h2
      · exact h5 i oi hi (by omega) h8
structure Mem1 (ops : Array Oper) (fr : Nat → Bool) (O : Nat → OL) (D : Nat → Bool) (ob : Ob) (m e : Nat) : Prop where
  me : m ≤ e
  le : e ≤ ops.size
  acts : ∀ i oi, ops[i]? = some oi → kdx fr i oi = 2 → (D i = true ↔ i < m)
  no : noAct ops fr m e
  nx : e = ops.size ∨ ∃ oe, ops[e]? = some oe ∧ kdx fr e oe = 2
  p1 : ∀ i oi, ops[i]? = some oi → kdx fr i oi = 1 → i < m → D i = true
  p2 : ∀ i oi, ops[i]? = some oi → kdx fr i oi = 1 → e ≤ i → D i = false
  has : ∀ k, ob.has k = true ↔ (O m).has k = true ∨ ∃ j, m ≤ j ∧ j < e ∧ D j = true ∧ (O (j + 1)).has k = true ∧ (O j).has k = false
  at_ : ∀ k, ob.has k = true → ∀ i, ob.at_ k i = (O e).at_ k i
def MemX (ops : Array Oper) (fr : Nat → Bool) (O : Nat → OL) (D : Nat → Bool) (ob : Ob) : Prop := ∃ m e, Mem1 ops fr O D ob m e
theorem Mem1.turn (ht : TrX P T ops fr env V O) {D : Nat → Bool} {ob : Ob} {m e : Nat} (hob : ∀ k i, ob.at_ k i ≠ none → ob.has k = true) (hm : Mem1 ops fr O D ob m e)
    (h1 : ∀ i oi, ops[i]? = some oi → kdx fr i oi = 1 → m ≤ i → i < e → D i = true) : ob = (O e).ob := by
  have hh : ∀ k, ob.has k = true ↔ (O e).has k = true := by
    intro k
    rw [hm.has k]
    constructor
    · rintro (h | ⟨j, hj, hj2, _, h, _⟩)
      · exact (ht.mono hm.me hm.le hm.no h).1
      · exact (ht.mono (by omega : j + 1 ≤ e) hm.le (hm.no.sub (by omega) (Nat.le_refl _)) h).1
    · intro h
      obtain ⟨d, rfl⟩ := Nat.exists_eq_add_of_le hm.me
      rcases ht.born d h with h | ⟨j, hj, hj2, ha, hb⟩
      · exact .inl h
      · refine .inr ⟨j, hj, hj2, ?_, ha, hb⟩
        have hlt : j < ops.size := by have := hm.le; omega
        have hx : ops[j]? = some ops[j] := by simp [hlt]
        rcases kdx_le fr j ops[j] with h0 | h5 | h5
        · rw [ht.same hx h0, hb] at ha; cases ha
        · exact h1 _ _ hx h5 hj hj2
        · exact absurd h5 (hm.no _ _ hx hj hj2)
  refine Ob_ext (fun k i => ?_) (fun k => ?_)
  · cases hk : ob.has k with
    | true => exact hm.at_ k hk i
    | false =>
      have e1 : ob.at_ k i = none := by
        apply Classical.byContradiction
        intro hne
        rw [hob k i hne] at hk; cases hk
      have e2 : (O e).at_ k i = none := by
        apply Classical.byContradiction
        intro hne
        have := (hh k).2 (OL.has_of_at hne)
        rw [this] at hk; cases hk
      rw [e1]
      exact e2.symm
  · have := hh k
    show ob.has k = (O e).has k
    cases hx : ob.has k
    · rw [hx] at this
      cases hy : (O e).has k
      · rfl
      · exact absurd (this.2 hy) (by simp)
    · exact (this.1 hx).symm
section
variable {D D' : Nat → Bool} {i : Nat} {oi : Oper}
theorem Mem1.before (hd : DrawOkX ops U fr) {ob : Ob} {m e : Nat} (hm : Mem1 ops fr O D ob m e) (hi : ops[i]? = some oi) (h1 : kdx fr i oi = 1) (hU : ∀ j, j < ops.size → U i j = true → D j = true) : i < e := by
  have lt : ∀ {i : Nat} {oi : Oper}, ops[i]? = some oi → i < ops.size := fun hi => (Array.getElem?_eq_some_iff.1 hi).1
  apply Nat.lt_of_not_le
  intro hle
  rcases hm.nx with h | ⟨oe, he, h2⟩
  · have := lt hi; omega
  · have hne : e ≠ i := by
      intro h; subst h; rw [hi] at he; cases he; rw [h1] at h2; cases h2
    have := hU e (lt he) (hd.act1' e oe i oi he hi h2 h1 (by omega))
    have := (hm.acts e oe he h2).1 this
    have := hm.me
    omega
theorem MemX.zero (ht : TrX P T ops fr env V O) (hd : DrawOkX ops U fr) (hi : ops[i]? = some oi) (h0 : kdx fr i oi ≠ 2) (hU : ∀ j, j < ops.size → U i j = true → D j = true)
    (hD' : ∀ j, D' j = if j = i then true else D j) (hsame : O (i + 1) = O i) {ob : Ob} (hm : MemX ops fr O D ob) : MemX ops fr O D' ob := by
  obtain ⟨m, e, hm⟩ := hm
  refine ⟨m, e, hm.me, hm.le, fun j oj hj hk => ?_, hm.no, hm.nx, fun j oj hj hk hlt => ?_, fun j oj hj hk hle => ?_, fun k => ?_, hm.at_⟩
  · by_cases hji : j = i
    · subst hji; rw [hi] at hj; cases hj; exact absurd hk h0
    · rw [hD' j, if_neg hji]; exact hm.acts j oj hj hk
  · rw [hD' j]; split
    · rfl
    · exact hm.p1 j oj hj hk hlt
  · by_cases hji : j = i
    · subst hji; rw [hi] at hj; cases hj
      have := hm.before hd hi hk hU
      omega
    · rw [hD' j, if_neg hji]; exact hm.p2 j oj hj hk hle
  · rw [hm.has k]
    constructor
    · rintro (h | ⟨j, ha, hb, hc, hd⟩)
      · exact .inl h
      · exact .inr ⟨j, ha, hb, by rw [hD' j]; split <;> simp_all, hd⟩
    · rintro (h | ⟨j, ha, ha2, hb, hc, hd⟩)
      · exact .inl h
      · by_cases hji : j = i
        · subst hji; rw [hsame, hd] at hc; cases hc
        · rw [hD' j, if_neg hji] at hb
          exact .inr ⟨j, ha, ha2, hb, hc, hd⟩
theorem MemX.one (ht : TrX P T ops fr env V O) (hd : DrawOkX ops U fr) (hi : ops[i]? = some oi) (h1 : kdx fr i oi = 1) (hDi : D i = false) (hU : ∀ j, j < ops.size → U i j = true → D j = true)
    (hD' : ∀ j, D' j = if j = i then true else D j) {A : OL} (hA : O (i + 1) = A ++ O i) (hf : ∀ k, A.has k = true → (O i).has k = false) {ob : Ob} (hm : MemX ops fr O D ob) :
    (∀ k, ob.has k = true → (O i).ob.has k = true → ∀ j, ob.at_ k j = (O i).ob.at_ k j) ∧ (∀ k, A.has k = true → ob.has k = false) ∧ MemX ops fr O D' (A.ob.ext ob) := by
  obtain ⟨m, e, hm⟩ := hm
  have hie := hm.before hd hi h1 hU
  have hmi : m ≤ i := by
    apply Nat.le_of_not_lt
    intro h
    have := hm.p1 i oi hi h1 h
    rw [hDi] at this; cases this
  refine ⟨fun k hk hk2 j => ?_, fun k hk => ?_, m, e, hm.me, hm.le, fun j oj hj hk => ?_, hm.no, hm.nx, fun j oj hj hk hlt => ?_, fun j oj hj hk hle => ?_, fun k => ?_, fun k hk j => ?_⟩
  · rw [hm.at_ k hk j]
    exact (ht.mono (Nat.le_of_lt hie) hm.le (hm.no.sub hmi (Nat.le_refl _)) hk2).2 j
  · have hn := hf k hk
    apply Classical.byContradiction
    intro hh
    have hh : ob.has k = true := by simpa using hh
    rcases (hm.has k).1 hh with h | ⟨j, ha, ha2, hb, hc, hdd⟩
    · have := (ht.mono hmi (by have := hm.le; omega) (hm.no.sub (Nat.le_refl _) (by omega)) h).1
      rw [hn] at this; cases this
    · by_cases hji : j < i
      · have := (ht.mono (by omega : j + 1 ≤ i) (by have := hm.le; omega) (hm.no.sub (by omega) (by omega)) hc).1
        rw [hn] at this; cases this
      · by_cases hij : j = i
        · subst hij; rw [hDi] at hb; cases hb
        · have : (O (i + 1)).has k = true := by rw [hA, OL.has_append, hk]; rfl
          have := (ht.mono (by omega : i + 1 ≤ j) (by have := hm.le; omega) (hm.no.sub (by omega) (by omega)) this).1
          rw [hdd] at this; cases this
  · by_cases hji : j = i
    · subst hji; rw [hi] at hj; cases hj; rw [h1] at hk; cases hk
    · rw [hD' j, if_neg hji]; exact hm.acts j oj hj hk
  · rw [hD' j]; split
    · rfl
    · exact hm.p1 j oj hj hk hlt
  · by_cases hji : j = i
    · omega
    · rw [hD' j, if_neg hji]; exact hm.p2 j oj hj hk hle
  · have e' : (A.ob.ext ob).has k = (A.has k || ob.has k) := rfl
    rw [e', Bool.or_eq_true, hm.has k]
    constructor
    · rintro (h | h | ⟨j, ha, ha2, hb, hc⟩)
      · exact .inr ⟨i, hmi, hie, by rw [hD' i, if_pos rfl], by rw [hA, OL.has_append, h]; rfl, hf k h⟩
      · exact .inl h
      · exact .inr ⟨j, ha, ha2, by rw [hD' j]; split <;> simp_all, hc⟩
    · rintro (h | ⟨j, ha, ha2, hb, hc, hdd⟩)
      · exact .inr (.inl h)
      · by_cases hji : j = i
        · subst hji
          rw [hA, OL.has_append, hdd] at hc
          exact .inl (by simpa using hc)
        · rw [hD' j, if_neg hji] at hb
          exact .inr (.inr ⟨j, ha, ha2, hb, hc, hdd⟩)
  · have e' : (A.ob.ext ob).at_ k j = if A.has k = true then A.at_ k j else ob.at_ k j := rfl
    rw [e']
    split
    · rename_i hAk
      have hx : (O (i + 1)).has k = true := by rw [hA, OL.has_append, hAk]; rfl
      rw [(ht.mono (by omega : i + 1 ≤ e) hm.le (hm.no.sub (by omega) (Nat.le_refl _)) hx).2 j, hA, OL.at_append, if_pos hAk]
    · rename_i hAk
      refine hm.at_ k ?_ j
      have : (A.has k || ob.has k) = true := hk
      simpa [hAk] using this
theorem Mem1.start (ht : TrX P T ops fr env V O) {m e : Nat} (hme : m ≤ e) (hle : e ≤ ops.size) (hno : noAct ops fr m e) (hnx : e = ops.size ∨ ∃ oe, ops[e]? = some oe ∧ kdx fr e oe = 2)
    (hacts : ∀ i oi, ops[i]? = some oi → kdx fr i oi = 2 → (D i = true ↔ i < m)) (hp1 : ∀ i oi, ops[i]? = some oi → kdx fr i oi = 1 → i < m → D i = true) (hp2 : ∀ i oi, ops[i]? = some oi → kdx fr i oi = 1 → m ≤ i → D i = false) :
    Mem1 ops fr O D (O m).ob m e where
  me := hme
  le := hle
  acts := hacts
  no := hno
  nx := hnx
  p1 := hp1
  p2 := fun i oi hi h1 h => hp2 i oi hi h1 (by omega)
  has := fun k => by
    constructor
    · exact fun h => .inl h
    · rintro (h | ⟨j, ha, hb, hc, hd, he⟩)
      · exact h
      · have hlt : j < ops.size := by omega
        have hx : ops[j]? = some ops[j] := by simp [hlt]
        rcases kdx_le fr j ops[j] with h0 | h1 | h2
        · rw [ht.same hx h0, he] at hd; cases hd
        · rw [hp2 j _ hx h1 ha] at hc; cases hc
        · exact absurd h2 (hno j _ hx ha hb)
  at_ := fun k hk i => ((ht.mono hme hle hno hk).2 i).symm
theorem MemX.two (ht : TrX P T ops fr env V O) (hd : DrawOkX ops U fr) (hi : ops[i]? = some oi) (h2 : kdx fr i oi = 2) (hDi : D i = false)
    (hD' : ∀ j, D' j = if j = i then true else D j) (hU : ∀ j, j < ops.size → U i j = true → D j = true) (hUn : ∀ k ok, ops[k]? = some ok → U k i = true → D k = false) {ob : Ob} (hob : ∀ k i, ob.at_ k i ≠ none → ob.has k = true) (hm : MemX ops fr O D ob) :
    ob = (O i).ob ∧ MemX ops fr O D' (O (i + 1)).ob := by
  obtain ⟨m, e, hm⟩ := hm
  have lt : ∀ {i : Nat} {oi : Oper}, ops[i]? = some oi → i < ops.size := fun hi => (Array.getElem?_eq_some_iff.1 hi).1
  have hin := lt hi
  have hmi : m ≤ i := by
    apply Nat.le_of_not_lt
    intro h
    have := (hm.acts i oi hi h2).2 h
    rw [hDi] at this; cases this
  have hei : e ≤ i := by
    apply Nat.le_of_not_lt
    intro h
    exact hm.no i oi hi hmi h h2
  have hee : e = i := by
    rcases hm.nx with h | ⟨oe, he, h3⟩
    · omega
    · apply Classical.byContradiction
      intro hne
      have := hU e (lt he) (hd.act2 i oi e oe hi he h2 h3 (by omega))
      have := (hm.acts e oe he h3).1 this
      have := hm.me
      omega
  subst hee
  refine ⟨hm.turn ht hob (fun j oj hj hk ha hb => hU j (lt hj) (hd.act1 e oi j oj hi hj h2 hk hb)), ?_⟩
  obtain ⟨e', q1, q2, q3, q4⟩ := nextAct ops fr (ops.size - (e + 1)) (e + 1) (by omega)
  refine ⟨e + 1, e', Mem1.start ht q1 q2 q3 q4 (fun j oj hj hk => ?_) (fun j oj hj hk hlt => ?_) (fun j oj hj hk hle => ?_)⟩
  · rw [hD' j]
    by_cases hji : j = e
    · subst hji; simp
    · rw [if_neg hji, hm.acts j oj hj hk]
      constructor
      · intro h; omega
      · intro h
        have := hU j (lt hj) (hd.act2 e oi j oj hi hj h2 hk (by omega))
        exact (hm.acts j oj hj hk).1 this
  · rw [hD' j]; split
    · rfl
    · rename_i hne
      exact hU j (lt hj) (hd.act1 e oi j oj hi hj h2 hk (by omega))
  · rw [hD' j, if_neg (by omega)]
    exact hUn j oj hj (hd.act1' e oi j oj hi hj h2 hk (by omega))
theorem MemX.all (ht : TrX P T ops fr env V O) {ob : Ob} (hob : ∀ k i, ob.at_ k i ≠ none → ob.has k = true) (hm : MemX ops fr O D ob) (hall : ∀ i, i < ops.size → D i = true) : ob = (O ops.size).ob := by
  obtain ⟨m, e, hm⟩ := hm
  have lt : ∀ {i : Nat} {oi : Oper}, ops[i]? = some oi → i < ops.size := fun hi => (Array.getElem?_eq_some_iff.1 hi).1
  have he : e = ops.size := by
    rcases hm.nx with h | ⟨oe, he, h2⟩
    · exact h
    · have := (hm.acts e oe he h2).1 (hall e (lt he))
      have := hm.me
      omega
  have := hm.turn ht hob (fun j oj hj _ _ _ => hall j (lt hj))
  rw [this, he]
end
structure InvX (P : Program) (T : TT) (ops : Array Oper) (fr : Nat → Bool) (N : Nat) (env : Env) (V : Nat → AV) (O : Nat → OL) (X : Cx) (listed : Array Bool) (a : Act) (w : World) : Prop where
  sz : listed.size = ops.size
  cl : ∀ i oi, ops[i]? = some oi → Dl listed i = true → ∀ e ∈ oi.after, Region.binds .any e = true → Dl listed e.on = true
  pic : ∃ κ ob, Rel X κ ob w ∧ (∀ t, VR (KK X κ ob w) (get (envOf V (Dl listed) 0 ops.toList env) t) (a.tmps.getD t undef)) ∧ MemX ops fr O (Dl listed) ob
  size : a.tmps.size = N
  defers : a.defers = []
theorem WOps_cons (hT : TOk P T) (arr : Array Oper) {o : Oper} {r : List Oper} {env : Env} {ol : OL} {K : Env → OL → Prop} (h : WOps P T arr (o :: r) env ol K) :
    ∃ v ol1, StepJ P T arr o env ol v ol1 ∧ WOps P T arr r (putE o.dst v env) ol1 K := by
  unfold WOps at h
  have run : gd arr o env = some true → WOp P T o (evE env) ol (fun v ol' => WOps P T arr r (putE o.dst v env) ol' K) → ∃ v ol1, StepJ P T arr o env ol v ol1 ∧ WOps P T arr r (putE o.dst v env) ol1 K := by
    intro hg hw
    obtain ⟨v, hw⟩ := WOp_sound hT hw
    rcases hw with ⟨h0, h1, h2⟩ | ⟨h0, A, h1, h2, h3⟩ | ⟨h0, ol', h1, h2, _⟩
    · exact ⟨v, ol, .inr ⟨hg, .inl ⟨h0, rfl, h2⟩⟩, h1⟩
    · exact ⟨v, A ++ ol, .inr ⟨hg, .inr (.inl ⟨h0, A, rfl, h2, h3⟩)⟩, h1⟩
    · exact ⟨v, ol', .inr ⟨hg, .inr (.inr ⟨h0, h2⟩)⟩, h1⟩
  split at h
  · rename_i hg
    exact run (by simp [gd, hg]) h
  · rename_i j want hg
    split at h
    · rename_i d hd
      split at h
      · rename_i b hb
        split at h
        · rename_i hbw
          exact run (by simp only [gd, hg, hd, hb, hbw]) h
        · rename_i hbw
          exact ⟨undA, ol, .inl ⟨by simp only [gd, hg, hd, hb, hbw], rfl, rfl⟩, h⟩
      · rename_i hb
        exact ⟨undA, ol, .inl ⟨by simp only [gd, hg, hd, hb], rfl, rfl⟩, h⟩
      · exact h.elim
    · exact h.elim
def Ex (P : Program) (T : TT) (arr : Array Oper) (fr : Nat → Bool) (s : Nat) (ops : List Oper) (env : Env) (ol : OL) (K : Env → OL → Prop) : Prop :=
  ∃ (V : Nat → AV) (O : Nat → OL), O 0 = ol ∧ (∀ k o, ops[k]? = some o → StepK (kdx fr (s + k) o) P T arr o (envOf V (fun j => decide (j < k)) 0 ops env) (O k) (V k) (O (k + 1))) ∧ K (envOf V (fun _ => true) 0 ops env) (O ops.length)
theorem Ex.nil {arr : Array Oper} {s : Nat} {ol : OL} {K : Env → OL → Prop} (h : K env ol) : Ex P T arr fr s [] env ol K := ⟨fun _ => .any, fun _ => ol, rfl, fun k o hk => by simp at hk, h⟩
theorem Ex.cons {arr : Array Oper} {s : Nat} {o : Oper} {r : List Oper} {ol ol1 : OL} {v : AV} {K : Env → OL → Prop} (hs : StepK (kdx fr s o) P T arr o env ol v ol1) (h : Ex P T arr fr (s + 1) r (putE o.dst v env) ol1 K) : Ex P T arr fr s (o :: r) env ol K := by
  obtain ⟨V, O, hO, hst, hK⟩ := h
  refine ⟨fun | 0 => v | k + 1 => V k, fun | 0 => ol | k + 1 => O k, rfl, fun k o' hk => ?_, ?_⟩
  · cases k with
    | zero =>
      simp only [List.getElem?_cons_zero, Option.some.injEq] at hk
      subst hk
      have : (fun j : Nat => decide (j < 0)) = fun _ => false := by funext j; simp
      rw [this, envOf_none]
      simp only [Nat.zero_add, Nat.add_zero]
      rw [hO]
      exact hs
    | succ k =>
      have := hst k o' (by simpa using hk)
      simp only [envOf]
      rw [if_pos (by simp), envOf_shift]
      have e : (fun j : Nat => decide (j + 1 < k + 1)) = fun j => decide (j < k) := by funext j; simp
      rw [e, show s + (k + 1) = s + 1 + k from by omega]
      exact this
  · simp only [envOf, if_true]
    rw [envOf_shift]
    exact hK
theorem Ex.pre (hT : TOk P T) {arr : Array Oper} {r : List Oper} {K K' : Env → OL → Prop} : ∀ (l : List Oper) (s : Nat) (env : Env) (ol : OL), (∀ i, s ≤ i → i < s + l.length → fr i = false) → WOps P T arr l env ol K' → (∀ e o, K' e o → Ex P T arr fr (s + l.length) r e o K) → Ex P T arr fr s (l ++ r) env ol K
  | [], s, env, ol, _, h, hk => hk _ _ h
  | o :: l, s, env, ol, hf, h, hk' => by
    obtain ⟨v, ol1, hs, hw⟩ := WOps_cons hT arr h
    have hk : kdx fr s o = kind o := by unfold kdx; rw [hf s (Nat.le_refl _) (by simp)]; rfl
    refine Ex.cons (by rw [hk]; exact hs) (Ex.pre hT l (s + 1) _ _ (fun i h1 h2 => hf i (by omega) (by simp only [List.length_cons]; omega)) hw ?_)
    have e : s + (o :: l).length = s + 1 + l.length := by simp only [List.length_cons]; omega
    rw [e] at hk'
    exact hk'
def LoadC (P : Program) (T : TT) (o : Oper) (env : Env) (K : AV → Prop) : Prop :=
  o.guard = none ∧ ∃ t x u, o.op = .load t x ∧ evE env x = .cptr u ∧ (T.und t).known = true ∧ u.size = T.sz t ∧ u.isAgg = (T.und t).isAgg ∧ K u
theorem LoadC.step (hT : TOk P T) {arr : Array Oper} {o : Oper} {ol : OL} {K : AV → Prop} (h : LoadC P T o env K) : ∃ v, K v ∧ StepK 0 P T arr o env ol v ol := by
  obtain ⟨hg, t, x, u, ho, hx, hk, h1, h2, h⟩ := h
  refine ⟨u, h, .inr ⟨by simp [gd, hg], .inl ⟨rfl, rfl, fun X κ ob w ρ hP hTT hR hv => ?_⟩⟩⟩
  have hx' := hv x (by simp [ho, Op.operands])
  rw [hx] at hx'
  obtain ⟨b, oo, seg, e1, hJ, hu, hs⟩ := VR_cptr hx'
  obtain ⟨c, hrun, hvc⟩ := load_fin hT hk (K := KK X κ ob w) rfl hu hs h1 h2
  exact ⟨c, by simp [execOp, ho, e1, Instr.loadAt, Instr.sureAddr, hrun], hvc⟩
def WSeg (P : Program) (T : TT) (arr : Array Oper) : List Nat → List Oper → Env → OL → (Env → OL → Prop) → Prop
  | [], ops, env, ol, K => WOps P T arr ops env ol K
  | n :: fl, ops, env, ol, K => WOps P T arr (ops.take n) env ol (fun env' ol' => match ops.drop n with
    | o :: r => LoadC P T o env' (fun v => WSeg P T arr fl r (putE o.dst v env') ol' K)
    | [] => False)
def frL : List Nat → Nat → List Nat
  | [], _ => []
  | n :: fl, s => (s + n) :: frL fl (s + n + 1)
theorem frL_ge : ∀ (fl : List Nat) (s x : Nat), x ∈ frL fl s → s ≤ x
  | [], s, x, h => by cases h
  | n :: fl, s, x, h => by
    unfold frL at h
    rcases List.mem_cons.1 h with h | h
    · omega
    · have := frL_ge fl (s + n + 1) x h; omega
theorem frL_no (fl : List Nat) {s i : Nat} (h : i < s) : (frL fl s).any (Nat.beq i) = false := by
  cases hq : (frL fl s).any (Nat.beq i) with
  | false => rfl
  | true =>
    obtain ⟨x, h1, h2⟩ := List.any_eq_true.1 hq
    have := frL_ge fl s x h1
    have := Nat.eq_of_beq_eq_true h2
    omega
theorem WSeg.ex (hT : TOk P T) {arr : Array Oper} {K : Env → OL → Prop} : ∀ (fl : List Nat) (s : Nat) (ops : List Oper) (env : Env) (ol : OL), (∀ i, s ≤ i → fr i = (frL fl s).any (Nat.beq i)) → WSeg P T arr fl ops env ol K → Ex P T arr fr s ops env ol K
  | [], s, ops, env, ol, hf, h => by
    have := Ex.pre (r := []) hT ops s env ol (fun i h1 _ => by rw [hf i h1]; rfl) (K := K) (fr := fr) (arr := arr) (P := P) (T := T) h (fun _ _ h => Ex.nil h)
    rwa [List.append_nil] at this
  | n :: fl, s, ops, env, ol, hf, h => by
    have h : WOps P T arr (ops.take n) env ol (fun env' ol' => match ops.drop n with
      | o :: r => LoadC P T o env' (fun v => WSeg P T arr fl r (putE o.dst v env') ol' K)
      | [] => False) := h
    rcases Nat.lt_or_ge n ops.length with hn | hn
    · have hl : (ops.take n).length = n := by rw [List.length_take]; omega
      obtain ⟨o, r, hor⟩ : ∃ o r, ops.drop n = o :: r := by
        cases hq : ops.drop n with
        | nil => have := congrArg List.length hq; rw [List.length_drop, List.length_nil] at this; omega
        | cons o r => exact ⟨o, r, rfl⟩
      rw [hor] at h
      have hops : ops = ops.take n ++ (o :: r) := by rw [← hor, List.take_append_drop]
      rw [hops]
      refine Ex.pre hT (ops.take n) s env ol (fun i h1 h2 => ?_) h (fun env' ol' hh => ?_)
      · rw [hl] at h2
        rw [hf i h1]
        show (Nat.beq i (s + n) || (frL fl (s + n + 1)).any (Nat.beq i)) = false
        rw [frL_no fl (by omega), beq_ff (by omega)]; rfl
      · rw [hl]
        obtain ⟨v, hv, hs⟩ := LoadC.step hT (arr := arr) (ol := ol') hh
        have hfr : fr (s + n) = true := by
          rw [hf _ (by omega)]
          show (Nat.beq (s + n) (s + n) || _) = true
          rw [Nat.beq_refl]; rfl
        refine Ex.cons (v := v) (ol1 := ol') ?_ (WSeg.ex hT fl (s + n + 1) r _ _ (fun i hi => ?_) hv)
        · have : kdx fr (s + n) o = 0 := by unfold kdx; rw [hfr]; rfl
          rw [this]; exact hs
        · rw [hf i (by omega)]
          show (Nat.beq i (s + n) || _) = _
          rw [beq_ff (by omega)]; rfl
    · have e : ops.drop n = [] := List.drop_of_length_le hn
      rw [e] at h
      have := Ex.pre (r := []) hT (ops.take n) s env ol (fun i h1 h2 => ?_) (K := K) (fr := fr) (arr := arr) (P := P) (T := T) h (fun _ _ hh => hh.elim)
      · rwa [List.append_nil, List.take_of_length_le hn] at this
      · have : (ops.take n).length ≤ n := List.length_take_le _ _
        rw [hf i h1]
        show (Nat.beq i (s + n) || (frL fl (s + n + 1)).any (Nat.beq i)) = false
        rw [frL_no fl (by omega), beq_ff (by omega)]; rfl
section
variable {N : Nat} {id : Nat} {ol : OL} {Q : Exit → Env → OL → Prop}
end
theorem mt_exp2 {at_ : Nat → Nat → Option (AV × AV)} {k i e : Nat} {sh : AV} {F G : Nat → AV} (h : at_ k i = some (sh, .arr 2 G)) (h0 : Mt V0 (F 0) (exp at_ 3 (G 0))) (h1 : Mt V0 (F 1) (exp at_ 3 (G 1))) : Mt V0 (.ro 2 F) (exp at_ 4 (.own k i 2 e)) := by
  show Mt V0 _ (match at_ k i with | some (_, .arr m f) => AV.ro m (fun j => exp at_ 3 (f j)) | _ => .any)
  rw [h]
  refine ⟨rfl, fun j hj => ?_⟩
  match j, hj with
  | 0, _ => exact h0
  | 1, _ => exact h1
theorem mt_expc {at_ : Nat → Nat → Option (AV × AV)} {d : Nat} {v : AV} (h : v.closed) (hn : v ≠ .any) : Mt V0 v (exp at_ d v) := by
  rw [exp_closed h]; exact Mt.rf h hn
end Go.Am

set_option linter.unusedVariables false
set_option linter.unusedSimpArgs false
namespace Go.Am
section
variable {P : Program} {T : TT} {N : Nat} {ks : List Nat} {env : Env} {ol : OL} {Q : Exit → Env → OL → Prop}
end
end Go.Am

set_option linter.unusedVariables false
set_option linter.unusedSimpArgs false
namespace Go.Am
end Go.Am

set_option linter.unusedVariables false
set_option linter.unusedSimpArgs false
namespace Go.Am
abbrev T3 := Nat → Nat → Nat → Int
end Go.Am

set_option linter.unusedVariables false
set_option linter.unusedSimpArgs false
namespace Go.Am
def apF (p : Int) (F : Nat → Nat → Int) (v : Nat → Int) : Nat → Nat → Int
  | 0 => fun _ => 0
  | i + 1 => addF p (apF p F v i) (F i) (v i)
def starP (p : Int) (n : Nat) (T : T3) (fo : Nat → Int) (F : Nat → Nat → Int) : Prop :=
  ∀ i, i < n → (eqN 6 (apF p F (F i) n) (eF i) ∧ formF p fo (F i) = fo i) ∧ ∀ j, j < n → eqN 6 (apF p F (T i j) n) (timesF p n T (F j) (F i))
noncomputable instance (p : Int) (n : Nat) (T : T3) (fo : Nat → Int) (F : Nat → Nat → Int) : Decidable (starP p n T fo F) := Classical.propDecidable _
def liP (p : Int) (n : Int) (M : Nat) (F : Nat → Nat → Int) : Prop := (M : Int) = n ∧ ∀ i, i < M → smP p n (F i)
noncomputable instance (p n : Int) (M : Nat) (F : Nat → Nat → Int) : Decidable (liP p n M F) := Classical.propDecidable _
end Go.Am

set_option linter.unusedVariables false
set_option linter.unusedSimpArgs false
namespace Go.Am
def parD (c : Int) : Int := if 48 ≤ c ∧ c ≤ 57 then c - 48 else if 97 ≤ c ∧ c ≤ 99 then c - 87 else -1
def rdD (s : ByteArray) (i : Nat) : Int := parD (byteAt s i)
def rdOk (s : ByteArray) (n : Nat) : Prop := s.size = n ∧ ∀ i, i < n → 0 ≤ rdD s i
noncomputable instance (s : ByteArray) (n : Nat) : Decidable (rdOk s n) := Classical.propDecidable _
def rdF (s : ByteArray) (n : Nat) : Nat → Int := fun i => if i < n ∧ 0 ≤ rdD s i then rdD s i else 0
def rdV (p : Int) (n : Nat) (s : ByteArray) : Prop := rdOk s n ∧ smP p (n : Int) (rdF s n)
noncomputable instance (p : Int) (n : Nat) (s : ByteArray) : Decidable (rdV p n s) := Classical.propDecidable _
end Go.Am

set_option linter.unusedVariables false
set_option linter.unusedSimpArgs false
namespace Go.Am
section
variable {p : Int} {n : Nat} {A : Nat → Nat → Int}
end
section
variable {n i j r : Nat}
end
end Go.Am

set_option linter.unusedVariables false
set_option linter.unusedSimpArgs false
namespace Go.Am
end Go.Am

set_option linter.unusedVariables false
set_option linter.unusedSimpArgs false
namespace Go.Am
section
variable {p : Int} {n : Nat} {A : Nat → Nat → Int} {b : Nat → Int}
end
end Go.Am

