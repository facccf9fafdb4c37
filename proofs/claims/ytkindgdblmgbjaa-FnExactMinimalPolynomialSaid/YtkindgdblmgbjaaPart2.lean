/- Part 2 of what the law stands on: abstract values, their walk, contracts of functions. My own work. Conditions: none. -/
import Derived.Test.YtkindgdblmgbjaaPart1
import Derived.ChangeSlices
import Derived.Laws.Externs
import Derived.Lib.Bytealg
import Derived.Lib.SlicesCompact
set_option linter.unusedVariables false
set_option linter.unusedSimpArgs false
namespace Go.Am
def AV.inner (D : Nat → Bool) : AV → Prop
  | .arr _ f => ∀ i, (f i).inner D
  | .sct _ f => ∀ i, (f i).inner D
  | .tup _ f => ∀ i, (f i).inner D
  | .own k _ _ _ => D k = true
  | .cptr _ => False
  | .ro _ _ => False
  | .ptr _ _ _ _ _ => False
  | .fn _ n _ => n = 0
  | _ => True
structure SameD (D : Nat → Bool) (K K' : Kx) : Prop where
  heap : K'.heap = K.heap
  dom : ∀ k, D k = true → K'.dom k
  blk : ∀ k, D k = true → ∀ i, K'.blk k i = K.blk k i ∧ K'.shp k i = K.shp k i
  sz : K'.sz = K.sz
  zr : K'.zr = K.zr
theorem ownR_same {D : Nat → Bool} {K K' : Kx} (h : SameD D K K') {k i n : Nat} {e : TypeId} {c : Value} (hk : D k = true) (ho : K.ownR k i n e c) : K'.ownR k i n e c := by
  obtain ⟨_, hn, cap, cur, fr, rfl, h1, h2, h3, h4⟩ := ho
  obtain ⟨b1, b2⟩ := h.blk k hk i
  exact ⟨h.dom k hk, by rw [b2, h.zr]; exact hn, cap, cur, fr, by rw [b1], h1, h2, by rw [b1, h.heap]; exact h3, by rw [h.sz]; exact h4⟩
theorem FL_inner {D : Nat → Bool} {K K' : Kx} (h : SameD D K K') : ∀ {v : AV} {cs : List Value}, v.inner D → FL K v cs → FL K' v cs := by
  intro v
  induction v with
  | arr n f ih =>
    rintro cs hv ⟨g, rfl, hg⟩
    exact ⟨g, rfl, fun i hi => ⟨ih i (hv i) (hg i hi).1, (hg i hi).2⟩⟩
  | sct n f ih =>
    rintro cs hv ⟨g, rfl, hg⟩
    exact ⟨g, rfl, fun i hi => ih i (hv i) (hg i hi)⟩
  | own k i n e => rintro cs hv ⟨c, rfl, hc⟩; exact ⟨c, rfl, ownR_same h hv hc⟩
  | cptr v ih => intro cs hv; exact hv.elim
  | ro n f ih => intro cs hv; exact hv.elim
  | fn q n caps ih =>
    rintro cs hv ⟨cv, rfl, h1, h2⟩
    have hn : n = 0 := hv
    subst hn
    exact ⟨cv, rfl, h1, fun i hi => absurd hi (Nat.not_lt_zero _)⟩
  | tup n f _ => intro cs _ h; exact h.elim
  | ptr k i p o r _ => intro cs _ h; exact h.elim
  | _ => intro cs _ h; exact h
theorem VR_inner {D : Nat → Bool} {K K' : Kx} (h : SameD D K K') : ∀ {v : AV} {c : Value}, v.inner D → VR K v c → VR K' v c := by
  intro v
  induction v with
  | arr n f ih => rintro c hv ⟨cs, rfl, hc⟩; exact ⟨cs, rfl, FL_inner (v := .arr n f) h hv hc⟩
  | sct n f ih => rintro c hv ⟨cs, rfl, hc⟩; exact ⟨cs, rfl, FL_inner (v := .sct n f) h hv hc⟩
  | tup n f ih => rintro c hv ⟨vs, rfl, h1, h2⟩; exact ⟨vs, rfl, h1, fun i hi => ih i (hv i) (h2 i hi)⟩
  | fn q n caps ih =>
    rintro c hv ⟨cv, rfl, h1, h2⟩
    have hn : n = 0 := hv
    subst hn
    exact ⟨cv, rfl, h1, fun i hi => absurd hi (Nat.not_lt_zero _)⟩
  | ptr => intro c hv; exact hv.elim
  | cptr => intro c hv; exact hv.elim
  | ro => intro c hv; exact hv.elim
  | any => intro c _ _; trivial
  | own k i n e => intro c hv hc; exact FL_inner (v := .own k i n e) h hv hc
  | _ => intro c _ hc; exact hc
def innerL (D : Nat → Bool) : List AV → Prop
  | [] => True
  | a :: r => a.inner D ∧ innerL D r
theorem VRs_inner {D : Nat → Bool} {K K' : Kx} (h : SameD D K K') : ∀ {ars : List AV} {cs : List Value}, innerL D ars → VRs K ars cs → VRs K' ars cs
  | [], [], _, _ => trivial
  | [], _ :: _, _, h2 => h2.elim
  | a :: ars, [], _, h2 => h2.elim
  | a :: ars, c :: cs, hi, h2 => ⟨VR_inner h hi.1 h2.1, VRs_inner h hi.2 h2.2⟩
section
variable {P : Program} {T : TT}
theorem EnvR_args {K : Kx} {env : Env} {a : Act} (h : EnvR K env a.tmps) : ∀ (xs : List Operand), VRs K (xs.map (evE env)) (xs.map a.eval)
  | [] => trivial
  | x :: r => ⟨h.ev x, EnvR_args h r⟩
theorem run_call {f : FuncId} (hE : Ent P f) {dst : Option Nat} {ty : TypeId} {pos : String} {af : Array Edge} {gu : Option (Nat × Bool)} {args : Array Operand} {aty : Array TypeId} (act : Act) (w : World) :
    (execOp act.eval ⟨dst, .call { callee := .value (.func f), args := args, argTypes := aty }, ty, pos, af, gu⟩).run P w = .ok (.enter f (args.map act.eval)) w := by
  have h0 := hE (args.map act.eval) w
  have hf : act.eval (.func f) = .func (.func f) #[] #[] := rfl
  simp only [execOp, resolve, hf, Deferred.ofValue, Sem.run_bind, Sem.run_pure, Result.andThen_ok, invoke]
  simpa using h0
theorem mut_mid1 (hT : TOk P T) {f : FuncId} {q n e : Nat} {sh c0 c1 r : AV} {more : List AV} (hc : MCalls P T f [q] (.own q 0 n e :: more) [(q, .one sh c0)] r [(q, .one sh c1)]) {dst : Option Nat} {ty : TypeId} {pos : String} {af : Array Edge} {gu : Option (Nat × Bool)} {s : Operand} {args : List Operand} {aty : Array TypeId} {env : Env} {ol : OL} {k i : Nat}
    (hs : evE env s = .own k i n e) (ha : args.map (evE env) = more) (hin : innerL (fun _ => false) more) (hr : r.inner (fun _ => false)) (h0 : c0.inner (fun _ => false)) (h1 : c1.inner (fun _ => false))
    (hat : ol.at_ k i = some (sh, c0)) :
    MidJ P T ⟨dst, .call { callee := .value (.func f), args := (s :: args).toArray, argTypes := aty }, ty, pos, af, gu⟩ env ol r (ol.set k i (some (sh, c1))) := by
  intro X κ w act hP hTT hR hEn
  have hhas : ol.has k = true := OL.has_of_at (i := i) (by rw [hat]; simp)
  have hlive : ol.ob.at_ k i ≠ none := by show ol.at_ k i ≠ none; rw [hat]; simp
  obtain ⟨cur0, e0, m1, m2, m3, m4, m5, m6, m7⟩ := hR.live k i sh c0 hat
  let X' : Cx := ⟨P, T, w, fun _ => False, fun b => b = κ.blk k i⟩
  let κ0 : Gh := ⟨fun _ _ => κ.blk k i, fun _ _ => κ.shp k i⟩
  have hq0 : ∀ k' i' sh' c', OL.at_ [(q, .one sh c0)] k' i' = some (sh', c') → k' = q ∧ i' = 0 ∧ sh' = sh ∧ c' = c0 := by
    intro k' i' sh' c' h
    simp only [OL.at_] at h
    cases hb : Nat.beq k' q
    · rw [hb] at h; cases h
    · rw [hb] at h
      simp only [cond_true, Fam.at_] at h
      cases hi : Nat.beq i' 0
      · rw [hi] at h; cases h
      · rw [hi] at h
        simp only [cond_true, Option.some.injEq, Prod.mk.injEq] at h
        exact ⟨Nat.eq_of_beq_eq_true hb, Nat.eq_of_beq_eq_true hi, h.1.symm, h.2.symm⟩
  have hqn : ∀ k' i', OL.at_ [(q, .one sh c0)] k' i' ≠ none → k' = q ∧ i' = 0 := by
    intro k' i' h
    cases hh : OL.at_ [(q, .one sh c0)] k' i' with
    | none => exact absurd hh h
    | some p => exact ⟨(hq0 k' i' p.1 p.2 hh).1, (hq0 k' i' p.1 p.2 hh).2.1⟩
  have hD0 : SameD (fun _ => false) (KK X κ ol.ob w) (KK X' κ0 (OL.ob [(q, .one sh c0)]) w) :=
    ⟨rfl, fun _ h => (by cases h), fun _ h => (by cases h), by show T.sz = X.T.sz; rw [hTT], by show T.zero = X.T.zero; rw [hTT]⟩
  have hR' : Rel X' κ0 (OL.ob [(q, .one sh c0)]) w := by
    refine ⟨rfl, rfl, rfl, Nat.le_refl _, fun _ _ _ => rfl, fun k' i' sh' c' hq => ?_, fun k' i' k2 i2 hq hq2 _ => ?_, fun k' i' hq => OL.has_of_at hq, fun b hb => hb.elim, fun b hb => ?_⟩
    · obtain ⟨_, _, rfl, rfl⟩ := hq0 k' i' sh' c' hq
      exact ⟨cur0, e0, m1, m2, FL_inner hD0 h0 m3, m4, m5, .inr rfl, fun h => h⟩
    · obtain ⟨rfl, rfl⟩ := hqn k' i' hq
      obtain ⟨rfl, rfl⟩ := hqn k2 i2 hq2
      exact ⟨rfl, rfl⟩
    · have hb' : b = κ.blk k i := hb
      rw [hb']
      exact (Array.getElem?_eq_some_iff.1 m1).1
  have hvs : VRs (KK X' κ0 (OL.ob [(q, .one sh c0)]) w) (.own q 0 n e :: more) ((s :: args).toArray.map act.eval).toList := by
    have h1 := EnvR_args hEn args
    rw [ha] at h1
    have h2 := hEn.ev s
    rw [hs] at h2
    simp only [List.map_toArray, List.map_cons]
    refine ⟨?_, VRs_inner hD0 hin h1⟩
    obtain ⟨_, hn, cap, cur, fr, hv, g1, g2, g3, g4⟩ := VR_own h2
    rw [hv]
    exact ⟨_, rfl, by show OL.has [(q, .one sh c0)] q = true; simp [OL.has], by show κ.shp k i = AV.arr n (fun _ => T.zero e); exact hn.trans (by show AV.arr n (fun _ => X.T.zero e) = _; rw [hTT]), cap, cur, fr, rfl, g1, g2, g3, by show cur.size = cap * T.sz e; rw [g4]; show cap * X.T.sz e = _; rw [hTT]⟩
  rw [run_call hc.ent]
  show Calls X.P f _ w _
  rw [hP]
  have := hc.go X' κ0 w ((s :: args).toArray.map act.eval).toList rfl rfl rfl hR' hvs
  rw [Array.toArray_toList] at this
  refine Calls.mono this ?_
  rintro ex w' ⟨c, κ', rfl, hR1, hv, hpin⟩
  have hb' : ∀ b, b < w.heap.size → b ≠ κ.blk k i → w'.heap[b]? = w.heap[b]? := hR1.block
  have hs' : w.heap.size ≤ w'.heap.size := hR1.size
  obtain ⟨cur1, e1, l1, l2, l3, l4, l5, _, _⟩ := hR1.live q 0 sh c1 (by show OL.at_ [(q, .one sh c1)] q 0 = _; simp [OL.at_, Fam.at_])
  have hblk : κ'.blk q 0 = κ.blk k i := (hpin.blk q (by simp) 0).1
  rw [hblk] at l1
  have hset : ∀ k' i', (ol.set k i (some (sh, c1))).at_ k' i' ≠ none ↔ ol.at_ k' i' ≠ none := fun k' i' => by
    rw [OL.at_set]
    split
    · rename_i h; obtain ⟨rfl, rfl⟩ := h; rw [hat]; simp
    · exact Iff.rfl
  have hhas' : ∀ k', (ol.set k i (some (sh, c1))).has k' = ol.has k' := fun k' => by
    rw [OL.has_set]
    cases hb : Nat.beq k' k
    · simp
    · rw [Nat.eq_of_beq_eq_true hb, hhas]; rfl
  have hle : Le (KK X κ ol.ob w) (KK X κ (OL.ob (ol.set k i (some (sh, c1)))) w') := by
    refine Le.step hs' (fun b hb => ⟨hb' b (hR.J_lt hb) (fun he => hb.2 k i hlive he.symm), fun k' i' hq => hb.2 k' i' ((hset k' i').1 hq)⟩) (fun k' hk' => ⟨by show OL.has _ k' = true; rw [hhas']; exact hk', fun i => ⟨rfl, rfl⟩⟩) hpin.size
  have hD1 : SameD (fun _ => false) (KK X' κ' (OL.ob [(q, .one sh c1)]) w') (KK X κ (OL.ob (ol.set k i (some (sh, c1)))) w') :=
    ⟨rfl, fun _ h => (by cases h), fun _ h => (by cases h), by show X.T.sz = T.sz; rw [hTT], by show X.T.zero = T.zero; rw [hTT]⟩
  refine ⟨c, κ, rfl, ?_, VR_inner hD1 hr hv, hle⟩
  refine ⟨hR1.os.trans hR.os, hR1.tape.trans hR.tape, hR1.output.trans hR.output, Nat.le_trans hR.size hs', fun b hb hM => ?_, fun k' i' sh' c' hq => ?_, fun k' i' k2 i2 hq hq2 he => hR.inj k' i' k2 i2 ((hset k' i').1 hq) ((hset k2 i2).1 hq2) he, fun k' i' hq => ?_, hR.hI, hR.hM⟩
  · refine (hb' b (Nat.lt_of_lt_of_le hb hR.size) (fun he => ?_)).trans (hR.block b hb hM)
    subst he
    rcases m6 with m6 | m6
    · omega
    · exact hM m6
  · have hq : (ol.set k i (some (sh, c1))).at_ k' i' = some (sh', c') := hq
    rw [OL.at_set] at hq
    by_cases h : k' = k ∧ i' = i
    · rw [if_pos h] at hq
      obtain ⟨q1, q2⟩ := Prod.mk.inj (Option.some.inj hq)
      obtain ⟨rfl, rfl⟩ := h
      subst q1; subst q2
      exact ⟨cur1, e1, l1, l2, FL_inner hD1 h1 l3, l4, m5, m6, m7⟩
    · rw [if_neg h] at hq
      obtain ⟨cur, e', g1, g2, g3, g4, g5, g6, g7⟩ := hR.live k' i' sh' c' hq
      have hne : κ.blk k' i' ≠ κ.blk k i := fun he => h (hR.inj k' i' k i (by show ol.at_ k' i' ≠ none; rw [hq]; simp) hlive he)
      exact ⟨cur, e', (hb' _ (Array.getElem?_eq_some_iff.1 g1).1 hne).trans g1, g2, FL_mono hle g3, g4, g5, g6, g7⟩
  · have := OL.has_of_at ((hset k' i').1 hq)
    show OL.has _ k' = true
    rw [hhas']; exact this
end
end Go.Am

set_option linter.unusedVariables false
set_option linter.unusedSimpArgs false
namespace Go.Am
section
variable {p : Int} {n : Nat} {T : Nat → Nat → Nat → Int}
def pz (n : Nat) (T : Nat → Nat → Nat → Int) (u v : Nat → Int) (k : Nat) : Int := sumZ (fun i => sumZ (fun j => u i * v j * T i j k) n) n
theorem times_pz {u v : Nat → Int} {k : Nat} (hk : k < n) : timesF p n T u v k = pz n T u v k % p := by
  unfold timesF; rw [if_pos hk]; rfl
def cg (p : Int) (n : Nat) (u v : Nat → Int) : Prop := ∀ j, j < n → p ∣ u j - v j
theorem cg.sy {u v : Nat → Int} (h : cg p n u v) : cg p n v u := fun j hj => dvd_sy (h j hj)
theorem cg.tr {u v w : Nat → Int} (h : cg p n u v) (h' : cg p n v w) : cg p n u w := fun j hj => dvd_tr (h j hj) (h' j hj)
theorem mul_dvd {a b c d : Int} (h : p ∣ a - b) (h' : p ∣ c - d) : p ∣ a * c - b * d := by
  have h1 : p ∣ (a - b) * c := Int.dvd_mul_of_dvd_left h
  have h2 : p ∣ b * (c - d) := Int.dvd_mul_of_dvd_right h'
  have := Int.dvd_add h1 h2
  rwa [Int.sub_mul, Int.mul_sub, show a * c - b * c + (b * c - b * d) = a * c - b * d by omega] at this
theorem VV.ext {u v : Nat → Int} (hu : VV p n u) (hv : VV p n v) (h : cg p n u v) : u = v := by
  funext k
  by_cases hk : k < n
  · exact eq_of_dvd (hu.b k) (hv.b k) (h k hk)
  · rw [hu.z k (by omega), hv.z k (by omega)]
theorem VV.times (hp : 0 < p) {u v : Nat → Int} : VV p n (timesF p n T u v) := ⟨timesF_Bp hp, fun k hk => by unfold timesF; rw [if_neg (by omega)]⟩
theorem VV.zero (hp : 0 < p) : VV p n (fun _ => 0) := ⟨fun _ => ⟨Int.le_refl _, hp⟩, fun _ _ => rfl⟩
theorem VV.eF (hp : 1 < p) {i : Nat} (hi : i < n) : VV p n (eF i) := ⟨eF_Bp hp i, fun k hk => by rw [eF_dl]; unfold dl; rw [if_neg (by omega)]⟩
theorem VV.add (hp : 0 < p) {u v : Nat → Int} (hu : VV p n u) (hv : VV p n v) (c : Int) : VV p n (addF p u v c) := ⟨addF_Bp hp u v c, fun k hk => by unfold addF; rw [hu.z k hk, hv.z k hk, Int.mul_zero]; rfl⟩
theorem VV.eqN {u v : Nat → Int} (h6 : n ≤ 6) (hu : VV p n u) (hv : VV p n v) : eqN 6 u v ↔ u = v := by
  constructor
  · intro h
    funext k
    by_cases hk : k < 6
    · exact h k hk
    · rw [hu.z k (by omega), hv.z k (by omega)]
  · rintro rfl k _; rfl
def s3 (n : Nat) (f : Nat → Nat → Nat → Int) : Int := sumZ (fun i => sumZ (fun j => sumZ (f i j) n) n) n
theorem pz_one_l {u v : Nat → Int} (hu : LU p n T u) {k : Nat} (hk : k < n) : p ∣ pz n T u v k - v k := by
  unfold pz
  rw [sumZ_swap]
  have : p ∣ sumZ (fun j => v j * sumZ (fun i => T i j k * u i) n) n - v k := by
    have h := sumZ_dvd (p := p) (f := fun j => v j * sumZ (fun i => T i j k * u i) n) (g := fun j => v j * dl j k) n (fun j hj => mul_dvd (dvd_rf rfl) (hu j hj k hk))
    rwa [sum_dl v hk] at h
  rw [sumZ_congr (g := fun j => v j * sumZ (fun i => T i j k * u i) n) n (fun j _ => by
    rw [← sumZ_mul]
    exact sumZ_congr n (fun i _ => by simp only [Int.mul_assoc, Int.mul_comm, Int.mul_left_comm]))]
  exact this
end
section
variable {p : Int} {n : Nat} {T : Nat → Nat → Nat → Int} {fo : Nat → Int}
theorem VN.pp (h : VN p n T fo) : 0 < p := by have := h.p0; omega
theorem VN.LU (h : VN p n T fo) : LU p n T (uF p n T) := (uF_unit h.hp h.n0 h.hT h.u).1
theorem VN.RU (h : VN p n T fo) : RU p n T (uF p n T) := (uF_unit h.hp h.n0 h.hT h.u).2.1
theorem VN.one_l (h : VN p n T fo) {v : Nat → Int} (hv : VV p n v) : timesF p n T (uF p n T) v = v :=
  VV.ext (VV.times h.pp) hv (fun k hk => dvd_tr (by rw [times_pz hk]; exact dvd_mod p _) (pz_one_l h.LU hk))
def iM (p : Int) (n : Nat) (T : Nat → Nat → Nat → Int) (v : Nat → Int) (x j : Nat) : Nat → Int := if x = 0 then timesF p n T v (eF j) else timesF p n T (eF j) v
noncomputable abbrev iR (p : Int) (n : Nat) (T : Nat → Nat → Nat → Int) (v : Nat → Int) : Nat → Nat → Int := sysR n (iM p n T v) (fun _ => uF p n T)
def iOk (p : Int) (n : Nat) (T : Nat → Nat → Nat → Int) (v : Nat → Int) : Prop := conP n (redGo p (2 * n) (iR p n T v) (n + 1)).no (redGo p (2 * n) (iR p n T v) (n + 1)).O
noncomputable instance (p : Int) (n : Nat) (T : Nat → Nat → Nat → Int) (v : Nat → Int) : Decidable (iOk p n T v) := Classical.propDecidable _
def sS (p : Int) (n N : Nat) (S : Nat → Nat → Int) : Nat → Int := cutF (fun a => (echGo p (n + 1) S N).O a n) n
def oS (p : Int) (n N : Nat) (S : Nat → Nat → Int) : Prop := oneP n (echGo p (n + 1) S N).no (echGo p (n + 1) S N).O
noncomputable instance (p : Int) (n N : Nat) (S : Nat → Nat → Int) : Decidable (oS p n N S) := Classical.propDecidable _
theorem oS_sol {N : Nat} {S : Nat → Nat → Int} (hp : primeB p = true) (hS : ∀ i, Bp p (S i)) (h : oS p n N S) : Sol p n N S (sS p n N S) ∧ VV p n (sS p n N S) ∧ ∀ x, Sol p n N S x → cg p n x (sS p n N S) := by
  have hpb := primeB_bd hp
  obtain ⟨⟨l, hrr⟩, hnl⟩ := ech_ok (m := n + 1) (R := S) hp N (fun i _ => hS i)
  refine ⟨sol_null.2 ((hnl _).1 (sol_null.1 (one_sol hrr h))), ⟨fun j => ?_, fun j hj => by unfold sS cutF; rw [if_neg (by omega)]⟩, fun x hx j hj => ?_⟩
  · unfold sS cutF
    split
    · exact hrr.bp j (by have := h.1; omega) n
    · omega
  · have := one_uniq hrr h (sol_null.2 ((hnl _).2 (sol_null.1 hx))) hj
    unfold sS cutF
    rwa [if_pos hj]
theorem oS_of {N : Nat} {S : Nat → Nat → Int} (hp : primeB p = true) (hS : ∀ i, Bp p (S i)) {x : Nat → Int} (hx : Sol p n N S x) (hu : ∀ y, Sol p n N S y → cg p n y x) : oS p n N S := by
  have hpb := primeB_bd hp
  obtain ⟨⟨l, hrr⟩, hnl⟩ := ech_ok (m := n + 1) (R := S) hp N (fun i _ => hS i)
  have hs : ∀ y, Sol p n _ (echGo p (n + 1) S N).O y ↔ Sol p n N S y := fun y => by rw [sol_null, sol_null]; exact hnl _
  exact one_of_uniq (by omega) hrr (con_of_sol (by omega) hrr ((hs x).2 hx)) (fun u v hu' hv' => (hu u ((hs u).1 hu')).tr (hu v ((hs v).1 hv')).sy)
end
end Go.Am

set_option linter.unusedVariables false
set_option linter.unusedSimpArgs false
namespace Go.Am
section
variable {H : Type} {enc : TypeId × Value → H} {P : Program} {w : World} {base : Nat} {spare : Nat → Bool} {held : Bool}
end
end Go.Am

set_option linter.unusedVariables false
set_option linter.unusedSimpArgs false
namespace Go.Am
section
variable {p : Int} {m : Nat}
theorem ech_Bp {n : Nat} {R : Nat → Nat → Int} (hp : primeB p = true) (hR : ∀ i, i < n → Bp p (R i)) {i : Nat} (hi : i < (echGo p m R n).no) : Bp p ((echGo p m R n).O i) := by
  obtain ⟨⟨l, h1⟩, _⟩ := ech_ok (m := m) hp n hR
  exact h1.bp i hi
theorem red_le {n : Nat} {R : Nat → Nat → Int} : (redGo p n R m).no ≤ m ∧ (redGo p n R m).no ≤ n := by
  have := red_counts p n R m
  omega
end
section
variable {p : Int} {m no : Nat} {O O' : Nat → Nat → Int}
end
end Go.Am

set_option linter.unusedVariables false
set_option linter.unusedSimpArgs false
namespace Go.Am
def symA (n : Nat) (F : Nat → Nat → Int) : Prop := ∀ i, i < n → ∀ j, j < n → F j i = F i j
def symS (n : Nat) (F : Nat → Nat → Int) : Prop := ∀ i, i < n → ∀ j, j < i → F i j = F j i
noncomputable instance (n : Nat) (F : Nat → Nat → Int) : Decidable (symA n F) := Classical.propDecidable _
noncomputable instance (n : Nat) (F : Nat → Nat → Int) : Decidable (symS n F) := Classical.propDecidable _
end Go.Am

set_option linter.unusedVariables false
set_option linter.unusedSimpArgs false
namespace Go.Am
def kdx (fr : Nat → Bool) (i : Nat) (o : Oper) : Nat := bif fr i then 0 else kind o
theorem kdx_le (fr : Nat → Bool) (i : Nat) (o : Oper) : kdx fr i o = 0 ∨ kdx fr i o = 1 ∨ kdx fr i o = 2 := by
  unfold kdx
  cases fr i
  · exact kind_le o
  · exact .inl rfl
def StepK (q : Nat) (P : Program) (T : TT) (arr : Array Oper) (o : Oper) (env : Env) (ol : OL) (v : AV) (ol' : OL) : Prop :=
  (gd arr o env = some false ∧ v = undA ∧ ol' = ol) ∨
  (gd arr o env = some true ∧
    ((q = 0 ∧ ol' = ol ∧ PureJ P T o (evE env) v) ∨
     (q = 1 ∧ ∃ A : OL, ol' = A ++ ol ∧ PassJ' P T o (evE env) ol.ob v A ∧ ∀ k, A.has k = true → ol.has k = false) ∨
     (q = 2 ∧ ActJ P T o (evE env) ol.ob v ol'.ob)))
structure DrawOkX (ops : Array Oper) (U : Nat → Nat → Bool) (fr : Nat → Bool) : Prop where
  back : ∀ i oi, ops[i]? = some oi → ∀ e ∈ oi.after, Region.binds .any e = true → e.on < i
  clos : ∀ i oi j, ops[i]? = some oi → j < ops.size → U i j = true → ∃ e ∈ oi.after, Region.binds .any e = true ∧ (e.on = j ∨ U e.on j = true)
  ap : ∀ i oi j oj, ops[i]? = some oi → ops[j]? = some oj → j < i → oj.apart ops oi = true ∨ U i j = true
  act1 : ∀ i oi j oj, ops[i]? = some oi → ops[j]? = some oj → kdx fr i oi = 2 → kdx fr j oj = 1 → j < i → U i j = true
  act1' : ∀ i oi j oj, ops[i]? = some oi → ops[j]? = some oj → kdx fr i oi = 2 → kdx fr j oj = 1 → i < j → U j i = true
  act2 : ∀ i oi j oj, ops[i]? = some oi → ops[j]? = some oj → kdx fr i oi = 2 → kdx fr j oj = 2 → j < i → U i j = true
def chkX (ops : Array Oper) (U : Nat → Nat → Bool) (fr : Nat → Bool) : Bool :=
  (List.range ops.size).all fun i => match ops[i]? with
    | none => true
    | some oi =>
      (oi.after.toList.all fun e => !Region.binds .any e || Nat.blt e.on i) &&
      (List.range ops.size).all fun j => match ops[j]? with
        | none => true
        | some oj =>
          (!U i j || oi.after.toList.any fun e => Region.binds .any e && (Nat.beq e.on j || U e.on j)) &&
          (!(Nat.blt j i) || (U i j || oj.apart ops oi)) &&
          (!(Nat.beq (kdx fr i oi) 2) || (!(Nat.beq (kdx fr j oj) 1) || ((!(Nat.blt j i) || U i j) && (!(Nat.blt i j) || U j i)))) &&
          (!(Nat.beq (kdx fr i oi) 2) || (!(Nat.beq (kdx fr j oj) 2) || (!(Nat.blt j i) || U i j)))
theorem chkX_ok {ops : Array Oper} {U : Nat → Nat → Bool} {fr : Nat → Bool} (h : chkX ops U fr = true) : DrawOkX ops U fr := by
  simp only [chkX, List.all_eq_true, List.mem_range] at h
  have lt : ∀ {i : Nat} {oi : Oper}, ops[i]? = some oi → i < ops.size := fun hi => (Array.getElem?_eq_some_iff.1 hi).1
  have g1 : ∀ i oi, ops[i]? = some oi → ∀ e ∈ oi.after.toList, (!Region.binds .any e || Nat.blt e.on i) = true := by
    intro i oi hi
    have := h i (lt hi)
    rw [hi] at this
    simp only [Bool.and_eq_true, List.all_eq_true] at this
    exact this.1
  have g2 : ∀ i oi j oj, ops[i]? = some oi → ops[j]? = some oj →
      ((((!U i j || oi.after.toList.any fun e => Region.binds .any e && (Nat.beq e.on j || U e.on j)) = true ∧ (!(Nat.blt j i) || (U i j || oj.apart ops oi)) = true) ∧
      (!(Nat.beq (kdx fr i oi) 2) || (!(Nat.beq (kdx fr j oj) 1) || ((!(Nat.blt j i) || U i j) && (!(Nat.blt i j) || U j i)))) = true) ∧ (!(Nat.beq (kdx fr i oi) 2) || (!(Nat.beq (kdx fr j oj) 2) || (!(Nat.blt j i) || U i j))) = true) := by
    intro i oi j oj hi hj
    have := h i (lt hi)
    rw [hi] at this
    simp only [Bool.and_eq_true, List.all_eq_true, List.mem_range] at this
    have := this.2 j (lt hj)
    rw [hj] at this
    simpa only [Bool.and_eq_true] using this
  refine ⟨fun i oi hi e he hb => ?_, fun i oi j hi hj hu => ?_, fun i oi j oj hi hj hlt => ?_, fun i oi j oj hi hj h2 h1 hlt => ?_, fun i oi j oj hi hj h2 h1 hlt => ?_, fun i oi j oj hi hj h2 h1 hlt => ?_⟩
  · have := (g1 i oi hi) e (by simpa using he)
    simpa [hb, Nat.blt_eq] using this
  · have := (g2 i oi j ops[j] hi (by simp [hj])).1.1.1
    simp only [hu, Bool.not_true, Bool.false_or, List.any_eq_true, Bool.and_eq_true, Bool.or_eq_true] at this
    obtain ⟨e, he, hb, hq⟩ := this
    exact ⟨e, by simpa using he, hb, hq.imp (fun h => Nat.eq_of_beq_eq_true h) id⟩
  · have := (g2 i oi j oj hi hj).1.1.2
    have hb : Nat.blt j i = true := by rw [Nat.blt_eq]; exact hlt
    simp only [hb, Bool.not_true, Bool.false_or, Bool.or_eq_true] at this
    exact this.symm
  · have := (g2 i oi j oj hi hj).1.2
    have hb : Nat.blt j i = true := by rw [Nat.blt_eq]; exact hlt
    simp [h2, h1, hb] at this
    exact this.1
  · have := (g2 i oi j oj hi hj).1.2
    have hb : Nat.blt i j = true := by rw [Nat.blt_eq]; exact hlt
    simp [h2, h1, hb] at this
    exact this.2
  · have := (g2 i oi j oj hi hj).2
    have hb : Nat.blt j i = true := by rw [Nat.blt_eq]; exact hlt
    simpa [h2, h1, hb] using this
def drawOkX (ops : Array Oper) (fr : Nat → Bool) : Bool := chkX ops (Uof (numsOf ops)) fr
structure TrX (P : Program) (T : TT) (ops : Array Oper) (fr : Nat → Bool) (env : Env) (V : Nat → AV) (O : Nat → OL) : Prop where
  step : ∀ k o, ops[k]? = some o → StepK (kdx fr k o) P T ops o (envOf V (fun j => decide (j < k)) 0 ops.toList env) (O k) (V k) (O (k + 1))
variable {P : Program} {T : TT} {ops : Array Oper} {U : Nat → Nat → Bool} {fr : Nat → Bool} {env : Env} {V : Nat → AV} {O : Nat → OL}
theorem TrX.same (ht : TrX P T ops fr env V O) {k : Nat} {o : Oper} (hk : ops[k]? = some o) (h0 : kdx fr k o = 0) : O (k + 1) = O k := by
  rcases ht.step k o hk with ⟨_, _, h⟩ | ⟨_, ⟨_, h, _⟩ | ⟨h, _⟩ | ⟨h, _⟩⟩
  · exact h
  · exact h
  · rw [h0] at h; cases h
  · rw [h0] at h; cases h
theorem TrX.up (ht : TrX P T ops fr env V O) {j : Nat} {o : Oper} (hj : ops[j]? = some o) (h2 : kdx fr j o ≠ 2) {k : Nat} (hk : (O j).has k = true) : (O (j + 1)).has k = true ∧ ∀ i, (O (j + 1)).at_ k i = (O j).at_ k i := by
  rcases ht.step j o hj with ⟨_, _, h⟩ | ⟨_, ⟨_, h, _⟩ | ⟨_, A, h, _, hf⟩ | ⟨h, _⟩⟩
  · rw [h]; exact ⟨hk, fun _ => rfl⟩
  · rw [h]; exact ⟨hk, fun _ => rfl⟩
  · rw [h]
    refine ⟨by rw [OL.has_append, hk]; simp, fun i => ?_⟩
    rw [OL.at_append]
    split
    · rename_i hA
      rw [hf k hA] at hk; cases hk
    · rfl
  · exact absurd h h2
def noAct (ops : Array Oper) (fr : Nat → Bool) (a b : Nat) : Prop := ∀ i oi, ops[i]? = some oi → a ≤ i → i < b → kdx fr i oi ≠ 2
theorem noAct.sub {a b a' b' : Nat} (h : noAct ops fr a b) (ha : a ≤ a') (hb : b' ≤ b) : noAct ops fr a' b' := fun i oi hi h1 h2 => h i oi hi (by omega) (by omega)
theorem TrX.chain (ht : TrX P T ops fr env V O) {a : Nat} : ∀ d, a + d ≤ ops.size → noAct ops fr a (a + d) → ∀ {k : Nat}, (O a).has k = true → (O (a + d)).has k = true ∧ ∀ i, (O (a + d)).at_ k i = (O a).at_ k i
  | 0, _, _, k, hk => ⟨hk, fun _ => rfl⟩
  | d + 1, h, hn, k, hk => by
    obtain ⟨h1, h2⟩ := ht.chain d (by omega) (hn.sub (Nat.le_refl _) (by omega)) hk
    have hlt : a + d < ops.size := by omega
    have hx : ops[a + d]? = some ops[a + d] := by simp [hlt]
    obtain ⟨h3, h4⟩ := ht.up hx (hn _ _ hx (by omega) (by omega)) h1
    exact ⟨h3, fun i => (h4 i).trans (h2 i)⟩
theorem TrX.mono (ht : TrX P T ops fr env V O) {a b : Nat} (hab : a ≤ b) (hb : b ≤ ops.size) (hn : noAct ops fr a b) {k : Nat} (hk : (O a).has k = true) : (O b).has k = true ∧ ∀ i, (O b).at_ k i = (O a).at_ k i := by
  obtain ⟨d, rfl⟩ := Nat.exists_eq_add_of_le hab
  exact ht.chain d hb hn hk
theorem TrX.born (ht : TrX P T ops fr env V O) {a : Nat} {k : Nat} : ∀ d, (O (a + d)).has k = true → (O a).has k = true ∨ ∃ j, a ≤ j ∧ j < a + d ∧ (O (j + 1)).has k = true ∧ (O j).has k = false
  | 0, h => .inl h
  | d + 1, h => by
    cases hq : (O (a + d)).has k with
    | true =>
      rcases ht.born d hq with h | ⟨j, h1, h2, h3⟩
      · exact .inl h
      · exact .inr ⟨j, h1, by omega, h3⟩
    | false => exact .inr ⟨a + d, by omega, by omega, h, hq⟩
theorem nextAct (ops : Array Oper) (fr : Nat → Bool) : ∀ d m, m + d = ops.size → ∃ e, m ≤ e ∧ e ≤ ops.size ∧ noAct ops fr m e ∧ (e = ops.size ∨ ∃ oe, ops[e]? = some oe ∧ kdx fr e oe = 2)
  | 0, m, h => ⟨m, Nat.le_refl _, by omega, fun i oi _ h1 h2 => by omega, .inl (by omega)⟩
  | d + 1, m, h => by
    have hlt : m < ops.size := by omega
    have hx : ops[m]? = some ops[m] := by simp [hlt]
    by_cases h2 : kdx fr m ops[m] = 2
    · exact ⟨m, Nat.le_refl _, by omega, fun i oi _ h1 h2 => by omega, .inr ⟨_, hx, h2⟩⟩
    · obtain ⟨e, h3, h4, h5, h6⟩ := nextAct ops fr d (m + 1) (by omega)
      refine ⟨e, by omega, h4, fun i oi hi h7 h8 => ?_, h6⟩
      by_cases hi2 : i = m
      · subst hi2; rw [hx] at hi; cases hi; exact h2
      · exact h5 i oi hi (by omega) h8
structure Mem1 (ops : Array Oper) (fr : Nat → Bool) (O : Nat → OL) (D : Nat → Bool) (ob : Ob) (m e : Nat) : Prop where
  me : m ≤ e
  le : e ≤ ops.size
  acts : ∀ i oi, ops[i]? = some oi → kdx fr i oi = 2 → (D i = true ↔ i < m)
  no : noAct ops fr m e
  nx : e = ops.size ∨ ∃ oe, ops[e]? = some oe ∧ kdx fr e oe = 2
  p1 : ∀ i oi, ops[i]? = some oi → kdx fr i oi = 1 → i < m → D i = true
  p2 : ∀ i oi, ops[i]? = some oi → kdx fr i oi = 1 → e ≤ i → D i = false
  has : ∀ k, ob.has k = true ↔ (O m).has k = true ∨ ∃ j, m ≤ j ∧ j < e ∧ D j = true ∧ (O (j + 1)).has k = true ∧ (O j).has k = false
  at_ : ∀ k, ob.has k = true → ∀ i, ob.at_ k i = (O e).at_ k i
def MemX (ops : Array Oper) (fr : Nat → Bool) (O : Nat → OL) (D : Nat → Bool) (ob : Ob) : Prop := ∃ m e, Mem1 ops fr O D ob m e
theorem Mem1.turn (ht : TrX P T ops fr env V O) {D : Nat → Bool} {ob : Ob} {m e : Nat} (hob : ∀ k i, ob.at_ k i ≠ none → ob.has k = true) (hm : Mem1 ops fr O D ob m e)
    (h1 : ∀ i oi, ops[i]? = some oi → kdx fr i oi = 1 → m ≤ i → i < e → D i = true) : ob = (O e).ob := by
  have hh : ∀ k, ob.has k = true ↔ (O e).has k = true := by
    intro k
    rw [hm.has k]
    constructor
    · rintro (h | ⟨j, hj, hj2, _, h, _⟩)
      · exact (ht.mono hm.me hm.le hm.no h).1
      · exact (ht.mono (by omega : j + 1 ≤ e) hm.le (hm.no.sub (by omega) (Nat.le_refl _)) h).1
    · intro h
      obtain ⟨d, rfl⟩ := Nat.exists_eq_add_of_le hm.me
      rcases ht.born d h with h | ⟨j, hj, hj2, ha, hb⟩
      · exact .inl h
      · refine .inr ⟨j, hj, hj2, ?_, ha, hb⟩
        have hlt : j < ops.size := by have := hm.le; omega
        have hx : ops[j]? = some ops[j] := by simp [hlt]
        rcases kdx_le fr j ops[j] with h0 | h5 | h5
        · rw [ht.same hx h0, hb] at ha; cases ha
        · exact h1 _ _ hx h5 hj hj2
        · exact absurd h5 (hm.no _ _ hx hj hj2)
  refine Ob_ext (fun k i => ?_) (fun k => ?_)
  · cases hk : ob.has k with
    | true => exact hm.at_ k hk i
    | false =>
      have e1 : ob.at_ k i = none := by
        apply Classical.byContradiction
        intro hne
        rw [hob k i hne] at hk; cases hk
      have e2 : (O e).at_ k i = none := by
        apply Classical.byContradiction
        intro hne
        have := (hh k).2 (OL.has_of_at hne)
        rw [this] at hk; cases hk
      rw [e1]
      exact e2.symm
  · have := hh k
    show ob.has k = (O e).has k
    cases hx : ob.has k
    · rw [hx] at this
      cases hy : (O e).has k
      · rfl
      · exact absurd (this.2 hy) (by simp)
    · exact (this.1 hx).symm
section
variable {D D' : Nat → Bool} {i : Nat} {oi : Oper}
theorem Mem1.before (hd : DrawOkX ops U fr) {ob : Ob} {m e : Nat} (hm : Mem1 ops fr O D ob m e) (hi : ops[i]? = some oi) (h1 : kdx fr i oi = 1) (hU : ∀ j, j < ops.size → U i j = true → D j = true) : i < e := by
  have lt : ∀ {i : Nat} {oi : Oper}, ops[i]? = some oi → i < ops.size := fun hi => (Array.getElem?_eq_some_iff.1 hi).1
  apply Nat.lt_of_not_le
  intro hle
  rcases hm.nx with h | ⟨oe, he, h2⟩
  · have := lt hi; omega
  · have hne : e ≠ i := by
      intro h; subst h; rw [hi] at he; cases he; rw [h1] at h2; cases h2
    have := hU e (lt he) (hd.act1' e oe i oi he hi h2 h1 (by omega))
    have := (hm.acts e oe he h2).1 this
    have := hm.me
    omega
theorem MemX.zero (ht : TrX P T ops fr env V O) (hd : DrawOkX ops U fr) (hi : ops[i]? = some oi) (h0 : kdx fr i oi ≠ 2) (hU : ∀ j, j < ops.size → U i j = true → D j = true)
    (hD' : ∀ j, D' j = if j = i then true else D j) (hsame : O (i + 1) = O i) {ob : Ob} (hm : MemX ops fr O D ob) : MemX ops fr O D' ob := by
  obtain ⟨m, e, hm⟩ := hm
  refine ⟨m, e, hm.me, hm.le, fun j oj hj hk => ?_, hm.no, hm.nx, fun j oj hj hk hlt => ?_, fun j oj hj hk hle => ?_, fun k => ?_, hm.at_⟩
  · by_cases hji : j = i
    · subst hji; rw [hi] at hj; cases hj; exact absurd hk h0
    · rw [hD' j, if_neg hji]; exact hm.acts j oj hj hk
  · rw [hD' j]; split
    · rfl
    · exact hm.p1 j oj hj hk hlt
  · by_cases hji : j = i
    · subst hji; rw [hi] at hj; cases hj
      have := hm.before hd hi hk hU
      omega
    · rw [hD' j, if_neg hji]; exact hm.p2 j oj hj hk hle
  · rw [hm.has k]
    constructor
    · rintro (h | ⟨j, ha, hb, hc, hd⟩)
      · exact .inl h
      · exact .inr ⟨j, ha, hb, by rw [hD' j]; split <;> simp_all, hd⟩
    · rintro (h | ⟨j, ha, ha2, hb, hc, hd⟩)
      · exact .inl h
      · by_cases hji : j = i
        · subst hji; rw [hsame, hd] at hc; cases hc
        · rw [hD' j, if_neg hji] at hb
          exact .inr ⟨j, ha, ha2, hb, hc, hd⟩
theorem MemX.one (ht : TrX P T ops fr env V O) (hd : DrawOkX ops U fr) (hi : ops[i]? = some oi) (h1 : kdx fr i oi = 1) (hDi : D i = false) (hU : ∀ j, j < ops.size → U i j = true → D j = true)
    (hD' : ∀ j, D' j = if j = i then true else D j) {A : OL} (hA : O (i + 1) = A ++ O i) (hf : ∀ k, A.has k = true → (O i).has k = false) {ob : Ob} (hm : MemX ops fr O D ob) :
    (∀ k, ob.has k = true → (O i).ob.has k = true → ∀ j, ob.at_ k j = (O i).ob.at_ k j) ∧ (∀ k, A.has k = true → ob.has k = false) ∧ MemX ops fr O D' (A.ob.ext ob) := by
  obtain ⟨m, e, hm⟩ := hm
  have hie := hm.before hd hi h1 hU
  have hmi : m ≤ i := by
    apply Nat.le_of_not_lt
    intro h
    have := hm.p1 i oi hi h1 h
    rw [hDi] at this; cases this
  refine ⟨fun k hk hk2 j => ?_, fun k hk => ?_, m, e, hm.me, hm.le, fun j oj hj hk => ?_, hm.no, hm.nx, fun j oj hj hk hlt => ?_, fun j oj hj hk hle => ?_, fun k => ?_, fun k hk j => ?_⟩
  · rw [hm.at_ k hk j]
    exact (ht.mono (Nat.le_of_lt hie) hm.le (hm.no.sub hmi (Nat.le_refl _)) hk2).2 j
  · have hn := hf k hk
    apply Classical.byContradiction
    intro hh
    have hh : ob.has k = true := by simpa using hh
    rcases (hm.has k).1 hh with h | ⟨j, ha, ha2, hb, hc, hdd⟩
    · have := (ht.mono hmi (by have := hm.le; omega) (hm.no.sub (Nat.le_refl _) (by omega)) h).1
      rw [hn] at this; cases this
    · by_cases hji : j < i
      · have := (ht.mono (by omega : j + 1 ≤ i) (by have := hm.le; omega) (hm.no.sub (by omega) (by omega)) hc).1
        rw [hn] at this; cases this
      · by_cases hij : j = i
        · subst hij; rw [hDi] at hb; cases hb
        · have : (O (i + 1)).has k = true := by rw [hA, OL.has_append, hk]; rfl
          have := (ht.mono (by omega : i + 1 ≤ j) (by have := hm.le; omega) (hm.no.sub (by omega) (by omega)) this).1
          rw [hdd] at this; cases this
  · by_cases hji : j = i
    · subst hji; rw [hi] at hj; cases hj; rw [h1] at hk; cases hk
    · rw [hD' j, if_neg hji]; exact hm.acts j oj hj hk
  · rw [hD' j]; split
    · rfl
    · exact hm.p1 j oj hj hk hlt
  · by_cases hji : j = i
    · omega
    · rw [hD' j, if_neg hji]; exact hm.p2 j oj hj hk hle
  · have e' : (A.ob.ext ob).has k = (A.has k || ob.has k) := rfl
    rw [e', Bool.or_eq_true, hm.has k]
    constructor
    · rintro (h | h | ⟨j, ha, ha2, hb, hc⟩)
      · exact .inr ⟨i, hmi, hie, by rw [hD' i, if_pos rfl], by rw [hA, OL.has_append, h]; rfl, hf k h⟩
      · exact .inl h
      · exact .inr ⟨j, ha, ha2, by rw [hD' j]; split <;> simp_all, hc⟩
    · rintro (h | ⟨j, ha, ha2, hb, hc, hdd⟩)
      · exact .inr (.inl h)
      · by_cases hji : j = i
        · subst hji
          rw [hA, OL.has_append, hdd] at hc
          exact .inl (by simpa using hc)
        · rw [hD' j, if_neg hji] at hb
          exact .inr (.inr ⟨j, ha, ha2, hb, hc, hdd⟩)
  · have e' : (A.ob.ext ob).at_ k j = if A.has k = true then A.at_ k j else ob.at_ k j := rfl
    rw [e']
    split
    · rename_i hAk
      have hx : (O (i + 1)).has k = true := by rw [hA, OL.has_append, hAk]; rfl
      rw [(ht.mono (by omega : i + 1 ≤ e) hm.le (hm.no.sub (by omega) (Nat.le_refl _)) hx).2 j, hA, OL.at_append, if_pos hAk]
    · rename_i hAk
      refine hm.at_ k ?_ j
      have : (A.has k || ob.has k) = true := hk
      simpa [hAk] using this
theorem Mem1.start (ht : TrX P T ops fr env V O) {m e : Nat} (hme : m ≤ e) (hle : e ≤ ops.size) (hno : noAct ops fr m e) (hnx : e = ops.size ∨ ∃ oe, ops[e]? = some oe ∧ kdx fr e oe = 2)
    (hacts : ∀ i oi, ops[i]? = some oi → kdx fr i oi = 2 → (D i = true ↔ i < m)) (hp1 : ∀ i oi, ops[i]? = some oi → kdx fr i oi = 1 → i < m → D i = true) (hp2 : ∀ i oi, ops[i]? = some oi → kdx fr i oi = 1 → m ≤ i → D i = false) :
    Mem1 ops fr O D (O m).ob m e where
  me := hme
  le := hle
  acts := hacts
  no := hno
  nx := hnx
  p1 := hp1
  p2 := fun i oi hi h1 h => hp2 i oi hi h1 (by omega)
  has := fun k => by
    constructor
    · exact fun h => .inl h
    · rintro (h | ⟨j, ha, hb, hc, hd, he⟩)
      · exact h
      · have hlt : j < ops.size := by omega
        have hx : ops[j]? = some ops[j] := by simp [hlt]
        rcases kdx_le fr j ops[j] with h0 | h1 | h2
        · rw [ht.same hx h0, he] at hd; cases hd
        · rw [hp2 j _ hx h1 ha] at hc; cases hc
        · exact absurd h2 (hno j _ hx ha hb)
  at_ := fun k hk i => ((ht.mono hme hle hno hk).2 i).symm
theorem MemX.two (ht : TrX P T ops fr env V O) (hd : DrawOkX ops U fr) (hi : ops[i]? = some oi) (h2 : kdx fr i oi = 2) (hDi : D i = false)
    (hD' : ∀ j, D' j = if j = i then true else D j) (hU : ∀ j, j < ops.size → U i j = true → D j = true) (hUn : ∀ k ok, ops[k]? = some ok → U k i = true → D k = false) {ob : Ob} (hob : ∀ k i, ob.at_ k i ≠ none → ob.has k = true) (hm : MemX ops fr O D ob) :
    ob = (O i).ob ∧ MemX ops fr O D' (O (i + 1)).ob := by
  obtain ⟨m, e, hm⟩ := hm
  have lt : ∀ {i : Nat} {oi : Oper}, ops[i]? = some oi → i < ops.size := fun hi => (Array.getElem?_eq_some_iff.1 hi).1
  have hin := lt hi
  have hmi : m ≤ i := by
    apply Nat.le_of_not_lt
    intro h
    have := (hm.acts i oi hi h2).2 h
    rw [hDi] at this; cases this
  have hei : e ≤ i := by
    apply Nat.le_of_not_lt
    intro h
    exact hm.no i oi hi hmi h h2
  have hee : e = i := by
    rcases hm.nx with h | ⟨oe, he, h3⟩
    · omega
    · apply Classical.byContradiction
      intro hne
      have := hU e (lt he) (hd.act2 i oi e oe hi he h2 h3 (by omega))
      have := (hm.acts e oe he h3).1 this
      have := hm.me
      omega
  subst hee
  refine ⟨hm.turn ht hob (fun j oj hj hk ha hb => hU j (lt hj) (hd.act1 e oi j oj hi hj h2 hk hb)), ?_⟩
  obtain ⟨e', q1, q2, q3, q4⟩ := nextAct ops fr (ops.size - (e + 1)) (e + 1) (by omega)
  refine ⟨e + 1, e', Mem1.start ht q1 q2 q3 q4 (fun j oj hj hk => ?_) (fun j oj hj hk hlt => ?_) (fun j oj hj hk hle => ?_)⟩
  · rw [hD' j]
    by_cases hji : j = e
    · subst hji; simp
    · rw [if_neg hji, hm.acts j oj hj hk]
      constructor
      · intro h; omega
      · intro h
        have := hU j (lt hj) (hd.act2 e oi j oj hi hj h2 hk (by omega))
        exact (hm.acts j oj hj hk).1 this
  · rw [hD' j]; split
    · rfl
    · rename_i hne
      exact hU j (lt hj) (hd.act1 e oi j oj hi hj h2 hk (by omega))
  · rw [hD' j, if_neg (by omega)]
    exact hUn j oj hj (hd.act1' e oi j oj hi hj h2 hk (by omega))
theorem MemX.all (ht : TrX P T ops fr env V O) {ob : Ob} (hob : ∀ k i, ob.at_ k i ≠ none → ob.has k = true) (hm : MemX ops fr O D ob) (hall : ∀ i, i < ops.size → D i = true) : ob = (O ops.size).ob := by
  obtain ⟨m, e, hm⟩ := hm
  have lt : ∀ {i : Nat} {oi : Oper}, ops[i]? = some oi → i < ops.size := fun hi => (Array.getElem?_eq_some_iff.1 hi).1
  have he : e = ops.size := by
    rcases hm.nx with h | ⟨oe, he, h2⟩
    · exact h
    · have := (hm.acts e oe he h2).1 (hall e (lt he))
      have := hm.me
      omega
  have := hm.turn ht hob (fun j oj hj _ _ _ => hall j (lt hj))
  rw [this, he]
end
theorem downX (hd : DrawOkX ops U fr) {D : Nat → Bool} (hcl : ∀ i oi, ops[i]? = some oi → D i = true → ∀ e ∈ oi.after, Region.binds .any e = true → D e.on = true) :
    ∀ i oi j, ops[i]? = some oi → j < ops.size → U i j = true → (∀ e ∈ oi.after, Region.binds .any e = true → D e.on = true) → D j = true := by
  intro i
  induction i using Nat.strongRecOn with
  | _ i ih =>
    intro oi j hi hj hu hr
    obtain ⟨e, he, hb, hq⟩ := hd.clos i oi j hi hj hu
    have hlt := hd.back i oi hi e he hb
    have hin := (Array.getElem?_eq_some_iff.1 hi).1
    have hD := hr e he hb
    rcases hq with hq | hq
    · exact hq ▸ hD
    · have hx : ops[e.on]? = some ops[e.on] := by simp [Nat.lt_trans hlt hin]
      exact ih e.on hlt _ j hx hj hq (hcl e.on _ hx hD)
theorem rdy_nilX (hd : DrawOkX ops U fr) {listed : Array Bool} (hs : listed.size = ops.size) (h : Region.ready .any ops listed = []) : ∀ i, i < ops.size → Dl listed i = true := by
  intro i
  induction i using Nat.strongRecOn with
  | _ i ih =>
    intro hi
    apply Classical.byContradiction
    intro hn
    have hx : ops[i]? = some ops[i] := by simp [hi]
    have : i ∈ Region.ready .any ops listed := by
      simp only [Region.ready, List.mem_filter, List.mem_range, Bool.and_eq_true, Bool.not_eq_true']
      refine ⟨hi, ?_, ?_⟩
      · have : Dl listed i = false := by simpa using hn
        simp only [Dl, Array.getD_eq_getD_getElem?] at this ⊢
        have hl : i < listed.size := hs ▸ hi
        simp only [hl, Array.getElem?_eq_getElem, Option.getD_some] at this ⊢
        exact this
      · rw [hx]
        simp only [Option.map_some, Option.getD_some, Array.all_eq_true_iff_forall_mem]
        intro e he
        cases hb : Region.binds .any e
        · rfl
        · have hlt := hd.back i _ hx e he hb
          have := ih e.on hlt (by omega)
          simp only [Dl] at this
          simp [this]
    rw [h] at this
    cases this
structure InvX (P : Program) (T : TT) (ops : Array Oper) (fr : Nat → Bool) (N : Nat) (env : Env) (V : Nat → AV) (O : Nat → OL) (X : Cx) (listed : Array Bool) (a : Act) (w : World) : Prop where
  sz : listed.size = ops.size
  cl : ∀ i oi, ops[i]? = some oi → Dl listed i = true → ∀ e ∈ oi.after, Region.binds .any e = true → Dl listed e.on = true
  pic : ∃ κ ob, Rel X κ ob w ∧ (∀ t, VR (KK X κ ob w) (get (envOf V (Dl listed) 0 ops.toList env) t) (a.tmps.getD t undef)) ∧ MemX ops fr O (Dl listed) ob
  size : a.tmps.size = N
  defers : a.defers = []
theorem draw_stepX (hd : DrawOkX ops U fr) (ht : TrX P T ops fr env V O) {N : Nat} (hdst : dstOk N ops.toList = true) {X : Cx} (hP : X.P = P) (hTT : X.T = T) {listed : Array Bool} {a : Act} {w : World}
    (h : InvX P T ops fr N env V O X listed a w) {i : Nat} (hi : i ∈ Region.ready .any ops listed) {Q : Exit → Act → World → Prop} {K : Act → World → Prop}
    (hK : ∀ a' w', InvX P T ops fr N env V O X (listed.setIfInBounds i true) a' w' → K a' w') : wpOp P ops Q i K a w := by
  obtain ⟨oi, hx, hli, hre⟩ := mem_rdy hi
  have lt : ∀ {i : Nat} {oi : Oper}, ops[i]? = some oi → i < ops.size := fun hi => (Array.getElem?_eq_some_iff.1 hi).1
  have hin := lt hx
  have hinl : i < listed.size := h.sz ▸ hin
  have hDi : Dl listed i = false := by
    simp only [Dl, Array.getD_eq_getD_getElem?, hinl, Array.getElem?_eq_getElem, Option.getD_some] at hli ⊢
    exact hli
  have hD' := listed_set (listed := listed) hinl
  have hU : ∀ j, j < ops.size → U i j = true → Dl listed j = true := fun j hj hu => downX hd h.cl i oi j hx hj hu hre
  have hUn : ∀ k ok, ops[k]? = some ok → U k i = true → Dl listed k = false := fun k ok hk hu => by
    apply Classical.byContradiction
    intro hn
    have hn : Dl listed k = true := by simpa using hn
    have := downX hd h.cl k ok i hk hin hu (h.cl k ok hk hn)
    rw [hDi] at this; cases this
  obtain ⟨κ, ob, hR, hE, hM⟩ := h.pic
  have hob : ∀ k i, ob.at_ k i ≠ none → ob.has k = true := hR.has
  have hag : ∀ t, t ∈ oi.looksAt ops → get (envOf V (Dl listed) 0 ops.toList env) t = get (envOf V (fun j => decide (j < i)) 0 ops.toList env) t := by
    intro t htl
    refine envOf_agree V _ _ t _ 0 env env rfl (fun k o hk ho => ?_)
    rw [Array.getElem?_toList] at hk
    rw [Nat.zero_add]
    rcases Nat.lt_trichotomy k i with hki | hki | hki
    · rw [decide_eq_true hki]
      rcases hd.ap i oi k o hx hk hki with hap | hu
      · exact absurd htl ((Oper.apart_spec hap).1 t ho)
      · exact hU k (lt hk) hu
    · subst hki
      rw [hDi]; simp
    · rw [decide_eq_false (by omega)]
      rcases hd.ap k o i oi hk hx hki with hap | hu
      · exact absurd htl ((Oper.apart_spec hap).2.2 t ho)
      · exact hUn k o hk hu
  have hput : ∀ t, get (envOf V (Dl (listed.setIfInBounds i true)) 0 ops.toList env) t = if oi.dst = some t then V i else get (envOf V (Dl listed) 0 ops.toList env) t := by
    intro t
    by_cases hdt : oi.dst = some t
    · rw [if_pos hdt, envOf_last V _ t ops.toList 0 i oi env (by rw [Array.getElem?_toList]; exact hx) hdt (by rw [Nat.zero_add, hD', if_pos rfl]) (fun k o hk hk2 ho => ?_), Nat.zero_add]
      rw [Array.getElem?_toList] at hk2
      rw [Nat.zero_add, hD', if_neg (by omega)]
      rcases hd.ap k o i oi hk2 hx hk with hap | hu
      · exact absurd ho ((Oper.apart_spec hap).2.1 t hdt)
      · exact hUn k o hk2 hu
    · rw [if_neg hdt]
      refine envOf_agree V _ _ t _ 0 env env rfl (fun k o hk ho => ?_)
      rw [Array.getElem?_toList] at hk
      rw [Nat.zero_add, hD', if_neg (fun e => by subst e; rw [hx] at hk; cases hk; exact hdt ho)]
  have hdstN : ∀ t, oi.dst = some t → t < a.tmps.size := fun t hdt => by
    simp only [dstOk, List.all_eq_true] at hdst
    have := hdst oi (by simpa using Array.mem_of_getElem? hx)
    rw [hdt] at this
    rw [h.size]; simpa [Nat.blt_eq] using this
  have hcl' : ∀ j oj, ops[j]? = some oj → Dl (listed.setIfInBounds i true) j = true → ∀ e ∈ oj.after, Region.binds .any e = true → Dl (listed.setIfInBounds i true) e.on = true := by
    intro j oj hj hDj e he hb
    rw [hD'] at hDj ⊢
    split
    · rfl
    · by_cases hji : j = i
      · subst hji; rw [hx] at hj; cases hj; exact hre e he hb
      · rw [if_neg hji] at hDj; exact h.cl j oj hj hDj e he hb
  have next : ∀ (c : Value) (w' : World) (κ' : Gh) (ob' : Ob), Rel X κ' ob' w' → VR (KK X κ' ob' w') (V i) c → Le (KK X κ ob w) (KK X κ' ob' w') → MemX ops fr O (Dl (listed.setIfInBounds i true)) ob' → K (a.put oi.dst c) w' := by
    intro c w' κ' ob' hR' hv hle hM'
    refine hK _ _ ⟨by simp [h.sz], hcl', ⟨κ', ob', hR', fun t => ?_, hM'⟩, by rw [Act.put_size]; exact h.size, by rw [Am.Act.put_defers]; exact h.defers⟩
    rw [hput t]
    by_cases hdt : oi.dst = some t
    · rw [if_pos hdt, hdt]
      have : (a.put (some t) c).tmps.getD t undef = c := by simp [Act.put, hdstN t hdt]
      rw [this]; exact hv
    · rw [if_neg hdt]
      have : (a.put oi.dst c).tmps.getD t undef = a.tmps.getD t undef := by
        cases hq : oi.dst with
        | none => rfl
        | some d =>
          have hne : d ≠ t := fun e => hdt (by rw [hq, e])
          simp [Act.put, Array.getElem?_setIfInBounds_ne hne]
      rw [this]; exact VR_mono hle (hE t)
  have hops : ∀ x ∈ oi.op.operands.toList, VR (KK X κ ob w) (evE (envOf V (fun j => decide (j < i)) 0 ops.toList env) x) (a.eval x) := by
    intro x hxo
    cases x with
    | tmp t => have := hE t; rw [hag t (looks_dst hxo)] at this; exact this
    | const v => exact constAV_ok _ v
    | global g => trivial
    | func g => exact ⟨#[], rfl, rfl, fun i hi => by omega⟩
  have want : ∀ b, gd ops oi (envOf V (fun j => decide (j < i)) 0 ops.toList env) = some b → Region.wanted oi (yielded ops a.tmps) = b := by
    intro b hb
    unfold gd at hb
    split at hb
    · rename_i hg
      cases hb
      simp [Region.wanted, hg]
    · rename_i j wnt hg
      split at hb
      · rename_i d hdd
        split at hb
        · rename_i b' hb'
          cases hb
          rw [← hag d (looks_guard hg hdd)] at hb'
          have hy := yielded_of hdd hE hb' (dst_lt_of_eq hE hb')
          simp [Region.wanted, hg, hy]
        · rename_i hb'
          cases hb
          rw [← hag d (looks_guard hg hdd)] at hb'
          have hy := yielded_none hdd hE hb'
          simp [Region.wanted, hg, hy]
        · cases hb
      · cases hb
  have hsz : ∀ r, Oper.upon X.P oi a K Q r → Oper.upon P oi a K Q r := fun r hr => by rw [← hP]; exact hr
  unfold wpOp
  rw [hx]
  simp only
  have hst := ht.step i oi hx
  rcases hst with ⟨hg, hv, hs⟩ | ⟨hg, hst⟩
  · rw [if_neg (by rw [want _ hg]; simp)]
    have hvu : VR (KK X κ ob w) (V i) undef := by rw [hv]; exact undA_ok _
    rcases kdx_le fr i oi with h0 | h1 | h2
    · exact next undef w κ ob hR hvu (Le.refl _) (hM.zero ht hd hx (by omega) hU hD' hs)
    · exact next undef w κ ob hR hvu (Le.refl _) (hM.zero ht hd hx (by omega) hU hD' hs)
    · obtain ⟨e1, e2⟩ := hM.two ht hd hx h2 hDi hD' hU hUn hob
      rw [hs, ← e1] at e2
      exact next undef w κ ob hR hvu (Le.refl _) e2
  · rw [if_pos (want _ hg)]
    refine .inl ?_
    unfold Oper.wp
    rw [← hP]
    rcases hst with ⟨h0, hs, hj⟩ | ⟨h1, A, hs, hj, hf⟩ | ⟨h2, hj⟩
    · have := (PassJ.of_pure hj ob) X κ ob w a.eval hP hTT hR (fun _ _ _ _ => rfl) (fun k hk => by cases hk) hops
      rw [Ob.ext_nil, ← hP] at this
      exact upon_of_Out this (fun c w' κ' hR' hv hle => next c w' κ' ob hR' hv hle (hM.zero ht hd hx (by omega) hU hD' hs))
    · obtain ⟨e1, e2, e3⟩ := hM.one ht hd hx h1 hDi hU hD' hs hf
      have := hj X κ ob w a.eval hP hTT (fun _ => rfl) hR e1 e2 hops
      rw [← hP] at this
      exact upon_of_Out this (fun c w' κ' hR' hv hle => next c w' κ' _ hR' hv hle e3)
    · obtain ⟨e1, e2⟩ := hM.two ht hd hx h2 hDi hD' hU hUn hob
      subst e1
      have := hj X κ w a.eval hP hTT hR hops
      rw [← hP] at this
      exact upon_of_Out this (fun c w' κ' hR' hv hle => next c w' κ' _ hR' hv hle e2)
theorem draw_anyX (hd : DrawOkX ops U fr) (ht : TrX P T ops fr env V O) {N : Nat} (hdst : dstOk N ops.toList = true) {X : Cx} (hP : X.P = P) (hTT : X.T = T) {Q : Exit → Env → OL → Prop}
    (hK : Q .normal (envOf V (fun _ => true) 0 ops.toList env) (O ops.size)) :
    ∀ (fuel : Nat) (listed : Array Bool) (a : Act) (w : World), left ops listed ≤ fuel → InvX P T ops fr N env V O X listed a w → wpAny P .any ops (QQ X N Q) fuel listed a w := by
  have fin : ∀ (listed : Array Bool) (a : Act) (w : World), InvX P T ops fr N env V O X listed a w → (∀ i, i < ops.size → Dl listed i = true) → QQ X N Q .normal a w := by
    intro listed a w h hall
    obtain ⟨κ, ob, hR, hE, hM⟩ := h.pic
    have e := hM.all ht hR.has hall
    subst e
    refine ⟨κ, _, _, hK, hR, fun t => ?_, h.size, h.defers⟩
    have := hE t
    rwa [envOf_agree V (Dl listed) (fun _ => true) t _ 0 env env rfl (fun k o hk _ => by
      rw [Array.getElem?_toList] at hk
      rw [Nat.zero_add, hall k (Array.getElem?_eq_some_iff.1 hk).1])] at this
  intro fuel
  induction fuel with
  | zero =>
    intro listed a w hl h
    have hall : ∀ i, i < ops.size → Dl listed i = true := by
      intro i hi
      apply Classical.byContradiction
      intro hn
      have hn : Dl listed i = false := by simpa using hn
      have : i ∈ (List.range ops.size).filter fun i => !Dl listed i := by simp [hi, hn]
      have := List.length_pos_of_mem this
      unfold left at hl
      omega
    refine ⟨?_, fin listed a w h hall⟩
    apply Classical.byContradiction
    intro hne
    obtain ⟨i, hi⟩ := List.exists_mem_of_ne_nil _ hne
    obtain ⟨oi, hx, hli, _⟩ := mem_rdy hi
    have hin := (Array.getElem?_eq_some_iff.1 hx).1
    have hh := hall i hin
    have hl2 : i < listed.size := h.sz ▸ hin
    simp only [Dl, Array.getD_eq_getD_getElem?, hl2, Array.getElem?_eq_getElem, Option.getD_some] at hli hh
    rw [hh] at hli; cases hli
  | succ fuel ih =>
    intro listed a w hl h
    refine ⟨fun hr => fin listed a w h (rdy_nilX hd h.sz hr), fun i hi => ?_⟩
    obtain ⟨oi, hx, hli, _⟩ := mem_rdy hi
    have hin := (Array.getElem?_eq_some_iff.1 hx).1
    have hl2 : i < listed.size := h.sz ▸ hin
    have hDi : Dl listed i = false := by
      simp only [Dl, Array.getD_eq_getD_getElem?, hl2, Array.getElem?_eq_getElem, Option.getD_some] at hli ⊢
      exact hli
    have := left_lt hin hl2 hDi
    exact draw_stepX hd ht hdst hP hTT h hi (fun a' w' h' => ih _ a' w' (by omega) h')
theorem WOps_cons (hT : TOk P T) (arr : Array Oper) {o : Oper} {r : List Oper} {env : Env} {ol : OL} {K : Env → OL → Prop} (h : WOps P T arr (o :: r) env ol K) :
    ∃ v ol1, StepJ P T arr o env ol v ol1 ∧ WOps P T arr r (putE o.dst v env) ol1 K := by
  unfold WOps at h
  have run : gd arr o env = some true → WOp P T o (evE env) ol (fun v ol' => WOps P T arr r (putE o.dst v env) ol' K) → ∃ v ol1, StepJ P T arr o env ol v ol1 ∧ WOps P T arr r (putE o.dst v env) ol1 K := by
    intro hg hw
    obtain ⟨v, hw⟩ := WOp_sound hT hw
    rcases hw with ⟨h0, h1, h2⟩ | ⟨h0, A, h1, h2, h3⟩ | ⟨h0, ol', h1, h2, _⟩
    · exact ⟨v, ol, .inr ⟨hg, .inl ⟨h0, rfl, h2⟩⟩, h1⟩
    · exact ⟨v, A ++ ol, .inr ⟨hg, .inr (.inl ⟨h0, A, rfl, h2, h3⟩)⟩, h1⟩
    · exact ⟨v, ol', .inr ⟨hg, .inr (.inr ⟨h0, h2⟩)⟩, h1⟩
  split at h
  · rename_i hg
    exact run (by simp [gd, hg]) h
  · rename_i j want hg
    split at h
    · rename_i d hd
      split at h
      · rename_i b hb
        split at h
        · rename_i hbw
          exact run (by simp only [gd, hg, hd, hb, hbw]) h
        · rename_i hbw
          exact ⟨undA, ol, .inl ⟨by simp only [gd, hg, hd, hb, hbw], rfl, rfl⟩, h⟩
      · rename_i hb
        exact ⟨undA, ol, .inl ⟨by simp only [gd, hg, hd, hb], rfl, rfl⟩, h⟩
      · exact h.elim
    · exact h.elim
def Ex (P : Program) (T : TT) (arr : Array Oper) (fr : Nat → Bool) (s : Nat) (ops : List Oper) (env : Env) (ol : OL) (K : Env → OL → Prop) : Prop :=
  ∃ (V : Nat → AV) (O : Nat → OL), O 0 = ol ∧ (∀ k o, ops[k]? = some o → StepK (kdx fr (s + k) o) P T arr o (envOf V (fun j => decide (j < k)) 0 ops env) (O k) (V k) (O (k + 1))) ∧ K (envOf V (fun _ => true) 0 ops env) (O ops.length)
theorem Ex.nil {arr : Array Oper} {s : Nat} {ol : OL} {K : Env → OL → Prop} (h : K env ol) : Ex P T arr fr s [] env ol K := ⟨fun _ => .any, fun _ => ol, rfl, fun k o hk => by simp at hk, h⟩
theorem Ex.cons {arr : Array Oper} {s : Nat} {o : Oper} {r : List Oper} {ol ol1 : OL} {v : AV} {K : Env → OL → Prop} (hs : StepK (kdx fr s o) P T arr o env ol v ol1) (h : Ex P T arr fr (s + 1) r (putE o.dst v env) ol1 K) : Ex P T arr fr s (o :: r) env ol K := by
  obtain ⟨V, O, hO, hst, hK⟩ := h
  refine ⟨fun | 0 => v | k + 1 => V k, fun | 0 => ol | k + 1 => O k, rfl, fun k o' hk => ?_, ?_⟩
  · cases k with
    | zero =>
      simp only [List.getElem?_cons_zero, Option.some.injEq] at hk
      subst hk
      have : (fun j : Nat => decide (j < 0)) = fun _ => false := by funext j; simp
      rw [this, envOf_none]
      simp only [Nat.zero_add, Nat.add_zero]
      rw [hO]
      exact hs
    | succ k =>
      have := hst k o' (by simpa using hk)
      simp only [envOf]
      rw [if_pos (by simp), envOf_shift]
      have e : (fun j : Nat => decide (j + 1 < k + 1)) = fun j => decide (j < k) := by funext j; simp
      rw [e, show s + (k + 1) = s + 1 + k from by omega]
      exact this
  · simp only [envOf, if_true]
    rw [envOf_shift]
    exact hK
theorem Ex.pre (hT : TOk P T) {arr : Array Oper} {r : List Oper} {K K' : Env → OL → Prop} : ∀ (l : List Oper) (s : Nat) (env : Env) (ol : OL), (∀ i, s ≤ i → i < s + l.length → fr i = false) → WOps P T arr l env ol K' → (∀ e o, K' e o → Ex P T arr fr (s + l.length) r e o K) → Ex P T arr fr s (l ++ r) env ol K
  | [], s, env, ol, _, h, hk => hk _ _ h
  | o :: l, s, env, ol, hf, h, hk' => by
    obtain ⟨v, ol1, hs, hw⟩ := WOps_cons hT arr h
    have hk : kdx fr s o = kind o := by unfold kdx; rw [hf s (Nat.le_refl _) (by simp)]; rfl
    refine Ex.cons (by rw [hk]; exact hs) (Ex.pre hT l (s + 1) _ _ (fun i h1 h2 => hf i (by omega) (by simp only [List.length_cons]; omega)) hw ?_)
    have e : s + (o :: l).length = s + 1 + l.length := by simp only [List.length_cons]; omega
    rw [e] at hk'
    exact hk'
def LoadC (P : Program) (T : TT) (o : Oper) (env : Env) (K : AV → Prop) : Prop :=
  o.guard = none ∧ ∃ t x u, o.op = .load t x ∧ evE env x = .cptr u ∧ (T.und t).known = true ∧ u.size = T.sz t ∧ u.isAgg = (T.und t).isAgg ∧ K u
theorem LoadC.step (hT : TOk P T) {arr : Array Oper} {o : Oper} {ol : OL} {K : AV → Prop} (h : LoadC P T o env K) : ∃ v, K v ∧ StepK 0 P T arr o env ol v ol := by
  obtain ⟨hg, t, x, u, ho, hx, hk, h1, h2, h⟩ := h
  refine ⟨u, h, .inr ⟨by simp [gd, hg], .inl ⟨rfl, rfl, fun X κ ob w ρ hP hTT hR hv => ?_⟩⟩⟩
  have hx' := hv x (by simp [ho, Op.operands])
  rw [hx] at hx'
  obtain ⟨b, oo, seg, e1, hJ, hu, hs⟩ := VR_cptr hx'
  obtain ⟨c, hrun, hvc⟩ := load_fin hT hk (K := KK X κ ob w) rfl hu hs h1 h2
  exact ⟨c, by simp [execOp, ho, e1, Instr.loadAt, Instr.sureAddr, hrun], hvc⟩
def WSeg (P : Program) (T : TT) (arr : Array Oper) : List Nat → List Oper → Env → OL → (Env → OL → Prop) → Prop
  | [], ops, env, ol, K => WOps P T arr ops env ol K
  | n :: fl, ops, env, ol, K => WOps P T arr (ops.take n) env ol (fun env' ol' => match ops.drop n with
    | o :: r => LoadC P T o env' (fun v => WSeg P T arr fl r (putE o.dst v env') ol' K)
    | [] => False)
def frL : List Nat → Nat → List Nat
  | [], _ => []
  | n :: fl, s => (s + n) :: frL fl (s + n + 1)
def frF (fl : List Nat) (i : Nat) : Bool := (frL fl 0).any (Nat.beq i)
theorem frL_ge : ∀ (fl : List Nat) (s x : Nat), x ∈ frL fl s → s ≤ x
  | [], s, x, h => by cases h
  | n :: fl, s, x, h => by
    unfold frL at h
    rcases List.mem_cons.1 h with h | h
    · omega
    · have := frL_ge fl (s + n + 1) x h; omega
theorem frL_no (fl : List Nat) {s i : Nat} (h : i < s) : (frL fl s).any (Nat.beq i) = false := by
  cases hq : (frL fl s).any (Nat.beq i) with
  | false => rfl
  | true =>
    obtain ⟨x, h1, h2⟩ := List.any_eq_true.1 hq
    have := frL_ge fl s x h1
    have := Nat.eq_of_beq_eq_true h2
    omega
theorem WSeg.ex (hT : TOk P T) {arr : Array Oper} {K : Env → OL → Prop} : ∀ (fl : List Nat) (s : Nat) (ops : List Oper) (env : Env) (ol : OL), (∀ i, s ≤ i → fr i = (frL fl s).any (Nat.beq i)) → WSeg P T arr fl ops env ol K → Ex P T arr fr s ops env ol K
  | [], s, ops, env, ol, hf, h => by
    have := Ex.pre (r := []) hT ops s env ol (fun i h1 _ => by rw [hf i h1]; rfl) (K := K) (fr := fr) (arr := arr) (P := P) (T := T) h (fun _ _ h => Ex.nil h)
    rwa [List.append_nil] at this
  | n :: fl, s, ops, env, ol, hf, h => by
    have h : WOps P T arr (ops.take n) env ol (fun env' ol' => match ops.drop n with
      | o :: r => LoadC P T o env' (fun v => WSeg P T arr fl r (putE o.dst v env') ol' K)
      | [] => False) := h
    rcases Nat.lt_or_ge n ops.length with hn | hn
    · have hl : (ops.take n).length = n := by rw [List.length_take]; omega
      obtain ⟨o, r, hor⟩ : ∃ o r, ops.drop n = o :: r := by
        cases hq : ops.drop n with
        | nil => have := congrArg List.length hq; rw [List.length_drop, List.length_nil] at this; omega
        | cons o r => exact ⟨o, r, rfl⟩
      rw [hor] at h
      have hops : ops = ops.take n ++ (o :: r) := by rw [← hor, List.take_append_drop]
      rw [hops]
      refine Ex.pre hT (ops.take n) s env ol (fun i h1 h2 => ?_) h (fun env' ol' hh => ?_)
      · rw [hl] at h2
        rw [hf i h1]
        show (Nat.beq i (s + n) || (frL fl (s + n + 1)).any (Nat.beq i)) = false
        rw [frL_no fl (by omega), beq_ff (by omega)]; rfl
      · rw [hl]
        obtain ⟨v, hv, hs⟩ := LoadC.step hT (arr := arr) (ol := ol') hh
        have hfr : fr (s + n) = true := by
          rw [hf _ (by omega)]
          show (Nat.beq (s + n) (s + n) || _) = true
          rw [Nat.beq_refl]; rfl
        refine Ex.cons (v := v) (ol1 := ol') ?_ (WSeg.ex hT fl (s + n + 1) r _ _ (fun i hi => ?_) hv)
        · have : kdx fr (s + n) o = 0 := by unfold kdx; rw [hfr]; rfl
          rw [this]; exact hs
        · rw [hf i (by omega)]
          show (Nat.beq i (s + n) || _) = _
          rw [beq_ff (by omega)]; rfl
    · have e : ops.drop n = [] := List.drop_of_length_le hn
      rw [e] at h
      have := Ex.pre (r := []) hT (ops.take n) s env ol (fun i h1 h2 => ?_) (K := K) (fr := fr) (arr := arr) (P := P) (T := T) h (fun _ _ hh => hh.elim)
      · rwa [List.append_nil, List.take_of_length_le hn] at this
      · have : (ops.take n).length ≤ n := List.length_take_le _ _
        rw [hf i h1]
        show (Nat.beq i (s + n) || (frL fl (s + n + 1)).any (Nat.beq i)) = false
        rw [frL_no fl (by omega), beq_ff (by omega)]; rfl
theorem snd_drawX (hT : TOk P T) (hm : P.follows .mixedOrders = true) (fl : List Nat) {N id : Nat} {ol : OL} {Q : Exit → Env → OL → Prop} (hd : drawOkX ops (frF fl) = true) (hdst : dstOk N ops.toList = true)
    (h : WSeg P T ops fl ops.toList env ol (fun env' ol' => Q .normal env' ol')) : Snd P T N (.region id ops true) env ol Q := by
  intro X κ a w hP hTT hR hE hN hD
  obtain ⟨V, O, hO, hst, hK⟩ := WSeg.ex hT (fr := frF fl) fl 0 ops.toList env ol (fun i _ => rfl) h
  have hd := chkX_ok hd
  have ht : TrX P T ops (frF fl) env V O := ⟨fun k o hk => by have := hst k o (by rw [Array.getElem?_toList]; exact hk); rwa [Nat.zero_add] at this⟩
  have hDl : ∀ j, Dl (Array.replicate ops.size false) j = false := fun j => by
    simp only [Dl, Array.getD_eq_getD_getElem?, Array.getElem?_replicate]
    split <;> rfl
  have hM : MemX ops (frF fl) O (Dl (Array.replicate ops.size false)) ol.ob := by
    obtain ⟨e, q1, q2, q3, q4⟩ := nextAct ops (frF fl) ops.size 0 (by omega)
    rw [← hO]
    exact ⟨0, e, Mem1.start ht q1 q2 q3 q4 (fun i oi _ _ => by rw [hDl]; exact ⟨fun h => (by cases h), fun h => absurd h (Nat.not_lt_zero _)⟩) (fun i oi _ _ h => absurd h (Nat.not_lt_zero _)) (fun i oi _ _ _ => hDl i)⟩
  refine wp_region_any hm (draw_anyX hd ht hdst hP hTT (by rw [Array.length_toList] at hK; exact hK) _ _ a _ ?_ ⟨by simp, fun i oi _ hi => (by rw [hDl] at hi; cases hi), ⟨κ, ol.ob, hR.drew, fun t => ?_, hM⟩, hN, hD⟩)
  · unfold left
    exact Nat.le_trans (List.length_filter_le _ _) (by simp)
  · have e : Dl (Array.replicate ops.size false) = fun _ => false := funext hDl
    rw [e, envOf_none]
    exact hE t
section
variable {N : Nat} {id : Nat} {ol : OL} {Q : Exit → Env → OL → Prop}
theorem sdX (hT : TOk P T) (hm : P.follows .mixedOrders = true) (fl : List Nat) {y : Code} {env' : Env} {ol' : OL} (ho : drawOkX ops (frF fl) = true) (hd : dstOk N ops.toList = true)
    (h : ∀ R : Env → OL → Prop, R env' ol' → WSeg P T ops fl ops.toList env ol R) (hy : Snd P T N y env' ol' Q) : Snd P T N (.seq (.region id ops true) y) env ol Q :=
  snd_seq (snd_drawX hT hm fl ho hd (h _ hy))
theorem ldX (hT : TOk P T) (hm : P.follows .mixedOrders = true) (fl : List Nat) {env' : Env} {ol' : OL} (ho : drawOkX ops (frF fl) = true) (hd : dstOk N ops.toList = true)
    (h : ∀ R : Env → OL → Prop, R env' ol' → WSeg P T ops fl ops.toList env ol R) (hy : Q .normal env' ol') : Snd P T N (.region id ops true) env ol Q :=
  snd_drawX hT hm fl ho hd (h _ hy)
theorem wx_ldc {all : Array Oper} {fl : List Nat} {r : List Oper} {x : Operand} {t ty : TypeId} {d : Nat} {pos : String} {af : Array Edge} {K : Env → OL → Prop} {w v : AV} (hx : evE env x = .cptr w) (hk : (T.und t).known = true) (hv : HV w v) (hz : v.size = T.sz t) (ha : v.isAgg = (T.und t).isAgg)
    (hr : WSeg P T all fl r ((d, v) :: env) ol K) : LoadC P T ⟨some d, .load t x, ty, pos, af, none⟩ env (fun v => WSeg P T all fl r (putE (some d) v env) ol K) := by
  have := hv.eq; subst this
  exact ⟨rfl, t, x, _, rfl, hx, hk, hz, ha, hr⟩
end
end Go.Am

set_option linter.unusedVariables false
set_option linter.unusedSimpArgs false
namespace Go.Am
section
variable {P : Program} {T : TT} {N : Nat} {ks : List Nat} {env : Env} {ol : OL} {Q : Exit → Env → OL → Prop}
theorem srp (hT : TOk P T) {id : Nat} {ops : Array Oper} {y : Code} {env' : Env} {ol' : OL} (hd : dstOk N ops.toList = true)
    (h : ∀ R : Env → OL → Prop, R env' ol' → WOps P T ops ops.toList env ol R) (hy : Snp ks P T N y env' ol' Q) : Snp ks P T N (.seq (.region id ops false) y) env ol Q :=
  snp_seq (snp_region hT hd (h _ hy))
theorem lrp (hT : TOk P T) {id : Nat} {ops : Array Oper} {env' : Env} {ol' : OL} (hd : dstOk N ops.toList = true)
    (h : ∀ R : Env → OL → Prop, R env' ol' → WOps P T ops ops.toList env ol R) (hy : Q .normal env' ol') : Snp ks P T N (.region id ops false) env ol Q :=
  snp_region hT hd (h _ hy)
theorem sqp {c : Code} {env2 : Env} {ol2 : OL} (he : env = env2) (ho : ol = ol2) (h : Snp ks P T N c env2 ol2 Q) : Snp ks P T N c env ol Q := by
  subst he; subst ho; exact h
end
theorem rtp {T : TT} {ks : List Nat} {t : Nat} {env : Env} {ol H : OL} {r : AV} {ρ : Nat → Nat → Nat × Nat} (h : Emb ρ [(0, get env t)] ol [(0, r)] H) (hp : pins ks ρ H) : retQp ks T [.tmp t] r H .ret env ol := ⟨ρ, h, hp⟩
end Go.Am

set_option linter.unusedVariables false
set_option linter.unusedSimpArgs false
namespace Go.Am
theorem rt_own_u {T : TT} {env : Env} {ol : OL} {t s key n m e : Nat} {F G : Nat → AV} {sh : Nat → AV} {u : AV} (hx : get env t = .own key 0 n e) (hu : ∀ V, Mt V u (get env s)) (ho : ol.at_ key 0 = some (.arr n sh, .arr n G)) (hn : n = m) (hs : ∀ i, ssh (sh i) (F i)) (hf : ∀ V : Vw, ∀ i, i < m → Mt V (F i) (G i)) :
    retQ T [.tmp t, .tmp s] (.tup 2 (pairA (.own 0 0 m e) u)) [(0, .one (.arr m sh) (.arr m F))] .ret env ol := by
  subst hn
  refine ⟨fun _ _ => (key, 0), ⟨⟨rfl, fun i hi => ?_⟩, trivial⟩, ⟨?_, trivial⟩, ⟨⟨fun _ => ⟨rfl, rfl⟩, trivial⟩, trivial⟩⟩
  · match i, hi with
    | 0, _ =>
      show Mt _ (.own 0 0 n e) (get env t)
      rw [hx]
      exact ⟨rfl, rfl, rfl, rfl⟩
    | 1, _ => exact hu _
  · show (match ol.at_ key 0 with | some (sh', c') => _ | none => False)
    rw [ho]
    exact ⟨rfl, ⟨rfl, hs⟩, rfl, hf _⟩
theorem mt_row0 {at_ : Nat → Nat → Option (AV × AV)} {k e N : Nat} {sh : AV} {f : Nat → Int} (h : at_ k 0 = some (sh, C64 N f)) : Mt V0 (rowA N f) (exp at_ 4 (.own k 0 N e)) := by
  show Mt V0 _ (match at_ k 0 with | some (_, .arr m f) => AV.ro m (fun j => exp at_ 3 (f j)) | _ => .any)
  rw [h]
  exact ⟨rfl, fun j _ => rfl⟩
theorem mt_int0 {at_ : Nat → Nat → Option (AV × AV)} {k : IntKind} {x : Int} : Mt V0 (.int k x) (exp at_ 4 (.int k x)) := rfl
theorem mt_nil0 {at_ : Nat → Nat → Option (AV × AV)} {S : Nat → AV} : Mt V0 (.ro 0 S) (exp at_ 4 .nilsl) := rfl
end Go.Am

set_option linter.unusedVariables false
set_option linter.unusedSimpArgs false
namespace Go.Am
abbrev T3 := Nat → Nat → Nat → Int
end Go.Am

set_option linter.unusedVariables false
set_option linter.unusedSimpArgs false
namespace Go.Am
def apF (p : Int) (F : Nat → Nat → Int) (v : Nat → Int) : Nat → Nat → Int
  | 0 => fun _ => 0
  | i + 1 => addF p (apF p F v i) (F i) (v i)
def starP (p : Int) (n : Nat) (T : T3) (fo : Nat → Int) (F : Nat → Nat → Int) : Prop :=
  ∀ i, i < n → (eqN 6 (apF p F (F i) n) (eF i) ∧ formF p fo (F i) = fo i) ∧ ∀ j, j < n → eqN 6 (apF p F (T i j) n) (timesF p n T (F j) (F i))
noncomputable instance (p : Int) (n : Nat) (T : T3) (fo : Nat → Int) (F : Nat → Nat → Int) : Decidable (starP p n T fo F) := Classical.propDecidable _
def liP (p : Int) (n : Int) (M : Nat) (F : Nat → Nat → Int) : Prop := (M : Int) = n ∧ ∀ i, i < M → smP p n (F i)
noncomputable instance (p n : Int) (M : Nat) (F : Nat → Nat → Int) : Decidable (liP p n M F) := Classical.propDecidable _
end Go.Am

set_option linter.unusedVariables false
set_option linter.unusedSimpArgs false
namespace Go.Am
def parD (c : Int) : Int := if 48 ≤ c ∧ c ≤ 57 then c - 48 else if 97 ≤ c ∧ c ≤ 99 then c - 87 else -1
def rdD (s : ByteArray) (i : Nat) : Int := parD (byteAt s i)
def rdOk (s : ByteArray) (n : Nat) : Prop := s.size = n ∧ ∀ i, i < n → 0 ≤ rdD s i
noncomputable instance (s : ByteArray) (n : Nat) : Decidable (rdOk s n) := Classical.propDecidable _
def rdF (s : ByteArray) (n : Nat) : Nat → Int := fun i => if i < n ∧ 0 ≤ rdD s i then rdD s i else 0
def rdV (p : Int) (n : Nat) (s : ByteArray) : Prop := rdOk s n ∧ smP p (n : Int) (rdF s n)
noncomputable instance (p : Int) (n : Nat) (s : ByteArray) : Decidable (rdV p n s) := Classical.propDecidable _
end Go.Am

set_option linter.unusedVariables false
set_option linter.unusedSimpArgs false
namespace Go.Am
section
variable {p : Int} {n : Nat} {A : Nat → Nat → Int}
end
section
variable {n i j r : Nat}
end
end Go.Am

set_option linter.unusedVariables false
set_option linter.unusedSimpArgs false
namespace Go.Am
def lk : List (Nat × Nat) → Nat → Nat
  | [], k => k
  | (a, b) :: r, k => bif Nat.beq k a then b else lk r k
def ρL (m : List (Nat × Nat)) (kg c s : Nat) : Nat → Nat → Nat × Nat := fun k i => bif Nat.beq k kg && Nat.beq i c then (s, 0) else (lk m k, i)
def keysOf : OL → List Nat
  | [] => []
  | (k, _) :: r => k :: keysOf r
def okL (m : List (Nat × Nat)) (s : Nat) (ks : List Nat) : Bool := ks.all fun a => !Nat.beq (lk m a) s && ks.all fun b => Nat.beq a b || !Nat.beq (lk m a) (lk m b)
theorem liveAll_keys {P : Nat → Nat → AV → AV → Prop} : ∀ {ol : OL}, (∀ k i sh c, k ∈ keysOf ol → P k i sh c) → liveAll P ol
  | [], _ => trivial
  | (k, .one sh c) :: r, h => ⟨h k 0 sh c (by simp [keysOf]), liveAll_keys (fun k i sh c hk => h k i sh c (by simp [keysOf, hk]))⟩
  | (k, .many f) :: r, h => ⟨fun i sh c _ => h k i sh c (by simp [keysOf]), liveAll_keys (fun k i sh c hk => h k i sh c (by simp [keysOf, hk]))⟩
  | (k, .gone) :: r, h => liveAll_keys (ol := r) (fun k i sh c hk => h k i sh c (by simp [keysOf, hk]))
theorem emb_L {m : List (Nat × Nat)} {kg c s : Nat} {env' env : Env} {ol' ol : OL} (hk : okL m s (keysOf ol) = true) (henv : envAll (fun t v => MtE (vwOf (ρL m kg c s) ol' ol) v (get env' t)) env)
    (hlive : liveAll (fun k i sh c_1 => match ol'.at_ (ρL m kg c s k i).1 (ρL m kg c s k i).2 with | some (sh', c') => sh' = sh ∧ ssh sh c_1 ∧ Mt (vwOf (ρL m kg c s) ol' ol) c_1 c' | none => False) ol) : Emb (ρL m kg c s) env' ol' env ol := by
  refine ⟨henv, hlive, liveAll_keys (fun k i _ _ hki => liveAll_keys (fun k2 i2 _ _ hk2 he => ?_))⟩
  simp only [okL, List.all_eq_true, Bool.and_eq_true, Bool.or_eq_true, Bool.not_eq_true'] at hk
  have ha := hk k hki
  have hb := hk k2 hk2
  unfold ρL at he
  cases h1 : (Nat.beq k kg && Nat.beq i c) <;> cases h2 : (Nat.beq k2 kg && Nat.beq i2 c) <;> rw [h1, h2] at he <;> simp only [cond_true, cond_false, Prod.mk.injEq] at he
  · refine ⟨?_, he.2⟩
    rcases ha.2 k2 hk2 with h | h
    · exact Nat.eq_of_beq_eq_true h
    · rw [he.1, Nat.beq_refl] at h; cases h
  · have := ha.1
    rw [he.1, Nat.beq_refl] at this; cases this
  · have := hb.1
    rw [← he.1, Nat.beq_refl] at this; cases this
  · simp only [Bool.and_eq_true] at h1 h2
    exact ⟨(Nat.eq_of_beq_eq_true h1.1).trans (Nat.eq_of_beq_eq_true h2.1).symm, (Nat.eq_of_beq_eq_true h1.2).trans (Nat.eq_of_beq_eq_true h2.2).symm⟩
theorem ρL_ne {m : List (Nat × Nat)} {kg c s k i : Nat} (h : k ≠ kg ∨ i ≠ c) : ρL m kg c s k i = (lk m k, i) := by
  unfold ρL
  rcases h with h | h
  · rw [beq_ff h]; rfl
  · rw [beq_ff h, Bool.and_false]; rfl
theorem ρL_eq {m : List (Nat × Nat)} {kg c s : Nat} : ρL m kg c s kg c = (s, 0) := by
  unfold ρL
  rw [Nat.beq_refl, Nat.beq_refl]; rfl
end Go.Am

set_option linter.unusedVariables false
set_option linter.unusedSimpArgs false
namespace Go.Am
section
variable {p : Int} {n : Nat} {A : Nat → Nat → Int} {b : Nat → Int}
end
end Go.Am

set_option linter.unusedVariables false
set_option linter.unusedSimpArgs false
namespace Go.Am
section
variable {p : Int} {C W : Nat → Nat → Int} {i k l r z n : Nat}
end
end Go.Am

set_option linter.unusedVariables false
set_option linter.unusedSimpArgs false
namespace Go.Am
section
variable {p : Int} {m no c i z : Nat} {O : Nat → Nat → Int} {l : Nat → Nat}
end
end Go.Am

set_option linter.unusedVariables false
set_option linter.unusedSimpArgs false
namespace Go.Am
end Go.Am

set_option linter.unusedVariables false
set_option linter.unusedSimpArgs false
namespace Go.Am
section
variable {p : Int} {n : Nat} {A : Nat → Nat → Int}
end
def prF (p n : Int) (T : Nat → Nat → Nat → Int) (fo : Nat → Int) (q m : Int) (S : Nat → Nat → Nat → Int) (go : Nat → Int) (Y : Nat → Nat → Int) : Nat → AV
  | 0 => algA p n T fo
  | 1 => algA q m S go
  | 2 => matA Y
  | _ => .any
abbrev prA (p n : Int) (T : Nat → Nat → Nat → Int) (fo : Nat → Int) (q m : Int) (S : Nat → Nat → Nat → Int) (go : Nat → Int) (Y : Nat → Nat → Int) : AV := .sct 3 (prF p n T fo q m S go Y)
section
variable {p n q m p' n' q' m' : Int} {T S T' S' : Nat → Nat → Nat → Int} {fo go fo' go' : Nat → Int} {Y Y' : Nat → Nat → Int} {V : Vw}
theorem ssh_pr : ssh (prA p n T fo q m S go Y) (prA p' n' T' fo' q' m' S' go' Y') := by
  refine ⟨rfl, fun i => ?_⟩
  match i with
  | 0 => exact ssh_alg
  | 1 => exact ssh_alg
  | 2 => exact ssh_mat
  | n + 3 => exact trivial
theorem prF_congr {f : Nat → AV} (h0 : f 0 = algA p n T fo) (h1 : f 1 = algA q m S go) (h2 : f 2 = matA Y) (h4 : ∀ i, f (i + 3) = .any) : AV.sct 3 f = prA p n T fo q m S go Y := by
  refine congrArg (AV.sct 3) (funext fun i => ?_)
  match i with
  | 0 => exact h0
  | 1 => exact h1
  | 2 => exact h2
  | i + 3 => exact h4 i
theorem put_pr0 : put (prA p n T fo q m S go Y) [0] (algA p' n' T' fo') = prA p' n' T' fo' q m S go Y := prF_congr put_nil rfl rfl (fun _ => rfl)
theorem put_pr1 : put (prA p n T fo q m S go Y) [1] (algA p' n' T' fo') = prA p n T fo p' n' T' fo' Y := prF_congr rfl put_nil rfl (fun _ => rfl)
theorem put_pr2 : put (prA p n T fo q m S go Y) [2] (matA Y') = prA p n T fo q m S go Y' := prF_congr rfl rfl put_nil (fun _ => rfl)
variable {at_ : Nat → Nat → Option (AV × AV)} {d : Nat}
end
section
variable {z : Nat → Int}
end
section
variable {p : Int} {n m : Nat} {T S : Nat → Nat → Nat → Int} {fo go : Nat → Int} {Y : Nat → Nat → Int}
def zvP (p : Int) (n m : Nat) (Y : Nat → Nat → Int) (i : Nat) : Prop := smP p (m : Int) (Y i) ∧ (n ≤ i → eqN 6 (Y i) (fun _ => 0))
def prS (p : Int) (n m : Nat) (T S : Nat → Nat → Nat → Int) (Y : Nat → Nat → Int) : Prop :=
  ((∀ i, i < 6 → zvP p n m Y i) ∧ ∀ i, i < n → (∀ j, j < n → eqN 6 (apF p Y (T i j) n) (timesF p m S (Y i) (Y j))) ∧ ∀ j, j < m → eqN 6 (timesF p m S (Y i) (eF j)) (timesF p m S (eF j) (Y i))) ∧ eqN 6 (apF p Y (uF p n T) n) (uF p m S)
def prI (p : Int) (n m : Nat) (T S : Nat → Nat → Nat → Int) (Y : Nat → Nat → Int) : Prop :=
  (∀ i, i < 6 → (zvP p n m Y i ∧ ∀ j, j < m → eqN 6 (timesF p m S (Y i) (eF j)) (timesF p m S (eF j) (Y i))) ∧ ∀ j, j < 6 → eqN 6 (apF p Y (T i j) 6) (timesF p m S (Y i) (Y j))) ∧ eqN 6 (apF p Y (uF p n T) 6) (uF p m S)
noncomputable instance {i : Nat} : Decidable (zvP p n m Y i) := Classical.propDecidable _
noncomputable instance : Decidable (prS p n m T S Y) := Classical.propDecidable _
noncomputable instance : Decidable (prI p n m T S Y) := Classical.propDecidable _
theorem uF_z {i : Nat} (h : n ≤ i) : uF p n T i = 0 := by
  unfold uF
  split
  · unfold cutF; rw [if_neg (by omega)]
  · rfl
end
end Go.Am

set_option linter.unusedVariables false
set_option linter.unusedSimpArgs false
namespace Go.Am
end Go.Am

set_option linter.unusedVariables false
set_option linter.unusedSimpArgs false
namespace Go.Am
structure PN (p : Int) (n : Nat) (T : Nat → Nat → Nat → Int) (fo : Nat → Int) (m : Nat) (S : Nat → Nat → Nat → Int) (go : Nat → Int) (Y : Nat → Nat → Int) : Prop where
  v : VN p n T fo
  w : VN p m S go
  c : comN n T
  r : rankT p n T fo = n
  s : rankT p m S go = m
  y : symA m (formT p S go)
  z : prS p n m T S Y
def PR (p n : Int) (T : Nat → Nat → Nat → Int) (fo : Nat → Int) (q m : Int) (S : Nat → Nat → Nat → Int) (go : Nat → Int) (Y : Nat → Nat → Int) : Prop :=
  ∃ a b : Nat, n = (a : Int) ∧ m = (b : Int) ∧ q = p ∧ PN p a T fo b S go Y
noncomputable instance {p n : Int} {T : Nat → Nat → Nat → Int} {fo : Nat → Int} {q m : Int} {S : Nat → Nat → Nat → Int} {go : Nat → Int} {Y : Nat → Nat → Int} : Decidable (PR p n T fo q m S go Y) := Classical.propDecidable _
section
variable {p n q m : Int} {T S : Nat → Nat → Nat → Int} {fo go : Nat → Int} {Y : Nat → Nat → Int}
end
end Go.Am
namespace Go.Am
end Go.Am

set_option linter.unusedVariables false
set_option linter.unusedSimpArgs false
namespace Go.Am
section
variable {p : Int} {n : Nat} {C : Nat → Nat → Int} {o : Nat → Int}
end
end Go.Am
namespace Go.Am
end Go.Am

set_option linter.unusedVariables false
set_option linter.unusedSimpArgs false
namespace Go.Am
def tnF (p n i o : Int) (s : AV) : Nat → AV
  | 0 => .int .i64 p
  | 1 => .int .i64 n
  | 2 => .int .i64 i
  | 3 => .int .i64 o
  | 4 => s
  | _ => .any
abbrev tnA (p n i o : Int) (s : AV) : AV := .sct 5 (tnF p n i o s)
section
variable {p n i o p' n' i' o' : Int} {s s' : AV} {V : Vw}
theorem sshTn (h : ssh s s') : ssh (tnA p n i o s) (tnA p' n' i' o' s') := by
  refine ⟨rfl, fun k => ?_⟩
  match k with
  | 0 => exact trivial
  | 1 => exact trivial
  | 2 => exact trivial
  | 3 => exact trivial
  | 4 => exact h
  | k + 5 => exact trivial
theorem tnF_congr {f : Nat → AV} (h0 : f 0 = .int .i64 p) (h1 : f 1 = .int .i64 n) (h2 : f 2 = .int .i64 i) (h3 : f 3 = .int .i64 o) (h : f 4 = s) (h5 : ∀ k, f (k + 5) = .any) : AV.sct 5 f = tnA p n i o s := by
  refine congrArg (AV.sct 5) (funext fun k => ?_)
  match k with
  | 0 => exact h0
  | 1 => exact h1
  | 2 => exact h2
  | 3 => exact h3
  | 4 => exact h
  | k + 5 => exact h5 k
theorem put_tn4 : put (tnA p n i o s) [4] s' = tnA p n i o s' := tnF_congr rfl rfl rfl rfl put_nil (fun _ => rfl)
end
end Go.Am

set_option linter.unusedVariables false
set_option linter.unusedSimpArgs false
namespace Go.Am
end Go.Am
namespace Go.Am
end Go.Am

set_option linter.unusedVariables false
set_option linter.unusedSimpArgs false
namespace Go.Am
section
variable {p : Int} {n : Nat} {T : Nat → Nat → Nat → Int} {fo : Nat → Int}
theorem pz_zero_l (v : Nat → Int) (k : Nat) : pz n T (fun _ => 0) v k = 0 := by
  unfold pz
  rw [sumZ_congr (g := fun _ => 0) n (fun i _ => by rw [sumZ_congr (g := fun _ => 0) n (fun j _ => by rw [Int.zero_mul, Int.zero_mul]), sumZ_zero]), sumZ_zero]
noncomputable def pw (p : Int) (n : Nat) (T : Nat → Nat → Nat → Int) (v : Nat → Int) (k : Nat) : Nat → Int := powV p n T (uF p n T) v k
theorem pw_VV (h : VN p n T fo) (v : Nat → Int) : ∀ k, VV p n (pw p n T v k)
  | 0 => ⟨h.u_Bp, fun k hk => uF_z hk⟩
  | k + 1 => VV.times h.pp
def lc (p : Int) (c : Nat → Int) (w : Nat → Nat → Int) : Nat → Nat → Int
  | 0 => fun _ => 0
  | m + 1 => addF p (lc p c w m) (w m) (c m)
theorem dep_ex (hp : primeB p = true) {N m : Nat} (hNm : N < m) {R : Nat → Nat → Int} (hR : ∀ i, i < N → Bp p (R i)) : ∃ (x : Nat → Int) (c : Nat), c < m ∧ x c = 1 ∧ Null p m N R x := by
  obtain ⟨⟨l, rr⟩, hn⟩ := red_ok (m := m) hp hR
  have hle := (red_le (p := p) (m := m) (n := N) (R := R)).2
  obtain ⟨c, hc, hcl⟩ : ∃ c, c < m ∧ ¬ IsL (redGo p N R m).no l c := by
    apply Classical.byContradiction
    intro hall
    have hall : ∀ c, c < m → IsL (redGo p N R m).no l c := fun c hc => Classical.byContradiction fun h => hall ⟨c, hc, h⟩
    have := (inc_eq (n := (redGo p N R m).no) (n' := m) (l := l) (l' := fun i => i) rr.inc (fun i j h _ => h) (fun i hi => ⟨l i, (rr.lead i hi).1, rfl⟩) (fun c hc => hall c hc)).1
    omega
  exact ⟨solC (redGo p N R m).no (redGo p N R m).O l c, c, hc, solC_self _ _ _ _, (hn _).1 (solC_null rr hc hcl)⟩
theorem cancel (hp : primeB p = true) {c y : Int} (hc : ¬ p ∣ c) (h : p ∣ c * y) : p ∣ y := by
  have hpb := primeB_bd hp
  have hm : 0 < c % p := by
    have h1 := Int.emod_nonneg c (show p ≠ 0 by omega)
    have h2 : c % p ≠ 0 := fun e => hc (Int.dvd_of_emod_eq_zero e)
    omega
  have hi := (inv_ok hp hm (Int.emod_lt_of_pos c (by omega))).2
  have h1 : p ∣ invF p (c % p) * c - 1 := by
    have h2 : p ∣ invF p (c % p) * (c % p) - 1 := by
      refine ⟨invF p (c % p) * (c % p) / p, ?_⟩
      have e := Int.emod_add_mul_ediv (invF p (c % p) * (c % p)) p
      rw [hi] at e
      omega
    exact dvd_tr (mul_dvd (dvd_rf rfl) (dvd_sy (dvd_mod p c))) h2
  have h3 := mul_dvd h1 (dvd_rf (p := p) (a := y) rfl)
  rw [Int.one_mul, Int.mul_assoc] at h3
  have h4 : p ∣ invF p (c % p) * (c * y) := Int.dvd_mul_of_dvd_right h
  have := Int.dvd_sub h4 h3
  rwa [show invF p (c % p) * (c * y) - (invF p (c % p) * (c * y) - y) = y by omega] at this
end
end Go.Am

set_option linter.unusedVariables false
set_option linter.unusedSimpArgs false
namespace Go.Am
section
variable {p : Int} {n : Nat} {T : Nat → Nat → Nat → Int} {fo : Nat → Int}
theorem VN.P (h : VN p n T fo) : p = ((p.toNat : Nat) : Int) := by have := h.p0; omega
end
end Go.Am
namespace Go.Am
end Go.Am

set_option linter.unusedVariables false
set_option linter.unusedSimpArgs false
namespace Go.Am
section
variable {p : Int} {n : Nat} {T : Nat → Nat → Nat → Int} {fo : Nat → Int}
end
end Go.Am

set_option linter.unusedVariables false
set_option linter.unusedSimpArgs false
namespace Go.Am
section
variable {p : Int} {n : Nat} {T : Nat → Nat → Nat → Int} {fo : Nat → Int}
end
end Go.Am

set_option linter.unusedVariables false
set_option linter.unusedSimpArgs false
namespace Go.Am
section
variable {p : Int} {n : Nat} {T : Nat → Nat → Nat → Int} {fo : Nat → Int}
noncomputable def mpS (p : Int) (n : Nat) (T : Nat → Nat → Nat → Int) (v : Nat → Int) (k j : Nat) : Int := pw p n T v j k
noncomputable def mpI (p : Int) (n : Nat) (T : Nat → Nat → Nat → Int) (v : Nat → Int) (m k j : Nat) : Int := if j < m then pw p n T v j k else (- pw p n T v j k) % p
theorem mpS_Bp (h : VN p n T fo) (v : Nat → Int) (k : Nat) : Bp p (mpS p n T v k) := fun j => (pw_VV h v j).b k
theorem mpI_Bp (h : VN p n T fo) (v : Nat → Int) (m k : Nat) : Bp p (mpI p n T v m k) := fun j => by
  unfold mpI; split
  · exact (pw_VV h v j).b k
  · have := h.pp; exact ⟨Int.emod_nonneg _ (by omega), Int.emod_lt_of_pos _ this⟩
def indP (p : Int) (n : Nat) (T : Nat → Nat → Nat → Int) (v : Nat → Int) (m : Nat) : Prop := ∀ x, Null p m n (mpS p n T v) x → ∀ j, j < m → p ∣ x j
theorem ind_1 (h : VN p n T fo) {v : Nat → Int} (hv : VV p n v) : indP p n T v 1 := fun x hx j hj => by
  obtain rfl : j = 0 := by omega
  have hpb := primeB_bd h.hp
  apply Classical.byContradiction
  intro hno
  have hz : ∀ k, k < n → p ∣ uF p n T k := fun k hk => by
    have h1 : p ∣ 0 + pw p n T v 0 k * x 0 := hx k hk
    rw [Int.zero_add, Int.mul_comm] at h1
    exact cancel h.hp hno h1
  have h0 : uF p n T = fun _ => 0 := VV.ext (pw_VV h v 0) (VV.zero h.pp) (fun k hk => by rw [Int.sub_zero]; exact hz k hk)
  have he : timesF p n T (uF p n T) (eF 0) = eF 0 := h.one_l (VV.eF (by omega) h.n0)
  have e2 := congrFun he 0
  rw [h0, times_pz h.n0, pz_zero_l, eF_dl] at e2
  simp [dl] at e2
theorem ind_no (h : VN p n T fo) (v : Nat → Int) : ¬ indP p n T v (n + 1) := fun hi => by
  have hpb := primeB_bd h.hp
  obtain ⟨x, c, hc, hxc, hx⟩ := dep_ex h.hp (Nat.lt_succ_self n) (R := mpS p n T v) (fun i _ => mpS_Bp h v i)
  have := hi x hx c hc
  rw [hxc] at this
  have := Int.le_of_dvd (by omega) this
  omega
theorem dot_less_m {m m' : Nat} (hm : m' ≤ m) {f x : Nat → Int} (hz : ∀ j, j < m → m' ≤ j → p ∣ x j) : p ∣ dot m f x - dot m' f x := by
  induction m with
  | zero => obtain rfl : m' = 0 := by omega
            exact dvd_rf rfl
  | succ m ih =>
    rcases Nat.lt_or_ge m m' with h | h
    · obtain rfl : m' = m + 1 := by omega
      exact dvd_rf rfl
    · have h1 := ih h (fun j hj => hz j (by omega))
      have h2 : p ∣ f m * x m := Int.dvd_mul_of_dvd_right (hz m (by omega) h)
      have := Int.dvd_add h1 h2
      rwa [show dot m f x - dot m' f x + f m * x m = dot (m + 1) f x - dot m' f x by show _ = (dot m f x + f m * x m) - _; omega] at this
theorem ind_down {v : Nat → Int} {m m' : Nat} (hm : m' ≤ m) (h : indP p n T v m) : indP p n T v m' := fun x hx j hj => by
  have h1 : Null p m n (mpS p n T v) (fun j => if j < m' then x j else 0) := fun k hk => by
    have h2 : p ∣ dot m (mpS p n T v k) (fun j => if j < m' then x j else 0) - dot m' (mpS p n T v k) (fun j => if j < m' then x j else 0) := dot_less_m hm (fun j _ hj => by rw [if_neg (by omega)]; exact Int.dvd_zero p)
    have h3 : dot m' (mpS p n T v k) (fun j => if j < m' then x j else 0) = dot m' (mpS p n T v k) x := sumZ_congr m' (fun j hj => by show _ * (if j < m' then x j else 0) = _; rw [if_pos hj])
    rw [h3] at h2
    have := Int.dvd_add h2 (hx k hk)
    rwa [Int.sub_add_cancel] at this
  have := h _ h1 j (by omega)
  rwa [if_pos hj] at this
theorem ind_uniq {v : Nat → Int} {m : Nat} (h : indP p n T v m) {x y : Nat → Int} (hx : Sol p m n (mpS p n T v) x) (hy : Sol p m n (mpS p n T v) y) : cg p m y x := fun j hj => by
  refine h (fun j => y j - x j) (fun k hk => ?_) j hj
  have h1 := Int.dvd_sub (hy k hk) (hx k hk)
  have e : dot m (mpS p n T v k) (fun j => y j - x j) = dot m (mpS p n T v k) y - dot m (mpS p n T v k) x := by
    have := sumZ_add (fun j => mpS p n T v k j * (y j - x j)) (fun j => mpS p n T v k j * x j) m
    rw [sumZ_congr (f := fun j => mpS p n T v k j * (y j - x j) + mpS p n T v k j * x j) (g := fun j => mpS p n T v k j * y j) m (fun j _ => by rw [← Int.mul_add, Int.sub_add_cancel])] at this
    show sumZ (fun j => mpS p n T v k j * (y j - x j)) m = sumZ (fun j => mpS p n T v k j * y j) m - sumZ (fun j => mpS p n T v k j * x j) m
    omega
  unfold Z
  rw [e]
  rwa [show dot m (mpS p n T v k) y - mpS p n T v k m - (dot m (mpS p n T v k) x - mpS p n T v k m) = dot m (mpS p n T v k) y - dot m (mpS p n T v k) x by omega] at h1
theorem ind_sol (hp : 1 < p) {v : Nat → Int} {m : Nat} (h : indP p n T v (m + 1)) {x : Nat → Int} : ¬ Sol p m n (mpS p n T v) x := fun hx => by
  have := h _ (sol_null.1 hx) m (by omega)
  unfold extF at this
  rw [if_neg (Nat.lt_irrefl m)] at this
  have h1 : p ∣ 1 := by have := Int.dvd_neg.2 this; simpa using this
  have := Int.le_of_dvd (by omega) h1
  omega
theorem sol_ex (hp : primeB p = true) {v : Nat → Int} {m : Nat} (h : indP p n T v m) (h' : ¬ indP p n T v (m + 1)) : ∃ x, Sol p m n (mpS p n T v) x := by
  have hpb := primeB_bd hp
  obtain ⟨x, hx, j, hj, hn⟩ : ∃ x, Null p (m + 1) n (mpS p n T v) x ∧ ∃ j, j < m + 1 ∧ ¬ p ∣ x j := by
    apply Classical.byContradiction
    intro hno
    exact h' (fun x hx j hj => Classical.byContradiction fun hd => hno ⟨x, hx, j, hj, hd⟩)
  have hm : ¬ p ∣ x m := fun hd => by
    have h1 : Null p m n (mpS p n T v) x := fun k hk => by
      have h2 : p ∣ dot (m + 1) (mpS p n T v k) x - dot m (mpS p n T v k) x := dot_less_m (Nat.le_succ m) (fun i hi hi2 => (show i = m by omega) ▸ hd)
      have := Int.dvd_sub (hx k hk) h2
      rwa [show dot (m + 1) (mpS p n T v k) x - (dot (m + 1) (mpS p n T v k) x - dot m (mpS p n T v k) x) = dot m (mpS p n T v k) x by omega] at this
    rcases Nat.lt_or_ge j m with hj2 | hj2
    · exact hn (h x h1 j hj2)
    · obtain rfl : j = m := by omega
      exact hn hd
  have hr : 0 < x m % p := by
    have h1 := Int.emod_nonneg (x m) (show p ≠ 0 by omega)
    have h2 : x m % p ≠ 0 := fun e => hm (Int.dvd_of_emod_eq_zero e)
    omega
  have hinv := inv_dvd hp hr (Int.emod_lt_of_pos (x m) (by omega))
  generalize invF p (x m % p) = q at hinv
  have hq : p ∣ q * x m - 1 := dvd_tr (mul_dvd (dvd_rf rfl) (dvd_sy (dvd_mod p (x m)))) hinv
  refine ⟨fun j => (- q) * x j, fun k hk => ?_⟩
  have h1 : p ∣ (- q) * (dot m (mpS p n T v k) x + mpS p n T v k m * x m) := Int.dvd_mul_of_dvd_right (hx k hk)
  have h2 : p ∣ mpS p n T v k m * (q * x m - 1) := Int.dvd_mul_of_dvd_right hq
  have h3 := Int.dvd_add h1 h2
  have e : dot m (mpS p n T v k) (fun j => (- q) * x j) = (- q) * dot m (mpS p n T v k) x := by
    unfold dot
    rw [← sumZ_mul]
    exact sumZ_congr m (fun j _ => by rw [Int.mul_left_comm])
  rw [e]
  rwa [show (- q) * (dot m (mpS p n T v k) x + mpS p n T v k m * x m) + mpS p n T v k m * (q * x m - 1) = (- q) * dot m (mpS p n T v k) x - mpS p n T v k m by
    rw [Int.mul_add, Int.mul_sub, Int.mul_one, Int.neg_mul q (mpS p n T v k m * x m), Int.mul_left_comm q]; omega] at h3
theorem mp_deg (h : VN p n T fo) {v : Nat → Int} (hv : VV p n v) : ∃ D, 1 ≤ D ∧ D ≤ n ∧ indP p n T v D ∧ ¬ indP p n T v (D + 1) := by
  have key : ∀ m, 1 ≤ m → ¬ indP p n T v (m + 1) → ∃ D, 1 ≤ D ∧ D ≤ m ∧ indP p n T v D ∧ ¬ indP p n T v (D + 1) := by
    intro m
    induction m with
    | zero => intro h1; omega
    | succ m ih =>
      intro h1 h2
      by_cases h3 : indP p n T v (m + 1)
      · exact ⟨m + 1, h1, Nat.le_refl _, h3, h2⟩
      · rcases Nat.eq_zero_or_pos m with rfl | hm
        · exact absurd (ind_1 h hv) h3
        · obtain ⟨D, q1, q2, q3⟩ := ih hm h3
          exact ⟨D, q1, by omega, q3⟩
  exact key n h.n0 (ind_no h v)
theorem mpI_sol {v : Nat → Int} {m : Nat} {x : Nat → Int} : Sol p m n (mpI p n T v m) x ↔ Sol p m n (mpS p n T v) (fun j => - x j) := by
  have e : ∀ k, dot m (mpI p n T v m k) x = - dot m (mpS p n T v k) (fun j => - x j) := fun k => by
    have h2 := sumZ_add (fun j => mpS p n T v k j * x j) (fun j => mpS p n T v k j * (- x j)) m
    rw [sumZ_congr (f := fun j => mpS p n T v k j * x j + mpS p n T v k j * (- x j)) (g := fun _ => 0) m (fun j _ => by rw [← Int.mul_add, Int.add_right_neg, Int.mul_zero]), sumZ_zero] at h2
    have h1 : dot m (mpI p n T v m k) x = sumZ (fun j => mpS p n T v k j * x j) m := sumZ_congr m (fun j hj => by unfold mpI; rw [if_pos hj]; rfl)
    rw [h1]
    show _ = - sumZ (fun j => mpS p n T v k j * (- x j)) m
    omega
  have e2 : ∀ k, p ∣ mpI p n T v m k m - (- mpS p n T v k m) := fun k => by unfold mpI; rw [if_neg (Nat.lt_irrefl m)]; exact dvd_mod p _
  constructor
  · intro h k hk
    have h1 := h k hk
    rw [e k] at h1
    have := Int.dvd_neg.2 (Int.dvd_add h1 (e2 k))
    rwa [show -(- dot m (mpS p n T v k) (fun j => - x j) - mpI p n T v m k m + (mpI p n T v m k m - - mpS p n T v k m)) = dot m (mpS p n T v k) (fun j => - x j) - mpS p n T v k m by omega] at this
  · intro h k hk
    rw [e k]
    have := Int.dvd_neg.2 (Int.dvd_add (h k hk) (e2 k))
    rwa [show -(dot m (mpS p n T v k) (fun j => - x j) - mpS p n T v k m + (mpI p n T v m k m - - mpS p n T v k m)) = - dot m (mpS p n T v k) (fun j => - x j) - mpI p n T v m k m by omega] at this
structure MPd (p : Int) (n : Nat) (T : Nat → Nat → Nat → Int) (v : Nat → Int) (D : Nat) : Prop where
  d1 : 1 ≤ D
  dn : D ≤ n
  sy : oneP D (echGo p (D + 1) (mpS p n T v) n).no (echGo p (D + 1) (mpS p n T v) n).O
  sn : ∀ m, m < D → ¬ oneP m (echGo p (m + 1) (mpS p n T v) n).no (echGo p (m + 1) (mpS p n T v) n).O
  iy : conP D (redGo p n (mpI p n T v D) (D + 1)).no (redGo p n (mpI p n T v D) (D + 1)).O
  i_n : ∀ m, m < D → ¬ conP m (redGo p n (mpI p n T v m) (m + 1)).no (redGo p n (mpI p n T v m) (m + 1)).O
  out : ∀ a, a < D → solGo D (redGo p n (mpI p n T v D) (D + 1)).O (redGo p n (mpI p n T v D) (D + 1)).no a = (- (echGo p (D + 1) (mpS p n T v) n).O a D) % p
theorem mp_ex (h : VN p n T fo) {v : Nat → Int} (hv : VV p n v) : ∃ D, MPd p n T v D := by
  have hpb := primeB_bd h.hp
  obtain ⟨D, d1, d2, d3, d4⟩ := mp_deg h hv
  obtain ⟨x, hx⟩ := sol_ex h.hp d3 d4
  have sy : oS p D n (mpS p n T v) := oS_of h.hp (mpS_Bp h v) hx (fun y hy => ind_uniq d3 hx hy)
  have hno : ∀ m, m < D → ∀ x, ¬ Sol p m n (mpS p n T v) x := fun m hm x => ind_sol (by omega) (ind_down (show m + 1 ≤ D by omega) d3)
  have rd := fun m => red_ok (m := m + 1) (n := n) (R := mpI p n T v m) h.hp (fun i _ => mpI_Bp h v m i)
  have hs : ∀ m y, Sol p m (redGo p n (mpI p n T v m) (m + 1)).no (redGo p n (mpI p n T v m) (m + 1)).O y ↔ Sol p m n (mpI p n T v m) y := fun m y => by rw [sol_null, sol_null]; exact (rd m).2 _
  have iy : conP D (redGo p n (mpI p n T v D) (D + 1)).no (redGo p n (mpI p n T v D) (D + 1)).O := by
    obtain ⟨⟨l, rr⟩, _⟩ := rd D
    refine con_of_sol (by omega) rr (u := fun j => - x j) ((hs D _).2 (mpI_sol.2 ?_))
    have : (fun j => - - x j) = x := by funext j; omega
    rw [this]; exact hx
  refine ⟨D, d1, d2, sy, fun m hm ho => hno m hm _ (oS_sol h.hp (mpS_Bp h v) ho).1, iy, fun m hm hc => ?_, fun a ha => ?_⟩
  · obtain ⟨⟨l, rr⟩, _⟩ := rd m
    exact hno m hm _ (mpI_sol.1 ((hs m _).1 (sol_of_con rr hc)))
  · obtain ⟨⟨l, rr⟩, _⟩ := rd D
    have h1 := mpI_sol.1 ((hs D _).1 (sol_of_con rr iy))
    have h2 := (oS_sol h.hp (mpS_Bp h v) sy).2.2 _ h1 a ha
    have e : sS p D n (mpS p n T v) a = (echGo p (D + 1) (mpS p n T v) n).O a D := by unfold sS cutF; rw [if_pos ha]
    rw [e] at h2
    refine eq_of_dvd (solGo_Bp h.pp rr _ (Nat.le_refl _) a) ⟨Int.emod_nonneg _ (by omega), Int.emod_lt_of_pos _ h.pp⟩ ?_
    refine dvd_tr ?_ (dvd_sy (dvd_mod p _))
    have := Int.dvd_neg.2 h2
    rwa [show -(- solGo D (redGo p n (mpI p n T v D) (D + 1)).O (redGo p n (mpI p n T v D) (D + 1)).no a - (echGo p (D + 1) (mpS p n T v) n).O a D) = solGo D (redGo p n (mpI p n T v D) (D + 1)).O (redGo p n (mpI p n T v D) (D + 1)).no a - (- (echGo p (D + 1) (mpS p n T v) n).O a D) by omega] at this
end
end Go.Am

set_option linter.unusedVariables false
set_option linter.unusedSimpArgs false
namespace Go.Am
def entQ (n : Nat) (G : Nat → Nat → Nat) (i j : Nat) : Prop := if i < n ∧ j < n then G i j < n else G i j = 0
instance (n : Nat) (G : Nat → Nat → Nat) (i j : Nat) : Decidable (entQ n G i j) := by unfold entQ; exact inferInstance
def entP (n : Nat) (G : Nat → Nat → Nat) : Prop := ∀ i, i < 6 → ∀ j, j < 6 → entQ n G i j
noncomputable instance (n : Nat) (G : Nat → Nat → Nat) : Decidable (entP n G) := Classical.propDecidable _
def idP (G : Nat → Nat → Nat) (i : Nat) : Prop := G 0 i = i ∧ G i 0 = i
def ascG (n : Nat) (G : Nat → Nat → Nat) (i : Nat) : Prop := ∀ j, j < n → ∀ k, k < n → G (G i j) k = G i (G j k)
structure GN (n : Nat) (G : Nat → Nat → Nat) : Prop where
  n1 : 1 ≤ n
  n6 : n ≤ 6
  ent : entP n G
  id : ∀ i, i < n → idP G i
  inv : ∀ i, i < n → ∃ j, j < n ∧ G i j = 0 ∧ G j i = 0
  asc : ∀ i, i < n → ascG n G i
noncomputable instance (n : Nat) (G : Nat → Nat → Nat) : Decidable (GN n G) := Classical.propDecidable _
section
variable {n : Nat} {G : Nat → Nat → Nat}
theorem GN.lt (h : GN n G) {i j : Nat} (hi : i < n) (hj : j < n) : G i j < n := by
  have hn := h.n6
  have := h.ent i (by omega) j (by omega)
  unfold entQ at this
  rwa [if_pos ⟨hi, hj⟩] at this
theorem GN.l (h : GN n G) {i : Nat} (hi : i < n) : G 0 i = i := (h.id i hi).1
theorem GN.r (h : GN n G) {i : Nat} (hi : i < n) : G i 0 = i := (h.id i hi).2
theorem GN.as (h : GN n G) {i j k : Nat} (hi : i < n) (hj : j < n) (hk : k < n) : G (G i j) k = G i (G j k) := h.asc i hi j hj k hk
end
end Go.Am

set_option linter.unusedVariables false
set_option linter.unusedSimpArgs false
namespace Go.Am
section
variable {n n' : Int} {G G' : Nat → Nat → Nat} {V : Vw}
variable {at_ : Nat → Nat → Option (AV × AV)} {d : Nat}
end
section
variable {z : Nat → Int}
end
structure RG (G : Nat → Nat → Nat) : Prop where
  b : ∀ i j, G i j < 256
theorem RG.w8 {G : Nat → Nat → Nat} (h : RG G) (i j : Nat) : IntKind.i64.wrap ((G i j : Nat) : Int) = ((G i j : Nat) : Int) := w64 (by omega) (by have := h.b i j; omega)
end Go.Am

set_option linter.unusedVariables false
set_option linter.unusedSimpArgs false
namespace Go.Am
section
variable {P : Program} {T : TT}
end
end Go.Am

set_option linter.unusedVariables false
set_option linter.unusedSimpArgs false
namespace Go.Am
open Go.Lib
section
variable {n : Nat} {F : Nat → Int}
end
end Go.Am

set_option linter.unusedVariables false
set_option linter.unusedSimpArgs false
namespace Go.Am
theorem liveAll_imp {P Q : Nat → Nat → AV → AV → Prop} : ∀ {ol : OL}, liveAll P ol → (∀ k i sh c, k ∈ keysOf ol → P k i sh c → Q k i sh c) → liveAll Q ol
  | [], _, _ => trivial
  | (k, .one sh c) :: r, h, f => ⟨f k 0 sh c (by simp [keysOf]) h.1, liveAll_imp h.2 (fun k i sh c hk => f k i sh c (by simp [keysOf, hk]))⟩
  | (k, .many g) :: r, h, f => ⟨fun i sh c hi => f k i sh c (by simp [keysOf]) (h.1 i sh c hi), liveAll_imp h.2 (fun k i sh c hk => f k i sh c (by simp [keysOf, hk]))⟩
  | (k, .gone) :: r, h, f => liveAll_imp (ol := r) h (fun k i sh c hk => f k i sh c (by simp [keysOf, hk]))
theorem emb_famL {m : List (Nat × Nat)} {kf c s ko N e : Nat} {w : Nat → Nat} {F : Nat → Nat → Int} {g : Nat → AV} {env' env : Env} {ol' : OL} {rest : OL} (hne : ko ≠ kf) (hk : okL m s (ko :: kf :: keysOf rest) = true) (hnr : (keysOf rest).all (fun k => !Nat.beq k kf) = true) (hkf : lk m kf = kf)
    (h1 : ol'.at_ (lk m ko) 0 = some (ZR N, .arr N g)) (hg : ∀ j, j < N → j ≠ c → g j = .own kf j (w j) e) (hgc : c < N → g c = .own s 0 (w c) e)
    (h2 : c < N → ∃ C, ol'.at_ s 0 = some (Z64 (w c), C) ∧ ∀ V : Vw, Mt V (C64 (w c) (F c)) C)
    (h3 : ∀ r, r < N → r ≠ c → ∃ C, ol'.at_ kf r = some (Z64 (w r), C) ∧ ∀ V : Vw, Mt V (C64 (w r) (F r)) C)
    (h4 : liveAll (fun k i sh c3 => ∃ C, ol'.at_ (lk m k) i = some (sh, C) ∧ ssh sh c3 ∧ ∀ V : Vw, Mt V c3 C) rest)
    (henv : envAll (fun t v => MtE (vwOf (ρL m kf c s) ol' ((ko, .one (ZR N) (CO kf N w e)) :: (kf, .many (famF N w F)) :: rest)) v (get env' t)) env) :
    Emb (ρL m kf c s) env' ol' env ((ko, .one (ZR N) (CO kf N w e)) :: (kf, .many (famF N w F)) :: rest) := by
  have d1 : OL.has ((ko, .one (ZR N) (CO kf N w e)) :: (kf, .many (famF N w F)) :: rest) kf = true := by simp [OL.has]
  refine emb_L hk henv ⟨?_, fun r sh cc h => ?_, liveAll_imp h4 (fun k i sh c3 hki h => ?_)⟩
  · dsimp only
    rw [ρL_ne (.inl hne)]
    dsimp only
    rw [h1]
    refine ⟨rfl, ⟨rfl, fun _ => trivial⟩, rfl, fun j hj => ?_⟩
    by_cases hjc : j = c
    · subst hjc
      rw [hgc hj]
      exact ⟨ρL_eq, rfl, rfl, d1⟩
    · rw [hg j hj hjc]
      refine ⟨?_, rfl, rfl, d1⟩
      have := ρL_ne (m := m) (kg := kf) (c := c) (s := s) (k := kf) (i := j) (.inr hjc)
      rw [hkf] at this; exact this
  · obtain ⟨hr, rfl, rfl⟩ := famF_some h
    by_cases hrc : r = c
    · subst hrc
      rw [ρL_eq]
      dsimp only
      obtain ⟨C, q1, q2⟩ := h2 hr
      rw [q1]
      exact ⟨rfl, ⟨rfl, fun _ => trivial⟩, q2 _⟩
    · rw [ρL_ne (.inr hrc), hkf]
      dsimp only
      obtain ⟨C, q1, q2⟩ := h3 r hr hrc
      rw [q1]
      exact ⟨rfl, ⟨rfl, fun _ => trivial⟩, q2 _⟩
  · have hkk : k ≠ kf := fun e => by
      have := List.all_eq_true.1 hnr k hki
      rw [e, Nat.beq_refl] at this; cases this
    rw [ρL_ne (.inl hkk)]
    dsimp only
    obtain ⟨C, q1, q2, q3⟩ := h
    rw [q1]
    exact ⟨rfl, q2, q3 _⟩
end Go.Am

