/- Part 1 of what the law stands on: abstract values, their walk, contracts of functions. My own work. Conditions: none. -/
import Derived.Test.YtefpoahliopoiaaPart0
import Derived.Orders
import Derived.CheckFast
import Derived.Laws.BitsLemmas
import Derived.Test.YtefpoahliopoiaaProg
import Derived.Laws.IdiomCopy
import Derived.WalkKit
import Derived.Deep.RegionLaw
import Derived.Lib.SliceRun
import Derived.Lib.Walk
/- Regions in the text's order, code, views of a state, loops, functions. My own work. -/
set_option linter.unusedVariables false
set_option linter.unusedSimpArgs false
namespace Go.Am

abbrev Env := List (Nat × AV)

def get : Env → Nat → AV
  | [], _ => .any
  | (t', v) :: r, t => bif Nat.beq t t' then v else get r t

def putE : Option Nat → AV → Env → Env
  | none, _, env => env
  | some d, v, env => (d, v) :: env

def evE (env : Env) : EV
  | .tmp t => get env t
  | .const v => constAV v
  | .global _ => .any
  | .func g => .fn g 0 (fun _ => .any)

def EnvR (K : Kx) (env : Env) (tmps : Array Value) : Prop := ∀ t, VR K (get env t) (tmps.getD t undef)

theorem constAV_ok (K : Kx) (v : Value) : VR K (constAV v) v := by
  unfold constAV
  split <;> first | exact rfl | trivial

theorem EnvR.ev {K : Kx} {env : Env} {a : Act} (h : EnvR K env a.tmps) (x : Operand) : VR K (evE env x) (a.eval x) := by
  cases x with
  | tmp t => exact h t
  | const v => exact constAV_ok K v
  | global g => trivial
  | func g => exact ⟨#[], rfl, rfl, fun i hi => by omega⟩

theorem EnvR.mono {K K' : Kx} {env : Env} {tmps : Array Value} (h : EnvR K env tmps) (hle : Le K K') : EnvR K' env tmps := fun t => VR_mono hle (h t)

theorem EnvR.put {K : Kx} {env : Env} {a : Act} {d : Option Nat} {v : AV} {c : Value} (h : EnvR K env a.tmps) (hv : VR K v c) (hd : ∀ t, d = some t → t < a.tmps.size) : EnvR K (putE d v env) (a.put d c).tmps := by
  cases d with
  | none => exact h
  | some t =>
    have hlt := hd t rfl
    intro t'
    simp only [putE, get, Act.put]
    by_cases ht : t' = t
    · subst ht
      simp only [Nat.beq_refl, cond_true]
      have : (a.tmps.setIfInBounds t' c).getD t' undef = c := by simp [hlt]
      rw [this]
      exact hv
    · simp only [beq_ff ht, cond_false]
      have : (a.tmps.setIfInBounds t c).getD t' undef = a.tmps.getD t' undef := by simp [Array.getElem?_setIfInBounds_ne (Ne.symm ht)]
      rw [this]
      exact h t'

theorem Act.put_size (a : Act) (d : Option Nat) (v : Value) : (a.put d v).tmps.size = a.tmps.size := by cases d <;> simp [Act.put]
theorem Act.put_defers (a : Act) (d : Option Nat) (v : Value) : (a.put d v).defers = a.defers := by cases d <;> rfl

def dstOk (N : Nat) (ops : List Oper) : Bool := ops.all fun o => match o.dst with | some d => Nat.blt d N | none => true

/-- What stands in the slot of an operation that was not asked for. -/
def undA : AV := .tup 0 (fun _ => .any)

theorem undA_ok (K : Kx) : VR K undA undef := ⟨#[], rfl, rfl, fun i hi => by omega⟩

/-- The operations of a region, one behind the other. -/
def WOps (P : Program) (T : TT) (all : Array Oper) : List Oper → Env → OL → (Env → OL → Prop) → Prop
  | [], env, ol, K => K env ol
  | o :: r, env, ol, K =>
    match o.guard with
    | none => WOp P T o (evE env) ol (fun v ol' => WOps P T all r (putE o.dst v env) ol' K)
    | some (j, want) => (match (all[j]?).bind (·.dst) with
      | some d => (match get env d with
        | .bool b => (match b == want with
          | true => WOp P T o (evE env) ol (fun v ol' => WOps P T all r (putE o.dst v env) ol' K)
          | false => WOps P T all r (putE o.dst undA env) ol K)
        | .tup 0 _ => WOps P T all r (putE o.dst undA env) ol K
        | _ => False)
      | none => False)

section
variable {P : Program} {T : TT}

theorem upon_of_Out {X : Cx} {κ : Gh} {ob ob' : Ob} {w : World} {v : AV} {r : Result Next} {o : Oper} {a : Act} {next : Act → World → Prop} {Q : Exit → Act → World → Prop} (h : Out X κ ob w ob' v r)
    (hn : ∀ c w' κ', Rel X κ' ob' w' → VR (KK X κ' ob' w') v c → Le (KK X κ ob w) (KK X κ' ob' w') → next (a.put o.dst c) w') : o.upon X.P a next Q r := by
  unfold Out at h
  split at h
  · obtain ⟨κ', h1, h2, h3⟩ := h
    exact hn _ _ κ' h1 h2 h3
  · obtain ⟨κ', h1, h2, h3⟩ := h
    exact hn _ _ κ' h1 h2 h3
  · refine h.mono ?_
    rintro e w' ⟨c, κ', rfl, h1, h2, h3⟩
    exact hn _ _ κ' h1 h2 h3
  · exact h.elim

theorem ext_agree {A o : Ob} : ∀ k, o.has k = true → o.has k = true → ∀ i, o.at_ k i = o.at_ k i := fun _ _ _ _ => rfl

/-- One operation in the text's order: whatever kind. -/
theorem WOp_out {o : Oper} {env : Env} {ol : OL} {K : AV → OL → Prop} (hT : TOk P T) (h : WOp P T o (evE env) ol K) :
    ∃ (v : AV) (ol' : OL), K v ol' ∧ ∀ (X : Cx) (κ : Gh) (w : World) (a : Act), X.P = P → X.T = T → Rel X κ ol.ob w → EnvR (KK X κ ol.ob w) env a.tmps → Out X κ ol.ob w ol'.ob v ((execOp a.eval o).run P w) := by
  obtain ⟨v, h⟩ := WOp_sound hT h
  rcases h with ⟨_, h1, h2⟩ | ⟨_, A, h1, h2, h3⟩ | ⟨_, ol', h1, h2, _⟩
  · refine ⟨v, ol, h1, fun X κ w a hP hTT hR hE => ?_⟩
    have := (PassJ.of_pure h2 ol.ob) X κ ol.ob w a.eval hP hTT hR (fun _ _ _ _ => rfl) (fun k hk => by cases hk) (fun x _ => hE.ev x)
    rwa [Ob.ext_nil] at this
  · refine ⟨v, A ++ ol, h1, fun X κ w a hP hTT hR hE => ?_⟩
    rw [OL.ob_append]
    exact h2 X κ ol.ob w a.eval hP hTT (fun _ => rfl) hR (fun _ _ _ _ => rfl) h3 (fun x _ => hE.ev x)
  · exact ⟨v, ol', h1, fun X κ w a hP hTT hR hE => h2 X κ w a.eval hP hTT hR (fun x _ => hE.ev x)⟩

/-- What stands behind a piece of code. -/
def QQ (X : Cx) (N : Nat) (Q : Exit → Env → OL → Prop) : Exit → Act → World → Prop := fun ex a w =>
  ∃ κ env ol, Q ex env ol ∧ Rel X κ ol.ob w ∧ EnvR (KK X κ ol.ob w) env a.tmps ∧ a.tmps.size = N ∧ a.defers = []

theorem yielded_of {arr : Array Oper} {j d : Nat} {b : Bool} {K : Kx} {env : Env} {tmps : Array Value} (hd : (arr[j]?).bind (·.dst) = some d) (hE : EnvR K env tmps) (hb : get env d = .bool b) (hlt : d < tmps.size) : yielded arr tmps j = some b := by
  have := hE d
  rw [hb] at this
  have hv := VR_bool this
  have : tmps[d]? = some (.bool b) := by
    rw [Array.getElem?_eq_getElem hlt]
    simp [hlt] at hv
    rw [hv]
  simp [yielded, hd, this]

theorem yielded_none {arr : Array Oper} {j d : Nat} {f : Nat → AV} {K : Kx} {env : Env} {tmps : Array Value} (hd : (arr[j]?).bind (·.dst) = some d) (hE : EnvR K env tmps) (hb : get env d = .tup 0 f) : yielded arr tmps j = none := by
  have := hE d
  rw [hb] at this
  obtain ⟨vs, hv, hs, _⟩ := this
  by_cases hlt : d < tmps.size
  · have : tmps[d]? = some (.tuple vs) := by
      rw [Array.getElem?_eq_getElem hlt]
      simp [hlt] at hv
      rw [hv]
    simp [yielded, hd, this]
  · have : tmps[d]? = none := by simp; omega
    simp [yielded, hd, this]

theorem dst_lt_of_eq {K : Kx} {env : Env} {tmps : Array Value} {d : Nat} {b : Bool} (hE : EnvR K env tmps) (hb : get env d = .bool b) : d < tmps.size := by
  have := hE d
  rw [hb] at this
  have hv := VR_bool this
  by_cases h : d < tmps.size
  · exact h
  · simp [h, undef] at hv

theorem WOps_sound (hT : TOk P T) (arr : Array Oper) {N : Nat} {Q : Exit → Env → OL → Prop} : ∀ (ops : List Oper) (env : Env) (ol : OL), WOps P T arr ops env ol (fun env' ol' => Q .normal env' ol') → dstOk N ops = true →
    ∀ (X : Cx) (κ : Gh) (a : Act) (w : World), X.P = P → X.T = T → Rel X κ ol.ob w → EnvR (KK X κ ol.ob w) env a.tmps → a.tmps.size = N → a.defers = [] → wpList P arr (QQ X N Q) ops a w
  | [], env, ol, h, _, X, κ, a, w, hP, hTT, hR, hE, hN, hD => ⟨κ, env, ol, h, hR, hE, hN, hD⟩
  | o :: r, env, ol, h, hdst, X, κ, a, w, hP, hTT, hR, hE, hN, hD => by
    simp only [dstOk, List.all_cons, Bool.and_eq_true] at hdst
    have hlt : ∀ t, o.dst = some t → t < a.tmps.size := fun t ht => by
      have := hdst.1
      rw [ht] at this
      rw [hN]; simpa [Nat.blt_eq] using this
    have run : WOp P T o (evE env) ol (fun v ol' => WOps P T arr r (putE o.dst v env) ol' (fun env' ol' => Q .normal env' ol')) → o.wp P a w (wpList P arr (QQ X N Q) r) (QQ X N Q) := by
      intro hw
      obtain ⟨v, ol', h1, h2⟩ := WOp_out hT hw
      have := h2 X κ w a hP hTT hR hE
      unfold Oper.wp
      rw [← hP]
      rw [← hP] at this
      refine upon_of_Out this (fun c w' κ' hR' hv hle => ?_)
      rw [hP]
      exact WOps_sound hT arr r _ ol' h1 hdst.2 X κ' _ w' hP hTT hR' ((hE.mono hle).put hv hlt) (by rw [Act.put_size]; exact hN) (by rw [Act.put_defers]; exact hD)
    have skip : WOps P T arr r (putE o.dst undA env) ol (fun env' ol' => Q .normal env' ol') → wpList P arr (QQ X N Q) r (a.put o.dst undef) w := fun hw =>
      WOps_sound hT arr r _ ol hw hdst.2 X κ _ w hP hTT hR (hE.put (undA_ok _) hlt) (by rw [Act.put_size]; exact hN) (by rw [Act.put_defers]; exact hD)
    unfold WOps at h
    unfold wpList
    split at h
    · rename_i hg
      rw [if_pos (by simp [Region.wanted, hg])]
      exact .inl (run h)
    · rename_i j want hg
      split at h
      · rename_i d hd
        split at h
        · rename_i b hb
          have hy := yielded_of hd hE hb (dst_lt_of_eq hE hb)
          split at h
          · rename_i hbw
            have : b = want := by simpa using hbw
            subst this
            rw [if_pos (by simp [Region.wanted, hg, hy])]
            exact .inl (run h)
          · rename_i hbw
            have : b ≠ want := by simpa using hbw
            rw [if_neg (by simp [Region.wanted, hg, hy, this])]
            exact skip h
        · rename_i f hb
          have hy := yielded_none hd hE hb
          rw [if_neg (by simp [Region.wanted, hg, hy])]
          exact skip h
        · exact h.elim
      · exact h.elim

/-! ### Code -/

/-- From every picture of this state the code comes to a state that Q takes. -/
def Snd (P : Program) (T : TT) (N : Nat) (c : Code) (env : Env) (ol : OL) (Q : Exit → Env → OL → Prop) : Prop :=
  ∀ (X : Cx) (κ : Gh) (a : Act) (w : World), X.P = P → X.T = T → Rel X κ ol.ob w → EnvR (KK X κ ol.ob w) env a.tmps → a.tmps.size = N → a.defers = [] → c.wp P (QQ X N Q) a w

variable {N : Nat} {env : Env} {ol : OL} {Q : Exit → Env → OL → Prop}

theorem snd_mono {c : Code} {Q' : Exit → Env → OL → Prop} (h : Snd P T N c env ol Q) (hq : ∀ ex env ol, Q ex env ol → Q' ex env ol) : Snd P T N c env ol Q' :=
  fun X κ a w hP hTT hR hE hN hD => wp_mono (h X κ a w hP hTT hR hE hN hD) (fun ex a w ⟨κ', env', ol', h1, h2⟩ => ⟨κ', env', ol', hq _ _ _ h1, h2⟩)

theorem snd_skip (h : Q .normal env ol) : Snd P T N .skip env ol Q := fun X κ a w hP hTT hR hE hN hD => wp_skip ⟨κ, env, ol, h, hR, hE, hN, hD⟩
theorem snd_exit {id : Nat} (h : Q (.exit id) env ol) : Snd P T N (.exit id) env ol Q := fun X κ a w hP hTT hR hE hN hD => wp_exit ⟨κ, env, ol, h, hR, hE, hN, hD⟩
theorem snd_ret (h : Q .ret env ol) : Snd P T N .ret env ol Q := fun X κ a w hP hTT hR hE hN hD => wp_ret ⟨κ, env, ol, h, hR, hE, hN, hD⟩

/-- Behind the first of two. -/
def thn (P : Program) (T : TT) (N : Nat) (y : Code) (Q : Exit → Env → OL → Prop) : Exit → Env → OL → Prop
  | .normal, env, ol => Snd P T N y env ol Q
  | e, env, ol => Q e env ol

theorem snd_seq {x y : Code} (h : Snd P T N x env ol (thn P T N y Q)) : Snd P T N (.seq x y) env ol Q := by
  intro X κ a w hP hTT hR hE hN hD
  refine wp_seq (wp_mono (h X κ a w hP hTT hR hE hN hD) ?_)
  rintro ex a' w' ⟨κ', env', ol', hq, hR', hE', hN', hD'⟩
  cases ex with
  | normal => exact hq X κ' a' w' hP hTT hR' hE' hN' hD'
  | _ => exact ⟨κ', env', ol', hq, hR', hE', hN', hD'⟩

theorem snd_region (hT : TOk P T) {id : Nat} {ops : Array Oper} (hd : dstOk N ops.toList = true) (h : WOps P T ops ops.toList env ol (fun env' ol' => Q .normal env' ol')) : Snd P T N (.region id ops false) env ol Q :=
  fun X κ a w hP hTT hR hE hN hD => wp_region_list (WOps_sound hT ops ops.toList env ol h hd X κ a w hP hTT hR hE hN hD)

theorem snd_cond_true {c : Operand} {x y : Code} (hc : evE env c = .bool true) (h : Snd P T N x env ol Q) : Snd P T N (.cond c x y) env ol Q := by
  intro X κ a w hP hTT hR hE hN hD
  have := hE.ev c
  rw [hc] at this
  exact wp_cond_true (VR_bool this) (h X κ a w hP hTT hR hE hN hD)

theorem snd_cond_false {c : Operand} {x y : Code} (hc : evE env c = .bool false) (h : Snd P T N y env ol Q) : Snd P T N (.cond c x y) env ol Q := by
  intro X κ a w hP hTT hR hE hN hD
  have := hE.ev c
  rw [hc] at this
  exact wp_cond_false (VR_bool this) (h X κ a w hP hTT hR hE hN hD)

theorem snd_cond {c : Operand} {x y : Code} (b : Bool) (hc : evE env c = .bool b) (ht : b = true → Snd P T N x env ol Q) (hf : b = false → Snd P T N y env ol Q) : Snd P T N (.cond c x y) env ol Q := by
  cases b
  · exact snd_cond_false hc (hf rfl)
  · exact snd_cond_true hc (ht rfl)

/-- Inside a block. -/
def inB (id : Nat) (Q : Exit → Env → OL → Prop) : Exit → Env → OL → Prop
  | .exit id', env, ol => bif Nat.beq id' id then Q .normal env ol else Q (.exit id') env ol
  | e, env, ol => Q e env ol

theorem snd_block {id : Nat} {c : Code} (h : Snd P T N c env ol (inB id Q)) : Snd P T N (.block id c) env ol Q := by
  intro X κ a w hP hTT hR hE hN hD
  refine wp_block (wp_mono (h X κ a w hP hTT hR hE hN hD) ?_)
  rintro ex a' w' ⟨κ', env', ol', hq, hR', hE', hN', hD'⟩
  cases ex with
  | exit id' =>
    simp only [Exit.inBlock]
    simp only [inB] at hq
    by_cases hid : id' = id
    · subst hid
      rw [if_pos rfl]
      simp only [Nat.beq_refl, cond_true] at hq
      exact ⟨κ', env', ol', hq, hR', hE', hN', hD'⟩
    · rw [if_neg hid]
      simp only [beq_ff hid, cond_false] at hq
      exact ⟨κ', env', ol', hq, hR', hE', hN', hD'⟩
  | _ => exact ⟨κ', env', ol', hq, hR', hE', hN', hD'⟩

/-! ### A view of a state: names turned, what is read for good laid open, the rest forgotten -/

structure Vw where
  ρ : Nat → Nat → Nat × Nat
  dom : Nat → Bool
  at' : Nat → Nat → Option (AV × AV)
  fz : Nat → Nat → Prop

def Mt (V : Vw) : AV → AV → Prop
  | .any, v' => v'.isAgg = false
  | .int k n, v' => v' = .int k n
  | .bool b, v' => v' = .bool b
  | .strg s, v' => v' = .strg s
  | .nilsl, v' => v' = .nilsl
  | .arr n f, v' => (match v' with | .arr m f' => m = n ∧ ∀ i, i < n → Mt V (f i) (f' i) | _ => False)
  | .sct n f, v' => (match v' with | .sct m f' => m = n ∧ ∀ i, i < n → Mt V (f i) (f' i) | _ => False)
  | .tup n f, v' => (match v' with | .tup m f' => m = n ∧ ∀ i, i < n → Mt V (f i) (f' i) | _ => False)
  | .own k i n e, v' => (match v' with | .own k' i' n' e' => V.ρ k i = (k', i') ∧ n' = n ∧ e' = e ∧ V.dom k = true | _ => False)
  | .ptr k i p o r, v' => (match v' with | .ptr k' i' p' o' r' => V.ρ k i = (k', i') ∧ p' = p ∧ o' = o ∧ r' = r ∧ V.dom k = true | _ => False)
  | .cptr v, v' => (match v' with
    | .cptr u => Mt V v u
    | .ptr k' i' p _ _ => V.fz k' i' ∧ (match V.at' k' i' with | some (_, c) => Mt V v (sub c p) | none => False)
    | _ => False)
  | .ro n f, v' => (match v' with
    | .ro m f' => m = n ∧ ∀ i, i < n → Mt V (f i) (f' i)
    | .own k' i' m _ => m = n ∧ V.fz k' i' ∧ (match V.at' k' i' with | some (_, .arr m' f') => m' = n ∧ ∀ i, i < n → Mt V (f i) (f' i) | _ => False)
    | .nilsl => n = 0
    | _ => False)
  | .fn g n f, v' => (match v' with | .fn g' m f' => g' = g ∧ m = n ∧ ∀ i, i < n → Mt V (f i) (f' i) | _ => False)

theorem Mt_isAgg {V : Vw} {v v' : AV} (h : Mt V v v') : v'.isAgg = v.isAgg := by
  cases v
  case any => exact h
  case int => rw [show v' = _ from h]
  case bool => rw [show v' = _ from h]
  case strg => rw [show v' = _ from h]
  case nilsl => rw [show v' = _ from h]
  all_goals (cases v' <;> first | rfl | exact (show False from h).elim)

theorem Mt_size {V : Vw} : ∀ {v v' : AV}, Mt V v v' → v'.size = v.size := by
  intro v
  induction v with
  | arr n f ih =>
    intro v' h
    cases v' <;> simp only [Mt] at h
    obtain ⟨rfl, h⟩ := h
    simp only [AV.size]
    rename_i m f'
    by_cases h0 : m = 0
    · subst h0; simp
    · rw [ih 0 (h 0 (by omega))]
  | sct n f ih =>
    intro v' h
    cases v' <;> simp only [Mt] at h
    obtain ⟨rfl, h⟩ := h
    simp only [AV.size]
    exact sumTo_congr fun i hi => ih i (h i hi)
  | any => intro v' h; simp only [Mt] at h; cases v' <;> first | rfl | (simp [AV.isAgg] at h)
  | int k n => intro v' h; simp only [Mt] at h; rw [h]
  | bool b => intro v' h; simp only [Mt] at h; rw [h]
  | strg s => intro v' h; simp only [Mt] at h; rw [h]
  | nilsl => intro v' h; simp only [Mt] at h; rw [h]
  | _ => intro v' h; cases v' <;> simp only [Mt] at h <;> rfl

structure VwOk (V : Vw) (K' K : Kx) : Prop where
  heap : K.heap = K'.heap
  sz : K.sz = K'.sz
  zr : K.zr = K'.zr
  J : ∀ b, K'.J b → K.J b
  dom : ∀ k, V.dom k = true → K.dom k
  blk : ∀ k i k' i', V.ρ k i = (k', i') → K.blk k i = K'.blk k' i' ∧ K.shp k i = K'.shp k' i'
  live : ∀ k' i' sh c, V.at' k' i' = some (sh, c) → V.fz k' i' → K.J (K'.blk k' i') ∧ sh = K'.shp k' i' ∧ ssh sh c ∧ ∃ cur e, K'.heap[K'.blk k' i']? = some (.cells cur e (0, 0)) ∧ FL K' c (cur.toList.take c.size)

theorem VwOk.seg {V : Vw} {K' K : Kx} (h : VwOk V K' K) {b o : Nat} {s : List Value} (hs : K'.seg b o s) : K.seg b o s := by
  obtain ⟨cur, e, fr, h1, h2⟩ := hs
  exact ⟨cur, e, fr, by rw [h.heap]; exact h1, h2⟩

theorem Mt_FL {V : Vw} {K' K : Kx} (hV : VwOk V K' K) : ∀ {v v' : AV} {cs : List Value}, Mt V v v' → FL K' v' cs → FL K v cs := by
  intro v
  induction v with
  | arr n f ih =>
    intro v' cs hm h
    cases v' <;> simp only [Mt] at hm
    obtain ⟨rfl, hm⟩ := hm
    obtain ⟨g, rfl, hg⟩ := h
    exact ⟨g, rfl, fun i hi => ⟨ih i (hm i hi) (hg i hi).1, by rw [← Mt_size (hm 0 (by omega))]; exact (hg i hi).2⟩⟩
  | sct n f ih =>
    intro v' cs hm h
    cases v' <;> simp only [Mt] at hm
    obtain ⟨rfl, hm⟩ := hm
    obtain ⟨g, rfl, hg⟩ := h
    exact ⟨g, rfl, fun i hi => ih i (hm i hi) (hg i hi)⟩
  | any =>
    intro v' cs hm h
    simp only [Mt] at hm
    have h1 := FL_len h
    have h2 : v'.size = 1 := by cases v' <;> first | rfl | (simp [AV.isAgg] at hm)
    rw [h2] at h1
    match cs, h1 with
    | [c], _ => exact ⟨c, rfl, FL_one h c (by simp)⟩
  | int k n => intro v' cs hm h; simp only [Mt] at hm; subst hm; exact h
  | bool b => intro v' cs hm h; simp only [Mt] at hm; subst hm; exact h
  | strg s => intro v' cs hm h; simp only [Mt] at hm; subst hm; exact h
  | nilsl => intro v' cs hm h; simp only [Mt] at hm; subst hm; exact h
  | tup n f _ => intro v' cs hm h; cases v' <;> simp only [Mt] at hm; exact h.elim
  | ptr k i p o r _ => intro v' cs hm h; cases v' <;> simp only [Mt] at hm; exact h.elim
  | own k i n e =>
    intro v' cs hm h
    cases v' <;> simp only [Mt] at hm
    obtain ⟨hρ, rfl, rfl, hd⟩ := hm
    obtain ⟨c, rfl, _, hn, cap, cur, fr, rfl, h1, h2, h3, h4⟩ := h
    obtain ⟨b1, b2⟩ := hV.blk _ _ _ _ hρ
    exact ⟨_, rfl, hV.dom k hd, by rw [b2, hV.zr]; exact hn, cap, cur, fr, by rw [b1], h1, h2, by rw [b1, hV.heap]; exact h3, by rw [hV.sz]; exact h4⟩
  | cptr v ih =>
    intro v' cs hm h
    cases v' <;> simp only [Mt] at hm
    case cptr u =>
      obtain ⟨b, o, seg, rfl, hJ, hv, hs⟩ := h
      exact ⟨b, o, seg, rfl, hV.J b hJ, ih hm hv, hV.seg hs⟩
    case ptr => exact h.elim
  | ro n f ih =>
    intro v' cs hm h
    cases v' <;> simp only [Mt] at hm
    case ro m f' =>
      obtain ⟨rfl, hm⟩ := hm
      obtain ⟨A, cap, rfl, h1, h2, h3⟩ := h
      refine ⟨A, cap, rfl, h1, h2, ?_⟩
      rcases h3 with h3 | ⟨b, o, g, hA, hJ, hs, hg⟩
      · exact .inl h3
      · exact .inr ⟨b, o, g, hA, hV.J b hJ, hV.seg hs, fun i hi => ⟨ih i (hm i hi) (hg i hi).1, by rw [← Mt_size (hm 0 (by omega))]; exact (hg i hi).2⟩⟩
    case nilsl =>
      subst hm
      have h' : cs = [.slice none 0 0] := h
      subst h'
      exact ⟨none, 0, rfl, Nat.le_refl _, Nat.zero_le _, .inl rfl⟩
    case own k' i' m e =>
      obtain ⟨rfl, hfz, hm⟩ := hm
      split at hm
      · rename_i sh m' f' hat
        obtain ⟨rfl, hm⟩ := hm
        obtain ⟨hJ, hsh, hss, cur', e', hc, hFL⟩ := hV.live _ _ _ _ hat hfz
        obtain ⟨c, rfl, hd, hn, cap, cur, fr, rfl, h1, h2, h3, h4⟩ := h
        rw [hc] at h3
        simp only [Option.some.injEq, Obj.cells.injEq] at h3
        obtain ⟨rfl, rfl, rfl⟩ := h3
        obtain ⟨g, q1, q2⟩ := hFL
        refine ⟨_, cap, rfl, h1, h2, .inr ⟨_, 0, g, rfl, hJ, ⟨cur', e', (0, 0), by rw [hV.heap]; exact hc, fun j u hu => ?_⟩, fun i hi => ⟨ih i (hm i hi) (q2 i hi).1, by rw [← Mt_size (hm 0 (by omega))]; exact (q2 i hi).2⟩⟩⟩
        rw [Nat.zero_add, ← Array.getElem?_toList]
        rw [← q1, List.getElem?_take] at hu
        split at hu
        · exact hu
        · cases hu
      · exact hm.elim
  | fn q n caps ih =>
    intro v' cs hm h
    cases v' <;> simp only [Mt] at hm
    obtain ⟨rfl, rfl, hm⟩ := hm
    obtain ⟨cv, rfl, h1, h2⟩ := h
    exact ⟨cv, rfl, h1, fun i hi => ⟨by rw [← Mt_isAgg (hm i hi)]; exact (h2 i hi).1, ih i (hm i hi) (h2 i hi).2⟩⟩

theorem Mt_VR {V : Vw} {K' K : Kx} (hV : VwOk V K' K) : ∀ {v v' : AV} {c : Value}, Mt V v v' → VR K' v' c → VR K v c := by
  intro v
  induction v with
  | arr n f ih =>
    intro v' c hm h
    have h0 := hm
    cases v' <;> simp only [Mt] at hm
    obtain ⟨cs, rfl, hc⟩ := h
    exact ⟨cs, rfl, Mt_FL hV h0 hc⟩
  | sct n f ih =>
    intro v' c hm h
    have h0 := hm
    cases v' <;> simp only [Mt] at hm
    obtain ⟨cs, rfl, hc⟩ := h
    exact ⟨cs, rfl, Mt_FL hV h0 hc⟩
  | any => intro v' c _ _; trivial
  | int k n => intro v' c hm h; simp only [Mt] at hm; subst hm; exact h
  | bool b => intro v' c hm h; simp only [Mt] at hm; subst hm; exact h
  | strg s => intro v' c hm h; simp only [Mt] at hm; subst hm; exact h
  | nilsl => intro v' c hm h; simp only [Mt] at hm; subst hm; exact h
  | tup n f ih =>
    intro v' c hm h
    cases v' <;> simp only [Mt] at hm
    obtain ⟨rfl, hm⟩ := hm
    obtain ⟨vs, rfl, h1, h2⟩ := h
    exact ⟨vs, rfl, h1, fun i hi => ih i (hm i hi) (h2 i hi)⟩
  | fn q n caps ih =>
    intro v' c hm h
    cases v' <;> simp only [Mt] at hm
    obtain ⟨rfl, rfl, hm⟩ := hm
    obtain ⟨cv, rfl, h1, h2⟩ := h
    exact ⟨cv, rfl, h1, fun i hi => ih i (hm i hi) (h2 i hi)⟩
  | ptr k i p o r _ =>
    intro v' c hm h
    cases v' <;> simp only [Mt] at hm
    obtain ⟨hρ, rfl, rfl, rfl, hd⟩ := hm
    obtain ⟨hd', rfl, h1, h2, h3⟩ := h
    obtain ⟨b1, b2⟩ := hV.blk _ _ _ _ hρ
    exact ⟨hV.dom k hd, by rw [b1], h1, h2, by rw [b2]; exact h3⟩
  | own k i n e =>
    intro v' c hm h
    have h0 := hm
    cases v' <;> simp only [Mt] at hm
    exact Mt_FL hV h0 h
  | ro n f _ =>
    intro v' c hm h
    have h0 := hm
    cases v' <;> simp only [Mt] at hm
    · exact Mt_FL hV h0 h
    · exact Mt_FL hV h0 h
    · exact Mt_FL hV h0 h
  | cptr v ih =>
    intro v' c hm h
    have h0 := hm
    cases v' <;> simp only [Mt] at hm
    case cptr u => exact Mt_FL hV h0 h
    case ptr k' i' p o r =>
      obtain ⟨hfz, hm⟩ := hm
      split at hm
      · rename_i sh c' hat
        obtain ⟨hJ, hsh, hss, cur, e, hc, hFL⟩ := hV.live _ _ _ _ hat hfz
        obtain ⟨hd, rfl, e2, e3, e4⟩ := h
        have : sh = r := hsh.trans e4.symm
        subst this
        obtain ⟨s1, s2, s3, s4⟩ := ssh_path p 0 hss e3
        obtain ⟨pre, seg, post, q1, q2, q3, _⟩ := FL_dec p 0 hFL s1
        refine VR_cptr_mk hJ (Mt_FL hV hm q3) (hV.seg ?_)
        have hs0 : K'.seg (K'.blk k' i') 0 (cur.toList.take c'.size) := ⟨cur, e, (0, 0), hc, fun j x hx => by
          rw [Nat.zero_add, ← Array.getElem?_toList]
          rw [List.getElem?_take] at hx
          split at hx
          · exact hx
          · cases hx⟩
        rw [q1] at hs0
        have := seg_sub hs0
        rw [e2, s2, q2]
        simpa using this
      · exact hm.elim

/-- Every live object of the view, by its place in the list. -/
def liveAll (F : Nat → Nat → AV → AV → Prop) : OL → Prop
  | [] => True
  | (k, .one sh c) :: r => F k 0 sh c ∧ liveAll F r
  | (_, .gone) :: r => liveAll F r
  | (k, .many f) :: r => (∀ i sh c, f i = some (sh, c) → F k i sh c) ∧ liveAll F r

theorem liveAll_at {F : Nat → Nat → AV → AV → Prop} {l : OL} (h : liveAll F l) {k i : Nat} {sh c : AV} (hk : l.at_ k i = some (sh, c)) : F k i sh c := by
  induction l with
  | nil => cases hk
  | cons p r ih =>
    obtain ⟨k', G⟩ := p
    simp only [OL.at_] at hk
    cases G with
    | one s1 c1 =>
      cases hb : Nat.beq k k'
      · rw [hb] at hk; exact ih h.2 hk
      · rw [hb] at hk
        simp only [cond_true, Fam.at_] at hk
        have hkk := Nat.eq_of_beq_eq_true hb
        cases hi : Nat.beq i 0
        · rw [hi] at hk; cases hk
        · rw [hi] at hk
          have hi0 := Nat.eq_of_beq_eq_true hi
          simp only [cond_true, Option.some.injEq, Prod.mk.injEq] at hk
          rw [← hk.1, ← hk.2, hkk, hi0]; exact h.1
    | gone =>
      cases hb : Nat.beq k k'
      · rw [hb] at hk; exact ih h hk
      · rw [hb] at hk; cases hk
    | many f =>
      cases hb : Nat.beq k k'
      · rw [hb] at hk; exact ih h.2 hk
      · rw [hb] at hk
        have hkk := Nat.eq_of_beq_eq_true hb
        rw [hkk]; exact h.1 i sh c hk

def MtE (V : Vw) (v v' : AV) : Prop := match v with | .any => True | v => Mt V v v'

def envAll (F : Nat → AV → Prop) : Env → Prop
  | [] => True
  | (t, v) :: r => F t v ∧ envAll F r

theorem envAll_get {F : Nat → AV → Prop} {env : Env} (h : envAll F env) (t : Nat) (hany : F t .any) : F t (get env t) := by
  induction env with
  | nil => exact hany
  | cons p r ih =>
    obtain ⟨t', v⟩ := p
    simp only [get]
    cases hb : Nat.beq t t'
    · exact ih h.2
    · rw [Nat.eq_of_beq_eq_true hb]; exact h.1

/-- The view that a list of names gives. -/
def vwOf (ρ : Nat → Nat → Nat × Nat) (ol' ol : OL) : Vw := ⟨ρ, ol.has, ol'.at_, fun k' i' => liveAll (fun k i _ _ => ρ k i ≠ (k', i')) ol⟩

/-- (env, ol) is a view of (env', ol'). -/
def Emb (ρ : Nat → Nat → Nat × Nat) (env' : Env) (ol' : OL) (env : Env) (ol : OL) : Prop :=
  envAll (fun t v => MtE (vwOf ρ ol' ol) v (get env' t)) env ∧
  liveAll (fun k i sh c => match ol'.at_ (ρ k i).1 (ρ k i).2 with | some (sh', c') => sh' = sh ∧ ssh sh c ∧ Mt (vwOf ρ ol' ol) c c' | none => False) ol ∧
  liveAll (fun k i _ _ => liveAll (fun k2 i2 _ _ => ρ k i = ρ k2 i2 → k = k2 ∧ i = i2) ol) ol

theorem Emb.rel {ρ : Nat → Nat → Nat × Nat} {env' : Env} {ol' : OL} {env : Env} {ol : OL} (h : Emb ρ env' ol' env ol) {X : Cx} {κ' : Gh} {w : World} (hR : Rel X κ' ol'.ob w) :
    ∃ κ, Rel X κ ol.ob w ∧ VwOk (vwOf ρ ol' ol) (KK X κ' ol'.ob w) (KK X κ ol.ob w) := by
  obtain ⟨h1, h2, h3⟩ := h
  let κ : Gh := ⟨fun k i => κ'.blk (ρ k i).1 (ρ k i).2, fun k i => κ'.shp (ρ k i).1 (ρ k i).2⟩
  have hl : ∀ {k i : Nat} {sh c : AV}, ol.at_ k i = some (sh, c) → ∃ c', ol'.at_ (ρ k i).1 (ρ k i).2 = some (sh, c') ∧ ssh sh c ∧ Mt (vwOf ρ ol' ol) c c' := by
    intro k i sh c hk
    have := liveAll_at h2 hk
    split at this
    · rename_i sh' c' hat
      obtain ⟨rfl, hss, hm⟩ := this
      exact ⟨c', hat, hss, hm⟩
    · exact this.elim
  have hne : ∀ {k i : Nat}, ol.at_ k i ≠ none → ol'.at_ (ρ k i).1 (ρ k i).2 ≠ none := by
    intro k i hk
    cases hq : ol.at_ k i with
    | none => exact absurd hq hk
    | some p =>
      obtain ⟨c', e1, _⟩ := hl (sh := p.1) (c := p.2) hq
      rw [e1]; simp
  have hJ : ∀ b, (KK X κ' ol'.ob w).J b → (KK X κ ol.ob w).J b := fun b ⟨g1, g2⟩ => ⟨g1, fun k i hk => g2 _ _ (hne hk)⟩
  have hV : VwOk (vwOf ρ ol' ol) (KK X κ' ol'.ob w) (KK X κ ol.ob w) := by
    refine ⟨rfl, rfl, rfl, hJ, fun k hk => hk, fun k i k' i' hρ => ?_, fun k' i' sh c hat hfz => ?_⟩
    · have hρ' : ρ k i = (k', i') := hρ
      show κ'.blk (ρ k i).1 (ρ k i).2 = κ'.blk k' i' ∧ κ'.shp (ρ k i).1 (ρ k i).2 = κ'.shp k' i'
      rw [hρ']
      exact ⟨rfl, rfl⟩
    · have hat' : ol'.at_ k' i' = some (sh, c) := hat
      obtain ⟨cur, e, l1, l2, l3, l4, l5, l6, l7⟩ := hR.live k' i' sh c hat'
      refine ⟨⟨?_, fun k i hk hb => ?_⟩, l5, l4, cur, e, l1, l3⟩
      · rcases l6 with l6 | l6
        · exact .inr (.inr ⟨l6, (Array.getElem?_eq_some_iff.1 l1).1⟩)
        · exact .inr (.inl l6)
      · cases hq : ol.at_ k i with
        | none => exact hk hq
        | some p =>
          have hf := liveAll_at (show liveAll (fun k i _ _ => ρ k i ≠ (k', i')) ol from hfz) (sh := p.1) (c := p.2) hq
          obtain ⟨q1, q2⟩ := hR.inj (ρ k i).1 (ρ k i).2 k' i' (hne hk) (by show ol'.at_ k' i' ≠ none; rw [hat']; simp) hb
          exact hf (Prod.ext q1 q2)
  refine ⟨κ, ⟨hR.os, hR.tape, hR.output, hR.size, hR.block, fun k i sh c hk => ?_, fun k i k2 i2 hk hk2 he => ?_, fun k i hk => OL.has_of_at hk, hR.hI, hR.hM⟩, hV⟩
  · obtain ⟨c', e1, hss, hm⟩ := hl hk
    obtain ⟨cur, e, l1, l2, l3, l4, l5, l6, l7⟩ := hR.live _ _ sh c' e1
    exact ⟨cur, e, l1, by rw [← Mt_size hm]; exact l2, by rw [← Mt_size hm]; exact Mt_FL hV hm l3, hss, l5, l6, l7⟩
  · obtain ⟨q1, q2⟩ := hR.inj _ _ _ _ (hne hk) (hne hk2) he
    cases hq : ol.at_ k i with
    | none => exact absurd hq hk
    | some p =>
      cases hq2 : ol.at_ k2 i2 with
      | none => exact absurd hq2 hk2
      | some p2 => exact liveAll_at (liveAll_at h3 (sh := p.1) (c := p.2) hq) (sh := p2.1) (c := p2.2) hq2 (Prod.ext q1 q2)

theorem MtE_VR {V : Vw} {K' K : Kx} (hV : VwOk V K' K) {v v' : AV} {c : Value} (hm : MtE V v v') (h : VR K' v' c) : VR K v c := by
  unfold MtE at hm
  split at hm
  · trivial
  · exact Mt_VR hV hm h

theorem Emb.envR {ρ : Nat → Nat → Nat × Nat} {env' : Env} {ol' : OL} {env : Env} {ol : OL} (h : Emb ρ env' ol' env ol) {K' K : Kx} (hV : VwOk (vwOf ρ ol' ol) K' K) {tmps : Array Value} (hE : EnvR K' env' tmps) : EnvR K env tmps :=
  fun t => MtE_VR hV (envAll_get h.1 t trivial) (hE t)

theorem snd_emb {ρ : Nat → Nat → Nat × Nat} {env2 : Env} {ol2 : OL} {c : Code} (h : Emb ρ env ol env2 ol2) (hs : Snd P T N c env2 ol2 Q) : Snd P T N c env ol Q := by
  intro X κ a w hP hTT hR hE hN hD
  obtain ⟨κ2, hR2, hV⟩ := h.rel hR
  exact hs X κ2 a w hP hTT hR2 (h.envR hV hE) hN hD

/-! ### A loop -/

def rnd {S : Type} (I : S → Env × OL) (Pr : S → Prop) (μ : S → Nat) (x : S) (Q : Exit → Env → OL → Prop) : Exit → Env → OL → Prop
  | .normal, env', ol' => ∃ x' ρ, Emb ρ env' ol' (I x').1 (I x').2 ∧ Pr x' ∧ μ x' < μ x
  | e, env', ol' => Q e env' ol'

theorem snd_loop {S : Type} {c : Code} (I : S → Env × OL) (Pr : S → Prop) (μ : S → Nat) (x0 : S) (ρ : Nat → Nat → Nat × Nat) (h0 : Emb ρ env ol (I x0).1 (I x0).2) (hp : Pr x0)
    (round : ∀ x, Pr x → Snd P T N c (I x).1 (I x).2 (rnd I Pr μ x Q)) : Snd P T N (.loop c) env ol Q := by
  refine snd_emb h0 ?_
  intro X κ a w hP hTT hR hE hN hD
  -- by strong induction on the measure, through the machine's own rule
  have key : ∀ n x, μ x = n → Pr x → ∀ (κ : Gh) (a : Act) (w : World), Rel X κ (I x).2.ob w → EnvR (KK X κ (I x).2.ob w) (I x).1 a.tmps → a.tmps.size = N → a.defers = [] →
      ∀ (b : Frame) (k : List Item) (cs : List Frame), ∃ e a' w', QQ X N Q e a' w' ∧ Arrives P (lone (b.at a (.code c :: .inLoop c :: k)) cs w) b k cs e a' w' := by
    intro n
    induction n using Nat.strongRecOn with
    | _ n ih =>
      intro x hx hpx κ a w hR hE hN hD b k cs
      obtain ⟨e, a1, w1, hq, harr⟩ := round x hpx X κ a w hP hTT hR hE hN hD b (.inLoop c :: k) cs
      obtain ⟨κ', env', ol', hq, hR', hE', hN', hD'⟩ := hq
      cases e with
      | normal =>
        obtain ⟨x', ρ', hemb, hpx', hlt⟩ := hq
        obtain ⟨κ2, hR2, hV⟩ := hemb.rel hR'
        obtain ⟨e2, a2, w2, hq2, harr2⟩ := ih (μ x') (hx ▸ hlt) x' rfl hpx' κ2 a1 w1 hR2 (hemb.envR hV hE') hN' hD' b k cs
        exact ⟨e2, a2, w2, hq2, .of_steps (Steps.trans harr (.one step_inLoop)) harr2⟩
      | exit id => exact ⟨_, a1, w1, ⟨κ', env', ol', hq, hR', hE', hN', hD'⟩, .pass (x := .inLoop c) rfl (fun _ _ => .inl (by simp)) harr⟩
      | goto l => exact ⟨_, a1, w1, ⟨κ', env', ol', hq, hR', hE', hN', hD'⟩, .pass (x := .inLoop c) rfl (fun _ _ => .inl (by simp)) harr⟩
      | ret => exact ⟨_, a1, w1, ⟨κ', env', ol', hq, hR', hE', hN', hD'⟩, .pass (x := .inLoop c) rfl (fun _ _ => .inl (by simp)) harr⟩
      | panic ch => exact ⟨_, a1, w1, ⟨κ', env', ol', hq, hR', hE', hN', hD'⟩, .pass (x := .inLoop c) rfl (fun _ _ => .inl (by simp)) harr⟩
      | outgrown => exact ⟨_, a1, w1, ⟨κ', env', ol', hq, hR', hE', hN', hD'⟩, .pass (x := .inLoop c) rfl (fun _ _ => .inl (by simp)) harr⟩
  intro b k cs
  obtain ⟨e, a', w', hq, harr⟩ := key _ x0 rfl hp κ a w hR hE hN hD b k cs
  exact ⟨e, a', w', hq, .of_steps (.one step_loop) harr⟩

/-! ### A function -/

def RetL (T : TT) : List ResultVar → Env → OL → (List AV → Prop) → Prop
  | [], _, _, K => K []
  | .tmp t :: r, env, ol, K => RetL T r env ol (fun vs => K (get env t :: vs))
  | .cell a ty :: r, env, ol, K => LoadW T ty (get env a) ol (fun v => RetL T r env ol (fun vs => K (v :: vs)))

def RetW (T : TT) (rs : List ResultVar) (env : Env) (ol : OL) (K : AV → Prop) : Prop :=
  RetL T rs env ol (fun vs => match vs with
    | [v] => K v
    | vs => K (.tup vs.length (fun i => vs.getD i .any)))

theorem load_run (hT : TOk P T) {t : TypeId} {v : AV} {K : AV → Prop} (h : LoadW T t v ol K) : ∃ u, K u ∧ ∀ (X : Cx) (κ : Gh) (w : World) (c : Value), X.P = P → X.T = T → Rel X κ ol.ob w → VR (KK X κ ol.ob w) v c →
    ∃ b o c', c = .pointer (some ⟨b, o, none⟩) ∧ (loadVar t ⟨b, o, none⟩).run P w = .ok c' w ∧ VR (KK X κ ol.ob w) u c' := by
  obtain ⟨ht, h⟩ := h
  split at h
  · rename_i u
    obtain ⟨h1, h2, h⟩ := h
    refine ⟨_, h, fun X κ w c hP hTT hR hv => ?_⟩
    obtain ⟨b, oo, seg, e1, hJ, hu, hs⟩ := VR_cptr hv
    obtain ⟨c', hrun, hvc⟩ := load_fin hT ht (K := KK X κ ol.ob w) rfl hu hs h1 h2
    exact ⟨b, oo, c', e1, hrun, hvc⟩
  · rename_i k i p oo root
    split at h
    · rename_i sh c hat
      obtain ⟨h1, h2, h⟩ := h
      refine ⟨_, h, fun X κ w cc hP hTT hR hv => ?_⟩
      obtain ⟨hd, e1, e2, e3, e4⟩ := hv
      have hsh : sh = root := by
        obtain ⟨_, _, _, _, _, _, l5, _⟩ := hR.live k i sh c hat
        exact l5.trans e4.symm
      subst hsh
      obtain ⟨seg, s1, s2⟩ := live_seg hR (show ol.ob.at_ k i = some (sh, c) from hat) e3
      rw [← e2] at s2
      obtain ⟨c', hrun, hvc⟩ := load_fin hT ht (K := KK X κ ol.ob w) rfl s1 s2 h1 h2
      exact ⟨_, oo, c', e1, hrun, hvc⟩
    · exact h.elim
  · exact h.elim

def resGo (tmps : Array Value) : ResultVar → Sem Value
  | ResultVar.tmp t => pure (tmps.getD t undef)
  | ResultVar.cell a t => do loadVar t (← asAddr (tmps.getD a undef))

theorem RetL_run (hT : TOk P T) : ∀ (rs : List ResultVar) (K : List AV → Prop), RetL T rs env ol K → ∃ vs, K vs ∧ ∀ (X : Cx) (κ : Gh) (w : World) (tmps : Array Value), X.P = P → X.T = T → Rel X κ ol.ob w → EnvR (KK X κ ol.ob w) env tmps →
    ∃ cs : List Value, (rs.mapM (resGo tmps)).run P w = Result.ok cs w ∧ cs.length = vs.length ∧ ∀ i, i < vs.length → VR (KK X κ ol.ob w) (vs.getD i .any) (cs.getD i undef)
  | [], K, h => ⟨[], h, fun X κ w tmps _ _ _ _ => ⟨[], rfl, rfl, fun i hi => by simp at hi⟩⟩
  | .tmp t :: r, K, h => by
    obtain ⟨vs, h1, h2⟩ := RetL_run hT r _ h
    refine ⟨_, h1, fun X κ w tmps hP hTT hR hE => ?_⟩
    obtain ⟨cs, q1, q2, q3⟩ := h2 X κ w tmps hP hTT hR hE
    refine ⟨tmps.getD t undef :: cs, ?_, by simp [q2], fun i hi => ?_⟩
    · simp only [List.mapM_cons, resGo, Sem.run_bind, Sem.run_pure, Result.andThen_ok, q1]
    · cases i with
      | zero => exact hE t
      | succ i => simpa using q3 i (by simpa using hi)
  | .cell a ty :: r, K, h => by
    obtain ⟨u, h1, hl⟩ := load_run hT h
    obtain ⟨vs, h1, h2⟩ := RetL_run hT r _ h1
    refine ⟨_, h1, fun X κ w tmps hP hTT hR hE => ?_⟩
    obtain ⟨cs, q1, q2, q3⟩ := h2 X κ w tmps hP hTT hR hE
    obtain ⟨b, o, c', e1, hrun, hvc⟩ := hl X κ w _ hP hTT hR (hE a)
    refine ⟨c' :: cs, ?_, by simp [q2], fun i hi => ?_⟩
    · simp only [List.mapM_cons, resGo, Sem.run_bind, e1, asAddr, Sem.run_pure, Result.andThen_ok, hrun, q1]
    · cases i with
      | zero => exact hvc
      | succ i => simpa using q3 i (by simpa using hi)

theorem results_run {fn : Func} {w : World} {tmps : Array Value} {cs : List Value} (hc : (fn.results.toList.mapM (resGo tmps)).run P w = Result.ok cs w) :
    (results fn tmps).run P w = Result.ok (if h : cs.toArray.size = 1 then cs.toArray[0] else .tuple cs.toArray) w := by
  have e : results fn tmps = (do
      let vs ← fn.results.mapM (resGo tmps)
      pure (if h : vs.size = 1 then vs[0] else .tuple vs)) := by
    unfold results
    congr 1
  rw [e, Array.mapM_eq_mapM_toList]
  simp only [Sem.run_bind, Sem.run_map]
  rw [hc]
  rfl

theorem RetW_run (hT : TOk P T) {fn : Func} {K : AV → Prop} (h : RetW T fn.results.toList env ol K) : ∃ v, K v ∧ ∀ (X : Cx) (κ : Gh) (w : World) (tmps : Array Value), X.P = P → X.T = T → Rel X κ ol.ob w → EnvR (KK X κ ol.ob w) env tmps →
    ∃ c, (results fn tmps).run P w = Result.ok c w ∧ VR (KK X κ ol.ob w) v c := by
  obtain ⟨vs, h1, h2⟩ := RetL_run hT _ _ h
  match vs, h1 with
  | [v], h1 =>
    refine ⟨v, h1, fun X κ w tmps hP hTT hR hE => ?_⟩
    obtain ⟨cs, q1, q2, q3⟩ := h2 X κ w tmps hP hTT hR hE
    match cs, q1, q2, q3 with
    | [c], q1, _, q3 => exact ⟨c, by rw [results_run q1]; rfl, q3 0 (by simp)⟩
  | [], h1 =>
    refine ⟨_, h1, fun X κ w tmps hP hTT hR hE => ?_⟩
    obtain ⟨cs, q1, q2, q3⟩ := h2 X κ w tmps hP hTT hR hE
    match cs, q1, q2 with
    | [], q1, _ => exact ⟨.tuple #[], by rw [results_run q1]; rfl, #[], rfl, rfl, fun i hi => by simp at hi⟩
  | v1 :: v2 :: r, h1 =>
    refine ⟨_, h1, fun X κ w tmps hP hTT hR hE => ?_⟩
    obtain ⟨cs, q1, q2, q3⟩ := h2 X κ w tmps hP hTT hR hE
    refine ⟨.tuple cs.toArray, ?_, cs.toArray, rfl, by simpa using q2, fun i hi => ?_⟩
    · rw [results_run q1, dif_neg (by simp [q2])]
    · have := q3 i hi
      simpa using this

def argsEnv : Nat → List AV → Env
  | _, [] => []
  | i, a :: r => (i, a) :: argsEnv (i + 1) r

theorem argsEnv_ok {K : Kx} : ∀ (ars : List AV) (cs : List Value) (s : Nat) (t : Nat), VRs K ars cs → VR K (get (argsEnv s ars) t) (if s ≤ t then cs.getD (t - s) undef else undef)
  | [], _, _, _, _ => trivial
  | a :: ars, [], _, _, h => h.elim
  | a :: ars, c :: cs, s, t, h => by
    simp only [argsEnv, get]
    by_cases ht : t = s
    · subst ht
      simp only [Nat.beq_refl, cond_true]
      simpa using h.1
    · simp only [beq_ff ht, cond_false]
      have := argsEnv_ok ars cs (s + 1) t h.2
      by_cases hle : s ≤ t
      · rw [if_pos hle]
        rw [if_pos (by omega)] at this
        rw [show t - s = (t - (s + 1)) + 1 from by omega]
        simpa using this
      · rw [if_neg hle]
        rwa [if_neg (by omega)] at this

/-- What is asked at a function's end. -/
def retQ (T : TT) (rs : List ResultVar) (r : AV) (H : OL) : Exit → Env → OL → Prop
  | .normal, env, ol => RetW T rs env ol (fun v => ∃ ρ, Emb ρ [(0, v)] ol [(0, r)] H)
  | .ret, env, ol => RetW T rs env ol (fun v => ∃ ρ, Emb ρ [(0, v)] ol [(0, r)] H)
  | _, _, _ => False

theorem acalls_of (hT : TOk P T) {f : FuncId} {fn : Func} {c : Code} {ars : List AV} {r : AV} {H : OL} (hf : P.funcs[f]? = some fn) (hb : fn.body = some c) (hname : (fn.name == "runtime.NumGoroutine") = false)
    (hN : ars.length ≤ fn.ntmps) (h : Snd P T fn.ntmps c (argsEnv 0 ars) [] (retQ T fn.results.toList r H)) : ACalls P T f ars r H := by
  refine ⟨fun args w => ?_, fun w I cs hI hvs => ?_⟩
  · have hb' : fn.body.isNone = false := by rw [hb]; rfl
    have hb2 : fn.body.isNone = true ↔ False := by rw [hb']; simp
    have hn2 : ¬ fn.name = "runtime.NumGoroutine" := by simpa using hname
    simp [callFunc, hf, hn2, hb]
  · have hlen : ∀ (ars : List AV) (cs : List Value) (K : Kx), VRs K ars cs → cs.length = ars.length := by
      intro ars
      induction ars with
      | nil => intro cs K h; cases cs with
        | nil => rfl
        | cons => exact h.elim
      | cons a ars ih => intro cs K h; cases cs with
        | nil => exact h.elim
        | cons c cs => simp [ih cs K h.2]
    have hl := hlen ars cs _ hvs
    refine calls_of_wp hf hb ?_
    have hR : Rel ⟨P, T, w, I, fun _ => False⟩ ⟨fun _ _ => 0, fun _ _ => .any⟩ (OL.ob []) w :=
      ⟨rfl, rfl, rfl, Nat.le_refl _, fun _ _ _ => rfl, fun k i sh c hc => (by cases hc), fun k i _ _ hk => absurd rfl hk, fun k i hk => absurd rfl hk, fun b hb => ⟨hI b hb, fun h => h⟩, fun b hb => hb.elim⟩
    have hle : Le (K0 T I w) (KK ⟨P, T, w, I, fun _ => False⟩ ⟨fun _ _ => 0, fun _ _ => .any⟩ (OL.ob []) w) :=
      ⟨fun b hb => ⟨⟨.inl hb, fun k i hk => absurd rfl hk⟩, rfl⟩, fun k hk => hk.elim, fun k i hk => hk.elim, fun b cur e fr hb => ⟨cur, fr, hb, rfl⟩, rfl, rfl⟩
    refine wp_mono (h ⟨P, T, w, I, fun _ => False⟩ _ _ w rfl rfl hR (fun t => ?_) ?_ rfl) ?_
    · have := VR_mono hle (argsEnv_ok ars cs 0 t hvs)
      rw [if_pos (Nat.zero_le _), Nat.sub_zero] at this
      have e : (cs.toArray ++ Array.replicate (fn.ntmps - cs.toArray.size) undef).getD t undef = cs.getD t undef := by
        simp only [Array.getD_eq_getD_getElem?, List.getD_eq_getElem?_getD]
        rw [Array.getElem?_append]
        split
        · simp
        · rename_i hge
          rw [List.getElem?_eq_none (by simpa using hge)]
          rw [Array.getElem?_replicate]
          split <;> rfl
      rw [e]
      exact this
    · simp only [Array.size_append, List.size_toArray, Array.size_replicate]
      omega
    · rintro ex a' w' ⟨κ', env', ol', hq, hR', hE', hN', hD'⟩
      have fin : RetW T fn.results.toList env' ol' (fun v => ∃ ρ, Emb ρ [(0, v)] ol' [(0, r)] H) → a'.defers = [] ∧ ∃ v, (results fn a'.tmps).run P w' = .ok v w' ∧ (∃ c κ, Ending.returned v = .returned c ∧ Rel ⟨P, T, w, I, fun _ => False⟩ κ H.ob w' ∧ VR (KK ⟨P, T, w, I, fun _ => False⟩ κ H.ob w') r c) := by
        intro hret
        obtain ⟨v, ⟨ρ, hemb⟩, hrun⟩ := RetW_run hT hret
        obtain ⟨c, h1, h2⟩ := hrun _ κ' w' a'.tmps rfl rfl hR' hE'
        obtain ⟨κ2, hR2, hV⟩ := hemb.rel hR'
        refine ⟨hD', c, h1, c, κ2, rfl, hR2, ?_⟩
        exact MtE_VR hV hemb.1.1 h2
      cases ex with
      | normal => exact fin hq
      | ret => exact fin hq
      | _ => exact hq.elim
end
end Go.Am
/- Regions that draw their order. My own work. -/
set_option linter.unusedVariables false
set_option linter.unusedSimpArgs false
namespace Go.Am

def gd (all : Array Oper) (o : Oper) (env : Env) : Option Bool :=
  match o.guard with
  | none => some true
  | some (j, want) => (match (all[j]?).bind (·.dst) with
    | some d => (match get env d with
      | .bool b => some (b == want)
      | .tup 0 _ => some false
      | _ => none)
    | none => none)

def StepJ (P : Program) (T : TT) (arr : Array Oper) (o : Oper) (env : Env) (ol : OL) (v : AV) (ol' : OL) : Prop :=
  (gd arr o env = some false ∧ v = undA ∧ ol' = ol) ∨
  (gd arr o env = some true ∧
    ((kind o = 0 ∧ ol' = ol ∧ PureJ P T o (evE env) v) ∨
     (kind o = 1 ∧ ∃ A : OL, ol' = A ++ ol ∧ PassJ' P T o (evE env) ol.ob v A ∧ ∀ k, A.has k = true → ol.has k = false) ∨
     (kind o = 2 ∧ ActJ P T o (evE env) ol.ob v ol'.ob)))

def envOf (V : Nat → AV) (D : Nat → Bool) : Nat → List Oper → Env → Env
  | _, [], env => env
  | s, o :: r, env => envOf V D (s + 1) r (if D s = true then putE o.dst (V s) env else env)

theorem envOf_shift (V : Nat → AV) (D : Nat → Bool) : ∀ (ops : List Oper) (s : Nat) (env : Env), envOf V D (s + 1) ops env = envOf (fun j => V (j + 1)) (fun j => D (j + 1)) s ops env
  | [], _, _ => rfl
  | o :: r, s, env => by simp only [envOf]; exact envOf_shift V D r (s + 1) _

theorem get_putE (d : Option Nat) (v : AV) (env : Env) (t : Nat) : get (putE d v env) t = if d = some t then v else get env t := by
  cases d with
  | none => simp [putE]
  | some d =>
    simp only [putE, get]
    by_cases h : t = d
    · subst h; simp
    · rw [beq_ff h, if_neg (by simpa using fun e => h e.symm)]; rfl

theorem envOf_agree (V : Nat → AV) (D D' : Nat → Bool) (t : Nat) : ∀ (ops : List Oper) (s : Nat) (env env' : Env), get env t = get env' t →
    (∀ k o, ops[k]? = some o → o.dst = some t → D (s + k) = D' (s + k)) → get (envOf V D s ops env) t = get (envOf V D' s ops env') t
  | [], _, _, _, h, _ => h
  | o :: r, s, env, env', h, hD => by
    simp only [envOf]
    refine envOf_agree V D D' t r (s + 1) _ _ ?_ (fun k o hk ho => ?_)
    · by_cases ho : o.dst = some t
      · have := hD 0 o rfl ho
        simp only [Nat.add_zero] at this
        rw [this]
        cases hd : D' s
        · simpa using h
        · simp only [if_true]
          rw [get_putE, get_putE, if_pos ho, if_pos ho]
      · have e1 : get (if D s = true then putE o.dst (V s) env else env) t = get env t := by
          split
          · rw [get_putE, if_neg ho]
          · rfl
        have e2 : get (if D' s = true then putE o.dst (V s) env' else env') t = get env' t := by
          split
          · rw [get_putE, if_neg ho]
          · rfl
        rw [e1, e2, h]
    · have := hD (k + 1) o (by simpa using hk) ho
      rwa [show s + 1 + k = s + (k + 1) from by omega]

theorem envOf_none (V : Nat → AV) : ∀ (ops : List Oper) (s : Nat) (env : Env), envOf V (fun _ => false) s ops env = env
  | [], _, _ => rfl
  | o :: r, s, env => by simp only [envOf]; exact envOf_none V r (s + 1) _

theorem envOf_last (V : Nat → AV) (D : Nat → Bool) (t : Nat) : ∀ (ops : List Oper) (s i : Nat) (o : Oper) (env : Env), ops[i]? = some o → o.dst = some t → D (s + i) = true →
    (∀ k o', i < k → ops[k]? = some o' → o'.dst = some t → D (s + k) = false) → get (envOf V D s ops env) t = V (s + i)
  | [], _, _, _, _, h, _, _, _ => by simp at h
  | o1 :: r, s, 0, o, env, h, ho, hD, hl => by
    simp only [List.getElem?_cons_zero, Option.some.injEq] at h
    subst h
    simp only [Nat.add_zero] at hD
    simp only [envOf, hD, if_true, Nat.add_zero]
    rw [envOf_agree V D (fun _ => false) t r (s + 1) _ (putE o1.dst (V s) env) rfl (fun k o' hk ho' => ?_), envOf_none, get_putE, if_pos ho]
    have := hl (k + 1) o' (by omega) (by simpa using hk) ho'
    rwa [show s + 1 + k = s + (k + 1) from by omega]
  | o1 :: r, s, i + 1, o, env, h, ho, hD, hl => by
    simp only [envOf]
    rw [envOf_last V D t r (s + 1) i o _ (by simpa using h) ho (by rwa [show s + 1 + i = s + (i + 1) from by omega]) (fun k o' hk ho1 ho2 => ?_)]
    · congr 1; omega
    · have := hl (k + 1) o' (by omega) (by simpa using ho1) ho2
      rwa [show s + 1 + k = s + (k + 1) from by omega]

section
variable {P : Program} {T : TT}

theorem WOps_trace (hT : TOk P T) (arr : Array Oper) : ∀ (ops : List Oper) (env : Env) (ol : OL) (K : Env → OL → Prop), WOps P T arr ops env ol K →
    ∃ (V : Nat → AV) (O : Nat → OL), O 0 = ol ∧ (∀ k o, ops[k]? = some o → StepJ P T arr o (envOf V (fun j => decide (j < k)) 0 ops env) (O k) (V k) (O (k + 1))) ∧ K (envOf V (fun _ => true) 0 ops env) (O ops.length)
  | [], env, ol, K, h => ⟨fun _ => .any, fun _ => ol, rfl, fun k o hk => by simp at hk, h⟩
  | o :: r, env, ol, K, h => by
    have hh : ∃ v ol1, StepJ P T arr o env ol v ol1 ∧ WOps P T arr r (putE o.dst v env) ol1 K := by
      unfold WOps at h
      have run : gd arr o env = some true → WOp P T o (evE env) ol (fun v ol' => WOps P T arr r (putE o.dst v env) ol' K) → ∃ v ol1, StepJ P T arr o env ol v ol1 ∧ WOps P T arr r (putE o.dst v env) ol1 K := by
        intro hg hw
        obtain ⟨v, hw⟩ := WOp_sound hT hw
        rcases hw with ⟨h0, h1, h2⟩ | ⟨h0, A, h1, h2, h3⟩ | ⟨h0, ol', h1, h2, _⟩
        · exact ⟨v, ol, .inr ⟨hg, .inl ⟨h0, rfl, h2⟩⟩, h1⟩
        · exact ⟨v, A ++ ol, .inr ⟨hg, .inr (.inl ⟨h0, A, rfl, h2, h3⟩)⟩, h1⟩
        · exact ⟨v, ol', .inr ⟨hg, .inr (.inr ⟨h0, h2⟩)⟩, h1⟩
      split at h
      · rename_i hg
        exact run (by simp [gd, hg]) h
      · rename_i j want hg
        split at h
        · rename_i d hd
          split at h
          · rename_i b hb
            split at h
            · rename_i hbw
              exact run (by simp only [gd, hg, hd, hb, hbw]) h
            · rename_i hbw
              exact ⟨undA, ol, .inl ⟨by simp only [gd, hg, hd, hb, hbw], rfl, rfl⟩, h⟩
          · rename_i hb
            exact ⟨undA, ol, .inl ⟨by simp only [gd, hg, hd, hb], rfl, rfl⟩, h⟩
          · exact h.elim
        · exact h.elim
    obtain ⟨v, ol1, hs, hw⟩ := hh
    obtain ⟨V, O, hO, hst, hK⟩ := WOps_trace hT arr r _ ol1 K hw
    refine ⟨fun | 0 => v | k + 1 => V k, fun | 0 => ol | k + 1 => O k, rfl, fun k o' hk => ?_, ?_⟩
    · cases k with
      | zero =>
        simp only [List.getElem?_cons_zero, Option.some.injEq] at hk
        subst hk
        have : (fun j : Nat => decide (j < 0)) = fun _ => false := by funext j; simp
        rw [this, envOf_none]
        simp only [Nat.zero_add]
        rw [hO]
        exact hs
      | succ k =>
        have := hst k o' (by simpa using hk)
        simp only [envOf]
        rw [if_pos (by simp), envOf_shift]
        have e : (fun j : Nat => decide (j + 1 < k + 1)) = fun j => decide (j < k) := by funext j; simp
        rw [e]
        exact this
    · simp only [envOf, if_true]
      rw [envOf_shift]
      exact hK

structure DrawOk (ops : Array Oper) (U : Nat → Nat → Bool) (m0 : Nat) : Prop where
  le : m0 ≤ ops.size
  back : ∀ i oi, ops[i]? = some oi → ∀ e ∈ oi.after, Region.binds .any e = true → e.on < i
  k2 : ∀ i oi, ops[i]? = some oi → kind oi = 2 → m0 ≤ i
  k1 : ∀ i oi, ops[i]? = some oi → kind oi = 1 → i < m0
  clos : ∀ i oi j, ops[i]? = some oi → j < ops.size → U i j = true → ∃ e ∈ oi.after, Region.binds .any e = true ∧ (e.on = j ∨ U e.on j = true)
  ap : ∀ i oi j oj, ops[i]? = some oi → ops[j]? = some oj → j < i → oj.apart ops oi = true ∨ U i j = true
  act1 : ∀ i oi j oj, ops[i]? = some oi → ops[j]? = some oj → kind oi = 2 → kind oj = 1 → U i j = true
  act2 : ∀ i oi j oj, ops[i]? = some oi → ops[j]? = some oj → kind oi = 2 → kind oj = 2 → j < i → U i j = true

def chkD (ops : Array Oper) (U : Nat → Nat → Bool) (m0 : Nat) : Bool :=
  Nat.ble m0 ops.size &&
  (List.range ops.size).all fun i => match ops[i]? with
    | none => true
    | some oi =>
      (oi.after.toList.all fun e => !Region.binds .any e || Nat.blt e.on i) &&
      (!(Nat.beq (kind oi) 2) || Nat.ble m0 i) && (!(Nat.beq (kind oi) 1) || Nat.blt i m0) &&
      (List.range ops.size).all fun j => match ops[j]? with
        | none => true
        | some oj =>
          (!U i j || oi.after.toList.any fun e => Region.binds .any e && (Nat.beq e.on j || U e.on j)) &&
          (!(Nat.blt j i) || (U i j || oj.apart ops oi)) &&
          (!(Nat.beq (kind oi) 2) || (!(Nat.beq (kind oj) 1) || U i j)) &&
          (!(Nat.beq (kind oi) 2) || (!(Nat.beq (kind oj) 2) || (!(Nat.blt j i) || U i j)))

theorem chkD_ok {ops : Array Oper} {U : Nat → Nat → Bool} {m0 : Nat} (h : chkD ops U m0 = true) : DrawOk ops U m0 := by
  simp only [chkD, Bool.and_eq_true, List.all_eq_true, List.mem_range] at h
  obtain ⟨h0, h⟩ := h
  have lt : ∀ {i : Nat} {oi : Oper}, ops[i]? = some oi → i < ops.size := fun hi => (Array.getElem?_eq_some_iff.1 hi).1
  have g1 : ∀ i oi, ops[i]? = some oi → (((∀ e ∈ oi.after.toList, (!Region.binds .any e || Nat.blt e.on i) = true) ∧ (!(Nat.beq (kind oi) 2) || Nat.ble m0 i) = true) ∧ (!(Nat.beq (kind oi) 1) || Nat.blt i m0) = true) := by
    intro i oi hi
    have := h i (lt hi)
    rw [hi] at this
    simp only [Bool.and_eq_true, List.all_eq_true] at this
    exact ⟨⟨this.1.1.1, this.1.1.2⟩, this.1.2⟩
  have g2 : ∀ i oi j oj, ops[i]? = some oi → ops[j]? = some oj →
      ((((!U i j || oi.after.toList.any fun e => Region.binds .any e && (Nat.beq e.on j || U e.on j)) = true ∧ (!(Nat.blt j i) || (U i j || oj.apart ops oi)) = true) ∧
      (!(Nat.beq (kind oi) 2) || (!(Nat.beq (kind oj) 1) || U i j)) = true) ∧ (!(Nat.beq (kind oi) 2) || (!(Nat.beq (kind oj) 2) || (!(Nat.blt j i) || U i j))) = true) := by
    intro i oi j oj hi hj
    have := h i (lt hi)
    rw [hi] at this
    simp only [Bool.and_eq_true, List.all_eq_true, List.mem_range] at this
    have := this.2 j (lt hj)
    rw [hj] at this
    simpa only [Bool.and_eq_true] using this
  refine ⟨Nat.le_of_ble_eq_true h0, fun i oi hi e he hb => ?_, fun i oi hi hk => ?_, fun i oi hi hk => ?_, fun i oi j hi hj hu => ?_, fun i oi j oj hi hj hlt => ?_, fun i oi j oj hi hj h2 h1 => ?_, fun i oi j oj hi hj h2 h1 hlt => ?_⟩
  · have := (g1 i oi hi).1.1 e (by simpa using he)
    simpa [hb, Nat.blt_eq] using this
  · have := (g1 i oi hi).1.2
    simpa [hk] using this
  · have := (g1 i oi hi).2
    simpa [hk, Nat.blt_eq] using this
  · have := (g2 i oi j ops[j] hi (by simp [hj])).1.1.1
    simp only [hu, Bool.not_true, Bool.false_or, List.any_eq_true, Bool.and_eq_true, Bool.or_eq_true] at this
    obtain ⟨e, he, hb, hq⟩ := this
    exact ⟨e, by simpa using he, hb, hq.imp (fun h => Nat.eq_of_beq_eq_true h) id⟩
  · have := (g2 i oi j oj hi hj).1.1.2
    have hb : Nat.blt j i = true := by rw [Nat.blt_eq]; exact hlt
    simp only [hb, Bool.not_true, Bool.false_or, Bool.or_eq_true] at this
    exact this.symm
  · have := (g2 i oi j oj hi hj).1.2
    simpa [h2, h1] using this
  · have := (g2 i oi j oj hi hj).2
    have hb : Nat.blt j i = true := by rw [Nat.blt_eq]; exact hlt
    simpa [h2, h1, hb] using this

def numsOf (ops : Array Oper) : Array Nat := CheckFast.beforeF ops
def Uof (B : Array Nat) (i j : Nat) : Bool := (B.getD i 0).testBit j
def firstAct : List Oper → Nat → Nat
  | [], n => n
  | o :: r, n => bif Nat.beq (kind o) 2 then n else firstAct r (n + 1)
def drawOk (ops : Array Oper) : Bool := chkD ops (Uof (numsOf ops)) (firstAct ops.toList 0)


/-! ### The invariant -/

def Dl (listed : Array Bool) (j : Nat) : Bool := listed.getD j false

structure Tr (P : Program) (T : TT) (ops : Array Oper) (env : Env) (V : Nat → AV) (O : Nat → OL) : Prop where
  step : ∀ k o, ops[k]? = some o → StepJ P T ops o (envOf V (fun j => decide (j < k)) 0 ops.toList env) (O k) (V k) (O (k + 1))

variable {ops : Array Oper} {U : Nat → Nat → Bool} {m0 : Nat} {env : Env} {V : Nat → AV} {O : Nat → OL}

theorem down (hd : DrawOk ops U m0) {D : Nat → Bool} (hcl : ∀ i oi, ops[i]? = some oi → D i = true → ∀ e ∈ oi.after, Region.binds .any e = true → D e.on = true) :
    ∀ i oi j, ops[i]? = some oi → j < ops.size → U i j = true → (∀ e ∈ oi.after, Region.binds .any e = true → D e.on = true) → D j = true := by
  intro i
  induction i using Nat.strongRecOn with
  | _ i ih =>
    intro oi j hi hj hu hr
    obtain ⟨e, he, hb, hq⟩ := hd.clos i oi j hi hj hu
    have hlt := hd.back i oi hi e he hb
    have hin := (Array.getElem?_eq_some_iff.1 hi).1
    have hD := hr e he hb
    rcases hq with hq | hq
    · exact hq ▸ hD
    · have hx : ops[e.on]? = some ops[e.on] := by simp [Nat.lt_trans hlt hin]
      exact ih e.on hlt _ j hx hj hq (hcl e.on _ hx hD)

theorem kind_le (o : Oper) : kind o = 0 ∨ kind o = 1 ∨ kind o = 2 := by
  unfold kind
  split <;> simp

theorem Tr.same (ht : Tr P T ops env V O) {k : Nat} {o : Oper} (hk : ops[k]? = some o) (h0 : kind o = 0) : O (k + 1) = O k := by
  rcases ht.step k o hk with ⟨_, _, h⟩ | ⟨_, ⟨_, h, _⟩ | ⟨h, _⟩ | ⟨h, _⟩⟩
  · exact h
  · exact h
  · rw [h0] at h; cases h
  · rw [h0] at h; cases h

theorem Tr.up (ht : Tr P T ops env V O) {j : Nat} {o : Oper} (hj : ops[j]? = some o) (h2 : kind o ≠ 2) {k : Nat} (hk : (O j).has k = true) : (O (j + 1)).has k = true ∧ ∀ i, (O (j + 1)).at_ k i = (O j).at_ k i := by
  rcases ht.step j o hj with ⟨_, _, h⟩ | ⟨_, ⟨_, h, _⟩ | ⟨_, A, h, _, hf⟩ | ⟨h, _⟩⟩
  · rw [h]; exact ⟨hk, fun _ => rfl⟩
  · rw [h]; exact ⟨hk, fun _ => rfl⟩
  · rw [h]
    refine ⟨by rw [OL.has_append, hk]; simp, fun i => ?_⟩
    rw [OL.at_append]
    split
    · rename_i hA
      rw [hf k hA] at hk; cases hk
    · rfl
  · exact absurd h h2

theorem Tr.chain (ht : Tr P T ops env V O) (hd : DrawOk ops U m0) {a : Nat} : ∀ d, a + d ≤ m0 → ∀ {k : Nat}, (O a).has k = true → (O (a + d)).has k = true ∧ ∀ i, (O (a + d)).at_ k i = (O a).at_ k i
  | 0, _, k, hk => ⟨hk, fun _ => rfl⟩
  | d + 1, h, k, hk => by
    obtain ⟨h1, h2⟩ := ht.chain hd d (by omega) hk
    have hlt : a + d < ops.size := by have := hd.le; omega
    have hx : ops[a + d]? = some ops[a + d] := by simp [hlt]
    obtain ⟨h3, h4⟩ := ht.up hx (fun h2 => by have := hd.k2 _ _ hx h2; omega) h1
    exact ⟨h3, fun i => (h4 i).trans (h2 i)⟩

theorem Tr.mono (ht : Tr P T ops env V O) (hd : DrawOk ops U m0) {a b : Nat} (hab : a ≤ b) (hb : b ≤ m0) {k : Nat} (hk : (O a).has k = true) : (O b).has k = true ∧ ∀ i, (O b).at_ k i = (O a).at_ k i := by
  obtain ⟨d, rfl⟩ := Nat.exists_eq_add_of_le hab
  exact ht.chain hd d hb hk

theorem Tr.born (ht : Tr P T ops env V O) (hd : DrawOk ops U m0) {k : Nat} : ∀ b, b ≤ m0 → (O b).has k = true → (O 0).has k = true ∨ ∃ j, j < b ∧ (O (j + 1)).has k = true ∧ (O j).has k = false
  | 0, _, h => .inl h
  | b + 1, hb, h => by
    cases hq : (O b).has k with
    | true =>
      rcases ht.born hd b (by omega) hq with h | ⟨j, h1, h2⟩
      · exact .inl h
      · exact .inr ⟨j, by omega, h2⟩
    | false => exact .inr ⟨b, by omega, h, hq⟩

/-- Between two places with no writing between them nothing turns, behind the first writing. -/
theorem Tr.still (ht : Tr P T ops env V O) (hd : DrawOk ops U m0) {a : Nat} (ha : m0 ≤ a) : ∀ d, a + d ≤ ops.size → (∀ j o, ops[j]? = some o → a ≤ j → j < a + d → kind o ≠ 2) → O (a + d) = O a
  | 0, _, _ => rfl
  | d + 1, h, hk => by
    have hlt : a + d < ops.size := by omega
    have hx : ops[a + d]? = some ops[a + d] := by simp [hlt]
    have h0 : kind ops[a + d] = 0 := by
      rcases kind_le ops[a + d] with h0 | h1 | h2
      · exact h0
      · have := hd.k1 _ _ hx h1; omega
      · exact absurd h2 (hk _ _ hx (by omega) (by omega))
    rw [← Nat.add_assoc, ht.same hx h0]
    exact ht.still hd ha d (by omega) (fun j o hj h1 h2 => hk j o hj h1 (by omega))

def Mem (ops : Array Oper) (m0 : Nat) (O : Nat → OL) (D : Nat → Bool) (ob : Ob) : Prop :=
  ((∀ i oi, ops[i]? = some oi → kind oi = 2 → D i = false) ∧
    (∀ k, ob.has k = true ↔ (O 0).has k = true ∨ ∃ j, j < m0 ∧ D j = true ∧ (O (j + 1)).has k = true ∧ (O j).has k = false) ∧
    (∀ k, ob.has k = true → ∀ i, ob.at_ k i = (O m0).at_ k i)) ∨
  ((∀ i oi, ops[i]? = some oi → kind oi = 1 → D i = true) ∧ ∃ m, m0 ≤ m ∧ m ≤ ops.size ∧ (∀ i oi, ops[i]? = some oi → kind oi = 2 → (D i = true ↔ i < m)) ∧ ob = (O m).ob)

theorem Ob_ext {a b : Ob} (h1 : ∀ k i, a.at_ k i = b.at_ k i) (h2 : ∀ k, a.has k = b.has k) : a = b := by
  cases a; cases b
  simp only [Ob.mk.injEq]
  exact ⟨funext fun k => funext fun i => h1 k i, funext h2⟩

/-- All that only read are through: the first part's end. -/
theorem Mem.turn (ht : Tr P T ops env V O) (hd : DrawOk ops U m0) {D : Nat → Bool} {ob : Ob} (hob : ∀ k i, ob.at_ k i ≠ none → ob.has k = true) (hm : Mem ops m0 O D ob)
    (h1 : ∀ i oi, ops[i]? = some oi → kind oi = 1 → D i = true) :
    ∃ m, m0 ≤ m ∧ m ≤ ops.size ∧ (∀ i oi, ops[i]? = some oi → kind oi = 2 → (D i = true ↔ i < m)) ∧ ob = (O m).ob := by
  rcases hm with ⟨h2, h3, h4⟩ | ⟨_, h⟩
  · refine ⟨m0, Nat.le_refl _, hd.le, fun i oi hi hk => ?_, ?_⟩
    · rw [h2 i oi hi hk]
      have := hd.k2 i oi hi hk
      constructor
      · intro h; cases h
      · intro h; omega
    · have hh : ∀ k, ob.has k = true ↔ (O m0).has k = true := by
        intro k
        rw [h3 k]
        constructor
        · rintro (h | ⟨j, hj, _, h, _⟩)
          · exact (ht.mono hd (Nat.zero_le _) (Nat.le_refl _) h).1
          · exact (ht.mono hd (by omega : j + 1 ≤ m0) (Nat.le_refl _) h).1
        · intro h
          rcases ht.born hd m0 (Nat.le_refl _) h with h | ⟨j, hj, ha, hb⟩
          · exact .inl h
          · refine .inr ⟨j, hj, ?_, ha, hb⟩
            have hlt : j < ops.size := by have := hd.le; omega
            have hx : ops[j]? = some ops[j] := by simp [hlt]
            rcases kind_le ops[j] with h0 | h5 | h5
            · rw [ht.same hx h0, hb] at ha; cases ha
            · exact h1 _ _ hx h5
            · have := hd.k2 _ _ hx h5; omega
      refine Ob_ext (fun k i => ?_) (fun k => ?_)
      · cases hk : ob.has k with
        | true => exact h4 k hk i
        | false =>
          have e1 : ob.at_ k i = none := by
            apply Classical.byContradiction
            intro hne
            rw [hob k i hne] at hk; cases hk
          have e2 : (O m0).at_ k i = none := by
            apply Classical.byContradiction
            intro hne
            have := (hh k).2 (OL.has_of_at hne)
            rw [this] at hk; cases hk
          rw [e1]
          exact e2.symm
      · have := hh k
        show ob.has k = (O m0).has k
        cases hx : ob.has k
        · rw [hx] at this
          cases hy : (O m0).has k
          · rfl
          · exact absurd (this.2 hy) (by simp)
        · exact (this.1 hx).symm
  · exact h


theorem mem_rdy {listed : Array Bool} {i : Nat} (h : i ∈ Region.ready .any ops listed) :
    ∃ oi, ops[i]? = some oi ∧ listed.getD i true = false ∧ ∀ e ∈ oi.after, Region.binds .any e = true → Dl listed e.on = true := by
  simp only [Region.ready, List.mem_filter, List.mem_range, Bool.and_eq_true, Bool.not_eq_true'] at h
  obtain ⟨hlt, h1, h2⟩ := h
  have hx : ops[i]? = some ops[i] := by simp [hlt]
  rw [hx] at h2
  simp only [Option.map_some, Option.getD_some, Array.all_eq_true_iff_forall_mem] at h2
  refine ⟨_, hx, h1, fun e he hb => ?_⟩
  have := h2 e he
  simpa [hb, Dl] using this

theorem rdy_nil (hd : DrawOk ops U m0) {listed : Array Bool} (hs : listed.size = ops.size) (h : Region.ready .any ops listed = []) : ∀ i, i < ops.size → Dl listed i = true := by
  intro i
  induction i using Nat.strongRecOn with
  | _ i ih =>
    intro hi
    apply Classical.byContradiction
    intro hn
    have hx : ops[i]? = some ops[i] := by simp [hi]
    have : i ∈ Region.ready .any ops listed := by
      simp only [Region.ready, List.mem_filter, List.mem_range, Bool.and_eq_true, Bool.not_eq_true']
      refine ⟨hi, ?_, ?_⟩
      · have : Dl listed i = false := by simpa using hn
        simp only [Dl, Array.getD_eq_getD_getElem?] at this ⊢
        have hl : i < listed.size := hs ▸ hi
        simp only [hl, Array.getElem?_eq_getElem, Option.getD_some] at this ⊢
        exact this
      · rw [hx]
        simp only [Option.map_some, Option.getD_some, Array.all_eq_true_iff_forall_mem]
        intro e he
        cases hb : Region.binds .any e
        · rfl
        · have hlt := hd.back i _ hx e he hb
          have := ih e.on hlt (by omega)
          simp only [Dl] at this
          simp [this]
    rw [h] at this
    cases this

theorem Mem.zero (ht : Tr P T ops env V O) {D D' : Nat → Bool} {i : Nat} {oi : Oper} (hi : ops[i]? = some oi) (h0 : kind oi ≠ 2) (hDi : D i = false)
    (hD' : ∀ j, D' j = if j = i then true else D j) (hsame : O (i + 1) = O i) {ob : Ob} (hm : Mem ops m0 O D ob) : Mem ops m0 O D' ob := by
  rcases hm with ⟨h2, h3, h4⟩ | ⟨h1, m, q1, q2, q3, q4⟩
  · refine .inl ⟨fun j oj hj hk => ?_, fun k => ?_, h4⟩
    · rw [hD' j]
      by_cases hji : j = i
      · subst hji; rw [hi] at hj; cases hj; exact absurd hk h0
      · rw [if_neg hji]; exact h2 j oj hj hk
    · rw [h3 k]
      constructor
      · rintro (h | ⟨j, ha, hb, hc⟩)
        · exact .inl h
        · exact .inr ⟨j, ha, by rw [hD' j]; split <;> simp_all, hc⟩
      · rintro (h | ⟨j, ha, hb, hc, hd⟩)
        · exact .inl h
        · by_cases hji : j = i
          · subst hji; rw [hsame, hd] at hc; cases hc
          · rw [hD' j, if_neg hji] at hb
            exact .inr ⟨j, ha, hb, hc, hd⟩
  · refine .inr ⟨fun j oj hj hk => ?_, m, q1, q2, fun j oj hj hk => ?_, q4⟩
    · rw [hD' j]; split
      · rfl
      · exact h1 j oj hj hk
    · by_cases hji : j = i
      · subst hji; rw [hi] at hj; cases hj; exact absurd hk h0
      · rw [hD' j, if_neg hji]; exact q3 j oj hj hk

theorem Mem.one (ht : Tr P T ops env V O) (hd : DrawOk ops U m0) {D D' : Nat → Bool} {i : Nat} {oi : Oper} (hi : ops[i]? = some oi) (h1 : kind oi = 1) (hDi : D i = false)
    (hD' : ∀ j, D' j = if j = i then true else D j) {A : OL} (hA : O (i + 1) = A ++ O i) (hf : ∀ k, A.has k = true → (O i).has k = false) {ob : Ob} (hm : Mem ops m0 O D ob) :
    (∀ k, ob.has k = true → (O i).ob.has k = true → ∀ j, ob.at_ k j = (O i).ob.at_ k j) ∧ (∀ k, A.has k = true → ob.has k = false) ∧ Mem ops m0 O D' (A.ob.ext ob) := by
  have him := hd.k1 i oi hi h1
  rcases hm with ⟨h2, h3, h4⟩ | ⟨h5, _⟩
  · refine ⟨fun k hk hk2 j => ?_, fun k hk => ?_, .inl ⟨fun j oj hj hk => ?_, fun k => ?_, fun k hk j => ?_⟩⟩
    · rw [h4 k hk j]
      exact (ht.mono hd (Nat.le_of_lt him) (Nat.le_refl _) hk2).2 j
    · have hn := hf k hk
      apply Classical.byContradiction
      intro hh
      have hh : ob.has k = true := by simpa using hh
      rcases (h3 k).1 hh with h | ⟨j, ha, hb, hc, hdd⟩
      · have := (ht.mono hd (Nat.zero_le i) (Nat.le_of_lt him) h).1
        rw [hn] at this; cases this
      · by_cases hji : j < i
        · have := (ht.mono hd (by omega : j + 1 ≤ i) (Nat.le_of_lt him) hc).1
          rw [hn] at this; cases this
        · by_cases hij : j = i
          · subst hij; rw [hDi] at hb; cases hb
          · have : (O (i + 1)).has k = true := by rw [hA, OL.has_append, hk]; rfl
            have := (ht.mono hd (by omega : i + 1 ≤ j) (Nat.le_of_lt ha) this).1
            rw [hdd] at this; cases this
    · rw [hD' j]
      by_cases hji : j = i
      · subst hji; rw [hi] at hj; cases hj; rw [h1] at hk; cases hk
      · rw [if_neg hji]; exact h2 j oj hj hk
    · have e : (A.ob.ext ob).has k = (A.has k || ob.has k) := rfl
      rw [e, Bool.or_eq_true, h3 k]
      constructor
      · rintro (h | h | ⟨j, ha, hb, hc⟩)
        · exact .inr ⟨i, him, by rw [hD' i, if_pos rfl], by rw [hA, OL.has_append, h]; rfl, hf k h⟩
        · exact .inl h
        · exact .inr ⟨j, ha, by rw [hD' j]; split <;> simp_all, hc⟩
      · rintro (h | ⟨j, ha, hb, hc, hdd⟩)
        · exact .inr (.inl h)
        · by_cases hji : j = i
          · subst hji
            rw [hA, OL.has_append, hdd] at hc
            exact .inl (by simpa using hc)
          · rw [hD' j, if_neg hji] at hb
            exact .inr (.inr ⟨j, ha, hb, hc, hdd⟩)
    · have e : (A.ob.ext ob).at_ k j = if A.has k = true then A.at_ k j else ob.at_ k j := rfl
      rw [e]
      split
      · rename_i hAk
        have hx : (O (i + 1)).has k = true := by rw [hA, OL.has_append, hAk]; rfl
        rw [(ht.mono hd (by omega : i + 1 ≤ m0) (Nat.le_refl _) hx).2 j, hA, OL.at_append, if_pos hAk]
      · rename_i hAk
        refine h4 k ?_ j
        have : (A.has k || ob.has k) = true := hk
        simpa [hAk] using this
  · have := h5 i oi hi h1
    rw [hDi] at this; cases this

theorem Mem.two (ht : Tr P T ops env V O) (hd : DrawOk ops U m0) {D D' : Nat → Bool} {i : Nat} {oi : Oper} (hi : ops[i]? = some oi) (h2 : kind oi = 2) (hDi : D i = false)
    (hD' : ∀ j, D' j = if j = i then true else D j) (hU : ∀ j, j < ops.size → U i j = true → D j = true) {ob : Ob} (hob : ∀ k i, ob.at_ k i ≠ none → ob.has k = true) (hm : Mem ops m0 O D ob) :
    ob = (O i).ob ∧ Mem ops m0 O D' (O (i + 1)).ob := by
  have lt : ∀ {i : Nat} {oi : Oper}, ops[i]? = some oi → i < ops.size := fun hi => (Array.getElem?_eq_some_iff.1 hi).1
  have h1 : ∀ j oj, ops[j]? = some oj → kind oj = 1 → D j = true := fun j oj hj hk => hU j (lt hj) (hd.act1 i oi j oj hi hj h2 hk)
  obtain ⟨m, q1, q2, q3, q4⟩ := hm.turn ht hd hob h1
  have hmi : m ≤ i := by
    apply Nat.le_of_not_lt
    intro h
    have := (q3 i oi hi h2).2 h
    rw [hDi] at this; cases this
  have hst : O i = O m := by
    have := ht.still hd q1 (i - m) (by have := lt hi; omega) (fun j oj hj ha hb hk => by
      have hu := hd.act2 i oi j oj hi hj h2 hk (by omega)
      have := (q3 j oj hj hk).1 (hU j (lt hj) hu)
      omega)
    rwa [show m + (i - m) = i from by omega] at this
  refine ⟨by rw [q4, hst], .inr ⟨fun j oj hj hk => ?_, i + 1, by omega, by have := lt hi; omega, fun j oj hj hk => ?_, rfl⟩⟩
  · rw [hD' j]; split
    · rfl
    · exact h1 j oj hj hk
  · rw [hD' j]
    by_cases hji : j = i
    · subst hji; simp
    · rw [if_neg hji]
      constructor
      · intro h
        have := (q3 j oj hj hk).1 h
        omega
      · intro h
        exact hU j (lt hj) (hd.act2 i oi j oj hi hj h2 hk (by omega))

theorem Mem.all (ht : Tr P T ops env V O) (hd : DrawOk ops U m0) {D : Nat → Bool} {ob : Ob} (hob : ∀ k i, ob.at_ k i ≠ none → ob.has k = true) (hm : Mem ops m0 O D ob) (hall : ∀ i, i < ops.size → D i = true) : ob = (O ops.size).ob := by
  have lt : ∀ {i : Nat} {oi : Oper}, ops[i]? = some oi → i < ops.size := fun hi => (Array.getElem?_eq_some_iff.1 hi).1
  obtain ⟨m, q1, q2, q3, q4⟩ := hm.turn ht hd hob (fun j oj hj _ => hall j (lt hj))
  have := ht.still hd q1 (ops.size - m) (by omega) (fun j oj hj ha hb hk => by
    have := (q3 j oj hj hk).1 (hall j (lt hj))
    omega)
  rw [show m + (ops.size - m) = ops.size from by omega] at this
  rw [q4, this]

structure Inv (P : Program) (T : TT) (ops : Array Oper) (m0 N : Nat) (env : Env) (V : Nat → AV) (O : Nat → OL) (X : Cx) (listed : Array Bool) (a : Act) (w : World) : Prop where
  sz : listed.size = ops.size
  cl : ∀ i oi, ops[i]? = some oi → Dl listed i = true → ∀ e ∈ oi.after, Region.binds .any e = true → Dl listed e.on = true
  pic : ∃ κ ob, Rel X κ ob w ∧ (∀ t, VR (KK X κ ob w) (get (envOf V (Dl listed) 0 ops.toList env) t) (a.tmps.getD t undef)) ∧ Mem ops m0 O (Dl listed) ob
  size : a.tmps.size = N
  defers : a.defers = []

theorem listed_set {listed : Array Bool} {i : Nat} (hi : i < listed.size) (j : Nat) : Dl (listed.setIfInBounds i true) j = if j = i then true else Dl listed j := by
  simp only [Dl, Array.getD_eq_getD_getElem?]
  by_cases h : j = i
  · subst h; simp [hi]
  · rw [if_neg h, Array.getElem?_setIfInBounds_ne (Ne.symm h)]

theorem looks_dst {o : Oper} {t : Nat} (h : Operand.tmp t ∈ o.op.operands.toList) : t ∈ o.looksAt ops :=
  List.mem_append_left _ (List.mem_filterMap.2 ⟨.tmp t, h, rfl⟩)

theorem looks_guard {o : Oper} {j d : Nat} {b : Bool} (hg : o.guard = some (j, b)) (hd : (ops[j]?).bind (·.dst) = some d) : d ∈ o.looksAt ops := by
  refine List.mem_append_right _ ?_
  rw [hg]
  simp only
  rw [hd]
  simp


theorem draw_step (hd : DrawOk ops U m0) (ht : Tr P T ops env V O) {N : Nat} (hdst : dstOk N ops.toList = true) {X : Cx} (hP : X.P = P) (hTT : X.T = T) {listed : Array Bool} {a : Act} {w : World}
    (h : Inv P T ops m0 N env V O X listed a w) {i : Nat} (hi : i ∈ Region.ready .any ops listed) {Q : Exit → Act → World → Prop} {K : Act → World → Prop}
    (hK : ∀ a' w', Inv P T ops m0 N env V O X (listed.setIfInBounds i true) a' w' → K a' w') : wpOp P ops Q i K a w := by
  obtain ⟨oi, hx, hli, hre⟩ := mem_rdy hi
  have lt : ∀ {i : Nat} {oi : Oper}, ops[i]? = some oi → i < ops.size := fun hi => (Array.getElem?_eq_some_iff.1 hi).1
  have hin := lt hx
  have hinl : i < listed.size := h.sz ▸ hin
  have hDi : Dl listed i = false := by
    simp only [Dl, Array.getD_eq_getD_getElem?, hinl, Array.getElem?_eq_getElem, Option.getD_some] at hli ⊢
    exact hli
  have hD' := listed_set (listed := listed) hinl
  have hU : ∀ j, j < ops.size → U i j = true → Dl listed j = true := fun j hj hu => down hd h.cl i oi j hx hj hu hre
  have hUn : ∀ k ok, ops[k]? = some ok → U k i = true → Dl listed k = false := fun k ok hk hu => by
    apply Classical.byContradiction
    intro hn
    have hn : Dl listed k = true := by simpa using hn
    have := down hd h.cl k ok i hk hin hu (h.cl k ok hk hn)
    rw [hDi] at this; cases this
  obtain ⟨κ, ob, hR, hE, hM⟩ := h.pic
  have hob : ∀ k i, ob.at_ k i ≠ none → ob.has k = true := hR.has
  -- what it looks at is what it looks at in the text's order
  have hag : ∀ t, t ∈ oi.looksAt ops → get (envOf V (Dl listed) 0 ops.toList env) t = get (envOf V (fun j => decide (j < i)) 0 ops.toList env) t := by
    intro t htl
    refine envOf_agree V _ _ t _ 0 env env rfl (fun k o hk ho => ?_)
    rw [Array.getElem?_toList] at hk
    rw [Nat.zero_add]
    rcases Nat.lt_trichotomy k i with hki | hki | hki
    · rw [decide_eq_true hki]
      rcases hd.ap i oi k o hx hk hki with hap | hu
      · exact absurd htl ((Oper.apart_spec hap).1 t ho)
      · exact hU k (lt hk) hu
    · subst hki
      rw [hDi]; simp
    · rw [decide_eq_false (by omega)]
      rcases hd.ap k o i oi hk hx hki with hap | hu
      · exact absurd htl ((Oper.apart_spec hap).2.2 t ho)
      · exact hUn k o hk hu
  have hput : ∀ t, get (envOf V (Dl (listed.setIfInBounds i true)) 0 ops.toList env) t = if oi.dst = some t then V i else get (envOf V (Dl listed) 0 ops.toList env) t := by
    intro t
    by_cases hdt : oi.dst = some t
    · rw [if_pos hdt, envOf_last V _ t ops.toList 0 i oi env (by rw [Array.getElem?_toList]; exact hx) hdt (by rw [Nat.zero_add, hD', if_pos rfl]) (fun k o hk hk2 ho => ?_), Nat.zero_add]
      rw [Array.getElem?_toList] at hk2
      rw [Nat.zero_add, hD', if_neg (by omega)]
      rcases hd.ap k o i oi hk2 hx hk with hap | hu
      · exact absurd ho ((Oper.apart_spec hap).2.1 t hdt)
      · exact hUn k o hk2 hu
    · rw [if_neg hdt]
      refine envOf_agree V _ _ t _ 0 env env rfl (fun k o hk ho => ?_)
      rw [Array.getElem?_toList] at hk
      rw [Nat.zero_add, hD', if_neg (fun e => by subst e; rw [hx] at hk; cases hk; exact hdt ho)]
  have hdstN : ∀ t, oi.dst = some t → t < a.tmps.size := fun t hdt => by
    simp only [dstOk, List.all_eq_true] at hdst
    have := hdst oi (by simpa using Array.mem_of_getElem? hx)
    rw [hdt] at this
    rw [h.size]; simpa [Nat.blt_eq] using this
  have hcl' : ∀ j oj, ops[j]? = some oj → Dl (listed.setIfInBounds i true) j = true → ∀ e ∈ oj.after, Region.binds .any e = true → Dl (listed.setIfInBounds i true) e.on = true := by
    intro j oj hj hDj e he hb
    rw [hD'] at hDj ⊢
    split
    · rfl
    · by_cases hji : j = i
      · subst hji; rw [hx] at hj; cases hj; exact hre e he hb
      · rw [if_neg hji] at hDj; exact h.cl j oj hj hDj e he hb
  -- the frame behind it
  have next : ∀ (c : Value) (w' : World) (κ' : Gh) (ob' : Ob), Rel X κ' ob' w' → VR (KK X κ' ob' w') (V i) c → Le (KK X κ ob w) (KK X κ' ob' w') → Mem ops m0 O (Dl (listed.setIfInBounds i true)) ob' → K (a.put oi.dst c) w' := by
    intro c w' κ' ob' hR' hv hle hM'
    refine hK _ _ ⟨by simp [h.sz], hcl', ⟨κ', ob', hR', fun t => ?_, hM'⟩, by rw [Act.put_size]; exact h.size, by rw [Am.Act.put_defers]; exact h.defers⟩
    rw [hput t]
    by_cases hdt : oi.dst = some t
    · rw [if_pos hdt, hdt]
      have : (a.put (some t) c).tmps.getD t undef = c := by simp [Act.put, hdstN t hdt]
      rw [this]; exact hv
    · rw [if_neg hdt]
      have : (a.put oi.dst c).tmps.getD t undef = a.tmps.getD t undef := by
        cases hq : oi.dst with
        | none => rfl
        | some d =>
          have hne : d ≠ t := fun e => hdt (by rw [hq, e])
          simp [Act.put, Array.getElem?_setIfInBounds_ne hne]
      rw [this]; exact VR_mono hle (hE t)
  have hops : ∀ x ∈ oi.op.operands.toList, VR (KK X κ ob w) (evE (envOf V (fun j => decide (j < i)) 0 ops.toList env) x) (a.eval x) := by
    intro x hxo
    cases x with
    | tmp t => have := hE t; rw [hag t (looks_dst hxo)] at this; exact this
    | const v => exact constAV_ok _ v
    | global g => trivial
    | func g => exact ⟨#[], rfl, rfl, fun i hi => by omega⟩
  -- is it wanted
  have want : ∀ b, gd ops oi (envOf V (fun j => decide (j < i)) 0 ops.toList env) = some b → Region.wanted oi (yielded ops a.tmps) = b := by
    intro b hb
    unfold gd at hb
    split at hb
    · rename_i hg
      cases hb
      simp [Region.wanted, hg]
    · rename_i j wnt hg
      split at hb
      · rename_i d hdd
        split at hb
        · rename_i b' hb'
          cases hb
          rw [← hag d (looks_guard hg hdd)] at hb'
          have hy := yielded_of hdd hE hb' (dst_lt_of_eq hE hb')
          simp [Region.wanted, hg, hy]
        · rename_i hb'
          cases hb
          rw [← hag d (looks_guard hg hdd)] at hb'
          have hy := yielded_none hdd hE hb'
          simp [Region.wanted, hg, hy]
        · cases hb
      · cases hb
  have hsz : ∀ r, Oper.upon X.P oi a K Q r → Oper.upon P oi a K Q r := fun r hr => by rw [← hP]; exact hr
  unfold wpOp
  rw [hx]
  simp only
  have hst := ht.step i oi hx
  rcases hst with ⟨hg, hv, hs⟩ | ⟨hg, hst⟩
  · rw [if_neg (by rw [want _ hg]; simp)]
    have hvu : VR (KK X κ ob w) (V i) undef := by rw [hv]; exact undA_ok _
    rcases kind_le oi with h0 | h1 | h2
    · exact next undef w κ ob hR hvu (Le.refl _) (hM.zero ht hx (by omega) hDi hD' hs)
    · exact next undef w κ ob hR hvu (Le.refl _) (hM.zero ht hx (by omega) hDi hD' hs)
    · obtain ⟨e1, e2⟩ := hM.two ht hd hx h2 hDi hD' hU hob
      rw [hs, ← e1] at e2
      exact next undef w κ ob hR hvu (Le.refl _) e2
  · rw [if_pos (want _ hg)]
    refine .inl ?_
    unfold Oper.wp
    rw [← hP]
    rcases hst with ⟨h0, hs, hj⟩ | ⟨h1, A, hs, hj, hf⟩ | ⟨h2, hj⟩
    · have := (PassJ.of_pure hj ob) X κ ob w a.eval hP hTT hR (fun _ _ _ _ => rfl) (fun k hk => by cases hk) hops
      rw [Ob.ext_nil, ← hP] at this
      exact upon_of_Out this (fun c w' κ' hR' hv hle => next c w' κ' ob hR' hv hle (hM.zero ht hx (by omega) hDi hD' hs))
    · obtain ⟨e1, e2, e3⟩ := hM.one ht hd hx h1 hDi hD' hs hf
      have := hj X κ ob w a.eval hP hTT (fun _ => rfl) hR e1 e2 hops
      rw [← hP] at this
      exact upon_of_Out this (fun c w' κ' hR' hv hle => next c w' κ' _ hR' hv hle e3)
    · obtain ⟨e1, e2⟩ := hM.two ht hd hx h2 hDi hD' hU hob
      subst e1
      have := hj X κ w a.eval hP hTT hR hops
      rw [← hP] at this
      exact upon_of_Out this (fun c w' κ' hR' hv hle => next c w' κ' _ hR' hv hle e2)

def left (ops : Array Oper) (listed : Array Bool) : Nat := ((List.range ops.size).filter fun i => !Dl listed i).length

theorem left_lt {listed : Array Bool} {i : Nat} (hi : i < ops.size) (hl : i < listed.size) (hD : Dl listed i = false) : left ops (listed.setIfInBounds i true) < left ops listed := by
  unfold left
  have : (List.range ops.size).filter (fun j => !Dl (listed.setIfInBounds i true) j) = ((List.range ops.size).filter (fun j => !Dl listed j)).filter (fun j => !(j == i)) := by
    rw [List.filter_filter]
    congr 1
    funext j
    rw [listed_set hl j]
    by_cases h : j = i
    · simp [h]
    · simp [h]
  rw [this]
  exact List.length_filter_lt_length_iff_exists.2 ⟨i, by simp [hi, hD], by simp⟩

theorem draw_any (hd : DrawOk ops U m0) (ht : Tr P T ops env V O) {N : Nat} (hdst : dstOk N ops.toList = true) {X : Cx} (hP : X.P = P) (hTT : X.T = T) {Q : Exit → Env → OL → Prop}
    (hK : Q .normal (envOf V (fun _ => true) 0 ops.toList env) (O ops.size)) :
    ∀ (fuel : Nat) (listed : Array Bool) (a : Act) (w : World), left ops listed ≤ fuel → Inv P T ops m0 N env V O X listed a w → wpAny P .any ops (QQ X N Q) fuel listed a w := by
  have fin : ∀ (listed : Array Bool) (a : Act) (w : World), Inv P T ops m0 N env V O X listed a w → (∀ i, i < ops.size → Dl listed i = true) → QQ X N Q .normal a w := by
    intro listed a w h hall
    obtain ⟨κ, ob, hR, hE, hM⟩ := h.pic
    have e := hM.all ht hd hR.has hall
    subst e
    refine ⟨κ, _, _, hK, hR, fun t => ?_, h.size, h.defers⟩
    have := hE t
    rwa [envOf_agree V (Dl listed) (fun _ => true) t _ 0 env env rfl (fun k o hk _ => by
      rw [Array.getElem?_toList] at hk
      rw [Nat.zero_add, hall k (Array.getElem?_eq_some_iff.1 hk).1])] at this
  intro fuel
  induction fuel with
  | zero =>
    intro listed a w hl h
    have hall : ∀ i, i < ops.size → Dl listed i = true := by
      intro i hi
      apply Classical.byContradiction
      intro hn
      have hn : Dl listed i = false := by simpa using hn
      have : i ∈ (List.range ops.size).filter fun i => !Dl listed i := by simp [hi, hn]
      have := List.length_pos_of_mem this
      unfold left at hl
      omega
    refine ⟨?_, fin listed a w h hall⟩
    apply Classical.byContradiction
    intro hne
    obtain ⟨i, hi⟩ := List.exists_mem_of_ne_nil _ hne
    obtain ⟨oi, hx, hli, _⟩ := mem_rdy hi
    have hin := (Array.getElem?_eq_some_iff.1 hx).1
    have hh := hall i hin
    have hl2 : i < listed.size := h.sz ▸ hin
    simp only [Dl, Array.getD_eq_getD_getElem?, hl2, Array.getElem?_eq_getElem, Option.getD_some] at hli hh
    rw [hh] at hli; cases hli
  | succ fuel ih =>
    intro listed a w hl h
    refine ⟨fun hr => fin listed a w h (rdy_nil hd h.sz hr), fun i hi => ?_⟩
    obtain ⟨oi, hx, hli, _⟩ := mem_rdy hi
    have hin := (Array.getElem?_eq_some_iff.1 hx).1
    have hl2 : i < listed.size := h.sz ▸ hin
    have hDi : Dl listed i = false := by
      simp only [Dl, Array.getD_eq_getD_getElem?, hl2, Array.getElem?_eq_getElem, Option.getD_some] at hli ⊢
      exact hli
    have := left_lt hin hl2 hDi
    exact draw_step hd ht hdst hP hTT h hi (fun a' w' h' => ih _ a' w' (by omega) h')

theorem snd_draw (hT : TOk P T) (hm : P.follows .mixedOrders = true) {N id : Nat} {ol : OL} {Q : Exit → Env → OL → Prop} (hd : drawOk ops = true) (hdst : dstOk N ops.toList = true)
    (h : WOps P T ops ops.toList env ol (fun env' ol' => Q .normal env' ol')) : Snd P T N (.region id ops true) env ol Q := by
  intro X κ a w hP hTT hR hE hN hD
  obtain ⟨V, O, hO, hst, hK⟩ := WOps_trace hT ops ops.toList env ol _ h
  have hd := chkD_ok hd
  have ht : Tr P T ops env V O := ⟨fun k o hk => hst k o (by rw [Array.getElem?_toList]; exact hk)⟩
  have hDl : ∀ j, Dl (Array.replicate ops.size false) j = false := fun j => by
    simp only [Dl, Array.getD_eq_getD_getElem?, Array.getElem?_replicate]
    split <;> rfl
  refine wp_region_any hm (draw_any hd ht hdst hP hTT (by rw [Array.length_toList] at hK; exact hK) _ _ a _ ?_ ⟨by simp, fun i oi _ hi => (by rw [hDl] at hi; cases hi), ⟨κ, ol.ob, hR.drew, fun t => ?_, .inl ⟨fun i _ _ _ => hDl i, fun k => ?_, fun k hk i => ?_⟩⟩, hN, hD⟩)
  · unfold left
    exact Nat.le_trans (List.length_filter_le _ _) (by simp)
  · have e : Dl (Array.replicate ops.size false) = fun _ => false := funext hDl
    rw [e, envOf_none]
    exact hE t
  · rw [hO]
    constructor
    · exact fun h => .inl h
    · rintro (h | ⟨j, _, hj, _⟩)
      · exact h
      · rw [hDl] at hj; cases hj
  · rw [← hO] at hk ⊢
    exact ((ht.mono hd (Nat.zero_le _) (Nat.le_refl _) hk).2 i).symm

end
end Go.Am
/- A table of types, checked against the program by evaluation. My own work. -/
set_option linter.unusedVariables false
set_option linter.unusedSimpArgs false
namespace Go.Am

def zm : AV → List Value → Bool
  | .any, cs => (match cs with | [c] => c.oneCell' | _ => false)
  | .int k n, cs => (match cs with | [.int k' n'] => decide (k' = k) && decide (n' = n) | _ => false)
  | .bool b, cs => (match cs with | [.bool b'] => b' == b | _ => false)
  | .strg s, cs => (match cs with | [.string s'] => decide (s' = s) | _ => false)
  | .nilsl, cs => (match cs with | [.slice none 0 0] => true | _ => false)
  | .arr n f, cs => Nat.beq cs.length (n * (f 0).size) && (List.range n).all fun i => zm (f i) ((cs.drop (i * (f 0).size)).take (f 0).size)
  | .sct n f, cs => Nat.beq cs.length (sumTo (fun i => (f i).size) n) && (List.range n).all fun i => zm (f i) ((cs.drop (sumTo (fun i => (f i).size) i)).take (f i).size)
  | _, _ => false

theorem flat_pieces (sz : Nat → Nat) (l : List Value) : ∀ n, flat (fun i => (l.drop (sumTo sz i)).take (sz i)) n = l.take (sumTo sz n)
  | 0 => by simp [flat, sumTo]
  | n + 1 => by
    simp only [flat, sumTo, flat_pieces sz l n]
    rw [List.take_add]

theorem zm_ok : ∀ {v : AV} {cs : List Value}, zm v cs = true → ∀ K, FL K v cs := by
  intro v
  induction v with
  | any =>
    intro cs h K
    simp only [zm] at h
    split at h
    · exact ⟨_, rfl, h⟩
    · cases h
  | int k n =>
    intro cs h K
    simp only [zm] at h
    split at h
    · simp only [Bool.and_eq_true, decide_eq_true_eq] at h
      obtain ⟨rfl, rfl⟩ := h
      rfl
    · cases h
  | bool b =>
    intro cs h K
    simp only [zm] at h
    split at h
    · have := eq_of_beq h; subst this; rfl
    · cases h
  | strg s =>
    intro cs h K
    simp only [zm] at h
    split at h
    · simp only [decide_eq_true_eq] at h; subst h; rfl
    · cases h
  | nilsl =>
    intro cs h K
    simp only [zm] at h
    split at h
    · rfl
    · cases h
  | arr n f ih =>
    intro cs h K
    simp only [zm, Bool.and_eq_true, List.all_eq_true, List.mem_range] at h
    obtain ⟨hl, h⟩ := h
    have hl := Nat.eq_of_beq_eq_true hl
    refine ⟨fun i => (cs.drop (sumTo (fun _ => (f 0).size) i)).take (f 0).size, ?_, fun i hi => ⟨?_, ?_⟩⟩
    · rw [flat_pieces (fun _ => (f 0).size) cs n, sumTo_const, ← hl, List.take_length]
    · simp only [sumTo_const]; exact ih i (h i hi) K
    · simp only [sumTo_const, List.length_take, List.length_drop, hl]
      have := Nat.mul_le_mul_right (f 0).size (show i + 1 ≤ n by omega)
      rw [Nat.add_mul] at this
      omega
  | sct n f ih =>
    intro cs h K
    simp only [zm, Bool.and_eq_true, List.all_eq_true, List.mem_range] at h
    obtain ⟨hl, h⟩ := h
    have hl := Nat.eq_of_beq_eq_true hl
    refine ⟨fun i => (cs.drop (sumTo (fun i => (f i).size) i)).take (f i).size, ?_, fun i hi => ih i (h i hi) K⟩
    rw [flat_pieces (fun i => (f i).size) cs n, ← hl, List.take_length]
  | _ => intro cs h; simp only [zm] at h; cases h

def zeroOf (und : TypeId → TD) : Nat → TypeId → AV
  | 0, _ => .any
  | d + 1, t => match und t with
    | .bool => .bool false
    | .int k => .int k 0
    | .str => .strg ByteArray.empty
    | .arr n e => .arr n (fun _ => zeroOf und d e)
    | .sct fs => .sct fs.length (fun i => zeroOf und d (fs.getD i (0, 0)).1)
    | .slc _ => .nilsl
    | _ => .any

theorem ssh_zeroOf (und : TypeId → TD) : ∀ (d : Nat) (t : TypeId), ssh (zeroOf und d t) (zeroOf und d t)
  | 0, _ => trivial
  | d + 1, t => by
    unfold zeroOf
    split <;> first | trivial | exact ⟨rfl, fun _ => ssh_zeroOf und d _⟩

abbrev Tab := List (TypeId × TD × Nat × Nat)

def look : Tab → TypeId → Option (TD × Nat × Nat)
  | [], _ => none
  | (t', x) :: r, t => bif Nat.beq t t' then some x else look r t

def undOf (tab : Tab) (t : TypeId) : TD := match look tab t with | some x => x.1 | none => .other

def mkT (tab : Tab) : TT where
  und := undOf tab
  sz t := match look tab t with | some x => x.2.1 | none => 1
  by_ t := match look tab t with | some x => x.2.2 | none => 1
  zero := zeroOf (undOf tab) 6

def udOk (P : Program) (t : TypeId) : TD → Bool
  | .other => true
  | .bool => (match P.underlying t with | some .bool => true | _ => false)
  | .int k => (match P.underlying t with | some (.int k') => decide (k' = k) | _ => false)
  | .str => (match P.underlying t with | some .string => true | _ => false)
  | .ptr e => (match P.underlying t with | some (.pointer e') => Nat.beq e' e | _ => false)
  | .arr n e => (match P.underlying t with | some (.array n' e') => Nat.beq n' n && Nat.beq e' e | _ => false)
  | .sct fs => (match P.underlying t with | some (.struct flds) => decide (flds.toList.map (fun f => (f.type, f.offset)) = fs) | _ => false)
  | .slc e => (match P.underlying t with | some (.slice e') => Nat.beq e' e | _ => false)
  | .fnc => (match P.underlying t with | some (.func _ _ _) => true | _ => false)

theorem udOk_ok {P : Program} {t : TypeId} {d : TD} (h : udOk P t d = true) : d.ok P t := by
  cases d <;> simp only [udOk] at h <;> simp only [TD.ok]
  all_goals (split at h <;> first | (cases h; done) | skip)
  · assumption
  · rename_i h1; simp only [decide_eq_true_eq] at h; rw [h1, h]
  · assumption
  · rename_i h1; rw [h1, Nat.eq_of_beq_eq_true h]
  · rename_i h1; simp only [Bool.and_eq_true] at h; rw [h1, Nat.eq_of_beq_eq_true h.1, Nat.eq_of_beq_eq_true h.2]
  · rename_i h1; simp only [decide_eq_true_eq] at h; exact ⟨_, h1, h⟩
  · rename_i h1; rw [h1, Nat.eq_of_beq_eq_true h]
  · rename_i h1; exact ⟨_, _, _, h1⟩

def isAggV : Value → Bool
  | .agg _ => true
  | _ => false

def infoOk (P : Program) (tab : Tab) (t : TypeId) : Bool :=
  match P.info? t with
  | some i => Nat.beq i.size ((mkT tab).sz t) && Nat.beq i.bytes ((mkT tab).by_ t) && (match i.zero with
    | some z => zm ((mkT tab).zero t) z.cells.toList && ((mkT tab).zero t).isAgg == ((mkT tab).und t).isAgg && (!((mkT tab).und t).isAgg || isAggV z)
    | none => false) && Nat.beq ((mkT tab).zero t).size ((mkT tab).sz t) && Nat.blt 0 ((mkT tab).sz t)
  | none => false

def oneOk (tab : Tab) (t : TypeId) : Bool := ((mkT tab).und t).isAgg || Nat.beq ((mkT tab).sz t) 1

def eqgOk (P : Program) (tab : Tab) (t : TypeId) : Bool := match (mkT tab).und t with
  | .arr _ e => (match (mkT tab).und e with
    | .int _ => !P.eqGuardType P.depth t
    | _ => true)
  | _ => true

def tabOk (P : Program) (tab : Tab) : Bool := tab.all fun e => udOk P e.1 (undOf tab e.1) && infoOk P tab e.1 && oneOk tab e.1 && eqgOk P tab e.1

theorem look_mem {tab : Tab} {t : TypeId} {x : TD × Nat × Nat} (h : look tab t = some x) : ∃ e ∈ tab, e.1 = t := by
  induction tab with
  | nil => cases h
  | cons p r ih =>
    obtain ⟨t', y⟩ := p
    simp only [look] at h
    cases hb : Nat.beq t t'
    · rw [hb] at h
      obtain ⟨e, he, h⟩ := ih h
      exact ⟨e, List.mem_cons_of_mem _ he, h⟩
    · exact ⟨(t', y), by simp, (Nat.eq_of_beq_eq_true hb).symm⟩

theorem tok {P : Program} {tab : Tab} (h : tabOk P tab = true) : TOk P (mkT tab) := by
  simp only [tabOk, List.all_eq_true, Bool.and_eq_true] at h
  have hm : ∀ t, undOf tab t ≠ .other → ((udOk P t (undOf tab t) = true ∧ infoOk P tab t = true) ∧ oneOk tab t = true) ∧ eqgOk P tab t = true := by
    intro t ht
    unfold undOf at ht
    cases hl : look tab t with
    | none => rw [hl] at ht; exact absurd rfl ht
    | some x =>
      obtain ⟨e, he, rfl⟩ := look_mem hl
      exact h e he
  refine ⟨fun t => ?_, fun t hk ha => ?_, fun t n e k h1 h2 => ?_, fun t hk => ?_⟩
  · show (undOf tab t).ok P t
    by_cases ht : undOf tab t = .other
    · rw [ht]; trivial
    · exact udOk_ok (hm t ht).1.1.1
  · have hk : (undOf tab t).known = true := hk
    have := (hm t (fun e => by rw [e] at hk; cases hk)).1.2
    have ha : ((mkT tab).und t).isAgg = false := ha
    simp only [oneOk, ha, Bool.false_or] at this
    exact Nat.eq_of_beq_eq_true this
  · have := (hm t (fun e => by rw [show (mkT tab).und t = undOf tab t from rfl, e] at h1; cases h1)).2
    simp only [eqgOk, h1, h2] at this
    simpa using this
  · have hk : (undOf tab t).known = true := hk
    have := (hm t (fun e => by rw [e] at hk; cases hk)).1.1.2
    unfold infoOk at this
    split at this
    · rename_i i hi
      simp only [Bool.and_eq_true] at this
      obtain ⟨⟨⟨⟨h1, h2⟩, h3⟩, h4⟩, h5⟩ := this
      split at h3
      · rename_i z hz
        simp only [Bool.and_eq_true] at h3
        obtain ⟨⟨q1, q2⟩, q3⟩ := h3
        refine ⟨i, z, hi, Nat.eq_of_beq_eq_true h1, Nat.eq_of_beq_eq_true h2, hz, fun K => zm_ok q1 K, eq_of_beq q2, fun ha => ?_, ssh_zeroOf _ _ _, Nat.eq_of_beq_eq_true h4, by simpa [Nat.blt_eq] using h5⟩
        rw [ha] at q3
        cases z <;> simp [isAggV] at q3
        exact ⟨_, rfl⟩
      · cases h3
    · cases this
end Go.Am
/- Rules in the form in which the walks use them. My own work. -/
set_option linter.unusedVariables false
set_option linter.unusedSimpArgs false
namespace Go.Am
section
variable {P : Program} {T : TT} {N : Nat} {env : Env} {ol : OL} {Q : Exit → Env → OL → Prop}

/-- A region, then the rest: the region's end as a state of its own. -/
theorem sr (hT : TOk P T) {id : Nat} {ops : Array Oper} {y : Code} {env' : Env} {ol' : OL} (hd : dstOk N ops.toList = true)
    (h : ∀ R : Env → OL → Prop, R env' ol' → WOps P T ops ops.toList env ol R) (hy : Snd P T N y env' ol' Q) : Snd P T N (.seq (.region id ops false) y) env ol Q :=
  snd_seq (snd_region hT hd (h _ hy))

theorem sd (hT : TOk P T) (hm : P.follows .mixedOrders = true) {id : Nat} {ops : Array Oper} {y : Code} {env' : Env} {ol' : OL} (ho : drawOk ops = true) (hd : dstOk N ops.toList = true)
    (h : ∀ R : Env → OL → Prop, R env' ol' → WOps P T ops ops.toList env ol R) (hy : Snd P T N y env' ol' Q) : Snd P T N (.seq (.region id ops true) y) env ol Q :=
  snd_seq (snd_draw hT hm ho hd (h _ hy))

/-- The same where the region is the last. -/
theorem lr (hT : TOk P T) {id : Nat} {ops : Array Oper} {env' : Env} {ol' : OL} (hd : dstOk N ops.toList = true)
    (h : ∀ R : Env → OL → Prop, R env' ol' → WOps P T ops ops.toList env ol R) (hy : Q .normal env' ol') : Snd P T N (.region id ops false) env ol Q :=
  snd_region hT hd (h _ hy)

theorem ld (hT : TOk P T) (hm : P.follows .mixedOrders = true) {id : Nat} {ops : Array Oper} {env' : Env} {ol' : OL} (ho : drawOk ops = true) (hd : dstOk N ops.toList = true)
    (h : ∀ R : Env → OL → Prop, R env' ol' → WOps P T ops ops.toList env ol R) (hy : Q .normal env' ol') : Snd P T N (.region id ops true) env ol Q :=
  snd_draw hT hm ho hd (h _ hy)

theorem CmpW_dec {p : Prop} [Decidable p] {K : AV → Prop} (h : K (.bool (decide p))) : CmpW p K :=
  ⟨fun hp => by rwa [decide_eq_true hp] at h, fun hp => by rwa [decide_eq_false hp] at h⟩

theorem CmpW_iff {p : Prop} [Decidable p] {K : AV → Prop} : CmpW p K ↔ K (.bool (decide p)) := by
  constructor
  · intro h
    by_cases hp : p
    · rw [decide_eq_true hp]; exact h.1 hp
    · rw [decide_eq_false hp]; exact h.2 hp
  · exact CmpW_dec

/-- A value by its state: what is the same may be put for it. -/
theorem sq {c : Code} {env2 : Env} {ol2 : OL} (he : env = env2) (ho : ol = ol2) (h : Snd P T N c env2 ol2 Q) : Snd P T N c env ol Q := by
  subst he; subst ho; exact h

/-- A value with its head shown. -/
inductive HV : AV → AV → Prop where
  | int (k n) : HV (.int k n) (.int k n)
  | bool (b) : HV (.bool b) (.bool b)
  | arr (n f) : HV (.arr n f) (.arr n f)
  | sct (n f) : HV (.sct n f) (.sct n f)
  | cptr (v) : HV (.cptr v) (.cptr v)
  | ptr (k i p o r) : HV (.ptr k i p o r) (.ptr k i p o r)
  | own (k i n e) : HV (.own k i n e) (.own k i n e)
  | ro (n f) : HV (.ro n f) (.ro n f)
  | nilsl : HV .nilsl .nilsl
  | strg (s) : HV (.strg s) (.strg s)
  | tup (n f) : HV (.tup n f) (.tup n f)
  | fn (g n c) : HV (.fn g n c) (.fn g n c)
  | any : HV .any .any
theorem HV.eq {a b : AV} (h : HV a b) : a = b := by cases h <;> rfl

variable {all : Array Oper} {r : List Oper} {R : Env → OL → Prop} {ty : TypeId} {pos : String} {af : Array Edge} {x y : Operand} {d : Nat} {u t : TypeId}

theorem w_nil {ops : List Oper} (h : R env ol) : WOps P T all [] env ol R := h
theorem w_move {v : AV} (h : HV (evE env x) v) (hr : WOps P T all r ((d, v) :: env) ol R) : WOps P T all (⟨some d, .move x, ty, pos, af, none⟩ :: r) env ol R := by
  have := h.eq; subst this; exact hr
theorem w_assign {v : AV} (h : HV (evE env x) v) (hr : WOps P T all r ((d, v) :: env) ol R) : WOps P T all (⟨some d, .assign x, ty, pos, af, none⟩ :: r) env ol R := by
  have := h.eq; subst this; exact hr
theorem w_add {k : IntKind} {a b c : Int} (hx : evE env x = .int k a) (hy : evE env y = .int k b) (hc : k.wrap (a + b) = c) (hr : WOps P T all r ((d, .int k c) :: env) ol R) : WOps P T all (⟨some d, .binOp .add t x y u, ty, pos, af, none⟩ :: r) env ol R := by
  subst hc
  simp only [WOps, WOp, PW, putE]
  rw [hx, hy]
  exact ⟨rfl, hr⟩
theorem w_sub {k : IntKind} {a b c : Int} (hx : evE env x = .int k a) (hy : evE env y = .int k b) (hc : k.wrap (a - b) = c) (hr : WOps P T all r ((d, .int k c) :: env) ol R) : WOps P T all (⟨some d, .binOp .sub t x y u, ty, pos, af, none⟩ :: r) env ol R := by
  subst hc
  simp only [WOps, WOp, PW, putE]
  rw [hx, hy]
  exact ⟨rfl, hr⟩
theorem w_mul {k : IntKind} {a b c : Int} (hx : evE env x = .int k a) (hy : evE env y = .int k b) (hc : k.wrap (a * b) = c) (hr : WOps P T all r ((d, .int k c) :: env) ol R) : WOps P T all (⟨some d, .binOp .mul t x y u, ty, pos, af, none⟩ :: r) env ol R := by
  subst hc
  simp only [WOps, WOp, PW, putE]
  rw [hx, hy]
  exact ⟨rfl, hr⟩
theorem w_quo {k : IntKind} {a b c : Int} (hx : evE env x = .int k a) (hy : evE env y = .int k b) (hb : b ≠ 0) (hc : k.wrap (a.tdiv b) = c) (hr : WOps P T all r ((d, .int k c) :: env) ol R) : WOps P T all (⟨some d, .binOp .quo t x y u, ty, pos, af, none⟩ :: r) env ol R := by
  subst hc
  simp only [WOps, WOp, PW, putE]
  rw [hx, hy]
  exact ⟨rfl, hb, hr⟩
theorem w_rem {k : IntKind} {a b : Int} (hx : evE env x = .int k a) (hy : evE env y = .int k b) (hb : b ≠ 0) (hr : WOps P T all r ((d, .int k (a.tmod b)) :: env) ol R) : WOps P T all (⟨some d, .binOp .rem t x y u, ty, pos, af, none⟩ :: r) env ol R := by
  simp only [WOps, WOp, PW, putE]
  rw [hx, hy]
  exact ⟨rfl, hb, hr⟩
theorem w_eql {k : IntKind} {a b : Int} (hx : evE env x = .int k a) (hy : evE env y = .int k b) (hr : WOps P T all r ((d, .bool (decide (a = b))) :: env) ol R) : WOps P T all (⟨some d, .binOp .eql t x y u, ty, pos, af, none⟩ :: r) env ol R := by
  simp only [WOps, WOp, PW, putE]
  rw [hx, hy]
  exact ⟨rfl, CmpW_dec hr⟩
theorem w_neq {k : IntKind} {a b : Int} (hx : evE env x = .int k a) (hy : evE env y = .int k b) (hr : WOps P T all r ((d, .bool (decide (a ≠ b))) :: env) ol R) : WOps P T all (⟨some d, .binOp .neq t x y u, ty, pos, af, none⟩ :: r) env ol R := by
  simp only [WOps, WOp, PW, putE]
  rw [hx, hy]
  exact ⟨rfl, CmpW_dec hr⟩
theorem w_lss {k : IntKind} {a b : Int} (hx : evE env x = .int k a) (hy : evE env y = .int k b) (hr : WOps P T all r ((d, .bool (decide (a < b))) :: env) ol R) : WOps P T all (⟨some d, .binOp .lss t x y u, ty, pos, af, none⟩ :: r) env ol R := by
  simp only [WOps, WOp, PW, putE]
  rw [hx, hy]
  exact ⟨rfl, CmpW_dec hr⟩
theorem w_leq {k : IntKind} {a b : Int} (hx : evE env x = .int k a) (hy : evE env y = .int k b) (hr : WOps P T all r ((d, .bool (decide (a ≤ b))) :: env) ol R) : WOps P T all (⟨some d, .binOp .leq t x y u, ty, pos, af, none⟩ :: r) env ol R := by
  simp only [WOps, WOp, PW, putE]
  rw [hx, hy]
  exact ⟨rfl, CmpW_dec hr⟩
theorem w_gtr {k : IntKind} {a b : Int} (hx : evE env x = .int k a) (hy : evE env y = .int k b) (hr : WOps P T all r ((d, .bool (decide (b < a))) :: env) ol R) : WOps P T all (⟨some d, .binOp .gtr t x y u, ty, pos, af, none⟩ :: r) env ol R := by
  simp only [WOps, WOp, PW, putE]
  rw [hx, hy]
  exact ⟨rfl, CmpW_dec hr⟩
theorem w_geq {k : IntKind} {a b : Int} (hx : evE env x = .int k a) (hy : evE env y = .int k b) (hr : WOps P T all r ((d, .bool (decide (b ≤ a))) :: env) ol R) : WOps P T all (⟨some d, .binOp .geq t x y u, ty, pos, af, none⟩ :: r) env ol R := by
  simp only [WOps, WOp, PW, putE]
  rw [hx, hy]
  exact ⟨rfl, CmpW_dec hr⟩

theorem w_beql {a b : Bool} (hx : evE env x = .bool a) (hy : evE env y = .bool b) (ht : T.und t = .bool) (hr : WOps P T all r ((d, .bool (a == b)) :: env) ol R) : WOps P T all (⟨some d, .binOp .eql t x y u, ty, pos, af, none⟩ :: r) env ol R := by
  simp only [WOps, WOp, PW, putE]
  rw [hx, hy]
  simp only [BW, ht]
  exact hr
theorem w_bneq {a b : Bool} (hx : evE env x = .bool a) (hy : evE env y = .bool b) (ht : T.und t = .bool) (hr : WOps P T all r ((d, .bool (!(a == b))) :: env) ol R) : WOps P T all (⟨some d, .binOp .neq t x y u, ty, pos, af, none⟩ :: r) env ol R := by
  simp only [WOps, WOp, PW, putE]
  rw [hx, hy]
  simp only [BW, ht]
  exact hr
def eqN (n : Nat) (f g : Nat → Int) : Prop := ∀ i, i < n → f i = g i
noncomputable instance (n : Nat) (f g : Nat → Int) : Decidable (eqN n f g) := Classical.propDecidable _
theorem w_aeql {n e : Nat} {k : IntKind} {f g : Nat → Int} (hx : evE env x = .arr n (fun i => .int k (f i))) (hy : evE env y = .arr n (fun i => .int k (g i))) (ht : T.und t = .arr n e) (he : T.und e = .int k)
    (hr : WOps P T all r ((d, .bool (decide (eqN n f g))) :: env) ol R) : WOps P T all (⟨some d, .binOp .eql t x y u, ty, pos, af, none⟩ :: r) env ol R := by
  simp only [WOps, WOp, PW, putE]
  rw [hx, hy]
  simp only [BW, ht, he]
  exact ⟨trivial, trivial, fun _ _ => rfl, fun _ _ => rfl, CmpW_dec (p := eqN n f g) hr⟩
theorem w_aneq {n e : Nat} {k : IntKind} {f g : Nat → Int} (hx : evE env x = .arr n (fun i => .int k (f i))) (hy : evE env y = .arr n (fun i => .int k (g i))) (ht : T.und t = .arr n e) (he : T.und e = .int k)
    (hr : WOps P T all r ((d, .bool (decide (¬ eqN n f g))) :: env) ol R) : WOps P T all (⟨some d, .binOp .neq t x y u, ty, pos, af, none⟩ :: r) env ol R := by
  simp only [WOps, WOp, PW, putE]
  rw [hx, hy]
  simp only [BW, ht, he]
  exact ⟨trivial, trivial, fun _ _ => rfl, fun _ _ => rfl, CmpW_dec (p := ¬ eqN n f g) hr⟩
theorem w_reqn {n e : Nat} {g : Nat → AV} (hx : evE env x = .ro n g) (hy : evE env y = .nilsl) (hn : n ≠ 0) (ht : T.und t = .slc e) (hr : WOps P T all r ((d, .bool false) :: env) ol R) : WOps P T all (⟨some d, .binOp .eql t x y u, ty, pos, af, none⟩ :: r) env ol R := by
  simp only [WOps, WOp, PW, putE]
  rw [hx, hy]
  simp only [BW, ht]
  exact ⟨hn, hr⟩
theorem w_not {b : Bool} (hx : evE env x = .bool b) (hr : WOps P T all r ((d, .bool (!b)) :: env) ol R) : WOps P T all (⟨some d, .unOp .not t x, ty, pos, af, none⟩ :: r) env ol R := by
  simp only [WOps, WOp, PW, putE]
  rw [hx]; exact hr
theorem w_neg {k : IntKind} {n c : Int} (hx : evE env x = .int k n) (hc : k.wrap (0 - n) = c) (hr : WOps P T all r ((d, .int k c) :: env) ol R) : WOps P T all (⟨some d, .unOp .neg t x, ty, pos, af, none⟩ :: r) env ol R := by
  subst hc
  simp only [WOps, WOp, PW, putE]
  rw [hx]; exact hr
theorem w_conv {k k0 k' : IntKind} {n c : Int} (hx : evE env x = .int k n) (ht : T.und t = .int k0) (hu : T.und u = .int k') (hc : k'.wrap n = c) (hr : WOps P T all r ((d, .int k' c) :: env) ol R) : WOps P T all (⟨some d, .convert t u x, ty, pos, af, none⟩ :: r) env ol R := by
  subst hc
  simp only [WOps, WOp, PW, putE]
  rw [hx]; simp only [ConvW, ht, hu]; exact hr
theorem w_nilc {v : AV} (hx : evE env x = .cptr v) (hr : WOps P T all r ((d, .cptr v) :: env) ol R) : WOps P T all (⟨some d, .nilCheck x, ty, pos, af, none⟩ :: r) env ol R := by
  simp only [WOps, WOp, PW, putE]
  rw [hx]; exact hr
theorem w_nilp {k i o : Nat} {p : List Nat} {v : AV} (hx : evE env x = .ptr k i p o v) (hr : WOps P T all r ((d, .ptr k i p o v) :: env) ol R) : WOps P T all (⟨some d, .nilCheck x, ty, pos, af, none⟩ :: r) env ol R := by
  simp only [WOps, WOp, PW, putE]
  rw [hx]; exact hr
theorem w_nilf {k i : Nat} {c : Nat → AV} (hx : evE env x = .fn k i c) (hr : WOps P T all r ((d, .fn k i c) :: env) ol R) : WOps P T all (⟨some d, .nilCheck x, ty, pos, af, none⟩ :: r) env ol R := by
  simp only [WOps, WOp, PW, putE]
  rw [hx]; exact hr
theorem w_fac {f n ft fo : Nat} {g : Nat → AV} {fs : List (TypeId × Nat)} {v : AV} (hx : evE env x = .cptr (.sct n g)) (ht : T.und t = .sct fs) (hf : fs[f]? = some (ft, fo)) (hk : (T.und ft).known = true) (hz : T.sz ft ≠ 0) (hn : f < n)
    (ho : sumTo (fun j => (g j).size) f = fo) (hv : HV (g f) v) (hr : WOps P T all r ((d, .cptr v) :: env) ol R) : WOps P T all (⟨some d, .fieldAddr t x f, ty, pos, af, none⟩ :: r) env ol R := by
  have := hv.eq; subst this
  simp only [WOps, WOp, PW, putE]
  rw [hx]; simp only [FieldAddrW, ht, hf]; exact ⟨hk, hz, hn, ho, hr⟩
theorem w_fap {f n ft fo : Nat} {k i o : Nat} {p : List Nat} {root : AV} {g : Nat → AV} {fs : List (TypeId × Nat)} (hx : evE env x = .ptr k i p o root) (ht : T.und t = .sct fs) (hf : fs[f]? = some (ft, fo)) (hk : (T.und ft).known = true) (hz : T.sz ft ≠ 0) (hs : sub root p = .sct n g) (hn : f < n)
    (ho : sumTo (fun j => (g j).size) f = fo) (hr : WOps P T all r ((d, .ptr k i (p ++ [f]) (o + fo) root) :: env) ol R) : WOps P T all (⟨some d, .fieldAddr t x f, ty, pos, af, none⟩ :: r) env ol R := by
  simp only [WOps, WOp, PW, putE]
  rw [hx]; simp only [FieldAddrW, ht, hf, hs]; exact ⟨hk, hz, hn, ho, hr⟩
theorem w_iac {n e : Nat} {k : IntKind} {j : Int} {g : Nat → AV} {v : AV} (hx : evE env x = .cptr (.arr n g)) (hj : evE env y = .int k j) (ht : T.und t = .arr n e) (hk : (T.und e).known = true) (hz : (g 0).size = T.sz e) (hb : 0 ≤ j ∧ j < (n : Int))
    (hv : g j.toNat = v) (hr : WOps P T all r ((d, .cptr v) :: env) ol R) : WOps P T all (⟨some d, .indexAddr t x y, ty, pos, af, none⟩ :: r) env ol R := by
  subst hv
  simp only [WOps, WOp, PW, putE]
  rw [hj, hx]; simp only [IndexAddrW, ht]; exact ⟨trivial, hk, hz, hb, hr⟩
theorem w_iap {n e : Nat} {k : IntKind} {j : Int} {q i o : Nat} {p : List Nat} {root : AV} {g : Nat → AV} (hx : evE env x = .ptr q i p o root) (hj : evE env y = .int k j) (ht : T.und t = .arr n e) (hk : (T.und e).known = true) (hs : sub root p = .arr n g) (hz : (g 0).size = T.sz e) (hz2 : (g j.toNat).size = (g 0).size) (hb : 0 ≤ j ∧ j < (n : Int))
    (hr : WOps P T all r ((d, .ptr q i (p ++ [j.toNat]) (o + j.toNat * T.sz e) root) :: env) ol R) : WOps P T all (⟨some d, .indexAddr t x y, ty, pos, af, none⟩ :: r) env ol R := by
  simp only [WOps, WOp, PW, putE]
  rw [hj, hx]; simp only [IndexAddrW, ht, hs]; exact ⟨trivial, hk, hz, hz2, hb, hr⟩
theorem w_iao {n e : Nat} {k : IntKind} {j : Int} {q i : Nat} (hx : evE env x = .own q i n e) (hj : evE env y = .int k j) (ht : T.und t = .slc e) (hk : (T.und e).known = true) (hb : 0 ≤ j ∧ j < (n : Int))
    (hr : WOps P T all r ((d, .ptr q i [j.toNat] (0 + j.toNat * T.sz e) (.arr n (fun _ => T.zero e))) :: env) ol R) : WOps P T all (⟨some d, .indexAddr t x y, ty, pos, af, none⟩ :: r) env ol R := by
  simp only [WOps, WOp, PW, putE]
  rw [hj, hx]; simp only [IndexAddrW, ht]; exact ⟨trivial, hk, hb, hr⟩
theorem w_iar {n e : Nat} {k : IntKind} {j : Int} {g : Nat → AV} {v : AV} (hx : evE env x = .ro n g) (hj : evE env y = .int k j) (ht : T.und t = .slc e) (hk : (T.und e).known = true) (hz : (g 0).size = T.sz e) (hb : 0 ≤ j ∧ j < (n : Int)) (hv : g j.toNat = v)
    (hr : WOps P T all r ((d, .cptr v) :: env) ol R) : WOps P T all (⟨some d, .indexAddr t x y, ty, pos, af, none⟩ :: r) env ol R := by
  subst hv
  simp only [WOps, WOp, PW, putE]
  rw [hj, hx]; simp only [IndexAddrW, ht]; exact ⟨hk, hz, hb, hr⟩
theorem w_ixa {n e : Nat} {k : IntKind} {j : Int} {g : Nat → AV} {v : AV} (hx : evE env x = .arr n g) (hj : evE env y = .int k j) (ht : T.und t = .arr n e) (hk : (T.und e).known = true) (hz : (g 0).size = T.sz e) (hb : 0 ≤ j ∧ j < (n : Int)) (hv : HV (g j.toNat) v) (ha : v.isAgg = (T.und e).isAgg)
    (hr : WOps P T all r ((d, v) :: env) ol R) : WOps P T all (⟨some d, .index t x y, ty, pos, af, none⟩ :: r) env ol R := by
  have := hv.eq; subst this
  simp only [WOps, WOp, PW, putE]
  rw [hj, hx]; simp only [IndexW, ht]; exact ⟨trivial, hk, hz, ha, hb, hr⟩
theorem w_ixs {k : IntKind} {j : Int} {s : ByteArray} (hx : evE env x = .strg s) (hj : evE env y = .int k j) (ht : T.und t = .str) (hb : 0 ≤ j ∧ j < (s.size : Int))
    (hr : WOps P T all r ((d, .int .u8 (byteAt s j.toNat)) :: env) ol R) : WOps P T all (⟨some d, .index t x y, ty, pos, af, none⟩ :: r) env ol R := by
  simp only [WOps, WOp, PW, putE]
  rw [hj, hx]; simp only [IndexW, ht]; exact ⟨hb, hr⟩
theorem w_fld {f n ft fo : Nat} {g : Nat → AV} {fs : List (TypeId × Nat)} {v : AV} (hx : evE env x = .sct n g) (ht : T.und t = .sct fs) (hf : fs[f]? = some (ft, fo)) (hn : f < n) (hk : (T.und ft).known = true) (hz : (g f).size = T.sz ft)
    (ho : sumTo (fun j => (g j).size) f = fo) (hv : HV (g f) v) (ha : v.isAgg = (T.und ft).isAgg) (hr : WOps P T all r ((d, v) :: env) ol R) : WOps P T all (⟨some d, .field t x f, ty, pos, af, none⟩ :: r) env ol R := by
  have := hv.eq; subst this
  simp only [WOps, WOp, PW, putE]
  rw [hx]; simp only [FieldW, ht, hf]; exact ⟨hn, hk, hz, ha, ho, hr⟩
theorem w_ext {n i : Nat} {g : Nat → AV} {v : AV} (hx : evE env x = .tup n g) (hi : i < n) (hv : HV (g i) v) (hr : WOps P T all r ((d, v) :: env) ol R) : WOps P T all (⟨some d, .extract x i, ty, pos, af, none⟩ :: r) env ol R := by
  have := hv.eq; subst this
  simp only [WOps, WOp, PW, putE]
  rw [hx]; exact ⟨hi, hr⟩
theorem w_mkf {g : FuncId} {caps : Array Operand} {n : Nat} {c : Nat → AV} (hn : caps.size = n) (hc : (fun i => evE env (caps.toList.getD i (.const undef))) = c) (hr : WOps P T all r ((d, .fn g n c) :: env) ol R) : WOps P T all (⟨some d, .makeFunc (.func g) #[] caps, ty, pos, af, none⟩ :: r) env ol R := by
  subst hn; subst hc
  exact ⟨rfl, hr⟩
theorem w_pick_t {b c : Operand} {v : AV} (hx : evE env x = .bool true) (hv : HV (evE env b) v) (hr : WOps P T all r ((d, v) :: env) ol R) : WOps P T all (⟨some d, .pick x b c, ty, pos, af, none⟩ :: r) env ol R := by
  have := hv.eq; subst this
  simp only [WOps, WOp, PW, putE]
  rw [hx]; exact hr
theorem w_pick_f {b c : Operand} {v : AV} (hx : evE env x = .bool false) (hv : HV (evE env c) v) (hr : WOps P T all r ((d, v) :: env) ol R) : WOps P T all (⟨some d, .pick x b c, ty, pos, af, none⟩ :: r) env ol R := by
  have := hv.eq; subst this
  simp only [WOps, WOp, PW, putE]
  rw [hx]; exact hr

/-- A guard's answer. -/
theorem w_g_on {o : Op} {dst : Option Nat} {j : Nat} {w b : Bool} {dd : Nat} (hd : (all[j]?).bind (·.dst) = some dd) (hb : get env dd = .bool b) (hw : b = w) (hr : WOps P T all (⟨dst, o, ty, pos, af, none⟩ :: r) env ol R) : WOps P T all (⟨dst, o, ty, pos, af, some (j, w)⟩ :: r) env ol R := by
  subst hw
  unfold WOps
  simp only [hd, hb, beq_self_eq_true]
  exact hr
theorem w_g_off {o : Op} {dst : Option Nat} {j : Nat} {w b : Bool} {dd : Nat} (hd : (all[j]?).bind (·.dst) = some dd) (hb : get env dd = .bool b) (hw : ¬ b = w) (hr : WOps P T all r (putE dst undA env) ol R) : WOps P T all (⟨dst, o, ty, pos, af, some (j, w)⟩ :: r) env ol R := by
  unfold WOps
  have : (b == w) = false := by simpa using hw
  simp only [hd, hb, this]
  exact hr
/-- Behind one that was not asked for. -/
theorem w_g_und {o : Op} {dst : Option Nat} {j : Nat} {w : Bool} {dd : Nat} (hd : (all[j]?).bind (·.dst) = some dd) (hb : get env dd = undA) (hr : WOps P T all r (putE dst undA env) ol R) : WOps P T all (⟨dst, o, ty, pos, af, some (j, w)⟩ :: r) env ol R := by
  unfold WOps
  simp only [hd, hb, undA]
  exact hr
/-- A guard is asked for the first time. -/
theorem w_g {o : Op} {dst : Option Nat} {j : Nat} {w b : Bool} {dd : Nat} (hd : (all[j]?).bind (·.dst) = some dd) (hb : get env dd = .bool b) (ht : b = w → WOps P T all (⟨dst, o, ty, pos, af, none⟩ :: r) env ol R) (hf : ¬ b = w → WOps P T all r (putE dst undA env) ol R) :
    WOps P T all (⟨dst, o, ty, pos, af, some (j, w)⟩ :: r) env ol R := by
  by_cases h : b = w
  · exact w_g_on hd hb h (ht h)
  · exact w_g_off hd hb h (hf h)
theorem w_pick_1 {b c : Operand} {q : Bool} {v : AV} (hx : evE env x = .bool q) (hq : q = true) (hv : HV (evE env b) v) (hr : WOps P T all r ((d, v) :: env) ol R) : WOps P T all (⟨some d, .pick x b c, ty, pos, af, none⟩ :: r) env ol R :=
  w_pick_t (by rw [hx, hq]) hv hr
theorem w_pick_0 {b c : Operand} {q : Bool} {v : AV} (hx : evE env x = .bool q) (hq : q = false) (hv : HV (evE env c) v) (hr : WOps P T all r ((d, v) :: env) ol R) : WOps P T all (⟨some d, .pick x b c, ty, pos, af, none⟩ :: r) env ol R :=
  w_pick_f (by rw [hx, hq]) hv hr

/-- An environment that knows less. -/
inductive EL : Env → Env → Prop where
  | refl (e) : EL e e
  | cons {d : Nat} {v v' : AV} {e e' : Env} (h : v' = .any ∨ v = v') (ht : EL e e') : EL ((d, v) :: e) ((d, v') :: e')
theorem EL.get {e e' : Env} (h : EL e e') (t : Nat) : Am.get e' t = .any ∨ Am.get e t = Am.get e' t := by
  induction h with
  | refl => exact .inr rfl
  | cons h _ ih =>
    rename_i d v v' e e' _
    simp only [Am.get]
    cases Nat.beq t d
    · exact ih
    · exact h
theorem snd_el {c : Code} {env' : Env} (h : EL env env') (hs : Snd P T N c env' ol Q) : Snd P T N c env ol Q :=
  fun X κ a w hP hTT hR hE hN hD => hs X κ a w hP hTT hR (fun t => by
    rcases h.get t with h | h
    · rw [h]; trivial
    · rw [← h]; exact hE t) hN hD
theorem srG (hT : TOk P T) {id : Nat} {ops : Array Oper} {c : Code} {env' : Env} {ol' : OL} (hd : dstOk N ops.toList = true)
    (h : ∀ R : Env → OL → Prop, (∀ e, EL e env' → R e ol') → WOps P T ops ops.toList env ol R) (hy : Snd P T N c env' ol' Q) : Snd P T N (.seq (.region id ops false) c) env ol Q :=
  snd_seq (snd_region hT hd (h _ (fun e he => snd_el he hy)))
theorem sdG (hT : TOk P T) (hm : P.follows .mixedOrders = true) {id : Nat} {ops : Array Oper} {c : Code} {env' : Env} {ol' : OL} (ho : drawOk ops = true) (hd : dstOk N ops.toList = true)
    (h : ∀ R : Env → OL → Prop, (∀ e, EL e env' → R e ol') → WOps P T ops ops.toList env ol R) (hy : Snd P T N c env' ol' Q) : Snd P T N (.seq (.region id ops true) c) env ol Q :=
  snd_seq (snd_draw hT hm ho hd (h _ (fun e he => snd_el he hy)))

theorem w_len_o {k i n e e2 : Nat} {aty : Array TypeId} (hx : evE env x = .own k i n e2) (ha : aty = #[t]) (ht : T.und t = .slc e) (hr : WOps P T all r ((d, .int .i64 n) :: env) ol R) : WOps P T all (⟨some d, .call { callee := .builtin .len, args := #[x], argTypes := aty }, ty, pos, af, none⟩ :: r) env ol R := by
  subst ha
  simp only [WOps, WOp, PW, putE]
  rw [hx]; simp only [LenW, ht]; exact hr
theorem w_len_r {n e : Nat} {g : Nat → AV} {aty : Array TypeId} (hx : evE env x = .ro n g) (ha : aty = #[t]) (ht : T.und t = .slc e) (hr : WOps P T all r ((d, .int .i64 n) :: env) ol R) : WOps P T all (⟨some d, .call { callee := .builtin .len, args := #[x], argTypes := aty }, ty, pos, af, none⟩ :: r) env ol R := by
  subst ha
  simp only [WOps, WOp, PW, putE]
  rw [hx]; simp only [LenW, ht]; exact hr
theorem w_len_n {e : Nat} {aty : Array TypeId} (hx : evE env x = .nilsl) (ha : aty = #[t]) (ht : T.und t = .slc e) (hr : WOps P T all r ((d, .int .i64 0) :: env) ol R) : WOps P T all (⟨some d, .call { callee := .builtin .len, args := #[x], argTypes := aty }, ty, pos, af, none⟩ :: r) env ol R := by
  subst ha
  simp only [WOps, WOp, PW, putE]
  rw [hx]; simp only [LenW, ht]; exact hr
theorem w_len_s {s : ByteArray} {aty : Array TypeId} (hx : evE env x = .strg s) (ha : aty = #[t]) (ht : T.und t = .str) (hr : WOps P T all r ((d, .int .i64 s.size) :: env) ol R) : WOps P T all (⟨some d, .call { callee := .builtin .len, args := #[x], argTypes := aty }, ty, pos, af, none⟩ :: r) env ol R := by
  subst ha
  simp only [WOps, WOp, PW, putE]
  rw [hx]; simp only [LenW, ht]; exact hr

theorem w_ldc {w v : AV} (hx : evE env x = .cptr w) (hk : (T.und t).known = true) (hv : HV w v) (hz : v.size = T.sz t) (ha : v.isAgg = (T.und t).isAgg) (hr : WOps P T all r ((d, v) :: env) ol R) : WOps P T all (⟨some d, .load t x, ty, pos, af, none⟩ :: r) env ol R := by
  have := hv.eq; subst this
  show LoadW T t (evE env x) ol _
  rw [hx]; exact ⟨hk, hz, ha, hr⟩
theorem w_ldp {k i o : Nat} {p : List Nat} {root sh c v : AV} (hx : evE env x = .ptr k i p o root) (hk : (T.und t).known = true) (ho : ol.at_ k i = some (sh, c)) (hv : HV (sub c p) v) (hz : v.size = T.sz t) (ha : v.isAgg = (T.und t).isAgg) (hr : WOps P T all r ((d, v) :: env) ol R) : WOps P T all (⟨some d, .load t x, ty, pos, af, none⟩ :: r) env ol R := by
  have := hv.eq; subst this
  show LoadW T t (evE env x) ol _
  rw [hx]; simp only [LoadW, ho]; exact ⟨hk, hz, ha, hr⟩
theorem w_alloc {z : AV} (hk : (T.und t).known = true) (hf : ol.has d = false) (hz : T.zero t = z) (hr : WOps P T all r ((d, .ptr d 0 [] 0 z) :: env) ((d, .one z z) :: ol) R) : WOps P T all (⟨some d, .alloc t, ty, pos, af, none⟩ :: r) env ol R := by
  subst hz; exact ⟨hk, hf, hr⟩
theorem w_boxc {v : AV} (hx : evE env x = v) (hc : v.cel) (hr : WOps P T all r ((d, .cptr v) :: env) ol R) : WOps P T all (⟨some d, .box t x, ty, pos, af, none⟩ :: r) env ol R := by
  subst hx; exact ⟨hc, .inl hr⟩
theorem w_boxp {v : AV} (hx : evE env x = v) (hc : v.cel) (hf : ol.has d = false) (hs : ssh v v) (hr : WOps P T all r ((d, .ptr d 0 [] 0 v) :: env) ((d, .one v v) :: ol) R) : WOps P T all (⟨some d, .box t x, ty, pos, af, none⟩ :: r) env ol R := by
  subst hx; exact ⟨hc, .inr ⟨hf, hs, hr⟩⟩
theorem w_store {k i o : Nat} {p : List Nat} {root sh c v : AV} {ol' : OL} (hx : evE env x = .ptr k i p o root) (hy : evE env y = v) (hk : (T.und t).known = true) (ho : ol.at_ k i = some (sh, c)) (hc : v.cel) (hs : ssh (sub root p) v) (hz : v.size = T.sz t)
    (hl : ol.set k i (some (sh, put c p v)) = ol') (hr : WOps P T all r env ol' R) : WOps P T all (⟨none, .store t x y, ty, pos, af, none⟩ :: r) env ol R := by
  subst hy; subst hl
  show StoreW T t (evE env x) (evE env y) ol _
  rw [hx]; simp only [StoreW, ho]; exact ⟨hk, hc, hs, hz, hr⟩
theorem w_call {f : Operand} {args : Array Operand} {aty : Array TypeId} {g n : Nat} {caps : Nat → AV} {ars : List AV} {v v' : AV} {H A : OL} (hf : callee (evE env) f = .fn g n caps) (ha : (args.toList.map (evE env) ++ capL n caps).map (exp ol.at_ 4) = ars) (hc : ACalls P T g ars v H)
    (hn : (v.noref ∧ norefH H) ∨ closedL (args.toList.map (evE env) ++ capL n caps)) (hfr : freshB (1000 * (d + 1)) H ol = true) (hv : HV (shift (1000 * (d + 1)) v) v') (hA : OL.shift (1000 * (d + 1)) H ++ ol = A)
    (hr : WOps P T all r ((d, v') :: env) A R) : WOps P T all (⟨some d, .call { callee := .value f, args := args, argTypes := aty }, ty, pos, af, none⟩ :: r) env ol R := by
  have := hv.eq; subst this; subst hA; subst ha
  simp only [WOps, WOp, putE, Option.getD_some]
  unfold CallW
  rw [hf]
  exact ⟨v, H, hc, hn, hfr, hr⟩
/-- A call that gives no object and no name. -/
theorem w_call0 {f : Operand} {args : Array Operand} {aty : Array TypeId} {g n : Nat} {caps : Nat → AV} {ars : List AV} {v : AV} (hf : callee (evE env) f = .fn g n caps) (ha : (args.toList.map (evE env) ++ capL n caps).map (exp ol.at_ 4) = ars) (hc : ACalls P T g ars v [])
    (hn : v.noref) (hs : ∀ b, shift b v = v)
    (hr : WOps P T all r ((d, v) :: env) ol R) : WOps P T all (⟨some d, .call { callee := .value f, args := args, argTypes := aty }, ty, pos, af, none⟩ :: r) env ol R := by
  subst ha
  simp only [WOps, WOp, putE, Option.getD_some]
  unfold CallW
  rw [hf]
  refine ⟨v, [], hc, .inl ⟨hn, trivial⟩, rfl, ?_⟩
  rw [hs]
  exact hr
theorem w_app_o {k i n e m : Nat} {s z : Operand} {aty : Array TypeId} {f g : Nat → AV} {ol' : OL} (ht : T.und t = .slc e) (hx : evE env s = .own k i n e) (hat : aty = #[t, t]) (hk : (T.und e).known = true) (hf : ol.has d = false) (ho : ol.at_ k i = some (.arr n (fun _ => T.zero e), .arr n f))
    (hel : ∀ C : Nat → (Nat → AV) → Prop, C m g → ElemsW T e (evE env z) ol C) (hb : (n + m) * T.by_ e ≤ 140737488355328) (hb2 : n + m ≤ 140737488355328)
    (hl : (d, Fam.one (.arr (n + m) (fun _ => T.zero e)) (.arr (n + m) (appF n f m g))) :: ol.set k i none = ol')
    (hr : WOps P T all r ((d, .own d 0 (n + m) e) :: env) ol' R) : WOps P T all (⟨some d, .call { callee := .builtin .append, args := #[s, z], argTypes := aty }, ty, pos, af, none⟩ :: r) env ol R := by
  subst hl; subst hat
  refine ⟨rfl, ?_⟩
  show AppendW T t (evE env s) (evE env z) d ol _
  simp only [AppendW, ht]
  refine ⟨hk, hf, hel _ ?_⟩
  rw [hx]
  simp only [ho]
  exact ⟨trivial, trivial, trivial, hb, hb2, hr⟩
theorem w_app_n {e m : Nat} {s z : Operand} {aty : Array TypeId} {g : Nat → AV} (ht : T.und t = .slc e) (hx : evE env s = .nilsl) (hat : aty = #[t, t]) (hk : (T.und e).known = true) (hf : ol.has d = false)
    (hel : ∀ C : Nat → (Nat → AV) → Prop, C m g → ElemsW T e (evE env z) ol C) (hm : 0 < m) (hb : m * T.by_ e ≤ 140737488355328) (hb2 : m ≤ 140737488355328)
    (hr : WOps P T all r ((d, .own d 0 m e) :: env) ((d, .one (.arr m (fun _ => T.zero e)) (.arr m g)) :: ol) R) : WOps P T all (⟨some d, .call { callee := .builtin .append, args := #[s, z], argTypes := aty }, ty, pos, af, none⟩ :: r) env ol R := by
  subst hat
  refine ⟨rfl, ?_⟩
  show AppendW T t (evE env s) (evE env z) d ol _
  simp only [AppendW, ht]
  refine ⟨hk, hf, hel _ ?_⟩
  rw [hx]
  exact ⟨hm, hb, hb2, hr⟩
theorem w_mks {k k' : IntKind} {n m : Int} {e : Nat} (ht : T.und t = .slc e) (hx : evE env x = .int k n) (hy : evE env y = .int k' m) (hk : (T.und e).known = true) (hm : m = n) (h0 : 0 ≤ n) (hb : n * T.by_ e ≤ 140737488355328) (hb2 : n ≤ 140737488355328) (hf : ol.has d = false)
    (hr : WOps P T all r ((d, .own d 0 n.toNat e) :: env) ((d, .one (.arr n.toNat (fun _ => T.zero e)) (.arr n.toNat (fun _ => T.zero e))) :: ol) R) : WOps P T all (⟨some d, .makeSlice t x y, ty, pos, af, none⟩ :: r) env ol R := by
  simp only [WOps, WOp, putE, Option.getD_some]
  rw [hx, hy]; simp only [MakeW, ht]; exact ⟨hk, hm, h0, hb, hb2, hf, hr⟩
theorem w_bsl {len e : Nat} {ps : Array (Nat × Operand)} {c : Nat → AV} (ht : T.und t = .slc e) (hk : (T.und e).known = true) (hb : Nat.ble (len * T.sz e) 16777216 = true) (hf : ol.has d = false) (ho : fillOk (evE env) len (fun _ => T.sz e) ps.toList) (hs : fillSsh (T.zero e) (evE env) ps.toList)
    (hc : fillF (evE env) ps.toList (fun _ => T.zero e) = c) (hr : WOps P T all r ((d, .own d 0 len e) :: env) ((d, .one (.arr len (fun _ => T.zero e)) (.arr len c)) :: ol) R) : WOps P T all (⟨some d, .buildSlice t len ps, ty, pos, af, none⟩ :: r) env ol R := by
  subst hc
  simp only [WOps, WOp, putE, Option.getD_some]
  simp only [BuildSliceW, ht]; exact ⟨hk, hb, hf, ho, hs, hr⟩
/-- A row of one. -/
theorem w_bsl1 {e : Nat} {v : AV} (ht : T.und t = .slc e) (hk : (T.und e).known = true) (hb : Nat.ble (1 * T.sz e) 16777216 = true) (hf : ol.has d = false) (hx : HV (evE env x) v) (hc : v.cel) (hz : v.size = T.sz e) (hs : ssh (T.zero e) v)
    (hr : WOps P T all r ((d, .own d 0 1 e) :: env) ((d, .one (.arr 1 (fun _ => T.zero e)) (.arr 1 (fun i => bif Nat.beq i 0 then v else T.zero e))) :: ol) R) : WOps P T all (⟨some d, .buildSlice t 1 #[(0, x)], ty, pos, af, none⟩ :: r) env ol R := by
  have := hx.eq; subst this
  exact w_bsl ht hk hb hf ⟨⟨by decide, hc, hz⟩, trivial⟩ ⟨hs, trivial⟩ rfl hr
theorem w_bld_a {n e : Nat} {f c : Nat → AV} {ps : Array (Nat × Operand)} (hk : (T.und t).known = true) (hz : T.zero t = .arr n f) (ht : T.und t = .arr n e) (he : (T.und e).known = true) (hfz : ∀ i, (f i).size = T.sz e) (ho : fillOk (evE env) n (fun _ => T.sz e) ps.toList) (hc : fillF (evE env) ps.toList f = c) (hc0 : (c 0).size = T.sz e)
    (hr : WOps P T all r ((d, .arr n c) :: env) ol R) : WOps P T all (⟨some d, .build t ps, ty, pos, af, none⟩ :: r) env ol R := by
  subst hc
  simp only [WOps, WOp, putE, Option.getD_some]
  simp only [BuildW, hz, ht]; exact ⟨by rw [← ht]; exact hk, trivial, he, hfz, ho, hc0, hr⟩
theorem w_bld_s {n : Nat} {fs : List (TypeId × Nat)} {f c : Nat → AV} {ps : Array (Nat × Operand)} (hk : (T.und t).known = true) (hz : T.zero t = .sct n f) (ht : T.und t = .sct fs) (hl : fs.length = n) (hp : placesOk T f 0 0 fs) (ho : fillOk (evE env) n (fun i => (f i).size) ps.toList) (hc : fillF (evE env) ps.toList f = c)
    (hr : WOps P T all r ((d, .sct n c) :: env) ol R) : WOps P T all (⟨some d, .build t ps, ty, pos, af, none⟩ :: r) env ol R := by
  subst hc
  simp only [WOps, WOp, putE, Option.getD_some]
  simp only [BuildW, hz, ht]; exact ⟨by rw [← ht]; exact hk, hl, hp, ho, hr⟩

/-- A region whose end is looked at through a view. -/
theorem srE (hT : TOk P T) {id : Nat} {ops : Array Oper} {c : Code} {ρ : Nat → Nat → Nat × Nat} {env' : Env} {ol' : OL} (hd : dstOk N ops.toList = true)
    (h : ∀ R : Env → OL → Prop, (∀ e o, Emb ρ e o env' ol' → R e o) → WOps P T ops ops.toList env ol R) (hy : Snd P T N c env' ol' Q) : Snd P T N (.seq (.region id ops false) c) env ol Q :=
  snd_seq (snd_region hT hd (h _ (fun e o he => snd_emb he hy)))
theorem sdE (hT : TOk P T) (hm : P.follows .mixedOrders = true) {id : Nat} {ops : Array Oper} {c : Code} {ρ : Nat → Nat → Nat × Nat} {env' : Env} {ol' : OL} (ho : drawOk ops = true) (hd : dstOk N ops.toList = true)
    (h : ∀ R : Env → OL → Prop, (∀ e o, Emb ρ e o env' ol' → R e o) → WOps P T ops ops.toList env ol R) (hy : Snd P T N c env' ol' Q) : Snd P T N (.seq (.region id ops true) c) env ol Q :=
  snd_seq (snd_draw hT hm ho hd (h _ (fun e o he => snd_emb he hy)))
end
end Go.Am
/- The shapes of this program's values, and what closes the walks' small goals. My own work. -/
set_option linter.unusedVariables false
set_option linter.unusedSimpArgs false
namespace Go.Am

abbrev vecA (f : Nat → Int) : AV := .arr 6 (fun i => .int .u8 (f i))
abbrev v64A (f : Nat → Int) : AV := .arr 6 (fun i => .int .i64 (f i))
abbrev tabA (T : Nat → Nat → Nat → Int) : AV := .arr 6 (fun i => .arr 6 (fun j => .arr 6 (fun k => .int .u8 (T i j k))))
def algF (p n : Int) (T : Nat → Nat → Nat → Int) (fo : Nat → Int) : Nat → AV
  | 0 => .int .i64 p
  | 1 => .int .i64 n
  | 2 => tabA T
  | 3 => vecA fo
  | _ => .any
abbrev algA (p n : Int) (T : Nat → Nat → Nat → Int) (fo : Nat → Int) : AV := .sct 4 (algF p n T fo)

theorem w64 {n : Int} (h0 : -9223372036854775808 ≤ n) (h1 : n < 9223372036854775808) : IntKind.i64.wrap n = n := by rw [IntKind.wrap_i64]; omega
theorem w8 {n : Int} (h0 : 0 ≤ n) (h1 : n < 256) : IntKind.u8.wrap n = n := by rw [IntKind.wrap_u8]; omega

/-- Small numbers: what stands in vectors. -/
def B8 (f : Nat → Int) : Prop := ∀ i, 0 ≤ f i ∧ f i < 256
def B8T (T : Nat → Nat → Nat → Int) : Prop := ∀ i j k, 0 ≤ T i j k ∧ T i j k < 256
theorem w64b {f : Nat → Int} (h : B8 f) (i : Nat) : IntKind.i64.wrap (f i) = f i := w64 (by have := h i; omega) (by have := h i; omega)
theorem w64t {T : Nat → Nat → Nat → Int} (h : B8T T) (i j k : Nat) : IntKind.i64.wrap (T i j k) = T i j k := w64 (by have := h i j k; omega) (by have := h i j k; omega)
theorem w8b {f : Nat → Int} (h : B8 f) (i : Nat) : IntKind.u8.wrap (f i) = f i := w8 (h i).1 (h i).2

/-! ### What an argument reads as -/
theorem exn {f : AV → AV} : ([] : List AV).map f = [] := rfl
theorem exc {f : AV → AV} {a b : AV} {l bs : List AV} (h : f a = b) (ht : l.map f = bs) : (a :: l).map f = b :: bs := by simp only [List.map_cons, h, ht]
variable {at_ : Nat → Nat → Option (AV × AV)} {d : Nat}
theorem exp_alg {p n : Int} {T : Nat → Nat → Nat → Int} {fo : Nat → Int} : exp at_ (d + 1) (algA p n T fo) = algA p n T fo := by
  simp only [exp, expS, AV.sct.injEq, true_and]
  funext i
  match i with
  | 0 => rfl
  | 1 => rfl
  | 2 => rfl
  | 3 => rfl
  | n + 4 => rfl
theorem exp_calg {p n : Int} {T : Nat → Nat → Nat → Int} {fo : Nat → Int} : exp at_ (d + 1) (.cptr (algA p n T fo)) = .cptr (algA p n T fo) := by
  have := @exp_alg at_ d p n T fo
  simp only [exp, expS] at this ⊢
  rw [this]
theorem exp_vec {k : IntKind} {n : Nat} {f : Nat → Int} : exp at_ (d + 1) (.arr n (fun i => .int k (f i))) = .arr n (fun i => .int k (f i)) := rfl

/-! ### Views -/
theorem Mt_closed {V : Vw} : ∀ {v : AV}, v.closed → (∀ n f, v ≠ .tup n f → True) → v ≠ .any → Mt V v v := by
  intro v
  induction v with
  | any => intro _ _ h; exact absurd rfl h
  | int => intro _ _ _; rfl
  | bool => intro _ _ _; rfl
  | strg => intro _ _ _; rfl
  | nilsl => intro _ _ _; rfl
  | own => intro h; exact h.elim
  | ptr => intro h; exact h.elim
  | arr n f ih => intro h _ _; exact ⟨rfl, fun i _ => by
      by_cases ha : f i = .any
      · rw [ha]; rfl
      · exact ih i (h i) (fun _ _ _ => trivial) ha⟩
  | sct n f ih => intro h _ _; exact ⟨rfl, fun i _ => by
      by_cases ha : f i = .any
      · rw [ha]; rfl
      · exact ih i (h i) (fun _ _ _ => trivial) ha⟩
  | tup n f ih => intro h _ _; exact ⟨rfl, fun i _ => by
      by_cases ha : f i = .any
      · rw [ha]; rfl
      · exact ih i (h i) (fun _ _ _ => trivial) ha⟩
  | ro n f ih => intro h _ _; exact ⟨rfl, fun i _ => by
      by_cases ha : f i = .any
      · rw [ha]; rfl
      · exact ih i (h i) (fun _ _ _ => trivial) ha⟩
  | fn g n f ih => intro h _ _; exact ⟨rfl, rfl, fun i _ => by
      by_cases ha : f i = .any
      · rw [ha]; rfl
      · exact ih i (h i) (fun _ _ _ => trivial) ha⟩
  | cptr v ih => intro h _ _; exact (by
      show Mt V v v
      by_cases ha : v = .any
      · rw [ha]; rfl
      · exact ih h (fun _ _ _ => trivial) ha)

theorem closed_vec {k : IntKind} {n : Nat} {f : Nat → Int} : (AV.arr n (fun i => .int k (f i))).closed := fun _ => trivial
theorem closed_tab {T : Nat → Nat → Nat → Int} : (tabA T).closed := fun _ _ _ => trivial
theorem closed_alg {p n : Int} {T : Nat → Nat → Nat → Int} {fo : Nat → Int} : (algA p n T fo).closed := by
  intro i
  match i with
  | 0 => exact trivial
  | 1 => exact trivial
  | 2 => exact closed_tab
  | 3 => exact closed_vec
  | n + 4 => exact trivial

variable {V : Vw}
theorem m_int {k : IntKind} {a b : Int} (h : b = a) : MtE V (.int k a) (.int k b) := by subst h; rfl
theorem m_bool {a b : Bool} (h : b = a) : MtE V (.bool a) (.bool b) := by subst h; rfl
theorem m_vec {k : IntKind} {n : Nat} {f g : Nat → Int} (h : ∀ i, i < n → g i = f i) : MtE V (.arr n (fun i => .int k (f i))) (.arr n (fun i => .int k (g i))) :=
  ⟨rfl, fun i hi => congrArg (AV.int k) (h i hi)⟩
theorem mt_vec {k : IntKind} {n : Nat} {f g : Nat → Int} (h : ∀ i, i < n → g i = f i) : Mt V (.arr n (fun i => .int k (f i))) (.arr n (fun i => .int k (g i))) :=
  ⟨rfl, fun i hi => congrArg (AV.int k) (h i hi)⟩
theorem m_cvec {k : IntKind} {n : Nat} {f g : Nat → Int} (h : ∀ i, i < n → g i = f i) : MtE V (.cptr (.arr n (fun i => .int k (f i)))) (.cptr (.arr n (fun i => .int k (g i)))) := mt_vec (V := V) h
theorem m_calg {p n : Int} {T : Nat → Nat → Nat → Int} {fo : Nat → Int} : MtE V (.cptr (algA p n T fo)) (.cptr (algA p n T fo)) :=
  Mt_closed (V := V) (v := .cptr (algA p n T fo)) closed_alg (fun _ _ _ => trivial) (by simp)
theorem m_alg {p n : Int} {T : Nat → Nat → Nat → Int} {fo : Nat → Int} : MtE V (algA p n T fo) (algA p n T fo) :=
  Mt_closed (V := V) (v := algA p n T fo) closed_alg (fun _ _ _ => trivial) (by simp)

def ρ0 : Nat → Nat → Nat × Nat := fun k i => (k, i)

/-- A function that gives one value and makes nothing. -/
theorem rt {T : TT} {t : Nat} {env : Env} {ol : OL} {v : AV} (hv : ∀ V, MtE V v (get env t)) : retQ T [.tmp t] v [] .ret env ol :=
  ⟨ρ0, ⟨hv _, trivial⟩, trivial, trivial⟩
theorem rt_c {T : TT} {t : Nat} {ty : TypeId} {env : Env} {ol : OL} {v c sh root : AV} {k i o : Nat} {p : List Nat} (hx : get env t = .ptr k i p o root) (hk : (T.und ty).known = true) (ho : ol.at_ k i = some (sh, c)) (hz : (sub c p).size = T.sz ty) (ha : (sub c p).isAgg = (T.und ty).isAgg)
    (hv : ∀ V, MtE V v (sub c p)) : retQ T [.cell t ty] v [] .ret env ol := by
  show LoadW T ty (get env t) ol _
  rw [hx]
  simp only [LoadW, ho]
  exact ⟨hk, hz, ha, ρ0, ⟨hv _, trivial⟩, trivial, trivial⟩
/-- A pair, the first of a cell. -/
def pairA (a b : AV) : Nat → AV
  | 0 => a
  | 1 => b
  | _ => .any
theorem rt_ct {T : TT} {t s : Nat} {ty : TypeId} {env : Env} {ol : OL} {v u c sh root : AV} {k i o : Nat} {p : List Nat} (hx : get env t = .ptr k i p o root) (hk : (T.und ty).known = true) (ho : ol.at_ k i = some (sh, c)) (hz : (sub c p).size = T.sz ty) (ha : (sub c p).isAgg = (T.und ty).isAgg)
    (hv : ∀ V, Mt V v (sub c p)) (hu : ∀ V, Mt V u (get env s)) : retQ T [.cell t ty, .tmp s] (.tup 2 (pairA v u)) [] .ret env ol := by
  show LoadW T ty (get env t) ol _
  rw [hx]
  simp only [LoadW, ho]
  refine ⟨hk, hz, ha, ρ0, ⟨⟨rfl, fun i hi => ?_⟩, trivial⟩, trivial, trivial⟩
  match i, hi with
  | 0, _ => exact hv _
  | 1, _ => exact hu _
theorem rt_tt {T : TT} {t s : Nat} {env : Env} {ol : OL} {v u : AV} (hv : ∀ V, Mt V v (get env t)) (hu : ∀ V, Mt V u (get env s)) : retQ T [.tmp t, .tmp s] (.tup 2 (pairA v u)) [] .ret env ol := by
  refine ⟨ρ0, ⟨⟨rfl, fun i hi => ?_⟩, trivial⟩, trivial, trivial⟩
  match i, hi with
  | 0, _ => exact hv _
  | 1, _ => exact hu _

theorem nr_pair {a b : AV} (ha : a.noref) (hb : b.noref) : (AV.tup 2 (pairA a b)).noref := by
  intro i
  match i with
  | 0 => exact ha
  | 1 => exact hb
  | n + 2 => exact trivial
theorem shift_pair {a b : AV} {k : Nat} (ha : shift k a = a) (hb : shift k b = b) : shift k (.tup 2 (pairA a b)) = .tup 2 (pairA a b) := by
  simp only [shift, AV.tup.injEq, true_and]
  funext i
  match i with
  | 0 => exact ha
  | 1 => exact hb
  | n + 2 => rfl
theorem ssh_vec {k k' : IntKind} {n : Nat} {f g : Nat → Int} : ssh (.arr n (fun i => .int k (f i))) (.arr n (fun i => .int k' (g i))) := ⟨rfl, fun _ => trivial⟩
theorem ssh_tab {T T' : Nat → Nat → Nat → Int} : ssh (tabA T) (tabA T') := ⟨rfl, fun _ => ⟨rfl, fun _ => ⟨rfl, fun _ => trivial⟩⟩⟩
theorem ssh_alg {p n p' n' : Int} {T T' : Nat → Nat → Nat → Int} {fo fo' : Nat → Int} : ssh (algA p n T fo) (algA p' n' T' fo') := by
  refine ⟨rfl, fun i => ?_⟩
  match i with
  | 0 => exact trivial
  | 1 => exact trivial
  | 2 => exact ssh_tab
  | 3 => exact ssh_vec
  | n + 4 => exact trivial

/-! ### Arrays with one number turned -/
def upd {α : Type} (f : Nat → α) (j : Nat) (x : α) : Nat → α := fun i => if i = j then x else f i
theorem put_vec {k : IntKind} {n j : Nat} {f : Nat → Int} {x : Int} : put (.arr n (fun i => .int k (f i))) [j] (.int k x) = .arr n (fun i => .int k (upd f j x i)) := by
  simp only [put, AV.arr.injEq, true_and]
  funext i
  by_cases h : i = j
  · subst h; simp [upd, put]
  · simp [upd, beq_ff h, h]
theorem upd_eq {α : Type} (f : Nat → α) (j : Nat) (x : α) : upd f j x j = x := by simp [upd]
theorem upd_ne {α : Type} (f : Nat → α) {i j : Nat} (x : α) (h : i ≠ j) : upd f j x i = f i := by simp [upd, h]

abbrev matA (M : Nat → Nat → Int) : AV := .arr 6 (fun i => .arr 6 (fun j => .int .u8 (M i j)))
theorem put_nil {c v : AV} : put c [] v = v := by cases c <;> rfl
theorem put_mat {j : Nat} {M : Nat → Nat → Int} {r : Nat → Int} : put (matA M) [j] (vecA r) = matA (upd M j r) := by
  simp only [put, AV.arr.injEq, true_and]
  funext i
  by_cases h : i = j
  · subst h; simp [upd, put]
  · simp [upd, beq_ff h, h]
theorem put_tab {j : Nat} {T : Nat → Nat → Nat → Int} {M : Nat → Nat → Int} : put (tabA T) [j] (matA M) = tabA (upd T j M) := by
  simp only [put, AV.arr.injEq, true_and]
  funext i
  by_cases h : i = j
  · subst h; simp [upd, put]
  · simp [upd, beq_ff h, h]
theorem ssh_mat {M M' : Nat → Nat → Int} : ssh (matA M) (matA M') := ⟨rfl, fun _ => ⟨rfl, fun _ => trivial⟩⟩
theorem mt_mat {V : Vw} {M M' : Nat → Nat → Int} (h : ∀ i j, i < 6 → j < 6 → M' i j = M i j) : Mt V (matA M) (matA M') :=
  ⟨rfl, fun i hi => ⟨rfl, fun j hj => congrArg (AV.int .u8) (h i j hi hj)⟩⟩
theorem mt_tab {V : Vw} {T T' : Nat → Nat → Nat → Int} (h : ∀ i j k, i < 6 → j < 6 → k < 6 → T' i j k = T i j k) : Mt V (tabA T) (tabA T') :=
  ⟨rfl, fun i hi => ⟨rfl, fun j hj => ⟨rfl, fun k hk => congrArg (AV.int .u8) (h i j k hi hj hk)⟩⟩⟩
theorem mt_alg {V : Vw} {p n p' n' : Int} {T T' : Nat → Nat → Nat → Int} {fo fo' : Nat → Int} (hp : p' = p) (hn : n' = n) (hT : ∀ i j k, i < 6 → j < 6 → k < 6 → T' i j k = T i j k) (hf : ∀ i, i < 6 → fo' i = fo i) : Mt V (algA p n T fo) (algA p' n' T' fo') := by
  subst hp; subst hn
  refine ⟨rfl, fun i hi => ?_⟩
  match i, hi with
  | 0, _ => exact rfl
  | 1, _ => exact rfl
  | 2, _ => exact mt_tab hT
  | 3, _ => exact mt_vec hf
theorem algF_congr {p n : Int} {T : Nat → Nat → Nat → Int} {fo : Nat → Int} {f : Nat → AV} (h0 : f 0 = .int .i64 p) (h1 : f 1 = .int .i64 n) (h2 : f 2 = tabA T) (h3 : f 3 = vecA fo) (h4 : ∀ i, f (i + 4) = .any) : AV.sct 4 f = algA p n T fo := by
  refine congrArg (AV.sct 4) (funext fun i => ?_)
  match i with
  | 0 => exact h0
  | 1 => exact h1
  | 2 => exact h2
  | 3 => exact h3
  | i + 4 => exact h4 i
theorem put_alg0 {p n z : Int} {T : Nat → Nat → Nat → Int} {fo : Nat → Int} : put (algA p n T fo) [0] (.int .i64 z) = algA z n T fo := algF_congr rfl rfl rfl rfl (fun _ => rfl)
theorem put_alg1 {p n z : Int} {T : Nat → Nat → Nat → Int} {fo : Nat → Int} : put (algA p n T fo) [1] (.int .i64 z) = algA p z T fo := algF_congr rfl rfl rfl rfl (fun _ => rfl)
theorem put_alg2 {p n : Int} {T T' : Nat → Nat → Nat → Int} {fo : Nat → Int} : put (algA p n T fo) [2] (tabA T') = algA p n T' fo := algF_congr rfl rfl rfl rfl (fun _ => rfl)
theorem put_alg3 {p n : Int} {T : Nat → Nat → Nat → Int} {fo fo' : Nat → Int} : put (algA p n T fo) [3] (vecA fo') = algA p n T fo' := algF_congr rfl rfl rfl rfl (fun _ => rfl)
theorem put_alg3i {p n z : Int} {T : Nat → Nat → Nat → Int} {fo : Nat → Int} {i : Nat} : put (algA p n T fo) [3, i] (.int .u8 z) = algA p n T (upd fo i z) := algF_congr rfl rfl rfl (put_vec (n := 6)) (fun _ => rfl)
theorem put_tab2 {i j : Nat} {T : Nat → Nat → Nat → Int} {r : Nat → Int} : put (tabA T) [i, j] (vecA r) = tabA (upd T i (upd (T i) j r)) := by
  rw [← put_tab, ← put_mat]; rfl
theorem put_mat2 {i j : Nat} {M : Nat → Nat → Int} {z : Int} : put (matA M) [i, j] (.int .u8 z) = matA (upd M i (upd (M i) j z)) := by
  rw [← put_mat, show vecA (upd (M i) j z) = put (vecA (M i)) [j] (.int .u8 z) from put_vec.symm]; rfl
theorem put_tab3 {i j k : Nat} {T : Nat → Nat → Nat → Int} {z : Int} : put (tabA T) [i, j, k] (.int .u8 z) = tabA (upd T i (upd (T i) j (upd (T i j) k z))) := by
  rw [← put_tab, show matA (upd (T i) j (upd (T i j) k z)) = put (matA (T i)) [j, k] (.int .u8 z) from put_mat2.symm]; rfl
theorem put_alg2ij {p n : Int} {T : Nat → Nat → Nat → Int} {fo r : Nat → Int} {i j : Nat} : put (algA p n T fo) [2, i, j] (vecA r) = algA p n (upd T i (upd (T i) j r)) fo := algF_congr rfl rfl put_tab2 rfl (fun _ => rfl)
theorem put_alg2ijk {p n z : Int} {T : Nat → Nat → Nat → Int} {fo : Nat → Int} {i j k : Nat} : put (algA p n T fo) [2, i, j, k] (.int .u8 z) = algA p n (upd T i (upd (T i) j (upd (T i j) k z))) fo := algF_congr rfl rfl put_tab3 rfl (fun _ => rfl)

section
variable {P : Program} {T : TT} {N : Nat} {env : Env} {ol : OL}
variable {all : Array Oper} {r : List Oper} {R : Env → OL → Prop} {ty : TypeId} {pos : String} {af : Array Edge} {x y : Operand} {u t : TypeId}
/-- A number into an array of numbers. -/
theorem w_sti {k i o j n : Nat} {K : IntKind} {sh root : AV} {f : Nat → Int} {z : Int} (hx : evE env x = .ptr k i [j] o root) (hy : evE env y = .int K z) (hk : (T.und t).known = true) (ho : ol.at_ k i = some (sh, .arr n (fun i => .int K (f i)))) (hs : ssh (sub root [j]) (.int K z)) (hz : 1 = T.sz t)
    (hr : WOps P T all r env (ol.set k i (some (sh, .arr n (fun i => .int K (upd f j z i))))) R) : WOps P T all (⟨none, .store t x y, ty, pos, af, none⟩ :: r) env ol R :=
  w_store hx hy hk ho trivial hs hz (by rw [put_vec]) hr
/-- A whole value. -/
theorem w_stw {k i o : Nat} {sh root c v : AV} (hx : evE env x = .ptr k i [] o root) (hy : HV (evE env y) v) (hk : (T.und t).known = true) (ho : ol.at_ k i = some (sh, c)) (hc : v.cel) (hs : ssh root v) (hz : v.size = T.sz t)
    (hr : WOps P T all r env (ol.set k i (some (sh, v))) R) : WOps P T all (⟨none, .store t x y, ty, pos, af, none⟩ :: r) env ol R :=
  w_store hx hy.eq hk ho hc (by rw [show sub root [] = root by cases root <;> rfl]; exact hs) hz (by rw [show put c [] v = v by cases c <;> rfl]) hr
end
end Go.Am
set_option linter.unusedVariables false
namespace Go.Am
def theTab : Tab := [
  (1, .fnc, 1, 8),
  (2, .int .i64, 1, 8),
  (3, .int .i64, 1, 8),
  (4, .bool, 1, 1),
  (5, .int .u8, 1, 1),
  (9, .str, 1, 16),
  (12, .int .u64, 1, 8),
  (13, .sct [(9, 0), (12, 1)], 2, 24),
  (21, .int .i32, 1, 4),
  (22, .arr 6 5, 6, 6),
  (23, .arr 6 22, 36, 36),
  (24, .arr 6 23, 216, 216),
  (25, .sct [(2, 0), (2, 1), (24, 2), (22, 218)], 224, 240),
  (26, .sct [(2, 0), (2, 1), (24, 2), (22, 218)], 224, 240),
  (28, .fnc, 1, 8),
  (29, .arr 6 5, 6, 6),
  (30, .sct [(2, 0), (2, 1), (24, 2), (29, 218)], 224, 240),
  (31, .sct [(2, 0), (2, 1), (24, 2), (29, 218)], 224, 240),
  (32, .fnc, 1, 8),
  (33, .fnc, 1, 8),
  (34, .fnc, 1, 8),
  (36, .fnc, 1, 8),
  (38, .fnc, 1, 8),
  (39, .fnc, 1, 8),
  (40, .fnc, 1, 8),
  (41, .fnc, 1, 8),
  (42, .fnc, 1, 8),
  (43, .fnc, 1, 8),
  (44, .fnc, 1, 8),
  (46, .fnc, 1, 8),
  (47, .fnc, 1, 8),
  (48, .fnc, 1, 8),
  (49, .fnc, 1, 8),
  (50, .fnc, 1, 8),
  (51, .fnc, 1, 8),
  (52, .fnc, 1, 8),
  (53, .fnc, 1, 8),
  (54, .fnc, 1, 8),
  (55, .fnc, 1, 8),
  (56, .fnc, 1, 8),
  (57, .fnc, 1, 8),
  (58, .fnc, 1, 8),
  (59, .fnc, 1, 8),
  (60, .fnc, 1, 8),
  (61, .fnc, 1, 8),
  (62, .fnc, 1, 8),
  (63, .ptr 31, 1, 8),
  (64, .fnc, 1, 8),
  (65, .fnc, 1, 8),
  (66, .fnc, 1, 8),
  (67, .fnc, 1, 8),
  (68, .fnc, 1, 8),
  (69, .fnc, 1, 8),
  (70, .fnc, 1, 8),
  (71, .fnc, 1, 8),
  (72, .fnc, 1, 8),
  (73, .fnc, 1, 8),
  (74, .slc 29, 1, 24),
  (75, .fnc, 1, 8),
  (76, .fnc, 1, 8),
  (77, .fnc, 1, 8),
  (78, .fnc, 1, 8),
  (79, .arr 6 2, 6, 48),
  (81, .fnc, 1, 8),
  (82, .fnc, 1, 8),
  (83, .slc 5, 1, 24),
  (84, .fnc, 1, 8),
  (85, .slc 86, 1, 24),
  (86, .slc 2, 1, 24),
  (87, .fnc, 1, 8),
  (88, .fnc, 1, 8),
  (89, .fnc, 1, 8),
  (90, .fnc, 1, 8),
  (91, .fnc, 1, 8),
  (92, .fnc, 1, 8),
  (93, .fnc, 1, 8),
  (95, .fnc, 1, 8),
  (96, .slc 97, 1, 24),
  (97, .fnc, 1, 8),
  (98, .fnc, 1, 8),
  (99, .fnc, 1, 8),
  (100, .fnc, 1, 8),
  (101, .fnc, 1, 8),
  (102, .fnc, 1, 8),
  (103, .fnc, 1, 8),
  (104, .fnc, 1, 8),
  (105, .fnc, 1, 8),
  (106, .fnc, 1, 8),
  (107, .fnc, 1, 8),
  (108, .fnc, 1, 8),
  (109, .fnc, 1, 8),
  (110, .fnc, 1, 8),
  (111, .fnc, 1, 8),
  (112, .fnc, 1, 8),
  (113, .fnc, 1, 8),
  (114, .fnc, 1, 8),
  (115, .fnc, 1, 8),
  (116, .fnc, 1, 8),
  (122, .int .u32, 1, 4),
  (125, .fnc, 1, 8),
  (126, .ptr 5, 1, 8)]
def TB : TT := mkT theTab
theorem tokTB : TOk Go.Proofs.Try.prog TB := tok (by kernel_rfl)
theorem mixed : Go.Proofs.Try.prog.follows .mixedOrders = true := by kernel_rfl
theorem und1 : TB.und 1 = .fnc := by kernel_rfl
theorem sz1 : TB.sz 1 = 1 := by kernel_rfl
theorem by1 : TB.by_ 1 = 8 := by kernel_rfl
theorem kn1 : (TB.und 1).known = true := by kernel_rfl
theorem ag1 : (TB.und 1).isAgg = false := by kernel_rfl
theorem nz1 : TB.sz 1 ≠ 0 := by rw [sz1]; decide
theorem und2 : TB.und 2 = .int .i64 := by kernel_rfl
theorem sz2 : TB.sz 2 = 1 := by kernel_rfl
theorem by2 : TB.by_ 2 = 8 := by kernel_rfl
theorem kn2 : (TB.und 2).known = true := by kernel_rfl
theorem ag2 : (TB.und 2).isAgg = false := by kernel_rfl
theorem nz2 : TB.sz 2 ≠ 0 := by rw [sz2]; decide
theorem zr2 : TB.zero 2 = .int .i64 0 := by kernel_rfl
theorem und3 : TB.und 3 = .int .i64 := by kernel_rfl
theorem sz3 : TB.sz 3 = 1 := by kernel_rfl
theorem by3 : TB.by_ 3 = 8 := by kernel_rfl
theorem kn3 : (TB.und 3).known = true := by kernel_rfl
theorem ag3 : (TB.und 3).isAgg = false := by kernel_rfl
theorem nz3 : TB.sz 3 ≠ 0 := by rw [sz3]; decide
theorem zr3 : TB.zero 3 = .int .i64 0 := by kernel_rfl
theorem und4 : TB.und 4 = .bool := by kernel_rfl
theorem sz4 : TB.sz 4 = 1 := by kernel_rfl
theorem by4 : TB.by_ 4 = 1 := by kernel_rfl
theorem kn4 : (TB.und 4).known = true := by kernel_rfl
theorem ag4 : (TB.und 4).isAgg = false := by kernel_rfl
theorem nz4 : TB.sz 4 ≠ 0 := by rw [sz4]; decide
theorem zr4 : TB.zero 4 = .bool false := by kernel_rfl
theorem und5 : TB.und 5 = .int .u8 := by kernel_rfl
theorem sz5 : TB.sz 5 = 1 := by kernel_rfl
theorem by5 : TB.by_ 5 = 1 := by kernel_rfl
theorem kn5 : (TB.und 5).known = true := by kernel_rfl
theorem ag5 : (TB.und 5).isAgg = false := by kernel_rfl
theorem nz5 : TB.sz 5 ≠ 0 := by rw [sz5]; decide
theorem zr5 : TB.zero 5 = .int .u8 0 := by kernel_rfl
theorem und9 : TB.und 9 = .str := by kernel_rfl
theorem sz9 : TB.sz 9 = 1 := by kernel_rfl
theorem by9 : TB.by_ 9 = 16 := by kernel_rfl
theorem kn9 : (TB.und 9).known = true := by kernel_rfl
theorem ag9 : (TB.und 9).isAgg = false := by kernel_rfl
theorem nz9 : TB.sz 9 ≠ 0 := by rw [sz9]; decide
theorem und12 : TB.und 12 = .int .u64 := by kernel_rfl
theorem sz12 : TB.sz 12 = 1 := by kernel_rfl
theorem by12 : TB.by_ 12 = 8 := by kernel_rfl
theorem kn12 : (TB.und 12).known = true := by kernel_rfl
theorem ag12 : (TB.und 12).isAgg = false := by kernel_rfl
theorem nz12 : TB.sz 12 ≠ 0 := by rw [sz12]; decide
theorem zr12 : TB.zero 12 = .int .u64 0 := by kernel_rfl
theorem und13 : TB.und 13 = .sct [(9, 0), (12, 1)] := by kernel_rfl
theorem sz13 : TB.sz 13 = 2 := by kernel_rfl
theorem by13 : TB.by_ 13 = 24 := by kernel_rfl
theorem kn13 : (TB.und 13).known = true := by kernel_rfl
theorem ag13 : (TB.und 13).isAgg = true := by kernel_rfl
theorem nz13 : TB.sz 13 ≠ 0 := by rw [sz13]; decide
theorem und21 : TB.und 21 = .int .i32 := by kernel_rfl
theorem sz21 : TB.sz 21 = 1 := by kernel_rfl
theorem by21 : TB.by_ 21 = 4 := by kernel_rfl
theorem kn21 : (TB.und 21).known = true := by kernel_rfl
theorem ag21 : (TB.und 21).isAgg = false := by kernel_rfl
theorem nz21 : TB.sz 21 ≠ 0 := by rw [sz21]; decide
theorem zr21 : TB.zero 21 = .int .i32 0 := by kernel_rfl
theorem und22 : TB.und 22 = .arr 6 5 := by kernel_rfl
theorem sz22 : TB.sz 22 = 6 := by kernel_rfl
theorem by22 : TB.by_ 22 = 6 := by kernel_rfl
theorem kn22 : (TB.und 22).known = true := by kernel_rfl
theorem ag22 : (TB.und 22).isAgg = true := by kernel_rfl
theorem nz22 : TB.sz 22 ≠ 0 := by rw [sz22]; decide
theorem zr22 : TB.zero 22 = .arr 6 (fun _ => .int .u8 0) := by kernel_rfl
theorem und23 : TB.und 23 = .arr 6 22 := by kernel_rfl
theorem sz23 : TB.sz 23 = 36 := by kernel_rfl
theorem by23 : TB.by_ 23 = 36 := by kernel_rfl
theorem kn23 : (TB.und 23).known = true := by kernel_rfl
theorem ag23 : (TB.und 23).isAgg = true := by kernel_rfl
theorem nz23 : TB.sz 23 ≠ 0 := by rw [sz23]; decide
theorem zr23 : TB.zero 23 = .arr 6 (fun _ => .arr 6 (fun _ => .int .u8 0)) := by kernel_rfl
theorem und24 : TB.und 24 = .arr 6 23 := by kernel_rfl
theorem sz24 : TB.sz 24 = 216 := by kernel_rfl
theorem by24 : TB.by_ 24 = 216 := by kernel_rfl
theorem kn24 : (TB.und 24).known = true := by kernel_rfl
theorem ag24 : (TB.und 24).isAgg = true := by kernel_rfl
theorem nz24 : TB.sz 24 ≠ 0 := by rw [sz24]; decide
theorem zr24 : TB.zero 24 = .arr 6 (fun _ => .arr 6 (fun _ => .arr 6 (fun _ => .int .u8 0))) := by kernel_rfl
theorem und25 : TB.und 25 = .sct [(2, 0), (2, 1), (24, 2), (22, 218)] := by kernel_rfl
theorem sz25 : TB.sz 25 = 224 := by kernel_rfl
theorem by25 : TB.by_ 25 = 240 := by kernel_rfl
theorem kn25 : (TB.und 25).known = true := by kernel_rfl
theorem ag25 : (TB.und 25).isAgg = true := by kernel_rfl
theorem nz25 : TB.sz 25 ≠ 0 := by rw [sz25]; decide
theorem und26 : TB.und 26 = .sct [(2, 0), (2, 1), (24, 2), (22, 218)] := by kernel_rfl
theorem sz26 : TB.sz 26 = 224 := by kernel_rfl
theorem by26 : TB.by_ 26 = 240 := by kernel_rfl
theorem kn26 : (TB.und 26).known = true := by kernel_rfl
theorem ag26 : (TB.und 26).isAgg = true := by kernel_rfl
theorem nz26 : TB.sz 26 ≠ 0 := by rw [sz26]; decide
theorem und28 : TB.und 28 = .fnc := by kernel_rfl
theorem sz28 : TB.sz 28 = 1 := by kernel_rfl
theorem by28 : TB.by_ 28 = 8 := by kernel_rfl
theorem kn28 : (TB.und 28).known = true := by kernel_rfl
theorem ag28 : (TB.und 28).isAgg = false := by kernel_rfl
theorem nz28 : TB.sz 28 ≠ 0 := by rw [sz28]; decide
theorem und29 : TB.und 29 = .arr 6 5 := by kernel_rfl
theorem sz29 : TB.sz 29 = 6 := by kernel_rfl
theorem by29 : TB.by_ 29 = 6 := by kernel_rfl
theorem kn29 : (TB.und 29).known = true := by kernel_rfl
theorem ag29 : (TB.und 29).isAgg = true := by kernel_rfl
theorem nz29 : TB.sz 29 ≠ 0 := by rw [sz29]; decide
theorem zr29 : TB.zero 29 = .arr 6 (fun _ => .int .u8 0) := by kernel_rfl
theorem und30 : TB.und 30 = .sct [(2, 0), (2, 1), (24, 2), (29, 218)] := by kernel_rfl
theorem sz30 : TB.sz 30 = 224 := by kernel_rfl
theorem by30 : TB.by_ 30 = 240 := by kernel_rfl
theorem kn30 : (TB.und 30).known = true := by kernel_rfl
theorem ag30 : (TB.und 30).isAgg = true := by kernel_rfl
theorem nz30 : TB.sz 30 ≠ 0 := by rw [sz30]; decide
theorem und31 : TB.und 31 = .sct [(2, 0), (2, 1), (24, 2), (29, 218)] := by kernel_rfl
theorem sz31 : TB.sz 31 = 224 := by kernel_rfl
theorem by31 : TB.by_ 31 = 240 := by kernel_rfl
theorem kn31 : (TB.und 31).known = true := by kernel_rfl
theorem ag31 : (TB.und 31).isAgg = true := by kernel_rfl
theorem nz31 : TB.sz 31 ≠ 0 := by rw [sz31]; decide
theorem und32 : TB.und 32 = .fnc := by kernel_rfl
theorem sz32 : TB.sz 32 = 1 := by kernel_rfl
theorem by32 : TB.by_ 32 = 8 := by kernel_rfl
theorem kn32 : (TB.und 32).known = true := by kernel_rfl
theorem ag32 : (TB.und 32).isAgg = false := by kernel_rfl
theorem nz32 : TB.sz 32 ≠ 0 := by rw [sz32]; decide
theorem und33 : TB.und 33 = .fnc := by kernel_rfl
theorem sz33 : TB.sz 33 = 1 := by kernel_rfl
theorem by33 : TB.by_ 33 = 8 := by kernel_rfl
theorem kn33 : (TB.und 33).known = true := by kernel_rfl
theorem ag33 : (TB.und 33).isAgg = false := by kernel_rfl
theorem nz33 : TB.sz 33 ≠ 0 := by rw [sz33]; decide
theorem und34 : TB.und 34 = .fnc := by kernel_rfl
theorem sz34 : TB.sz 34 = 1 := by kernel_rfl
theorem by34 : TB.by_ 34 = 8 := by kernel_rfl
theorem kn34 : (TB.und 34).known = true := by kernel_rfl
theorem ag34 : (TB.und 34).isAgg = false := by kernel_rfl
theorem nz34 : TB.sz 34 ≠ 0 := by rw [sz34]; decide
theorem und36 : TB.und 36 = .fnc := by kernel_rfl
theorem sz36 : TB.sz 36 = 1 := by kernel_rfl
theorem by36 : TB.by_ 36 = 8 := by kernel_rfl
theorem kn36 : (TB.und 36).known = true := by kernel_rfl
theorem ag36 : (TB.und 36).isAgg = false := by kernel_rfl
theorem nz36 : TB.sz 36 ≠ 0 := by rw [sz36]; decide
theorem und38 : TB.und 38 = .fnc := by kernel_rfl
theorem sz38 : TB.sz 38 = 1 := by kernel_rfl
theorem by38 : TB.by_ 38 = 8 := by kernel_rfl
theorem kn38 : (TB.und 38).known = true := by kernel_rfl
theorem ag38 : (TB.und 38).isAgg = false := by kernel_rfl
theorem nz38 : TB.sz 38 ≠ 0 := by rw [sz38]; decide
theorem und39 : TB.und 39 = .fnc := by kernel_rfl
theorem sz39 : TB.sz 39 = 1 := by kernel_rfl
theorem by39 : TB.by_ 39 = 8 := by kernel_rfl
theorem kn39 : (TB.und 39).known = true := by kernel_rfl
theorem ag39 : (TB.und 39).isAgg = false := by kernel_rfl
theorem nz39 : TB.sz 39 ≠ 0 := by rw [sz39]; decide
theorem und40 : TB.und 40 = .fnc := by kernel_rfl
theorem sz40 : TB.sz 40 = 1 := by kernel_rfl
theorem by40 : TB.by_ 40 = 8 := by kernel_rfl
theorem kn40 : (TB.und 40).known = true := by kernel_rfl
theorem ag40 : (TB.und 40).isAgg = false := by kernel_rfl
theorem nz40 : TB.sz 40 ≠ 0 := by rw [sz40]; decide
theorem und41 : TB.und 41 = .fnc := by kernel_rfl
theorem sz41 : TB.sz 41 = 1 := by kernel_rfl
theorem by41 : TB.by_ 41 = 8 := by kernel_rfl
theorem kn41 : (TB.und 41).known = true := by kernel_rfl
theorem ag41 : (TB.und 41).isAgg = false := by kernel_rfl
theorem nz41 : TB.sz 41 ≠ 0 := by rw [sz41]; decide
theorem und42 : TB.und 42 = .fnc := by kernel_rfl
theorem sz42 : TB.sz 42 = 1 := by kernel_rfl
theorem by42 : TB.by_ 42 = 8 := by kernel_rfl
theorem kn42 : (TB.und 42).known = true := by kernel_rfl
theorem ag42 : (TB.und 42).isAgg = false := by kernel_rfl
theorem nz42 : TB.sz 42 ≠ 0 := by rw [sz42]; decide
theorem und43 : TB.und 43 = .fnc := by kernel_rfl
theorem sz43 : TB.sz 43 = 1 := by kernel_rfl
theorem by43 : TB.by_ 43 = 8 := by kernel_rfl
theorem kn43 : (TB.und 43).known = true := by kernel_rfl
theorem ag43 : (TB.und 43).isAgg = false := by kernel_rfl
theorem nz43 : TB.sz 43 ≠ 0 := by rw [sz43]; decide
theorem und44 : TB.und 44 = .fnc := by kernel_rfl
theorem sz44 : TB.sz 44 = 1 := by kernel_rfl
theorem by44 : TB.by_ 44 = 8 := by kernel_rfl
theorem kn44 : (TB.und 44).known = true := by kernel_rfl
theorem ag44 : (TB.und 44).isAgg = false := by kernel_rfl
theorem nz44 : TB.sz 44 ≠ 0 := by rw [sz44]; decide
theorem und46 : TB.und 46 = .fnc := by kernel_rfl
theorem sz46 : TB.sz 46 = 1 := by kernel_rfl
theorem by46 : TB.by_ 46 = 8 := by kernel_rfl
theorem kn46 : (TB.und 46).known = true := by kernel_rfl
theorem ag46 : (TB.und 46).isAgg = false := by kernel_rfl
theorem nz46 : TB.sz 46 ≠ 0 := by rw [sz46]; decide
theorem und47 : TB.und 47 = .fnc := by kernel_rfl
theorem sz47 : TB.sz 47 = 1 := by kernel_rfl
theorem by47 : TB.by_ 47 = 8 := by kernel_rfl
theorem kn47 : (TB.und 47).known = true := by kernel_rfl
theorem ag47 : (TB.und 47).isAgg = false := by kernel_rfl
theorem nz47 : TB.sz 47 ≠ 0 := by rw [sz47]; decide
theorem und48 : TB.und 48 = .fnc := by kernel_rfl
theorem sz48 : TB.sz 48 = 1 := by kernel_rfl
theorem by48 : TB.by_ 48 = 8 := by kernel_rfl
theorem kn48 : (TB.und 48).known = true := by kernel_rfl
theorem ag48 : (TB.und 48).isAgg = false := by kernel_rfl
theorem nz48 : TB.sz 48 ≠ 0 := by rw [sz48]; decide
theorem und49 : TB.und 49 = .fnc := by kernel_rfl
theorem sz49 : TB.sz 49 = 1 := by kernel_rfl
theorem by49 : TB.by_ 49 = 8 := by kernel_rfl
theorem kn49 : (TB.und 49).known = true := by kernel_rfl
theorem ag49 : (TB.und 49).isAgg = false := by kernel_rfl
theorem nz49 : TB.sz 49 ≠ 0 := by rw [sz49]; decide
theorem und50 : TB.und 50 = .fnc := by kernel_rfl
theorem sz50 : TB.sz 50 = 1 := by kernel_rfl
theorem by50 : TB.by_ 50 = 8 := by kernel_rfl
theorem kn50 : (TB.und 50).known = true := by kernel_rfl
theorem ag50 : (TB.und 50).isAgg = false := by kernel_rfl
theorem nz50 : TB.sz 50 ≠ 0 := by rw [sz50]; decide
theorem und51 : TB.und 51 = .fnc := by kernel_rfl
theorem sz51 : TB.sz 51 = 1 := by kernel_rfl
theorem by51 : TB.by_ 51 = 8 := by kernel_rfl
theorem kn51 : (TB.und 51).known = true := by kernel_rfl
theorem ag51 : (TB.und 51).isAgg = false := by kernel_rfl
theorem nz51 : TB.sz 51 ≠ 0 := by rw [sz51]; decide
theorem und52 : TB.und 52 = .fnc := by kernel_rfl
theorem sz52 : TB.sz 52 = 1 := by kernel_rfl
theorem by52 : TB.by_ 52 = 8 := by kernel_rfl
theorem kn52 : (TB.und 52).known = true := by kernel_rfl
theorem ag52 : (TB.und 52).isAgg = false := by kernel_rfl
theorem nz52 : TB.sz 52 ≠ 0 := by rw [sz52]; decide
theorem und53 : TB.und 53 = .fnc := by kernel_rfl
theorem sz53 : TB.sz 53 = 1 := by kernel_rfl
theorem by53 : TB.by_ 53 = 8 := by kernel_rfl
theorem kn53 : (TB.und 53).known = true := by kernel_rfl
theorem ag53 : (TB.und 53).isAgg = false := by kernel_rfl
theorem nz53 : TB.sz 53 ≠ 0 := by rw [sz53]; decide
theorem und54 : TB.und 54 = .fnc := by kernel_rfl
theorem sz54 : TB.sz 54 = 1 := by kernel_rfl
theorem by54 : TB.by_ 54 = 8 := by kernel_rfl
theorem kn54 : (TB.und 54).known = true := by kernel_rfl
theorem ag54 : (TB.und 54).isAgg = false := by kernel_rfl
theorem nz54 : TB.sz 54 ≠ 0 := by rw [sz54]; decide
theorem und55 : TB.und 55 = .fnc := by kernel_rfl
theorem sz55 : TB.sz 55 = 1 := by kernel_rfl
theorem by55 : TB.by_ 55 = 8 := by kernel_rfl
theorem kn55 : (TB.und 55).known = true := by kernel_rfl
theorem ag55 : (TB.und 55).isAgg = false := by kernel_rfl
theorem nz55 : TB.sz 55 ≠ 0 := by rw [sz55]; decide
theorem und56 : TB.und 56 = .fnc := by kernel_rfl
theorem sz56 : TB.sz 56 = 1 := by kernel_rfl
theorem by56 : TB.by_ 56 = 8 := by kernel_rfl
theorem kn56 : (TB.und 56).known = true := by kernel_rfl
theorem ag56 : (TB.und 56).isAgg = false := by kernel_rfl
theorem nz56 : TB.sz 56 ≠ 0 := by rw [sz56]; decide
theorem und57 : TB.und 57 = .fnc := by kernel_rfl
theorem sz57 : TB.sz 57 = 1 := by kernel_rfl
theorem by57 : TB.by_ 57 = 8 := by kernel_rfl
theorem kn57 : (TB.und 57).known = true := by kernel_rfl
theorem ag57 : (TB.und 57).isAgg = false := by kernel_rfl
theorem nz57 : TB.sz 57 ≠ 0 := by rw [sz57]; decide
theorem und58 : TB.und 58 = .fnc := by kernel_rfl
theorem sz58 : TB.sz 58 = 1 := by kernel_rfl
theorem by58 : TB.by_ 58 = 8 := by kernel_rfl
theorem kn58 : (TB.und 58).known = true := by kernel_rfl
theorem ag58 : (TB.und 58).isAgg = false := by kernel_rfl
theorem nz58 : TB.sz 58 ≠ 0 := by rw [sz58]; decide
theorem und59 : TB.und 59 = .fnc := by kernel_rfl
theorem sz59 : TB.sz 59 = 1 := by kernel_rfl
theorem by59 : TB.by_ 59 = 8 := by kernel_rfl
theorem kn59 : (TB.und 59).known = true := by kernel_rfl
theorem ag59 : (TB.und 59).isAgg = false := by kernel_rfl
theorem nz59 : TB.sz 59 ≠ 0 := by rw [sz59]; decide
theorem und60 : TB.und 60 = .fnc := by kernel_rfl
theorem sz60 : TB.sz 60 = 1 := by kernel_rfl
theorem by60 : TB.by_ 60 = 8 := by kernel_rfl
theorem kn60 : (TB.und 60).known = true := by kernel_rfl
theorem ag60 : (TB.und 60).isAgg = false := by kernel_rfl
theorem nz60 : TB.sz 60 ≠ 0 := by rw [sz60]; decide
theorem und61 : TB.und 61 = .fnc := by kernel_rfl
theorem sz61 : TB.sz 61 = 1 := by kernel_rfl
theorem by61 : TB.by_ 61 = 8 := by kernel_rfl
theorem kn61 : (TB.und 61).known = true := by kernel_rfl
theorem ag61 : (TB.und 61).isAgg = false := by kernel_rfl
theorem nz61 : TB.sz 61 ≠ 0 := by rw [sz61]; decide
theorem und62 : TB.und 62 = .fnc := by kernel_rfl
theorem sz62 : TB.sz 62 = 1 := by kernel_rfl
theorem by62 : TB.by_ 62 = 8 := by kernel_rfl
theorem kn62 : (TB.und 62).known = true := by kernel_rfl
theorem ag62 : (TB.und 62).isAgg = false := by kernel_rfl
theorem nz62 : TB.sz 62 ≠ 0 := by rw [sz62]; decide
theorem und63 : TB.und 63 = .ptr 31 := by kernel_rfl
theorem sz63 : TB.sz 63 = 1 := by kernel_rfl
theorem by63 : TB.by_ 63 = 8 := by kernel_rfl
theorem kn63 : (TB.und 63).known = true := by kernel_rfl
theorem ag63 : (TB.und 63).isAgg = false := by kernel_rfl
theorem nz63 : TB.sz 63 ≠ 0 := by rw [sz63]; decide
theorem und64 : TB.und 64 = .fnc := by kernel_rfl
theorem sz64 : TB.sz 64 = 1 := by kernel_rfl
theorem by64 : TB.by_ 64 = 8 := by kernel_rfl
theorem kn64 : (TB.und 64).known = true := by kernel_rfl
theorem ag64 : (TB.und 64).isAgg = false := by kernel_rfl
theorem nz64 : TB.sz 64 ≠ 0 := by rw [sz64]; decide
theorem und65 : TB.und 65 = .fnc := by kernel_rfl
theorem sz65 : TB.sz 65 = 1 := by kernel_rfl
theorem by65 : TB.by_ 65 = 8 := by kernel_rfl
theorem kn65 : (TB.und 65).known = true := by kernel_rfl
theorem ag65 : (TB.und 65).isAgg = false := by kernel_rfl
theorem nz65 : TB.sz 65 ≠ 0 := by rw [sz65]; decide
theorem und66 : TB.und 66 = .fnc := by kernel_rfl
theorem sz66 : TB.sz 66 = 1 := by kernel_rfl
theorem by66 : TB.by_ 66 = 8 := by kernel_rfl
theorem kn66 : (TB.und 66).known = true := by kernel_rfl
theorem ag66 : (TB.und 66).isAgg = false := by kernel_rfl
theorem nz66 : TB.sz 66 ≠ 0 := by rw [sz66]; decide
theorem und67 : TB.und 67 = .fnc := by kernel_rfl
theorem sz67 : TB.sz 67 = 1 := by kernel_rfl
theorem by67 : TB.by_ 67 = 8 := by kernel_rfl
theorem kn67 : (TB.und 67).known = true := by kernel_rfl
theorem ag67 : (TB.und 67).isAgg = false := by kernel_rfl
theorem nz67 : TB.sz 67 ≠ 0 := by rw [sz67]; decide
theorem und68 : TB.und 68 = .fnc := by kernel_rfl
theorem sz68 : TB.sz 68 = 1 := by kernel_rfl
theorem by68 : TB.by_ 68 = 8 := by kernel_rfl
theorem kn68 : (TB.und 68).known = true := by kernel_rfl
theorem ag68 : (TB.und 68).isAgg = false := by kernel_rfl
theorem nz68 : TB.sz 68 ≠ 0 := by rw [sz68]; decide
theorem und69 : TB.und 69 = .fnc := by kernel_rfl
theorem sz69 : TB.sz 69 = 1 := by kernel_rfl
theorem by69 : TB.by_ 69 = 8 := by kernel_rfl
theorem kn69 : (TB.und 69).known = true := by kernel_rfl
theorem ag69 : (TB.und 69).isAgg = false := by kernel_rfl
theorem nz69 : TB.sz 69 ≠ 0 := by rw [sz69]; decide
theorem und70 : TB.und 70 = .fnc := by kernel_rfl
theorem sz70 : TB.sz 70 = 1 := by kernel_rfl
theorem by70 : TB.by_ 70 = 8 := by kernel_rfl
theorem kn70 : (TB.und 70).known = true := by kernel_rfl
theorem ag70 : (TB.und 70).isAgg = false := by kernel_rfl
theorem nz70 : TB.sz 70 ≠ 0 := by rw [sz70]; decide
theorem und71 : TB.und 71 = .fnc := by kernel_rfl
theorem sz71 : TB.sz 71 = 1 := by kernel_rfl
theorem by71 : TB.by_ 71 = 8 := by kernel_rfl
theorem kn71 : (TB.und 71).known = true := by kernel_rfl
theorem ag71 : (TB.und 71).isAgg = false := by kernel_rfl
theorem nz71 : TB.sz 71 ≠ 0 := by rw [sz71]; decide
theorem und72 : TB.und 72 = .fnc := by kernel_rfl
theorem sz72 : TB.sz 72 = 1 := by kernel_rfl
theorem by72 : TB.by_ 72 = 8 := by kernel_rfl
theorem kn72 : (TB.und 72).known = true := by kernel_rfl
theorem ag72 : (TB.und 72).isAgg = false := by kernel_rfl
theorem nz72 : TB.sz 72 ≠ 0 := by rw [sz72]; decide
theorem und73 : TB.und 73 = .fnc := by kernel_rfl
theorem sz73 : TB.sz 73 = 1 := by kernel_rfl
theorem by73 : TB.by_ 73 = 8 := by kernel_rfl
theorem kn73 : (TB.und 73).known = true := by kernel_rfl
theorem ag73 : (TB.und 73).isAgg = false := by kernel_rfl
theorem nz73 : TB.sz 73 ≠ 0 := by rw [sz73]; decide
theorem und74 : TB.und 74 = .slc 29 := by kernel_rfl
theorem sz74 : TB.sz 74 = 1 := by kernel_rfl
theorem by74 : TB.by_ 74 = 24 := by kernel_rfl
theorem kn74 : (TB.und 74).known = true := by kernel_rfl
theorem ag74 : (TB.und 74).isAgg = false := by kernel_rfl
theorem nz74 : TB.sz 74 ≠ 0 := by rw [sz74]; decide
theorem zr74 : TB.zero 74 = .nilsl := by kernel_rfl
theorem und75 : TB.und 75 = .fnc := by kernel_rfl
theorem sz75 : TB.sz 75 = 1 := by kernel_rfl
theorem by75 : TB.by_ 75 = 8 := by kernel_rfl
theorem kn75 : (TB.und 75).known = true := by kernel_rfl
theorem ag75 : (TB.und 75).isAgg = false := by kernel_rfl
theorem nz75 : TB.sz 75 ≠ 0 := by rw [sz75]; decide
theorem und76 : TB.und 76 = .fnc := by kernel_rfl
theorem sz76 : TB.sz 76 = 1 := by kernel_rfl
theorem by76 : TB.by_ 76 = 8 := by kernel_rfl
theorem kn76 : (TB.und 76).known = true := by kernel_rfl
theorem ag76 : (TB.und 76).isAgg = false := by kernel_rfl
theorem nz76 : TB.sz 76 ≠ 0 := by rw [sz76]; decide
theorem und77 : TB.und 77 = .fnc := by kernel_rfl
theorem sz77 : TB.sz 77 = 1 := by kernel_rfl
theorem by77 : TB.by_ 77 = 8 := by kernel_rfl
theorem kn77 : (TB.und 77).known = true := by kernel_rfl
theorem ag77 : (TB.und 77).isAgg = false := by kernel_rfl
theorem nz77 : TB.sz 77 ≠ 0 := by rw [sz77]; decide
theorem und78 : TB.und 78 = .fnc := by kernel_rfl
theorem sz78 : TB.sz 78 = 1 := by kernel_rfl
theorem by78 : TB.by_ 78 = 8 := by kernel_rfl
theorem kn78 : (TB.und 78).known = true := by kernel_rfl
theorem ag78 : (TB.und 78).isAgg = false := by kernel_rfl
theorem nz78 : TB.sz 78 ≠ 0 := by rw [sz78]; decide
theorem und79 : TB.und 79 = .arr 6 2 := by kernel_rfl
theorem sz79 : TB.sz 79 = 6 := by kernel_rfl
theorem by79 : TB.by_ 79 = 48 := by kernel_rfl
theorem kn79 : (TB.und 79).known = true := by kernel_rfl
theorem ag79 : (TB.und 79).isAgg = true := by kernel_rfl
theorem nz79 : TB.sz 79 ≠ 0 := by rw [sz79]; decide
theorem zr79 : TB.zero 79 = .arr 6 (fun _ => .int .i64 0) := by kernel_rfl
theorem und81 : TB.und 81 = .fnc := by kernel_rfl
theorem sz81 : TB.sz 81 = 1 := by kernel_rfl
theorem by81 : TB.by_ 81 = 8 := by kernel_rfl
theorem kn81 : (TB.und 81).known = true := by kernel_rfl
theorem ag81 : (TB.und 81).isAgg = false := by kernel_rfl
theorem nz81 : TB.sz 81 ≠ 0 := by rw [sz81]; decide
theorem und82 : TB.und 82 = .fnc := by kernel_rfl
theorem sz82 : TB.sz 82 = 1 := by kernel_rfl
theorem by82 : TB.by_ 82 = 8 := by kernel_rfl
theorem kn82 : (TB.und 82).known = true := by kernel_rfl
theorem ag82 : (TB.und 82).isAgg = false := by kernel_rfl
theorem nz82 : TB.sz 82 ≠ 0 := by rw [sz82]; decide
theorem und83 : TB.und 83 = .slc 5 := by kernel_rfl
theorem sz83 : TB.sz 83 = 1 := by kernel_rfl
theorem by83 : TB.by_ 83 = 24 := by kernel_rfl
theorem kn83 : (TB.und 83).known = true := by kernel_rfl
theorem ag83 : (TB.und 83).isAgg = false := by kernel_rfl
theorem nz83 : TB.sz 83 ≠ 0 := by rw [sz83]; decide
theorem zr83 : TB.zero 83 = .nilsl := by kernel_rfl
theorem und84 : TB.und 84 = .fnc := by kernel_rfl
theorem sz84 : TB.sz 84 = 1 := by kernel_rfl
theorem by84 : TB.by_ 84 = 8 := by kernel_rfl
theorem kn84 : (TB.und 84).known = true := by kernel_rfl
theorem ag84 : (TB.und 84).isAgg = false := by kernel_rfl
theorem nz84 : TB.sz 84 ≠ 0 := by rw [sz84]; decide
theorem und85 : TB.und 85 = .slc 86 := by kernel_rfl
theorem sz85 : TB.sz 85 = 1 := by kernel_rfl
theorem by85 : TB.by_ 85 = 24 := by kernel_rfl
theorem kn85 : (TB.und 85).known = true := by kernel_rfl
theorem ag85 : (TB.und 85).isAgg = false := by kernel_rfl
theorem nz85 : TB.sz 85 ≠ 0 := by rw [sz85]; decide
theorem zr85 : TB.zero 85 = .nilsl := by kernel_rfl
theorem und86 : TB.und 86 = .slc 2 := by kernel_rfl
theorem sz86 : TB.sz 86 = 1 := by kernel_rfl
theorem by86 : TB.by_ 86 = 24 := by kernel_rfl
theorem kn86 : (TB.und 86).known = true := by kernel_rfl
theorem ag86 : (TB.und 86).isAgg = false := by kernel_rfl
theorem nz86 : TB.sz 86 ≠ 0 := by rw [sz86]; decide
theorem zr86 : TB.zero 86 = .nilsl := by kernel_rfl
theorem und87 : TB.und 87 = .fnc := by kernel_rfl
theorem sz87 : TB.sz 87 = 1 := by kernel_rfl
theorem by87 : TB.by_ 87 = 8 := by kernel_rfl
theorem kn87 : (TB.und 87).known = true := by kernel_rfl
theorem ag87 : (TB.und 87).isAgg = false := by kernel_rfl
theorem nz87 : TB.sz 87 ≠ 0 := by rw [sz87]; decide
theorem und88 : TB.und 88 = .fnc := by kernel_rfl
theorem sz88 : TB.sz 88 = 1 := by kernel_rfl
theorem by88 : TB.by_ 88 = 8 := by kernel_rfl
theorem kn88 : (TB.und 88).known = true := by kernel_rfl
theorem ag88 : (TB.und 88).isAgg = false := by kernel_rfl
theorem nz88 : TB.sz 88 ≠ 0 := by rw [sz88]; decide
theorem und89 : TB.und 89 = .fnc := by kernel_rfl
theorem sz89 : TB.sz 89 = 1 := by kernel_rfl
theorem by89 : TB.by_ 89 = 8 := by kernel_rfl
theorem kn89 : (TB.und 89).known = true := by kernel_rfl
theorem ag89 : (TB.und 89).isAgg = false := by kernel_rfl
theorem nz89 : TB.sz 89 ≠ 0 := by rw [sz89]; decide
theorem und90 : TB.und 90 = .fnc := by kernel_rfl
theorem sz90 : TB.sz 90 = 1 := by kernel_rfl
theorem by90 : TB.by_ 90 = 8 := by kernel_rfl
theorem kn90 : (TB.und 90).known = true := by kernel_rfl
theorem ag90 : (TB.und 90).isAgg = false := by kernel_rfl
theorem nz90 : TB.sz 90 ≠ 0 := by rw [sz90]; decide
theorem und91 : TB.und 91 = .fnc := by kernel_rfl
theorem sz91 : TB.sz 91 = 1 := by kernel_rfl
theorem by91 : TB.by_ 91 = 8 := by kernel_rfl
theorem kn91 : (TB.und 91).known = true := by kernel_rfl
theorem ag91 : (TB.und 91).isAgg = false := by kernel_rfl
theorem nz91 : TB.sz 91 ≠ 0 := by rw [sz91]; decide
theorem und92 : TB.und 92 = .fnc := by kernel_rfl
theorem sz92 : TB.sz 92 = 1 := by kernel_rfl
theorem by92 : TB.by_ 92 = 8 := by kernel_rfl
theorem kn92 : (TB.und 92).known = true := by kernel_rfl
theorem ag92 : (TB.und 92).isAgg = false := by kernel_rfl
theorem nz92 : TB.sz 92 ≠ 0 := by rw [sz92]; decide
theorem und93 : TB.und 93 = .fnc := by kernel_rfl
theorem sz93 : TB.sz 93 = 1 := by kernel_rfl
theorem by93 : TB.by_ 93 = 8 := by kernel_rfl
theorem kn93 : (TB.und 93).known = true := by kernel_rfl
theorem ag93 : (TB.und 93).isAgg = false := by kernel_rfl
theorem nz93 : TB.sz 93 ≠ 0 := by rw [sz93]; decide
theorem und95 : TB.und 95 = .fnc := by kernel_rfl
theorem sz95 : TB.sz 95 = 1 := by kernel_rfl
theorem by95 : TB.by_ 95 = 8 := by kernel_rfl
theorem kn95 : (TB.und 95).known = true := by kernel_rfl
theorem ag95 : (TB.und 95).isAgg = false := by kernel_rfl
theorem nz95 : TB.sz 95 ≠ 0 := by rw [sz95]; decide
theorem und96 : TB.und 96 = .slc 97 := by kernel_rfl
theorem sz96 : TB.sz 96 = 1 := by kernel_rfl
theorem by96 : TB.by_ 96 = 24 := by kernel_rfl
theorem kn96 : (TB.und 96).known = true := by kernel_rfl
theorem ag96 : (TB.und 96).isAgg = false := by kernel_rfl
theorem nz96 : TB.sz 96 ≠ 0 := by rw [sz96]; decide
theorem zr96 : TB.zero 96 = .nilsl := by kernel_rfl
theorem und97 : TB.und 97 = .fnc := by kernel_rfl
theorem sz97 : TB.sz 97 = 1 := by kernel_rfl
theorem by97 : TB.by_ 97 = 8 := by kernel_rfl
theorem kn97 : (TB.und 97).known = true := by kernel_rfl
theorem ag97 : (TB.und 97).isAgg = false := by kernel_rfl
theorem nz97 : TB.sz 97 ≠ 0 := by rw [sz97]; decide
theorem und98 : TB.und 98 = .fnc := by kernel_rfl
theorem sz98 : TB.sz 98 = 1 := by kernel_rfl
theorem by98 : TB.by_ 98 = 8 := by kernel_rfl
theorem kn98 : (TB.und 98).known = true := by kernel_rfl
theorem ag98 : (TB.und 98).isAgg = false := by kernel_rfl
theorem nz98 : TB.sz 98 ≠ 0 := by rw [sz98]; decide
theorem und99 : TB.und 99 = .fnc := by kernel_rfl
theorem sz99 : TB.sz 99 = 1 := by kernel_rfl
theorem by99 : TB.by_ 99 = 8 := by kernel_rfl
theorem kn99 : (TB.und 99).known = true := by kernel_rfl
theorem ag99 : (TB.und 99).isAgg = false := by kernel_rfl
theorem nz99 : TB.sz 99 ≠ 0 := by rw [sz99]; decide
theorem und100 : TB.und 100 = .fnc := by kernel_rfl
theorem sz100 : TB.sz 100 = 1 := by kernel_rfl
theorem by100 : TB.by_ 100 = 8 := by kernel_rfl
theorem kn100 : (TB.und 100).known = true := by kernel_rfl
theorem ag100 : (TB.und 100).isAgg = false := by kernel_rfl
theorem nz100 : TB.sz 100 ≠ 0 := by rw [sz100]; decide
theorem und101 : TB.und 101 = .fnc := by kernel_rfl
theorem sz101 : TB.sz 101 = 1 := by kernel_rfl
theorem by101 : TB.by_ 101 = 8 := by kernel_rfl
theorem kn101 : (TB.und 101).known = true := by kernel_rfl
theorem ag101 : (TB.und 101).isAgg = false := by kernel_rfl
theorem nz101 : TB.sz 101 ≠ 0 := by rw [sz101]; decide
theorem und102 : TB.und 102 = .fnc := by kernel_rfl
theorem sz102 : TB.sz 102 = 1 := by kernel_rfl
theorem by102 : TB.by_ 102 = 8 := by kernel_rfl
theorem kn102 : (TB.und 102).known = true := by kernel_rfl
theorem ag102 : (TB.und 102).isAgg = false := by kernel_rfl
theorem nz102 : TB.sz 102 ≠ 0 := by rw [sz102]; decide
theorem und103 : TB.und 103 = .fnc := by kernel_rfl
theorem sz103 : TB.sz 103 = 1 := by kernel_rfl
theorem by103 : TB.by_ 103 = 8 := by kernel_rfl
theorem kn103 : (TB.und 103).known = true := by kernel_rfl
theorem ag103 : (TB.und 103).isAgg = false := by kernel_rfl
theorem nz103 : TB.sz 103 ≠ 0 := by rw [sz103]; decide
theorem und104 : TB.und 104 = .fnc := by kernel_rfl
theorem sz104 : TB.sz 104 = 1 := by kernel_rfl
theorem by104 : TB.by_ 104 = 8 := by kernel_rfl
theorem kn104 : (TB.und 104).known = true := by kernel_rfl
theorem ag104 : (TB.und 104).isAgg = false := by kernel_rfl
theorem nz104 : TB.sz 104 ≠ 0 := by rw [sz104]; decide
theorem und105 : TB.und 105 = .fnc := by kernel_rfl
theorem sz105 : TB.sz 105 = 1 := by kernel_rfl
theorem by105 : TB.by_ 105 = 8 := by kernel_rfl
theorem kn105 : (TB.und 105).known = true := by kernel_rfl
theorem ag105 : (TB.und 105).isAgg = false := by kernel_rfl
theorem nz105 : TB.sz 105 ≠ 0 := by rw [sz105]; decide
theorem und106 : TB.und 106 = .fnc := by kernel_rfl
theorem sz106 : TB.sz 106 = 1 := by kernel_rfl
theorem by106 : TB.by_ 106 = 8 := by kernel_rfl
theorem kn106 : (TB.und 106).known = true := by kernel_rfl
theorem ag106 : (TB.und 106).isAgg = false := by kernel_rfl
theorem nz106 : TB.sz 106 ≠ 0 := by rw [sz106]; decide
theorem und107 : TB.und 107 = .fnc := by kernel_rfl
theorem sz107 : TB.sz 107 = 1 := by kernel_rfl
theorem by107 : TB.by_ 107 = 8 := by kernel_rfl
theorem kn107 : (TB.und 107).known = true := by kernel_rfl
theorem ag107 : (TB.und 107).isAgg = false := by kernel_rfl
theorem nz107 : TB.sz 107 ≠ 0 := by rw [sz107]; decide
theorem und108 : TB.und 108 = .fnc := by kernel_rfl
theorem sz108 : TB.sz 108 = 1 := by kernel_rfl
theorem by108 : TB.by_ 108 = 8 := by kernel_rfl
theorem kn108 : (TB.und 108).known = true := by kernel_rfl
theorem ag108 : (TB.und 108).isAgg = false := by kernel_rfl
theorem nz108 : TB.sz 108 ≠ 0 := by rw [sz108]; decide
theorem und109 : TB.und 109 = .fnc := by kernel_rfl
theorem sz109 : TB.sz 109 = 1 := by kernel_rfl
theorem by109 : TB.by_ 109 = 8 := by kernel_rfl
theorem kn109 : (TB.und 109).known = true := by kernel_rfl
theorem ag109 : (TB.und 109).isAgg = false := by kernel_rfl
theorem nz109 : TB.sz 109 ≠ 0 := by rw [sz109]; decide
theorem und110 : TB.und 110 = .fnc := by kernel_rfl
theorem sz110 : TB.sz 110 = 1 := by kernel_rfl
theorem by110 : TB.by_ 110 = 8 := by kernel_rfl
theorem kn110 : (TB.und 110).known = true := by kernel_rfl
theorem ag110 : (TB.und 110).isAgg = false := by kernel_rfl
theorem nz110 : TB.sz 110 ≠ 0 := by rw [sz110]; decide
theorem und111 : TB.und 111 = .fnc := by kernel_rfl
theorem sz111 : TB.sz 111 = 1 := by kernel_rfl
theorem by111 : TB.by_ 111 = 8 := by kernel_rfl
theorem kn111 : (TB.und 111).known = true := by kernel_rfl
theorem ag111 : (TB.und 111).isAgg = false := by kernel_rfl
theorem nz111 : TB.sz 111 ≠ 0 := by rw [sz111]; decide
theorem und112 : TB.und 112 = .fnc := by kernel_rfl
theorem sz112 : TB.sz 112 = 1 := by kernel_rfl
theorem by112 : TB.by_ 112 = 8 := by kernel_rfl
theorem kn112 : (TB.und 112).known = true := by kernel_rfl
theorem ag112 : (TB.und 112).isAgg = false := by kernel_rfl
theorem nz112 : TB.sz 112 ≠ 0 := by rw [sz112]; decide
theorem und113 : TB.und 113 = .fnc := by kernel_rfl
theorem sz113 : TB.sz 113 = 1 := by kernel_rfl
theorem by113 : TB.by_ 113 = 8 := by kernel_rfl
theorem kn113 : (TB.und 113).known = true := by kernel_rfl
theorem ag113 : (TB.und 113).isAgg = false := by kernel_rfl
theorem nz113 : TB.sz 113 ≠ 0 := by rw [sz113]; decide
theorem und114 : TB.und 114 = .fnc := by kernel_rfl
theorem sz114 : TB.sz 114 = 1 := by kernel_rfl
theorem by114 : TB.by_ 114 = 8 := by kernel_rfl
theorem kn114 : (TB.und 114).known = true := by kernel_rfl
theorem ag114 : (TB.und 114).isAgg = false := by kernel_rfl
theorem nz114 : TB.sz 114 ≠ 0 := by rw [sz114]; decide
theorem und115 : TB.und 115 = .fnc := by kernel_rfl
theorem sz115 : TB.sz 115 = 1 := by kernel_rfl
theorem by115 : TB.by_ 115 = 8 := by kernel_rfl
theorem kn115 : (TB.und 115).known = true := by kernel_rfl
theorem ag115 : (TB.und 115).isAgg = false := by kernel_rfl
theorem nz115 : TB.sz 115 ≠ 0 := by rw [sz115]; decide
theorem und116 : TB.und 116 = .fnc := by kernel_rfl
theorem sz116 : TB.sz 116 = 1 := by kernel_rfl
theorem by116 : TB.by_ 116 = 8 := by kernel_rfl
theorem kn116 : (TB.und 116).known = true := by kernel_rfl
theorem ag116 : (TB.und 116).isAgg = false := by kernel_rfl
theorem nz116 : TB.sz 116 ≠ 0 := by rw [sz116]; decide
theorem und122 : TB.und 122 = .int .u32 := by kernel_rfl
theorem sz122 : TB.sz 122 = 1 := by kernel_rfl
theorem by122 : TB.by_ 122 = 4 := by kernel_rfl
theorem kn122 : (TB.und 122).known = true := by kernel_rfl
theorem ag122 : (TB.und 122).isAgg = false := by kernel_rfl
theorem nz122 : TB.sz 122 ≠ 0 := by rw [sz122]; decide
theorem zr122 : TB.zero 122 = .int .u32 0 := by kernel_rfl
theorem und125 : TB.und 125 = .fnc := by kernel_rfl
theorem sz125 : TB.sz 125 = 1 := by kernel_rfl
theorem by125 : TB.by_ 125 = 8 := by kernel_rfl
theorem kn125 : (TB.und 125).known = true := by kernel_rfl
theorem ag125 : (TB.und 125).isAgg = false := by kernel_rfl
theorem nz125 : TB.sz 125 ≠ 0 := by rw [sz125]; decide
theorem und126 : TB.und 126 = .ptr 5 := by kernel_rfl
theorem sz126 : TB.sz 126 = 1 := by kernel_rfl
theorem by126 : TB.by_ 126 = 8 := by kernel_rfl
theorem kn126 : (TB.und 126).known = true := by kernel_rfl
theorem ag126 : (TB.und 126).isAgg = false := by kernel_rfl
theorem nz126 : TB.sz 126 ≠ 0 := by rw [sz126]; decide
theorem zr31 : TB.zero 31 = algA 0 0 (fun _ _ _ => 0) (fun _ => 0) := by
  refine congrArg (AV.sct 4) (funext fun i => ?_)
  match i with
  | 0 => rfl
  | 1 => rfl
  | 2 => rfl
  | 3 => rfl
  | n + 4 => rfl
theorem zr26 : TB.zero 26 = algA 0 0 (fun _ _ _ => 0) (fun _ => 0) := by
  refine congrArg (AV.sct 4) (funext fun i => ?_)
  match i with
  | 0 => rfl
  | 1 => rfl
  | 2 => rfl
  | 3 => rfl
  | n + 4 => rfl
end Go.Am
/- What the program's small functions give, as plain functions of numbers. My own work. -/
set_option linter.unusedVariables false
set_option linter.unusedSimpArgs false
namespace Go.Am

theorem tmod_lo (x : Int) {p : Int} (hp : 0 < p) : -p < x.tmod p := Int.lt_tmod_of_pos x hp
theorem tmod_hi (x : Int) {p : Int} (hp : 0 < p) : x.tmod p < p := Int.tmod_lt_of_pos x hp
theorem tmod_add {x p : Int} (hp : 0 < p) : (x.tmod p + p).tmod p = x % p := by
  have h1 := tmod_lo x hp
  have h2 : 0 ≤ x.tmod p + p := by omega
  rw [Int.tmod_eq_emod_of_nonneg h2, Int.add_emod_right]
  by_cases hx : 0 ≤ x
  · rw [Int.tmod_eq_emod_of_nonneg hx, Int.emod_emod]
  · rw [Int.tmod_eq_emod]
    split
    · simp
    · rename_i h
      rw [show (p.natAbs : Int) = p by omega, Int.sub_emod, Int.emod_self, Int.emod_emod]; simp

/-- The basis. -/
def eF (i : Nat) : Nat → Int := upd (fun _ => 0) i 1

/-- n numbers below p, and 0 behind them. -/
def smG (p n : Int) (v : Nat → Int) (i : Nat) : Prop := v i < p ∧ (n ≤ (i : Int) → v i = 0)
def smP (p n : Int) (v : Nat → Int) : Prop := ∀ i, i < 6 → smG p n v i
noncomputable instance (p n : Int) (v : Nat → Int) : Decidable (smP p n v) := Classical.propDecidable _
theorem all_step {P : Nat → Prop} {i : Nat} (h : ∀ j, j < i → P j) (hi : P i) : ∀ j, j < i + 1 → P j := fun j hj => by
  by_cases e : j = i
  · exact e ▸ hi
  · exact h j (by omega)
theorem smG_iff {p n : Int} {v : Nat → Int} {i : Nat} : smG p n v i ↔ (decide (p ≤ v i) || (decide (n ≤ (i : Int)) && decide (v i ≠ 0))) = false := by
  simp only [smG, Bool.or_eq_false_iff, Bool.and_eq_false_iff, decide_eq_false_iff_not, Int.not_le, ne_eq, Classical.not_not]
  constructor
  · rintro ⟨h1, h2⟩
    refine ⟨h1, ?_⟩
    by_cases h : (i : Int) < n
    · exact .inl h
    · exact .inr (h2 (by omega))
  · rintro ⟨h1, h2⟩
    refine ⟨h1, fun h => ?_⟩
    rcases h2 with h2 | h2
    · omega
    · exact h2

/-! ### Sums and products -/
def sumZ (f : Nat → Int) : Nat → Int
  | 0 => 0
  | n + 1 => sumZ f n + f n
theorem sumZ_bd {f : Nat → Int} {M : Int} (h : ∀ i, 0 ≤ f i ∧ f i ≤ M) : ∀ n : Nat, 0 ≤ sumZ f n ∧ sumZ f n ≤ n * M
  | 0 => by simp [sumZ]
  | n + 1 => by
    have h1 := sumZ_bd h n
    have h2 := h n
    simp only [sumZ]
    rw [show ((n + 1 : Nat) : Int) * M = n * M + M by rw [Int.natCast_add, Int.add_mul]; simp]
    omega
theorem sumZ_congr {f g : Nat → Int} : ∀ n : Nat, (∀ i, i < n → f i = g i) → sumZ f n = sumZ g n
  | 0, _ => rfl
  | n + 1, h => by simp only [sumZ]; rw [sumZ_congr n (fun i hi => h i (by omega)), h n (by omega)]

def tm (T : Nat → Nat → Nat → Int) (u v : Nat → Int) (k i j : Nat) : Int := u i * v j * T i j k
def rowS (T : Nat → Nat → Nat → Int) (u v : Nat → Int) (n k i : Nat) : Int := sumZ (tm T u v k i) n
/-- The product of vectors. -/
def timesF (p : Int) (n : Nat) (T : Nat → Nat → Nat → Int) (u v : Nat → Int) (k : Nat) : Int := if k < n then sumZ (rowS T u v n k) n % p else 0

theorem mul_bd {a b A B : Int} (ha : 0 ≤ a ∧ a ≤ A) (hb : 0 ≤ b ∧ b ≤ B) : 0 ≤ a * b ∧ a * b ≤ A * B :=
  ⟨Int.mul_nonneg ha.1 hb.1, Int.le_trans (Int.mul_le_mul_of_nonneg_right ha.2 hb.1) (Int.mul_le_mul_of_nonneg_left hb.2 (by omega))⟩
section
variable {u v : Nat → Int} {T : Nat → Nat → Nat → Int}
theorem uv_bd (hu : B8 u) (hv : B8 v) (i j : Nat) : 0 ≤ u i * v j ∧ u i * v j ≤ 65025 :=
  mul_bd (A := 255) (B := 255) (by have := hu i; omega) (by have := hv j; omega)
theorem tm_bd (hu : B8 u) (hv : B8 v) (hT : B8T T) (k i j : Nat) : 0 ≤ tm T u v k i j ∧ tm T u v k i j ≤ 16581375 :=
  mul_bd (A := 65025) (B := 255) (uv_bd hu hv i j) (by have := hT i j k; omega)
theorem rowS_bd (hu : B8 u) (hv : B8 v) (hT : B8T T) {n : Nat} (hn : n ≤ 6) (k i : Nat) : 0 ≤ rowS T u v n k i ∧ rowS T u v n k i ≤ 99488250 := by
  have := sumZ_bd (fun j => tm_bd hu hv hT k i j) n
  unfold rowS
  omega
theorem acc_bd (hu : B8 u) (hv : B8 v) (hT : B8T T) {n : Nat} (hn : n ≤ 6) (k : Nat) {i j : Nat} (hi : i ≤ 6) (hj : j ≤ 6) :
    0 ≤ sumZ (rowS T u v n k) i + sumZ (tm T u v k i) j ∧ sumZ (rowS T u v n k) i + sumZ (tm T u v k i) j ≤ 1000000000 := by
  have h1 := sumZ_bd (fun i => rowS_bd hu hv hT hn k i) i
  have h2 := sumZ_bd (fun j => tm_bd hu hv hT k i j) j
  omega
theorem w_uv (hu : B8 u) (hv : B8 v) (i j : Nat) : IntKind.i64.wrap (u i * v j) = u i * v j := by
  have := uv_bd hu hv i j; exact w64 (by omega) (by omega)
theorem w_tm (hu : B8 u) (hv : B8 v) (hT : B8T T) (k i j : Nat) : IntKind.i64.wrap (u i * v j * T i j k) = tm T u v k i j := by
  have := tm_bd hu hv hT k i j; exact w64 (by unfold tm at this; omega) (by unfold tm at this; omega)
theorem w_acc (hu : B8 u) (hv : B8 v) (hT : B8T T) {n : Nat} (hn : n ≤ 6) (k : Nat) {i j : Nat} (hi : i ≤ 6) (hj : j < 6) :
    IntKind.i64.wrap (sumZ (rowS T u v n k) i + sumZ (tm T u v k i) j + tm T u v k i j) = sumZ (rowS T u v n k) i + sumZ (tm T u v k i) (j + 1) := by
  have := acc_bd hu hv hT hn k hi (show j + 1 ≤ 6 by omega)
  simp only [sumZ] at this ⊢
  rw [w64 (by omega) (by omega)]; omega
theorem w_fin (hu : B8 u) (hv : B8 v) (hT : B8T T) {n k : Nat} (hn : n ≤ 6) (hk : k < n) {p : Int} (hp : 0 < p) (hp2 : p < 256) : IntKind.u8.wrap ((sumZ (rowS T u v n k) n).tmod p) = timesF p n T u v k := by
  have h0 := acc_bd hu hv hT hn k hn (Nat.zero_le 6) (i := n) (j := 0)
  simp only [sumZ, Int.add_zero] at h0
  rw [Int.tmod_eq_emod_of_nonneg h0.1]
  have h1 := Int.emod_nonneg (sumZ (rowS T u v n k) n) (show p ≠ 0 by omega)
  have h2 := Int.emod_lt_of_pos (sumZ (rowS T u v n k) n) hp
  rw [w8 h1 (by omega), timesF, if_pos hk]
theorem timesF_B8 {p : Int} {n : Nat} (hp : 0 < p) (hp2 : p < 256) : B8 (timesF p n T u v) := fun k => by
  unfold timesF
  split
  · have h1 := Int.emod_nonneg (sumZ (rowS T u v n k) n) (show p ≠ 0 by omega)
    have h2 := Int.emod_lt_of_pos (sumZ (rowS T u v n k) n) hp
    omega
  · omega
end
/-- The first k of some numbers, 0 behind them. -/
def cutF (F : Nat → Int) (k : Nat) : Nat → Int := fun j => if j < k then F j else 0
def cutG {α : Type} (z : α) (F : Nat → α) (k : Nat) : Nat → α := fun j => if j < k then F j else z
theorem upd_cutG {α : Type} (z : α) (F : Nat → α) (k j : Nat) : upd (cutG z F k) k (F k) j = cutG z F (k + 1) j := by
  unfold upd cutG
  by_cases h : j = k
  · subst h; simp
  · by_cases h2 : j < k
    · simp [h, h2, show j < k + 1 by omega]
    · simp [h, h2, show ¬ j < k + 1 by omega]
theorem upd_cut (F : Nat → Int) (k j : Nat) : upd (cutF F k) k (F k) j = cutF F (k + 1) j := by
  unfold upd cutF
  by_cases h : j = k
  · subst h; simp
  · by_cases h2 : j < k
    · simp [h, h2, show j < k + 1 by omega]
    · simp [h, h2, show ¬ j < k + 1 by omega]
theorem eF_B8 (i : Nat) : B8 (eF i) := fun j => by unfold eF upd; dsimp only; split <;> omega
theorem timesF_cut {p : Int} {n : Nat} {T : Nat → Nat → Nat → Int} {u v : Nat → Int} (j : Nat) : cutF (timesF p n T u v) n j = timesF p n T u v j := by
  unfold cutF timesF
  split <;> simp_all

def accF (T : Nat → Nat → Nat → Int) (u v : Nat → Int) (n i j k : Nat) : Int := if k < n then sumZ (rowS T u v n k) i + sumZ (tm T u v k i) j else 0
def mixF (F G : Nat → Int) (k : Nat) : Nat → Int := fun j => if j < k then F j else G j
theorem upd_mix (F G : Nat → Int) (k j : Nat) : upd (mixF F G k) k (F k) j = mixF F G (k + 1) j := by
  unfold upd mixF
  by_cases h : j = k
  · subst h; simp
  · by_cases h2 : j < k
    · simp [h, h2, show j < k + 1 by omega]
    · simp [h, h2, show ¬ j < k + 1 by omega]
section
variable {u v : Nat → Int} {T : Nat → Nat → Nat → Int}
theorem w_acc2 (hu : B8 u) (hv : B8 v) (hT : B8T T) {n i j k : Nat} (hn : n ≤ 6) (hi : i < n) (hj : j < n) (hk : k < n) :
    IntKind.i64.wrap (mixF (accF T u v n i (j + 1)) (accF T u v n i j) k k + tm T u v k i j) = accF T u v n i (j + 1) k := by
  simp only [mixF, Nat.lt_irrefl, if_false, accF, if_pos hk]
  exact w_acc hu hv hT hn k (by omega) (by omega)
theorem w_fin2 (hu : B8 u) (hv : B8 v) (hT : B8T T) {n k : Nat} (hn : n ≤ 6) {p : Int} (hp : 0 < p) (hp2 : p < 256) : IntKind.u8.wrap ((accF T u v n n 0 k).tmod p) = timesF p n T u v k := by
  by_cases hk : k < n
  · simp only [accF, if_pos hk, sumZ, Int.add_zero]
    exact w_fin hu hv hT hn hk hp hp2
  · simp only [accF, if_neg hk, timesF, Int.zero_tmod]
    decide
theorem acc_next {n i k : Nat} : accF T u v n i n k = accF T u v n (i + 1) 0 k := by
  unfold accF
  split
  · simp only [sumZ, Int.add_zero]; rfl
  · rfl
theorem acc_zero {n i j k : Nat} (h : u i * v j = 0) : accF T u v n i (j + 1) k = accF T u v n i j k := by
  unfold accF
  split
  · simp only [sumZ, tm, h, Int.zero_mul, Int.add_zero]
  · rfl
theorem mix_all {n i j k : Nat} : mixF (accF T u v n i (j + 1)) (accF T u v n i j) n k = accF T u v n i (j + 1) k := by
  unfold mixF
  split
  · rfl
  · rename_i h
    simp [accF, h]
end
end Go.Am
/- More plain functions, and closers for slices and closures. My own work. -/
set_option linter.unusedVariables false
set_option linter.unusedSimpArgs false
namespace Go.Am

theorem put_in {ol : OL} {k i : Nat} {sh c v c' : AV} {p : List Nat} (h : put c p v = c') : ol.set k i (some (sh, put c p v)) = ol.set k i (some (sh, c')) := by rw [h]

theorem expS_closed (dr : AV → AV) : ∀ {v : AV}, v.closed → expS dr v = v := by
  intro v
  induction v with
  | arr n f ih => intro h; simp only [expS]; congr 1; funext i; exact ih i (h i)
  | sct n f ih => intro h; simp only [expS]; congr 1; funext i; exact ih i (h i)
  | tup n f ih => intro h; simp only [expS]; congr 1; funext i; exact ih i (h i)
  | ro n f ih => intro h; simp only [expS]; congr 1; funext i; exact ih i (h i)
  | fn g n f ih => intro h; simp only [expS]; congr 1; funext i; exact ih i (h i)
  | cptr v ih => intro h; simp only [expS]; rw [ih h]
  | own => intro h; exact h.elim
  | ptr => intro h; exact h.elim
  | _ => intro _; rfl
theorem exp_closed {at_ : Nat → Nat → Option (AV × AV)} {d : Nat} {v : AV} (h : v.closed) : exp at_ d v = v := by
  cases d <;> exact expS_closed _ h

/-- The first place at which something holds, or -1. -/
def idxF (P : Nat → Bool) (m : Nat) : Int := match (List.range m).find? P with | some i => (i : Int) | none => -1
theorem idx_at {P : Nat → Bool} {m i : Nat} (hi : i < m) (hP : P i = true) (h : ∀ j, j < i → P j = false) : idxF P m = i := by
  unfold idxF
  have : (List.range m).find? P = some i := by
    rw [List.find?_range_eq_some]
    exact ⟨hP, by simp [hi], fun j hj => by simp [h j hj]⟩
  rw [this]
theorem idx_none {P : Nat → Bool} {m : Nat} (h : ∀ j, j < m → P j = false) : idxF P m = -1 := by
  unfold idxF
  have : (List.range m).find? P = none := by
    rw [List.find?_eq_none]
    intro x hx
    simp [h x (by simpa using hx)]
  rw [this]
theorem idx_cases (P : Nat → Bool) (m : Nat) : (∃ i, i < m ∧ P i = true ∧ (∀ j, j < i → P j = false) ∧ idxF P m = i) ∨ ((∀ j, j < m → P j = false) ∧ idxF P m = -1) := by
  by_cases h : ∃ i, i < m ∧ P i = true
  · obtain ⟨i, hi, hP⟩ := h
    -- the first one
    have : ∃ i, (i < m ∧ P i = true) ∧ ∀ j, j < i → P j = false := by
      induction i using Nat.strongRecOn with
      | _ i ih =>
        by_cases hq : ∃ j, j < i ∧ P j = true
        · obtain ⟨j, hj, hPj⟩ := hq
          exact ih j hj (by omega) hPj
        · exact ⟨i, ⟨hi, hP⟩, fun j hj => by
            cases hb : P j
            · rfl
            · exact absurd ⟨j, hj, hb⟩ hq⟩
    obtain ⟨i, ⟨hi, hP⟩, hl⟩ := this
    exact .inl ⟨i, hi, hP, hl, idx_at hi hP hl⟩
  · have hn : ∀ j, j < m → P j = false := fun j hj => by
      cases hb : P j
      · rfl
      · exact absurd ⟨j, hj, hb⟩ h
    exact .inr ⟨hn, idx_none hn⟩
theorem idx_ge {P : Nat → Bool} {m : Nat} : 0 ≤ idxF P m ↔ ∃ i, i < m ∧ P i = true := by
  rcases idx_cases P m with ⟨i, hi, hP, _, he⟩ | ⟨hn, he⟩
  · rw [he]; exact ⟨fun _ => ⟨i, hi, hP⟩, fun _ => Int.natCast_nonneg i⟩
  · rw [he]
    constructor
    · intro h; omega
    · rintro ⟨i, hi, hP⟩; rw [hn i hi] at hP; cases hP

theorem nr_alg {p n : Int} {T : Nat → Nat → Nat → Int} {fo : Nat → Int} : (algA p n T fo).noref := by
  intro i
  match i with
  | 0 => exact trivial
  | 1 => exact trivial
  | 2 => exact fun _ _ _ => trivial
  | 3 => exact fun _ => trivial
  | n + 4 => exact trivial
theorem shift_alg {b : Nat} {p n : Int} {T : Nat → Nat → Nat → Int} {fo : Nat → Int} : shift b (algA p n T fo) = algA p n T fo := algF_congr rfl rfl rfl rfl (fun _ => rfl)

/-! ### Primes -/
def primesF : Nat → Int
  | 0 => 2
  | 1 => 3
  | 2 => 5
  | 3 => 7
  | 4 => 11
  | 5 => 13
  | _ => 0
def primeB (p : Int) : Bool := decide (p = 2) || decide (p = 3) || decide (p = 5) || decide (p = 7) || decide (p = 11) || decide (p = 13)
theorem prime_idx (p : Int) : decide (0 ≤ idxF (fun i => decide (p = primesF i)) 6) = primeB p := by
  rw [Bool.eq_iff_iff, decide_eq_true_eq, idx_ge]
  simp only [primeB, Bool.or_eq_true, decide_eq_true_eq]
  constructor
  · rintro ⟨i, hi, h⟩
    match i, hi with
    | 0, _ => simp [primesF] at h; simp [h]
    | 1, _ => simp [primesF] at h; simp [h]
    | 2, _ => simp [primesF] at h; simp [h]
    | 3, _ => simp [primesF] at h; simp [h]
    | 4, _ => simp [primesF] at h; simp [h]
    | 5, _ => simp [primesF] at h; simp [h]
  · rintro (((((h | h) | h) | h) | h) | h)
    · exact ⟨0, by omega, h⟩
    · exact ⟨1, by omega, h⟩
    · exact ⟨2, by omega, h⟩
    · exact ⟨3, by omega, h⟩
    · exact ⟨4, by omega, h⟩
    · exact ⟨5, by omega, h⟩
theorem primeB_bd {p : Int} (h : primeB p = true) : 2 ≤ p ∧ p ≤ 13 := by
  simp only [primeB, Bool.or_eq_true, decide_eq_true_eq] at h
  omega

/-! ### Tables -/
def tabG (p n : Int) (T : Nat → Nat → Nat → Int) (i j : Nat) : Prop := smP p n (T i j) ∧ (n ≤ (i : Int) ∨ n ≤ (j : Int) → ∀ k, k < 6 → T i j k = 0)
def tabP (p n : Int) (T : Nat → Nat → Nat → Int) (fo : Nat → Int) : Prop := (∀ i, i < 6 → ∀ j, j < 6 → tabG p n T i j) ∧ smP p n fo
noncomputable instance (p n : Int) (T : Nat → Nat → Nat → Int) (fo : Nat → Int) : Decidable (tabP p n T fo) := Classical.propDecidable _
theorem tabG_iff {p n : Int} {T : Nat → Nat → Nat → Int} {i j : Nat} : tabG p n T i j ↔ (!(decide (smP p n (T i j))) || ((decide (n ≤ (i : Int)) || decide (n ≤ (j : Int))) && decide (¬ eqN 6 (T i j) (fun _ => 0)))) = false := by
  by_cases h1 : smP p n (T i j) <;> by_cases h2 : n ≤ (i : Int) <;> by_cases h3 : n ≤ (j : Int) <;> by_cases h4 : eqN 6 (T i j) (fun _ => 0) <;> simp [tabG, h1, h2, h3, h4] <;> first | exact h4 | (intro h; exact h4 h) | exact Classical.byContradiction fun hh => h4 (fun k hk => Classical.byContradiction fun h => hh ⟨k, hk, h⟩) | skip
theorem tab_end {p n : Int} {T : Nat → Nat → Nat → Int} {fo : Nat → Int} (h : ∀ i, i < 6 → ∀ j, j < 6 → tabG p n T i j) : decide (smP p n fo) = decide (tabP p n T fo) := by
  rw [Bool.eq_iff_iff, decide_eq_true_eq, decide_eq_true_eq]
  exact ⟨fun h2 => ⟨h, h2⟩, fun h2 => h2.2⟩
/-- The size that the reference asks of a row of the table. -/
noncomputable def sizeAt (n : Int) (i j : Nat) : Int := if n ≤ (i : Int) ∨ n ≤ (j : Int) then 0 else n
def shapeP (p n : Int) (T : Nat → Nat → Nat → Int) (fo : Nat → Int) : Prop := (primeB p = true ∧ (1 ≤ n ∧ n ≤ 6) ∧ smP p n fo) ∧ ∀ i, i < 6 → ∀ j, j < 6 → smP p (sizeAt n i j) (T i j)
noncomputable instance (p n : Int) (T : Nat → Nat → Nat → Int) (fo : Nat → Int) : Decidable (shapeP p n T fo) := Classical.propDecidable _
theorem shape_iff {p n : Int} {T : Nat → Nat → Nat → Int} {fo : Nat → Int} : shapeP p n T fo ↔ primeB p = true ∧ (1 ≤ n ∧ n ≤ 6) ∧ tabP p n T fo := by
  constructor
  · rintro ⟨⟨h1, h2, h3⟩, h4⟩
    have hp := primeB_bd h1
    refine ⟨h1, h2, fun i hi j hj => ?_, h3⟩
    have := h4 i hi j hj
    unfold sizeAt at this
    split at this
    · rename_i h
      have hz : ∀ k, k < 6 → T i j k = 0 := fun k hk => (this k hk).2 (by omega)
      exact ⟨fun k hk => ⟨by rw [hz k hk]; omega, fun _ => hz k hk⟩, fun _ => hz⟩
    · rename_i h
      exact ⟨this, fun h' => absurd h' h⟩
  · rintro ⟨h1, h2, h3, h4⟩
    have hp := primeB_bd h1
    refine ⟨⟨h1, h2, h4⟩, fun i hi j hj => ?_⟩
    unfold sizeAt
    split
    · rename_i h
      have hz := (h3 i hi j hj).2 h
      exact fun k hk => ⟨by rw [hz k hk]; omega, fun _ => hz k hk⟩
    · exact (h3 i hi j hj).1

/-! ### Associativity -/
def assocG (p : Int) (n : Nat) (T : Nat → Nat → Nat → Int) (i j k : Nat) : Prop := eqN 6 (timesF p n T (T i j) (eF k)) (timesF p n T (eF i) (T j k))
def assocP (p : Int) (n : Nat) (T : Nat → Nat → Nat → Int) : Prop := ∀ i, i < n → ∀ j, j < n → ∀ k, k < n → assocG p n T i j k
noncomputable instance (p : Int) (n : Nat) (T : Nat → Nat → Nat → Int) : Decidable (assocP p n T) := Classical.propDecidable _

/-! ### Closures -/
def cap1 (a : AV) : Nat → AV
  | 0 => a
  | _ => .any
def cap2 (a b : AV) : Nat → AV
  | 0 => a
  | 1 => b
  | _ => .any
theorem exp_capL {at_ : Nat → Nat → Option (AV × AV)} {d n : Nat} {c : Nat → AV} (h : ∀ i, (c i).closed) : (capL n c).map (exp at_ d) = capL n c := by
  unfold capL
  rw [List.map_map]
  exact List.map_congr_left fun i _ => exp_closed (h i)
section
variable {P : Program} {T : TT} {N : Nat} {env : Env} {ol : OL}
variable {all : Array Oper} {r : List Oper} {R : Env → OL → Prop} {ty : TypeId} {pos : String} {af : Array Edge} {x y : Operand} {d : Nat}
theorem w_mkf1 {g : FuncId} {v : AV} (hx : HV (evE env x) v) (hr : WOps P T all r ((d, .fn g 1 (cap1 v)) :: env) ol R) : WOps P T all (⟨some d, .makeFunc (.func g) #[] #[x], ty, pos, af, none⟩ :: r) env ol R := by
  have := hx.eq; subst this
  refine w_mkf rfl (funext fun i => ?_) hr
  match i with
  | 0 => rfl
  | i + 1 => rfl
theorem w_mkf2 {g : FuncId} {v w : AV} (hx : HV (evE env x) v) (hy : HV (evE env y) w) (hr : WOps P T all r ((d, .fn g 2 (cap2 v w)) :: env) ol R) : WOps P T all (⟨some d, .makeFunc (.func g) #[] #[x, y], ty, pos, af, none⟩ :: r) env ol R := by
  have := hx.eq; subst this
  have := hy.eq; subst this
  refine w_mkf rfl (funext fun i => ?_) hr
  match i with
  | 0 => rfl
  | 1 => rfl
  | i + 2 => rfl
end
end Go.Am
/- Rows of numbers. My own work. -/
set_option linter.unusedVariables false
set_option linter.unusedSimpArgs false
namespace Go.Am

abbrev Z64 (m : Nat) : AV := .arr m (fun _ => .int .i64 0)
abbrev C64 (m : Nat) (f : Nat → Int) : AV := .arr m (fun i => .int .i64 (f i))
abbrev rowA (m : Nat) (f : Nat → Int) : AV := .ro m (fun i => .int .i64 (f i))
/-- The one object of a function that gives a row of its own. -/
abbrev HR (m : Nat) (f : Nat → Int) : OL := [(0, .one (Z64 m) (C64 m f))]
abbrev rowsA (n m : Nat) (R : Nat → Nat → Int) : AV := .ro n (fun i => rowA m (R i))
abbrev ZR (n : Nat) : AV := .arr n (fun _ => .nilsl)
abbrev CR (n m : Nat) (R : Nat → Nat → Int) : AV := .arr n (fun i => rowA m (R i))
abbrev HRR (n m : Nat) (R : Nat → Nat → Int) : OL := [(0, .one (ZR n) (CR n m R))]

theorem closed_row {m : Nat} {f : Nat → Int} : (rowA m f).closed := fun _ => trivial
theorem closed_rows {n m : Nat} {R : Nat → Nat → Int} : (rowsA n m R).closed := fun _ _ => trivial
variable {V : Vw}
theorem mt_row {m : Nat} {f g : Nat → Int} (h : ∀ i, i < m → g i = f i) : Mt V (rowA m f) (rowA m g) := ⟨rfl, fun i hi => congrArg (AV.int .i64) (h i hi)⟩
theorem mt_rows {n m : Nat} {R S : Nat → Nat → Int} (h : ∀ i, i < n → ∀ j, j < m → S i j = R i j) : Mt V (rowsA n m R) (rowsA n m S) := ⟨rfl, fun i hi => mt_row (h i hi)⟩
theorem mt_app {n : Nat} {F f g : Nat → AV} (h1 : ∀ j, j < n → Mt V (F j) (f j)) (h2 : Mt V (F n) (g 0)) : Mt V (.arr (n + 1) F) (.arr (n + 1) (appF n f 1 g)) := by
  refine ⟨rfl, fun i hi => ?_⟩
  by_cases h : i = n
  · subst h
    rw [appF_ge (Nat.le_refl _) hi, Nat.sub_self]; exact h2
  · rw [appF_lt (by omega)]; exact h1 i (by omega)
theorem mt_arr0 {F G : Nat → AV} : Mt V (.arr 0 F) (.arr 0 G) := ⟨rfl, fun i hi => absurd hi (Nat.not_lt_zero _)⟩
theorem mt_all {n : Nat} {F : Nat → AV} {m : Nat} {f g : Nat → AV} (h : ∀ j, j < m → Mt V (F j) (g j)) (hn : n = 0 + m) (h0 : m ≠ 1) : Mt V (.arr n F) (.arr n (appF 0 f m g)) := by
  subst hn
  refine ⟨rfl, fun i hi => ?_⟩
  rw [appF_ge (Nat.zero_le _) hi]; exact h i (by omega)
theorem mt_clone {F f g : Nat → AV} {m : Nat} (h : ∀ j, j < m → Mt V (F j) (g j)) : Mt V (.arr m F) (.arr (0 + m) (appF 0 f m g)) := by
  refine ⟨by omega, fun i hi => ?_⟩
  rw [appF_ge (Nat.zero_le _) (by omega)]; exact h i hi

section
variable {T : TT} {env : Env} {ol : OL}
/-- A row of one's own is given. -/
theorem rt_own {t key n m e : Nat} {F G : Nat → AV} {sh : Nat → AV} (hx : get env t = .own key 0 n e) (ho : ol.at_ key 0 = some (.arr n sh, .arr n G)) (hn : n = m) (hs : ∀ i, ssh (sh i) (F i)) (hf : ∀ V : Vw, ∀ i, i < m → Mt V (F i) (G i)) :
    retQ T [.tmp t] (.own 0 0 m e) [(0, .one (.arr m sh) (.arr m F))] .ret env ol := by
  subst hn
  refine ⟨fun _ _ => (key, 0), ⟨?_, trivial⟩, ⟨?_, trivial⟩, ⟨⟨fun _ => ⟨rfl, rfl⟩, trivial⟩, trivial⟩⟩
  · show Mt _ (.own 0 0 n e) (get env t)
    rw [hx]
    exact ⟨rfl, rfl, rfl, rfl⟩
  · show (match ol.at_ key 0 with | some (sh', c') => _ | none => False)
    rw [ho]
    exact ⟨rfl, ⟨rfl, hs⟩, rfl, hf _⟩
/-- A row that is not for writing, given by one that may be written. -/
theorem mt_fz {V : Vw} {k i n e : Nat} {sh : AV} {F G : Nat → AV} (hz : V.fz k i) (ha : V.at' k i = some (sh, .arr n G)) (hf : ∀ j, j < n → Mt V (F j) (G j)) : Mt V (.ro n F) (.own k i n e) := by
  simp only [Mt, ha]
  exact ⟨trivial, hz, trivial, hf⟩
end

/-! ### Less, times, inverse -/
def lessF (p : Int) (f g : Nat → Int) (k : Int) (i : Nat) : Int := (f i - k * g i) % p
def scaledF (p : Int) (f : Nat → Int) (k : Int) (i : Nat) : Int := f i * k % p
def powF (x p : Int) : Nat → Int
  | 0 => 1
  | k + 1 => powF x p k * x % p
/-- The inverse modulo a prime. -/
def invF (p x : Int) : Int := powF x p (p - 2).toNat
theorem w_kg {g : Nat → Int} {k : Int} (hk : 0 ≤ k ∧ k < 256) (hg : B8 g) (i : Nat) : IntKind.i64.wrap (k * g i) = k * g i := by
  have := mul_bd (A := 255) (B := 255) (show 0 ≤ k ∧ k ≤ 255 by omega) (show 0 ≤ g i ∧ g i ≤ 255 by have := hg i; omega)
  exact w64 (by omega) (by omega)
theorem w_fkg {f g : Nat → Int} {k : Int} (hf : B8 f) (hk : 0 ≤ k ∧ k < 256) (hg : B8 g) (i : Nat) : IntKind.i64.wrap (f i - k * g i) = f i - k * g i := by
  have := mul_bd (A := 255) (B := 255) (show 0 ≤ k ∧ k ≤ 255 by omega) (show 0 ≤ g i ∧ g i ≤ 255 by have := hg i; omega)
  have := hf i
  exact w64 (by omega) (by omega)
theorem w_fk {f : Nat → Int} {k : Int} (hf : B8 f) (hk : 0 ≤ k ∧ k < 256) (i : Nat) : IntKind.i64.wrap (f i * k) = f i * k := by
  rw [Int.mul_comm]; exact w_kg hk hf i
theorem scaled_tmod {f : Nat → Int} {p k : Int} (hf : B8 f) (hk : 0 ≤ k ∧ k < 256) (i : Nat) : (f i * k).tmod p = scaledF p f k i := by
  have := mul_bd (A := 255) (B := 255) (show 0 ≤ f i ∧ f i ≤ 255 by have := hf i; omega) (show 0 ≤ k ∧ k ≤ 255 by omega)
  rw [Int.tmod_eq_emod_of_nonneg this.1, scaledF]
theorem emod_B {p x : Int} (hp : 0 < p) (hp2 : p ≤ 256) : 0 ≤ x % p ∧ x % p < 256 := by
  have h1 := Int.emod_nonneg x (show p ≠ 0 by omega)
  have h2 := Int.emod_lt_of_pos x hp
  omega
theorem lessF_B8 {p : Int} (hp : 0 < p) (hp2 : p ≤ 256) (f g : Nat → Int) (k : Int) : B8 (lessF p f g k) := fun i => emod_B hp hp2
theorem scaledF_B8 {p : Int} (hp : 0 < p) (hp2 : p ≤ 256) (f : Nat → Int) (k : Int) : B8 (scaledF p f k) := fun i => emod_B hp hp2
theorem powF_bd {x p : Int} (hx : 0 ≤ x) (hp : 1 < p) : ∀ k, 0 ≤ powF x p k ∧ powF x p k < p
  | 0 => by simp [powF]; exact hp
  | k + 1 => ⟨Int.emod_nonneg _ (by omega), Int.emod_lt_of_pos _ (by omega)⟩
theorem w_pow {x p : Int} (hx : 0 ≤ x ∧ x < 256) (hp : 1 < p) (hp2 : p ≤ 256) (k : Nat) : IntKind.i64.wrap (powF x p k * x) = powF x p k * x := by
  have h := powF_bd hx.1 hp k
  have := mul_bd (A := 255) (B := 255) (show 0 ≤ powF x p k ∧ powF x p k ≤ 255 by omega) (show 0 ≤ x ∧ x ≤ 255 by omega)
  exact w64 (by omega) (by omega)
theorem pow_tmod {x p : Int} (hx : 0 ≤ x ∧ x < 256) (hp : 1 < p) (k : Nat) : (powF x p k * x).tmod p = powF x p (k + 1) := by
  have h := powF_bd hx.1 hp k
  rw [Int.tmod_eq_emod_of_nonneg (Int.mul_nonneg h.1 hx.1)]; rfl
theorem invF_bd {p x : Int} (hx : 0 ≤ x) (hp : 1 < p) : 0 ≤ invF p x ∧ invF p x < p := powF_bd hx hp _

/-- What the search finds. -/
def invS (p x : Int) : Int := if idxF (fun k => decide ((k : Int) * x % p = 1)) p.toNat < 0 then 0 else idxF (fun k => decide ((k : Int) * x % p = 1)) p.toNat
def invTest (p : Nat) : Bool := (List.range p).all fun x => Nat.beq x 0 || (decide (invS p x = invF p x) && decide (invF p x * x % p = 1))
theorem inv_all : [2, 3, 5, 7, 11, 13].all invTest = true := by decide
theorem inv_ok {p x : Int} (hp : primeB p = true) (hx : 0 < x) (hx2 : x < p) : invS p x = invF p x ∧ invF p x * x % p = 1 := by
  have hm : ∃ q : Nat, p = q ∧ q ∈ [2, 3, 5, 7, 11, 13] := by
    simp only [primeB, Bool.or_eq_true, decide_eq_true_eq] at hp
    rcases hp with (((((h | h) | h) | h) | h) | h)
    · exact ⟨2, h, by simp⟩
    · exact ⟨3, h, by simp⟩
    · exact ⟨5, h, by simp⟩
    · exact ⟨7, h, by simp⟩
    · exact ⟨11, h, by simp⟩
    · exact ⟨13, h, by simp⟩
  obtain ⟨q, rfl, hq⟩ := hm
  have h := List.all_eq_true.1 inv_all q hq
  unfold invTest at h
  have := List.all_eq_true.1 h x.toNat (by simp; omega)
  simp only [Bool.or_eq_true, Bool.and_eq_true, decide_eq_true_eq] at this
  rw [show ((x.toNat : Nat) : Int) = x by omega] at this
  rcases this with h0 | h1
  · have := Nat.eq_of_beq_eq_true h0; omega
  · exact h1

theorem w_inv {p x : Int} {i : Nat} (hi : (i : Int) < p) (hxp : x % p = x) (hx : 0 < x) (hx2 : x < p) (hp : p ≤ 13) : IntKind.i64.wrap ((i : Int) * (x % p)) = i * x := by
  rw [hxp]
  have := mul_bd (A := 255) (B := 255) (show 0 ≤ (i : Int) ∧ (i : Int) ≤ 255 by omega) (show 0 ≤ x ∧ x ≤ 255 by omega)
  exact w64 (by omega) (by omega)
theorem inv_tmod {p x : Int} {i : Nat} (hx : 0 < x) : ((i : Int) * x).tmod p = i * x % p :=
  Int.tmod_eq_emod_of_nonneg (Int.mul_nonneg (Int.natCast_nonneg i) (by omega))
end Go.Am
/- A call that turns a row of the caller's own (slices.Delete): a region with such a call in its middle. My own work. -/
set_option linter.unusedVariables false
set_option linter.unusedSimpArgs false
namespace Go.Am
section
variable {P : Program} {T : TT}

/-- Operations of a region, and what stands behind them. -/
theorem WOps_run (hT : TOk P T) (arr : Array Oper) {N : Nat} {X : Cx} (hP : X.P = P) (hTT : X.T = T) {Q : Exit → Act → World → Prop} {rest : List Oper} {K : Env → OL → Prop}
    (hK : ∀ env ol κ (a : Act) w, K env ol → Rel X κ ol.ob w → EnvR (KK X κ ol.ob w) env a.tmps → a.tmps.size = N → a.defers = [] → wpList P arr Q rest a w) :
    ∀ (ops : List Oper) (env : Env) (ol : OL), WOps P T arr ops env ol K → dstOk N ops = true →
    ∀ (κ : Gh) (a : Act) (w : World), Rel X κ ol.ob w → EnvR (KK X κ ol.ob w) env a.tmps → a.tmps.size = N → a.defers = [] → wpList P arr Q (ops ++ rest) a w
  | [], env, ol, h, _, κ, a, w, hR, hE, hN, hD => hK env ol κ a w h hR hE hN hD
  | o :: r, env, ol, h, hdst, κ, a, w, hR, hE, hN, hD => by
    simp only [dstOk, List.all_cons, Bool.and_eq_true] at hdst
    have hlt : ∀ t, o.dst = some t → t < a.tmps.size := fun t ht => by
      have := hdst.1
      rw [ht] at this
      rw [hN]; simpa [Nat.blt_eq] using this
    have run : WOp P T o (evE env) ol (fun v ol' => WOps P T arr r (putE o.dst v env) ol' K) → o.wp P a w (wpList P arr Q (r ++ rest)) Q := by
      intro hw
      obtain ⟨v, ol', h1, h2⟩ := WOp_out hT hw
      have := h2 X κ w a hP hTT hR hE
      unfold Oper.wp
      rw [← hP]
      rw [← hP] at this
      refine upon_of_Out this (fun c w' κ' hR' hv hle => ?_)
      rw [hP]
      exact WOps_run hT arr hP hTT hK r _ ol' h1 hdst.2 κ' _ w' hR' ((hE.mono hle).put hv hlt) (by rw [Act.put_size]; exact hN) (by rw [Act.put_defers]; exact hD)
    have skip : WOps P T arr r (putE o.dst undA env) ol K → wpList P arr Q (r ++ rest) (a.put o.dst undef) w := fun hw =>
      WOps_run hT arr hP hTT hK r _ ol hw hdst.2 κ _ w hR (hE.put (undA_ok _) hlt) (by rw [Act.put_size]; exact hN) (by rw [Act.put_defers]; exact hD)
    unfold WOps at h
    rw [List.cons_append]
    unfold wpList
    split at h
    · rename_i hg
      rw [if_pos (by simp [Region.wanted, hg])]
      exact .inl (run h)
    · rename_i j want hg
      split at h
      · rename_i d hd
        split at h
        · rename_i b hb
          have hy := yielded_of hd hE hb (dst_lt_of_eq hE hb)
          split at h
          · rename_i hbw
            have : b = want := by simpa using hbw
            subst this
            rw [if_pos (by simp [Region.wanted, hg, hy])]
            exact .inl (run h)
          · rename_i hbw
            have : b ≠ want := by simpa using hbw
            rw [if_neg (by simp [Region.wanted, hg, hy, this])]
            exact skip h
        · rename_i f hb
          have hy := yielded_none hd hE hb
          rw [if_neg (by simp [Region.wanted, hg, hy])]
          exact skip h
        · exact h.elim
      · exact h.elim

/-- What one operation makes of a state. -/
def MidJ (P : Program) (T : TT) (o : Oper) (env : Env) (ol : OL) (v : AV) (ol' : OL) : Prop :=
  ∀ (X : Cx) (κ : Gh) (w : World) (a : Act), X.P = P → X.T = T → Rel X κ ol.ob w → EnvR (KK X κ ol.ob w) env a.tmps → Out X κ ol.ob w ol'.ob v ((execOp a.eval o).run P w)

theorem srD (hT : TOk P T) {N id : Nat} {ops : Array Oper} {ops1 ops2 : List Oper} {o : Oper} {y : Code} {env env1 env' : Env} {ol ol1 ol2 ol' : OL} {v : AV} {Q : Exit → Env → OL → Prop} (hd : dstOk N ops.toList = true)
    (hops : ops.toList = ops1 ++ o :: ops2) (hg : o.guard = none)
    (h1 : ∀ R : Env → OL → Prop, R env1 ol1 → WOps P T ops ops1 env ol R) (hm : MidJ P T o env1 ol1 v ol2)
    (h2 : ∀ R : Env → OL → Prop, R env' ol' → WOps P T ops ops2 (putE o.dst v env1) ol2 R)
    (hy : Snd P T N y env' ol' Q) : Snd P T N (.seq (.region id ops false) y) env ol Q := by
  refine snd_seq ?_
  intro X κ a w hP hTT hR hE hN hD
  refine wp_region_list ?_
  rw [hops] at hd ⊢
  simp only [dstOk, List.all_append, List.all_cons, Bool.and_eq_true] at hd
  have hlt : ∀ (a : Act), a.tmps.size = N → ∀ t, o.dst = some t → t < a.tmps.size := fun a hN t ht => by
    have := hd.2.1
    rw [ht] at this
    rw [hN]; simpa [Nat.blt_eq] using this
  refine WOps_run hT ops hP hTT (K := fun e l => e = env1 ∧ l = ol1) ?_ ops1 env ol (h1 _ ⟨rfl, rfl⟩) hd.1 κ a w hR hE hN hD
  rintro e l κ1 a1 w1 ⟨rfl, rfl⟩ hR1 hE1 hN1 hD1
  unfold wpList
  rw [if_pos (by simp [Region.wanted, hg])]
  refine .inl ?_
  unfold Oper.wp
  have := hm X κ1 w1 a1 hP hTT hR1 hE1
  rw [← hP]
  rw [← hP] at this
  refine upon_of_Out this (fun c w' κ' hR' hv hle => ?_)
  rw [hP]
  have := WOps_run hT ops hP hTT (rest := []) (Q := QQ X N (thn P T N y Q)) (K := thn P T N y Q .normal) (N := N) (fun e l κ' a' w' h hR hE hN hD => ⟨κ', e, l, h, hR, hE, hN, hD⟩)
    ops2 _ _ (h2 _ hy) hd.2.2 κ' (a1.put o.dst c) w' hR' ((hE1.mono hle).put hv (hlt a1 hN1)) (by rw [Act.put_size]; exact hN1) (by rw [Act.put_defers]; exact hD1)
  rwa [List.append_nil] at this

/-! ### Delete -/
def setL (cur : Array Value) : Nat → List Value → Array Value
  | _, [] => cur
  | o, v :: r => setL (cur.setIfInBounds o v) (o + 1) r
theorem setL_size : ∀ (vs : List Value) (o : Nat) (cur : Array Value), (setL cur o vs).size = cur.size
  | [], _, _ => rfl
  | v :: r, o, cur => by simp [setL, setL_size r]
theorem setL_get : ∀ (vs : List Value) (o : Nat) (cur : Array Value) (j : Nat), o + vs.length ≤ cur.size → (setL cur o vs)[j]? = if o ≤ j ∧ j < o + vs.length then vs[j - o]? else cur[j]?
  | [], o, cur, j, _ => by
    rw [if_neg (by simp)]; rfl
  | v :: r, o, cur, j, h => by
    simp only [List.length_cons] at h
    rw [setL, setL_get r (o + 1) _ j (by simp; omega)]
    by_cases h1 : j = o
    · subst h1
      rw [if_neg (by omega), if_pos (by simp), Nat.sub_self]
      simp [show j < cur.size by omega]
    · by_cases h2 : o + 1 ≤ j ∧ j < o + 1 + r.length
      · rw [if_pos h2, if_pos (by simp; omega), show j - o = (j - (o + 1)) + 1 by omega]
        simp
      · rw [if_neg h2, if_neg (by simp; omega), Array.getElem?_setIfInBounds_ne (Ne.symm h1)]
theorem setCells_facts (b : Nat) : ∀ (vs : List Value) (o : Nat) (w : World) (cur : Array Value) (e : TypeId) (fr : Nat × Nat), w.heap[b]? = some (.cells cur e fr) →
    (w.setCells b o vs).heap[b]? = some (.cells (setL cur o vs) e fr) ∧ (∀ b', b' ≠ b → (w.setCells b o vs).heap[b']? = w.heap[b']?) ∧ (w.setCells b o vs).heap.size = w.heap.size ∧
    (w.setCells b o vs).os = w.os ∧ (w.setCells b o vs).tape = w.tape ∧ (w.setCells b o vs).output = w.output
  | [], o, w, cur, e, fr, h => ⟨h, fun _ _ => rfl, rfl, rfl, rfl, rfl⟩
  | v :: r, o, w, cur, e, fr, h => by
    have h1 : (w.setCell ⟨b, o, none⟩ v).heap[b]? = some (.cells (cur.setIfInBounds o v) e fr) := by
      simp [World.setCell, Array.getElem?_modify, h]
    obtain ⟨q1, q2, q3, q4, q5, q6⟩ := setCells_facts b r (o + 1) _ _ _ _ h1
    refine ⟨q1, fun b' hne => (q2 b' hne).trans ?_, q3.trans ?_, q4, q5, q6⟩
    · simp [World.setCell, Array.getElem?_modify, Ne.symm hne]
    · simp [World.setCell]

/-- What the library's Delete of one element does, over a row of one-cell elements. -/
def DelC (P : Program) (f : FuncId) (z : Value) : Prop :=
  ∀ (w : World) (b cap n a : Nat) (cur : Array Value) (e : TypeId), w.heap[b]? = some (.cells cur e (0, 0)) → n ≤ cap → cap ≤ maxLen → cur.size = cap → a < n → (∀ u ∈ cur.toList.take n, u.oneCell' = true) →
    Calls P f #[.slice (some ⟨b, 0, none⟩) n cap, .int .i64 a, .int .i64 ((a : Int) + 1)] w (fun x w' => x = .returned (.slice (some ⟨b, 0, none⟩) (n - 1) cap) ∧
      w' = ((w.drew.setCells b (0 + a * 1) ((cur.toList.drop (a + 1)).take (n - 1 - a))).setCells b (0 + (n - 1)) [z]))

theorem flat_one {g : Nat → List Value} {c : Nat → Value} (n : Nat) (h : ∀ i, i < n → g i = [c i]) : ∀ j, (flat g n)[j]? = if j < n then some (c j) else none := by
  induction n with
  | zero => intro j; simp [flat]
  | succ n ih =>
    intro j
    have hlen : (flat g n).length = n := by
      rw [flat_len, sumTo_congr (g := fun _ => 1) (fun i hi => by rw [h i (by omega)]; rfl), sumTo_const]; omega
    simp only [flat]
    rw [List.getElem?_append, hlen, ih (fun i hi => h i (by omega)), h n (by omega)]
    by_cases h1 : j < n
    · rw [if_pos h1, if_pos h1, if_pos (by omega)]
    · rw [if_neg h1]
      by_cases h2 : j = n
      · subst h2; simp
      · rw [if_neg (by omega)]
        have : 0 < j - n := by omega
        cases hq : j - n with
        | zero => omega
        | succ q => simp

/-- The row without place a. -/
def cutR {α : Type} (f : Nat → α) (a : Nat) : Nat → α := fun i => if i < a then f i else f (i + 1)

theorem del_mid (hT : TOk P T) {f : FuncId} {z : Value} (hE : Ent P f) (hdel : DelC P f z) {e : TypeId} (he : (T.und e).known = true) (hz1 : T.sz e = 1) {dst : Option Nat} {ty : TypeId} {pos : String} {af : Array Edge} {gu : Option (Nat × Bool)} {s x y : Nat} {aty : Array TypeId}
    {env : Env} {ol : OL} {k n a key : Nat} {F : Nat → AV} (hs : get env s = .own k 0 n e) (hx : get env x = .int .i64 a) (hy : get env y = .int .i64 ((a : Int) + 1)) (hat : ol.at_ k 0 = some (.arr n (fun _ => T.zero e), .arr n F)) (ha : a < n) (hkey : ol.has key = false) :
    MidJ P T ⟨dst, .call { callee := .value (.func f), args := #[.tmp s, .tmp x, .tmp y], argTypes := aty }, ty, pos, af, gu⟩ env ol (.own key 0 (n - 1) e)
      ((key, .one (.arr (n - 1) (fun _ => T.zero e)) (.arr (n - 1) (cutR F a))) :: ol.set k 0 none) := by
  intro X κ w act hP hTT hR hEn
  have vs := hEn s; rw [hs] at vs
  have vx := hEn x; rw [hx] at vx
  have vy := hEn y; rw [hy] at vy
  obtain ⟨hd, hn, cap, cur, fr, e1, c1, c2, c3, c4⟩ := VR_own vs
  obtain ⟨cur', el, l1, l2, l3, l4, l5⟩ := hR.live k 0 _ _ hat
  have c3' : w.heap[κ.blk k 0]? = some (.cells cur e fr) := c3
  rw [l1] at c3'
  simp only [Option.some.injEq, Obj.cells.injEq] at c3'
  obtain ⟨rfl, rfl, rfl⟩ := c3'
  obtain ⟨_, _, _, _, _, _, _, _, _, hss, hz9, hpos⟩ := hT.info el he
  have hFs : ∀ i, (F i).size = 1 := fun i => by rw [← hz1, ← hz9]; exact (ssh_size (l4.2 i)).symm
  have hsz : (AV.arr n F).size = n := by show n * (F 0).size = n; rw [hFs]; omega
  rw [hsz] at l2 l3
  obtain ⟨gf, q1, q2⟩ := l3
  have hlen : ∀ i, i < n → (gf i).length = 1 := fun i hi => by rw [(q2 i hi).2]; exact hFs 0
  have hc4 : cur'.size = cap := by rw [show cur'.size = cap * X.T.sz el from c4, hTT, hz1]; omega
  let c : Nat → Value := fun i => cur'.getD i undef
  have htk : ∀ j, (flat gf n)[j]? = if j < n then some (c j) else none := by
    intro j
    rw [← q1, List.getElem?_take]
    by_cases hj : j < n
    · rw [if_pos hj, if_pos hj]
      simp [c, show j < cur'.size by omega]
    · rw [if_neg hj, if_neg hj]
  have hgf : ∀ i, i < n → gf i = [c i] := by
    intro i hi
    have h1 := hlen i hi
    match hg : gf i, h1 with
    | [v], _ =>
      have : ∀ m, (∀ i, i < m → (gf i).length = 1) → (flat gf m).length = m := fun m hm => by
        rw [flat_len, sumTo_congr (g := fun _ => 1) hm, sumTo_const]; omega
      -- place i of the whole
      obtain ⟨post, hp, _⟩ := flat_split gf hi
      have h2 := htk i
      rw [hp, List.getElem?_append_right (by rw [this i (fun j hj => hlen j (by omega))]; exact Nat.le_refl _), this i (fun j hj => hlen j (by omega)), Nat.sub_self, hg, if_pos hi] at h2
      simp at h2
      rw [h2]
  have hone : ∀ u ∈ cur'.toList.take n, u.oneCell' = true := by
    intro u hu
    rw [q1] at hu
    obtain ⟨j, hj, hm⟩ := mem_flat hu
    exact FL_one (q2 j hj).1 u hm
  have hrun : (execOp act.eval ⟨dst, .call { callee := .value (.func f), args := #[.tmp s, .tmp x, .tmp y], argTypes := aty }, ty, pos, af, gu⟩).run P w = .ok (.enter f #[.slice (some ⟨κ.blk k 0, 0, none⟩) n cap, .int .i64 a, .int .i64 ((a : Int) + 1)]) w := by
    have h0 := hE #[.slice (some ⟨κ.blk k 0, 0, none⟩) n cap, .int .i64 a, .int .i64 ((a : Int) + 1)] w
    have e1' : act.tmps.getD s undef = .slice (some ⟨κ.blk k 0, 0, none⟩) n cap := e1
    have hargs : (#[.tmp s, .tmp x, .tmp y] : Array Operand).map act.eval = #[.slice (some ⟨κ.blk k 0, 0, none⟩) n cap, .int .i64 a, .int .i64 ((a : Int) + 1)] := by
      simp [Act.eval]
      exact ⟨by simpa using e1', by simpa using VR_int vx, by simpa using VR_int vy⟩
    have hf : act.eval (.func f) = .func (.func f) #[] #[] := rfl
    simp only [execOp, resolve, hf, hargs, Deferred.ofValue, Sem.run_bind, Sem.run_pure, Result.andThen_ok, invoke]
    simpa using h0
  rw [hrun]
  show Calls X.P f _ w _
  rw [hP]
  refine Calls.mono (hdel w (κ.blk k 0) cap n a cur' el l1 c1 c2 hc4 ha hone) ?_
  rintro ex w' ⟨rfl, rfl⟩
  generalize hnews : (cur'.toList.drop (a + 1)).take (n - 1 - a) = news
  have hnl : news.length = n - 1 - a := by rw [← hnews]; simp; omega
  have hng : ∀ j, news[j]? = if j < n - 1 - a then some (c (a + 1 + j)) else none := by
    intro j
    rw [← hnews, List.getElem?_take]
    by_cases hj : j < n - 1 - a
    · rw [if_pos hj, if_pos hj, List.getElem?_drop]
      simp [c, show a + 1 + j < cur'.size by omega]
    · rw [if_neg hj, if_neg hj]
  obtain ⟨s1, s2, s3, s4, s5, s6⟩ := setCells_facts (κ.blk k 0) news (0 + a * 1) w.drew cur' el (0, 0) l1
  obtain ⟨t1, t2, t3, t4, t5, t6⟩ := setCells_facts (κ.blk k 0) [z] (0 + (n - 1)) _ _ el (0, 0) s1
  generalize hw' : ((w.drew.setCells (κ.blk k 0) (0 + a * 1) news).setCells (κ.blk k 0) (0 + (n - 1)) [z]) = w' at *
  generalize hcur2 : setL (setL cur' (0 + a * 1) news) (0 + (n - 1)) [z] = cur2 at *
  have hsz2 : cur2.size = cur'.size := by rw [← hcur2, setL_size, setL_size]
  have hget : ∀ j, j < n - 1 → cur2[j]? = some (c (if j < a then j else j + 1)) := by
    intro j hj
    rw [← hcur2, setL_get _ _ _ _ (by rw [setL_size]; simp; omega), if_neg (by simp; omega), setL_get _ _ _ _ (by omega)]
    by_cases hja : j < a
    · rw [if_neg (by omega), if_pos hja]
      simp [c, show j < cur'.size by omega]
    · rw [if_pos (by omega), if_neg hja, hng, if_pos (by omega)]
      congr 2
      omega
  have htake : cur2.toList.take (n - 1) = flat (fun i => gf (if i < a then i else i + 1)) (n - 1) := by
    apply List.ext_getElem?
    intro j
    rw [flat_one (c := fun i => c (if i < a then i else i + 1)) (n - 1) (fun i hi => hgf _ (by split <;> omega)), List.getElem?_take]
    by_cases hj : j < n - 1
    · rw [if_pos hj, if_pos hj]
      have := hget j hj
      rwa [← Array.getElem?_toList] at this
    · rw [if_neg hj, if_neg hj]
  have hcutsz : ∀ i, (cutR F a i).size = 1 := fun i => by unfold cutR; split <;> exact hFs _
  have hszc : (AV.arr (n - 1) (cutR F a)).size = n - 1 := by show (n - 1) * (cutR F a 0).size = n - 1; rw [hcutsz]; omega
  obtain ⟨r1, r2⟩ := Rel.repl (κ := κ) (w' := w') (key := key) (b := κ.blk k 0) (sh := .arr (n - 1) (fun _ => T.zero el)) (c := .arr (n - 1) (cutR F a)) (cur := cur2) (e := el)
    hR hat hkey (t4.trans s4) (t5.trans s5) (t6.trans s6) (by rw [t3, s3]; exact Nat.le_refl _) (fun b' _ hne => (t2 b' hne).trans (s2 b' hne)) (.inl rfl) t1
    (fun c0 e0 f0 h0 => by rw [l1] at h0; simp only [Option.some.injEq, Obj.cells.injEq] at h0; obtain ⟨rfl, rfl, rfl⟩ := h0; exact ⟨rfl, hsz2⟩)
    (fun K' hle => by
      rw [hszc]
      refine ⟨_, htake, fun j hj => ?_⟩
      rw [hcutsz]
      unfold cutR
      by_cases hja : j < a
      · rw [if_pos hja, if_pos hja]; exact ⟨FL_mono hle (q2 j (by omega)).1, hlen j (by omega)⟩
      · rw [if_neg hja, if_neg hja]; exact ⟨FL_mono hle (q2 (j + 1) (by omega)).1, hlen (j + 1) (by omega)⟩)
    (by rw [hszc]; omega) ⟨rfl, fun i => by unfold cutR; split <;> exact l4.2 _⟩
  refine ⟨_, _, rfl, r1, ⟨_, rfl, by show OL.has _ key = true; rw [cons_has]; simp, by show (κ.set key (κ.blk k 0) (.arr (n - 1) (fun _ => T.zero el))).shp key 0 = .arr (n - 1) (fun _ => X.T.zero el); rw [Gh.set_shp, hTT], cap, cur2, (0, 0), ?_, by omega, c2, ?_, ?_⟩, r2⟩
  · show _ = Value.slice (some ⟨(κ.set key (κ.blk k 0) (.arr (n - 1) (fun _ => T.zero el))).blk key 0, 0, none⟩) (n - 1) cap
    rw [Gh.set_blk]
  · show w'.heap[(κ.set key (κ.blk k 0) (.arr (n - 1) (fun _ => T.zero el))).blk key 0]? = _
    rw [Gh.set_blk]; exact t1
  · show cur2.size = cap * X.T.sz el
    rw [hTT, hsz2, hz1]; omega
end
end Go.Am
/- slices.Delete of one row, run. My own work, after the pattern of the kit's walk of the same library function. -/
set_option linter.unusedVariables false
set_option linter.unusedSimpArgs false
namespace Go.Am
open Go.Proofs Go.RowKit
set_option maxHeartbeats 4000000 in
set_option maxRecDepth 100000 in
theorem del_low : DelC Try.prog 101 (.slice none 0 0) := by
  intro w b cap n a cur e hb hn hcap hcs ha h1
  simp only [maxLen] at hcap
  obtain ⟨news, hnews⟩ : ∃ news, news = (cur.toList.drop (a + 1)).take (n - 1 - a) := ⟨_, rfl⟩
  rw [← hnews]
  have hlen : news.length = n - (a + 1) := by rw [hnews]; simp; omega
  have hget : ∀ t, t < n - (a + 1) → news[t]? = some (cur.getD (a + 1 + t) undef) := by
    intro t ht
    rw [hnews, List.getElem?_take, if_pos (by omega), List.getElem?_drop]
    simp [show a + 1 + t < cur.size by omega]
  have hcell : ∀ j, j < n → w.cell? ⟨b, j, none⟩ = some (cur.getD j undef) := by
    intro j hj
    simp [World.cell?, hb, show j < cur.size by omega]
  have hfr : ∀ (w' : World) (c' : Array Value) (e' : TypeId) j, w'.heap[b]? = some (.cells c' e' (0, 0)) → w'.frozen? ⟨b, j, none⟩ = false := by
    intro w' c' e' j h
    simp [World.frozen?, h]
  obtain ⟨A, hA, hsrc⟩ : ∃ A : Addr, (if cap = a + 1 then some (⟨b, 0, none⟩ : Addr) else some ⟨b, a + 1, none⟩) = some A ∧ Hid (∀ t u, news[t]? = some u → w.drew.cell? (A.add t) = some u) := by
    by_cases h : cap = a + 1
    · refine ⟨⟨b, 0, none⟩, by simp [h], fun t u hu => ?_⟩
      have h0 : news.length = 0 := by rw [hlen]; omega
      rw [List.length_eq_zero_iff.1 h0] at hu
      simp at hu
    · refine ⟨⟨b, a + 1, none⟩, by simp [h], fun t u hu => ?_⟩
      have ht : t < n - (a + 1) := by
        have := (List.getElem?_eq_some_iff.1 hu).1
        rwa [hlen] at this
      rw [hget t ht] at hu
      rw [Addr.add_lit]
      exact (hcell (a + 1 + t) (by omega)).trans hu
  have s1 : Hid (news.length = (n - (a + 1)) * 1) := by rw [Nat.mul_one]; exact hlen
  have s2 : Hid (∀ u ∈ news, u.oneCell' = true) := by
    intro u hu
    rw [hnews] at hu
    have := List.mem_of_mem_take hu
    refine h1 u ?_
    obtain ⟨j, hj⟩ := List.mem_iff_getElem?.1 hu
    have hjl : j < n - (a + 1) := by
      have := (List.getElem?_eq_some_iff.1 hj).1
      rw [← hnews, hlen] at this; exact this
    have := hget j hjl
    rw [hnews, hj] at this
    rw [List.mem_iff_getElem?]
    refine ⟨a + 1 + j, ?_⟩
    rw [List.getElem?_take, if_pos (by omega), this]
    simp [show a + 1 + j < cur.size by omega]
  have s3 : Hid (∀ t, t < news.length → (w.drew.cell? ⟨b, 0 + a * 1 + t, none⟩).isSome = true ∧ w.drew.frozen? ⟨b, 0 + a * 1 + t, none⟩ = false) := by
    intro t ht
    rw [hlen] at ht
    refine ⟨?_, hfr _ _ _ _ hb⟩
    show (w.cell? _).isSome = true
    rw [hcell _ (by omega)]; rfl
  obtain ⟨W1, hW1⟩ : ∃ W1, W1 = w.drew.setCells b (0 + a * 1) news := ⟨_, rfl⟩
  obtain ⟨c1, c2, c3, c4, c5, c6⟩ := setCells_facts b news (0 + a * 1) w.drew cur e (0, 0) hb
  rw [← hW1] at c1
  have hcl : ∀ ty, (Builtin.clear_ #[85] ty #[.slice (some ⟨b, a + (n - (a + 1)), none⟩) (n - (a + (n - (a + 1)))) (cap - (a + (n - (a + 1))))]).run Try.prog W1 = .ok (.tuple #[]) (W1.setCells b (a + (n - (a + 1))) (List.replicate (n - (a + (n - (a + 1)))) (.slice none 0 0))) :=
    fun ty => Lib.run_clear_slice W1 _ _ ty _ Try.underlying85 Try.zeroValue86 rfl rfl b _ _ _ (by omega) (fun t ht => by
      simp [World.cell?, c1, setL_size]; omega) (fun t ht => hfr _ _ _ _ c1)
  have hW : Hid (W1 = w.drew.setCells b (0 + a * 1) news) := hW1
  have hic : a ≤ cap := by omega
  have hjc : a + 1 ≤ cap := by omega
  have hq1 : (0 : Int) ≤ (a : Int) + 1 := by omega
  have hq2 : (a : Int) + 1 ≤ (n : Int) := by omega
  have hlast : n - (a + (n - (a + 1))) = 1 := by omega
  have hl2 : a + (n - (a + 1)) = n - 1 := by omega
  have X1 : Hid (n - (a + (n - (a + 1))) = 1) := hlast
  have X2 : Hid (a + (n - (a + 1)) = n - 1) := hl2
  clear hlast hl2 hW1
  clear c1 c2 c3 c4 c5 c6 hget hcell hfr hnews hlen h1
  go_enter Try.func101, Try.ntmps101
  go_wp2_with fail
  go_region_law (refine step_append_room rfl (.tmp 22) (.tmp 25) 85 rfl 86 Try.t86 1 Try.underlying85 (by kernel_rfl) (by kernel_rfl) b 0 a cap (by simp [Act.eval, Act.put]) A (n - (a + 1)) (cap - (a + 1)) news (by simp [Act.eval, Act.put]) s1.out hsrc.out s2.out (by omega) s3.out ?_; rw [← hW.out])
  go_wp2
  go_ret
  rw [X1.out, X2.out, hW.out, Nat.zero_add (n - 1)]
  exact ⟨rfl, rfl⟩
end Go.Am
/- Reduced rows: the two algorithms as plain functions. My own work. -/
set_option linter.unusedVariables false
set_option linter.unusedSimpArgs false
namespace Go.Am

structure RS where
  nl : Nat
  L : Nat → Nat → Int
  no : Nat
  O : Nat → Nat → Int

/-- A row is made the pivot of place c. -/
def redHit (p : Int) (c : Nat) (s : RS) (k : Nat) : RS :=
  ⟨s.nl - 1, fun i => lessF p (cutR s.L k i) (scaledF p (s.L k) (invF p (s.L k c))) (cutR s.L k i c), s.no + 1,
    fun i => if i = s.no then scaledF p (s.L k) (invF p (s.L k c)) else lessF p (s.O i) (scaledF p (s.L k) (invF p (s.L k c))) (s.O i c)⟩
def redStep (p : Int) (c : Nat) (s : RS) : RS :=
  if idxF (fun i => decide (s.L i c ≠ 0)) s.nl < 0 then s else redHit p c s (idxF (fun i => decide (s.L i c ≠ 0)) s.nl).toNat
def redGo (p : Int) (n : Nat) (R : Nat → Nat → Int) : Nat → RS
  | 0 => ⟨n, R, 0, fun _ _ => 0⟩
  | c + 1 => redStep p c (redGo p n R c)

theorem red_miss {p : Int} {n : Nat} {R : Nat → Nat → Int} {c : Nat} (h : idxF (fun i => decide ((redGo p n R c).L i c ≠ 0)) (redGo p n R c).nl < 0) : redGo p n R (c + 1) = redGo p n R c := by
  show redStep p c (redGo p n R c) = _
  unfold redStep
  rw [if_pos h]
theorem red_hit {p : Int} {n : Nat} {R : Nat → Nat → Int} {c k : Nat} (h : idxF (fun i => decide ((redGo p n R c).L i c ≠ 0)) (redGo p n R c).nl = k) : redGo p n R (c + 1) = redHit p c (redGo p n R c) k := by
  show redStep p c (redGo p n R c) = _
  unfold redStep
  rw [h, if_neg (by omega)]
  simp
theorem red_counts (p : Int) (n : Nat) (R : Nat → Nat → Int) : ∀ c, (redGo p n R c).nl ≤ n ∧ (redGo p n R c).no ≤ c ∧ (redGo p n R c).no + (redGo p n R c).nl = n
  | 0 => ⟨Nat.le_refl _, Nat.le_refl _, Nat.zero_add _⟩
  | c + 1 => by
    have h := red_counts p n R c
    rcases idx_cases (fun i => decide ((redGo p n R c).L i c ≠ 0)) (redGo p n R c).nl with ⟨k, hk, _, _, he⟩ | ⟨_, he⟩
    · rw [red_hit he]
      simp only [redHit]
      omega
    · rw [red_miss (by rw [he]; omega)]
      omega
theorem red_B8 {p : Int} (hp : 0 < p) (hp2 : p ≤ 256) {n : Nat} {R : Nat → Nat → Int} (hR : ∀ i, B8 (R i)) : ∀ c, (∀ i, B8 ((redGo p n R c).L i)) ∧ ∀ i, B8 ((redGo p n R c).O i)
  | 0 => ⟨hR, fun i j => by show 0 ≤ (0 : Int) ∧ (0 : Int) < 256; omega⟩
  | c + 1 => by
    have h := red_B8 (n := n) hp hp2 hR c
    rcases idx_cases (fun i => decide ((redGo p n R c).L i c ≠ 0)) (redGo p n R c).nl with ⟨k, hk, _, _, he⟩ | ⟨_, he⟩
    · rw [red_hit he]
      refine ⟨fun i => lessF_B8 hp hp2 _ _ _, fun i => ?_⟩
      show B8 (if i = _ then _ else _)
      split
      · exact scaledF_B8 hp hp2 _ _
      · exact lessF_B8 hp hp2 _ _ _
    · rw [red_miss (by rw [he]; omega)]
      exact h
def mixG {α : Type} (F G : Nat → α) (k : Nat) : Nat → α := fun j => if j < k then F j else G j
theorem mixG_lt {α : Type} (F G : Nat → α) {k j : Nat} (h : j < k) : mixG F G k j = F j := if_pos h
theorem mixG_ge {α : Type} (F G : Nat → α) {k j : Nat} (h : k ≤ j) : mixG F G k j = G j := if_neg (by omega)
theorem mixG_self {α : Type} (F G : Nat → α) (k : Nat) : mixG F G k k = G k := if_neg (by omega)
theorem mixG_B8 {F G : Nat → Nat → Int} (hF : ∀ i, B8 (F i)) (hG : ∀ i, B8 (G i)) (k i : Nat) : B8 (mixG F G k i) := by
  unfold mixG; split
  · exact hF i
  · exact hG i
theorem cutR_B8 {F : Nat → Nat → Int} (hF : ∀ i, B8 (F i)) (k i : Nat) : B8 (cutR F k i) := by
  unfold cutR; split <;> exact hF _

theorem mt_put {V : Vw} {n i : Nat} {F f : Nat → AV} {v : AV} (h1 : ∀ a, a < n → a ≠ i → Mt V (F a) (f a)) (h2 : Mt V (F i) v) : Mt V (.arr n F) (put (.arr n f) [i] v) := by
  refine ⟨rfl, fun a ha => ?_⟩
  by_cases h : a = i
  · subst h; simp only [Nat.beq_refl, cond_true, put_nil]; exact h2
  · simp only [beq_ff h, cond_false]; exact h1 a ha h
theorem cutR_map {α β : Type} (G : α → β) (f : Nat → α) (k a : Nat) : cutR (fun i => G (f i)) k a = G (cutR f k a) := by unfold cutR; split <;> rfl
theorem ne_fst {a b : Nat × Nat} (h : Nat.beq a.1 b.1 = false) : a ≠ b := fun e => by subst e; simp at h
end Go.Am
