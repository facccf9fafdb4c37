/- Part 1 of what the law stands on: abstract values, their walk, contracts of functions. My own work. Conditions: none. -/
import Derived.Test.YtnmdenipfdgdgaaGreatPart0
set_option linter.unusedVariables false
set_option linter.unusedSimpArgs false
set_option linter.unusedSectionVars false
namespace Go.Am
abbrev Env := List (Nat × AV)
def get : Env → Nat → AV
  | [], _ => .any
  | (t', v) :: r, t => bif Nat.beq t t' then v else get r t
def putE : Option Nat → AV → Env → Env
  | none, _, env => env
  | some d, v, env => (d, v) :: env
def evE (env : Env) : EV
  | .tmp t => get env t
  | .const v => constAV v
  | .global _ => .any
  | .func g => .fn g 0 (fun _ => .any)
def EnvR (K : Kx) (env : Env) (tmps : Array Value) : Prop := ∀ t, VR K (get env t) (tmps.getD t undef)
theorem constAV_ok (K : Kx) (v : Value) : VR K (constAV v) v := by
  unfold constAV
  split <;> first | exact rfl | trivial
theorem EnvR.ev {K : Kx} {env : Env} {a : Act} (h : EnvR K env a.tmps) (x : Operand) : VR K (evE env x) (a.eval x) := by
  cases x with
  | tmp t => exact h t
  | const v => exact constAV_ok K v
  | global g => trivial
  | func g => exact ⟨#[], rfl, rfl, fun i hi => by omega⟩
theorem EnvR.mono {K K' : Kx} {env : Env} {tmps : Array Value} (h : EnvR K env tmps) (hle : Le K K') : EnvR K' env tmps := fun t => VR_mono hle (h t)
theorem EnvR.put {K : Kx} {env : Env} {a : Act} {d : Option Nat} {v : AV} {c : Value} (h : EnvR K env a.tmps) (hv : VR K v c) (hd : ∀ t, d = some t → t < a.tmps.size) : EnvR K (putE d v env) (a.put d c).tmps := by
  cases d with
  | none => exact h
  | some t =>
    have hlt := hd t rfl
    intro t'
    simp only [putE, get, Act.put]
    by_cases ht : t' = t
    · subst ht
      simp only [Nat.beq_refl, cond_true]
      have : (a.tmps.setIfInBounds t' c).getD t' undef = c := by simp [hlt]
      rw [this]
      exact hv
    · simp only [beq_ff ht, cond_false]
      have : (a.tmps.setIfInBounds t c).getD t' undef = a.tmps.getD t' undef := by simp [Array.getElem?_setIfInBounds_ne (Ne.symm ht)]
      rw [this]
      exact h t'
theorem Act.put_size (a : Act) (d : Option Nat) (v : Value) : (a.put d v).tmps.size = a.tmps.size := by cases d <;> simp [Act.put]
theorem Act.put_defers (a : Act) (d : Option Nat) (v : Value) : (a.put d v).defers = a.defers := by cases d <;> rfl
def dstOk (N : Nat) (ops : List Oper) : Bool := ops.all fun o => match o.dst with | some d => Nat.blt d N | none => true
def undA : AV := .tup 0 (fun _ => .any)
theorem undA_ok (K : Kx) : VR K undA undef := ⟨#[], rfl, rfl, fun i hi => by omega⟩
def WOps (P : Program) (T : TT) (all : Array Oper) : List Oper → Env → OL → (Env → OL → Prop) → Prop
  | [], env, ol, K => K env ol
  | o :: r, env, ol, K =>
    match o.guard with
    | none => WOp P T o (evE env) ol (fun v ol' => WOps P T all r (putE o.dst v env) ol' K)
    | some (j, want) => (match (all[j]?).bind (·.dst) with
      | some d => (match get env d with
        | .bool b => (match b == want with
          | true => WOp P T o (evE env) ol (fun v ol' => WOps P T all r (putE o.dst v env) ol' K)
          | false => WOps P T all r (putE o.dst undA env) ol K)
        | .tup 0 _ => WOps P T all r (putE o.dst undA env) ol K
        | _ => False)
      | none => False)
section
variable {P : Program} {T : TT}
theorem upon_of_Out {X : Cx} {κ : Gh} {ob ob' : Ob} {w : World} {v : AV} {r : Result Next} {o : Oper} {a : Act} {next : Act → World → Prop} {Q : Exit → Act → World → Prop} (h : Out X κ ob w ob' v r)
    (hn : ∀ c w' κ', Rel X κ' ob' w' → VR (KK X κ' ob' w') v c → Le (KK X κ ob w) (KK X κ' ob' w') → next (a.put o.dst c) w') : o.upon X.P a next Q r := by
  unfold Out at h
  split at h
  · obtain ⟨κ', h1, h2, h3⟩ := h
    exact hn _ _ κ' h1 h2 h3
  · obtain ⟨κ', h1, h2, h3⟩ := h
    exact hn _ _ κ' h1 h2 h3
  · refine h.mono ?_
    rintro e w' ⟨c, κ', rfl, h1, h2, h3⟩
    exact hn _ _ κ' h1 h2 h3
  · exact h.elim
theorem WOp_out {o : Oper} {env : Env} {ol : OL} {K : AV → OL → Prop} (hT : TOk P T) (h : WOp P T o (evE env) ol K) :
    ∃ (v : AV) (ol' : OL), K v ol' ∧ ∀ (X : Cx) (κ : Gh) (w : World) (a : Act), X.P = P → X.T = T → Rel X κ ol.ob w → EnvR (KK X κ ol.ob w) env a.tmps → Out X κ ol.ob w ol'.ob v ((execOp a.eval o).run P w) := by
  obtain ⟨v, h⟩ := WOp_sound hT h
  rcases h with ⟨_, h1, h2⟩ | ⟨_, A, h1, h2, h3⟩ | ⟨_, ol', h1, h2, _⟩
  · refine ⟨v, ol, h1, fun X κ w a hP hTT hR hE => ?_⟩
    have := (PassJ.of_pure h2 ol.ob) X κ ol.ob w a.eval hP hTT hR (fun _ _ _ _ => rfl) (fun k hk => by cases hk) (fun x _ => hE.ev x)
    rwa [Ob.ext_nil] at this
  · refine ⟨v, A ++ ol, h1, fun X κ w a hP hTT hR hE => ?_⟩
    rw [OL.ob_append]
    exact h2 X κ ol.ob w a.eval hP hTT (fun _ => rfl) hR (fun _ _ _ _ => rfl) h3 (fun x _ => hE.ev x)
  · exact ⟨v, ol', h1, fun X κ w a hP hTT hR hE => h2 X κ w a.eval hP hTT hR (fun x _ => hE.ev x)⟩
def QQ (X : Cx) (N : Nat) (Q : Exit → Env → OL → Prop) : Exit → Act → World → Prop := fun ex a w =>
  ∃ κ env ol, Q ex env ol ∧ Rel X κ ol.ob w ∧ EnvR (KK X κ ol.ob w) env a.tmps ∧ a.tmps.size = N ∧ a.defers = []
theorem yielded_of {arr : Array Oper} {j d : Nat} {b : Bool} {K : Kx} {env : Env} {tmps : Array Value} (hd : (arr[j]?).bind (·.dst) = some d) (hE : EnvR K env tmps) (hb : get env d = .bool b) (hlt : d < tmps.size) : yielded arr tmps j = some b := by
  have := hE d
  rw [hb] at this
  have hv := VR_bool this
  have : tmps[d]? = some (.bool b) := by
    rw [Array.getElem?_eq_getElem hlt]
    simp [hlt] at hv
    rw [hv]
  simp [yielded, hd, this]
theorem yielded_none {arr : Array Oper} {j d : Nat} {f : Nat → AV} {K : Kx} {env : Env} {tmps : Array Value} (hd : (arr[j]?).bind (·.dst) = some d) (hE : EnvR K env tmps) (hb : get env d = .tup 0 f) : yielded arr tmps j = none := by
  have := hE d
  rw [hb] at this
  obtain ⟨vs, hv, hs, _⟩ := this
  by_cases hlt : d < tmps.size
  · have : tmps[d]? = some (.tuple vs) := by
      rw [Array.getElem?_eq_getElem hlt]
      simp [hlt] at hv
      rw [hv]
    simp [yielded, hd, this]
  · have : tmps[d]? = none := by simp; omega
    simp [yielded, hd, this]
theorem dst_lt_of_eq {K : Kx} {env : Env} {tmps : Array Value} {d : Nat} {b : Bool} (hE : EnvR K env tmps) (hb : get env d = .bool b) : d < tmps.size := by
  have := hE d
  rw [hb] at this
  have hv := VR_bool this
  by_cases h : d < tmps.size
  · exact h
  · simp [h, undef] at hv
theorem WOps_sound (hT : TOk P T) (arr : Array Oper) {N : Nat} {Q : Exit → Env → OL → Prop} : ∀ (ops : List Oper) (env : Env) (ol : OL), WOps P T arr ops env ol (fun env' ol' => Q .normal env' ol') → dstOk N ops = true →
    ∀ (X : Cx) (κ : Gh) (a : Act) (w : World), X.P = P → X.T = T → Rel X κ ol.ob w → EnvR (KK X κ ol.ob w) env a.tmps → a.tmps.size = N → a.defers = [] → wpList P arr (QQ X N Q) ops a w
  | [], env, ol, h, _, X, κ, a, w, hP, hTT, hR, hE, hN, hD => ⟨κ, env, ol, h, hR, hE, hN, hD⟩
  | o :: r, env, ol, h, hdst, X, κ, a, w, hP, hTT, hR, hE, hN, hD => by
    simp only [dstOk, List.all_cons, Bool.and_eq_true] at hdst
    have hlt : ∀ t, o.dst = some t → t < a.tmps.size := fun t ht => by
      have := hdst.1
      rw [ht] at this
      rw [hN]; simpa [Nat.blt_eq] using this
    have run : WOp P T o (evE env) ol (fun v ol' => WOps P T arr r (putE o.dst v env) ol' (fun env' ol' => Q .normal env' ol')) → o.wp P a w (wpList P arr (QQ X N Q) r) (QQ X N Q) := by
      intro hw
      obtain ⟨v, ol', h1, h2⟩ := WOp_out hT hw
      have := h2 X κ w a hP hTT hR hE
      unfold Oper.wp
      rw [← hP]
      rw [← hP] at this
      refine upon_of_Out this (fun c w' κ' hR' hv hle => ?_)
      rw [hP]
      exact WOps_sound hT arr r _ ol' h1 hdst.2 X κ' _ w' hP hTT hR' ((hE.mono hle).put hv hlt) (by rw [Act.put_size]; exact hN) (by rw [Act.put_defers]; exact hD)
    have skip : WOps P T arr r (putE o.dst undA env) ol (fun env' ol' => Q .normal env' ol') → wpList P arr (QQ X N Q) r (a.put o.dst undef) w := fun hw =>
      WOps_sound hT arr r _ ol hw hdst.2 X κ _ w hP hTT hR (hE.put (undA_ok _) hlt) (by rw [Act.put_size]; exact hN) (by rw [Act.put_defers]; exact hD)
    unfold WOps at h
    unfold wpList
    split at h
    · rename_i hg
      rw [if_pos (by simp [Region.wanted, hg])]
      exact .inl (run h)
    · rename_i j want hg
      split at h
      · rename_i d hd
        split at h
        · rename_i b hb
          have hy := yielded_of hd hE hb (dst_lt_of_eq hE hb)
          split at h
          · rename_i hbw
            have : b = want := by simpa using hbw
            subst this
            rw [if_pos (by simp [Region.wanted, hg, hy])]
            exact .inl (run h)
          · rename_i hbw
            have : b ≠ want := by simpa using hbw
            rw [if_neg (by simp [Region.wanted, hg, hy, this])]
            exact skip h
        · rename_i f hb
          have hy := yielded_none hd hE hb
          rw [if_neg (by simp [Region.wanted, hg, hy])]
          exact skip h
        · exact h.elim
      · exact h.elim
def Snd (P : Program) (T : TT) (N : Nat) (c : Code) (env : Env) (ol : OL) (Q : Exit → Env → OL → Prop) : Prop :=
  ∀ (X : Cx) (κ : Gh) (a : Act) (w : World), X.P = P → X.T = T → Rel X κ ol.ob w → EnvR (KK X κ ol.ob w) env a.tmps → a.tmps.size = N → a.defers = [] → c.wp P (QQ X N Q) a w
variable {N : Nat} {env : Env} {ol : OL} {Q : Exit → Env → OL → Prop}
theorem snd_skip (h : Q .normal env ol) : Snd P T N .skip env ol Q := fun X κ a w hP hTT hR hE hN hD => wp_skip ⟨κ, env, ol, h, hR, hE, hN, hD⟩
theorem snd_exit {id : Nat} (h : Q (.exit id) env ol) : Snd P T N (.exit id) env ol Q := fun X κ a w hP hTT hR hE hN hD => wp_exit ⟨κ, env, ol, h, hR, hE, hN, hD⟩
theorem snd_ret (h : Q .ret env ol) : Snd P T N .ret env ol Q := fun X κ a w hP hTT hR hE hN hD => wp_ret ⟨κ, env, ol, h, hR, hE, hN, hD⟩
def thn (P : Program) (T : TT) (N : Nat) (y : Code) (Q : Exit → Env → OL → Prop) : Exit → Env → OL → Prop
  | .normal, env, ol => Snd P T N y env ol Q
  | e, env, ol => Q e env ol
theorem snd_seq {x y : Code} (h : Snd P T N x env ol (thn P T N y Q)) : Snd P T N (.seq x y) env ol Q := by
  intro X κ a w hP hTT hR hE hN hD
  refine wp_seq (wp_mono (h X κ a w hP hTT hR hE hN hD) ?_)
  rintro ex a' w' ⟨κ', env', ol', hq, hR', hE', hN', hD'⟩
  cases ex with
  | normal => exact hq X κ' a' w' hP hTT hR' hE' hN' hD'
  | _ => exact ⟨κ', env', ol', hq, hR', hE', hN', hD'⟩
theorem snd_region (hT : TOk P T) {id : Nat} {ops : Array Oper} (hd : dstOk N ops.toList = true) (h : WOps P T ops ops.toList env ol (fun env' ol' => Q .normal env' ol')) : Snd P T N (.region id ops false) env ol Q :=
  fun X κ a w hP hTT hR hE hN hD => wp_region_list (WOps_sound hT ops ops.toList env ol h hd X κ a w hP hTT hR hE hN hD)
theorem snd_cond_true {c : Operand} {x y : Code} (hc : evE env c = .bool true) (h : Snd P T N x env ol Q) : Snd P T N (.cond c x y) env ol Q := by
  intro X κ a w hP hTT hR hE hN hD
  have := hE.ev c
  rw [hc] at this
  exact wp_cond_true (VR_bool this) (h X κ a w hP hTT hR hE hN hD)
theorem snd_cond_false {c : Operand} {x y : Code} (hc : evE env c = .bool false) (h : Snd P T N y env ol Q) : Snd P T N (.cond c x y) env ol Q := by
  intro X κ a w hP hTT hR hE hN hD
  have := hE.ev c
  rw [hc] at this
  exact wp_cond_false (VR_bool this) (h X κ a w hP hTT hR hE hN hD)
theorem snd_cond {c : Operand} {x y : Code} (b : Bool) (hc : evE env c = .bool b) (ht : b = true → Snd P T N x env ol Q) (hf : b = false → Snd P T N y env ol Q) : Snd P T N (.cond c x y) env ol Q := by
  cases b
  · exact snd_cond_false hc (hf rfl)
  · exact snd_cond_true hc (ht rfl)
def inB (id : Nat) (Q : Exit → Env → OL → Prop) : Exit → Env → OL → Prop
  | .exit id', env, ol => bif Nat.beq id' id then Q .normal env ol else Q (.exit id') env ol
  | e, env, ol => Q e env ol
theorem snd_block {id : Nat} {c : Code} (h : Snd P T N c env ol (inB id Q)) : Snd P T N (.block id c) env ol Q := by
  intro X κ a w hP hTT hR hE hN hD
  refine wp_block (wp_mono (h X κ a w hP hTT hR hE hN hD) ?_)
  rintro ex a' w' ⟨κ', env', ol', hq, hR', hE', hN', hD'⟩
  cases ex with
  | exit id' =>
    simp only [Exit.inBlock]
    simp only [inB] at hq
    by_cases hid : id' = id
    · subst hid
      rw [if_pos rfl]
      simp only [Nat.beq_refl, cond_true] at hq
      exact ⟨κ', env', ol', hq, hR', hE', hN', hD'⟩
    · rw [if_neg hid]
      simp only [beq_ff hid, cond_false] at hq
      exact ⟨κ', env', ol', hq, hR', hE', hN', hD'⟩
  | _ => exact ⟨κ', env', ol', hq, hR', hE', hN', hD'⟩
structure Vw where
  ρ : Nat → Nat → Nat × Nat
  dom : Nat → Bool
  at' : Nat → Nat → Option (AV × AV)
  fz : Nat → Nat → Prop
def Mt (V : Vw) : AV → AV → Prop
  | .any, v' => v'.isAgg = false
  | .int k n, v' => v' = .int k n
  | .bool b, v' => v' = .bool b
  | .strg s, v' => v' = .strg s
  | .nilsl, v' => v' = .nilsl
  | .arr n f, v' => (match v' with | .arr m f' => m = n ∧ ∀ i, i < n → Mt V (f i) (f' i) | _ => False)
  | .sct n f, v' => (match v' with | .sct m f' => m = n ∧ ∀ i, i < n → Mt V (f i) (f' i) | _ => False)
  | .tup n f, v' => (match v' with | .tup m f' => m = n ∧ ∀ i, i < n → Mt V (f i) (f' i) | _ => False)
  | .own k i n e, v' => (match v' with | .own k' i' n' e' => V.ρ k i = (k', i') ∧ n' = n ∧ e' = e ∧ V.dom k = true | _ => False)
  | .ptr k i p o r, v' => (match v' with | .ptr k' i' p' o' r' => V.ρ k i = (k', i') ∧ p' = p ∧ o' = o ∧ r' = r ∧ V.dom k = true | _ => False)
  | .cptr v, v' => (match v' with
    | .cptr u => Mt V v u
    | .ptr k' i' p _ _ => V.fz k' i' ∧ (match V.at' k' i' with | some (_, c) => Mt V v (sub c p) | none => False)
    | _ => False)
  | .ro n f, v' => (match v' with
    | .ro m f' => m = n ∧ ∀ i, i < n → Mt V (f i) (f' i)
    | .own k' i' m _ => m = n ∧ V.fz k' i' ∧ (match V.at' k' i' with | some (_, .arr m' f') => m' = n ∧ ∀ i, i < n → Mt V (f i) (f' i) | _ => False)
    | .nilsl => n = 0
    | _ => False)
  | .fn g n f, v' => (match v' with | .fn g' m f' => g' = g ∧ m = n ∧ ∀ i, i < n → Mt V (f i) (f' i) | _ => False)
theorem Mt_isAgg {V : Vw} {v v' : AV} (h : Mt V v v') : v'.isAgg = v.isAgg := by
  cases v
  case any => exact h
  case int => rw [show v' = _ from h]
  case bool => rw [show v' = _ from h]
  case strg => rw [show v' = _ from h]
  case nilsl => rw [show v' = _ from h]
  all_goals (cases v' <;> first | rfl | exact (show False from h).elim)
theorem Mt_size {V : Vw} : ∀ {v v' : AV}, Mt V v v' → v'.size = v.size := by
  intro v
  induction v with
  | arr n f ih =>
    intro v' h
    cases v' <;> simp only [Mt] at h
    obtain ⟨rfl, h⟩ := h
    simp only [AV.size]
    rename_i m f'
    by_cases h0 : m = 0
    · subst h0; simp
    · rw [ih 0 (h 0 (by omega))]
  | sct n f ih =>
    intro v' h
    cases v' <;> simp only [Mt] at h
    obtain ⟨rfl, h⟩ := h
    simp only [AV.size]
    exact sumTo_congr fun i hi => ih i (h i hi)
  | any => intro v' h; simp only [Mt] at h; cases v' <;> first | rfl | (simp [AV.isAgg] at h)
  | int k n => intro v' h; simp only [Mt] at h; rw [h]
  | bool b => intro v' h; simp only [Mt] at h; rw [h]
  | strg s => intro v' h; simp only [Mt] at h; rw [h]
  | nilsl => intro v' h; simp only [Mt] at h; rw [h]
  | _ => intro v' h; cases v' <;> simp only [Mt] at h <;> rfl
structure VwOk (V : Vw) (K' K : Kx) : Prop where
  heap : K.heap = K'.heap
  sz : K.sz = K'.sz
  zr : K.zr = K'.zr
  J : ∀ b, K'.J b → K.J b
  dom : ∀ k, V.dom k = true → K.dom k
  blk : ∀ k i k' i', V.ρ k i = (k', i') → K.blk k i = K'.blk k' i' ∧ K.shp k i = K'.shp k' i'
  live : ∀ k' i' sh c, V.at' k' i' = some (sh, c) → V.fz k' i' → K.J (K'.blk k' i') ∧ sh = K'.shp k' i' ∧ ssh sh c ∧ ∃ cur e, K'.heap[K'.blk k' i']? = some (.cells cur e (0, 0)) ∧ FL K' c (cur.toList.take c.size)
theorem VwOk.seg {V : Vw} {K' K : Kx} (h : VwOk V K' K) {b o : Nat} {s : List Value} (hs : K'.seg b o s) : K.seg b o s := by
  obtain ⟨cur, e, fr, h1, h2⟩ := hs
  exact ⟨cur, e, fr, by rw [h.heap]; exact h1, h2⟩
theorem Mt_FL {V : Vw} {K' K : Kx} (hV : VwOk V K' K) : ∀ {v v' : AV} {cs : List Value}, Mt V v v' → FL K' v' cs → FL K v cs := by
  intro v
  induction v with
  | arr n f ih =>
    intro v' cs hm h
    cases v' <;> simp only [Mt] at hm
    obtain ⟨rfl, hm⟩ := hm
    obtain ⟨g, rfl, hg⟩ := h
    exact ⟨g, rfl, fun i hi => ⟨ih i (hm i hi) (hg i hi).1, by rw [← Mt_size (hm 0 (by omega))]; exact (hg i hi).2⟩⟩
  | sct n f ih =>
    intro v' cs hm h
    cases v' <;> simp only [Mt] at hm
    obtain ⟨rfl, hm⟩ := hm
    obtain ⟨g, rfl, hg⟩ := h
    exact ⟨g, rfl, fun i hi => ih i (hm i hi) (hg i hi)⟩
  | any =>
    intro v' cs hm h
    simp only [Mt] at hm
    have h1 := FL_len h
    have h2 : v'.size = 1 := by cases v' <;> first | rfl | (simp [AV.isAgg] at hm)
    rw [h2] at h1
    match cs, h1 with
    | [c], _ => exact ⟨c, rfl, FL_one h c (by simp)⟩
  | int k n => intro v' cs hm h; simp only [Mt] at hm; subst hm; exact h
  | bool b => intro v' cs hm h; simp only [Mt] at hm; subst hm; exact h
  | strg s => intro v' cs hm h; simp only [Mt] at hm; subst hm; exact h
  | nilsl => intro v' cs hm h; simp only [Mt] at hm; subst hm; exact h
  | tup n f _ => intro v' cs hm h; cases v' <;> simp only [Mt] at hm; exact h.elim
  | ptr k i p o r _ => intro v' cs hm h; cases v' <;> simp only [Mt] at hm; exact h.elim
  | own k i n e =>
    intro v' cs hm h
    cases v' <;> simp only [Mt] at hm
    obtain ⟨hρ, rfl, rfl, hd⟩ := hm
    obtain ⟨c, rfl, _, hn, cap, cur, fr, rfl, h1, h2, h3, h4⟩ := h
    obtain ⟨b1, b2⟩ := hV.blk _ _ _ _ hρ
    exact ⟨_, rfl, hV.dom k hd, by rw [b2, hV.zr]; exact hn, cap, cur, fr, by rw [b1], h1, h2, by rw [b1, hV.heap]; exact h3, by rw [hV.sz]; exact h4⟩
  | cptr v ih =>
    intro v' cs hm h
    cases v' <;> simp only [Mt] at hm
    case cptr u =>
      obtain ⟨b, o, seg, rfl, hJ, hv, hs⟩ := h
      exact ⟨b, o, seg, rfl, hV.J b hJ, ih hm hv, hV.seg hs⟩
    case ptr => exact h.elim
  | ro n f ih =>
    intro v' cs hm h
    cases v' <;> simp only [Mt] at hm
    case ro m f' =>
      obtain ⟨rfl, hm⟩ := hm
      obtain ⟨A, cap, rfl, h1, h2, h3⟩ := h
      refine ⟨A, cap, rfl, h1, h2, ?_⟩
      rcases h3 with h3 | ⟨b, o, g, hA, hJ, hs, hg⟩
      · exact .inl h3
      · exact .inr ⟨b, o, g, hA, hV.J b hJ, hV.seg hs, fun i hi => ⟨ih i (hm i hi) (hg i hi).1, by rw [← Mt_size (hm 0 (by omega))]; exact (hg i hi).2⟩⟩
    case nilsl =>
      subst hm
      have h' : cs = [.slice none 0 0] := h
      subst h'
      exact ⟨none, 0, rfl, Nat.le_refl _, Nat.zero_le _, .inl rfl⟩
    case own k' i' m e =>
      obtain ⟨rfl, hfz, hm⟩ := hm
      split at hm
      · rename_i sh m' f' hat
        obtain ⟨rfl, hm⟩ := hm
        obtain ⟨hJ, hsh, hss, cur', e', hc, hFL⟩ := hV.live _ _ _ _ hat hfz
        obtain ⟨c, rfl, hd, hn, cap, cur, fr, rfl, h1, h2, h3, h4⟩ := h
        rw [hc] at h3
        simp only [Option.some.injEq, Obj.cells.injEq] at h3
        obtain ⟨rfl, rfl, rfl⟩ := h3
        obtain ⟨g, q1, q2⟩ := hFL
        refine ⟨_, cap, rfl, h1, h2, .inr ⟨_, 0, g, rfl, hJ, ⟨cur', e', (0, 0), by rw [hV.heap]; exact hc, fun j u hu => ?_⟩, fun i hi => ⟨ih i (hm i hi) (q2 i hi).1, by rw [← Mt_size (hm 0 (by omega))]; exact (q2 i hi).2⟩⟩⟩
        rw [Nat.zero_add, ← Array.getElem?_toList]
        rw [← q1, List.getElem?_take] at hu
        split at hu
        · exact hu
        · cases hu
      · exact hm.elim
  | fn q n caps ih =>
    intro v' cs hm h
    cases v' <;> simp only [Mt] at hm
    obtain ⟨rfl, rfl, hm⟩ := hm
    obtain ⟨cv, rfl, h1, h2⟩ := h
    exact ⟨cv, rfl, h1, fun i hi => ⟨by rw [← Mt_isAgg (hm i hi)]; exact (h2 i hi).1, ih i (hm i hi) (h2 i hi).2⟩⟩
theorem Mt_VR {V : Vw} {K' K : Kx} (hV : VwOk V K' K) : ∀ {v v' : AV} {c : Value}, Mt V v v' → VR K' v' c → VR K v c := by
  intro v
  induction v with
  | arr n f ih =>
    intro v' c hm h
    have h0 := hm
    cases v' <;> simp only [Mt] at hm
    obtain ⟨cs, rfl, hc⟩ := h
    exact ⟨cs, rfl, Mt_FL hV h0 hc⟩
  | sct n f ih =>
    intro v' c hm h
    have h0 := hm
    cases v' <;> simp only [Mt] at hm
    obtain ⟨cs, rfl, hc⟩ := h
    exact ⟨cs, rfl, Mt_FL hV h0 hc⟩
  | any => intro v' c _ _; trivial
  | int k n => intro v' c hm h; simp only [Mt] at hm; subst hm; exact h
  | bool b => intro v' c hm h; simp only [Mt] at hm; subst hm; exact h
  | strg s => intro v' c hm h; simp only [Mt] at hm; subst hm; exact h
  | nilsl => intro v' c hm h; simp only [Mt] at hm; subst hm; exact h
  | tup n f ih =>
    intro v' c hm h
    cases v' <;> simp only [Mt] at hm
    obtain ⟨rfl, hm⟩ := hm
    obtain ⟨vs, rfl, h1, h2⟩ := h
    exact ⟨vs, rfl, h1, fun i hi => ih i (hm i hi) (h2 i hi)⟩
  | fn q n caps ih =>
    intro v' c hm h
    cases v' <;> simp only [Mt] at hm
    obtain ⟨rfl, rfl, hm⟩ := hm
    obtain ⟨cv, rfl, h1, h2⟩ := h
    exact ⟨cv, rfl, h1, fun i hi => ih i (hm i hi) (h2 i hi)⟩
  | ptr k i p o r _ =>
    intro v' c hm h
    cases v' <;> simp only [Mt] at hm
    obtain ⟨hρ, rfl, rfl, rfl, hd⟩ := hm
    obtain ⟨hd', rfl, h1, h2, h3⟩ := h
    obtain ⟨b1, b2⟩ := hV.blk _ _ _ _ hρ
    exact ⟨hV.dom k hd, by rw [b1], h1, h2, by rw [b2]; exact h3⟩
  | own k i n e =>
    intro v' c hm h
    have h0 := hm
    cases v' <;> simp only [Mt] at hm
    exact Mt_FL hV h0 h
  | ro n f _ =>
    intro v' c hm h
    have h0 := hm
    cases v' <;> simp only [Mt] at hm
    · exact Mt_FL hV h0 h
    · exact Mt_FL hV h0 h
    · exact Mt_FL hV h0 h
  | cptr v ih =>
    intro v' c hm h
    have h0 := hm
    cases v' <;> simp only [Mt] at hm
    case cptr u => exact Mt_FL hV h0 h
    case ptr k' i' p o r =>
      obtain ⟨hfz, hm⟩ := hm
      split at hm
      · rename_i sh c' hat
        obtain ⟨hJ, hsh, hss, cur, e, hc, hFL⟩ := hV.live _ _ _ _ hat hfz
        obtain ⟨hd, rfl, e2, e3, e4⟩ := h
        have : sh = r := hsh.trans e4.symm
        subst this
        obtain ⟨s1, s2, s3, s4⟩ := ssh_path p 0 hss e3
        obtain ⟨pre, seg, post, q1, q2, q3, _⟩ := FL_dec p 0 hFL s1
        refine VR_cptr_mk hJ (Mt_FL hV hm q3) (hV.seg ?_)
        have hs0 : K'.seg (K'.blk k' i') 0 (cur.toList.take c'.size) := ⟨cur, e, (0, 0), hc, fun j x hx => by
          rw [Nat.zero_add, ← Array.getElem?_toList]
          rw [List.getElem?_take] at hx
          split at hx
          · exact hx
          · cases hx⟩
        rw [q1] at hs0
        have := seg_sub hs0
        rw [e2, s2, q2]
        simpa using this
      · exact hm.elim
def liveAll (F : Nat → Nat → AV → AV → Prop) : OL → Prop
  | [] => True
  | (k, .one sh c) :: r => F k 0 sh c ∧ liveAll F r
  | (_, .gone) :: r => liveAll F r
  | (k, .many f) :: r => (∀ i sh c, f i = some (sh, c) → F k i sh c) ∧ liveAll F r
theorem liveAll_at {F : Nat → Nat → AV → AV → Prop} {l : OL} (h : liveAll F l) {k i : Nat} {sh c : AV} (hk : l.at_ k i = some (sh, c)) : F k i sh c := by
  induction l with
  | nil => cases hk
  | cons p r ih =>
    obtain ⟨k', G⟩ := p
    simp only [OL.at_] at hk
    cases G with
    | one s1 c1 =>
      cases hb : Nat.beq k k'
      · rw [hb] at hk; exact ih h.2 hk
      · rw [hb] at hk
        simp only [cond_true, Fam.at_] at hk
        have hkk := Nat.eq_of_beq_eq_true hb
        cases hi : Nat.beq i 0
        · rw [hi] at hk; cases hk
        · rw [hi] at hk
          have hi0 := Nat.eq_of_beq_eq_true hi
          simp only [cond_true, Option.some.injEq, Prod.mk.injEq] at hk
          rw [← hk.1, ← hk.2, hkk, hi0]; exact h.1
    | gone =>
      cases hb : Nat.beq k k'
      · rw [hb] at hk; exact ih h hk
      · rw [hb] at hk; cases hk
    | many f =>
      cases hb : Nat.beq k k'
      · rw [hb] at hk; exact ih h.2 hk
      · rw [hb] at hk
        have hkk := Nat.eq_of_beq_eq_true hb
        rw [hkk]; exact h.1 i sh c hk
def MtE (V : Vw) (v v' : AV) : Prop := match v with | .any => True | v => Mt V v v'
def envAll (F : Nat → AV → Prop) : Env → Prop
  | [] => True
  | (t, v) :: r => F t v ∧ envAll F r
theorem envAll_get {F : Nat → AV → Prop} {env : Env} (h : envAll F env) (t : Nat) (hany : F t .any) : F t (get env t) := by
  induction env with
  | nil => exact hany
  | cons p r ih =>
    obtain ⟨t', v⟩ := p
    simp only [get]
    cases hb : Nat.beq t t'
    · exact ih h.2
    · rw [Nat.eq_of_beq_eq_true hb]; exact h.1
def vwOf (ρ : Nat → Nat → Nat × Nat) (ol' ol : OL) : Vw := ⟨ρ, ol.has, ol'.at_, fun k' i' => liveAll (fun k i _ _ => ρ k i ≠ (k', i')) ol⟩
def Emb (ρ : Nat → Nat → Nat × Nat) (env' : Env) (ol' : OL) (env : Env) (ol : OL) : Prop :=
  envAll (fun t v => MtE (vwOf ρ ol' ol) v (get env' t)) env ∧
  liveAll (fun k i sh c => match ol'.at_ (ρ k i).1 (ρ k i).2 with | some (sh', c') => sh' = sh ∧ ssh sh c ∧ Mt (vwOf ρ ol' ol) c c' | none => False) ol ∧
  liveAll (fun k i _ _ => liveAll (fun k2 i2 _ _ => ρ k i = ρ k2 i2 → k = k2 ∧ i = i2) ol) ol
theorem Emb.rel {ρ : Nat → Nat → Nat × Nat} {env' : Env} {ol' : OL} {env : Env} {ol : OL} (h : Emb ρ env' ol' env ol) {X : Cx} {κ' : Gh} {w : World} (hR : Rel X κ' ol'.ob w) :
    ∃ κ, Rel X κ ol.ob w ∧ VwOk (vwOf ρ ol' ol) (KK X κ' ol'.ob w) (KK X κ ol.ob w) := by
  obtain ⟨h1, h2, h3⟩ := h
  let κ : Gh := ⟨fun k i => κ'.blk (ρ k i).1 (ρ k i).2, fun k i => κ'.shp (ρ k i).1 (ρ k i).2⟩
  have hl : ∀ {k i : Nat} {sh c : AV}, ol.at_ k i = some (sh, c) → ∃ c', ol'.at_ (ρ k i).1 (ρ k i).2 = some (sh, c') ∧ ssh sh c ∧ Mt (vwOf ρ ol' ol) c c' := by
    intro k i sh c hk
    have := liveAll_at h2 hk
    split at this
    · rename_i sh' c' hat
      obtain ⟨rfl, hss, hm⟩ := this
      exact ⟨c', hat, hss, hm⟩
    · exact this.elim
  have hne : ∀ {k i : Nat}, ol.at_ k i ≠ none → ol'.at_ (ρ k i).1 (ρ k i).2 ≠ none := by
    intro k i hk
    cases hq : ol.at_ k i with
    | none => exact absurd hq hk
    | some p =>
      obtain ⟨c', e1, _⟩ := hl (sh := p.1) (c := p.2) hq
      rw [e1]; simp
  have hJ : ∀ b, (KK X κ' ol'.ob w).J b → (KK X κ ol.ob w).J b := fun b ⟨g1, g2⟩ => ⟨g1, fun k i hk => g2 _ _ (hne hk)⟩
  have hV : VwOk (vwOf ρ ol' ol) (KK X κ' ol'.ob w) (KK X κ ol.ob w) := by
    refine ⟨rfl, rfl, rfl, hJ, fun k hk => hk, fun k i k' i' hρ => ?_, fun k' i' sh c hat hfz => ?_⟩
    · have hρ' : ρ k i = (k', i') := hρ
      show κ'.blk (ρ k i).1 (ρ k i).2 = κ'.blk k' i' ∧ κ'.shp (ρ k i).1 (ρ k i).2 = κ'.shp k' i'
      rw [hρ']
      exact ⟨rfl, rfl⟩
    · have hat' : ol'.at_ k' i' = some (sh, c) := hat
      obtain ⟨cur, e, l1, l2, l3, l4, l5, l6, l7⟩ := hR.live k' i' sh c hat'
      refine ⟨⟨?_, fun k i hk hb => ?_⟩, l5, l4, cur, e, l1, l3⟩
      · rcases l6 with l6 | l6
        · exact .inr (.inr ⟨l6, (Array.getElem?_eq_some_iff.1 l1).1⟩)
        · exact .inr (.inl l6)
      · cases hq : ol.at_ k i with
        | none => exact hk hq
        | some p =>
          have hf := liveAll_at (show liveAll (fun k i _ _ => ρ k i ≠ (k', i')) ol from hfz) (sh := p.1) (c := p.2) hq
          obtain ⟨q1, q2⟩ := hR.inj (ρ k i).1 (ρ k i).2 k' i' (hne hk) (by show ol'.at_ k' i' ≠ none; rw [hat']; simp) hb
          exact hf (Prod.ext q1 q2)
  refine ⟨κ, ⟨hR.os, hR.tape, hR.output, hR.size, hR.block, fun k i sh c hk => ?_, fun k i k2 i2 hk hk2 he => ?_, fun k i hk => OL.has_of_at hk, hR.hI, hR.hM⟩, hV⟩
  · obtain ⟨c', e1, hss, hm⟩ := hl hk
    obtain ⟨cur, e, l1, l2, l3, l4, l5, l6, l7⟩ := hR.live _ _ sh c' e1
    exact ⟨cur, e, l1, by rw [← Mt_size hm]; exact l2, by rw [← Mt_size hm]; exact Mt_FL hV hm l3, hss, l5, l6, l7⟩
  · obtain ⟨q1, q2⟩ := hR.inj _ _ _ _ (hne hk) (hne hk2) he
    cases hq : ol.at_ k i with
    | none => exact absurd hq hk
    | some p =>
      cases hq2 : ol.at_ k2 i2 with
      | none => exact absurd hq2 hk2
      | some p2 => exact liveAll_at (liveAll_at h3 (sh := p.1) (c := p.2) hq) (sh := p2.1) (c := p2.2) hq2 (Prod.ext q1 q2)
theorem MtE_VR {V : Vw} {K' K : Kx} (hV : VwOk V K' K) {v v' : AV} {c : Value} (hm : MtE V v v') (h : VR K' v' c) : VR K v c := by
  unfold MtE at hm
  split at hm
  · trivial
  · exact Mt_VR hV hm h
theorem Emb.envR {ρ : Nat → Nat → Nat × Nat} {env' : Env} {ol' : OL} {env : Env} {ol : OL} (h : Emb ρ env' ol' env ol) {K' K : Kx} (hV : VwOk (vwOf ρ ol' ol) K' K) {tmps : Array Value} (hE : EnvR K' env' tmps) : EnvR K env tmps :=
  fun t => MtE_VR hV (envAll_get h.1 t trivial) (hE t)
theorem snd_emb {ρ : Nat → Nat → Nat × Nat} {env2 : Env} {ol2 : OL} {c : Code} (h : Emb ρ env ol env2 ol2) (hs : Snd P T N c env2 ol2 Q) : Snd P T N c env ol Q := by
  intro X κ a w hP hTT hR hE hN hD
  obtain ⟨κ2, hR2, hV⟩ := h.rel hR
  exact hs X κ2 a w hP hTT hR2 (h.envR hV hE) hN hD
def rnd {S : Type} (I : S → Env × OL) (Pr : S → Prop) (μ : S → Nat) (x : S) (Q : Exit → Env → OL → Prop) : Exit → Env → OL → Prop
  | .normal, env', ol' => ∃ x' ρ, Emb ρ env' ol' (I x').1 (I x').2 ∧ Pr x' ∧ μ x' < μ x
  | e, env', ol' => Q e env' ol'
theorem snd_loop {S : Type} {c : Code} (I : S → Env × OL) (Pr : S → Prop) (μ : S → Nat) (x0 : S) (ρ : Nat → Nat → Nat × Nat) (h0 : Emb ρ env ol (I x0).1 (I x0).2) (hp : Pr x0)
    (round : ∀ x, Pr x → Snd P T N c (I x).1 (I x).2 (rnd I Pr μ x Q)) : Snd P T N (.loop c) env ol Q := by
  refine snd_emb h0 ?_
  intro X κ a w hP hTT hR hE hN hD
  have key : ∀ n x, μ x = n → Pr x → ∀ (κ : Gh) (a : Act) (w : World), Rel X κ (I x).2.ob w → EnvR (KK X κ (I x).2.ob w) (I x).1 a.tmps → a.tmps.size = N → a.defers = [] →
      ∀ (b : Frame) (k : List Item) (cs : List Frame), ∃ e a' w', QQ X N Q e a' w' ∧ Arrives P (lone (b.at a (.code c :: .inLoop c :: k)) cs w) b k cs e a' w' := by
    intro n
    induction n using Nat.strongRecOn with
    | _ n ih =>
      intro x hx hpx κ a w hR hE hN hD b k cs
      obtain ⟨e, a1, w1, hq, harr⟩ := round x hpx X κ a w hP hTT hR hE hN hD b (.inLoop c :: k) cs
      obtain ⟨κ', env', ol', hq, hR', hE', hN', hD'⟩ := hq
      cases e with
      | normal =>
        obtain ⟨x', ρ', hemb, hpx', hlt⟩ := hq
        obtain ⟨κ2, hR2, hV⟩ := hemb.rel hR'
        obtain ⟨e2, a2, w2, hq2, harr2⟩ := ih (μ x') (hx ▸ hlt) x' rfl hpx' κ2 a1 w1 hR2 (hemb.envR hV hE') hN' hD' b k cs
        exact ⟨e2, a2, w2, hq2, .of_steps (Steps.trans harr (.one step_inLoop)) harr2⟩
      | exit id => exact ⟨_, a1, w1, ⟨κ', env', ol', hq, hR', hE', hN', hD'⟩, .pass (x := .inLoop c) rfl (fun _ _ => .inl (by simp)) harr⟩
      | goto l => exact ⟨_, a1, w1, ⟨κ', env', ol', hq, hR', hE', hN', hD'⟩, .pass (x := .inLoop c) rfl (fun _ _ => .inl (by simp)) harr⟩
      | ret => exact ⟨_, a1, w1, ⟨κ', env', ol', hq, hR', hE', hN', hD'⟩, .pass (x := .inLoop c) rfl (fun _ _ => .inl (by simp)) harr⟩
      | panic ch => exact ⟨_, a1, w1, ⟨κ', env', ol', hq, hR', hE', hN', hD'⟩, .pass (x := .inLoop c) rfl (fun _ _ => .inl (by simp)) harr⟩
      | outgrown => exact ⟨_, a1, w1, ⟨κ', env', ol', hq, hR', hE', hN', hD'⟩, .pass (x := .inLoop c) rfl (fun _ _ => .inl (by simp)) harr⟩
  intro b k cs
  obtain ⟨e, a', w', hq, harr⟩ := key _ x0 rfl hp κ a w hR hE hN hD b k cs
  exact ⟨e, a', w', hq, .of_steps (.one step_loop) harr⟩
def RetL (T : TT) : List ResultVar → Env → OL → (List AV → Prop) → Prop
  | [], _, _, K => K []
  | .tmp t :: r, env, ol, K => RetL T r env ol (fun vs => K (get env t :: vs))
  | .cell a ty :: r, env, ol, K => LoadW T ty (get env a) ol (fun v => RetL T r env ol (fun vs => K (v :: vs)))
def RetW (T : TT) (rs : List ResultVar) (env : Env) (ol : OL) (K : AV → Prop) : Prop :=
  RetL T rs env ol (fun vs => match vs with
    | [v] => K v
    | vs => K (.tup vs.length (fun i => vs.getD i .any)))
theorem load_run (hT : TOk P T) {t : TypeId} {v : AV} {K : AV → Prop} (h : LoadW T t v ol K) : ∃ u, K u ∧ ∀ (X : Cx) (κ : Gh) (w : World) (c : Value), X.P = P → X.T = T → Rel X κ ol.ob w → VR (KK X κ ol.ob w) v c →
    ∃ b o c', c = .pointer (some ⟨b, o, none⟩) ∧ (loadVar t ⟨b, o, none⟩).run P w = .ok c' w ∧ VR (KK X κ ol.ob w) u c' := by
  obtain ⟨ht, h⟩ := h
  split at h
  · rename_i u
    obtain ⟨h1, h2, h⟩ := h
    refine ⟨_, h, fun X κ w c hP hTT hR hv => ?_⟩
    obtain ⟨b, oo, seg, e1, hJ, hu, hs⟩ := VR_cptr hv
    obtain ⟨c', hrun, hvc⟩ := load_fin hT ht (K := KK X κ ol.ob w) rfl hu hs h1 h2
    exact ⟨b, oo, c', e1, hrun, hvc⟩
  · rename_i k i p oo root
    split at h
    · rename_i sh c hat
      obtain ⟨h1, h2, h⟩ := h
      refine ⟨_, h, fun X κ w cc hP hTT hR hv => ?_⟩
      obtain ⟨hd, e1, e2, e3, e4⟩ := hv
      have hsh : sh = root := by
        obtain ⟨_, _, _, _, _, _, l5, _⟩ := hR.live k i sh c hat
        exact l5.trans e4.symm
      subst hsh
      obtain ⟨seg, s1, s2⟩ := live_seg hR (show ol.ob.at_ k i = some (sh, c) from hat) e3
      rw [← e2] at s2
      obtain ⟨c', hrun, hvc⟩ := load_fin hT ht (K := KK X κ ol.ob w) rfl s1 s2 h1 h2
      exact ⟨_, oo, c', e1, hrun, hvc⟩
    · exact h.elim
  · exact h.elim
def resGo (tmps : Array Value) : ResultVar → Sem Value
  | ResultVar.tmp t => pure (tmps.getD t undef)
  | ResultVar.cell a t => do loadVar t (← asAddr (tmps.getD a undef))
theorem RetL_run (hT : TOk P T) : ∀ (rs : List ResultVar) (K : List AV → Prop), RetL T rs env ol K → ∃ vs, K vs ∧ ∀ (X : Cx) (κ : Gh) (w : World) (tmps : Array Value), X.P = P → X.T = T → Rel X κ ol.ob w → EnvR (KK X κ ol.ob w) env tmps →
    ∃ cs : List Value, (rs.mapM (resGo tmps)).run P w = Result.ok cs w ∧ cs.length = vs.length ∧ ∀ i, i < vs.length → VR (KK X κ ol.ob w) (vs.getD i .any) (cs.getD i undef)
  | [], K, h => ⟨[], h, fun X κ w tmps _ _ _ _ => ⟨[], rfl, rfl, fun i hi => by simp at hi⟩⟩
  | .tmp t :: r, K, h => by
    obtain ⟨vs, h1, h2⟩ := RetL_run hT r _ h
    refine ⟨_, h1, fun X κ w tmps hP hTT hR hE => ?_⟩
    obtain ⟨cs, q1, q2, q3⟩ := h2 X κ w tmps hP hTT hR hE
    refine ⟨tmps.getD t undef :: cs, ?_, by simp [q2], fun i hi => ?_⟩
    · simp only [List.mapM_cons, resGo, Sem.run_bind, Sem.run_pure, Result.andThen_ok, q1]
    · cases i with
      | zero => exact hE t
      | succ i => simpa using q3 i (by simpa using hi)
  | .cell a ty :: r, K, h => by
    obtain ⟨u, h1, hl⟩ := load_run hT h
    obtain ⟨vs, h1, h2⟩ := RetL_run hT r _ h1
    refine ⟨_, h1, fun X κ w tmps hP hTT hR hE => ?_⟩
    obtain ⟨cs, q1, q2, q3⟩ := h2 X κ w tmps hP hTT hR hE
    obtain ⟨b, o, c', e1, hrun, hvc⟩ := hl X κ w _ hP hTT hR (hE a)
    refine ⟨c' :: cs, ?_, by simp [q2], fun i hi => ?_⟩
    · simp only [List.mapM_cons, resGo, Sem.run_bind, e1, asAddr, Sem.run_pure, Result.andThen_ok, hrun, q1]
    · cases i with
      | zero => exact hvc
      | succ i => simpa using q3 i (by simpa using hi)
theorem results_run {fn : Func} {w : World} {tmps : Array Value} {cs : List Value} (hc : (fn.results.toList.mapM (resGo tmps)).run P w = Result.ok cs w) :
    (results fn tmps).run P w = Result.ok (if h : cs.toArray.size = 1 then cs.toArray[0] else .tuple cs.toArray) w := by
  have e : results fn tmps = (do
      let vs ← fn.results.mapM (resGo tmps)
      pure (if h : vs.size = 1 then vs[0] else .tuple vs)) := by
    unfold results
    congr 1
  rw [e, Array.mapM_eq_mapM_toList]
  simp only [Sem.run_bind, Sem.run_map]
  rw [hc]
  rfl
theorem RetW_run (hT : TOk P T) {fn : Func} {K : AV → Prop} (h : RetW T fn.results.toList env ol K) : ∃ v, K v ∧ ∀ (X : Cx) (κ : Gh) (w : World) (tmps : Array Value), X.P = P → X.T = T → Rel X κ ol.ob w → EnvR (KK X κ ol.ob w) env tmps →
    ∃ c, (results fn tmps).run P w = Result.ok c w ∧ VR (KK X κ ol.ob w) v c := by
  obtain ⟨vs, h1, h2⟩ := RetL_run hT _ _ h
  match vs, h1 with
  | [v], h1 =>
    refine ⟨v, h1, fun X κ w tmps hP hTT hR hE => ?_⟩
    obtain ⟨cs, q1, q2, q3⟩ := h2 X κ w tmps hP hTT hR hE
    match cs, q1, q2, q3 with
    | [c], q1, _, q3 => exact ⟨c, by rw [results_run q1]; rfl, q3 0 (by simp)⟩
  | [], h1 =>
    refine ⟨_, h1, fun X κ w tmps hP hTT hR hE => ?_⟩
    obtain ⟨cs, q1, q2, q3⟩ := h2 X κ w tmps hP hTT hR hE
    match cs, q1, q2 with
    | [], q1, _ => exact ⟨.tuple #[], by rw [results_run q1]; rfl, #[], rfl, rfl, fun i hi => by simp at hi⟩
  | v1 :: v2 :: r, h1 =>
    refine ⟨_, h1, fun X κ w tmps hP hTT hR hE => ?_⟩
    obtain ⟨cs, q1, q2, q3⟩ := h2 X κ w tmps hP hTT hR hE
    refine ⟨.tuple cs.toArray, ?_, cs.toArray, rfl, by simpa using q2, fun i hi => ?_⟩
    · rw [results_run q1, dif_neg (by simp [q2])]
    · have := q3 i hi
      simpa using this
def argsEnv : Nat → List AV → Env
  | _, [] => []
  | i, a :: r => (i, a) :: argsEnv (i + 1) r
theorem argsEnv_ok {K : Kx} : ∀ (ars : List AV) (cs : List Value) (s : Nat) (t : Nat), VRs K ars cs → VR K (get (argsEnv s ars) t) (if s ≤ t then cs.getD (t - s) undef else undef)
  | [], _, _, _, _ => trivial
  | a :: ars, [], _, _, h => h.elim
  | a :: ars, c :: cs, s, t, h => by
    simp only [argsEnv, get]
    by_cases ht : t = s
    · subst ht
      simp only [Nat.beq_refl, cond_true]
      simpa using h.1
    · simp only [beq_ff ht, cond_false]
      have := argsEnv_ok ars cs (s + 1) t h.2
      by_cases hle : s ≤ t
      · rw [if_pos hle]
        rw [if_pos (by omega)] at this
        rw [show t - s = (t - (s + 1)) + 1 from by omega]
        simpa using this
      · rw [if_neg hle]
        rwa [if_neg (by omega)] at this
def retQ (T : TT) (rs : List ResultVar) (r : AV) (H : OL) : Exit → Env → OL → Prop
  | .normal, env, ol => RetW T rs env ol (fun v => ∃ ρ, Emb ρ [(0, v)] ol [(0, r)] H)
  | .ret, env, ol => RetW T rs env ol (fun v => ∃ ρ, Emb ρ [(0, v)] ol [(0, r)] H)
  | _, _, _ => False
theorem acalls_of (hT : TOk P T) {f : FuncId} {fn : Func} {c : Code} {ars : List AV} {r : AV} {H : OL} (hf : P.funcs[f]? = some fn) (hb : fn.body = some c) (hname : (fn.name == "runtime.NumGoroutine") = false)
    (hN : ars.length ≤ fn.ntmps) (h : Snd P T fn.ntmps c (argsEnv 0 ars) [] (retQ T fn.results.toList r H)) : ACalls P T f ars r H := by
  refine ⟨fun args w => ?_, fun w I cs hI hvs => ?_⟩
  · have hb' : fn.body.isNone = false := by rw [hb]; rfl
    have hb2 : fn.body.isNone = true ↔ False := by rw [hb']; simp
    have hn2 : ¬ fn.name = "runtime.NumGoroutine" := by simpa using hname
    simp [callFunc, hf, hn2, hb]
  · have hlen : ∀ (ars : List AV) (cs : List Value) (K : Kx), VRs K ars cs → cs.length = ars.length := by
      intro ars
      induction ars with
      | nil => intro cs K h; cases cs with
        | nil => rfl
        | cons => exact h.elim
      | cons a ars ih => intro cs K h; cases cs with
        | nil => exact h.elim
        | cons c cs => simp [ih cs K h.2]
    have hl := hlen ars cs _ hvs
    refine calls_of_wp hf hb ?_
    have hR : Rel ⟨P, T, w, I, fun _ => False⟩ ⟨fun _ _ => 0, fun _ _ => .any⟩ (OL.ob []) w :=
      ⟨rfl, rfl, rfl, Nat.le_refl _, fun _ _ _ => rfl, fun k i sh c hc => (by cases hc), fun k i _ _ hk => absurd rfl hk, fun k i hk => absurd rfl hk, fun b hb => ⟨hI b hb, fun h => h⟩, fun b hb => hb.elim⟩
    have hle : Le (K0 T I w) (KK ⟨P, T, w, I, fun _ => False⟩ ⟨fun _ _ => 0, fun _ _ => .any⟩ (OL.ob []) w) :=
      ⟨fun b hb => ⟨⟨.inl hb, fun k i hk => absurd rfl hk⟩, rfl⟩, fun k hk => hk.elim, fun k i hk => hk.elim, fun b cur e fr hb => ⟨cur, fr, hb, rfl⟩, rfl, rfl⟩
    refine wp_mono (h ⟨P, T, w, I, fun _ => False⟩ _ _ w rfl rfl hR (fun t => ?_) ?_ rfl) ?_
    · have := VR_mono hle (argsEnv_ok ars cs 0 t hvs)
      rw [if_pos (Nat.zero_le _), Nat.sub_zero] at this
      have e : (cs.toArray ++ Array.replicate (fn.ntmps - cs.toArray.size) undef).getD t undef = cs.getD t undef := by
        simp only [Array.getD_eq_getD_getElem?, List.getD_eq_getElem?_getD]
        rw [Array.getElem?_append]
        split
        · simp
        · rename_i hge
          rw [List.getElem?_eq_none (by simpa using hge)]
          rw [Array.getElem?_replicate]
          split <;> rfl
      rw [e]
      exact this
    · simp only [Array.size_append, List.size_toArray, Array.size_replicate]
      omega
    · rintro ex a' w' ⟨κ', env', ol', hq, hR', hE', hN', hD'⟩
      have fin : RetW T fn.results.toList env' ol' (fun v => ∃ ρ, Emb ρ [(0, v)] ol' [(0, r)] H) → a'.defers = [] ∧ ∃ v, (results fn a'.tmps).run P w' = .ok v w' ∧ (∃ c κ, Ending.returned v = .returned c ∧ Rel ⟨P, T, w, I, fun _ => False⟩ κ H.ob w' ∧ VR (KK ⟨P, T, w, I, fun _ => False⟩ κ H.ob w') r c) := by
        intro hret
        obtain ⟨v, ⟨ρ, hemb⟩, hrun⟩ := RetW_run hT hret
        obtain ⟨c, h1, h2⟩ := hrun _ κ' w' a'.tmps rfl rfl hR' hE'
        obtain ⟨κ2, hR2, hV⟩ := hemb.rel hR'
        refine ⟨hD', c, h1, c, κ2, rfl, hR2, ?_⟩
        exact MtE_VR hV hemb.1.1 h2
      cases ex with
      | normal => exact fin hq
      | ret => exact fin hq
      | _ => exact hq.elim
end
end Go.Am

