/- Part 2 of what the law stands on: abstract values, their walk, contracts of functions. My own work. Conditions: none. -/
import Derived.Test.YtadeodcgnbmpnaaPart1
import Derived.ChangeSlices
import Derived.Laws.Externs
import Derived.Lib.Bytealg
set_option linter.unusedVariables false
set_option linter.unusedSimpArgs false
namespace Go.Am
def allP (F : Nat → Prop) : List Nat → Prop
  | [] => True
  | k :: r => F k ∧ allP F r
theorem allP_mem {F : Nat → Prop} : ∀ {l : List Nat}, allP F l → ∀ k, k ∈ l → F k
  | a :: r, h, k, hk => by
    rcases List.mem_cons.1 hk with rfl | hk
    · exact h.1
    · exact allP_mem h.2 k hk
structure PinOk (ks : List Nat) (κ0 : Gh) (X : Cx) (κ : Gh) (ol : OL) (w : World) : Prop where
  has : ∀ k, k ∈ ks → ol.has k = true
  blk : ∀ k, k ∈ ks → ∀ i, κ.blk k i = κ0.blk k i ∧ κ.shp k i = κ0.shp k i
  size : ∀ (b : Nat) cur e fr, X.w0.heap[b]? = some (.cells cur e fr) → ∃ cur' fr', w.heap[b]? = some (.cells cur' e fr') ∧ cur'.size = cur.size
section
variable {ks : List Nat} {κ0 : Gh} {X : Cx}
theorem PinOk.le {κ κ' : Gh} {ol ol' : OL} {w w' : World} (h : PinOk ks κ0 X κ ol w) (hle : Le (KK X κ ol.ob w) (KK X κ' ol'.ob w')) : PinOk ks κ0 X κ' ol' w' where
  has := fun k hk => hle.dom k (h.has k hk)
  blk := fun k hk i => ⟨((hle.blk k i (h.has k hk)).1).trans (h.blk k hk i).1, ((hle.blk k i (h.has k hk)).2).trans (h.blk k hk i).2⟩
  size := fun b cur e fr hb => by
    obtain ⟨c1, f1, h1, e1⟩ := h.size b cur e fr hb
    obtain ⟨c2, f2, h2, e2⟩ := hle.size b c1 e f1 h1
    exact ⟨c2, f2, h2, e2.trans e1⟩
def pins (ks : List Nat) (ρ : Nat → Nat → Nat × Nat) (ol : OL) : Prop := allP (fun k => (∀ i, ρ k i = (k, i)) ∧ ol.has k = true) ks
theorem PinOk.emb {κ κ' : Gh} {ol ol' : OL} {w : World} {ρ : Nat → Nat → Nat × Nat} (h : PinOk ks κ0 X κ' ol' w) (hp : pins ks ρ ol) (hV : VwOk (vwOf ρ ol' ol) (KK X κ' ol'.ob w) (KK X κ ol.ob w)) : PinOk ks κ0 X κ ol w where
  has := fun k hk => (allP_mem hp k hk).2
  blk := fun k hk i => ⟨((hV.blk k i k i ((allP_mem hp k hk).1 i)).1).trans (h.blk k hk i).1, ((hV.blk k i k i ((allP_mem hp k hk).1 i)).2).trans (h.blk k hk i).2⟩
  size := h.size
end
def QQp (ks : List Nat) (κ0 : Gh) (X : Cx) (N : Nat) (Q : Exit → Env → OL → Prop) : Exit → Act → World → Prop := fun ex a w =>
  ∃ κ env ol, Q ex env ol ∧ Rel X κ ol.ob w ∧ EnvR (KK X κ ol.ob w) env a.tmps ∧ a.tmps.size = N ∧ a.defers = [] ∧ PinOk ks κ0 X κ ol w
section
variable {P : Program} {T : TT} {ks : List Nat}
theorem WOps_soundp (hT : TOk P T) (arr : Array Oper) {N : Nat} {κ0 : Gh} {Q : Exit → Env → OL → Prop} : ∀ (ops : List Oper) (env : Env) (ol : OL), WOps P T arr ops env ol (fun env' ol' => Q .normal env' ol') → dstOk N ops = true →
    ∀ (X : Cx) (κ : Gh) (a : Act) (w : World), X.P = P → X.T = T → Rel X κ ol.ob w → EnvR (KK X κ ol.ob w) env a.tmps → a.tmps.size = N → a.defers = [] → PinOk ks κ0 X κ ol w → wpList P arr (QQp ks κ0 X N Q) ops a w
  | [], env, ol, h, _, X, κ, a, w, hP, hTT, hR, hE, hN, hD, hp => ⟨κ, env, ol, h, hR, hE, hN, hD, hp⟩
  | o :: r, env, ol, h, hdst, X, κ, a, w, hP, hTT, hR, hE, hN, hD, hp => by
    simp only [dstOk, List.all_cons, Bool.and_eq_true] at hdst
    have hlt : ∀ t, o.dst = some t → t < a.tmps.size := fun t ht => by
      have := hdst.1
      rw [ht] at this
      rw [hN]; simpa [Nat.blt_eq] using this
    have run : WOp P T o (evE env) ol (fun v ol' => WOps P T arr r (putE o.dst v env) ol' (fun env' ol' => Q .normal env' ol')) → o.wp P a w (wpList P arr (QQp ks κ0 X N Q) r) (QQp ks κ0 X N Q) := by
      intro hw
      obtain ⟨v, ol', h1, h2⟩ := WOp_out hT hw
      have := h2 X κ w a hP hTT hR hE
      unfold Oper.wp
      rw [← hP]
      rw [← hP] at this
      refine upon_of_Out this (fun c w' κ' hR' hv hle => ?_)
      rw [hP]
      exact WOps_soundp hT arr r _ ol' h1 hdst.2 X κ' _ w' hP hTT hR' ((hE.mono hle).put hv hlt) (by rw [Act.put_size]; exact hN) (by rw [Act.put_defers]; exact hD) (hp.le hle)
    have skip : WOps P T arr r (putE o.dst undA env) ol (fun env' ol' => Q .normal env' ol') → wpList P arr (QQp ks κ0 X N Q) r (a.put o.dst undef) w := fun hw =>
      WOps_soundp hT arr r _ ol hw hdst.2 X κ _ w hP hTT hR (hE.put (undA_ok _) hlt) (by rw [Act.put_size]; exact hN) (by rw [Act.put_defers]; exact hD) hp
    unfold WOps at h
    unfold wpList
    split at h
    · rename_i hg
      rw [if_pos (by simp [Region.wanted, hg])]
      exact .inl (run h)
    · rename_i j want hg
      split at h
      · rename_i d hd
        split at h
        · rename_i b hb
          have hy := yielded_of hd hE hb (dst_lt_of_eq hE hb)
          split at h
          · rename_i hbw
            have : b = want := by simpa using hbw
            subst this
            rw [if_pos (by simp [Region.wanted, hg, hy])]
            exact .inl (run h)
          · rename_i hbw
            have : b ≠ want := by simpa using hbw
            rw [if_neg (by simp [Region.wanted, hg, hy, this])]
            exact skip h
        · rename_i f hb
          have hy := yielded_none hd hE hb
          rw [if_neg (by simp [Region.wanted, hg, hy])]
          exact skip h
        · exact h.elim
      · exact h.elim
def Snp (ks : List Nat) (P : Program) (T : TT) (N : Nat) (c : Code) (env : Env) (ol : OL) (Q : Exit → Env → OL → Prop) : Prop :=
  ∀ (κ0 : Gh) (X : Cx) (κ : Gh) (a : Act) (w : World), X.P = P → X.T = T → Rel X κ ol.ob w → EnvR (KK X κ ol.ob w) env a.tmps → a.tmps.size = N → a.defers = [] → PinOk ks κ0 X κ ol w → c.wp P (QQp ks κ0 X N Q) a w
variable {N : Nat} {env : Env} {ol : OL} {Q : Exit → Env → OL → Prop}
theorem snp_skip (h : Q .normal env ol) : Snp ks P T N .skip env ol Q := fun κ0 X κ a w hP hTT hR hE hN hD hp => wp_skip ⟨κ, env, ol, h, hR, hE, hN, hD, hp⟩
theorem snp_exit {id : Nat} (h : Q (.exit id) env ol) : Snp ks P T N (.exit id) env ol Q := fun κ0 X κ a w hP hTT hR hE hN hD hp => wp_exit ⟨κ, env, ol, h, hR, hE, hN, hD, hp⟩
theorem snp_ret (h : Q .ret env ol) : Snp ks P T N .ret env ol Q := fun κ0 X κ a w hP hTT hR hE hN hD hp => wp_ret ⟨κ, env, ol, h, hR, hE, hN, hD, hp⟩
def thnp (ks : List Nat) (P : Program) (T : TT) (N : Nat) (y : Code) (Q : Exit → Env → OL → Prop) : Exit → Env → OL → Prop
  | .normal, env, ol => Snp ks P T N y env ol Q
  | e, env, ol => Q e env ol
theorem snp_seq {x y : Code} (h : Snp ks P T N x env ol (thnp ks P T N y Q)) : Snp ks P T N (.seq x y) env ol Q := by
  intro κ0 X κ a w hP hTT hR hE hN hD hp
  refine wp_seq (wp_mono (h κ0 X κ a w hP hTT hR hE hN hD hp) ?_)
  rintro ex a' w' ⟨κ', env', ol', hq, hR', hE', hN', hD', hp'⟩
  cases ex with
  | normal => exact hq κ0 X κ' a' w' hP hTT hR' hE' hN' hD' hp'
  | _ => exact ⟨κ', env', ol', hq, hR', hE', hN', hD', hp'⟩
theorem snp_region (hT : TOk P T) {id : Nat} {ops : Array Oper} (hd : dstOk N ops.toList = true) (h : WOps P T ops ops.toList env ol (fun env' ol' => Q .normal env' ol')) : Snp ks P T N (.region id ops false) env ol Q :=
  fun κ0 X κ a w hP hTT hR hE hN hD hp => wp_region_list (WOps_soundp hT ops ops.toList env ol h hd X κ a w hP hTT hR hE hN hD hp)
theorem snp_cond_true {c : Operand} {x y : Code} (hc : evE env c = .bool true) (h : Snp ks P T N x env ol Q) : Snp ks P T N (.cond c x y) env ol Q := by
  intro κ0 X κ a w hP hTT hR hE hN hD hp
  have := hE.ev c
  rw [hc] at this
  exact wp_cond_true (VR_bool this) (h κ0 X κ a w hP hTT hR hE hN hD hp)
theorem snp_cond_false {c : Operand} {x y : Code} (hc : evE env c = .bool false) (h : Snp ks P T N y env ol Q) : Snp ks P T N (.cond c x y) env ol Q := by
  intro κ0 X κ a w hP hTT hR hE hN hD hp
  have := hE.ev c
  rw [hc] at this
  exact wp_cond_false (VR_bool this) (h κ0 X κ a w hP hTT hR hE hN hD hp)
theorem snp_cond {c : Operand} {x y : Code} (b : Bool) (hc : evE env c = .bool b) (ht : b = true → Snp ks P T N x env ol Q) (hf : b = false → Snp ks P T N y env ol Q) : Snp ks P T N (.cond c x y) env ol Q := by
  cases b
  · exact snp_cond_false hc (hf rfl)
  · exact snp_cond_true hc (ht rfl)
theorem snp_block {id : Nat} {c : Code} (h : Snp ks P T N c env ol (inB id Q)) : Snp ks P T N (.block id c) env ol Q := by
  intro κ0 X κ a w hP hTT hR hE hN hD hp
  refine wp_block (wp_mono (h κ0 X κ a w hP hTT hR hE hN hD hp) ?_)
  rintro ex a' w' ⟨κ', env', ol', hq, hR', hE', hN', hD', hp'⟩
  cases ex with
  | exit id' =>
    simp only [Exit.inBlock]
    simp only [inB] at hq
    by_cases hid : id' = id
    · subst hid
      rw [if_pos rfl]
      simp only [Nat.beq_refl, cond_true] at hq
      exact ⟨κ', env', ol', hq, hR', hE', hN', hD', hp'⟩
    · rw [if_neg hid]
      simp only [beq_ff hid, cond_false] at hq
      exact ⟨κ', env', ol', hq, hR', hE', hN', hD', hp'⟩
  | _ => exact ⟨κ', env', ol', hq, hR', hE', hN', hD', hp'⟩
theorem snp_emb {ρ : Nat → Nat → Nat × Nat} {env2 : Env} {ol2 : OL} {c : Code} (h : Emb ρ env ol env2 ol2) (hpi : pins ks ρ ol2) (hs : Snp ks P T N c env2 ol2 Q) : Snp ks P T N c env ol Q := by
  intro κ0 X κ a w hP hTT hR hE hN hD hp
  obtain ⟨κ2, hR2, hV⟩ := h.rel hR
  exact hs κ0 X κ2 a w hP hTT hR2 (h.envR hV hE) hN hD (hp.emb hpi hV)
def rndp (ks : List Nat) {S : Type} (I : S → Env × OL) (Pr : S → Prop) (μ : S → Nat) (x : S) (Q : Exit → Env → OL → Prop) : Exit → Env → OL → Prop
  | .normal, env', ol' => ∃ x' ρ, (Emb ρ env' ol' (I x').1 (I x').2 ∧ pins ks ρ (I x').2) ∧ Pr x' ∧ μ x' < μ x
  | e, env', ol' => Q e env' ol'
theorem snp_loop {S : Type} {c : Code} (I : S → Env × OL) (Pr : S → Prop) (μ : S → Nat) (x0 : S) (ρ : Nat → Nat → Nat × Nat) (h0 : Emb ρ env ol (I x0).1 (I x0).2 ∧ pins ks ρ (I x0).2) (hp : Pr x0)
    (round : ∀ x, Pr x → Snp ks P T N c (I x).1 (I x).2 (rndp ks I Pr μ x Q)) : Snp ks P T N (.loop c) env ol Q := by
  refine snp_emb h0.1 h0.2 ?_
  intro κ0 X κ a w hP hTT hR hE hN hD hpin
  have key : ∀ n x, μ x = n → Pr x → ∀ (κ : Gh) (a : Act) (w : World), Rel X κ (I x).2.ob w → EnvR (KK X κ (I x).2.ob w) (I x).1 a.tmps → a.tmps.size = N → a.defers = [] → PinOk ks κ0 X κ (I x).2 w →
      ∀ (b : Frame) (k : List Item) (cs : List Frame), ∃ e a' w', QQp ks κ0 X N Q e a' w' ∧ Arrives P (lone (b.at a (.code c :: .inLoop c :: k)) cs w) b k cs e a' w' := by
    intro n
    induction n using Nat.strongRecOn with
    | _ n ih =>
      intro x hx hpx κ a w hR hE hN hD hpin b k cs
      obtain ⟨e, a1, w1, hq, harr⟩ := round x hpx κ0 X κ a w hP hTT hR hE hN hD hpin b (.inLoop c :: k) cs
      obtain ⟨κ', env', ol', hq, hR', hE', hN', hD', hpin'⟩ := hq
      cases e with
      | normal =>
        obtain ⟨x', ρ', ⟨hemb, hpi⟩, hpx', hlt⟩ := hq
        obtain ⟨κ2, hR2, hV⟩ := hemb.rel hR'
        obtain ⟨e2, a2, w2, hq2, harr2⟩ := ih (μ x') (hx ▸ hlt) x' rfl hpx' κ2 a1 w1 hR2 (hemb.envR hV hE') hN' hD' (hpin'.emb hpi hV) b k cs
        exact ⟨e2, a2, w2, hq2, .of_steps (Steps.trans harr (.one step_inLoop)) harr2⟩
      | exit id => exact ⟨_, a1, w1, ⟨κ', env', ol', hq, hR', hE', hN', hD', hpin'⟩, .pass (x := .inLoop c) rfl (fun _ _ => .inl (by simp)) harr⟩
      | goto l => exact ⟨_, a1, w1, ⟨κ', env', ol', hq, hR', hE', hN', hD', hpin'⟩, .pass (x := .inLoop c) rfl (fun _ _ => .inl (by simp)) harr⟩
      | ret => exact ⟨_, a1, w1, ⟨κ', env', ol', hq, hR', hE', hN', hD', hpin'⟩, .pass (x := .inLoop c) rfl (fun _ _ => .inl (by simp)) harr⟩
      | panic ch => exact ⟨_, a1, w1, ⟨κ', env', ol', hq, hR', hE', hN', hD', hpin'⟩, .pass (x := .inLoop c) rfl (fun _ _ => .inl (by simp)) harr⟩
      | outgrown => exact ⟨_, a1, w1, ⟨κ', env', ol', hq, hR', hE', hN', hD', hpin'⟩, .pass (x := .inLoop c) rfl (fun _ _ => .inl (by simp)) harr⟩
  intro b k cs
  obtain ⟨e, a', w', hq, harr⟩ := key _ x0 rfl hp κ a w hR hE hN hD hpin b k cs
  exact ⟨e, a', w', hq, .of_steps (.one step_loop) harr⟩
structure MCalls (P : Program) (T : TT) (f : FuncId) (ks : List Nat) (ars : List AV) (ol0 : OL) (r : AV) (ol1 : OL) : Prop where
  ent : Ent P f
  go : ∀ (X : Cx) (κ : Gh) (w : World) (cs : List Value), X.P = P → X.T = T → X.w0 = w → Rel X κ ol0.ob w → VRs (KK X κ ol0.ob w) ars cs →
    Calls P f cs.toArray w (fun e w' => ∃ c κ', e = .returned c ∧ Rel X κ' ol1.ob w' ∧ VR (KK X κ' ol1.ob w') r c ∧ PinOk ks κ X κ' ol1 w')
def retQp (ks : List Nat) (T : TT) (rs : List ResultVar) (r : AV) (H : OL) : Exit → Env → OL → Prop
  | .normal, env, ol => RetW T rs env ol (fun v => ∃ ρ, Emb ρ [(0, v)] ol [(0, r)] H ∧ pins ks ρ H)
  | .ret, env, ol => RetW T rs env ol (fun v => ∃ ρ, Emb ρ [(0, v)] ol [(0, r)] H ∧ pins ks ρ H)
  | _, _, _ => False
theorem mcalls_of (hT : TOk P T) {f : FuncId} {fn : Func} {c : Code} {ars : List AV} {r : AV} {ol0 H : OL} (hf : P.funcs[f]? = some fn) (hb : fn.body = some c) (hname : (fn.name == "runtime.NumGoroutine") = false)
    (hN : ars.length ≤ fn.ntmps) (hk : allP (fun k => ol0.has k = true) ks) (h : Snp ks P T fn.ntmps c (argsEnv 0 ars) ol0 (retQp ks T fn.results.toList r H)) : MCalls P T f ks ars ol0 r H := by
  refine ⟨fun args w => ?_, fun X κ w cs hP hTT hw0 hR hvs => ?_⟩
  · have hn2 : ¬ fn.name = "runtime.NumGoroutine" := by simpa using hname
    simp [callFunc, hf, hn2, hb]
  · have hlen : ∀ (ars : List AV) (cs : List Value) (K : Kx), VRs K ars cs → cs.length = ars.length := by
      intro ars
      induction ars with
      | nil => intro cs K h; cases cs with
        | nil => rfl
        | cons => exact h.elim
      | cons a ars ih => intro cs K h; cases cs with
        | nil => exact h.elim
        | cons c cs => simp [ih cs K h.2]
    have hl := hlen ars cs _ hvs
    refine calls_of_wp hf hb ?_
    have hp0 : PinOk ks κ X κ ol0 w := ⟨fun k hk' => allP_mem hk k hk', fun _ _ _ => ⟨rfl, rfl⟩, fun b cur e fr hb => ⟨cur, fr, by rw [← hw0]; exact hb, rfl⟩⟩
    refine wp_mono (h κ X κ _ w hP hTT hR (fun t => ?_) ?_ rfl hp0) ?_
    · have := argsEnv_ok ars cs 0 t hvs
      rw [if_pos (Nat.zero_le _), Nat.sub_zero] at this
      have e : (cs.toArray ++ Array.replicate (fn.ntmps - cs.toArray.size) undef).getD t undef = cs.getD t undef := by
        simp only [Array.getD_eq_getD_getElem?, List.getD_eq_getElem?_getD]
        rw [Array.getElem?_append]
        split
        · simp
        · rename_i hge
          rw [List.getElem?_eq_none (by simpa using hge)]
          rw [Array.getElem?_replicate]
          split <;> rfl
      rw [e]
      exact this
    · simp only [Array.size_append, List.size_toArray, Array.size_replicate]
      omega
    · rintro ex a' w' ⟨κ', env', ol', hq, hR', hE', hN', hD', hp'⟩
      have fin : RetW T fn.results.toList env' ol' (fun v => ∃ ρ, Emb ρ [(0, v)] ol' [(0, r)] H ∧ pins ks ρ H) → a'.defers = [] ∧ ∃ v, (results fn a'.tmps).run P w' = .ok v w' ∧ (∃ c κ', Ending.returned v = .returned c ∧ Rel X κ' H.ob w' ∧ VR (KK X κ' H.ob w') r c ∧ PinOk ks κ X κ' H w') := by
        intro hret
        obtain ⟨v, ⟨ρ, hemb, hpi⟩, hrun⟩ := RetW_run hT hret
        obtain ⟨c, h1, h2⟩ := hrun _ κ' w' a'.tmps hP hTT hR' hE'
        obtain ⟨κ2, hR2, hV⟩ := hemb.rel hR'
        refine ⟨hD', c, h1, c, κ2, rfl, hR2, ?_, hp'.emb hpi hV⟩
        exact MtE_VR hV hemb.1.1 h2
      cases ex with
      | normal => exact fin hq
      | ret => exact fin hq
      | _ => exact hq.elim
end
end Go.Am

set_option linter.unusedVariables false
set_option linter.unusedSimpArgs false
namespace Go.Am
def AV.inner (D : Nat → Bool) : AV → Prop
  | .arr _ f => ∀ i, (f i).inner D
  | .sct _ f => ∀ i, (f i).inner D
  | .tup _ f => ∀ i, (f i).inner D
  | .own k _ _ _ => D k = true
  | .cptr _ => False
  | .ro _ _ => False
  | .ptr _ _ _ _ _ => False
  | .fn _ n _ => n = 0
  | _ => True
structure SameD (D : Nat → Bool) (K K' : Kx) : Prop where
  heap : K'.heap = K.heap
  dom : ∀ k, D k = true → K'.dom k
  blk : ∀ k, D k = true → ∀ i, K'.blk k i = K.blk k i ∧ K'.shp k i = K.shp k i
  sz : K'.sz = K.sz
  zr : K'.zr = K.zr
theorem ownR_same {D : Nat → Bool} {K K' : Kx} (h : SameD D K K') {k i n : Nat} {e : TypeId} {c : Value} (hk : D k = true) (ho : K.ownR k i n e c) : K'.ownR k i n e c := by
  obtain ⟨_, hn, cap, cur, fr, rfl, h1, h2, h3, h4⟩ := ho
  obtain ⟨b1, b2⟩ := h.blk k hk i
  exact ⟨h.dom k hk, by rw [b2, h.zr]; exact hn, cap, cur, fr, by rw [b1], h1, h2, by rw [b1, h.heap]; exact h3, by rw [h.sz]; exact h4⟩
theorem FL_inner {D : Nat → Bool} {K K' : Kx} (h : SameD D K K') : ∀ {v : AV} {cs : List Value}, v.inner D → FL K v cs → FL K' v cs := by
  intro v
  induction v with
  | arr n f ih =>
    rintro cs hv ⟨g, rfl, hg⟩
    exact ⟨g, rfl, fun i hi => ⟨ih i (hv i) (hg i hi).1, (hg i hi).2⟩⟩
  | sct n f ih =>
    rintro cs hv ⟨g, rfl, hg⟩
    exact ⟨g, rfl, fun i hi => ih i (hv i) (hg i hi)⟩
  | own k i n e => rintro cs hv ⟨c, rfl, hc⟩; exact ⟨c, rfl, ownR_same h hv hc⟩
  | cptr v ih => intro cs hv; exact hv.elim
  | ro n f ih => intro cs hv; exact hv.elim
  | fn q n caps ih =>
    rintro cs hv ⟨cv, rfl, h1, h2⟩
    have hn : n = 0 := hv
    subst hn
    exact ⟨cv, rfl, h1, fun i hi => absurd hi (Nat.not_lt_zero _)⟩
  | tup n f _ => intro cs _ h; exact h.elim
  | ptr k i p o r _ => intro cs _ h; exact h.elim
  | _ => intro cs _ h; exact h
theorem VR_inner {D : Nat → Bool} {K K' : Kx} (h : SameD D K K') : ∀ {v : AV} {c : Value}, v.inner D → VR K v c → VR K' v c := by
  intro v
  induction v with
  | arr n f ih => rintro c hv ⟨cs, rfl, hc⟩; exact ⟨cs, rfl, FL_inner (v := .arr n f) h hv hc⟩
  | sct n f ih => rintro c hv ⟨cs, rfl, hc⟩; exact ⟨cs, rfl, FL_inner (v := .sct n f) h hv hc⟩
  | tup n f ih => rintro c hv ⟨vs, rfl, h1, h2⟩; exact ⟨vs, rfl, h1, fun i hi => ih i (hv i) (h2 i hi)⟩
  | fn q n caps ih =>
    rintro c hv ⟨cv, rfl, h1, h2⟩
    have hn : n = 0 := hv
    subst hn
    exact ⟨cv, rfl, h1, fun i hi => absurd hi (Nat.not_lt_zero _)⟩
  | ptr => intro c hv; exact hv.elim
  | cptr => intro c hv; exact hv.elim
  | ro => intro c hv; exact hv.elim
  | any => intro c _ _; trivial
  | own k i n e => intro c hv hc; exact FL_inner (v := .own k i n e) h hv hc
  | _ => intro c _ hc; exact hc
def innerL (D : Nat → Bool) : List AV → Prop
  | [] => True
  | a :: r => a.inner D ∧ innerL D r
theorem VRs_inner {D : Nat → Bool} {K K' : Kx} (h : SameD D K K') : ∀ {ars : List AV} {cs : List Value}, innerL D ars → VRs K ars cs → VRs K' ars cs
  | [], [], _, _ => trivial
  | [], _ :: _, _, h2 => h2.elim
  | a :: ars, [], _, h2 => h2.elim
  | a :: ars, c :: cs, hi, h2 => ⟨VR_inner h hi.1 h2.1, VRs_inner h hi.2 h2.2⟩
section
variable {P : Program} {T : TT}
theorem EnvR_args {K : Kx} {env : Env} {a : Act} (h : EnvR K env a.tmps) : ∀ (xs : List Operand), VRs K (xs.map (evE env)) (xs.map a.eval)
  | [] => trivial
  | x :: r => ⟨h.ev x, EnvR_args h r⟩
theorem run_call {f : FuncId} (hE : Ent P f) {dst : Option Nat} {ty : TypeId} {pos : String} {af : Array Edge} {gu : Option (Nat × Bool)} {args : Array Operand} {aty : Array TypeId} (act : Act) (w : World) :
    (execOp act.eval ⟨dst, .call { callee := .value (.func f), args := args, argTypes := aty }, ty, pos, af, gu⟩).run P w = .ok (.enter f (args.map act.eval)) w := by
  have h0 := hE (args.map act.eval) w
  have hf : act.eval (.func f) = .func (.func f) #[] #[] := rfl
  simp only [execOp, resolve, hf, Deferred.ofValue, Sem.run_bind, Sem.run_pure, Result.andThen_ok, invoke]
  simpa using h0
theorem mut_mid1 (hT : TOk P T) {f : FuncId} {q n e : Nat} {sh c0 c1 r : AV} {more : List AV} (hc : MCalls P T f [q] (.own q 0 n e :: more) [(q, .one sh c0)] r [(q, .one sh c1)]) {dst : Option Nat} {ty : TypeId} {pos : String} {af : Array Edge} {gu : Option (Nat × Bool)} {s : Operand} {args : List Operand} {aty : Array TypeId} {env : Env} {ol : OL} {k i : Nat}
    (hs : evE env s = .own k i n e) (ha : args.map (evE env) = more) (hin : innerL (fun _ => false) more) (hr : r.inner (fun _ => false)) (h0 : c0.inner (fun _ => false)) (h1 : c1.inner (fun _ => false))
    (hat : ol.at_ k i = some (sh, c0)) :
    MidJ P T ⟨dst, .call { callee := .value (.func f), args := (s :: args).toArray, argTypes := aty }, ty, pos, af, gu⟩ env ol r (ol.set k i (some (sh, c1))) := by
  intro X κ w act hP hTT hR hEn
  have hhas : ol.has k = true := OL.has_of_at (i := i) (by rw [hat]; simp)
  have hlive : ol.ob.at_ k i ≠ none := by show ol.at_ k i ≠ none; rw [hat]; simp
  obtain ⟨cur0, e0, m1, m2, m3, m4, m5, m6, m7⟩ := hR.live k i sh c0 hat
  let X' : Cx := ⟨P, T, w, fun _ => False, fun b => b = κ.blk k i⟩
  let κ0 : Gh := ⟨fun _ _ => κ.blk k i, fun _ _ => κ.shp k i⟩
  have hq0 : ∀ k' i' sh' c', OL.at_ [(q, .one sh c0)] k' i' = some (sh', c') → k' = q ∧ i' = 0 ∧ sh' = sh ∧ c' = c0 := by
    intro k' i' sh' c' h
    simp only [OL.at_] at h
    cases hb : Nat.beq k' q
    · rw [hb] at h; cases h
    · rw [hb] at h
      simp only [cond_true, Fam.at_] at h
      cases hi : Nat.beq i' 0
      · rw [hi] at h; cases h
      · rw [hi] at h
        simp only [cond_true, Option.some.injEq, Prod.mk.injEq] at h
        exact ⟨Nat.eq_of_beq_eq_true hb, Nat.eq_of_beq_eq_true hi, h.1.symm, h.2.symm⟩
  have hqn : ∀ k' i', OL.at_ [(q, .one sh c0)] k' i' ≠ none → k' = q ∧ i' = 0 := by
    intro k' i' h
    cases hh : OL.at_ [(q, .one sh c0)] k' i' with
    | none => exact absurd hh h
    | some p => exact ⟨(hq0 k' i' p.1 p.2 hh).1, (hq0 k' i' p.1 p.2 hh).2.1⟩
  have hD0 : SameD (fun _ => false) (KK X κ ol.ob w) (KK X' κ0 (OL.ob [(q, .one sh c0)]) w) :=
    ⟨rfl, fun _ h => (by cases h), fun _ h => (by cases h), by show T.sz = X.T.sz; rw [hTT], by show T.zero = X.T.zero; rw [hTT]⟩
  have hR' : Rel X' κ0 (OL.ob [(q, .one sh c0)]) w := by
    refine ⟨rfl, rfl, rfl, Nat.le_refl _, fun _ _ _ => rfl, fun k' i' sh' c' hq => ?_, fun k' i' k2 i2 hq hq2 _ => ?_, fun k' i' hq => OL.has_of_at hq, fun b hb => hb.elim, fun b hb => ?_⟩
    · obtain ⟨_, _, rfl, rfl⟩ := hq0 k' i' sh' c' hq
      exact ⟨cur0, e0, m1, m2, FL_inner hD0 h0 m3, m4, m5, .inr rfl, fun h => h⟩
    · obtain ⟨rfl, rfl⟩ := hqn k' i' hq
      obtain ⟨rfl, rfl⟩ := hqn k2 i2 hq2
      exact ⟨rfl, rfl⟩
    · have hb' : b = κ.blk k i := hb
      rw [hb']
      exact (Array.getElem?_eq_some_iff.1 m1).1
  have hvs : VRs (KK X' κ0 (OL.ob [(q, .one sh c0)]) w) (.own q 0 n e :: more) ((s :: args).toArray.map act.eval).toList := by
    have h1 := EnvR_args hEn args
    rw [ha] at h1
    have h2 := hEn.ev s
    rw [hs] at h2
    simp only [List.map_toArray, List.map_cons]
    refine ⟨?_, VRs_inner hD0 hin h1⟩
    obtain ⟨_, hn, cap, cur, fr, hv, g1, g2, g3, g4⟩ := VR_own h2
    rw [hv]
    exact ⟨_, rfl, by show OL.has [(q, .one sh c0)] q = true; simp [OL.has], by show κ.shp k i = AV.arr n (fun _ => T.zero e); exact hn.trans (by show AV.arr n (fun _ => X.T.zero e) = _; rw [hTT]), cap, cur, fr, rfl, g1, g2, g3, by show cur.size = cap * T.sz e; rw [g4]; show cap * X.T.sz e = _; rw [hTT]⟩
  rw [run_call hc.ent]
  show Calls X.P f _ w _
  rw [hP]
  have := hc.go X' κ0 w ((s :: args).toArray.map act.eval).toList rfl rfl rfl hR' hvs
  rw [Array.toArray_toList] at this
  refine Calls.mono this ?_
  rintro ex w' ⟨c, κ', rfl, hR1, hv, hpin⟩
  have hb' : ∀ b, b < w.heap.size → b ≠ κ.blk k i → w'.heap[b]? = w.heap[b]? := hR1.block
  have hs' : w.heap.size ≤ w'.heap.size := hR1.size
  obtain ⟨cur1, e1, l1, l2, l3, l4, l5, _, _⟩ := hR1.live q 0 sh c1 (by show OL.at_ [(q, .one sh c1)] q 0 = _; simp [OL.at_, Fam.at_])
  have hblk : κ'.blk q 0 = κ.blk k i := (hpin.blk q (by simp) 0).1
  rw [hblk] at l1
  have hset : ∀ k' i', (ol.set k i (some (sh, c1))).at_ k' i' ≠ none ↔ ol.at_ k' i' ≠ none := fun k' i' => by
    rw [OL.at_set]
    split
    · rename_i h; obtain ⟨rfl, rfl⟩ := h; rw [hat]; simp
    · exact Iff.rfl
  have hhas' : ∀ k', (ol.set k i (some (sh, c1))).has k' = ol.has k' := fun k' => by
    rw [OL.has_set]
    cases hb : Nat.beq k' k
    · simp
    · rw [Nat.eq_of_beq_eq_true hb, hhas]; rfl
  have hle : Le (KK X κ ol.ob w) (KK X κ (OL.ob (ol.set k i (some (sh, c1)))) w') := by
    refine Le.step hs' (fun b hb => ⟨hb' b (hR.J_lt hb) (fun he => hb.2 k i hlive he.symm), fun k' i' hq => hb.2 k' i' ((hset k' i').1 hq)⟩) (fun k' hk' => ⟨by show OL.has _ k' = true; rw [hhas']; exact hk', fun i => ⟨rfl, rfl⟩⟩) hpin.size
  have hD1 : SameD (fun _ => false) (KK X' κ' (OL.ob [(q, .one sh c1)]) w') (KK X κ (OL.ob (ol.set k i (some (sh, c1)))) w') :=
    ⟨rfl, fun _ h => (by cases h), fun _ h => (by cases h), by show X.T.sz = T.sz; rw [hTT], by show X.T.zero = T.zero; rw [hTT]⟩
  refine ⟨c, κ, rfl, ?_, VR_inner hD1 hr hv, hle⟩
  refine ⟨hR1.os.trans hR.os, hR1.tape.trans hR.tape, hR1.output.trans hR.output, Nat.le_trans hR.size hs', fun b hb hM => ?_, fun k' i' sh' c' hq => ?_, fun k' i' k2 i2 hq hq2 he => hR.inj k' i' k2 i2 ((hset k' i').1 hq) ((hset k2 i2).1 hq2) he, fun k' i' hq => ?_, hR.hI, hR.hM⟩
  · refine (hb' b (Nat.lt_of_lt_of_le hb hR.size) (fun he => ?_)).trans (hR.block b hb hM)
    subst he
    rcases m6 with m6 | m6
    · omega
    · exact hM m6
  · have hq : (ol.set k i (some (sh, c1))).at_ k' i' = some (sh', c') := hq
    rw [OL.at_set] at hq
    by_cases h : k' = k ∧ i' = i
    · rw [if_pos h] at hq
      obtain ⟨q1, q2⟩ := Prod.mk.inj (Option.some.inj hq)
      obtain ⟨rfl, rfl⟩ := h
      subst q1; subst q2
      exact ⟨cur1, e1, l1, l2, FL_inner hD1 h1 l3, l4, m5, m6, m7⟩
    · rw [if_neg h] at hq
      obtain ⟨cur, e', g1, g2, g3, g4, g5, g6, g7⟩ := hR.live k' i' sh' c' hq
      have hne : κ.blk k' i' ≠ κ.blk k i := fun he => h (hR.inj k' i' k i (by show ol.at_ k' i' ≠ none; rw [hq]; simp) hlive he)
      exact ⟨cur, e', (hb' _ (Array.getElem?_eq_some_iff.1 g1).1 hne).trans g1, g2, FL_mono hle g3, g4, g5, g6, g7⟩
  · have := OL.has_of_at ((hset k' i').1 hq)
    show OL.has _ k' = true
    rw [hhas']; exact this
end
end Go.Am

set_option linter.unusedVariables false
set_option linter.unusedSimpArgs false
namespace Go.Am
section
variable {p : Int} {n : Nat} {T : Nat → Nat → Nat → Int}
def pz (n : Nat) (T : Nat → Nat → Nat → Int) (u v : Nat → Int) (k : Nat) : Int := sumZ (fun i => sumZ (fun j => u i * v j * T i j k) n) n
theorem times_pz {u v : Nat → Int} {k : Nat} (hk : k < n) : timesF p n T u v k = pz n T u v k % p := by
  unfold timesF; rw [if_pos hk]; rfl
def cg (p : Int) (n : Nat) (u v : Nat → Int) : Prop := ∀ j, j < n → p ∣ u j - v j
theorem cg.rf (u : Nat → Int) : cg p n u u := fun j _ => dvd_rf rfl
theorem mul_dvd {a b c d : Int} (h : p ∣ a - b) (h' : p ∣ c - d) : p ∣ a * c - b * d := by
  have h1 : p ∣ (a - b) * c := Int.dvd_mul_of_dvd_left h
  have h2 : p ∣ b * (c - d) := Int.dvd_mul_of_dvd_right h'
  have := Int.dvd_add h1 h2
  rwa [Int.sub_mul, Int.mul_sub, show a * c - b * c + (b * c - b * d) = a * c - b * d by omega] at this
theorem pz_cg {u u' v v' : Nat → Int} (hu : cg p n u u') (hv : cg p n v v') (k : Nat) : p ∣ pz n T u v k - pz n T u' v' k :=
  sumZ_dvd n (fun i hi => sumZ_dvd n (fun j hj => mul_dvd (mul_dvd (hu i hi) (hv j hj)) (dvd_rf rfl)))
theorem times_cg {u u' v v' : Nat → Int} (hu : cg p n u u') (hv : cg p n v v') : timesF p n T u v = timesF p n T u' v' := by
  funext k
  by_cases hk : k < n
  · rw [times_pz hk, times_pz hk]; exact mod_eq_of_dvd (pz_cg hu hv k)
  · unfold timesF; rw [if_neg hk, if_neg hk]
theorem cg_times (u v : Nat → Int) : cg p n (timesF p n T u v) (pz n T u v) := fun k hk => by rw [times_pz hk]; exact dvd_mod p _
theorem VV.ext {u v : Nat → Int} (hu : VV p n u) (hv : VV p n v) (h : cg p n u v) : u = v := by
  funext k
  by_cases hk : k < n
  · exact eq_of_dvd (hu.b k) (hv.b k) (h k hk)
  · rw [hu.z k (by omega), hv.z k (by omega)]
theorem VV.times (hp : 0 < p) {u v : Nat → Int} : VV p n (timesF p n T u v) := ⟨timesF_Bp hp, fun k hk => by unfold timesF; rw [if_neg (by omega)]⟩
theorem VV.zero (hp : 0 < p) : VV p n (fun _ => 0) := ⟨fun _ => ⟨Int.le_refl _, hp⟩, fun _ _ => rfl⟩
theorem VV.eF (hp : 1 < p) {i : Nat} (hi : i < n) : VV p n (eF i) := ⟨eF_Bp hp i, fun k hk => by rw [eF_dl]; unfold dl; rw [if_neg (by omega)]⟩
theorem VV.add (hp : 0 < p) {u v : Nat → Int} (hu : VV p n u) (hv : VV p n v) (c : Int) : VV p n (addF p u v c) := ⟨addF_Bp hp u v c, fun k hk => by unfold addF; rw [hu.z k hk, hv.z k hk, Int.mul_zero]; rfl⟩
theorem VV.eqN {u v : Nat → Int} (h6 : n ≤ 6) (hu : VV p n u) (hv : VV p n v) : eqN 6 u v ↔ u = v := by
  constructor
  · intro h
    funext k
    by_cases hk : k < 6
    · exact h k hk
    · rw [hu.z k (by omega), hv.z k (by omega)]
  · rintro rfl k _; rfl
theorem pz_add_r (u v w : Nat → Int) (c : Int) (k : Nat) : pz n T u (fun j => v j + c * w j) k = pz n T u v k + c * pz n T u w k := by
  unfold pz
  rw [← sumZ_mul, ← sumZ_add]
  refine sumZ_congr n (fun i _ => ?_)
  rw [← sumZ_mul, ← sumZ_add]
  refine sumZ_congr n (fun j _ => ?_)
  rw [Int.mul_add, Int.add_mul]
  congr 1
  rw [Int.mul_left_comm (u i), Int.mul_assoc, Int.mul_assoc]
theorem pz_add_l (u v w : Nat → Int) (c : Int) (k : Nat) : pz n T (fun j => v j + c * w j) u k = pz n T v u k + c * pz n T w u k := by
  unfold pz
  rw [← sumZ_mul, ← sumZ_add]
  refine sumZ_congr n (fun i _ => ?_)
  rw [← sumZ_mul, ← sumZ_add]
  refine sumZ_congr n (fun j _ => ?_)
  rw [Int.add_mul, Int.add_mul]
  congr 1
  rw [Int.mul_assoc, Int.mul_assoc, Int.mul_assoc]
theorem pz_basis_l (v x : Nat → Int) (k : Nat) : sumZ (fun i => x i * pz n T (eF i) v k) n = pz n T x v k := by
  unfold pz
  refine sumZ_congr n (fun i hi => ?_)
  rw [sumZ_one (c := i) n hi (fun a _ hne => ?_)]
  · rw [← sumZ_mul]
    refine sumZ_congr n (fun j _ => ?_)
    rw [eF_dl]; unfold dl; rw [if_pos rfl, Int.one_mul, Int.mul_assoc]
  · rw [sumZ_congr (g := fun _ => 0) n (fun j _ => by rw [eF_dl]; unfold dl; rw [if_neg (Ne.symm hne)]; simp), sumZ_zero]
theorem times_basis_l (v x : Nat → Int) {k : Nat} (hk : k < n) : p ∣ sumZ (fun i => timesF p n T (eF i) v k * x i) n - pz n T x v k := by
  rw [← pz_basis_l]
  refine sumZ_dvd n (fun i hi => ?_)
  rw [Int.mul_comm (x i)]
  refine mul_dvd ?_ (dvd_rf rfl)
  rw [times_pz hk]; exact dvd_mod p _
theorem asc_basis (h6 : n ≤ 6) (h : assocP p n T) {i j k l : Nat} (hi : i < n) (hj : j < n) (hk : k < n) (hl : l < n) :
    p ∣ sumZ (fun a => T i j a * T a k l) n - sumZ (fun b => T j k b * T i b l) n := by
  have := h i hi j hj k hk l (by omega)
  rw [times_er hk hl, times_el hi hl] at this
  have h2 := dvd_sy (dvd_mod p (sumZ (fun a => T a k l * T i j a) n))
  rw [this] at h2
  have h3 := dvd_tr h2 (dvd_mod p _)
  rw [sumZ_congr (g := fun a => T a k l * T i j a) n (fun a _ => Int.mul_comm _ _), sumZ_congr (f := fun b => T j k b * T i b l) (g := fun b => T i b l * T j k b) n (fun b _ => Int.mul_comm _ _)]
  exact h3
def s3 (n : Nat) (f : Nat → Nat → Nat → Int) : Int := sumZ (fun i => sumZ (fun j => sumZ (f i j) n) n) n
theorem s3_dvd {f g : Nat → Nat → Nat → Int} (h : ∀ i j k, i < n → j < n → k < n → p ∣ f i j k - g i j k) : p ∣ s3 n f - s3 n g :=
  sumZ_dvd n (fun i hi => sumZ_dvd n (fun j hj => sumZ_dvd n (fun k hk => h i j k hi hj hk)))
theorem pz_left (u v w : Nat → Int) (l : Nat) : pz n T (pz n T u v) w l = s3 n (fun i j k => u i * v j * w k * sumZ (fun a => T i j a * T a k l) n) := by
  have e1 : pz n T (pz n T u v) w l = sumZ (fun a => sumZ (fun k => sumZ (fun i => sumZ (fun j => u i * v j * T i j a * w k * T a k l) n) n) n) n := by
    refine sumZ_congr n (fun a _ => sumZ_congr n (fun k _ => ?_))
    show sumZ (fun i => sumZ (fun j => u i * v j * T i j a) n) n * w k * T a k l = _
    rw [Int.mul_assoc, ← sumZ_mulr]
    refine sumZ_congr n (fun i _ => ?_)
    rw [← sumZ_mulr]
    exact sumZ_congr n (fun j _ => by rw [Int.mul_assoc (u i * v j * T i j a)])
  rw [e1]
  unfold s3
  have e2 : ∀ a, sumZ (fun k => sumZ (fun i => sumZ (fun j => u i * v j * T i j a * w k * T a k l) n) n) n = sumZ (fun i => sumZ (fun j => sumZ (fun k => u i * v j * T i j a * w k * T a k l) n) n) n := fun a => by
    rw [sumZ_swap (fun k i => sumZ (fun j => u i * v j * T i j a * w k * T a k l) n)]
    exact sumZ_congr n (fun i _ => sumZ_swap (fun k j => u i * v j * T i j a * w k * T a k l) n n)
  rw [sumZ_congr n (fun a _ => e2 a), sumZ_swap]
  refine sumZ_congr n (fun i _ => ?_)
  rw [sumZ_swap]
  refine sumZ_congr n (fun j _ => ?_)
  rw [sumZ_swap]
  refine sumZ_congr n (fun k _ => ?_)
  show _ = u i * v j * w k * sumZ (fun a => T i j a * T a k l) n
  rw [← sumZ_mul]
  exact sumZ_congr n (fun a _ => by simp only [Int.mul_assoc, Int.mul_comm, Int.mul_left_comm])
theorem pz_right (u v w : Nat → Int) (l : Nat) : pz n T u (pz n T v w) l = s3 n (fun i j k => u i * v j * w k * sumZ (fun b => T j k b * T i b l) n) := by
  unfold s3
  refine sumZ_congr n (fun i _ => ?_)
  have e1 : ∀ b, u i * pz n T v w b * T i b l = sumZ (fun j => sumZ (fun k => u i * v j * w k * (T j k b * T i b l)) n) n := fun b => by
    show u i * sumZ (fun j => sumZ (fun k => v j * w k * T j k b) n) n * T i b l = _
    rw [← sumZ_mul, ← sumZ_mulr]
    refine sumZ_congr n (fun j _ => ?_)
    show u i * sumZ (fun k => v j * w k * T j k b) n * T i b l = _
    rw [← sumZ_mul, ← sumZ_mulr]
    exact sumZ_congr n (fun k _ => by simp only [Int.mul_assoc, Int.mul_comm, Int.mul_left_comm])
  rw [sumZ_congr n (fun b _ => e1 b), sumZ_swap]
  refine sumZ_congr n (fun j _ => ?_)
  rw [sumZ_swap]
  refine sumZ_congr n (fun k _ => ?_)
  show _ = u i * v j * w k * sumZ (fun b => T j k b * T i b l) n
  rw [← sumZ_mul]
theorem times_asc (h6 : n ≤ 6) (h : assocP p n T) (u v w : Nat → Int) : timesF p n T (timesF p n T u v) w = timesF p n T u (timesF p n T v w) := by
  rw [times_cg (cg_times u v) (cg.rf w), times_cg (cg.rf u) (cg_times v w)]
  funext l
  by_cases hl : l < n
  · rw [times_pz hl, times_pz hl]
    refine mod_eq_of_dvd ?_
    rw [pz_left, pz_right]
    exact s3_dvd (fun i j k hi hj hk => mul_dvd (dvd_rf rfl) (asc_basis h6 h hi hj hk hl))
  · unfold timesF; rw [if_neg hl, if_neg hl]
theorem pz_one_l {u v : Nat → Int} (hu : LU p n T u) {k : Nat} (hk : k < n) : p ∣ pz n T u v k - v k := by
  unfold pz
  rw [sumZ_swap]
  have : p ∣ sumZ (fun j => v j * sumZ (fun i => T i j k * u i) n) n - v k := by
    have h := sumZ_dvd (p := p) (f := fun j => v j * sumZ (fun i => T i j k * u i) n) (g := fun j => v j * dl j k) n (fun j hj => mul_dvd (dvd_rf rfl) (hu j hj k hk))
    rwa [sum_dl v hk] at h
  rw [sumZ_congr (g := fun j => v j * sumZ (fun i => T i j k * u i) n) n (fun j _ => by
    rw [← sumZ_mul]
    exact sumZ_congr n (fun i _ => by simp only [Int.mul_assoc, Int.mul_comm, Int.mul_left_comm]))]
  exact this
theorem pz_one_r {u v : Nat → Int} (hu : RU p n T u) {k : Nat} (hk : k < n) : p ∣ pz n T v u k - v k := by
  unfold pz
  have : p ∣ sumZ (fun i => v i * sumZ (fun j => T i j k * u j) n) n - v k := by
    have h := sumZ_dvd (p := p) (f := fun i => v i * sumZ (fun j => T i j k * u j) n) (g := fun i => v i * dl i k) n (fun i hi => mul_dvd (dvd_rf rfl) (hu i hi k hk))
    rwa [sum_dl v hk] at h
  rw [sumZ_congr (g := fun i => v i * sumZ (fun j => T i j k * u j) n) n (fun i _ => by
    rw [← sumZ_mul]
    exact sumZ_congr n (fun j _ => by simp only [Int.mul_assoc, Int.mul_comm, Int.mul_left_comm]))]
  exact this
end
section
variable {p : Int} {n : Nat} {T : Nat → Nat → Nat → Int} {fo : Nat → Int}
theorem VN.asc' (h : VN p n T fo) (u v w : Nat → Int) : timesF p n T (timesF p n T u v) w = timesF p n T u (timesF p n T v w) := times_asc h.n6 h.asc u v w
theorem VN.pp (h : VN p n T fo) : 0 < p := by have := h.p0; omega
theorem VN.LU (h : VN p n T fo) : LU p n T (uF p n T) := (uF_unit h.hp h.n0 h.hT h.u).1
theorem VN.RU (h : VN p n T fo) : RU p n T (uF p n T) := (uF_unit h.hp h.n0 h.hT h.u).2.1
theorem VN.one_l (h : VN p n T fo) {v : Nat → Int} (hv : VV p n v) : timesF p n T (uF p n T) v = v :=
  VV.ext (VV.times h.pp) hv (fun k hk => dvd_tr (by rw [times_pz hk]; exact dvd_mod p _) (pz_one_l h.LU hk))
theorem VN.one_r (h : VN p n T fo) {v : Nat → Int} (hv : VV p n v) : timesF p n T v (uF p n T) = v :=
  VV.ext (VV.times h.pp) hv (fun k hk => dvd_tr (by rw [times_pz hk]; exact dvd_mod p _) (pz_one_r h.RU hk))
def iM (p : Int) (n : Nat) (T : Nat → Nat → Nat → Int) (v : Nat → Int) (x j : Nat) : Nat → Int := if x = 0 then timesF p n T v (eF j) else timesF p n T (eF j) v
noncomputable abbrev iR (p : Int) (n : Nat) (T : Nat → Nat → Nat → Int) (v : Nat → Int) : Nat → Nat → Int := sysR n (iM p n T v) (fun _ => uF p n T)
def iOk (p : Int) (n : Nat) (T : Nat → Nat → Nat → Int) (v : Nat → Int) : Prop := conP n (redGo p (2 * n) (iR p n T v) (n + 1)).no (redGo p (2 * n) (iR p n T v) (n + 1)).O
noncomputable instance (p : Int) (n : Nat) (T : Nat → Nat → Nat → Int) (v : Nat → Int) : Decidable (iOk p n T v) := Classical.propDecidable _
def oS (p : Int) (n N : Nat) (S : Nat → Nat → Int) : Prop := oneP n (echGo p (n + 1) S N).no (echGo p (n + 1) S N).O
noncomputable instance (p : Int) (n N : Nat) (S : Nat → Nat → Int) : Decidable (oS p n N S) := Classical.propDecidable _
end
end Go.Am

set_option linter.unusedVariables false
set_option linter.unusedSimpArgs false
namespace Go.Am
section
variable {H : Type} {enc : TypeId × Value → H} {P : Program} {w : World} {base : Nat} {spare : Nat → Bool} {held : Bool}
end
end Go.Am

set_option linter.unusedVariables false
set_option linter.unusedSimpArgs false
namespace Go.Am
section
variable {p : Int} {m : Nat}
theorem dot_congr {f g x : Nat → Int} : ∀ m, (∀ j, j < m → f j = g j) → dot m f x = dot m g x := fun m h => sumZ_congr m (fun j hj => by rw [h j hj])
theorem null_congr {n : Nat} {R S : Nat → Nat → Int} (h : ∀ i, i < n → ∀ j, j < m → R i j = S i j) (x : Nat → Int) : Null p m n R x ↔ Null p m n S x := by
  unfold Null Z
  constructor
  · intro q i hi; rw [← dot_congr m (h i hi)]; exact q i hi
  · intro q i hi; rw [dot_congr m (h i hi)]; exact q i hi
theorem red_null {n n' : Nat} {R S : Nat → Nat → Int} (hp : primeB p = true) (hR : ∀ i, i < n → Bp p (R i)) (hS : ∀ i, i < n' → Bp p (S i)) (h : ∀ x, Null p m n R x ↔ Null p m n' S x) :
    (redGo p n R m).no = (redGo p n' S m).no ∧ ∀ i, i < (redGo p n R m).no → ∀ j, j < m → (redGo p n R m).O i j = (redGo p n' S m).O i j := by
  have hpb := primeB_bd hp
  obtain ⟨⟨l, h1⟩, h2⟩ := red_ok (m := m) hp hR
  obtain ⟨⟨l', h3⟩, h4⟩ := red_ok (m := m) hp hS
  exact rref_unique (by omega) h1 h3 (fun x => (h2 x).trans ((h x).trans (h4 x).symm))
theorem red_Bp {n : Nat} {R : Nat → Nat → Int} (hp : primeB p = true) (hR : ∀ i, i < n → Bp p (R i)) {i : Nat} (hi : i < (redGo p n R m).no) : Bp p ((redGo p n R m).O i) := by
  obtain ⟨⟨l, h1⟩, _⟩ := red_ok (m := m) hp hR
  exact h1.bp i hi
theorem ech_Bp {n : Nat} {R : Nat → Nat → Int} (hp : primeB p = true) (hR : ∀ i, i < n → Bp p (R i)) {i : Nat} (hi : i < (echGo p m R n).no) : Bp p ((echGo p m R n).O i) := by
  obtain ⟨⟨l, h1⟩, _⟩ := ech_ok (m := m) hp n hR
  exact h1.bp i hi
theorem red_le {n : Nat} {R : Nat → Nat → Int} : (redGo p n R m).no ≤ m ∧ (redGo p n R m).no ≤ n := by
  have := red_counts p n R m
  omega
end
def ldB (m no : Nat) (O : Nat → Nat → Int) (j : Nat) : Bool := decide (0 ≤ idxF (fun i => decide (leadN m (O i) = j)) no)
def kvF (p : Int) (m no : Nat) (O : Nat → Nat → Int) (c j : Nat) : Int := if j = c then 1 else if ldB m no O j then (- O (idxF (fun i => decide (leadN m (O i) = j)) no).toNat c) % p else 0
def kcN (m no : Nat) (O : Nat → Nat → Int) : Nat → Nat
  | 0 => 0
  | c + 1 => bif ldB m no O c then kcN m no O c else kcN m no O c + 1
def kbF (p : Int) (m no : Nat) (O : Nat → Nat → Int) : Nat → Nat → Nat → Int
  | 0 => fun _ _ => 0
  | c + 1 => bif ldB m no O c then kbF p m no O c else fun i => if i = kcN m no O c then kvF p m no O c else kbF p m no O c i
theorem kcN_le (m no : Nat) (O : Nat → Nat → Int) : ∀ c, kcN m no O c ≤ c
  | 0 => Nat.le_refl _
  | c + 1 => by
    have := kcN_le m no O c
    unfold kcN
    cases ldB m no O c <;> simp <;> omega
theorem kvF_Bp {p : Int} (hp : 1 < p) (m no : Nat) (O : Nat → Nat → Int) (c : Nat) : Bp p (kvF p m no O c) := fun j => by
  unfold kvF
  split
  · omega
  · split
    · exact ⟨Int.emod_nonneg _ (by omega), Int.emod_lt_of_pos _ (by omega)⟩
    · omega
theorem kbF_Bp {p : Int} (hp : 1 < p) (m no : Nat) (O : Nat → Nat → Int) : ∀ c i, Bp p (kbF p m no O c i)
  | 0, i => fun j => by show 0 ≤ (0 : Int) ∧ (0 : Int) < p; omega
  | c + 1, i => by
    unfold kbF
    cases ldB m no O c
    · show Bp p (if i = _ then _ else _)
      split
      · exact kvF_Bp hp m no O c
      · exact kbF_Bp hp m no O c i
    · exact kbF_Bp hp m no O c i
theorem idxF_congr {P Q : Nat → Bool} {m : Nat} (h : ∀ i, i < m → P i = Q i) : idxF P m = idxF Q m := by
  rcases idx_cases P m with ⟨i, hi, hP, hb, he⟩ | ⟨hn, he⟩
  · rw [he]; exact (idx_at hi (by rw [← h i hi]; exact hP) (fun j hj => by rw [← h j (by omega)]; exact hb j hj)).symm
  · rw [he]; exact (idx_none (fun j hj => by rw [← h j hj]; exact hn j hj)).symm
theorem leadN_congr {m : Nat} {f g : Nat → Int} (h : ∀ j, j < m → f j = g j) : leadN m f = leadN m g := by
  unfold leadN
  rw [idxF_congr (P := leadB f) (Q := leadB g) (fun j hj => by unfold leadB; rw [h j hj])]
section
variable {p : Int} {m no : Nat} {O O' : Nat → Nat → Int}
theorem ldB_congr (h : ∀ i, i < no → ∀ j, j < m → O i j = O' i j) (c : Nat) : idxF (fun i => decide (leadN m (O i) = c)) no = idxF (fun i => decide (leadN m (O' i) = c)) no :=
  idxF_congr (fun i hi => by rw [leadN_congr (h i hi)])
theorem kcN_congr (h : ∀ i, i < no → ∀ j, j < m → O i j = O' i j) : ∀ c, kcN m no O c = kcN m no O' c
  | 0 => rfl
  | c + 1 => by
    unfold kcN ldB
    rw [ldB_congr h c, kcN_congr h c]
theorem kvF_congr (h : ∀ i, i < no → ∀ j, j < m → O i j = O' i j) {c : Nat} (hc : c < m) (j : Nat) : kvF p m no O c j = kvF p m no O' c j := by
  unfold kvF ldB
  rw [ldB_congr h j]
  split
  · rfl
  · split
    · rename_i hb
      rcases idx_cases (fun i => decide (leadN m (O' i) = j)) no with ⟨i, hi, _, _, he⟩ | ⟨_, he⟩
      · rw [he]
        show (- O i c) % p = (- O' i c) % p
        rw [h i hi c hc]
      · rw [he] at hb; simp at hb
    · rfl
theorem kbF_congr (h : ∀ i, i < no → ∀ j, j < m → O i j = O' i j) : ∀ c, c ≤ m → ∀ i j, kbF p m no O c i j = kbF p m no O' c i j
  | 0, _, i, j => rfl
  | c + 1, hc, i, j => by
    unfold kbF ldB
    rw [ldB_congr h c, kcN_congr h c]
    cases decide (0 ≤ idxF (fun i => decide (leadN m (O' i) = c)) no)
    · simp only [cond_false]
      split
      · exact kvF_congr h (by omega) j
      · exact kbF_congr h c (by omega) i j
    · exact kbF_congr h c (by omega) i j
end
def kerS (p : Int) (n N : Nat) (R : Nat → Nat → Int) : RS := redGo p (kcN n (redGo p N R n).no (redGo p N R n).O n) (kbF p n (redGo p N R n).no (redGo p N R n).O n) n
def kerE (p : Int) (n N : Nat) (R : Nat → Nat → Int) : ES := echGo p n (kbF p n (echGo p n R N).no (echGo p n R N).O n) (kcN n (echGo p n R N).no (echGo p n R N).O n)
theorem ker_eq {p : Int} (hp : primeB p = true) {n N : Nat} {R : Nat → Nat → Int} (hR : ∀ i, i < N → Bp p (R i)) :
    (kerE p n N R).no = (kerS p n N R).no ∧ ∀ i, i < (kerS p n N R).no → ∀ j, j < n → (kerE p n N R).O i j = (kerS p n N R).O i j := by
  have hpb := primeB_bd hp
  obtain ⟨h1, h2⟩ := ech_red (m := n) hp hR
  have e1 : kcN n (echGo p n R N).no (echGo p n R N).O n = kcN n (redGo p N R n).no (redGo p N R n).O n := by
    rw [kcN_congr h2 n, h1]
  have e2 : ∀ i j, kbF p n (echGo p n R N).no (echGo p n R N).O n i j = kbF p n (redGo p N R n).no (redGo p N R n).O n i j := fun i j => by
    rw [kbF_congr h2 n (Nat.le_refl _), h1]
  have e3 : kbF p n (echGo p n R N).no (echGo p n R N).O n = kbF p n (redGo p N R n).no (redGo p N R n).O n := funext fun i => funext fun j => e2 i j
  unfold kerE kerS
  rw [e1, e3]
  obtain ⟨h3, h4⟩ := ech_red (p := p) (m := n) (n := kcN n (redGo p N R n).no (redGo p N R n).O n) (R := kbF p n (redGo p N R n).no (redGo p N R n).O n) hp (fun i _ => kbF_Bp (by omega) _ _ _ _ i)
  exact ⟨h3, fun i hi => h4 i (by rw [h3]; exact hi)⟩
theorem ker_null {p : Int} (hp : primeB p = true) {n N N' : Nat} {R S : Nat → Nat → Int} (hR : ∀ i, i < N → Bp p (R i)) (hS : ∀ i, i < N' → Bp p (S i)) (h : ∀ x, Null p n N R x ↔ Null p n N' S x) :
    (kerS p n N R).no = (kerS p n N' S).no ∧ ∀ i, i < (kerS p n N R).no → ∀ j, j < n → (kerS p n N R).O i j = (kerS p n N' S).O i j := by
  have hpb := primeB_bd hp
  obtain ⟨h1, h2⟩ := red_null (m := n) hp hR hS h
  have e3 : kbF p n (redGo p N R n).no (redGo p N R n).O n = kbF p n (redGo p N' S n).no (redGo p N' S n).O n := funext fun i => funext fun j => by
    rw [kbF_congr h2 n (Nat.le_refl _), h1]
  have e1 : kcN n (redGo p N R n).no (redGo p N R n).O n = kcN n (redGo p N' S n).no (redGo p N' S n).O n := by rw [kcN_congr h2 n, h1]
  unfold kerS
  rw [e1, e3]
  exact ⟨rfl, fun _ _ _ _ => rfl⟩
end Go.Am

set_option linter.unusedVariables false
set_option linter.unusedSimpArgs false
namespace Go.Am
theorem fam_sh {b N e : Nat} {w : Nat → Nat} {F : Nat → Nat → Int} {ol : OL} {r : Nat} (hr : r < N) : OL.at_ (OL.shift b [(0, .one (ZR N) (CO 1 N w e)), (1, .many (famF N w F))] ++ ol) (b + 1) r = some (Z64 (w r), C64 (w r) (F r)) := by
  have e1 : Nat.beq (b + 1) (b + 0) = false := beq_ff (by omega)
  show (bif Nat.beq (b + 1) (b + 0) then _ else bif Nat.beq (b + 1) (b + 1) then (match famF N w F r with | some (sh, c) => some (sh, Am.shift b c) | none => none) else _) = _
  rw [e1, Nat.beq_refl, famF_at hr]
  rfl
def symA (n : Nat) (F : Nat → Nat → Int) : Prop := ∀ i, i < n → ∀ j, j < n → F j i = F i j
def symS (n : Nat) (F : Nat → Nat → Int) : Prop := ∀ i, i < n → ∀ j, j < i → F i j = F j i
noncomputable instance (n : Nat) (F : Nat → Nat → Int) : Decidable (symA n F) := Classical.propDecidable _
noncomputable instance (n : Nat) (F : Nat → Nat → Int) : Decidable (symS n F) := Classical.propDecidable _
theorem Mt.rf {V : Vw} {v : AV} (h : v.closed) (hn : v ≠ .any) : Mt V v v := Mt_closed h (fun _ _ _ => trivial) hn
end Go.Am

set_option linter.unusedVariables false
set_option linter.unusedSimpArgs false
namespace Go.Am
def kdx (fr : Nat → Bool) (i : Nat) (o : Oper) : Nat := bif fr i then 0 else kind o
theorem kdx_le (fr : Nat → Bool) (i : Nat) (o : Oper) : kdx fr i o = 0 ∨ kdx fr i o = 1 ∨ kdx fr i o = 2 := by
  unfold kdx
  cases fr i
  · exact kind_le o
  · exact .inl rfl
def StepK (q : Nat) (P : Program) (T : TT) (arr : Array Oper) (o : Oper) (env : Env) (ol : OL) (v : AV) (ol' : OL) : Prop :=
  (gd arr o env = some false ∧ v = undA ∧ ol' = ol) ∨
  (gd arr o env = some true ∧
    ((q = 0 ∧ ol' = ol ∧ PureJ P T o (evE env) v) ∨
     (q = 1 ∧ ∃ A : OL, ol' = A ++ ol ∧ PassJ' P T o (evE env) ol.ob v A ∧ ∀ k, A.has k = true → ol.has k = false) ∨
     (q = 2 ∧ ActJ P T o (evE env) ol.ob v ol'.ob)))
structure DrawOkX (ops : Array Oper) (U : Nat → Nat → Bool) (fr : Nat → Bool) : Prop where
  back : ∀ i oi, ops[i]? = some oi → ∀ e ∈ oi.after, Region.binds .any e = true → e.on < i
  clos : ∀ i oi j, ops[i]? = some oi → j < ops.size → U i j = true → ∃ e ∈ oi.after, Region.binds .any e = true ∧ (e.on = j ∨ U e.on j = true)
  ap : ∀ i oi j oj, ops[i]? = some oi → ops[j]? = some oj → j < i → oj.apart ops oi = true ∨ U i j = true
  act1 : ∀ i oi j oj, ops[i]? = some oi → ops[j]? = some oj → kdx fr i oi = 2 → kdx fr j oj = 1 → j < i → U i j = true
  act1' : ∀ i oi j oj, ops[i]? = some oi → ops[j]? = some oj → kdx fr i oi = 2 → kdx fr j oj = 1 → i < j → U j i = true
  act2 : ∀ i oi j oj, ops[i]? = some oi → ops[j]? = some oj → kdx fr i oi = 2 → kdx fr j oj = 2 → j < i → U i j = true
def chkX (ops : Array Oper) (U : Nat → Nat → Bool) (fr : Nat → Bool) : Bool :=
  (List.range ops.size).all fun i => match ops[i]? with
    | none => true
    | some oi =>
      (oi.after.toList.all fun e => !Region.binds .any e || Nat.blt e.on i) &&
      (List.range ops.size).all fun j => match ops[j]? with
        | none => true
        | some oj =>
          (!U i j || oi.after.toList.any fun e => Region.binds .any e && (Nat.beq e.on j || U e.on j)) &&
          (!(Nat.blt j i) || (U i j || oj.apart ops oi)) &&
          (!(Nat.beq (kdx fr i oi) 2) || (!(Nat.beq (kdx fr j oj) 1) || ((!(Nat.blt j i) || U i j) && (!(Nat.blt i j) || U j i)))) &&
          (!(Nat.beq (kdx fr i oi) 2) || (!(Nat.beq (kdx fr j oj) 2) || (!(Nat.blt j i) || U i j)))
theorem chkX_ok {ops : Array Oper} {U : Nat → Nat → Bool} {fr : Nat → Bool} (h : chkX ops U fr = true) : DrawOkX ops U fr := by
  simp only [chkX, List.all_eq_true, List.mem_range] at h
  have lt : ∀ {i : Nat} {oi : Oper}, ops[i]? = some oi → i < ops.size := fun hi => (Array.getElem?_eq_some_iff.1 hi).1
  have g1 : ∀ i oi, ops[i]? = some oi → ∀ e ∈ oi.after.toList, (!Region.binds .any e || Nat.blt e.on i) = true := by
    intro i oi hi
    have := h i (lt hi)
    rw [hi] at this
    simp only [Bool.and_eq_true, List.all_eq_true] at this
    exact this.1
  have g2 : ∀ i oi j oj, ops[i]? = some oi → ops[j]? = some oj →
      ((((!U i j || oi.after.toList.any fun e => Region.binds .any e && (Nat.beq e.on j || U e.on j)) = true ∧ (!(Nat.blt j i) || (U i j || oj.apart ops oi)) = true) ∧
      (!(Nat.beq (kdx fr i oi) 2) || (!(Nat.beq (kdx fr j oj) 1) || ((!(Nat.blt j i) || U i j) && (!(Nat.blt i j) || U j i)))) = true) ∧ (!(Nat.beq (kdx fr i oi) 2) || (!(Nat.beq (kdx fr j oj) 2) || (!(Nat.blt j i) || U i j))) = true) := by
    intro i oi j oj hi hj
    have := h i (lt hi)
    rw [hi] at this
    simp only [Bool.and_eq_true, List.all_eq_true, List.mem_range] at this
    have := this.2 j (lt hj)
    rw [hj] at this
    simpa only [Bool.and_eq_true] using this
  refine ⟨fun i oi hi e he hb => ?_, fun i oi j hi hj hu => ?_, fun i oi j oj hi hj hlt => ?_, fun i oi j oj hi hj h2 h1 hlt => ?_, fun i oi j oj hi hj h2 h1 hlt => ?_, fun i oi j oj hi hj h2 h1 hlt => ?_⟩
  · have := (g1 i oi hi) e (by simpa using he)
    simpa [hb, Nat.blt_eq] using this
  · have := (g2 i oi j ops[j] hi (by simp [hj])).1.1.1
    simp only [hu, Bool.not_true, Bool.false_or, List.any_eq_true, Bool.and_eq_true, Bool.or_eq_true] at this
    obtain ⟨e, he, hb, hq⟩ := this
    exact ⟨e, by simpa using he, hb, hq.imp (fun h => Nat.eq_of_beq_eq_true h) id⟩
  · have := (g2 i oi j oj hi hj).1.1.2
    have hb : Nat.blt j i = true := by rw [Nat.blt_eq]; exact hlt
    simp only [hb, Bool.not_true, Bool.false_or, Bool.or_eq_true] at this
    exact this.symm
  · have := (g2 i oi j oj hi hj).1.2
    have hb : Nat.blt j i = true := by rw [Nat.blt_eq]; exact hlt
    simp [h2, h1, hb] at this
    exact this.1
  · have := (g2 i oi j oj hi hj).1.2
    have hb : Nat.blt i j = true := by rw [Nat.blt_eq]; exact hlt
    simp [h2, h1, hb] at this
    exact this.2
  · have := (g2 i oi j oj hi hj).2
    have hb : Nat.blt j i = true := by rw [Nat.blt_eq]; exact hlt
    simpa [h2, h1, hb] using this
def drawOkX (ops : Array Oper) (fr : Nat → Bool) : Bool := chkX ops (Uof (numsOf ops)) fr
structure TrX (P : Program) (T : TT) (ops : Array Oper) (fr : Nat → Bool) (env : Env) (V : Nat → AV) (O : Nat → OL) : Prop where
  step : ∀ k o, ops[k]? = some o → StepK (kdx fr k o) P T ops o (envOf V (fun j => decide (j < k)) 0 ops.toList env) (O k) (V k) (O (k + 1))
variable {P : Program} {T : TT} {ops : Array Oper} {U : Nat → Nat → Bool} {fr : Nat → Bool} {env : Env} {V : Nat → AV} {O : Nat → OL}
theorem TrX.same (ht : TrX P T ops fr env V O) {k : Nat} {o : Oper} (hk : ops[k]? = some o) (h0 : kdx fr k o = 0) : O (k + 1) = O k := by
  rcases ht.step k o hk with ⟨_, _, h⟩ | ⟨_, ⟨_, h, _⟩ | ⟨h, _⟩ | ⟨h, _⟩⟩
  · exact h
  · exact h
  · rw [h0] at h; cases h
  · rw [h0] at h; cases h
theorem TrX.up (ht : TrX P T ops fr env V O) {j : Nat} {o : Oper} (hj : ops[j]? = some o) (h2 : kdx fr j o ≠ 2) {k : Nat} (hk : (O j).has k = true) : (O (j + 1)).has k = true ∧ ∀ i, (O (j + 1)).at_ k i = (O j).at_ k i := by
  rcases ht.step j o hj with ⟨_, _, h⟩ | ⟨_, ⟨_, h, _⟩ | ⟨_, A, h, _, hf⟩ | ⟨h, _⟩⟩
  · rw [h]; exact ⟨hk, fun _ => rfl⟩
  · rw [h]; exact ⟨hk, fun _ => rfl⟩
  · rw [h]
    refine ⟨by rw [OL.has_append, hk]; simp, fun i => ?_⟩
    rw [OL.at_append]
    split
    · rename_i hA
      rw [hf k hA] at hk; cases hk
    · rfl
  · exact absurd h h2
def noAct (ops : Array Oper) (fr : Nat → Bool) (a b : Nat) : Prop := ∀ i oi, ops[i]? = some oi → a ≤ i → i < b → kdx fr i oi ≠ 2
theorem noAct.sub {a b a' b' : Nat} (h : noAct ops fr a b) (ha : a ≤ a') (hb : b' ≤ b) : noAct ops fr a' b' := fun i oi hi h1 h2 => h i oi hi (by omega) (by omega)
theorem TrX.chain (ht : TrX P T ops fr env V O) {a : Nat} : ∀ d, a + d ≤ ops.size → noAct ops fr a (a + d) → ∀ {k : Nat}, (O a).has k = true → (O (a + d)).has k = true ∧ ∀ i, (O (a + d)).at_ k i = (O a).at_ k i
  | 0, _, _, k, hk => ⟨hk, fun _ => rfl⟩
  | d + 1, h, hn, k, hk => by
    obtain ⟨h1, h2⟩ := ht.chain d (by omega) (hn.sub (Nat.le_refl _) (by omega)) hk
    have hlt : a + d < ops.size := by omega
    have hx : ops[a + d]? = some ops[a + d] := by simp [hlt]
    obtain ⟨h3, h4⟩ := ht.up hx (hn _ _ hx (by omega) (by omega)) h1
    exact ⟨h3, fun i => (h4 i).trans (h2 i)⟩
theorem TrX.mono (ht : TrX P T ops fr env V O) {a b : Nat} (hab : a ≤ b) (hb : b ≤ ops.size) (hn : noAct ops fr a b) {k : Nat} (hk : (O a).has k = true) : (O b).has k = true ∧ ∀ i, (O b).at_ k i = (O a).at_ k i := by
  obtain ⟨d, rfl⟩ := Nat.exists_eq_add_of_le hab
  exact ht.chain d hb hn hk
theorem TrX.born (ht : TrX P T ops fr env V O) {a : Nat} {k : Nat} : ∀ d, (O (a + d)).has k = true → (O a).has k = true ∨ ∃ j, a ≤ j ∧ j < a + d ∧ (O (j + 1)).has k = true ∧ (O j).has k = false
  | 0, h => .inl h
  | d + 1, h => by
    cases hq : (O (a + d)).has k with
    | true =>
      rcases ht.born d hq with h | ⟨j, h1, h2, h3⟩
      · exact .inl h
      · exact .inr ⟨j, h1, by omega, h3⟩
    | false => exact .inr ⟨a + d, by omega, by omega, h, hq⟩
theorem nextAct (ops : Array Oper) (fr : Nat → Bool) : ∀ d m, m + d = ops.size → ∃ e, m ≤ e ∧ e ≤ ops.size ∧ noAct ops fr m e ∧ (e = ops.size ∨ ∃ oe, ops[e]? = some oe ∧ kdx fr e oe = 2)
  | 0, m, h => ⟨m, Nat.le_refl _, by omega, fun i oi _ h1 h2 => by omega, .inl (by omega)⟩
  | d + 1, m, h => by
    have hlt : m < ops.size := by omega
    have hx : ops[m]? = some ops[m] := by simp [hlt]
    by_cases h2 : kdx fr m ops[m] = 2
    · exact ⟨m, Nat.le_refl _, by omega, fun i oi _ h1 h2 => by omega, .inr ⟨_, hx, h2⟩⟩
    · obtain ⟨e, h3, h4, h5, h6⟩ := nextAct ops fr d (m + 1) (by omega)
      refine ⟨e, by omega, h4, fun i oi hi h7 h8 => ?_, h6⟩
      by_cases hi2 : i = m
      · subst hi2; rw [hx] at hi; cases hi; exact h2
      · exact h5 i oi hi (by omega) h8
structure Mem1 (ops : Array Oper) (fr : Nat → Bool) (O : Nat → OL) (D : Nat → Bool) (ob : Ob) (m e : Nat) : Prop where
  me : m ≤ e
  le : e ≤ ops.size
  acts : ∀ i oi, ops[i]? = some oi → kdx fr i oi = 2 → (D i = true ↔ i < m)
  no : noAct ops fr m e
  nx : e = ops.size ∨ ∃ oe, ops[e]? = some oe ∧ kdx fr e oe = 2
  p1 : ∀ i oi, ops[i]? = some oi → kdx fr i oi = 1 → i < m → D i = true
  p2 : ∀ i oi, ops[i]? = some oi → kdx fr i oi = 1 → e ≤ i → D i = false
  has : ∀ k, ob.has k = true ↔ (O m).has k = true ∨ ∃ j, m ≤ j ∧ j < e ∧ D j = true ∧ (O (j + 1)).has k = true ∧ (O j).has k = false
  at_ : ∀ k, ob.has k = true → ∀ i, ob.at_ k i = (O e).at_ k i
def MemX (ops : Array Oper) (fr : Nat → Bool) (O : Nat → OL) (D : Nat → Bool) (ob : Ob) : Prop := ∃ m e, Mem1 ops fr O D ob m e
theorem Mem1.turn (ht : TrX P T ops fr env V O) {D : Nat → Bool} {ob : Ob} {m e : Nat} (hob : ∀ k i, ob.at_ k i ≠ none → ob.has k = true) (hm : Mem1 ops fr O D ob m e)
    (h1 : ∀ i oi, ops[i]? = some oi → kdx fr i oi = 1 → m ≤ i → i < e → D i = true) : ob = (O e).ob := by
  have hh : ∀ k, ob.has k = true ↔ (O e).has k = true := by
    intro k
    rw [hm.has k]
    constructor
    · rintro (h | ⟨j, hj, hj2, _, h, _⟩)
      · exact (ht.mono hm.me hm.le hm.no h).1
      · exact (ht.mono (by omega : j + 1 ≤ e) hm.le (hm.no.sub (by omega) (Nat.le_refl _)) h).1
    · intro h
      obtain ⟨d, rfl⟩ := Nat.exists_eq_add_of_le hm.me
      rcases ht.born d h with h | ⟨j, hj, hj2, ha, hb⟩
      · exact .inl h
      · refine .inr ⟨j, hj, hj2, ?_, ha, hb⟩
        have hlt : j < ops.size := by have := hm.le; omega
        have hx : ops[j]? = some ops[j] := by simp [hlt]
        rcases kdx_le fr j ops[j] with h0 | h5 | h5
        · rw [ht.same hx h0, hb] at ha; cases ha
        · exact h1 _ _ hx h5 hj hj2
        · exact absurd h5 (hm.no _ _ hx hj hj2)
  refine Ob_ext (fun k i => ?_) (fun k => ?_)
  · cases hk : ob.has k with
    | true => exact hm.at_ k hk i
    | false =>
      have e1 : ob.at_ k i = none := by
        apply Classical.byContradiction
        intro hne
        rw [hob k i hne] at hk; cases hk
      have e2 : (O e).at_ k i = none := by
        apply Classical.byContradiction
        intro hne
        have := (hh k).2 (OL.has_of_at hne)
        rw [this] at hk; cases hk
      rw [e1]
      exact e2.symm
  · have := hh k
    show ob.has k = (O e).has k
    cases hx : ob.has k
    · rw [hx] at this
      cases hy : (O e).has k
      · rfl
      · exact absurd (this.2 hy) (by simp)
    · exact (this.1 hx).symm
section
variable {D D' : Nat → Bool} {i : Nat} {oi : Oper}
theorem Mem1.before (hd : DrawOkX ops U fr) {ob : Ob} {m e : Nat} (hm : Mem1 ops fr O D ob m e) (hi : ops[i]? = some oi) (h1 : kdx fr i oi = 1) (hU : ∀ j, j < ops.size → U i j = true → D j = true) : i < e := by
  have lt : ∀ {i : Nat} {oi : Oper}, ops[i]? = some oi → i < ops.size := fun hi => (Array.getElem?_eq_some_iff.1 hi).1
  apply Nat.lt_of_not_le
  intro hle
  rcases hm.nx with h | ⟨oe, he, h2⟩
  · have := lt hi; omega
  · have hne : e ≠ i := by
      intro h; subst h; rw [hi] at he; cases he; rw [h1] at h2; cases h2
    have := hU e (lt he) (hd.act1' e oe i oi he hi h2 h1 (by omega))
    have := (hm.acts e oe he h2).1 this
    have := hm.me
    omega
theorem MemX.zero (ht : TrX P T ops fr env V O) (hd : DrawOkX ops U fr) (hi : ops[i]? = some oi) (h0 : kdx fr i oi ≠ 2) (hU : ∀ j, j < ops.size → U i j = true → D j = true)
    (hD' : ∀ j, D' j = if j = i then true else D j) (hsame : O (i + 1) = O i) {ob : Ob} (hm : MemX ops fr O D ob) : MemX ops fr O D' ob := by
  obtain ⟨m, e, hm⟩ := hm
  refine ⟨m, e, hm.me, hm.le, fun j oj hj hk => ?_, hm.no, hm.nx, fun j oj hj hk hlt => ?_, fun j oj hj hk hle => ?_, fun k => ?_, hm.at_⟩
  · by_cases hji : j = i
    · subst hji; rw [hi] at hj; cases hj; exact absurd hk h0
    · rw [hD' j, if_neg hji]; exact hm.acts j oj hj hk
  · rw [hD' j]; split
    · rfl
    · exact hm.p1 j oj hj hk hlt
  · by_cases hji : j = i
    · subst hji; rw [hi] at hj; cases hj
      have := hm.before hd hi hk hU
      omega
    · rw [hD' j, if_neg hji]; exact hm.p2 j oj hj hk hle
  · rw [hm.has k]
    constructor
    · rintro (h | ⟨j, ha, hb, hc, hd⟩)
      · exact .inl h
      · exact .inr ⟨j, ha, hb, by rw [hD' j]; split <;> simp_all, hd⟩
    · rintro (h | ⟨j, ha, ha2, hb, hc, hd⟩)
      · exact .inl h
      · by_cases hji : j = i
        · subst hji; rw [hsame, hd] at hc; cases hc
        · rw [hD' j, if_neg hji] at hb
          exact .inr ⟨j, ha, ha2, hb, hc, hd⟩
theorem MemX.one (ht : TrX P T ops fr env V O) (hd : DrawOkX ops U fr) (hi : ops[i]? = some oi) (h1 : kdx fr i oi = 1) (hDi : D i = false) (hU : ∀ j, j < ops.size → U i j = true → D j = true)
    (hD' : ∀ j, D' j = if j = i then true else D j) {A : OL} (hA : O (i + 1) = A ++ O i) (hf : ∀ k, A.has k = true → (O i).has k = false) {ob : Ob} (hm : MemX ops fr O D ob) :
    (∀ k, ob.has k = true → (O i).ob.has k = true → ∀ j, ob.at_ k j = (O i).ob.at_ k j) ∧ (∀ k, A.has k = true → ob.has k = false) ∧ MemX ops fr O D' (A.ob.ext ob) := by
  obtain ⟨m, e, hm⟩ := hm
  have hie := hm.before hd hi h1 hU
  have hmi : m ≤ i := by
    apply Nat.le_of_not_lt
    intro h
    have := hm.p1 i oi hi h1 h
    rw [hDi] at this; cases this
  refine ⟨fun k hk hk2 j => ?_, fun k hk => ?_, m, e, hm.me, hm.le, fun j oj hj hk => ?_, hm.no, hm.nx, fun j oj hj hk hlt => ?_, fun j oj hj hk hle => ?_, fun k => ?_, fun k hk j => ?_⟩
  · rw [hm.at_ k hk j]
    exact (ht.mono (Nat.le_of_lt hie) hm.le (hm.no.sub hmi (Nat.le_refl _)) hk2).2 j
  · have hn := hf k hk
    apply Classical.byContradiction
    intro hh
    have hh : ob.has k = true := by simpa using hh
    rcases (hm.has k).1 hh with h | ⟨j, ha, ha2, hb, hc, hdd⟩
    · have := (ht.mono hmi (by have := hm.le; omega) (hm.no.sub (Nat.le_refl _) (by omega)) h).1
      rw [hn] at this; cases this
    · by_cases hji : j < i
      · have := (ht.mono (by omega : j + 1 ≤ i) (by have := hm.le; omega) (hm.no.sub (by omega) (by omega)) hc).1
        rw [hn] at this; cases this
      · by_cases hij : j = i
        · subst hij; rw [hDi] at hb; cases hb
        · have : (O (i + 1)).has k = true := by rw [hA, OL.has_append, hk]; rfl
          have := (ht.mono (by omega : i + 1 ≤ j) (by have := hm.le; omega) (hm.no.sub (by omega) (by omega)) this).1
          rw [hdd] at this; cases this
  · by_cases hji : j = i
    · subst hji; rw [hi] at hj; cases hj; rw [h1] at hk; cases hk
    · rw [hD' j, if_neg hji]; exact hm.acts j oj hj hk
  · rw [hD' j]; split
    · rfl
    · exact hm.p1 j oj hj hk hlt
  · by_cases hji : j = i
    · omega
    · rw [hD' j, if_neg hji]; exact hm.p2 j oj hj hk hle
  · have e' : (A.ob.ext ob).has k = (A.has k || ob.has k) := rfl
    rw [e', Bool.or_eq_true, hm.has k]
    constructor
    · rintro (h | h | ⟨j, ha, ha2, hb, hc⟩)
      · exact .inr ⟨i, hmi, hie, by rw [hD' i, if_pos rfl], by rw [hA, OL.has_append, h]; rfl, hf k h⟩
      · exact .inl h
      · exact .inr ⟨j, ha, ha2, by rw [hD' j]; split <;> simp_all, hc⟩
    · rintro (h | ⟨j, ha, ha2, hb, hc, hdd⟩)
      · exact .inr (.inl h)
      · by_cases hji : j = i
        · subst hji
          rw [hA, OL.has_append, hdd] at hc
          exact .inl (by simpa using hc)
        · rw [hD' j, if_neg hji] at hb
          exact .inr (.inr ⟨j, ha, ha2, hb, hc, hdd⟩)
  · have e' : (A.ob.ext ob).at_ k j = if A.has k = true then A.at_ k j else ob.at_ k j := rfl
    rw [e']
    split
    · rename_i hAk
      have hx : (O (i + 1)).has k = true := by rw [hA, OL.has_append, hAk]; rfl
      rw [(ht.mono (by omega : i + 1 ≤ e) hm.le (hm.no.sub (by omega) (Nat.le_refl _)) hx).2 j, hA, OL.at_append, if_pos hAk]
    · rename_i hAk
      refine hm.at_ k ?_ j
      have : (A.has k || ob.has k) = true := hk
      simpa [hAk] using this
theorem Mem1.start (ht : TrX P T ops fr env V O) {m e : Nat} (hme : m ≤ e) (hle : e ≤ ops.size) (hno : noAct ops fr m e) (hnx : e = ops.size ∨ ∃ oe, ops[e]? = some oe ∧ kdx fr e oe = 2)
    (hacts : ∀ i oi, ops[i]? = some oi → kdx fr i oi = 2 → (D i = true ↔ i < m)) (hp1 : ∀ i oi, ops[i]? = some oi → kdx fr i oi = 1 → i < m → D i = true) (hp2 : ∀ i oi, ops[i]? = some oi → kdx fr i oi = 1 → m ≤ i → D i = false) :
    Mem1 ops fr O D (O m).ob m e where
  me := hme
  le := hle
  acts := hacts
  no := hno
  nx := hnx
  p1 := hp1
  p2 := fun i oi hi h1 h => hp2 i oi hi h1 (by omega)
  has := fun k => by
    constructor
    · exact fun h => .inl h
    · rintro (h | ⟨j, ha, hb, hc, hd, he⟩)
      · exact h
      · have hlt : j < ops.size := by omega
        have hx : ops[j]? = some ops[j] := by simp [hlt]
        rcases kdx_le fr j ops[j] with h0 | h1 | h2
        · rw [ht.same hx h0, he] at hd; cases hd
        · rw [hp2 j _ hx h1 ha] at hc; cases hc
        · exact absurd h2 (hno j _ hx ha hb)
  at_ := fun k hk i => ((ht.mono hme hle hno hk).2 i).symm
theorem MemX.two (ht : TrX P T ops fr env V O) (hd : DrawOkX ops U fr) (hi : ops[i]? = some oi) (h2 : kdx fr i oi = 2) (hDi : D i = false)
    (hD' : ∀ j, D' j = if j = i then true else D j) (hU : ∀ j, j < ops.size → U i j = true → D j = true) (hUn : ∀ k ok, ops[k]? = some ok → U k i = true → D k = false) {ob : Ob} (hob : ∀ k i, ob.at_ k i ≠ none → ob.has k = true) (hm : MemX ops fr O D ob) :
    ob = (O i).ob ∧ MemX ops fr O D' (O (i + 1)).ob := by
  obtain ⟨m, e, hm⟩ := hm
  have lt : ∀ {i : Nat} {oi : Oper}, ops[i]? = some oi → i < ops.size := fun hi => (Array.getElem?_eq_some_iff.1 hi).1
  have hin := lt hi
  have hmi : m ≤ i := by
    apply Nat.le_of_not_lt
    intro h
    have := (hm.acts i oi hi h2).2 h
    rw [hDi] at this; cases this
  have hei : e ≤ i := by
    apply Nat.le_of_not_lt
    intro h
    exact hm.no i oi hi hmi h h2
  have hee : e = i := by
    rcases hm.nx with h | ⟨oe, he, h3⟩
    · omega
    · apply Classical.byContradiction
      intro hne
      have := hU e (lt he) (hd.act2 i oi e oe hi he h2 h3 (by omega))
      have := (hm.acts e oe he h3).1 this
      have := hm.me
      omega
  subst hee
  refine ⟨hm.turn ht hob (fun j oj hj hk ha hb => hU j (lt hj) (hd.act1 e oi j oj hi hj h2 hk hb)), ?_⟩
  obtain ⟨e', q1, q2, q3, q4⟩ := nextAct ops fr (ops.size - (e + 1)) (e + 1) (by omega)
  refine ⟨e + 1, e', Mem1.start ht q1 q2 q3 q4 (fun j oj hj hk => ?_) (fun j oj hj hk hlt => ?_) (fun j oj hj hk hle => ?_)⟩
  · rw [hD' j]
    by_cases hji : j = e
    · subst hji; simp
    · rw [if_neg hji, hm.acts j oj hj hk]
      constructor
      · intro h; omega
      · intro h
        have := hU j (lt hj) (hd.act2 e oi j oj hi hj h2 hk (by omega))
        exact (hm.acts j oj hj hk).1 this
  · rw [hD' j]; split
    · rfl
    · rename_i hne
      exact hU j (lt hj) (hd.act1 e oi j oj hi hj h2 hk (by omega))
  · rw [hD' j, if_neg (by omega)]
    exact hUn j oj hj (hd.act1' e oi j oj hi hj h2 hk (by omega))
theorem MemX.all (ht : TrX P T ops fr env V O) {ob : Ob} (hob : ∀ k i, ob.at_ k i ≠ none → ob.has k = true) (hm : MemX ops fr O D ob) (hall : ∀ i, i < ops.size → D i = true) : ob = (O ops.size).ob := by
  obtain ⟨m, e, hm⟩ := hm
  have lt : ∀ {i : Nat} {oi : Oper}, ops[i]? = some oi → i < ops.size := fun hi => (Array.getElem?_eq_some_iff.1 hi).1
  have he : e = ops.size := by
    rcases hm.nx with h | ⟨oe, he, h2⟩
    · exact h
    · have := (hm.acts e oe he h2).1 (hall e (lt he))
      have := hm.me
      omega
  have := hm.turn ht hob (fun j oj hj _ _ _ => hall j (lt hj))
  rw [this, he]
end
theorem downX (hd : DrawOkX ops U fr) {D : Nat → Bool} (hcl : ∀ i oi, ops[i]? = some oi → D i = true → ∀ e ∈ oi.after, Region.binds .any e = true → D e.on = true) :
    ∀ i oi j, ops[i]? = some oi → j < ops.size → U i j = true → (∀ e ∈ oi.after, Region.binds .any e = true → D e.on = true) → D j = true := by
  intro i
  induction i using Nat.strongRecOn with
  | _ i ih =>
    intro oi j hi hj hu hr
    obtain ⟨e, he, hb, hq⟩ := hd.clos i oi j hi hj hu
    have hlt := hd.back i oi hi e he hb
    have hin := (Array.getElem?_eq_some_iff.1 hi).1
    have hD := hr e he hb
    rcases hq with hq | hq
    · exact hq ▸ hD
    · have hx : ops[e.on]? = some ops[e.on] := by simp [Nat.lt_trans hlt hin]
      exact ih e.on hlt _ j hx hj hq (hcl e.on _ hx hD)
theorem rdy_nilX (hd : DrawOkX ops U fr) {listed : Array Bool} (hs : listed.size = ops.size) (h : Region.ready .any ops listed = []) : ∀ i, i < ops.size → Dl listed i = true := by
  intro i
  induction i using Nat.strongRecOn with
  | _ i ih =>
    intro hi
    apply Classical.byContradiction
    intro hn
    have hx : ops[i]? = some ops[i] := by simp [hi]
    have : i ∈ Region.ready .any ops listed := by
      simp only [Region.ready, List.mem_filter, List.mem_range, Bool.and_eq_true, Bool.not_eq_true']
      refine ⟨hi, ?_, ?_⟩
      · have : Dl listed i = false := by simpa using hn
        simp only [Dl, Array.getD_eq_getD_getElem?] at this ⊢
        have hl : i < listed.size := hs ▸ hi
        simp only [hl, Array.getElem?_eq_getElem, Option.getD_some] at this ⊢
        exact this
      · rw [hx]
        simp only [Option.map_some, Option.getD_some, Array.all_eq_true_iff_forall_mem]
        intro e he
        cases hb : Region.binds .any e
        · rfl
        · have hlt := hd.back i _ hx e he hb
          have := ih e.on hlt (by omega)
          simp only [Dl] at this
          simp [this]
    rw [h] at this
    cases this
structure InvX (P : Program) (T : TT) (ops : Array Oper) (fr : Nat → Bool) (N : Nat) (env : Env) (V : Nat → AV) (O : Nat → OL) (X : Cx) (listed : Array Bool) (a : Act) (w : World) : Prop where
  sz : listed.size = ops.size
  cl : ∀ i oi, ops[i]? = some oi → Dl listed i = true → ∀ e ∈ oi.after, Region.binds .any e = true → Dl listed e.on = true
  pic : ∃ κ ob, Rel X κ ob w ∧ (∀ t, VR (KK X κ ob w) (get (envOf V (Dl listed) 0 ops.toList env) t) (a.tmps.getD t undef)) ∧ MemX ops fr O (Dl listed) ob
  size : a.tmps.size = N
  defers : a.defers = []
theorem draw_stepX (hd : DrawOkX ops U fr) (ht : TrX P T ops fr env V O) {N : Nat} (hdst : dstOk N ops.toList = true) {X : Cx} (hP : X.P = P) (hTT : X.T = T) {listed : Array Bool} {a : Act} {w : World}
    (h : InvX P T ops fr N env V O X listed a w) {i : Nat} (hi : i ∈ Region.ready .any ops listed) {Q : Exit → Act → World → Prop} {K : Act → World → Prop}
    (hK : ∀ a' w', InvX P T ops fr N env V O X (listed.setIfInBounds i true) a' w' → K a' w') : wpOp P ops Q i K a w := by
  obtain ⟨oi, hx, hli, hre⟩ := mem_rdy hi
  have lt : ∀ {i : Nat} {oi : Oper}, ops[i]? = some oi → i < ops.size := fun hi => (Array.getElem?_eq_some_iff.1 hi).1
  have hin := lt hx
  have hinl : i < listed.size := h.sz ▸ hin
  have hDi : Dl listed i = false := by
    simp only [Dl, Array.getD_eq_getD_getElem?, hinl, Array.getElem?_eq_getElem, Option.getD_some] at hli ⊢
    exact hli
  have hD' := listed_set (listed := listed) hinl
  have hU : ∀ j, j < ops.size → U i j = true → Dl listed j = true := fun j hj hu => downX hd h.cl i oi j hx hj hu hre
  have hUn : ∀ k ok, ops[k]? = some ok → U k i = true → Dl listed k = false := fun k ok hk hu => by
    apply Classical.byContradiction
    intro hn
    have hn : Dl listed k = true := by simpa using hn
    have := downX hd h.cl k ok i hk hin hu (h.cl k ok hk hn)
    rw [hDi] at this; cases this
  obtain ⟨κ, ob, hR, hE, hM⟩ := h.pic
  have hob : ∀ k i, ob.at_ k i ≠ none → ob.has k = true := hR.has
  have hag : ∀ t, t ∈ oi.looksAt ops → get (envOf V (Dl listed) 0 ops.toList env) t = get (envOf V (fun j => decide (j < i)) 0 ops.toList env) t := by
    intro t htl
    refine envOf_agree V _ _ t _ 0 env env rfl (fun k o hk ho => ?_)
    rw [Array.getElem?_toList] at hk
    rw [Nat.zero_add]
    rcases Nat.lt_trichotomy k i with hki | hki | hki
    · rw [decide_eq_true hki]
      rcases hd.ap i oi k o hx hk hki with hap | hu
      · exact absurd htl ((Oper.apart_spec hap).1 t ho)
      · exact hU k (lt hk) hu
    · subst hki
      rw [hDi]; simp
    · rw [decide_eq_false (by omega)]
      rcases hd.ap k o i oi hk hx hki with hap | hu
      · exact absurd htl ((Oper.apart_spec hap).2.2 t ho)
      · exact hUn k o hk hu
  have hput : ∀ t, get (envOf V (Dl (listed.setIfInBounds i true)) 0 ops.toList env) t = if oi.dst = some t then V i else get (envOf V (Dl listed) 0 ops.toList env) t := by
    intro t
    by_cases hdt : oi.dst = some t
    · rw [if_pos hdt, envOf_last V _ t ops.toList 0 i oi env (by rw [Array.getElem?_toList]; exact hx) hdt (by rw [Nat.zero_add, hD', if_pos rfl]) (fun k o hk hk2 ho => ?_), Nat.zero_add]
      rw [Array.getElem?_toList] at hk2
      rw [Nat.zero_add, hD', if_neg (by omega)]
      rcases hd.ap k o i oi hk2 hx hk with hap | hu
      · exact absurd ho ((Oper.apart_spec hap).2.1 t hdt)
      · exact hUn k o hk2 hu
    · rw [if_neg hdt]
      refine envOf_agree V _ _ t _ 0 env env rfl (fun k o hk ho => ?_)
      rw [Array.getElem?_toList] at hk
      rw [Nat.zero_add, hD', if_neg (fun e => by subst e; rw [hx] at hk; cases hk; exact hdt ho)]
  have hdstN : ∀ t, oi.dst = some t → t < a.tmps.size := fun t hdt => by
    simp only [dstOk, List.all_eq_true] at hdst
    have := hdst oi (by simpa using Array.mem_of_getElem? hx)
    rw [hdt] at this
    rw [h.size]; simpa [Nat.blt_eq] using this
  have hcl' : ∀ j oj, ops[j]? = some oj → Dl (listed.setIfInBounds i true) j = true → ∀ e ∈ oj.after, Region.binds .any e = true → Dl (listed.setIfInBounds i true) e.on = true := by
    intro j oj hj hDj e he hb
    rw [hD'] at hDj ⊢
    split
    · rfl
    · by_cases hji : j = i
      · subst hji; rw [hx] at hj; cases hj; exact hre e he hb
      · rw [if_neg hji] at hDj; exact h.cl j oj hj hDj e he hb
  have next : ∀ (c : Value) (w' : World) (κ' : Gh) (ob' : Ob), Rel X κ' ob' w' → VR (KK X κ' ob' w') (V i) c → Le (KK X κ ob w) (KK X κ' ob' w') → MemX ops fr O (Dl (listed.setIfInBounds i true)) ob' → K (a.put oi.dst c) w' := by
    intro c w' κ' ob' hR' hv hle hM'
    refine hK _ _ ⟨by simp [h.sz], hcl', ⟨κ', ob', hR', fun t => ?_, hM'⟩, by rw [Act.put_size]; exact h.size, by rw [Am.Act.put_defers]; exact h.defers⟩
    rw [hput t]
    by_cases hdt : oi.dst = some t
    · rw [if_pos hdt, hdt]
      have : (a.put (some t) c).tmps.getD t undef = c := by simp [Act.put, hdstN t hdt]
      rw [this]; exact hv
    · rw [if_neg hdt]
      have : (a.put oi.dst c).tmps.getD t undef = a.tmps.getD t undef := by
        cases hq : oi.dst with
        | none => rfl
        | some d =>
          have hne : d ≠ t := fun e => hdt (by rw [hq, e])
          simp [Act.put, Array.getElem?_setIfInBounds_ne hne]
      rw [this]; exact VR_mono hle (hE t)
  have hops : ∀ x ∈ oi.op.operands.toList, VR (KK X κ ob w) (evE (envOf V (fun j => decide (j < i)) 0 ops.toList env) x) (a.eval x) := by
    intro x hxo
    cases x with
    | tmp t => have := hE t; rw [hag t (looks_dst hxo)] at this; exact this
    | const v => exact constAV_ok _ v
    | global g => trivial
    | func g => exact ⟨#[], rfl, rfl, fun i hi => by omega⟩
  have want : ∀ b, gd ops oi (envOf V (fun j => decide (j < i)) 0 ops.toList env) = some b → Region.wanted oi (yielded ops a.tmps) = b := by
    intro b hb
    unfold gd at hb
    split at hb
    · rename_i hg
      cases hb
      simp [Region.wanted, hg]
    · rename_i j wnt hg
      split at hb
      · rename_i d hdd
        split at hb
        · rename_i b' hb'
          cases hb
          rw [← hag d (looks_guard hg hdd)] at hb'
          have hy := yielded_of hdd hE hb' (dst_lt_of_eq hE hb')
          simp [Region.wanted, hg, hy]
        · rename_i hb'
          cases hb
          rw [← hag d (looks_guard hg hdd)] at hb'
          have hy := yielded_none hdd hE hb'
          simp [Region.wanted, hg, hy]
        · cases hb
      · cases hb
  have hsz : ∀ r, Oper.upon X.P oi a K Q r → Oper.upon P oi a K Q r := fun r hr => by rw [← hP]; exact hr
  unfold wpOp
  rw [hx]
  simp only
  have hst := ht.step i oi hx
  rcases hst with ⟨hg, hv, hs⟩ | ⟨hg, hst⟩
  · rw [if_neg (by rw [want _ hg]; simp)]
    have hvu : VR (KK X κ ob w) (V i) undef := by rw [hv]; exact undA_ok _
    rcases kdx_le fr i oi with h0 | h1 | h2
    · exact next undef w κ ob hR hvu (Le.refl _) (hM.zero ht hd hx (by omega) hU hD' hs)
    · exact next undef w κ ob hR hvu (Le.refl _) (hM.zero ht hd hx (by omega) hU hD' hs)
    · obtain ⟨e1, e2⟩ := hM.two ht hd hx h2 hDi hD' hU hUn hob
      rw [hs, ← e1] at e2
      exact next undef w κ ob hR hvu (Le.refl _) e2
  · rw [if_pos (want _ hg)]
    refine .inl ?_
    unfold Oper.wp
    rw [← hP]
    rcases hst with ⟨h0, hs, hj⟩ | ⟨h1, A, hs, hj, hf⟩ | ⟨h2, hj⟩
    · have := (PassJ.of_pure hj ob) X κ ob w a.eval hP hTT hR (fun _ _ _ _ => rfl) (fun k hk => by cases hk) hops
      rw [Ob.ext_nil, ← hP] at this
      exact upon_of_Out this (fun c w' κ' hR' hv hle => next c w' κ' ob hR' hv hle (hM.zero ht hd hx (by omega) hU hD' hs))
    · obtain ⟨e1, e2, e3⟩ := hM.one ht hd hx h1 hDi hU hD' hs hf
      have := hj X κ ob w a.eval hP hTT (fun _ => rfl) hR e1 e2 hops
      rw [← hP] at this
      exact upon_of_Out this (fun c w' κ' hR' hv hle => next c w' κ' _ hR' hv hle e3)
    · obtain ⟨e1, e2⟩ := hM.two ht hd hx h2 hDi hD' hU hUn hob
      subst e1
      have := hj X κ w a.eval hP hTT hR hops
      rw [← hP] at this
      exact upon_of_Out this (fun c w' κ' hR' hv hle => next c w' κ' _ hR' hv hle e2)
theorem draw_anyX (hd : DrawOkX ops U fr) (ht : TrX P T ops fr env V O) {N : Nat} (hdst : dstOk N ops.toList = true) {X : Cx} (hP : X.P = P) (hTT : X.T = T) {Q : Exit → Env → OL → Prop}
    (hK : Q .normal (envOf V (fun _ => true) 0 ops.toList env) (O ops.size)) :
    ∀ (fuel : Nat) (listed : Array Bool) (a : Act) (w : World), left ops listed ≤ fuel → InvX P T ops fr N env V O X listed a w → wpAny P .any ops (QQ X N Q) fuel listed a w := by
  have fin : ∀ (listed : Array Bool) (a : Act) (w : World), InvX P T ops fr N env V O X listed a w → (∀ i, i < ops.size → Dl listed i = true) → QQ X N Q .normal a w := by
    intro listed a w h hall
    obtain ⟨κ, ob, hR, hE, hM⟩ := h.pic
    have e := hM.all ht hR.has hall
    subst e
    refine ⟨κ, _, _, hK, hR, fun t => ?_, h.size, h.defers⟩
    have := hE t
    rwa [envOf_agree V (Dl listed) (fun _ => true) t _ 0 env env rfl (fun k o hk _ => by
      rw [Array.getElem?_toList] at hk
      rw [Nat.zero_add, hall k (Array.getElem?_eq_some_iff.1 hk).1])] at this
  intro fuel
  induction fuel with
  | zero =>
    intro listed a w hl h
    have hall : ∀ i, i < ops.size → Dl listed i = true := by
      intro i hi
      apply Classical.byContradiction
      intro hn
      have hn : Dl listed i = false := by simpa using hn
      have : i ∈ (List.range ops.size).filter fun i => !Dl listed i := by simp [hi, hn]
      have := List.length_pos_of_mem this
      unfold left at hl
      omega
    refine ⟨?_, fin listed a w h hall⟩
    apply Classical.byContradiction
    intro hne
    obtain ⟨i, hi⟩ := List.exists_mem_of_ne_nil _ hne
    obtain ⟨oi, hx, hli, _⟩ := mem_rdy hi
    have hin := (Array.getElem?_eq_some_iff.1 hx).1
    have hh := hall i hin
    have hl2 : i < listed.size := h.sz ▸ hin
    simp only [Dl, Array.getD_eq_getD_getElem?, hl2, Array.getElem?_eq_getElem, Option.getD_some] at hli hh
    rw [hh] at hli; cases hli
  | succ fuel ih =>
    intro listed a w hl h
    refine ⟨fun hr => fin listed a w h (rdy_nilX hd h.sz hr), fun i hi => ?_⟩
    obtain ⟨oi, hx, hli, _⟩ := mem_rdy hi
    have hin := (Array.getElem?_eq_some_iff.1 hx).1
    have hl2 : i < listed.size := h.sz ▸ hin
    have hDi : Dl listed i = false := by
      simp only [Dl, Array.getD_eq_getD_getElem?, hl2, Array.getElem?_eq_getElem, Option.getD_some] at hli ⊢
      exact hli
    have := left_lt hin hl2 hDi
    exact draw_stepX hd ht hdst hP hTT h hi (fun a' w' h' => ih _ a' w' (by omega) h')
theorem WOps_cons (hT : TOk P T) (arr : Array Oper) {o : Oper} {r : List Oper} {env : Env} {ol : OL} {K : Env → OL → Prop} (h : WOps P T arr (o :: r) env ol K) :
    ∃ v ol1, StepJ P T arr o env ol v ol1 ∧ WOps P T arr r (putE o.dst v env) ol1 K := by
  unfold WOps at h
  have run : gd arr o env = some true → WOp P T o (evE env) ol (fun v ol' => WOps P T arr r (putE o.dst v env) ol' K) → ∃ v ol1, StepJ P T arr o env ol v ol1 ∧ WOps P T arr r (putE o.dst v env) ol1 K := by
    intro hg hw
    obtain ⟨v, hw⟩ := WOp_sound hT hw
    rcases hw with ⟨h0, h1, h2⟩ | ⟨h0, A, h1, h2, h3⟩ | ⟨h0, ol', h1, h2, _⟩
    · exact ⟨v, ol, .inr ⟨hg, .inl ⟨h0, rfl, h2⟩⟩, h1⟩
    · exact ⟨v, A ++ ol, .inr ⟨hg, .inr (.inl ⟨h0, A, rfl, h2, h3⟩)⟩, h1⟩
    · exact ⟨v, ol', .inr ⟨hg, .inr (.inr ⟨h0, h2⟩)⟩, h1⟩
  split at h
  · rename_i hg
    exact run (by simp [gd, hg]) h
  · rename_i j want hg
    split at h
    · rename_i d hd
      split at h
      · rename_i b hb
        split at h
        · rename_i hbw
          exact run (by simp only [gd, hg, hd, hb, hbw]) h
        · rename_i hbw
          exact ⟨undA, ol, .inl ⟨by simp only [gd, hg, hd, hb, hbw], rfl, rfl⟩, h⟩
      · rename_i hb
        exact ⟨undA, ol, .inl ⟨by simp only [gd, hg, hd, hb], rfl, rfl⟩, h⟩
      · exact h.elim
    · exact h.elim
def Ex (P : Program) (T : TT) (arr : Array Oper) (fr : Nat → Bool) (s : Nat) (ops : List Oper) (env : Env) (ol : OL) (K : Env → OL → Prop) : Prop :=
  ∃ (V : Nat → AV) (O : Nat → OL), O 0 = ol ∧ (∀ k o, ops[k]? = some o → StepK (kdx fr (s + k) o) P T arr o (envOf V (fun j => decide (j < k)) 0 ops env) (O k) (V k) (O (k + 1))) ∧ K (envOf V (fun _ => true) 0 ops env) (O ops.length)
theorem Ex.nil {arr : Array Oper} {s : Nat} {ol : OL} {K : Env → OL → Prop} (h : K env ol) : Ex P T arr fr s [] env ol K := ⟨fun _ => .any, fun _ => ol, rfl, fun k o hk => by simp at hk, h⟩
theorem Ex.cons {arr : Array Oper} {s : Nat} {o : Oper} {r : List Oper} {ol ol1 : OL} {v : AV} {K : Env → OL → Prop} (hs : StepK (kdx fr s o) P T arr o env ol v ol1) (h : Ex P T arr fr (s + 1) r (putE o.dst v env) ol1 K) : Ex P T arr fr s (o :: r) env ol K := by
  obtain ⟨V, O, hO, hst, hK⟩ := h
  refine ⟨fun | 0 => v | k + 1 => V k, fun | 0 => ol | k + 1 => O k, rfl, fun k o' hk => ?_, ?_⟩
  · cases k with
    | zero =>
      simp only [List.getElem?_cons_zero, Option.some.injEq] at hk
      subst hk
      have : (fun j : Nat => decide (j < 0)) = fun _ => false := by funext j; simp
      rw [this, envOf_none]
      simp only [Nat.zero_add, Nat.add_zero]
      rw [hO]
      exact hs
    | succ k =>
      have := hst k o' (by simpa using hk)
      simp only [envOf]
      rw [if_pos (by simp), envOf_shift]
      have e : (fun j : Nat => decide (j + 1 < k + 1)) = fun j => decide (j < k) := by funext j; simp
      rw [e, show s + (k + 1) = s + 1 + k from by omega]
      exact this
  · simp only [envOf, if_true]
    rw [envOf_shift]
    exact hK
theorem Ex.pre (hT : TOk P T) {arr : Array Oper} {r : List Oper} {K K' : Env → OL → Prop} : ∀ (l : List Oper) (s : Nat) (env : Env) (ol : OL), (∀ i, s ≤ i → i < s + l.length → fr i = false) → WOps P T arr l env ol K' → (∀ e o, K' e o → Ex P T arr fr (s + l.length) r e o K) → Ex P T arr fr s (l ++ r) env ol K
  | [], s, env, ol, _, h, hk => hk _ _ h
  | o :: l, s, env, ol, hf, h, hk' => by
    obtain ⟨v, ol1, hs, hw⟩ := WOps_cons hT arr h
    have hk : kdx fr s o = kind o := by unfold kdx; rw [hf s (Nat.le_refl _) (by simp)]; rfl
    refine Ex.cons (by rw [hk]; exact hs) (Ex.pre hT l (s + 1) _ _ (fun i h1 h2 => hf i (by omega) (by simp only [List.length_cons]; omega)) hw ?_)
    have e : s + (o :: l).length = s + 1 + l.length := by simp only [List.length_cons]; omega
    rw [e] at hk'
    exact hk'
def LoadC (P : Program) (T : TT) (o : Oper) (env : Env) (K : AV → Prop) : Prop :=
  o.guard = none ∧ ∃ t x u, o.op = .load t x ∧ evE env x = .cptr u ∧ (T.und t).known = true ∧ u.size = T.sz t ∧ u.isAgg = (T.und t).isAgg ∧ K u
theorem LoadC.step (hT : TOk P T) {arr : Array Oper} {o : Oper} {ol : OL} {K : AV → Prop} (h : LoadC P T o env K) : ∃ v, K v ∧ StepK 0 P T arr o env ol v ol := by
  obtain ⟨hg, t, x, u, ho, hx, hk, h1, h2, h⟩ := h
  refine ⟨u, h, .inr ⟨by simp [gd, hg], .inl ⟨rfl, rfl, fun X κ ob w ρ hP hTT hR hv => ?_⟩⟩⟩
  have hx' := hv x (by simp [ho, Op.operands])
  rw [hx] at hx'
  obtain ⟨b, oo, seg, e1, hJ, hu, hs⟩ := VR_cptr hx'
  obtain ⟨c, hrun, hvc⟩ := load_fin hT hk (K := KK X κ ob w) rfl hu hs h1 h2
  exact ⟨c, by simp [execOp, ho, e1, Instr.loadAt, Instr.sureAddr, hrun], hvc⟩
def WSeg (P : Program) (T : TT) (arr : Array Oper) : List Nat → List Oper → Env → OL → (Env → OL → Prop) → Prop
  | [], ops, env, ol, K => WOps P T arr ops env ol K
  | n :: fl, ops, env, ol, K => WOps P T arr (ops.take n) env ol (fun env' ol' => match ops.drop n with
    | o :: r => LoadC P T o env' (fun v => WSeg P T arr fl r (putE o.dst v env') ol' K)
    | [] => False)
def frL : List Nat → Nat → List Nat
  | [], _ => []
  | n :: fl, s => (s + n) :: frL fl (s + n + 1)
def frF (fl : List Nat) (i : Nat) : Bool := (frL fl 0).any (Nat.beq i)
theorem frL_ge : ∀ (fl : List Nat) (s x : Nat), x ∈ frL fl s → s ≤ x
  | [], s, x, h => by cases h
  | n :: fl, s, x, h => by
    unfold frL at h
    rcases List.mem_cons.1 h with h | h
    · omega
    · have := frL_ge fl (s + n + 1) x h; omega
theorem frL_no (fl : List Nat) {s i : Nat} (h : i < s) : (frL fl s).any (Nat.beq i) = false := by
  cases hq : (frL fl s).any (Nat.beq i) with
  | false => rfl
  | true =>
    obtain ⟨x, h1, h2⟩ := List.any_eq_true.1 hq
    have := frL_ge fl s x h1
    have := Nat.eq_of_beq_eq_true h2
    omega
theorem WSeg.ex (hT : TOk P T) {arr : Array Oper} {K : Env → OL → Prop} : ∀ (fl : List Nat) (s : Nat) (ops : List Oper) (env : Env) (ol : OL), (∀ i, s ≤ i → fr i = (frL fl s).any (Nat.beq i)) → WSeg P T arr fl ops env ol K → Ex P T arr fr s ops env ol K
  | [], s, ops, env, ol, hf, h => by
    have := Ex.pre (r := []) hT ops s env ol (fun i h1 _ => by rw [hf i h1]; rfl) (K := K) (fr := fr) (arr := arr) (P := P) (T := T) h (fun _ _ h => Ex.nil h)
    rwa [List.append_nil] at this
  | n :: fl, s, ops, env, ol, hf, h => by
    have h : WOps P T arr (ops.take n) env ol (fun env' ol' => match ops.drop n with
      | o :: r => LoadC P T o env' (fun v => WSeg P T arr fl r (putE o.dst v env') ol' K)
      | [] => False) := h
    rcases Nat.lt_or_ge n ops.length with hn | hn
    · have hl : (ops.take n).length = n := by rw [List.length_take]; omega
      obtain ⟨o, r, hor⟩ : ∃ o r, ops.drop n = o :: r := by
        cases hq : ops.drop n with
        | nil => have := congrArg List.length hq; rw [List.length_drop, List.length_nil] at this; omega
        | cons o r => exact ⟨o, r, rfl⟩
      rw [hor] at h
      have hops : ops = ops.take n ++ (o :: r) := by rw [← hor, List.take_append_drop]
      rw [hops]
      refine Ex.pre hT (ops.take n) s env ol (fun i h1 h2 => ?_) h (fun env' ol' hh => ?_)
      · rw [hl] at h2
        rw [hf i h1]
        show (Nat.beq i (s + n) || (frL fl (s + n + 1)).any (Nat.beq i)) = false
        rw [frL_no fl (by omega), beq_ff (by omega)]; rfl
      · rw [hl]
        obtain ⟨v, hv, hs⟩ := LoadC.step hT (arr := arr) (ol := ol') hh
        have hfr : fr (s + n) = true := by
          rw [hf _ (by omega)]
          show (Nat.beq (s + n) (s + n) || _) = true
          rw [Nat.beq_refl]; rfl
        refine Ex.cons (v := v) (ol1 := ol') ?_ (WSeg.ex hT fl (s + n + 1) r _ _ (fun i hi => ?_) hv)
        · have : kdx fr (s + n) o = 0 := by unfold kdx; rw [hfr]; rfl
          rw [this]; exact hs
        · rw [hf i (by omega)]
          show (Nat.beq i (s + n) || _) = _
          rw [beq_ff (by omega)]; rfl
    · have e : ops.drop n = [] := List.drop_of_length_le hn
      rw [e] at h
      have := Ex.pre (r := []) hT (ops.take n) s env ol (fun i h1 h2 => ?_) (K := K) (fr := fr) (arr := arr) (P := P) (T := T) h (fun _ _ hh => hh.elim)
      · rwa [List.append_nil, List.take_of_length_le hn] at this
      · have : (ops.take n).length ≤ n := List.length_take_le _ _
        rw [hf i h1]
        show (Nat.beq i (s + n) || (frL fl (s + n + 1)).any (Nat.beq i)) = false
        rw [frL_no fl (by omega), beq_ff (by omega)]; rfl
theorem snd_drawX (hT : TOk P T) (hm : P.follows .mixedOrders = true) (fl : List Nat) {N id : Nat} {ol : OL} {Q : Exit → Env → OL → Prop} (hd : drawOkX ops (frF fl) = true) (hdst : dstOk N ops.toList = true)
    (h : WSeg P T ops fl ops.toList env ol (fun env' ol' => Q .normal env' ol')) : Snd P T N (.region id ops true) env ol Q := by
  intro X κ a w hP hTT hR hE hN hD
  obtain ⟨V, O, hO, hst, hK⟩ := WSeg.ex hT (fr := frF fl) fl 0 ops.toList env ol (fun i _ => rfl) h
  have hd := chkX_ok hd
  have ht : TrX P T ops (frF fl) env V O := ⟨fun k o hk => by have := hst k o (by rw [Array.getElem?_toList]; exact hk); rwa [Nat.zero_add] at this⟩
  have hDl : ∀ j, Dl (Array.replicate ops.size false) j = false := fun j => by
    simp only [Dl, Array.getD_eq_getD_getElem?, Array.getElem?_replicate]
    split <;> rfl
  have hM : MemX ops (frF fl) O (Dl (Array.replicate ops.size false)) ol.ob := by
    obtain ⟨e, q1, q2, q3, q4⟩ := nextAct ops (frF fl) ops.size 0 (by omega)
    rw [← hO]
    exact ⟨0, e, Mem1.start ht q1 q2 q3 q4 (fun i oi _ _ => by rw [hDl]; exact ⟨fun h => (by cases h), fun h => absurd h (Nat.not_lt_zero _)⟩) (fun i oi _ _ h => absurd h (Nat.not_lt_zero _)) (fun i oi _ _ _ => hDl i)⟩
  refine wp_region_any hm (draw_anyX hd ht hdst hP hTT (by rw [Array.length_toList] at hK; exact hK) _ _ a _ ?_ ⟨by simp, fun i oi _ hi => (by rw [hDl] at hi; cases hi), ⟨κ, ol.ob, hR.drew, fun t => ?_, hM⟩, hN, hD⟩)
  · unfold left
    exact Nat.le_trans (List.length_filter_le _ _) (by simp)
  · have e : Dl (Array.replicate ops.size false) = fun _ => false := funext hDl
    rw [e, envOf_none]
    exact hE t
section
variable {N : Nat} {id : Nat} {ol : OL} {Q : Exit → Env → OL → Prop}
theorem sdX (hT : TOk P T) (hm : P.follows .mixedOrders = true) (fl : List Nat) {y : Code} {env' : Env} {ol' : OL} (ho : drawOkX ops (frF fl) = true) (hd : dstOk N ops.toList = true)
    (h : ∀ R : Env → OL → Prop, R env' ol' → WSeg P T ops fl ops.toList env ol R) (hy : Snd P T N y env' ol' Q) : Snd P T N (.seq (.region id ops true) y) env ol Q :=
  snd_seq (snd_drawX hT hm fl ho hd (h _ hy))
theorem ldX (hT : TOk P T) (hm : P.follows .mixedOrders = true) (fl : List Nat) {env' : Env} {ol' : OL} (ho : drawOkX ops (frF fl) = true) (hd : dstOk N ops.toList = true)
    (h : ∀ R : Env → OL → Prop, R env' ol' → WSeg P T ops fl ops.toList env ol R) (hy : Q .normal env' ol') : Snd P T N (.region id ops true) env ol Q :=
  snd_drawX hT hm fl ho hd (h _ hy)
theorem wx_ldc {all : Array Oper} {fl : List Nat} {r : List Oper} {x : Operand} {t ty : TypeId} {d : Nat} {pos : String} {af : Array Edge} {K : Env → OL → Prop} {w v : AV} (hx : evE env x = .cptr w) (hk : (T.und t).known = true) (hv : HV w v) (hz : v.size = T.sz t) (ha : v.isAgg = (T.und t).isAgg)
    (hr : WSeg P T all fl r ((d, v) :: env) ol K) : LoadC P T ⟨some d, .load t x, ty, pos, af, none⟩ env (fun v => WSeg P T all fl r (putE (some d) v env) ol K) := by
  have := hv.eq; subst this
  exact ⟨rfl, t, x, _, rfl, hx, hk, hz, ha, hr⟩
end
theorem mt_expc {at_ : Nat → Nat → Option (AV × AV)} {d : Nat} {v : AV} (h : v.closed) (hn : v ≠ .any) : Mt V0 v (exp at_ d v) := by
  rw [exp_closed h]; exact Mt.rf h hn
end Go.Am

set_option linter.unusedVariables false
set_option linter.unusedSimpArgs false
namespace Go.Am
section
variable {P : Program} {T : TT} {N : Nat} {ks : List Nat} {env : Env} {ol : OL} {Q : Exit → Env → OL → Prop}
theorem srp (hT : TOk P T) {id : Nat} {ops : Array Oper} {y : Code} {env' : Env} {ol' : OL} (hd : dstOk N ops.toList = true)
    (h : ∀ R : Env → OL → Prop, R env' ol' → WOps P T ops ops.toList env ol R) (hy : Snp ks P T N y env' ol' Q) : Snp ks P T N (.seq (.region id ops false) y) env ol Q :=
  snp_seq (snp_region hT hd (h _ hy))
theorem lrp (hT : TOk P T) {id : Nat} {ops : Array Oper} {env' : Env} {ol' : OL} (hd : dstOk N ops.toList = true)
    (h : ∀ R : Env → OL → Prop, R env' ol' → WOps P T ops ops.toList env ol R) (hy : Q .normal env' ol') : Snp ks P T N (.region id ops false) env ol Q :=
  snp_region hT hd (h _ hy)
theorem sqp {c : Code} {env2 : Env} {ol2 : OL} (he : env = env2) (ho : ol = ol2) (h : Snp ks P T N c env2 ol2 Q) : Snp ks P T N c env ol Q := by
  subst he; subst ho; exact h
end
theorem emb_famR {ρ : Nat → Nat → Nat × Nat} {ko kf ko' kf' N e : Nat} {w : Nat → Nat} {F : Nat → Nat → Int} {g : Nat → AV} {env' env : Env} {ol' : OL} (h1' : ∀ i, ρ ko i = (ko', i)) (h2' : ∀ i, ρ kf i = (kf', i)) (hne : ko' ≠ kf')
    (hk : ko ≠ kf) (h1 : ol'.at_ ko' 0 = some (ZR N, .arr N g)) (hg : ∀ j, j < N → g j = .own kf' j (w j) e)
    (h3 : ∀ r, r < N → ∃ C, ol'.at_ kf' r = some (Z64 (w r), C) ∧ ∀ V : Vw, Mt V (C64 (w r) (F r)) C)
    (henv : envAll (fun t v => MtE (vwOf ρ ol' [(ko, .one (ZR N) (CO kf N w e)), (kf, .many (famF N w F))]) v (get env' t)) env) :
    Emb ρ env' ol' env [(ko, .one (ZR N) (CO kf N w e)), (kf, .many (famF N w F))] := by
  have hdom : OL.has [(ko, .one (ZR N) (CO kf N w e)), (kf, .many (famF N w F))] kf = true := by simp [OL.has]
  refine ⟨henv, ⟨?_, fun r sh cc h => ?_, trivial⟩, ⟨⟨fun _ => ⟨rfl, rfl⟩, fun r sh cc h he => ?_, trivial⟩, fun r sh cc h => ⟨fun he => ?_, fun r2' sh2 cc2 h2 he => ?_, trivial⟩, trivial⟩⟩
  · dsimp only
    rw [h1']
    dsimp only
    rw [h1]
    exact ⟨rfl, ⟨rfl, fun _ => trivial⟩, rfl, fun j hj => by rw [hg j hj]; exact ⟨h2' j, rfl, rfl, hdom⟩⟩
  · obtain ⟨hr, rfl, rfl⟩ := famF_some h
    rw [h2']
    dsimp only
    obtain ⟨C, h3, h4⟩ := h3 r hr
    rw [h3]
    exact ⟨rfl, ⟨rfl, fun _ => trivial⟩, h4 _⟩
  · rw [h1', h2'] at he
    exact absurd (congrArg Prod.fst he) hne
  · rw [h1', h2'] at he
    exact absurd (congrArg Prod.fst he).symm hne
  · rw [h2', h2'] at he
    exact ⟨rfl, congrArg Prod.snd he⟩
theorem rtp {T : TT} {ks : List Nat} {t : Nat} {env : Env} {ol H : OL} {r : AV} {ρ : Nat → Nat → Nat × Nat} (h : Emb ρ [(0, get env t)] ol [(0, r)] H) (hp : pins ks ρ H) : retQp ks T [.tmp t] r H .ret env ol := ⟨ρ, h, hp⟩
end Go.Am

set_option linter.unusedVariables false
set_option linter.unusedSimpArgs false
namespace Go.Am
theorem rt_own_u {T : TT} {env : Env} {ol : OL} {t s key n m e : Nat} {F G : Nat → AV} {sh : Nat → AV} {u : AV} (hx : get env t = .own key 0 n e) (hu : ∀ V, Mt V u (get env s)) (ho : ol.at_ key 0 = some (.arr n sh, .arr n G)) (hn : n = m) (hs : ∀ i, ssh (sh i) (F i)) (hf : ∀ V : Vw, ∀ i, i < m → Mt V (F i) (G i)) :
    retQ T [.tmp t, .tmp s] (.tup 2 (pairA (.own 0 0 m e) u)) [(0, .one (.arr m sh) (.arr m F))] .ret env ol := by
  subst hn
  refine ⟨fun _ _ => (key, 0), ⟨⟨rfl, fun i hi => ?_⟩, trivial⟩, ⟨?_, trivial⟩, ⟨⟨fun _ => ⟨rfl, rfl⟩, trivial⟩, trivial⟩⟩
  · match i, hi with
    | 0, _ =>
      show Mt _ (.own 0 0 n e) (get env t)
      rw [hx]
      exact ⟨rfl, rfl, rfl, rfl⟩
    | 1, _ => exact hu _
  · show (match ol.at_ key 0 with | some (sh', c') => _ | none => False)
    rw [ho]
    exact ⟨rfl, ⟨rfl, hs⟩, rfl, hf _⟩
theorem mt_vl0 {at_ : Nat → Nat → Option (AV × AV)} {k e N : Nat} {sh : AV} {S : Nat → Nat → Int} (h : at_ k 0 = some (sh, .arr N (fun i => vecA (S i)))) : Mt V0 (vlA N S) (exp at_ 4 (.own k 0 N e)) := by
  show Mt V0 _ (match at_ k 0 with | some (_, .arr m f) => AV.ro m (fun j => exp at_ 3 (f j)) | _ => .any)
  rw [h]
  exact ⟨rfl, fun j _ => mt_expc (closed_vec (n := 6)) (by simp)⟩
theorem mt_row0 {at_ : Nat → Nat → Option (AV × AV)} {k e N : Nat} {sh : AV} {f : Nat → Int} (h : at_ k 0 = some (sh, C64 N f)) : Mt V0 (rowA N f) (exp at_ 4 (.own k 0 N e)) := by
  show Mt V0 _ (match at_ k 0 with | some (_, .arr m f) => AV.ro m (fun j => exp at_ 3 (f j)) | _ => .any)
  rw [h]
  exact ⟨rfl, fun j _ => rfl⟩
theorem mt_int0 {at_ : Nat → Nat → Option (AV × AV)} {k : IntKind} {x : Int} : Mt V0 (.int k x) (exp at_ 4 (.int k x)) := rfl
theorem mt_nil0 {at_ : Nat → Nat → Option (AV × AV)} {S : Nat → AV} : Mt V0 (.ro 0 S) (exp at_ 4 .nilsl) := rfl
end Go.Am

set_option linter.unusedVariables false
set_option linter.unusedSimpArgs false
namespace Go.Am
abbrev T3 := Nat → Nat → Nat → Int
end Go.Am

set_option linter.unusedVariables false
set_option linter.unusedSimpArgs false
namespace Go.Am
def apF (p : Int) (F : Nat → Nat → Int) (v : Nat → Int) : Nat → Nat → Int
  | 0 => fun _ => 0
  | i + 1 => addF p (apF p F v i) (F i) (v i)
def starP (p : Int) (n : Nat) (T : T3) (fo : Nat → Int) (F : Nat → Nat → Int) : Prop :=
  ∀ i, i < n → (eqN 6 (apF p F (F i) n) (eF i) ∧ formF p fo (F i) = fo i) ∧ ∀ j, j < n → eqN 6 (apF p F (T i j) n) (timesF p n T (F j) (F i))
noncomputable instance (p : Int) (n : Nat) (T : T3) (fo : Nat → Int) (F : Nat → Nat → Int) : Decidable (starP p n T fo F) := Classical.propDecidable _
def liP (p : Int) (n : Int) (M : Nat) (F : Nat → Nat → Int) : Prop := (M : Int) = n ∧ ∀ i, i < M → smP p n (F i)
noncomputable instance (p n : Int) (M : Nat) (F : Nat → Nat → Int) : Decidable (liP p n M F) := Classical.propDecidable _
end Go.Am

set_option linter.unusedVariables false
set_option linter.unusedSimpArgs false
namespace Go.Am
def parD (c : Int) : Int := if 48 ≤ c ∧ c ≤ 57 then c - 48 else if 97 ≤ c ∧ c ≤ 99 then c - 87 else -1
def rdD (s : ByteArray) (i : Nat) : Int := parD (byteAt s i)
def rdOk (s : ByteArray) (n : Nat) : Prop := s.size = n ∧ ∀ i, i < n → 0 ≤ rdD s i
noncomputable instance (s : ByteArray) (n : Nat) : Decidable (rdOk s n) := Classical.propDecidable _
def rdF (s : ByteArray) (n : Nat) : Nat → Int := fun i => if i < n ∧ 0 ≤ rdD s i then rdD s i else 0
def rdV (p : Int) (n : Nat) (s : ByteArray) : Prop := rdOk s n ∧ smP p (n : Int) (rdF s n)
noncomputable instance (p : Int) (n : Nat) (s : ByteArray) : Decidable (rdV p n s) := Classical.propDecidable _
end Go.Am

set_option linter.unusedVariables false
set_option linter.unusedSimpArgs false
namespace Go.Am
section
variable {p : Int} {n : Nat} {A : Nat → Nat → Int}
end
section
variable {n i j r : Nat}
end
end Go.Am

set_option linter.unusedVariables false
set_option linter.unusedSimpArgs false
namespace Go.Am
end Go.Am

set_option linter.unusedVariables false
set_option linter.unusedSimpArgs false
namespace Go.Am
section
variable {p : Int} {n : Nat} {A : Nat → Nat → Int} {b : Nat → Int}
end
end Go.Am

set_option linter.unusedVariables false
set_option linter.unusedSimpArgs false
namespace Go.Am
section
variable {p : Int} {C W : Nat → Nat → Int} {i k l r z n : Nat}
end
end Go.Am

set_option linter.unusedVariables false
set_option linter.unusedSimpArgs false
namespace Go.Am
theorem idx_succ_f {P : Nat → Bool} {i : Nat} (h : P i = false) : idxF P (i + 1) = idxF P i := by
  rcases idx_cases P i with ⟨a, ha, hP, hb, he⟩ | ⟨hn, he⟩
  · rw [he]; exact idx_at (by omega) hP hb
  · rw [he]; exact idx_none (fun j hj => by rcases Nat.lt_or_ge j i with h1 | h1; (exact hn j h1); (rw [show j = i by omega]; exact h))
theorem idx_succ_t {P : Nat → Bool} {i : Nat} (h : P i = true) (hb : ∀ j, j < i → P j = false) : idxF P (i + 1) = i := idx_at (by omega) h hb
theorem idx_pos {P : Nat → Bool} {m : Nat} (h : 0 ≤ idxF P m) : ∃ i, i < m ∧ P i = true ∧ idxF P m = i := by
  rcases idx_cases P m with ⟨a, ha, hP, hb, he⟩ | ⟨hn, he⟩
  · exact ⟨a, ha, hP, he⟩
  · rw [he] at h; omega
section
variable {p : Int} {m no c i z : Nat} {O : Nat → Nat → Int} {l : Nat → Nat}
theorem rr_leadN (h : Rref p m no O l) {i : Nat} (hi : i < no) : leadN m (O i) = l i := leadN_of (h.lead i hi)
theorem rr_lt (h : Rref p m no O l) {i : Nat} (hi : i < no) : leadN m (O i) < m := by rw [rr_leadN h hi]; exact (h.lead i hi).1
theorem rr_inj (h : Rref p m no O l) {i j : Nat} (hi : i < no) (hj : j < i) : leadN m (O j) ≠ leadN m (O i) := by
  rw [rr_leadN h hi, rr_leadN h (by omega)]
  have := h.inc j i hj hi
  omega
theorem ldB_no (h : ldB m no O c = false) {i : Nat} (hi : i < no) : leadN m (O i) ≠ c := by
  unfold ldB at h
  intro he
  rcases idx_cases (fun i => decide (leadN m (O i) = c)) no with ⟨a, _, _, _, hx⟩ | ⟨hn, _⟩
  · rw [hx] at h; simp at h
  · have := hn i hi; rw [decide_eq_false_iff_not] at this; exact this he
theorem ldB_int : decide (0 ≤ idxF (fun i => decide (((c : Nat) : Int) = ((leadN m (O i) : Nat) : Int))) no) = ldB m no O c := by
  unfold ldB
  rw [idxF_congr (P := fun i => decide (((c : Nat) : Int) = ((leadN m (O i) : Nat) : Int))) (Q := fun i => decide (leadN m (O i) = c)) (fun i _ => decide_eq_decide.2 (by omega))]
theorem kcN_t (h : ldB m no O c = true) : kcN m no O (c + 1) = kcN m no O c := by show (bif ldB m no O c then _ else _) = _; rw [h]; rfl
theorem kcN_f (h : ldB m no O c = false) : kcN m no O (c + 1) = kcN m no O c + 1 := by show (bif ldB m no O c then _ else _) = _; rw [h]; rfl
theorem kbF_t (h : ldB m no O c = true) : kbF p m no O (c + 1) = kbF p m no O c := by show (bif ldB m no O c then _ else _) = _; rw [h]; rfl
theorem kbF_f (h : ldB m no O c = false) : kbF p m no O (c + 1) = fun i => if i = kcN m no O c then kvF p m no O c else kbF p m no O c i := by show (bif ldB m no O c then _ else _) = _; rw [h]; rfl
theorem kv_init : upd (fun _ => (0 : Int)) c 1 z = kvF p m 0 O c z := by
  unfold upd kvF
  by_cases h : z = c
  · rw [if_pos h, if_pos h]
  · rw [if_neg h, if_neg h, show ldB m 0 O z = false by unfold ldB; rw [idx_none (fun j hj => absurd hj (Nat.not_lt_zero _))]; rfl]; rfl
theorem kv_step (h : Rref p m no O l) (hi : i < no) (hc : ldB m no O c = false) : upd (kvF p m i O c) (leadN m (O i)) ((- O i c) % p) z = kvF p m (i + 1) O c z := by
  have hne := ldB_no hc hi
  unfold upd
  by_cases hz : z = leadN m (O i)
  · subst hz
    rw [if_pos rfl]
    unfold kvF ldB
    rw [idx_succ_t (i := i) (by simp) (fun j hj => by rw [decide_eq_false_iff_not]; exact rr_inj h hi hj), if_neg hne]
    simp
  · rw [if_neg hz]
    unfold kvF ldB
    rw [idx_succ_f (i := i) (by rw [decide_eq_false_iff_not]; exact fun q => hz q.symm)]
def ldA (m : Nat) (O : Nat → Nat → Int) (i j : Nat) : Int := idxF (fun r => decide (leadN m (O r) = j)) i + 1
theorem ldA_0 {j : Nat} : 0 = ldA m O 0 j := by unfold ldA; rw [idx_none (fun j hj => absurd hj (Nat.not_lt_zero _))]; rfl
theorem ldA_step (h : Rref p m no O l) (hi : i < no) : upd (ldA m O i) (leadN m (O i)) ((i : Int) + 1) z = ldA m O (i + 1) z := by
  unfold upd
  by_cases hz : z = leadN m (O i)
  · subst hz
    rw [if_pos rfl]
    unfold ldA
    rw [idx_succ_t (i := i) (by simp) (fun j hj => by rw [decide_eq_false_iff_not]; exact rr_inj h hi hj)]
  · rw [if_neg hz]
    unfold ldA
    rw [idx_succ_f (i := i) (by rw [decide_eq_false_iff_not]; exact fun q => hz q.symm)]
theorem ldA_pos {j : Nat} : decide (ldA m O no j > 0) = ldB m no O j := by unfold ldA ldB; exact decide_eq_decide.2 (by omega)
theorem ldA_bd {j : Nat} (h : ldB m no O j = true) : ∃ r, r < no ∧ leadN m (O r) = j ∧ ldA m O no j = (r : Int) + 1 := by
  unfold ldB at h
  obtain ⟨r, hr, hP, he⟩ := idx_pos (of_decide_eq_true h)
  exact ⟨r, hr, of_decide_eq_true hP, by unfold ldA; rw [he]⟩
def kvM (p : Int) (m no : Nat) (O : Nat → Nat → Int) (c j z : Nat) : Int := if z < j then kvF p m no O c z else if z = c then 1 else 0
theorem kvM_0 : upd (fun _ => (0 : Int)) c 1 z = kvM p m no O c 0 z := by unfold upd kvM; rw [if_neg (Nat.not_lt_zero _)]
theorem kvM_n (hz : z < m) : kvM p m no O c m z = kvF p m no O c z := by unfold kvM; rw [if_pos hz]
theorem kvM_f {j : Nat} (h : ldB m no O j = false) : kvM p m no O c j z = kvM p m no O c (j + 1) z := by
  unfold kvM
  by_cases h1 : z < j
  · rw [if_pos h1, if_pos (by omega)]
  · rw [if_neg h1]
    by_cases h2 : z = j
    · subst h2; rw [if_pos (show z < z + 1 by omega)]; unfold kvF; rw [h]; simp
    · rw [if_neg (show ¬ z < j + 1 by omega)]
theorem kvM_t {j r : Nat} (hc : ldB m no O c = false) (h : ldB m no O j = true) (hA : ldA m O no j = (r : Int) + 1) : upd (kvM p m no O c j) j ((- O r c) % p) z = kvM p m no O c (j + 1) z := by
  unfold upd
  by_cases h2 : z = j
  · subst h2
    rw [if_pos rfl]
    unfold kvM
    rw [if_pos (by omega)]
    unfold kvF
    rw [h, if_neg (fun q => by subst q; rw [hc] at h; cases h), if_pos rfl]
    unfold ldA at hA
    rw [show idxF (fun i => decide (leadN m (O i) = z)) no = (r : Int) by omega]; rfl
  · rw [if_neg h2]
    unfold kvM
    by_cases h1 : z < j
    · rw [if_pos h1, if_pos (by omega)]
    · rw [if_neg h1, if_neg (show ¬ z < j + 1 by omega)]
end
end Go.Am

set_option linter.unusedVariables false
set_option linter.unusedSimpArgs false
namespace Go.Am
theorem rows_cl {P : Program} {T : TT} {f : FuncId} {ars : List AV} {N m e : Nat} {O : Nat → Nat → Int} (h : ACalls P T f ars (.own 0 0 N e) (HRR N m O)) : ACalls P T f ars (rowsA N m O) [] :=
  h.res (ρ := ρ0) ⟨⟨mt_fz (by exact trivial) rfl (fun _ _ => mt_row (fun _ _ => rfl)), trivial⟩, trivial, trivial⟩
theorem closed_ci {k : IntKind} {n : Int} : (AV.cptr (.int k n)).closed := trivial
theorem kerS_le {p : Int} {n N : Nat} {R : Nat → Nat → Int} : (kerS p n N R).no ≤ n := red_le.1
theorem kerS_Bp {p : Int} (hp : primeB p = true) {n N : Nat} {R : Nat → Nat → Int} {i : Nat} (hi : i < (kerS p n N R).no) : Bp p ((kerS p n N R).O i) := by
  have hpb := primeB_bd hp
  exact red_Bp hp (fun i _ => kbF_Bp (by omega) _ _ _ _ i) hi
theorem kerE_Bp {p : Int} (hp : primeB p = true) {n N : Nat} {R : Nat → Nat → Int} (hR : ∀ i, i < N → Bp p (R i)) {i : Nat} (hi : i < (kerE p n N R).no) : Bp p ((kerE p n N R).O i) := by
  have hpb := primeB_bd hp
  exact ech_Bp hp (fun i _ => kbF_Bp (by omega) _ _ _ _ i) hi
def kerR (p : Int) (n N : Nat) (R : Nat → Nat → Int) (i : Nat) : Nat → Int := if i < (kerS p n N R).no then cutF ((kerS p n N R).O i) n else fun _ => 0
theorem kerR_at {p : Int} {n N : Nat} {R : Nat → Nat → Int} {i : Nat} (hi : i < (kerS p n N R).no) : kerR p n N R i = cutF ((kerS p n N R).O i) n := if_pos hi
theorem eqR_Bp {p : Int} {n : Nat} {Fv : Nat → Nat → Nat → Int} (h : ∀ x i, Bp p (Fv x i)) (r : Nat) : Bp p (eqR n Fv r) := fun i => h (r / n) i (r % n)
end Go.Am

set_option linter.unusedVariables false
set_option linter.unusedSimpArgs false
namespace Go.Am
section
variable {p : Int} {n : Nat} {A : Nat → Nat → Int}
end
def prF (p n : Int) (T : Nat → Nat → Nat → Int) (fo : Nat → Int) (q m : Int) (S : Nat → Nat → Nat → Int) (go : Nat → Int) (Y : Nat → Nat → Int) : Nat → AV
  | 0 => algA p n T fo
  | 1 => algA q m S go
  | 2 => matA Y
  | _ => .any
abbrev prA (p n : Int) (T : Nat → Nat → Nat → Int) (fo : Nat → Int) (q m : Int) (S : Nat → Nat → Nat → Int) (go : Nat → Int) (Y : Nat → Nat → Int) : AV := .sct 3 (prF p n T fo q m S go Y)
section
variable {p n q m p' n' q' m' : Int} {T S T' S' : Nat → Nat → Nat → Int} {fo go fo' go' : Nat → Int} {Y Y' : Nat → Nat → Int} {V : Vw}
theorem ssh_pr : ssh (prA p n T fo q m S go Y) (prA p' n' T' fo' q' m' S' go' Y') := by
  refine ⟨rfl, fun i => ?_⟩
  match i with
  | 0 => exact ssh_alg
  | 1 => exact ssh_alg
  | 2 => exact ssh_mat
  | n + 3 => exact trivial
theorem prF_congr {f : Nat → AV} (h0 : f 0 = algA p n T fo) (h1 : f 1 = algA q m S go) (h2 : f 2 = matA Y) (h4 : ∀ i, f (i + 3) = .any) : AV.sct 3 f = prA p n T fo q m S go Y := by
  refine congrArg (AV.sct 3) (funext fun i => ?_)
  match i with
  | 0 => exact h0
  | 1 => exact h1
  | 2 => exact h2
  | i + 3 => exact h4 i
theorem put_pr0 : put (prA p n T fo q m S go Y) [0] (algA p' n' T' fo') = prA p' n' T' fo' q m S go Y := prF_congr put_nil rfl rfl (fun _ => rfl)
theorem put_pr1 : put (prA p n T fo q m S go Y) [1] (algA p' n' T' fo') = prA p n T fo p' n' T' fo' Y := prF_congr rfl put_nil rfl (fun _ => rfl)
theorem put_pr2 : put (prA p n T fo q m S go Y) [2] (matA Y') = prA p n T fo q m S go Y' := prF_congr rfl rfl put_nil (fun _ => rfl)
variable {at_ : Nat → Nat → Option (AV × AV)} {d : Nat}
end
section
variable {z : Nat → Int}
end
section
variable {p : Int} {n m : Nat} {T S : Nat → Nat → Nat → Int} {fo go : Nat → Int} {Y : Nat → Nat → Int}
def zvP (p : Int) (n m : Nat) (Y : Nat → Nat → Int) (i : Nat) : Prop := smP p (m : Int) (Y i) ∧ (n ≤ i → eqN 6 (Y i) (fun _ => 0))
def prS (p : Int) (n m : Nat) (T S : Nat → Nat → Nat → Int) (Y : Nat → Nat → Int) : Prop :=
  ((∀ i, i < 6 → zvP p n m Y i) ∧ ∀ i, i < n → (∀ j, j < n → eqN 6 (apF p Y (T i j) n) (timesF p m S (Y i) (Y j))) ∧ ∀ j, j < m → eqN 6 (timesF p m S (Y i) (eF j)) (timesF p m S (eF j) (Y i))) ∧ eqN 6 (apF p Y (uF p n T) n) (uF p m S)
def prI (p : Int) (n m : Nat) (T S : Nat → Nat → Nat → Int) (Y : Nat → Nat → Int) : Prop :=
  (∀ i, i < 6 → (zvP p n m Y i ∧ ∀ j, j < m → eqN 6 (timesF p m S (Y i) (eF j)) (timesF p m S (eF j) (Y i))) ∧ ∀ j, j < 6 → eqN 6 (apF p Y (T i j) 6) (timesF p m S (Y i) (Y j))) ∧ eqN 6 (apF p Y (uF p n T) 6) (uF p m S)
noncomputable instance {i : Nat} : Decidable (zvP p n m Y i) := Classical.propDecidable _
noncomputable instance : Decidable (prS p n m T S Y) := Classical.propDecidable _
noncomputable instance : Decidable (prI p n m T S Y) := Classical.propDecidable _
theorem times_zl {v w : Nat → Int} (h : ∀ i, i < m → v i = 0) : timesF p m S v w = fun _ => 0 := by
  funext k
  unfold timesF
  split
  · rw [sumZ_congr (g := fun _ => 0) m (fun i hi => ?_), sumZ_zero, Int.zero_emod]
    unfold rowS
    rw [sumZ_congr (g := fun _ => 0) m (fun j hj => ?_), sumZ_zero]
    unfold tm; rw [h i hi, Int.zero_mul, Int.zero_mul]
  · rfl
theorem times_zr {v w : Nat → Int} (h : ∀ i, i < m → w i = 0) : timesF p m S v w = fun _ => 0 := by
  funext k
  unfold timesF
  split
  · rw [sumZ_congr (g := fun _ => 0) m (fun i hi => ?_), sumZ_zero, Int.zero_emod]
    unfold rowS
    rw [sumZ_congr (g := fun _ => 0) m (fun j hj => ?_), sumZ_zero]
    unfold tm; rw [h j hj, Int.mul_zero, Int.zero_mul]
  · rfl
theorem uF_z {i : Nat} (h : n ≤ i) : uF p n T i = 0 := by
  unfold uF
  split
  · unfold cutF; rw [if_neg (by omega)]
  · rfl
end
end Go.Am

set_option linter.unusedVariables false
set_option linter.unusedSimpArgs false
namespace Go.Am
end Go.Am

set_option linter.unusedVariables false
set_option linter.unusedSimpArgs false
namespace Go.Am
structure PN (p : Int) (n : Nat) (T : Nat → Nat → Nat → Int) (fo : Nat → Int) (m : Nat) (S : Nat → Nat → Nat → Int) (go : Nat → Int) (Y : Nat → Nat → Int) : Prop where
  v : VN p n T fo
  w : VN p m S go
  c : comN n T
  r : rankT p n T fo = n
  s : rankT p m S go = m
  y : symA m (formT p S go)
  z : prS p n m T S Y
def PR (p n : Int) (T : Nat → Nat → Nat → Int) (fo : Nat → Int) (q m : Int) (S : Nat → Nat → Nat → Int) (go : Nat → Int) (Y : Nat → Nat → Int) : Prop :=
  ∃ a b : Nat, n = (a : Int) ∧ m = (b : Int) ∧ q = p ∧ PN p a T fo b S go Y
noncomputable instance {p n : Int} {T : Nat → Nat → Nat → Int} {fo : Nat → Int} {q m : Int} {S : Nat → Nat → Nat → Int} {go : Nat → Int} {Y : Nat → Nat → Int} : Decidable (PR p n T fo q m S go Y) := Classical.propDecidable _
section
variable {p n q m : Int} {T S : Nat → Nat → Nat → Int} {fo go : Nat → Int} {Y : Nat → Nat → Int}
end
end Go.Am
namespace Go.Am
end Go.Am

set_option linter.unusedVariables false
set_option linter.unusedSimpArgs false
namespace Go.Am
section
variable {p : Int} {n : Nat} {C : Nat → Nat → Int} {o : Nat → Int}
end
end Go.Am
namespace Go.Am
end Go.Am

set_option linter.unusedVariables false
set_option linter.unusedSimpArgs false
namespace Go.Am
def tnF (p n i o : Int) (s : AV) : Nat → AV
  | 0 => .int .i64 p
  | 1 => .int .i64 n
  | 2 => .int .i64 i
  | 3 => .int .i64 o
  | 4 => s
  | _ => .any
abbrev tnA (p n i o : Int) (s : AV) : AV := .sct 5 (tnF p n i o s)
section
variable {p n i o p' n' i' o' : Int} {s s' : AV} {V : Vw}
theorem sshTn (h : ssh s s') : ssh (tnA p n i o s) (tnA p' n' i' o' s') := by
  refine ⟨rfl, fun k => ?_⟩
  match k with
  | 0 => exact trivial
  | 1 => exact trivial
  | 2 => exact trivial
  | 3 => exact trivial
  | 4 => exact h
  | k + 5 => exact trivial
theorem tnF_congr {f : Nat → AV} (h0 : f 0 = .int .i64 p) (h1 : f 1 = .int .i64 n) (h2 : f 2 = .int .i64 i) (h3 : f 3 = .int .i64 o) (h : f 4 = s) (h5 : ∀ k, f (k + 5) = .any) : AV.sct 5 f = tnA p n i o s := by
  refine congrArg (AV.sct 5) (funext fun k => ?_)
  match k with
  | 0 => exact h0
  | 1 => exact h1
  | 2 => exact h2
  | 3 => exact h3
  | 4 => exact h
  | k + 5 => exact h5 k
theorem put_tn4 : put (tnA p n i o s) [4] s' = tnA p n i o s' := tnF_congr rfl rfl rfl rfl put_nil (fun _ => rfl)
end
end Go.Am

set_option linter.unusedVariables false
set_option linter.unusedSimpArgs false
namespace Go.Am
end Go.Am
namespace Go.Am
end Go.Am

set_option linter.unusedVariables false
set_option linter.unusedSimpArgs false
namespace Go.Am
def bin : Nat → Nat → Nat
  | 0, 0 => 1
  | 0, _ + 1 => 0
  | _ + 1, 0 => 1
  | k + 1, i + 1 => bin k i + bin k (i + 1)
def D2 : Nat → (Nat → Int) → Int
  | 0, f => f 0
  | k + 1, f => D2 k f + D2 k (fun i => f (i + 1))
theorem sumZ_first (f : Nat → Int) : ∀ m, sumZ f (m + 1) = f 0 + sumZ (fun i => f (i + 1)) m
  | 0 => by simp [sumZ]
  | m + 1 => by
    show sumZ f (m + 1) + f (m + 1) = f 0 + (sumZ (fun i => f (i + 1)) m + f (m + 1))
    rw [sumZ_first f m]; omega
theorem bin_0 : ∀ k, bin k 0 = 1
  | 0 => rfl
  | _ + 1 => rfl
theorem bin_big : ∀ k i, k < i → bin k i = 0
  | 0, i + 1, _ => rfl
  | k + 1, i + 1, h => by show bin k i + bin k (i + 1) = 0; rw [bin_big k i (by omega), bin_big k (i + 1) (by omega)]
theorem bin_self : ∀ k, bin k k = 1
  | 0 => rfl
  | k + 1 => by show bin k k + bin k (k + 1) = 1; rw [bin_self k, bin_big k (k + 1) (by omega)]
theorem D2_bin : ∀ k f, D2 k f = sumZ (fun i => (bin k i : Int) * f i) (k + 1)
  | 0, f => by simp [D2, sumZ, bin]
  | k + 1, f => by
    show D2 k f + D2 k (fun i => f (i + 1)) = _
    rw [D2_bin k f, D2_bin k (fun i => f (i + 1)), sumZ_first (fun i => (bin (k + 1) i : Int) * f i) (k + 1)]
    have e : sumZ (fun i => (bin k i : Int) * f i) (k + 1) = (bin k 0 : Int) * f 0 + sumZ (fun i => (bin k (i + 1) : Int) * f (i + 1)) (k + 1) := by
      have h1 := sumZ_first (fun i => (bin k i : Int) * f i) (k + 1)
      have h2 : sumZ (fun i => (bin k i : Int) * f i) (k + 1 + 1) = sumZ (fun i => (bin k i : Int) * f i) (k + 1) + (bin k (k + 1) : Int) * f (k + 1) := rfl
      rw [bin_big k (k + 1) (by omega)] at h2
      omega
    rw [e, bin_0, bin_0]
    have e2 : sumZ (fun i => (bin (k + 1) (i + 1) : Int) * f (i + 1)) (k + 1) = sumZ (fun i => (bin k (i + 1) : Int) * f (i + 1) + (bin k i : Int) * f (i + 1)) (k + 1) := sumZ_congr _ (fun i _ => by
      show ((bin k i + bin k (i + 1) : Nat) : Int) * f (i + 1) = _
      rw [Int.natCast_add, Int.add_mul, Int.add_comm])
    rw [e2, sumZ_add]
    omega
theorem D2_congr : ∀ k {f g : Nat → Int}, (∀ i, i ≤ k → f i = g i) → D2 k f = D2 k g
  | 0, f, g, h => h 0 (by omega)
  | k + 1, f, g, h => by
    show D2 k f + _ = D2 k g + _
    rw [D2_congr k (fun i hi => h i (by omega)), D2_congr k (f := fun i => f (i + 1)) (g := fun i => g (i + 1)) (fun i hi => h (i + 1) (by omega))]
theorem bin_prime {P : Nat} (hp : primeB (P : Int) = true) : ∀ i, i < P → i ≠ 0 → bin P i % P = 0 := by
  have h : P = 2 ∨ P = 3 ∨ P = 5 ∨ P = 7 ∨ P = 11 ∨ P = 13 := by
    unfold primeB at hp
    simp only [Bool.or_eq_true, decide_eq_true_eq] at hp
    omega
  rcases h with rfl | rfl | rfl | rfl | rfl | rfl <;> decide
theorem fermat {P : Nat} (hp : primeB (P : Int) = true) {c : Nat} (hc : c < P) : c ^ P % P = c := by
  have h : P = 2 ∨ P = 3 ∨ P = 5 ∨ P = 7 ∨ P = 11 ∨ P = 13 := by
    unfold primeB at hp
    simp only [Bool.or_eq_true, decide_eq_true_eq] at hp
    omega
  revert c
  rcases h with rfl | rfl | rfl | rfl | rfl | rfl <;> decide
theorem fermatI {P : Nat} (hp : primeB (P : Int) = true) {c : Int} (hc : 0 ≤ c ∧ c < (P : Int)) : (P : Int) ∣ c ^ P - c := by
  obtain ⟨m, rfl⟩ : ∃ m : Nat, c = (m : Int) := ⟨c.toNat, by omega⟩
  have h := fermat hp (c := m) (by omega)
  have e : ((m : Int) ^ P) = ((m ^ P : Nat) : Int) := (Int.natCast_pow m P).symm
  rw [e]
  refine ⟨((m ^ P / P : Nat) : Int), ?_⟩
  have := Nat.div_add_mod (m ^ P) P
  rw [h] at this
  have h3 : ((m ^ P : Nat) : Int) = (P : Int) * ((m ^ P / P : Nat) : Int) + (m : Int) := by
    rw [← Int.natCast_mul, ← Int.natCast_add, this]
  omega
theorem D2_prime {P : Nat} (hp : primeB (P : Int) = true) (f : Nat → Int) : (P : Int) ∣ D2 P f - (f 0 + f P) := by
  have hb := primeB_bd hp
  rw [D2_bin]
  obtain ⟨m, rfl⟩ : ∃ m, P = m + 1 := ⟨P - 1, by omega⟩
  show ((m + 1 : Nat) : Int) ∣ (sumZ (fun i => (bin (m + 1) i : Int) * f i) (m + 1) + (bin (m + 1) (m + 1) : Int) * f (m + 1)) - (f 0 + f (m + 1))
  rw [sumZ_first, bin_0, bin_self]
  have h : ((m + 1 : Nat) : Int) ∣ sumZ (fun i => (bin (m + 1) (i + 1) : Int) * f (i + 1)) m - sumZ (fun _ => 0) m := sumZ_dvd m (fun i hi => by
    have := bin_prime hp (i + 1) (by omega) (by omega)
    rw [Int.sub_zero]
    exact Int.dvd_mul_of_dvd_left (Int.natCast_dvd_natCast.2 (Nat.dvd_of_mod_eq_zero this)))
  rw [sumZ_zero, Int.sub_zero] at h
  rw [show ((1 : Nat) : Int) * f 0 + sumZ (fun i => (bin (m + 1) (i + 1) : Int) * f (i + 1)) m + ((1 : Nat) : Int) * f (m + 1) - (f 0 + f (m + 1)) = sumZ (fun i => (bin (m + 1) (i + 1) : Int) * f (i + 1)) m by omega]
  exact h
section
variable {p : Int} {n : Nat} {T : Nat → Nat → Nat → Int} {fo : Nat → Int}
theorem pz_zero_l (v : Nat → Int) (k : Nat) : pz n T (fun _ => 0) v k = 0 := by
  unfold pz
  rw [sumZ_congr (g := fun _ => 0) n (fun i _ => by rw [sumZ_congr (g := fun _ => 0) n (fun j _ => by rw [Int.zero_mul, Int.zero_mul]), sumZ_zero]), sumZ_zero]
theorem pz_zero_r (v : Nat → Int) (k : Nat) : pz n T v (fun _ => 0) k = 0 := by
  unfold pz
  rw [sumZ_congr (g := fun _ => 0) n (fun i _ => by rw [sumZ_congr (g := fun _ => 0) n (fun j _ => by rw [Int.mul_zero, Int.zero_mul]), sumZ_zero]), sumZ_zero]
theorem pz_scl_r (u w : Nat → Int) (c : Int) (k : Nat) : pz n T u (fun j => c * w j) k = c * pz n T u w k := by
  have := pz_add_r (T := T) (n := n) u (fun _ => 0) w c k
  rw [pz_zero_r, Int.zero_add] at this
  rw [← this]; congr 1; funext j; rw [Int.zero_add]
theorem pz_scl_l (u w : Nat → Int) (c : Int) (k : Nat) : pz n T (fun j => c * w j) u k = c * pz n T w u k := by
  have := pz_add_l (T := T) (n := n) u (fun _ => 0) w c k
  rw [pz_zero_l, Int.zero_add] at this
  rw [← this]; congr 1; funext j; rw [Int.zero_add]
theorem times_add_r (x u v : Nat → Int) {z : Nat} (hz : z < n) : p ∣ timesF p n T x (addF p u v 1) z - (timesF p n T x u z + timesF p n T x v z) := by
  have h1 := cg_times (p := p) (n := n) (T := T) x (addF p u v 1) z hz
  have h2 := pz_cg (p := p) (n := n) (T := T) (cg.rf x) (show cg p n (addF p u v 1) (fun j => u j + 1 * v j) from fun j _ => dvd_mod p _) z
  rw [pz_add_r, Int.one_mul] at h2
  have h3 := cg_times (p := p) (n := n) (T := T) x u z hz
  have h4 := cg_times (p := p) (n := n) (T := T) x v z hz
  have h5 := Int.dvd_add (dvd_sy h3) (dvd_sy h4)
  have h6 := dvd_tr h1 h2
  have := Int.dvd_add h6 h5
  rwa [show timesF p n T x (addF p u v 1) z - (pz n T x u z + pz n T x v z) + (pz n T x u z - timesF p n T x u z + (pz n T x v z - timesF p n T x v z)) = timesF p n T x (addF p u v 1) z - (timesF p n T x u z + timesF p n T x v z) by omega] at this
theorem T_com (h : VN p n T fo) (hc : comN n T) {i j k : Nat} (hi : i < n) (hj : j < n) (hk : k < 6) : T i j k = T j i k := by
  have hP := (com_iff h).2 hc
  have hn := h.n6
  rcases Nat.lt_trichotomy i j with h1 | h1 | h1
  · exact (hP j (by omega) i h1 k hk).symm
  · subst h1; rfl
  · exact hP i (by omega) j h1 k hk
theorem times_com (h : VN p n T fo) (hc : comN n T) (u v : Nat → Int) : timesF p n T u v = timesF p n T v u := by
  have hn := h.n6
  funext k
  by_cases hk : k < n
  · rw [times_pz hk, times_pz hk]
    congr 1
    unfold pz
    rw [sumZ_swap]
    refine sumZ_congr n (fun j hj => sumZ_congr n (fun i hi => ?_))
    rw [T_com h hc hi hj (by omega), Int.mul_comm (u i)]
  · unfold timesF; rw [if_neg hk, if_neg hk]
noncomputable def pw (p : Int) (n : Nat) (T : Nat → Nat → Nat → Int) (v : Nat → Int) (k : Nat) : Nat → Int := powV p n T (uF p n T) v k
theorem pw_VV (h : VN p n T fo) (v : Nat → Int) : ∀ k, VV p n (pw p n T v k)
  | 0 => ⟨h.u_Bp, fun k hk => uF_z hk⟩
  | k + 1 => VV.times h.pp
theorem pw_s {v : Nat → Int} {k : Nat} : pw p n T v (k + 1) = timesF p n T (pw p n T v k) v := rfl
theorem pw_1 (h : VN p n T fo) {v : Nat → Int} (hv : VV p n v) : pw p n T v 1 = v := h.one_l hv
theorem pw_add (h : VN p n T fo) (v : Nat → Int) (a : Nat) : ∀ b, timesF p n T (pw p n T v a) (pw p n T v b) = pw p n T v (a + b)
  | 0 => h.one_r (pw_VV h v a)
  | b + 1 => by rw [pw_s, ← h.asc', pw_add h v a b]; rfl
theorem pw_l (h : VN p n T fo) {v : Nat → Int} (hv : VV p n v) (k : Nat) : timesF p n T v (pw p n T v k) = pw p n T v (k + 1) := by
  have := pw_add h v 1 k
  rw [pw_1 h hv, Nat.add_comm] at this
  exact this
theorem pw_mul (h : VN p n T fo) (v : Nat → Int) (a : Nat) : ∀ b, pw p n T (pw p n T v a) b = pw p n T v (a * b)
  | 0 => rfl
  | b + 1 => by rw [pw_s, pw_mul h v a b, pw_add h, Nat.mul_succ]
noncomputable def mx (p : Int) (n : Nat) (T : Nat → Nat → Nat → Int) (u v : Nat → Int) (a b : Nat) : Nat → Int := timesF p n T (pw p n T u a) (pw p n T v b)
theorem mx_u (h : VN p n T fo) {u v : Nat → Int} (hu : VV p n u) (a b : Nat) : timesF p n T u (mx p n T u v a b) = mx p n T u v (a + 1) b := by
  unfold mx; rw [← h.asc', pw_l h hu]
theorem mx_v (h : VN p n T fo) (hc : comN n T) {u v : Nat → Int} (hv : VV p n v) (a b : Nat) : timesF p n T v (mx p n T u v a b) = mx p n T u v a (b + 1) := by
  unfold mx; rw [← h.asc', times_com h hc v, h.asc', pw_l h hv]
theorem newton (h : VN p n T fo) (hc : comN n T) {u v : Nat → Int} (hu : VV p n u) (hv : VV p n v) {z : Nat} (hz : z < n) : ∀ k a b, p ∣ timesF p n T (pw p n T (addF p u v 1) k) (mx p n T u v a b) z - D2 k (fun i => mx p n T u v (a + i) (b + k - i) z)
  | 0, a, b => by
    rw [show timesF p n T (pw p n T (addF p u v 1) 0) (mx p n T u v a b) = mx p n T u v a b from h.one_l (VV.times h.pp)]
    exact dvd_rf rfl
  | k + 1, a, b => by
    rw [pw_s, h.asc']
    have hw : timesF p n T (addF p u v 1) (mx p n T u v a b) = addF p (mx p n T u v (a + 1) b) (mx p n T u v a (b + 1)) 1 := by
      refine VV.ext (VV.times h.pp) (VV.add h.pp (VV.times h.pp) (VV.times h.pp) 1) (fun j hj => ?_)
      rw [times_com h hc]
      have h1 := times_add_r (p := p) (T := T) (mx p n T u v a b) u v hj
      rw [times_com h hc _ u, times_com h hc _ v, mx_u h hu, mx_v h hc hv] at h1
      refine dvd_tr h1 (dvd_sy ?_)
      show p ∣ (mx p n T u v (a + 1) b j + 1 * mx p n T u v a (b + 1) j) % p - _
      rw [Int.one_mul]
      exact dvd_mod p _
    rw [hw]
    have h1 := times_add_r (p := p) (T := T) (pw p n T (addF p u v 1) k) (mx p n T u v (a + 1) b) (mx p n T u v a (b + 1)) hz
    have h2 := newton h hc hu hv hz k (a + 1) b
    have h3 := newton h hc hu hv hz k a (b + 1)
    have h4 := Int.dvd_add h1 (Int.dvd_add h2 h3)
    have e1 : D2 k (fun i => mx p n T u v (a + i) (b + (k + 1) - i) z) = D2 k (fun i => mx p n T u v (a + i) (b + 1 + k - i) z) := D2_congr k (fun i hi => by rw [show b + (k + 1) - i = b + 1 + k - i by omega])
    have e2 : D2 k (fun i => mx p n T u v (a + (i + 1)) (b + (k + 1) - (i + 1)) z) = D2 k (fun i => mx p n T u v (a + 1 + i) (b + k - i) z) := D2_congr k (fun i hi => by rw [show b + (k + 1) - (i + 1) = b + k - i by omega, show a + (i + 1) = a + 1 + i by omega])
    show p ∣ _ - (D2 k (fun i => mx p n T u v (a + i) (b + (k + 1) - i) z) + D2 k (fun i => mx p n T u v (a + (i + 1)) (b + (k + 1) - (i + 1)) z))
    rw [e1, e2]
    rwa [show ∀ A B C D E : Int, A - (B + C) + (B - D + (C - E)) = A - (E + D) from fun A B C D E => by omega] at h4
theorem mx_0 (h : VN p n T fo) {u v : Nat → Int} : mx p n T u v 0 0 = uF p n T := h.one_l (pw_VV h v 0)
theorem mx_l (h : VN p n T fo) {u v : Nat → Int} (a : Nat) : mx p n T u v a 0 = pw p n T u a := h.one_r (pw_VV h u a)
theorem mx_r (h : VN p n T fo) {u v : Nat → Int} (b : Nat) : mx p n T u v 0 b = pw p n T v b := h.one_l (pw_VV h v b)
theorem frob_add (h : VN p n T fo) (hc : comN n T) {P : Nat} (hP : p = (P : Int)) {u v : Nat → Int} (hu : VV p n u) (hv : VV p n v) {z : Nat} (hz : z < n) :
    p ∣ pw p n T (addF p u v 1) P z - (pw p n T u P z + pw p n T v P z) := by
  have h1 := newton h hc hu hv hz P 0 0
  rw [mx_0 h, h.one_r (pw_VV h _ P)] at h1
  have h2 := D2_prime (P := P) (by rw [← hP]; exact h.hp) (fun i => mx p n T u v (0 + i) (0 + P - i) z)
  rw [← hP] at h2
  have h3 := dvd_tr h1 h2
  have e1 : mx p n T u v (0 + 0) (0 + P - 0) z = pw p n T v P z := by rw [show 0 + P - 0 = P by omega, show (0 + 0) = 0 from rfl, mx_r h]
  have e2 : mx p n T u v (0 + P) (0 + P - P) z = pw p n T u P z := by rw [show 0 + P - P = 0 by omega, Nat.zero_add, mx_l h]
  simp only [e1, e2] at h3
  rwa [Int.add_comm (pw p n T v P z)] at h3
def scl (p : Int) (c : Int) (v : Nat → Int) (z : Nat) : Int := c * v z % p
theorem VV.scl (hp : 0 < p) {v : Nat → Int} (hv : VV p n v) (c : Int) : VV p n (scl p c v) := ⟨fun z => ⟨Int.emod_nonneg _ (by omega), Int.emod_lt_of_pos _ hp⟩, fun k hk => by unfold Am.scl; rw [hv.z k hk, Int.mul_zero]; rfl⟩
theorem addF_scl (u v : Nat → Int) (c : Int) : addF p u v c = addF p u (scl p c v) 1 := by
  funext z
  unfold addF scl
  rw [Int.one_mul, Int.add_emod_emod]
theorem times_scl_r (x v : Nat → Int) (c : Int) {z : Nat} (hz : z < n) : p ∣ timesF p n T x (scl p c v) z - c * timesF p n T x v z := by
  have h1 := cg_times (p := p) (n := n) (T := T) x (scl p c v) z hz
  have h2 := pz_cg (p := p) (n := n) (T := T) (cg.rf x) (show cg p n (scl p c v) (fun j => c * v j) from fun j _ => dvd_mod p _) z
  rw [pz_scl_r] at h2
  have h3 := cg_times (p := p) (n := n) (T := T) x v z hz
  exact dvd_tr (dvd_tr h1 h2) (dvd_sy (mul_dvd (dvd_rf rfl) h3))
theorem pw_scl (h : VN p n T fo) {v : Nat → Int} (hv : VV p n v) (c : Int) : ∀ k, ∀ z, z < n → p ∣ pw p n T (scl p c v) k z - c ^ k * pw p n T v k z
  | 0, z, hz => by rw [Int.pow_zero, Int.one_mul]; exact dvd_rf rfl
  | k + 1, z, hz => by
    rw [pw_s, pw_s]
    have h1 := times_scl_r (p := p) (T := T) (pw p n T (scl p c v) k) v c hz
    have h2 := cg_times (p := p) (n := n) (T := T) (pw p n T (scl p c v) k) v z hz
    have h3 := pz_cg (p := p) (n := n) (T := T) (show cg p n (pw p n T (scl p c v) k) (fun j => c ^ k * pw p n T v k j) from fun j hj => pw_scl h hv c k j hj) (cg.rf v) z
    rw [pz_scl_l] at h3
    have h4 := cg_times (p := p) (n := n) (T := T) (pw p n T v k) v z hz
    have h5 := dvd_tr (dvd_tr h2 h3) (dvd_sy (mul_dvd (dvd_rf (p := p) (a := c ^ k) rfl) h4))
    have h6 := dvd_tr h1 (mul_dvd (dvd_rf (p := p) (a := c) rfl) h5)
    rwa [← Int.mul_assoc, show c * c ^ k = c ^ (k + 1) by rw [Int.pow_succ, Int.mul_comm]] at h6
def lc (p : Int) (c : Nat → Int) (w : Nat → Nat → Int) : Nat → Nat → Int
  | 0 => fun _ => 0
  | m + 1 => addF p (lc p c w m) (w m) (c m)
theorem lc_VV (h : VN p n T fo) {c : Nat → Int} {w : Nat → Nat → Int} (hw : ∀ j, VV p n (w j)) : ∀ m, VV p n (lc p c w m)
  | 0 => VV.zero h.pp
  | m + 1 => VV.add h.pp (lc_VV h hw m) (hw m) (c m)
theorem lc_sum (c : Nat → Int) (w : Nat → Nat → Int) (z : Nat) : ∀ m, p ∣ lc p c w m z - sumZ (fun j => c j * w j z) m
  | 0 => dvd_rf rfl
  | m + 1 => by
    have h1 := dvd_mod p (lc p c w m z + c m * w m z)
    have h2 := lc_sum c w z m
    have h3 := Int.dvd_add h1 h2
    show p ∣ (lc p c w m z + c m * w m z) % p - (sumZ (fun j => c j * w j z) m + c m * w m z)
    rwa [show ∀ A B C D : Int, A - (B + C) + (B - D) = A - (D + C) from fun A B C D => by omega] at h3
theorem frob_lc (h : VN p n T fo) (hc : comN n T) {P : Nat} (hP : p = (P : Int)) {c : Nat → Int} (hcb : ∀ j, 0 ≤ c j ∧ c j < p) {w : Nat → Nat → Int} (hw : ∀ j, VV p n (w j)) :
    ∀ m z, z < n → p ∣ pw p n T (lc p c w m) P z - sumZ (fun j => c j * pw p n T (w j) P z) m
  | 0, z, hz => by
    have hp := h.p0
    obtain ⟨q, rfl⟩ : ∃ q, P = q + 1 := ⟨P - 1, by omega⟩
    rw [pw_s, show timesF p n T (pw p n T (lc p c w 0) q) (lc p c w 0) = fun _ => 0 from times_zr (fun i _ => rfl)]
    exact dvd_rf rfl
  | m + 1, z, hz => by
    have h0 := frob_lc h hc hP hcb hw m z hz
    have h1 := frob_add h hc hP (lc_VV h (c := c) hw m) (VV.scl h.pp (hw m) (c m)) hz
    rw [← addF_scl] at h1
    have h2 := pw_scl h (hw m) (c m) P z hz
    have h3 := fermatI (P := P) (by rw [← hP]; exact h.hp) (c := c m) (by rw [← hP]; exact hcb m)
    rw [← hP] at h3
    have h4 := dvd_tr h2 (mul_dvd h3 (dvd_rf (p := p) (a := pw p n T (w m) P z) rfl))
    have h5 := Int.dvd_add h1 (Int.dvd_add h0 h4)
    show p ∣ pw p n T (addF p (lc p c w m) (w m) (c m)) P z - (sumZ (fun j => c j * pw p n T (w j) P z) m + c m * pw p n T (w m) P z)
    rwa [show ∀ A B C D E : Int, A - (B + C) + (B - D + (C - E)) = A - (D + E) from fun A B C D E => by omega] at h5
theorem frob_t (h : VN p n T fo) (hc : comN n T) {P : Nat} (hP : p = (P : Int)) {c : Nat → Int} (hcb : ∀ j, 0 ≤ c j ∧ c j < p) {w : Nat → Nat → Int} (hw : ∀ j, VV p n (w j)) (m : Nat) :
    ∀ t z, z < n → p ∣ pw p n T (lc p c w m) (P ^ t) z - sumZ (fun j => c j * pw p n T (w j) (P ^ t) z) m
  | 0, z, hz => by
    rw [Nat.pow_zero, pw_1 h (lc_VV h hw m)]
    refine dvd_tr (lc_sum c w z m) (dvd_rf (sumZ_congr m (fun j _ => by rw [pw_1 h (hw j)])))
  | t + 1, z, hz => by
    have e : pw p n T (lc p c w m) (P ^ t) = lc p c (fun j => pw p n T (w j) (P ^ t)) m := by
      refine VV.ext (pw_VV h _ _) (lc_VV h (fun j => pw_VV h (w j) _) m) (fun z hz => ?_)
      exact dvd_tr (frob_t h hc hP hcb hw m t z hz) (dvd_sy (lc_sum c (fun j => pw p n T (w j) (P ^ t)) z m))
    have h1 := frob_lc h hc hP hcb (w := fun j => pw p n T (w j) (P ^ t)) (fun j => pw_VV h (w j) _) m z hz
    rw [← e, pw_mul h, ← Nat.pow_succ] at h1
    refine dvd_tr h1 (dvd_rf (sumZ_congr m (fun j _ => ?_)))
    rw [pw_mul h, ← Nat.pow_succ]
noncomputable def pwR (p : Int) (n : Nat) (T : Nat → Nat → Nat → Int) (K : Nat) (k j : Nat) : Int := pw p n T (eF j) K k
def canV (p : Int) (n : Nat) (x : Nat → Int) : Nat → Int := lc p (fun j => x j % p) (fun j => if j < n then eF j else fun _ => 0) n
theorem basis_VV (h : VN p n T fo) (j : Nat) : VV p n (if j < n then eF j else fun _ => 0) := by
  have hp := h.p0
  split
  · exact VV.eF (by omega) (by assumption)
  · exact VV.zero h.pp
theorem null_pw (h : VN p n T fo) (hc : comN n T) {P : Nat} (hP : p = (P : Int)) (t : Nat) (x : Nat → Int) : Null p n n (pwR p n T (P ^ t)) x ↔ pw p n T (canV p n x) (P ^ t) = fun _ => 0 := by
  have hp := h.p0
  have hf := frob_t h hc hP (c := fun j => x j % p) (fun j => ⟨Int.emod_nonneg _ (by omega), Int.emod_lt_of_pos _ h.pp⟩) (basis_VV h) n t
  have key : ∀ z, z < n → p ∣ pw p n T (canV p n x) (P ^ t) z - dot n (pwR p n T (P ^ t) z) x := fun z hz => by
    refine dvd_tr (hf z hz) (sumZ_dvd n (fun j hj => ?_))
    rw [if_pos hj, Int.mul_comm]
    exact mul_dvd (dvd_rf rfl) (dvd_mod p (x j))
  constructor
  · intro hN
    refine VV.ext (pw_VV h _ _) (VV.zero h.pp) (fun z hz => ?_)
    have h1 := key z hz
    have h2 : p ∣ dot n (pwR p n T (P ^ t) z) x - 0 := by rw [Int.sub_zero]; exact hN z hz
    exact dvd_tr h1 h2
  · intro h0 z hz
    have h1 := key z hz
    rw [h0] at h1
    have := dvd_sy h1
    rw [Int.sub_zero] at this
    exact this
theorem dep_ex (hp : primeB p = true) {N m : Nat} (hNm : N < m) {R : Nat → Nat → Int} (hR : ∀ i, i < N → Bp p (R i)) : ∃ (x : Nat → Int) (c : Nat), c < m ∧ x c = 1 ∧ Null p m N R x := by
  obtain ⟨⟨l, rr⟩, hn⟩ := red_ok (m := m) hp hR
  have hle := (red_le (p := p) (m := m) (n := N) (R := R)).2
  obtain ⟨c, hc, hcl⟩ : ∃ c, c < m ∧ ¬ IsL (redGo p N R m).no l c := by
    apply Classical.byContradiction
    intro hall
    have hall : ∀ c, c < m → IsL (redGo p N R m).no l c := fun c hc => Classical.byContradiction fun h => hall ⟨c, hc, h⟩
    have := (inc_eq (n := (redGo p N R m).no) (n' := m) (l := l) (l' := fun i => i) rr.inc (fun i j h _ => h) (fun i hi => ⟨l i, (rr.lead i hi).1, rfl⟩) (fun c hc => hall c hc)).1
    omega
  exact ⟨solC (redGo p N R m).no (redGo p N R m).O l c, c, hc, solC_self _ _ _ _, (hn _).1 (solC_null rr hc hcl)⟩
theorem cancel (hp : primeB p = true) {c y : Int} (hc : ¬ p ∣ c) (h : p ∣ c * y) : p ∣ y := by
  have hpb := primeB_bd hp
  have hm : 0 < c % p := by
    have h1 := Int.emod_nonneg c (show p ≠ 0 by omega)
    have h2 : c % p ≠ 0 := fun e => hc (Int.dvd_of_emod_eq_zero e)
    omega
  have hi := (inv_ok hp hm (Int.emod_lt_of_pos c (by omega))).2
  have h1 : p ∣ invF p (c % p) * c - 1 := by
    have h2 : p ∣ invF p (c % p) * (c % p) - 1 := by
      refine ⟨invF p (c % p) * (c % p) / p, ?_⟩
      have e := Int.emod_add_mul_ediv (invF p (c % p) * (c % p)) p
      rw [hi] at e
      omega
    exact dvd_tr (mul_dvd (dvd_rf rfl) (dvd_sy (dvd_mod p c))) h2
  have h3 := mul_dvd h1 (dvd_rf (p := p) (a := y) rfl)
  rw [Int.one_mul, Int.mul_assoc] at h3
  have h4 : p ∣ invF p (c % p) * (c * y) := Int.dvd_mul_of_dvd_right h
  have := Int.dvd_sub h4 h3
  rwa [show invF p (c % p) * (c * y) - (invF p (c % p) * (c * y) - y) = y by omega] at this
theorem sumZ_split {f : Nat → Int} {i0 : Nat} : ∀ m, i0 < m → (∀ i, i < m → i ≠ i0 → p ∣ f i) → p ∣ sumZ f m - f i0
  | 0, h, _ => absurd h (Nat.not_lt_zero _)
  | m + 1, h, hz => by
    show p ∣ sumZ f m + f m - f i0
    by_cases e : i0 = m
    · subst e
      have h1 : p ∣ sumZ f i0 - sumZ (fun _ => 0) i0 := sumZ_dvd i0 (fun i hi => by rw [Int.sub_zero]; exact hz i (by omega) (by omega))
      rw [sumZ_zero, Int.sub_zero] at h1
      rwa [show sumZ f i0 + f i0 - f i0 = sumZ f i0 by omega]
    · have h1 := sumZ_split m (by omega) (fun i hi hne => hz i (by omega) hne)
      have := Int.dvd_add h1 (hz m (by omega) (Ne.symm e))
      rwa [show sumZ f m - f i0 + f m = sumZ f m + f m - f i0 by omega] at this
theorem pz_sum_r (h : VN p n T fo) (u : Nat → Int) (c : Nat → Int) (w : Nat → Nat → Int) {z : Nat} (hz : z < n) : ∀ m, p ∣ timesF p n T u (lc p c w m) z - sumZ (fun j => c j * timesF p n T u (w j) z) m
  | 0 => by rw [show timesF p n T u (lc p c w 0) = fun _ => 0 from times_zr (fun i _ => rfl)]; exact dvd_rf rfl
  | m + 1 => by
    have h0 := pz_sum_r h u c w hz m
    have h1 := times_add_r (p := p) (T := T) u (lc p c w m) (scl p (c m) (w m)) hz
    rw [← addF_scl] at h1
    have h2 := times_scl_r (p := p) (T := T) u (w m) (c m) hz
    have h5 := Int.dvd_add h1 (Int.dvd_add h0 h2)
    show p ∣ timesF p n T u (addF p (lc p c w m) (w m) (c m)) z - (sumZ (fun j => c j * timesF p n T u (w j) z) m + c m * timesF p n T u (w m) z)
    rwa [show ∀ A B C D E : Int, A - (B + C) + (B - D + (C - E)) = A - (D + E) from fun A B C D E => by omega] at h5
theorem pw_up (h : VN p n T fo) {v : Nat → Int} {a b : Nat} (hab : a ≤ b) (h0 : pw p n T v a = fun _ => 0) : pw p n T v b = fun _ => 0 := by
  have := pw_add h v a (b - a)
  rw [h0, show a + (b - a) = b by omega] at this
  rw [← this]
  exact times_zl (fun i _ => rfl)
theorem nil_n (h : VN p n T fo) {v : Nat → Int} (hv : VV p n v) : ∀ m, pw p n T v m = (fun _ => 0) → pw p n T v n = fun _ => 0
  | 0, h0 => pw_up h (Nat.zero_le _) h0
  | m + 1, h0 => by
    by_cases hmn : m + 1 ≤ n
    · exact pw_up h hmn h0
    · refine nil_n h hv m ?_
      obtain ⟨x, c, hc, hxc, hN⟩ := dep_ex h.hp (N := n) (m := n + 1) (by omega) (R := fun k j => pw p n T v j k) (fun k hk j => (pw_VV h v j).b k)
      have hex : ∃ i, i < n + 1 ∧ ¬ p ∣ x i := ⟨c, hc, by rw [hxc]; intro hd; have := Int.le_of_dvd (by omega) hd; have := h.p0; omega⟩
      obtain ⟨i0, hi0, hni, hfirst⟩ : ∃ i0, i0 < n + 1 ∧ ¬ p ∣ x i0 ∧ ∀ i, i < i0 → p ∣ x i := by
        rcases idx_cases (fun i => !decide (p ∣ x i)) (n + 1) with ⟨i, hi, hP, hb, _⟩ | ⟨hn, _⟩
        · exact ⟨i, hi, by simpa using hP, fun j hj => by simpa using hb j hj⟩
        · obtain ⟨i, hi, hne⟩ := hex
          have := hn i hi
          simp at this
          exact absurd this hne
      refine VV.ext (pw_VV h v m) (VV.zero h.pp) (fun z hz => ?_)
      rw [Int.sub_zero]
      have hl0 : lc p x (fun j => pw p n T v j) (n + 1) = fun _ => 0 := by
        refine VV.ext (lc_VV h (fun j => pw_VV h v j) _) (VV.zero h.pp) (fun k hk => ?_)
        refine dvd_tr (lc_sum x _ k (n + 1)) ?_
        have := hN k hk
        unfold Z dot at this
        rw [Int.sub_zero, sumZ_congr (n + 1) (fun j _ => Int.mul_comm _ _)]
        exact this
      have h1 := pz_sum_r h (pw p n T v (m - i0)) x (fun j => pw p n T v j) hz (n + 1)
      rw [hl0, show timesF p n T (pw p n T v (m - i0)) (fun _ => 0) = fun _ => 0 from times_zr (fun i _ => rfl)] at h1
      have h2 := sumZ_split (p := p) (f := fun j => x j * timesF p n T (pw p n T v (m - i0)) (pw p n T v j) z) (i0 := i0) (n + 1) hi0 (fun i hi hne => by
        rcases Nat.lt_or_ge i i0 with h3 | h3
        · exact Int.dvd_mul_of_dvd_left (hfirst i h3)
        · rw [pw_add h, pw_up h (show m + 1 ≤ m - i0 + i by omega) h0]
          exact ⟨0, by simp⟩)
      have h3 := dvd_tr h1 h2
      dsimp only at h3
      rw [pw_add h, show m - i0 + i0 = m by omega] at h3
      have h4 := dvd_sy h3
      rw [Int.sub_zero] at h4
      exact cancel h.hp hni h4
theorem canV_VV (h : VN p n T fo) (x : Nat → Int) : VV p n (canV p n x) := lc_VV h (basis_VV h) n
theorem nil_null (h : VN p n T fo) (hc : comN n T) {P : Nat} (hP : p = (P : Int)) {s t : Nat} (hs : n ≤ P ^ s) (ht : n ≤ P ^ t) (x : Nat → Int) : Null p n n (pwR p n T (P ^ s)) x ↔ Null p n n (pwR p n T (P ^ t)) x := by
  rw [null_pw h hc hP, null_pw h hc hP]
  constructor
  · intro h0; exact pw_up h ht (nil_n h (canV_VV h x) _ h0)
  · intro h0; exact pw_up h hs (nil_n h (canV_VV h x) _ h0)
end
end Go.Am

set_option linter.unusedVariables false
set_option linter.unusedSimpArgs false
namespace Go.Am
section
variable {p : Int} {n : Nat} {T : Nat → Nat → Nat → Int} {fo : Nat → Int}
noncomputable def nilRR (p : Int) (n : Nat) (T : Nat → Nat → Nat → Int) : Nat → Nat → Int := pwR p n T (p.toNat ^ 3)
theorem VN.P (h : VN p n T fo) : p = ((p.toNat : Nat) : Int) := by have := h.p0; omega
theorem pow_big {P s : Nat} (hP : 2 ≤ P) (hs : 3 ≤ s) : 8 ≤ P ^ s := by
  have h1 : 2 ^ s ≤ P ^ s := Nat.pow_le_pow_left hP s
  have h2 : 2 ^ 3 ≤ 2 ^ s := Nat.pow_le_pow_right (by omega) hs
  omega
theorem pwR_B (h : VN p n T fo) (K i : Nat) : Bp p (pwR p n T K i) := fun j => (pw_VV h (eF j) K).b i
theorem nil_S' (h : VN p n T fo) (hc : comN n T) {s : Nat} (hs : n ≤ p.toNat ^ s) {N : Nat} {R : Nat → Nat → Int} (hR : ∀ i, i < N → Bp p (R i)) (he : ∀ x, Null p n N R x ↔ Null p n n (pwR p n T (p.toNat ^ s)) x) :
    (kerS p n N R).no = (kerS p n n (nilRR p n T)).no ∧ ∀ i, i < (kerS p n n (nilRR p n T)).no → ∀ z, cutF ((kerS p n N R).O i) n z = kerR p n n (nilRR p n T) i z := by
  have hp := h.p0
  have hn := h.n6
  have h3 : n ≤ p.toNat ^ 3 := by have := pow_big (P := p.toNat) (s := 3) (by omega) (by omega); omega
  obtain ⟨h1, h2⟩ := ker_null h.hp hR (fun i _ => pwR_B h (p.toNat ^ 3) i) (fun x => (he x).trans (nil_null h hc h.P hs h3 x))
  refine ⟨h1, fun i hi z => ?_⟩
  have hi' : i < (kerS p n n (pwR p n T (p.toNat ^ 3))).no := hi
  rw [kerR_at hi]
  unfold cutF
  split
  · exact h2 i (by rw [h1]; exact hi) z (by assumption)
  · rfl
theorem nil_E (h : VN p n T fo) (hc : comN n T) {s : Nat} (hs : n ≤ p.toNat ^ s) :
    (kerE p n n (pwR p n T (p.toNat ^ s))).no = (kerS p n n (nilRR p n T)).no ∧ ∀ i, i < (kerS p n n (nilRR p n T)).no → ∀ z, cutF ((kerE p n n (pwR p n T (p.toNat ^ s))).O i) n z = kerR p n n (nilRR p n T) i z := by
  obtain ⟨h1, h2⟩ := nil_S' h hc hs (N := n) (R := pwR p n T (p.toNat ^ s)) (fun i _ => pwR_B h _ i) (fun x => Iff.rfl)
  obtain ⟨h3, h4⟩ := ker_eq h.hp (n := n) (N := n) (R := pwR p n T (p.toNat ^ s)) (fun i _ => pwR_B h _ i)
  refine ⟨h3.trans h1, fun i hi z => ?_⟩
  rw [← h2 i hi z]
  unfold cutF
  split
  · exact h4 i (by omega) z (by assumption)
  · rfl
noncomputable def nilV (p : Int) (n : Nat) (T : Nat → Nat → Nat → Int) (s : Nat) (_ i : Nat) : Nat → Int := pw p n T (eF i) (p.toNat ^ s)
theorem nil_S (h : VN p n T fo) (hc : comN n T) {s : Nat} (hs : n ≤ p.toNat ^ s) :
    (kerS p n (1 * n) (eqR n (nilV p n T s))).no = (kerS p n n (nilRR p n T)).no ∧ ∀ i, i < (kerS p n n (nilRR p n T)).no → ∀ z, cutF ((kerS p n (1 * n) (eqR n (nilV p n T s))).O i) n z = kerR p n n (nilRR p n T) i z :=
  nil_S' h hc hs (fun i _ => eqR_Bp (fun x i => (pw_VV h (eF i) _).b) i) (fun x => by
    rw [Nat.one_mul]
    exact null_congr (fun i hi j hj => by unfold eqR nilV pwR; rw [Nat.mod_eq_of_lt hi]) x)
theorem pow_lt2 (hp : 2 ≤ p) {i : Nat} (h : p ^ (1 + i) ≤ 6) : i < 2 := by
  apply Classical.byContradiction
  intro hi
  obtain ⟨P, rfl⟩ : ∃ P : Nat, p = (P : Int) := ⟨p.toNat, by omega⟩
  have := pow_big (P := P) (s := 1 + i) (by omega) (by omega)
  have e : ((P : Int) ^ (1 + i)) = ((P ^ (1 + i) : Nat) : Int) := (Int.natCast_pow P (1 + i)).symm
  omega
theorem powP (hp : 2 ≤ p) {i : Nat} : p ^ (1 + i) = ((p.toNat ^ (1 + i) : Nat) : Int) := by
  obtain ⟨P, rfl⟩ : ∃ P : Nat, p = (P : Int) := ⟨p.toNat, by omega⟩
  rw [Int.toNat_natCast]
  exact (Int.natCast_pow P (1 + i)).symm
theorem pow_nx (hp : 2 ≤ p ∧ p ≤ 13) {i : Nat} (h : p ^ (1 + i) ≤ 6) : 0 ≤ p ^ (1 + i) * p ∧ p ^ (1 + i) * p ≤ 78 ∧ p ^ (1 + i) * p = p ^ (1 + (i + 1)) := by
  have h0 : 0 ≤ p ^ (1 + i) := by rw [powP hp.1]; exact Int.natCast_nonneg _
  have h1 : p ^ (1 + i) * p ≤ 6 * 13 := Int.mul_le_mul h hp.2 (by omega) (by omega)
  exact ⟨Int.mul_nonneg h0 (by omega), h1, by rw [← Nat.add_assoc, Int.pow_succ]⟩
theorem addF_0 (h : VN p n T fo) {u v : Nat → Int} (hu : VV p n u) : addF p u v 0 = u := by
  funext z
  unfold addF
  rw [Int.zero_mul, Int.add_zero]
  exact Int.emod_eq_of_lt (hu.b z).1 (hu.b z).2
end
theorem mt_fn1 {at_ : Nat → Nat → Option (AV × AV)} {k e g nc : Nat} {sh : AV} {f cp : Nat → AV} (hc : (AV.fn g nc cp).closed) (h : at_ k 0 = some (sh, .arr 1 f)) (h0 : f 0 = .fn g nc cp) : Mt V0 (.ro 1 (fun _ => .fn g nc cp)) (exp at_ 4 (.own k 0 1 e)) := by
  show Mt V0 _ (match at_ k 0 with | some (_, .arr m f) => AV.ro m (fun j => exp at_ 3 (f j)) | _ => .any)
  rw [h]
  refine ⟨rfl, fun j hj => ?_⟩
  obtain rfl : j = 0 := by omega
  show Mt V0 (.fn g nc cp) (exp at_ 3 (f 0))
  rw [h0, exp_closed hc]
  exact Mt_closed hc (fun _ _ _ => trivial) (by simp)
end Go.Am
namespace Go.Am
end Go.Am

set_option linter.unusedVariables false
set_option linter.unusedSimpArgs false
namespace Go.Am
section
variable {p : Int} {n : Nat} {T : Nat → Nat → Nat → Int} {fo : Nat → Int}
noncomputable def prL (p : Int) (n : Nat) (T : Nat → Nat → Nat → Int) (b : Nat → Nat → Int) : List Nat → Nat → Int
  | [] => uF p n T
  | l :: L => timesF p n T (b l) (prL p n T b L)
def cnt (m : Nat) : List Nat → Nat
  | [] => 0
  | l :: L => if l = m then cnt m L + 1 else cnt m L
def flt (m : Nat) : List Nat → List Nat
  | [] => []
  | l :: L => if l = m then flt m L else l :: flt m L
theorem cnt_flt (m : Nat) : ∀ L, cnt m L + (flt m L).length = L.length
  | [] => rfl
  | l :: L => by
    have := cnt_flt m L
    unfold cnt flt
    by_cases h : l = m
    · rw [if_pos h, if_pos h]; simp only [List.length_cons]; omega
    · rw [if_neg h, if_neg h]; simp only [List.length_cons]; omega
theorem flt_lt {m : Nat} : ∀ {L : List Nat}, (∀ l, l ∈ L → l < m + 1) → ∀ l, l ∈ flt m L → l < m
  | [], _, l, hl => by cases hl
  | a :: L, h, l, hl => by
    unfold flt at hl
    by_cases e : a = m
    · rw [if_pos e] at hl; exact flt_lt (fun x hx => h x (List.mem_cons_of_mem _ hx)) l hl
    · rw [if_neg e] at hl
      rcases List.mem_cons.1 hl with rfl | hl
      · have := h l (List.mem_cons_self ..); omega
      · exact flt_lt (fun x hx => h x (List.mem_cons_of_mem _ hx)) l hl
theorem prL_VV (h : VN p n T fo) (b : Nat → Nat → Int) : ∀ L, VV p n (prL p n T b L)
  | [] => pw_VV h (b 0) 0
  | _ :: _ => VV.times h.pp
theorem prL_app (h : VN p n T fo) {b : Nat → Nat → Int} (hb : ∀ l, VV p n (b l)) : ∀ (L : List Nat) (m : Nat), prL p n T b (L ++ [m]) = timesF p n T (prL p n T b L) (b m)
  | [], m => by
    show timesF p n T (b m) (uF p n T) = timesF p n T (uF p n T) (b m)
    rw [h.one_r (hb m), h.one_l (hb m)]
  | l :: L, m => by
    show timesF p n T (b l) (prL p n T b (L ++ [m])) = timesF p n T (timesF p n T (b l) (prL p n T b L)) (b m)
    rw [prL_app h hb L m, h.asc']
theorem prL_flt (h : VN p n T fo) (hc : comN n T) {b : Nat → Nat → Int} (hb : ∀ l, VV p n (b l)) (m : Nat) : ∀ L, prL p n T b L = timesF p n T (pw p n T (b m) (cnt m L)) (prL p n T b (flt m L))
  | [] => (h.one_l (prL_VV h b [])).symm
  | l :: L => by
    show timesF p n T (b l) (prL p n T b L) = _
    rw [prL_flt h hc hb m L]
    show _ = timesF p n T (pw p n T (b m) (if l = m then cnt m L + 1 else cnt m L)) (prL p n T b (if l = m then flt m L else l :: flt m L))
    by_cases e : l = m
    · subst e
      rw [if_pos rfl, if_pos rfl, ← h.asc', pw_l h (hb l)]
    · rw [if_neg e, if_neg e]
      show _ = timesF p n T (pw p n T (b m) (cnt m L)) (timesF p n T (b l) (prL p n T b (flt m L)))
      rw [← h.asc', times_com h hc (b l), h.asc']
theorem prL_nil (h : VN p n T fo) (hc : comN n T) {b : Nat → Nat → Int} (hb : ∀ l, VV p n (b l)) : ∀ m, (∀ l, l < m → pw p n T (b l) n = fun _ => 0) → ∀ L : List Nat, (∀ l, l ∈ L → l < m) → m * n < L.length → prL p n T b L = fun _ => 0
  | 0, _, L, hL, hlen => by
    cases L with
    | nil => simp at hlen
    | cons a L => exact absurd (hL a (List.mem_cons_self ..)) (Nat.not_lt_zero _)
  | m + 1, hn, L, hL, hlen => by
    rw [prL_flt h hc hb m L]
    have hcf := cnt_flt m L
    by_cases hk : n ≤ cnt m L
    · rw [pw_up h hk (hn m (Nat.lt_succ_self m))]
      exact times_zl (fun i _ => rfl)
    · rw [prL_nil h hc hb m (fun l hl => hn l (by omega)) (flt m L) (flt_lt hL) (by rw [Nat.succ_mul] at hlen; omega)]
      exact times_zr (fun i _ => rfl)
theorem dot_comm (f g : Nat → Int) (m : Nat) : dot m f g = dot m g f := sumZ_congr m (fun j _ => Int.mul_comm _ _)
theorem kv_sol {m no c j : Nat} {O : Nat → Nat → Int} {l : Nat → Nat} (rr : Rref p m no O l) (hc : ¬ IsL no l c) (hj : j < m) : p ∣ kvF p m no O c j - solC no O l c j := by
  unfold kvF
  by_cases h1 : j = c
  · subst h1; rw [if_pos rfl, solC_self]; exact dvd_rf rfl
  · rw [if_neg h1]
    cases h2 : ldB m no O j
    · rw [if_neg (by simp), solC_off no O l h1 (fun ⟨i, hi, e⟩ => ldB_no h2 hi (by rw [rr_leadN rr hi]; exact e))]
      exact dvd_rf rfl
    · rw [if_pos rfl]
      unfold ldB at h2
      obtain ⟨i, hi, hP, he⟩ := idx_pos (of_decide_eq_true h2)
      have hl : l i = j := by rw [← rr_leadN rr hi]; exact of_decide_eq_true hP
      rw [he, ← hl, solC_lead rr hc hi]
      exact dvd_mod p _
theorem IsL_ld {m no c : Nat} {O : Nat → Nat → Int} {l : Nat → Nat} (rr : Rref p m no O l) (h : ldB m no O c = false) : ¬ IsL no l c := fun ⟨i, hi, e⟩ => ldB_no h hi (by rw [rr_leadN rr hi]; exact e)
theorem kb_null {m no N : Nat} {R O : Nat → Nat → Int} {l : Nat → Nat} (rr : Rref p m no O l) (hn : ∀ x, Null p m no O x ↔ Null p m N R x) : ∀ c, c ≤ m → ∀ i, i < kcN m no O c → Null p m N R (kbF p m no O c i)
  | 0, _, i, hi => absurd hi (Nat.not_lt_zero _)
  | c + 1, hc, i, hi => by
    cases h : ldB m no O c
    · rw [kcN_f h] at hi
      rw [kbF_f h]
      dsimp only
      by_cases e : i = kcN m no O c
      · rw [if_pos e]
        refine (hn _).1 (fun r hr => ?_)
        have h1 := solC_null rr (c := c) (by omega) (IsL_ld rr h) r hr
        unfold Z at h1 ⊢
        have h2 : p ∣ dot m (O r) (kvF p m no O c) - dot m (O r) (solC no O l c) := sumZ_dvd m (fun j hj => mul_dvd (dvd_rf rfl) (kv_sol rr (IsL_ld rr h) hj))
        have := Int.dvd_add h2 h1
        rwa [show dot m (O r) (kvF p m no O c) - dot m (O r) (solC no O l c) + dot m (O r) (solC no O l c) = dot m (O r) (kvF p m no O c) by omega] at this
      · rw [if_neg e]
        exact kb_null rr hn c (by omega) i (by omega)
    · rw [kcN_t h] at hi
      rw [kbF_t h]
      exact kb_null rr hn c (by omega) i hi
theorem ker_sol (hp : primeB p = true) {m N : Nat} {R : Nat → Nat → Int} (hR : ∀ i, i < N → Bp p (R i)) {i : Nat} (hi : i < (kerS p m N R).no) : Null p m N R ((kerS p m N R).O i) := by
  have hpb := primeB_bd hp
  obtain ⟨⟨l, rr⟩, hn⟩ := red_ok (m := m) hp hR
  have hk := kb_null rr hn m (Nat.le_refl m)
  obtain ⟨_, hn2⟩ := red_ok (m := m) (n := kcN m (redGo p N R m).no (redGo p N R m).O m) (R := kbF p m (redGo p N R m).no (redGo p N R m).O m) hp (fun i _ => kbF_Bp (by omega) _ _ _ _ i)
  intro r hr
  have h1 : Null p m (kcN m (redGo p N R m).no (redGo p N R m).O m) (kbF p m (redGo p N R m).no (redGo p N R m).O m) (R r) := fun c hc => by
    have := hk c hc r hr
    unfold Z at this ⊢
    rwa [dot_comm] at this
  have h2 := (hn2 (R r)).2 h1 i hi
  unfold Z at h2 ⊢
  rwa [dot_comm] at h2
theorem nilR_VV (h : VN p n T fo) (i : Nat) : VV p n (kerR p n n (nilRR p n T) i) := by
  have hp := h.p0
  unfold kerR
  split
  · have := kerS_Bp h.hp (n := n) (N := n) (R := nilRR p n T) (i := i) (by assumption)
    exact ⟨fun z => by unfold cutF; split; (exact this z); omega, fun k hk => by unfold cutF; rw [if_neg (by omega)]⟩
  · exact VV.zero h.pp
theorem canV_id (h : VN p n T fo) {x : Nat → Int} (hx : VV p n x) : canV p n x = x := by
  refine VV.ext (canV_VV h x) hx (fun z hz => ?_)
  refine dvd_tr (lc_sum _ _ z n) ?_
  rw [sumZ_one (c := z) n hz (fun j hj hne => by rw [if_pos hj, eF_dl]; unfold dl; rw [if_neg hne]; simp), if_pos hz, eF_dl]
  unfold dl
  rw [if_pos rfl, Int.mul_one]
  exact dvd_mod p _
theorem nilR_pw (h : VN p n T fo) (hc : comN n T) {i : Nat} (hi : i < (kerS p n n (nilRR p n T)).no) : pw p n T (kerR p n n (nilRR p n T) i) n = fun _ => 0 := by
  have h1 := ker_sol h.hp (m := n) (N := n) (R := nilRR p n T) (fun i _ => pwR_B h _ i) hi
  have h2 : Null p n n (pwR p n T (p.toNat ^ 3)) (kerR p n n (nilRR p n T) i) := fun r hr => by
    have := h1 r hr
    unfold Z at this ⊢
    rw [dot_comm] at this ⊢
    rw [kerR_at hi]
    rwa [dot_congr n (fun j hj => show cutF ((kerS p n n (nilRR p n T)).O i) n j = (kerS p n n (nilRR p n T)).O i j by unfold cutF; rw [if_pos hj])]
  have h3 := (null_pw h hc h.P 3 _).1 h2
  rw [canV_id h (nilR_VV h i)] at h3
  exact nil_n h (nilR_VV h i) _ h3
def prR (p : Int) (n : Nat) (T : Nat → Nat → Nat → Int) (M : Nat) (F b : Nat → Nat → Int) (r : Nat) : Nat → Int := timesF p n T (F (r / M)) (b (r % M))
def pnN (p : Int) (n : Nat) (T : Nat → Nat → Nat → Int) (M : Nat) (b : Nat → Nat → Int) : Nat → Nat × (Nat → Nat → Int)
  | 0 => (M, b)
  | k + 1 => ((redGo p ((pnN p n T M b k).1 * M) (prR p n T M (pnN p n T M b k).2 b) n).no,
      fun i => if i < (redGo p ((pnN p n T M b k).1 * M) (prR p n T M (pnN p n T M b k).2 b) n).no then cutF ((redGo p ((pnN p n T M b k).1 * M) (prR p n T M (pnN p n T M b k).2 b) n).O i) n else fun _ => 0)
theorem prR_B (h : VN p n T fo) (M : Nat) (F b : Nat → Nat → Int) (r : Nat) : Bp p (prR p n T M F b r) := timesF_Bp h.pp
theorem pn_VV (h : VN p n T fo) {M : Nat} {b : Nat → Nat → Int} (hb : ∀ l, VV p n (b l)) : ∀ k i, VV p n ((pnN p n T M b k).2 i)
  | 0, i => hb i
  | k + 1, i => by
    have hp := h.p0
    show VV p n (if _ then _ else _)
    split
    · have := red_Bp (m := n) h.hp (fun r (_ : r < (pnN p n T M b k).1 * M) => prR_B h M (pnN p n T M b k).2 b r) (i := i) (by assumption)
      exact ⟨fun z => by unfold cutF; split; (exact this z); omega, fun k hk => by unfold cutF; rw [if_neg (by omega)]⟩
    · exact VV.zero h.pp
theorem pn_le (h : VN p n T fo) {M : Nat} {b : Nat → Nat → Int} (hM : M ≤ n) : ∀ k, (pnN p n T M b k).1 ≤ n
  | 0 => hM
  | k + 1 => red_le.1
theorem times_dot (h : VN p n T fo) (x y : Nat → Int) {z : Nat} (hz : z < n) : p ∣ timesF p n T x y z - dot n x (fun a => timesF p n T (eF a) y z) := by
  have h1 := times_basis_l (p := p) (T := T) y x hz
  have h2 := cg_times (p := p) (n := n) (T := T) x y z hz
  refine dvd_tr h2 (dvd_sy (dvd_tr ?_ h1))
  exact dvd_rf (sumZ_congr n (fun j _ => Int.mul_comm _ _))
theorem pn_kill (h : VN p n T fo) {M : Nat} (hM0 : 0 < M) {b : Nat → Nat → Int} (hb : ∀ l, VV p n (b l)) : ∀ k i y, i < (pnN p n T M b k).1 → VV p n y → (∀ L : List Nat, L.length = k + 1 → (∀ l, l ∈ L → l < M) → timesF p n T (prL p n T b L) y = fun _ => 0) → timesF p n T ((pnN p n T M b k).2 i) y = fun _ => 0
  | 0, i, y, hi, hy, hL => by
    have := hL [i] rfl (fun l hl => by rw [List.mem_singleton.1 hl]; exact hi)
    rwa [show prL p n T b [i] = b i from h.one_r (hb i)] at this
  | k + 1, i, y, hi, hy, hL => by
    have hrow : ∀ r, r < (pnN p n T M b k).1 * M → timesF p n T (prR p n T M (pnN p n T M b k).2 b r) y = fun _ => 0 := fun r hr => by
      unfold prR
      rw [h.asc']
      refine pn_kill h hM0 hb k (r / M) _ ((Nat.div_lt_iff_lt_mul hM0).2 hr) (VV.times h.pp) (fun L hl hlt => ?_)
      rw [← h.asc']
      have := hL (L ++ [r % M]) (by simp [hl]) (fun l hl => by
        rcases List.mem_append.1 hl with h1 | h1
        · exact hlt l h1
        · rw [List.mem_singleton.1 h1]; exact Nat.mod_lt _ hM0)
      rwa [prL_app h hb L (r % M)] at this
    obtain ⟨_, hn⟩ := red_ok (m := n) h.hp (fun r (_ : r < (pnN p n T M b k).1 * M) => prR_B h M (pnN p n T M b k).2 b r)
    have hi' : i < (redGo p ((pnN p n T M b k).1 * M) (prR p n T M (pnN p n T M b k).2 b) n).no := hi
    show timesF p n T (if i < _ then _ else _) y = _
    rw [if_pos hi']
    refine VV.ext (VV.times h.pp) (VV.zero h.pp) (fun z hz => ?_)
    rw [Int.sub_zero]
    have hN : Null p n ((pnN p n T M b k).1 * M) (prR p n T M (pnN p n T M b k).2 b) (fun a => timesF p n T (eF a) y z) := fun r hr => by
      have h1 := times_dot h (prR p n T M (pnN p n T M b k).2 b r) y hz
      rw [hrow r hr] at h1
      have := dvd_sy h1
      rwa [Int.sub_zero] at this
    have h2 := (hn _).2 hN i hi'
    unfold Z at h2
    have h3 := times_dot h (cutF ((redGo p ((pnN p n T M b k).1 * M) (prR p n T M (pnN p n T M b k).2 b) n).O i) n) y hz
    rw [dot_congr n (fun j hj => show cutF ((redGo p ((pnN p n T M b k).1 * M) (prR p n T M (pnN p n T M b k).2 b) n).O i) n j = (redGo p ((pnN p n T M b k).1 * M) (prR p n T M (pnN p n T M b k).2 b) n).O i j by unfold cutF; rw [if_pos hj])] at h3
    have := Int.dvd_add h3 h2
    rwa [Int.sub_add_cancel] at this
end
end Go.Am

set_option linter.unusedVariables false
set_option linter.unusedSimpArgs false
namespace Go.Am
section
variable {p : Int} {n : Nat} {T : Nat → Nat → Nat → Int} {fo : Nat → Int}
theorem prR_at {M x y : Nat} {F b : Nat → Nat → Int} (hy : y < M) : prR p n T M F b (x * M + y) = timesF p n T (F x) (b y) := by
  unfold prR; rw [div_of hy, mod_of hy]
theorem pn_end2 (h : VN p n T fo) (hc : comN n T) {M : Nat} {b : Nat → Nat → Int} (hb : ∀ l, VV p n (b l)) (hn : ∀ l, l < M → pw p n T (b l) n = fun _ => 0) : (pnN p n T M b (M * n + 1)).1 = 0 := by
  have hp := h.p0
  apply Classical.byContradiction
  intro hne
  have hu : VV p n (uF p n T) := pw_VV h (b 0) 0
  rcases Nat.eq_zero_or_pos M with rfl | hM0
  · apply hne
    show (redGo p _ _ n).no = 0
    have := (red_counts p ((pnN p n T 0 b (0 * n)).1 * 0) (prR p n T 0 (pnN p n T 0 b (0 * n)).2 b) n).2.2
    omega
  · have h0 := pn_kill h hM0 hb (M * n + 1) 0 (uF p n T) (by omega) hu (fun L hl hlt => by
      rw [prL_nil h hc hb M hn L hlt (by omega)]
      exact times_zl (fun i _ => rfl))
    rw [h.one_r (pn_VV h hb _ _)] at h0
    obtain ⟨⟨l, rr⟩, _⟩ := red_ok (m := n) h.hp (fun r (_ : r < (pnN p n T M b (M * n)).1 * M) => prR_B h M (pnN p n T M b (M * n)).2 b r)
    have h1 : 0 < (redGo p ((pnN p n T M b (M * n)).1 * M) (prR p n T M (pnN p n T M b (M * n)).2 b) n).no := Nat.pos_of_ne_zero hne
    obtain ⟨q1, q2, _⟩ := rr.lead 0 h1
    have h2 := congrFun h0 (l 0)
    have h3 : (pnN p n T M b (M * n + 1)).2 0 (l 0) = 1 := by
      show (if _ then _ else _ : Nat → Int) (l 0) = 1
      rw [if_pos h1]
      unfold cutF
      rw [if_pos q1, q2]
    rw [h3] at h2
    cases h2
theorem pn_first (h : VN p n T fo) (hc : comN n T) : ∃ K, K ≤ 37 ∧ (pnN p n T (kerS p n n (nilRR p n T)).no (kerR p n n (nilRR p n T)) K).1 = 0 ∧ ∀ j, j < K → (pnN p n T (kerS p n n (nilRR p n T)).no (kerR p n n (nilRR p n T)) j).1 ≠ 0 := by
  have h0 := pn_end2 h hc (M := (kerS p n n (nilRR p n T)).no) (b := kerR p n n (nilRR p n T)) (nilR_VV h) (fun l hl => nilR_pw h hc hl)
  have hM := kerS_le (p := p) (n := n) (N := n) (R := nilRR p n T)
  have hn := h.n6
  have hmn : (kerS p n n (nilRR p n T)).no * n ≤ 6 * 6 := Nat.mul_le_mul (by omega) hn
  rcases idx_cases (fun K => decide ((pnN p n T (kerS p n n (nilRR p n T)).no (kerR p n n (nilRR p n T)) K).1 = 0)) ((kerS p n n (nilRR p n T)).no * n + 1 + 1) with ⟨K, hK, hP, hb, _⟩ | ⟨hno, _⟩
  · exact ⟨K, by omega, of_decide_eq_true hP, fun j hj => of_decide_eq_false (hb j hj)⟩
  · exact absurd h0 (of_decide_eq_false (hno _ (by omega)))
theorem pn_s {M k r : Nat} {b : Nat → Nat → Int} (hr : r < (pnN p n T M b (k + 1)).1) : (pnN p n T M b (k + 1)).2 r = cutF ((redGo p ((pnN p n T M b k).1 * M) (prR p n T M (pnN p n T M b k).2 b) n).O r) n := if_pos hr
theorem pn_e (h : VN p n T fo) {M k : Nat} {b : Nat → Nat → Int} : (echGo p n (prR p n T M (pnN p n T M b k).2 b) ((pnN p n T M b k).1 * M)).no = (pnN p n T M b (k + 1)).1 ∧
    ∀ r, r < (pnN p n T M b (k + 1)).1 → ∀ z, cutF ((echGo p n (prR p n T M (pnN p n T M b k).2 b) ((pnN p n T M b k).1 * M)).O r) n z = (pnN p n T M b (k + 1)).2 r z := by
  obtain ⟨h1, h2⟩ := ech_red (m := n) h.hp (fun r (_ : r < (pnN p n T M b k).1 * M) => prR_B h M (pnN p n T M b k).2 b r)
  refine ⟨h1, fun r hr z => ?_⟩
  rw [pn_s hr]
  unfold cutF
  split
  · exact h2 r (by rw [h1]; exact hr) z (by assumption)
  · rfl
end
theorem mt_fzE {V : Vw} {k i n n' e : Nat} {sh : AV} {F G : Nat → AV} (hn : n' = n) (hz : V.fz k i) (ha : V.at' k i = some (sh, .arr n' G)) (hf : ∀ j, j < n → Mt V (F j) (G j)) : Mt V (.ro n F) (.own k i n' e) := by
  subst hn; exact mt_fz hz ha hf
end Go.Am

