/- Part 2 of what the law stands on: abstract values, their walk, contracts of functions. My own work. Conditions: none. -/
import Derived.Test.YtpaiipbomihocaaPart1
import Derived.ChangeSlices
import Derived.Laws.Externs
import Derived.Lib.Bytealg
set_option linter.unusedVariables false
set_option linter.unusedSimpArgs false
namespace Go.Am
def allP (F : Nat → Prop) : List Nat → Prop
  | [] => True
  | k :: r => F k ∧ allP F r
theorem allP_mem {F : Nat → Prop} : ∀ {l : List Nat}, allP F l → ∀ k, k ∈ l → F k
  | a :: r, h, k, hk => by
    rcases List.mem_cons.1 hk with rfl | hk
    · exact h.1
    · exact allP_mem h.2 k hk
structure PinOk (ks : List Nat) (κ0 : Gh) (X : Cx) (κ : Gh) (ol : OL) (w : World) : Prop where
  has : ∀ k, k ∈ ks → ol.has k = true
  blk : ∀ k, k ∈ ks → ∀ i, κ.blk k i = κ0.blk k i ∧ κ.shp k i = κ0.shp k i
  size : ∀ (b : Nat) cur e fr, X.w0.heap[b]? = some (.cells cur e fr) → ∃ cur' fr', w.heap[b]? = some (.cells cur' e fr') ∧ cur'.size = cur.size
section
variable {ks : List Nat} {κ0 : Gh} {X : Cx}
theorem PinOk.le {κ κ' : Gh} {ol ol' : OL} {w w' : World} (h : PinOk ks κ0 X κ ol w) (hle : Le (KK X κ ol.ob w) (KK X κ' ol'.ob w')) : PinOk ks κ0 X κ' ol' w' where
  has := fun k hk => hle.dom k (h.has k hk)
  blk := fun k hk i => ⟨((hle.blk k i (h.has k hk)).1).trans (h.blk k hk i).1, ((hle.blk k i (h.has k hk)).2).trans (h.blk k hk i).2⟩
  size := fun b cur e fr hb => by
    obtain ⟨c1, f1, h1, e1⟩ := h.size b cur e fr hb
    obtain ⟨c2, f2, h2, e2⟩ := hle.size b c1 e f1 h1
    exact ⟨c2, f2, h2, e2.trans e1⟩
def pins (ks : List Nat) (ρ : Nat → Nat → Nat × Nat) (ol : OL) : Prop := allP (fun k => (∀ i, ρ k i = (k, i)) ∧ ol.has k = true) ks
theorem PinOk.emb {κ κ' : Gh} {ol ol' : OL} {w : World} {ρ : Nat → Nat → Nat × Nat} (h : PinOk ks κ0 X κ' ol' w) (hp : pins ks ρ ol) (hV : VwOk (vwOf ρ ol' ol) (KK X κ' ol'.ob w) (KK X κ ol.ob w)) : PinOk ks κ0 X κ ol w where
  has := fun k hk => (allP_mem hp k hk).2
  blk := fun k hk i => ⟨((hV.blk k i k i ((allP_mem hp k hk).1 i)).1).trans (h.blk k hk i).1, ((hV.blk k i k i ((allP_mem hp k hk).1 i)).2).trans (h.blk k hk i).2⟩
  size := h.size
end
def QQp (ks : List Nat) (κ0 : Gh) (X : Cx) (N : Nat) (Q : Exit → Env → OL → Prop) : Exit → Act → World → Prop := fun ex a w =>
  ∃ κ env ol, Q ex env ol ∧ Rel X κ ol.ob w ∧ EnvR (KK X κ ol.ob w) env a.tmps ∧ a.tmps.size = N ∧ a.defers = [] ∧ PinOk ks κ0 X κ ol w
section
variable {P : Program} {T : TT} {ks : List Nat}
theorem WOps_soundp (hT : TOk P T) (arr : Array Oper) {N : Nat} {κ0 : Gh} {Q : Exit → Env → OL → Prop} : ∀ (ops : List Oper) (env : Env) (ol : OL), WOps P T arr ops env ol (fun env' ol' => Q .normal env' ol') → dstOk N ops = true →
    ∀ (X : Cx) (κ : Gh) (a : Act) (w : World), X.P = P → X.T = T → Rel X κ ol.ob w → EnvR (KK X κ ol.ob w) env a.tmps → a.tmps.size = N → a.defers = [] → PinOk ks κ0 X κ ol w → wpList P arr (QQp ks κ0 X N Q) ops a w
  | [], env, ol, h, _, X, κ, a, w, hP, hTT, hR, hE, hN, hD, hp => ⟨κ, env, ol, h, hR, hE, hN, hD, hp⟩
  | o :: r, env, ol, h, hdst, X, κ, a, w, hP, hTT, hR, hE, hN, hD, hp => by
    simp only [dstOk, List.all_cons, Bool.and_eq_true] at hdst
    have hlt : ∀ t, o.dst = some t → t < a.tmps.size := fun t ht => by
      have := hdst.1
      rw [ht] at this
      rw [hN]; simpa [Nat.blt_eq] using this
    have run : WOp P T o (evE env) ol (fun v ol' => WOps P T arr r (putE o.dst v env) ol' (fun env' ol' => Q .normal env' ol')) → o.wp P a w (wpList P arr (QQp ks κ0 X N Q) r) (QQp ks κ0 X N Q) := by
      intro hw
      obtain ⟨v, ol', h1, h2⟩ := WOp_out hT hw
      have := h2 X κ w a hP hTT hR hE
      unfold Oper.wp
      rw [← hP]
      rw [← hP] at this
      refine upon_of_Out this (fun c w' κ' hR' hv hle => ?_)
      rw [hP]
      exact WOps_soundp hT arr r _ ol' h1 hdst.2 X κ' _ w' hP hTT hR' ((hE.mono hle).put hv hlt) (by rw [Act.put_size]; exact hN) (by rw [Act.put_defers]; exact hD) (hp.le hle)
    have skip : WOps P T arr r (putE o.dst undA env) ol (fun env' ol' => Q .normal env' ol') → wpList P arr (QQp ks κ0 X N Q) r (a.put o.dst undef) w := fun hw =>
      WOps_soundp hT arr r _ ol hw hdst.2 X κ _ w hP hTT hR (hE.put (undA_ok _) hlt) (by rw [Act.put_size]; exact hN) (by rw [Act.put_defers]; exact hD) hp
    unfold WOps at h
    unfold wpList
    split at h
    · rename_i hg
      rw [if_pos (by simp [Region.wanted, hg])]
      exact .inl (run h)
    · rename_i j want hg
      split at h
      · rename_i d hd
        split at h
        · rename_i b hb
          have hy := yielded_of hd hE hb (dst_lt_of_eq hE hb)
          split at h
          · rename_i hbw
            have : b = want := by simpa using hbw
            subst this
            rw [if_pos (by simp [Region.wanted, hg, hy])]
            exact .inl (run h)
          · rename_i hbw
            have : b ≠ want := by simpa using hbw
            rw [if_neg (by simp [Region.wanted, hg, hy, this])]
            exact skip h
        · rename_i f hb
          have hy := yielded_none hd hE hb
          rw [if_neg (by simp [Region.wanted, hg, hy])]
          exact skip h
        · exact h.elim
      · exact h.elim
def Snp (ks : List Nat) (P : Program) (T : TT) (N : Nat) (c : Code) (env : Env) (ol : OL) (Q : Exit → Env → OL → Prop) : Prop :=
  ∀ (κ0 : Gh) (X : Cx) (κ : Gh) (a : Act) (w : World), X.P = P → X.T = T → Rel X κ ol.ob w → EnvR (KK X κ ol.ob w) env a.tmps → a.tmps.size = N → a.defers = [] → PinOk ks κ0 X κ ol w → c.wp P (QQp ks κ0 X N Q) a w
variable {N : Nat} {env : Env} {ol : OL} {Q : Exit → Env → OL → Prop}
theorem snp_skip (h : Q .normal env ol) : Snp ks P T N .skip env ol Q := fun κ0 X κ a w hP hTT hR hE hN hD hp => wp_skip ⟨κ, env, ol, h, hR, hE, hN, hD, hp⟩
theorem snp_exit {id : Nat} (h : Q (.exit id) env ol) : Snp ks P T N (.exit id) env ol Q := fun κ0 X κ a w hP hTT hR hE hN hD hp => wp_exit ⟨κ, env, ol, h, hR, hE, hN, hD, hp⟩
theorem snp_ret (h : Q .ret env ol) : Snp ks P T N .ret env ol Q := fun κ0 X κ a w hP hTT hR hE hN hD hp => wp_ret ⟨κ, env, ol, h, hR, hE, hN, hD, hp⟩
def thnp (ks : List Nat) (P : Program) (T : TT) (N : Nat) (y : Code) (Q : Exit → Env → OL → Prop) : Exit → Env → OL → Prop
  | .normal, env, ol => Snp ks P T N y env ol Q
  | e, env, ol => Q e env ol
theorem snp_seq {x y : Code} (h : Snp ks P T N x env ol (thnp ks P T N y Q)) : Snp ks P T N (.seq x y) env ol Q := by
  intro κ0 X κ a w hP hTT hR hE hN hD hp
  refine wp_seq (wp_mono (h κ0 X κ a w hP hTT hR hE hN hD hp) ?_)
  rintro ex a' w' ⟨κ', env', ol', hq, hR', hE', hN', hD', hp'⟩
  cases ex with
  | normal => exact hq κ0 X κ' a' w' hP hTT hR' hE' hN' hD' hp'
  | _ => exact ⟨κ', env', ol', hq, hR', hE', hN', hD', hp'⟩
theorem snp_region (hT : TOk P T) {id : Nat} {ops : Array Oper} (hd : dstOk N ops.toList = true) (h : WOps P T ops ops.toList env ol (fun env' ol' => Q .normal env' ol')) : Snp ks P T N (.region id ops false) env ol Q :=
  fun κ0 X κ a w hP hTT hR hE hN hD hp => wp_region_list (WOps_soundp hT ops ops.toList env ol h hd X κ a w hP hTT hR hE hN hD hp)
theorem snp_cond_true {c : Operand} {x y : Code} (hc : evE env c = .bool true) (h : Snp ks P T N x env ol Q) : Snp ks P T N (.cond c x y) env ol Q := by
  intro κ0 X κ a w hP hTT hR hE hN hD hp
  have := hE.ev c
  rw [hc] at this
  exact wp_cond_true (VR_bool this) (h κ0 X κ a w hP hTT hR hE hN hD hp)
theorem snp_cond_false {c : Operand} {x y : Code} (hc : evE env c = .bool false) (h : Snp ks P T N y env ol Q) : Snp ks P T N (.cond c x y) env ol Q := by
  intro κ0 X κ a w hP hTT hR hE hN hD hp
  have := hE.ev c
  rw [hc] at this
  exact wp_cond_false (VR_bool this) (h κ0 X κ a w hP hTT hR hE hN hD hp)
theorem snp_cond {c : Operand} {x y : Code} (b : Bool) (hc : evE env c = .bool b) (ht : b = true → Snp ks P T N x env ol Q) (hf : b = false → Snp ks P T N y env ol Q) : Snp ks P T N (.cond c x y) env ol Q := by
  cases b
  · exact snp_cond_false hc (hf rfl)
  · exact snp_cond_true hc (ht rfl)
theorem snp_block {id : Nat} {c : Code} (h : Snp ks P T N c env ol (inB id Q)) : Snp ks P T N (.block id c) env ol Q := by
  intro κ0 X κ a w hP hTT hR hE hN hD hp
  refine wp_block (wp_mono (h κ0 X κ a w hP hTT hR hE hN hD hp) ?_)
  rintro ex a' w' ⟨κ', env', ol', hq, hR', hE', hN', hD', hp'⟩
  cases ex with
  | exit id' =>
    simp only [Exit.inBlock]
    simp only [inB] at hq
    by_cases hid : id' = id
    · subst hid
      rw [if_pos rfl]
      simp only [Nat.beq_refl, cond_true] at hq
      exact ⟨κ', env', ol', hq, hR', hE', hN', hD', hp'⟩
    · rw [if_neg hid]
      simp only [beq_ff hid, cond_false] at hq
      exact ⟨κ', env', ol', hq, hR', hE', hN', hD', hp'⟩
  | _ => exact ⟨κ', env', ol', hq, hR', hE', hN', hD', hp'⟩
theorem snp_emb {ρ : Nat → Nat → Nat × Nat} {env2 : Env} {ol2 : OL} {c : Code} (h : Emb ρ env ol env2 ol2) (hpi : pins ks ρ ol2) (hs : Snp ks P T N c env2 ol2 Q) : Snp ks P T N c env ol Q := by
  intro κ0 X κ a w hP hTT hR hE hN hD hp
  obtain ⟨κ2, hR2, hV⟩ := h.rel hR
  exact hs κ0 X κ2 a w hP hTT hR2 (h.envR hV hE) hN hD (hp.emb hpi hV)
def rndp (ks : List Nat) {S : Type} (I : S → Env × OL) (Pr : S → Prop) (μ : S → Nat) (x : S) (Q : Exit → Env → OL → Prop) : Exit → Env → OL → Prop
  | .normal, env', ol' => ∃ x' ρ, (Emb ρ env' ol' (I x').1 (I x').2 ∧ pins ks ρ (I x').2) ∧ Pr x' ∧ μ x' < μ x
  | e, env', ol' => Q e env' ol'
theorem snp_loop {S : Type} {c : Code} (I : S → Env × OL) (Pr : S → Prop) (μ : S → Nat) (x0 : S) (ρ : Nat → Nat → Nat × Nat) (h0 : Emb ρ env ol (I x0).1 (I x0).2 ∧ pins ks ρ (I x0).2) (hp : Pr x0)
    (round : ∀ x, Pr x → Snp ks P T N c (I x).1 (I x).2 (rndp ks I Pr μ x Q)) : Snp ks P T N (.loop c) env ol Q := by
  refine snp_emb h0.1 h0.2 ?_
  intro κ0 X κ a w hP hTT hR hE hN hD hpin
  have key : ∀ n x, μ x = n → Pr x → ∀ (κ : Gh) (a : Act) (w : World), Rel X κ (I x).2.ob w → EnvR (KK X κ (I x).2.ob w) (I x).1 a.tmps → a.tmps.size = N → a.defers = [] → PinOk ks κ0 X κ (I x).2 w →
      ∀ (b : Frame) (k : List Item) (cs : List Frame), ∃ e a' w', QQp ks κ0 X N Q e a' w' ∧ Arrives P (lone (b.at a (.code c :: .inLoop c :: k)) cs w) b k cs e a' w' := by
    intro n
    induction n using Nat.strongRecOn with
    | _ n ih =>
      intro x hx hpx κ a w hR hE hN hD hpin b k cs
      obtain ⟨e, a1, w1, hq, harr⟩ := round x hpx κ0 X κ a w hP hTT hR hE hN hD hpin b (.inLoop c :: k) cs
      obtain ⟨κ', env', ol', hq, hR', hE', hN', hD', hpin'⟩ := hq
      cases e with
      | normal =>
        obtain ⟨x', ρ', ⟨hemb, hpi⟩, hpx', hlt⟩ := hq
        obtain ⟨κ2, hR2, hV⟩ := hemb.rel hR'
        obtain ⟨e2, a2, w2, hq2, harr2⟩ := ih (μ x') (hx ▸ hlt) x' rfl hpx' κ2 a1 w1 hR2 (hemb.envR hV hE') hN' hD' (hpin'.emb hpi hV) b k cs
        exact ⟨e2, a2, w2, hq2, .of_steps (Steps.trans harr (.one step_inLoop)) harr2⟩
      | exit id => exact ⟨_, a1, w1, ⟨κ', env', ol', hq, hR', hE', hN', hD', hpin'⟩, .pass (x := .inLoop c) rfl (fun _ _ => .inl (by simp)) harr⟩
      | goto l => exact ⟨_, a1, w1, ⟨κ', env', ol', hq, hR', hE', hN', hD', hpin'⟩, .pass (x := .inLoop c) rfl (fun _ _ => .inl (by simp)) harr⟩
      | ret => exact ⟨_, a1, w1, ⟨κ', env', ol', hq, hR', hE', hN', hD', hpin'⟩, .pass (x := .inLoop c) rfl (fun _ _ => .inl (by simp)) harr⟩
      | panic ch => exact ⟨_, a1, w1, ⟨κ', env', ol', hq, hR', hE', hN', hD', hpin'⟩, .pass (x := .inLoop c) rfl (fun _ _ => .inl (by simp)) harr⟩
      | outgrown => exact ⟨_, a1, w1, ⟨κ', env', ol', hq, hR', hE', hN', hD', hpin'⟩, .pass (x := .inLoop c) rfl (fun _ _ => .inl (by simp)) harr⟩
  intro b k cs
  obtain ⟨e, a', w', hq, harr⟩ := key _ x0 rfl hp κ a w hR hE hN hD hpin b k cs
  exact ⟨e, a', w', hq, .of_steps (.one step_loop) harr⟩
structure MCalls (P : Program) (T : TT) (f : FuncId) (ks : List Nat) (ars : List AV) (ol0 : OL) (r : AV) (ol1 : OL) : Prop where
  ent : Ent P f
  go : ∀ (X : Cx) (κ : Gh) (w : World) (cs : List Value), X.P = P → X.T = T → X.w0 = w → Rel X κ ol0.ob w → VRs (KK X κ ol0.ob w) ars cs →
    Calls P f cs.toArray w (fun e w' => ∃ c κ', e = .returned c ∧ Rel X κ' ol1.ob w' ∧ VR (KK X κ' ol1.ob w') r c ∧ PinOk ks κ X κ' ol1 w')
def retQp (ks : List Nat) (T : TT) (rs : List ResultVar) (r : AV) (H : OL) : Exit → Env → OL → Prop
  | .normal, env, ol => RetW T rs env ol (fun v => ∃ ρ, Emb ρ [(0, v)] ol [(0, r)] H ∧ pins ks ρ H)
  | .ret, env, ol => RetW T rs env ol (fun v => ∃ ρ, Emb ρ [(0, v)] ol [(0, r)] H ∧ pins ks ρ H)
  | _, _, _ => False
theorem mcalls_of (hT : TOk P T) {f : FuncId} {fn : Func} {c : Code} {ars : List AV} {r : AV} {ol0 H : OL} (hf : P.funcs[f]? = some fn) (hb : fn.body = some c) (hname : (fn.name == "runtime.NumGoroutine") = false)
    (hN : ars.length ≤ fn.ntmps) (hk : allP (fun k => ol0.has k = true) ks) (h : Snp ks P T fn.ntmps c (argsEnv 0 ars) ol0 (retQp ks T fn.results.toList r H)) : MCalls P T f ks ars ol0 r H := by
  refine ⟨fun args w => ?_, fun X κ w cs hP hTT hw0 hR hvs => ?_⟩
  · have hn2 : ¬ fn.name = "runtime.NumGoroutine" := by simpa using hname
    simp [callFunc, hf, hn2, hb]
  · have hlen : ∀ (ars : List AV) (cs : List Value) (K : Kx), VRs K ars cs → cs.length = ars.length := by
      intro ars
      induction ars with
      | nil => intro cs K h; cases cs with
        | nil => rfl
        | cons => exact h.elim
      | cons a ars ih => intro cs K h; cases cs with
        | nil => exact h.elim
        | cons c cs => simp [ih cs K h.2]
    have hl := hlen ars cs _ hvs
    refine calls_of_wp hf hb ?_
    have hp0 : PinOk ks κ X κ ol0 w := ⟨fun k hk' => allP_mem hk k hk', fun _ _ _ => ⟨rfl, rfl⟩, fun b cur e fr hb => ⟨cur, fr, by rw [← hw0]; exact hb, rfl⟩⟩
    refine wp_mono (h κ X κ _ w hP hTT hR (fun t => ?_) ?_ rfl hp0) ?_
    · have := argsEnv_ok ars cs 0 t hvs
      rw [if_pos (Nat.zero_le _), Nat.sub_zero] at this
      have e : (cs.toArray ++ Array.replicate (fn.ntmps - cs.toArray.size) undef).getD t undef = cs.getD t undef := by
        simp only [Array.getD_eq_getD_getElem?, List.getD_eq_getElem?_getD]
        rw [Array.getElem?_append]
        split
        · simp
        · rename_i hge
          rw [List.getElem?_eq_none (by simpa using hge)]
          rw [Array.getElem?_replicate]
          split <;> rfl
      rw [e]
      exact this
    · simp only [Array.size_append, List.size_toArray, Array.size_replicate]
      omega
    · rintro ex a' w' ⟨κ', env', ol', hq, hR', hE', hN', hD', hp'⟩
      have fin : RetW T fn.results.toList env' ol' (fun v => ∃ ρ, Emb ρ [(0, v)] ol' [(0, r)] H ∧ pins ks ρ H) → a'.defers = [] ∧ ∃ v, (results fn a'.tmps).run P w' = .ok v w' ∧ (∃ c κ', Ending.returned v = .returned c ∧ Rel X κ' H.ob w' ∧ VR (KK X κ' H.ob w') r c ∧ PinOk ks κ X κ' H w') := by
        intro hret
        obtain ⟨v, ⟨ρ, hemb, hpi⟩, hrun⟩ := RetW_run hT hret
        obtain ⟨c, h1, h2⟩ := hrun _ κ' w' a'.tmps hP hTT hR' hE'
        obtain ⟨κ2, hR2, hV⟩ := hemb.rel hR'
        refine ⟨hD', c, h1, c, κ2, rfl, hR2, ?_, hp'.emb hpi hV⟩
        exact MtE_VR hV hemb.1.1 h2
      cases ex with
      | normal => exact fin hq
      | ret => exact fin hq
      | _ => exact hq.elim
end
end Go.Am

set_option linter.unusedVariables false
set_option linter.unusedSimpArgs false
namespace Go.Am
def AV.inner (D : Nat → Bool) : AV → Prop
  | .arr _ f => ∀ i, (f i).inner D
  | .sct _ f => ∀ i, (f i).inner D
  | .tup _ f => ∀ i, (f i).inner D
  | .own k _ _ _ => D k = true
  | .cptr _ => False
  | .ro _ _ => False
  | .ptr _ _ _ _ _ => False
  | .fn _ n _ => n = 0
  | _ => True
def innerH (D : Nat → Bool) : OL → Prop
  | [] => True
  | (_, .one _ c) :: r => c.inner D ∧ innerH D r
  | (_, .gone) :: r => innerH D r
  | (_, .many f) :: r => (∀ i sh c, f i = some (sh, c) → c.inner D) ∧ innerH D r
theorem innerH_at {D : Nat → Bool} {H : OL} (h : innerH D H) {k i : Nat} {sh c : AV} (hk : H.at_ k i = some (sh, c)) : c.inner D := by
  induction H with
  | nil => cases hk
  | cons p r ih =>
    obtain ⟨k', G⟩ := p
    simp only [OL.at_] at hk
    cases G with
    | one s1 c1 =>
      cases hb : Nat.beq k k'
      · rw [hb] at hk; exact ih h.2 hk
      · rw [hb] at hk
        simp only [cond_true, Fam.at_] at hk
        cases hi : Nat.beq i 0
        · rw [hi] at hk; cases hk
        · rw [hi] at hk
          simp only [cond_true, Option.some.injEq, Prod.mk.injEq] at hk
          rw [← hk.2]; exact h.1
    | gone =>
      cases hb : Nat.beq k k'
      · rw [hb] at hk; exact ih h hk
      · rw [hb] at hk; cases hk
    | many f =>
      cases hb : Nat.beq k k'
      · rw [hb] at hk; exact ih h.2 hk
      · rw [hb] at hk
        exact h.1 i sh c hk
structure SameD (D : Nat → Bool) (K K' : Kx) : Prop where
  heap : K'.heap = K.heap
  dom : ∀ k, D k = true → K'.dom k
  blk : ∀ k, D k = true → ∀ i, K'.blk k i = K.blk k i ∧ K'.shp k i = K.shp k i
  sz : K'.sz = K.sz
  zr : K'.zr = K.zr
theorem ownR_same {D : Nat → Bool} {K K' : Kx} (h : SameD D K K') {k i n : Nat} {e : TypeId} {c : Value} (hk : D k = true) (ho : K.ownR k i n e c) : K'.ownR k i n e c := by
  obtain ⟨_, hn, cap, cur, fr, rfl, h1, h2, h3, h4⟩ := ho
  obtain ⟨b1, b2⟩ := h.blk k hk i
  exact ⟨h.dom k hk, by rw [b2, h.zr]; exact hn, cap, cur, fr, by rw [b1], h1, h2, by rw [b1, h.heap]; exact h3, by rw [h.sz]; exact h4⟩
theorem FL_inner {D : Nat → Bool} {K K' : Kx} (h : SameD D K K') : ∀ {v : AV} {cs : List Value}, v.inner D → FL K v cs → FL K' v cs := by
  intro v
  induction v with
  | arr n f ih =>
    rintro cs hv ⟨g, rfl, hg⟩
    exact ⟨g, rfl, fun i hi => ⟨ih i (hv i) (hg i hi).1, (hg i hi).2⟩⟩
  | sct n f ih =>
    rintro cs hv ⟨g, rfl, hg⟩
    exact ⟨g, rfl, fun i hi => ih i (hv i) (hg i hi)⟩
  | own k i n e => rintro cs hv ⟨c, rfl, hc⟩; exact ⟨c, rfl, ownR_same h hv hc⟩
  | cptr v ih => intro cs hv; exact hv.elim
  | ro n f ih => intro cs hv; exact hv.elim
  | fn q n caps ih =>
    rintro cs hv ⟨cv, rfl, h1, h2⟩
    have hn : n = 0 := hv
    subst hn
    exact ⟨cv, rfl, h1, fun i hi => absurd hi (Nat.not_lt_zero _)⟩
  | tup n f _ => intro cs _ h; exact h.elim
  | ptr k i p o r _ => intro cs _ h; exact h.elim
  | _ => intro cs _ h; exact h
theorem VR_inner {D : Nat → Bool} {K K' : Kx} (h : SameD D K K') : ∀ {v : AV} {c : Value}, v.inner D → VR K v c → VR K' v c := by
  intro v
  induction v with
  | arr n f ih => rintro c hv ⟨cs, rfl, hc⟩; exact ⟨cs, rfl, FL_inner (v := .arr n f) h hv hc⟩
  | sct n f ih => rintro c hv ⟨cs, rfl, hc⟩; exact ⟨cs, rfl, FL_inner (v := .sct n f) h hv hc⟩
  | tup n f ih => rintro c hv ⟨vs, rfl, h1, h2⟩; exact ⟨vs, rfl, h1, fun i hi => ih i (hv i) (h2 i hi)⟩
  | fn q n caps ih =>
    rintro c hv ⟨cv, rfl, h1, h2⟩
    have hn : n = 0 := hv
    subst hn
    exact ⟨cv, rfl, h1, fun i hi => absurd hi (Nat.not_lt_zero _)⟩
  | ptr => intro c hv; exact hv.elim
  | cptr => intro c hv; exact hv.elim
  | ro => intro c hv; exact hv.elim
  | any => intro c _ _; trivial
  | own k i n e => intro c hv hc; exact FL_inner (v := .own k i n e) h hv hc
  | _ => intro c _ hc; exact hc
def innerL (D : Nat → Bool) : List AV → Prop
  | [] => True
  | a :: r => a.inner D ∧ innerL D r
theorem VRs_inner {D : Nat → Bool} {K K' : Kx} (h : SameD D K K') : ∀ {ars : List AV} {cs : List Value}, innerL D ars → VRs K ars cs → VRs K' ars cs
  | [], [], _, _ => trivial
  | [], _ :: _, _, h2 => h2.elim
  | a :: ars, [], _, h2 => h2.elim
  | a :: ars, c :: cs, hi, h2 => ⟨VR_inner h hi.1 h2.1, VRs_inner h hi.2 h2.2⟩
section
variable {P : Program} {T : TT}
theorem EnvR_args {K : Kx} {env : Env} {a : Act} (h : EnvR K env a.tmps) : ∀ (xs : List Operand), VRs K (xs.map (evE env)) (xs.map a.eval)
  | [] => trivial
  | x :: r => ⟨h.ev x, EnvR_args h r⟩
theorem run_call {f : FuncId} (hE : Ent P f) {dst : Option Nat} {ty : TypeId} {pos : String} {af : Array Edge} {gu : Option (Nat × Bool)} {args : Array Operand} {aty : Array TypeId} (act : Act) (w : World) :
    (execOp act.eval ⟨dst, .call { callee := .value (.func f), args := args, argTypes := aty }, ty, pos, af, gu⟩).run P w = .ok (.enter f (args.map act.eval)) w := by
  have h0 := hE (args.map act.eval) w
  have hf : act.eval (.func f) = .func (.func f) #[] #[] := rfl
  simp only [execOp, resolve, hf, Deferred.ofValue, Sem.run_bind, Sem.run_pure, Result.andThen_ok, invoke]
  simpa using h0
theorem mut_mid (hT : TOk P T) {f : FuncId} {ks : List Nat} {ars : List AV} {ol0 ol1 rest : OL} {r : AV} (hc : MCalls P T f ks ars ol0 r ol1) {dst : Option Nat} {ty : TypeId} {pos : String} {af : Array Edge} {gu : Option (Nat × Bool)} {args : Array Operand} {aty : Array TypeId} {env : Env}
    (ha : args.toList.map (evE env) = ars) (hin : innerL ol0.has ars) (hr : r.inner ol0.has) (h0 : innerH ol0.has ol0) (h1 : innerH ol0.has ol1)
    (hk : ∀ k, ol1.has k = ol0.has k) (hsh : ∀ k i, (ol1.at_ k i).map Prod.fst = (ol0.at_ k i).map Prod.fst) (hks : ∀ k, ol0.has k = true → k ∈ ks) :
    MidJ P T ⟨dst, .call { callee := .value (.func f), args := args, argTypes := aty }, ty, pos, af, gu⟩ env (ol0 ++ rest) r (ol1 ++ rest) := by
  intro X κ w act hP hTT hR hEn
  have at0 : ∀ {k i p}, ol0.at_ k i = some p → (ol0 ++ rest).at_ k i = some p := fun {k i p} h => by
    rw [OL.at_append, if_pos (OL.has_of_at (i := i) (by rw [h]; simp))]; exact h
  have ne0 : ∀ {k i}, ol0.at_ k i ≠ none → (ol0 ++ rest).at_ k i ≠ none := fun {k i} h => by
    cases hq : ol0.at_ k i with
    | none => exact absurd hq h
    | some p => rw [at0 hq]; simp
  have live1 : ∀ k i, ol1.at_ k i ≠ none ↔ ol0.at_ k i ≠ none := fun k i => by
    have := hsh k i
    cases h1 : ol1.at_ k i <;> cases h0 : ol0.at_ k i <;> rw [h1, h0] at this <;> simp at this <;> simp
  have liveA : ∀ k i, (ol1 ++ rest).at_ k i ≠ none ↔ (ol0 ++ rest).at_ k i ≠ none := fun k i => by
    rw [OL.at_append, OL.at_append, hk]
    by_cases h : ol0.has k = true
    · rw [if_pos h, if_pos h]; exact live1 k i
    · rw [if_neg h, if_neg h]
  have hasA : ∀ k, (ol1 ++ rest).has k = (ol0 ++ rest).has k := fun k => by rw [OL.has_append, OL.has_append, hk]
  let M' : Nat → Prop := fun b => ∃ k i, ol0.at_ k i ≠ none ∧ κ.blk k i = b
  let X' : Cx := ⟨P, T, w, fun _ => False, M'⟩
  have hD0 : SameD ol0.has (KK X κ (ol0 ++ rest).ob w) (KK X' κ ol0.ob w) :=
    ⟨rfl, fun k hk => hk, fun _ _ _ => ⟨rfl, rfl⟩, by show T.sz = X.T.sz; rw [hTT], by show T.zero = X.T.zero; rw [hTT]⟩
  have hR' : Rel X' κ ol0.ob w := by
    refine ⟨rfl, rfl, rfl, Nat.le_refl _, fun _ _ _ => rfl, fun k i sh c hq => ?_, fun k i k2 i2 hq hq2 he => hR.inj k i k2 i2 (ne0 hq) (ne0 hq2) he, fun k i hq => OL.has_of_at hq, fun b hb => hb.elim, fun b hb => ?_⟩
    · obtain ⟨cur, e, l1, l2, l3, l4, l5, l6, l7⟩ := hR.live k i sh c (at0 hq)
      exact ⟨cur, e, l1, l2, FL_inner hD0 (innerH_at h0 hq) l3, l4, l5, .inr ⟨k, i, by show ol0.at_ k i ≠ none; rw [show ol0.at_ k i = some (sh, c) from hq]; simp, rfl⟩, fun h => h⟩
    · obtain ⟨k, i, hq, rfl⟩ := hb
      exact hR.blk_lt (k := k) (i := i) (ne0 hq)
  have hvs : VRs (KK X' κ ol0.ob w) ars (args.map act.eval).toList := by
    have := EnvR_args hEn args.toList
    rw [ha] at this
    rw [Array.toList_map]
    exact VRs_inner hD0 hin this
  rw [run_call hc.ent]
  show Calls X.P f _ w _
  rw [hP]
  have := hc.go X' κ w (args.map act.eval).toList rfl rfl rfl hR' hvs
  rw [Array.toArray_toList] at this
  refine Calls.mono this ?_
  rintro ex w' ⟨c, κ', rfl, hR1, hv, hpin⟩
  have hb' : ∀ b, b < w.heap.size → ¬ M' b → w'.heap[b]? = w.heap[b]? := hR1.block
  have hs' : w.heap.size ≤ w'.heap.size := hR1.size
  have blkD : ∀ k, ol0.has k = true → ∀ i, κ.blk k i = κ'.blk k i ∧ κ.shp k i = κ'.shp k i := fun k hk i => ⟨(hpin.blk k (hks k hk) i).1.symm, (hpin.blk k (hks k hk) i).2.symm⟩
  have hJ : ∀ b, (KK X κ (ol0 ++ rest).ob w).J b → ¬ M' b := by
    rintro b hb ⟨k, i, hq, he⟩
    exact hb.2 k i (ne0 hq) he
  have hle : Le (KK X κ (ol0 ++ rest).ob w) (KK X κ (ol1 ++ rest).ob w') := by
    refine Le.step hs' (fun b hb => ⟨hb' b (hR.J_lt hb) (hJ b hb), fun k i hq => hb.2 k i ((liveA k i).1 hq)⟩) (fun k hk' => ⟨by show (ol1 ++ rest).has k = true; rw [hasA]; exact hk', fun i => ⟨rfl, rfl⟩⟩) hpin.size
  have hD1 : SameD ol0.has (KK X' κ' ol1.ob w') (KK X κ (ol1 ++ rest).ob w') :=
    ⟨rfl, fun k hk' => by show (ol1 ++ rest).has k = true; rw [hasA, OL.has_append, hk']; rfl, fun k hk' i => blkD k hk' i, by show X.T.sz = T.sz; rw [hTT], by show X.T.zero = T.zero; rw [hTT]⟩
  refine ⟨c, κ, rfl, ?_, VR_inner hD1 hr hv, hle⟩
  refine ⟨hR1.os.trans hR.os, hR1.tape.trans hR.tape, hR1.output.trans hR.output, Nat.le_trans hR.size hs', fun b hb hM => ?_, fun k i sh c2 hq => ?_, fun k i k2 i2 hq hq2 he => hR.inj k i k2 i2 ((liveA k i).1 hq) ((liveA k2 i2).1 hq2) he, fun k i hq => ?_, hR.hI, hR.hM⟩
  · have hnM : ¬ M' b := by
      rintro ⟨k, i, hq, rfl⟩
      cases hq' : ol0.at_ k i with
      | none => exact hq hq'
      | some p =>
        obtain ⟨_, _, _, _, _, _, _, l6, _⟩ := hR.live k i p.1 p.2 (at0 hq')
        rcases l6 with l6 | l6
        · omega
        · exact hM l6
    exact (hb' b (Nat.lt_of_lt_of_le hb hR.size) hnM).trans (hR.block b hb hM)
  · have hq : (ol1 ++ rest).at_ k i = some (sh, c2) := hq
    rw [OL.at_append, hk] at hq
    by_cases h : ol0.has k = true
    · rw [if_pos h] at hq
      obtain ⟨cur, e, l1, l2, l3, l4, l5, _, _⟩ := hR1.live k i sh c2 hq
      obtain ⟨p, hp⟩ : ∃ p, ol0.at_ k i = some p := by
        cases hq' : ol0.at_ k i with
        | none => exact absurd hq' ((live1 k i).1 (by rw [hq]; simp))
        | some p => exact ⟨p, rfl⟩
      obtain ⟨_, _, _, _, _, _, _, l6, l7⟩ := hR.live k i p.1 p.2 (at0 hp)
      refine ⟨cur, e, by rw [(blkD k h i).1]; exact l1, l2, FL_inner hD1 (innerH_at h1 hq) l3, l4, by rw [(blkD k h i).2]; exact l5, l6, l7⟩
    · rw [if_neg h] at hq
      have hq0 : (ol0 ++ rest).at_ k i = some (sh, c2) := by rw [OL.at_append, if_neg h]; exact hq
      obtain ⟨cur, e, l1, l2, l3, l4, l5, l6, l7⟩ := hR.live k i sh c2 hq0
      have hnM : ¬ M' (κ.blk k i) := by
        rintro ⟨k2, i2, hq2, he⟩
        obtain ⟨rfl, _⟩ := hR.inj k2 i2 k i (ne0 hq2) (by show (ol0 ++ rest).at_ k i ≠ none; rw [hq0]; simp) he
        exact h (OL.has_of_at hq2)
      exact ⟨cur, e, (hb' _ (Array.getElem?_eq_some_iff.1 l1).1 hnM).trans l1, l2, FL_mono hle l3, l4, l5, l6, l7⟩
  · have := OL.has_of_at ((liveA k i).1 hq)
    show (ol1 ++ rest).has k = true
    rw [hasA]; exact this
theorem mut_mid1 (hT : TOk P T) {f : FuncId} {q n e : Nat} {sh c0 c1 r : AV} {more : List AV} (hc : MCalls P T f [q] (.own q 0 n e :: more) [(q, .one sh c0)] r [(q, .one sh c1)]) {dst : Option Nat} {ty : TypeId} {pos : String} {af : Array Edge} {gu : Option (Nat × Bool)} {s : Operand} {args : List Operand} {aty : Array TypeId} {env : Env} {ol : OL} {k i : Nat}
    (hs : evE env s = .own k i n e) (ha : args.map (evE env) = more) (hin : innerL (fun _ => false) more) (hr : r.inner (fun _ => false)) (h0 : c0.inner (fun _ => false)) (h1 : c1.inner (fun _ => false))
    (hat : ol.at_ k i = some (sh, c0)) :
    MidJ P T ⟨dst, .call { callee := .value (.func f), args := (s :: args).toArray, argTypes := aty }, ty, pos, af, gu⟩ env ol r (ol.set k i (some (sh, c1))) := by
  intro X κ w act hP hTT hR hEn
  have hhas : ol.has k = true := OL.has_of_at (i := i) (by rw [hat]; simp)
  have hlive : ol.ob.at_ k i ≠ none := by show ol.at_ k i ≠ none; rw [hat]; simp
  obtain ⟨cur0, e0, m1, m2, m3, m4, m5, m6, m7⟩ := hR.live k i sh c0 hat
  let X' : Cx := ⟨P, T, w, fun _ => False, fun b => b = κ.blk k i⟩
  let κ0 : Gh := ⟨fun _ _ => κ.blk k i, fun _ _ => κ.shp k i⟩
  have hq0 : ∀ k' i' sh' c', OL.at_ [(q, .one sh c0)] k' i' = some (sh', c') → k' = q ∧ i' = 0 ∧ sh' = sh ∧ c' = c0 := by
    intro k' i' sh' c' h
    simp only [OL.at_] at h
    cases hb : Nat.beq k' q
    · rw [hb] at h; cases h
    · rw [hb] at h
      simp only [cond_true, Fam.at_] at h
      cases hi : Nat.beq i' 0
      · rw [hi] at h; cases h
      · rw [hi] at h
        simp only [cond_true, Option.some.injEq, Prod.mk.injEq] at h
        exact ⟨Nat.eq_of_beq_eq_true hb, Nat.eq_of_beq_eq_true hi, h.1.symm, h.2.symm⟩
  have hqn : ∀ k' i', OL.at_ [(q, .one sh c0)] k' i' ≠ none → k' = q ∧ i' = 0 := by
    intro k' i' h
    cases hh : OL.at_ [(q, .one sh c0)] k' i' with
    | none => exact absurd hh h
    | some p => exact ⟨(hq0 k' i' p.1 p.2 hh).1, (hq0 k' i' p.1 p.2 hh).2.1⟩
  have hD0 : SameD (fun _ => false) (KK X κ ol.ob w) (KK X' κ0 (OL.ob [(q, .one sh c0)]) w) :=
    ⟨rfl, fun _ h => (by cases h), fun _ h => (by cases h), by show T.sz = X.T.sz; rw [hTT], by show T.zero = X.T.zero; rw [hTT]⟩
  have hR' : Rel X' κ0 (OL.ob [(q, .one sh c0)]) w := by
    refine ⟨rfl, rfl, rfl, Nat.le_refl _, fun _ _ _ => rfl, fun k' i' sh' c' hq => ?_, fun k' i' k2 i2 hq hq2 _ => ?_, fun k' i' hq => OL.has_of_at hq, fun b hb => hb.elim, fun b hb => ?_⟩
    · obtain ⟨_, _, rfl, rfl⟩ := hq0 k' i' sh' c' hq
      exact ⟨cur0, e0, m1, m2, FL_inner hD0 h0 m3, m4, m5, .inr rfl, fun h => h⟩
    · obtain ⟨rfl, rfl⟩ := hqn k' i' hq
      obtain ⟨rfl, rfl⟩ := hqn k2 i2 hq2
      exact ⟨rfl, rfl⟩
    · have hb' : b = κ.blk k i := hb
      rw [hb']
      exact (Array.getElem?_eq_some_iff.1 m1).1
  have hvs : VRs (KK X' κ0 (OL.ob [(q, .one sh c0)]) w) (.own q 0 n e :: more) ((s :: args).toArray.map act.eval).toList := by
    have h1 := EnvR_args hEn args
    rw [ha] at h1
    have h2 := hEn.ev s
    rw [hs] at h2
    simp only [List.map_toArray, List.map_cons]
    refine ⟨?_, VRs_inner hD0 hin h1⟩
    obtain ⟨_, hn, cap, cur, fr, hv, g1, g2, g3, g4⟩ := VR_own h2
    rw [hv]
    exact ⟨_, rfl, by show OL.has [(q, .one sh c0)] q = true; simp [OL.has], by show κ.shp k i = AV.arr n (fun _ => T.zero e); exact hn.trans (by show AV.arr n (fun _ => X.T.zero e) = _; rw [hTT]), cap, cur, fr, rfl, g1, g2, g3, by show cur.size = cap * T.sz e; rw [g4]; show cap * X.T.sz e = _; rw [hTT]⟩
  rw [run_call hc.ent]
  show Calls X.P f _ w _
  rw [hP]
  have := hc.go X' κ0 w ((s :: args).toArray.map act.eval).toList rfl rfl rfl hR' hvs
  rw [Array.toArray_toList] at this
  refine Calls.mono this ?_
  rintro ex w' ⟨c, κ', rfl, hR1, hv, hpin⟩
  have hb' : ∀ b, b < w.heap.size → b ≠ κ.blk k i → w'.heap[b]? = w.heap[b]? := hR1.block
  have hs' : w.heap.size ≤ w'.heap.size := hR1.size
  obtain ⟨cur1, e1, l1, l2, l3, l4, l5, _, _⟩ := hR1.live q 0 sh c1 (by show OL.at_ [(q, .one sh c1)] q 0 = _; simp [OL.at_, Fam.at_])
  have hblk : κ'.blk q 0 = κ.blk k i := (hpin.blk q (by simp) 0).1
  rw [hblk] at l1
  have hset : ∀ k' i', (ol.set k i (some (sh, c1))).at_ k' i' ≠ none ↔ ol.at_ k' i' ≠ none := fun k' i' => by
    rw [OL.at_set]
    split
    · rename_i h; obtain ⟨rfl, rfl⟩ := h; rw [hat]; simp
    · exact Iff.rfl
  have hhas' : ∀ k', (ol.set k i (some (sh, c1))).has k' = ol.has k' := fun k' => by
    rw [OL.has_set]
    cases hb : Nat.beq k' k
    · simp
    · rw [Nat.eq_of_beq_eq_true hb, hhas]; rfl
  have hle : Le (KK X κ ol.ob w) (KK X κ (OL.ob (ol.set k i (some (sh, c1)))) w') := by
    refine Le.step hs' (fun b hb => ⟨hb' b (hR.J_lt hb) (fun he => hb.2 k i hlive he.symm), fun k' i' hq => hb.2 k' i' ((hset k' i').1 hq)⟩) (fun k' hk' => ⟨by show OL.has _ k' = true; rw [hhas']; exact hk', fun i => ⟨rfl, rfl⟩⟩) hpin.size
  have hD1 : SameD (fun _ => false) (KK X' κ' (OL.ob [(q, .one sh c1)]) w') (KK X κ (OL.ob (ol.set k i (some (sh, c1)))) w') :=
    ⟨rfl, fun _ h => (by cases h), fun _ h => (by cases h), by show X.T.sz = T.sz; rw [hTT], by show X.T.zero = T.zero; rw [hTT]⟩
  refine ⟨c, κ, rfl, ?_, VR_inner hD1 hr hv, hle⟩
  refine ⟨hR1.os.trans hR.os, hR1.tape.trans hR.tape, hR1.output.trans hR.output, Nat.le_trans hR.size hs', fun b hb hM => ?_, fun k' i' sh' c' hq => ?_, fun k' i' k2 i2 hq hq2 he => hR.inj k' i' k2 i2 ((hset k' i').1 hq) ((hset k2 i2).1 hq2) he, fun k' i' hq => ?_, hR.hI, hR.hM⟩
  · refine (hb' b (Nat.lt_of_lt_of_le hb hR.size) (fun he => ?_)).trans (hR.block b hb hM)
    subst he
    rcases m6 with m6 | m6
    · omega
    · exact hM m6
  · have hq : (ol.set k i (some (sh, c1))).at_ k' i' = some (sh', c') := hq
    rw [OL.at_set] at hq
    by_cases h : k' = k ∧ i' = i
    · rw [if_pos h] at hq
      obtain ⟨q1, q2⟩ := Prod.mk.inj (Option.some.inj hq)
      obtain ⟨rfl, rfl⟩ := h
      subst q1; subst q2
      exact ⟨cur1, e1, l1, l2, FL_inner hD1 h1 l3, l4, m5, m6, m7⟩
    · rw [if_neg h] at hq
      obtain ⟨cur, e', g1, g2, g3, g4, g5, g6, g7⟩ := hR.live k' i' sh' c' hq
      have hne : κ.blk k' i' ≠ κ.blk k i := fun he => h (hR.inj k' i' k i (by show ol.at_ k' i' ≠ none; rw [hq]; simp) hlive he)
      exact ⟨cur, e', (hb' _ (Array.getElem?_eq_some_iff.1 g1).1 hne).trans g1, g2, FL_mono hle g3, g4, g5, g6, g7⟩
  · have := OL.has_of_at ((hset k' i').1 hq)
    show OL.has _ k' = true
    rw [hhas']; exact this
end
end Go.Am

set_option linter.unusedVariables false
set_option linter.unusedSimpArgs false
namespace Go.Am
section
variable {p : Int} {n : Nat} {T : Nat → Nat → Nat → Int}
def cg (p : Int) (n : Nat) (u v : Nat → Int) : Prop := ∀ j, j < n → p ∣ u j - v j
theorem cg.rf (u : Nat → Int) : cg p n u u := fun j _ => dvd_rf rfl
theorem cg.sy {u v : Nat → Int} (h : cg p n u v) : cg p n v u := fun j hj => dvd_sy (h j hj)
theorem cg.tr {u v w : Nat → Int} (h : cg p n u v) (h' : cg p n v w) : cg p n u w := fun j hj => dvd_tr (h j hj) (h' j hj)
theorem VV.ext {u v : Nat → Int} (hu : VV p n u) (hv : VV p n v) (h : cg p n u v) : u = v := by
  funext k
  by_cases hk : k < n
  · exact eq_of_dvd (hu.b k) (hv.b k) (h k hk)
  · rw [hu.z k (by omega), hv.z k (by omega)]
theorem VV.zero (hp : 0 < p) : VV p n (fun _ => 0) := ⟨fun _ => ⟨Int.le_refl _, hp⟩, fun _ _ => rfl⟩
theorem VV.eF (hp : 1 < p) {i : Nat} (hi : i < n) : VV p n (eF i) := ⟨eF_Bp hp i, fun k hk => by rw [eF_dl]; unfold dl; rw [if_neg (by omega)]⟩
theorem VV.add (hp : 0 < p) {u v : Nat → Int} (hu : VV p n u) (hv : VV p n v) (c : Int) : VV p n (addF p u v c) := ⟨addF_Bp hp u v c, fun k hk => by unfold addF; rw [hu.z k hk, hv.z k hk, Int.mul_zero]; rfl⟩
theorem VV.eqN {u v : Nat → Int} (h6 : n ≤ 6) (hu : VV p n u) (hv : VV p n v) : eqN 6 u v ↔ u = v := by
  constructor
  · intro h
    funext k
    by_cases hk : k < 6
    · exact h k hk
    · rw [hu.z k (by omega), hv.z k (by omega)]
  · rintro rfl k _; rfl
def s3 (n : Nat) (f : Nat → Nat → Nat → Int) : Int := sumZ (fun i => sumZ (fun j => sumZ (f i j) n) n) n
end
section
variable {p : Int} {n : Nat} {T : Nat → Nat → Nat → Int} {fo : Nat → Int}
theorem VN.LU (h : VN p n T fo) : LU p n T (uF p n T) := (uF_unit h.hp h.n0 h.hT h.u).1
theorem VN.RU (h : VN p n T fo) : RU p n T (uF p n T) := (uF_unit h.hp h.n0 h.hT h.u).2.1
def iM (p : Int) (n : Nat) (T : Nat → Nat → Nat → Int) (v : Nat → Int) (x j : Nat) : Nat → Int := if x = 0 then timesF p n T v (eF j) else timesF p n T (eF j) v
noncomputable abbrev iR (p : Int) (n : Nat) (T : Nat → Nat → Nat → Int) (v : Nat → Int) : Nat → Nat → Int := sysR n (iM p n T v) (fun _ => uF p n T)
def iOk (p : Int) (n : Nat) (T : Nat → Nat → Nat → Int) (v : Nat → Int) : Prop := conP n (redGo p (2 * n) (iR p n T v) (n + 1)).no (redGo p (2 * n) (iR p n T v) (n + 1)).O
noncomputable instance (p : Int) (n : Nat) (T : Nat → Nat → Nat → Int) (v : Nat → Int) : Decidable (iOk p n T v) := Classical.propDecidable _
def sS (p : Int) (n N : Nat) (S : Nat → Nat → Int) : Nat → Int := cutF (fun a => (echGo p (n + 1) S N).O a n) n
def oS (p : Int) (n N : Nat) (S : Nat → Nat → Int) : Prop := oneP n (echGo p (n + 1) S N).no (echGo p (n + 1) S N).O
noncomputable instance (p : Int) (n N : Nat) (S : Nat → Nat → Int) : Decidable (oS p n N S) := Classical.propDecidable _
theorem oS_sol {N : Nat} {S : Nat → Nat → Int} (hp : primeB p = true) (hS : ∀ i, Bp p (S i)) (h : oS p n N S) : Sol p n N S (sS p n N S) ∧ VV p n (sS p n N S) ∧ ∀ x, Sol p n N S x → cg p n x (sS p n N S) := by
  have hpb := primeB_bd hp
  obtain ⟨⟨l, hrr⟩, hnl⟩ := ech_ok (m := n + 1) (R := S) hp N (fun i _ => hS i)
  refine ⟨sol_null.2 ((hnl _).1 (sol_null.1 (one_sol hrr h))), ⟨fun j => ?_, fun j hj => by unfold sS cutF; rw [if_neg (by omega)]⟩, fun x hx j hj => ?_⟩
  · unfold sS cutF
    split
    · exact hrr.bp j (by have := h.1; omega) n
    · omega
  · have := one_uniq hrr h (sol_null.2 ((hnl _).2 (sol_null.1 hx))) hj
    unfold sS cutF
    rwa [if_pos hj]
theorem oS_of {N : Nat} {S : Nat → Nat → Int} (hp : primeB p = true) (hS : ∀ i, Bp p (S i)) {x : Nat → Int} (hx : Sol p n N S x) (hu : ∀ y, Sol p n N S y → cg p n y x) : oS p n N S := by
  have hpb := primeB_bd hp
  obtain ⟨⟨l, hrr⟩, hnl⟩ := ech_ok (m := n + 1) (R := S) hp N (fun i _ => hS i)
  have hs : ∀ y, Sol p n _ (echGo p (n + 1) S N).O y ↔ Sol p n N S y := fun y => by rw [sol_null, sol_null]; exact hnl _
  exact one_of_uniq (by omega) hrr (con_of_sol (by omega) hrr ((hs x).2 hx)) (fun u v hu' hv' => (hu u ((hs u).1 hu')).tr (hu v ((hs v).1 hv')).sy)
end
end Go.Am

set_option linter.unusedVariables false
set_option linter.unusedSimpArgs false
namespace Go.Am
section
variable {H : Type} {enc : TypeId × Value → H} {P : Program} {w : World} {base : Nat} {spare : Nat → Bool} {held : Bool}
end
end Go.Am

set_option linter.unusedVariables false
set_option linter.unusedSimpArgs false
namespace Go.Am
section
variable {p : Int} {m : Nat}
theorem dot_congr {f g x : Nat → Int} : ∀ m, (∀ j, j < m → f j = g j) → dot m f x = dot m g x := fun m h => sumZ_congr m (fun j hj => by rw [h j hj])
end
section
variable {p : Int} {m no : Nat} {O O' : Nat → Nat → Int}
end
end Go.Am

set_option linter.unusedVariables false
set_option linter.unusedSimpArgs false
namespace Go.Am
theorem fam_sh {b N e : Nat} {w : Nat → Nat} {F : Nat → Nat → Int} {ol : OL} {r : Nat} (hr : r < N) : OL.at_ (OL.shift b [(0, .one (ZR N) (CO 1 N w e)), (1, .many (famF N w F))] ++ ol) (b + 1) r = some (Z64 (w r), C64 (w r) (F r)) := by
  have e1 : Nat.beq (b + 1) (b + 0) = false := beq_ff (by omega)
  show (bif Nat.beq (b + 1) (b + 0) then _ else bif Nat.beq (b + 1) (b + 1) then (match famF N w F r with | some (sh, c) => some (sh, Am.shift b c) | none => none) else _) = _
  rw [e1, Nat.beq_refl, famF_at hr]
  rfl
def symA (n : Nat) (F : Nat → Nat → Int) : Prop := ∀ i, i < n → ∀ j, j < n → F j i = F i j
def symS (n : Nat) (F : Nat → Nat → Int) : Prop := ∀ i, i < n → ∀ j, j < i → F i j = F j i
noncomputable instance (n : Nat) (F : Nat → Nat → Int) : Decidable (symA n F) := Classical.propDecidable _
noncomputable instance (n : Nat) (F : Nat → Nat → Int) : Decidable (symS n F) := Classical.propDecidable _
theorem VN.ee {p : Int} {n : Nat} {T : Nat → Nat → Nat → Int} {fo : Nat → Int} (h : VN p n T fo) {i j : Nat} (hi : i < n) (hj : j < n) : timesF p n T (eF i) (eF j) = T i j := by
  funext k
  by_cases hk : k < n
  · exact times_ee hi hj hk (h.hT i j k)
  · unfold timesF; rw [if_neg hk, h.tz i j k (by omega)]
theorem Mt.rf {V : Vw} {v : AV} (h : v.closed) (hn : v ≠ .any) : Mt V v v := Mt_closed h (fun _ _ _ => trivial) hn
end Go.Am

set_option linter.unusedVariables false
set_option linter.unusedSimpArgs false
namespace Go.Am
def kdx (fr : Nat → Bool) (i : Nat) (o : Oper) : Nat := bif fr i then 0 else kind o
theorem kdx_le (fr : Nat → Bool) (i : Nat) (o : Oper) : kdx fr i o = 0 ∨ kdx fr i o = 1 ∨ kdx fr i o = 2 := by
  unfold kdx
  cases fr i
  · exact kind_le o
  · exact .inl rfl
def StepK (q : Nat) (P : Program) (T : TT) (arr : Array Oper) (o : Oper) (env : Env) (ol : OL) (v : AV) (ol' : OL) : Prop :=
  (gd arr o env = some false ∧ v = undA ∧ ol' = ol) ∨
  (gd arr o env = some true ∧
    ((q = 0 ∧ ol' = ol ∧ PureJ P T o (evE env) v) ∨
     (q = 1 ∧ ∃ A : OL, ol' = A ++ ol ∧ PassJ' P T o (evE env) ol.ob v A ∧ ∀ k, A.has k = true → ol.has k = false) ∨
     (q = 2 ∧ ActJ P T o (evE env) ol.ob v ol'.ob)))
structure DrawOkX (ops : Array Oper) (U : Nat → Nat → Bool) (fr : Nat → Bool) : Prop where
  back : ∀ i oi, ops[i]? = some oi → ∀ e ∈ oi.after, Region.binds .any e = true → e.on < i
  clos : ∀ i oi j, ops[i]? = some oi → j < ops.size → U i j = true → ∃ e ∈ oi.after, Region.binds .any e = true ∧ (e.on = j ∨ U e.on j = true)
  ap : ∀ i oi j oj, ops[i]? = some oi → ops[j]? = some oj → j < i → oj.apart ops oi = true ∨ U i j = true
  act1 : ∀ i oi j oj, ops[i]? = some oi → ops[j]? = some oj → kdx fr i oi = 2 → kdx fr j oj = 1 → j < i → U i j = true
  act1' : ∀ i oi j oj, ops[i]? = some oi → ops[j]? = some oj → kdx fr i oi = 2 → kdx fr j oj = 1 → i < j → U j i = true
  act2 : ∀ i oi j oj, ops[i]? = some oi → ops[j]? = some oj → kdx fr i oi = 2 → kdx fr j oj = 2 → j < i → U i j = true
structure TrX (P : Program) (T : TT) (ops : Array Oper) (fr : Nat → Bool) (env : Env) (V : Nat → AV) (O : Nat → OL) : Prop where
  step : ∀ k o, ops[k]? = some o → StepK (kdx fr k o) P T ops o (envOf V (fun j => decide (j < k)) 0 ops.toList env) (O k) (V k) (O (k + 1))
variable {P : Program} {T : TT} {ops : Array Oper} {U : Nat → Nat → Bool} {fr : Nat → Bool} {env : Env} {V : Nat → AV} {O : Nat → OL}
theorem TrX.same (ht : TrX P T ops fr env V O) {k : Nat} {o : Oper} (hk : ops[k]? = some o) (h0 : kdx fr k o = 0) : O (k + 1) = O k := by
  rcases ht.step k o hk with ⟨_, _, h⟩ | ⟨_, ⟨_, h, _⟩ | ⟨h, _⟩ | ⟨h, _⟩⟩
  · exact h
  · exact h
  · rw [h0] at h; cases h
  · rw [h0] at h; cases h
theorem TrX.up (ht : TrX P T ops fr env V O) {j : Nat} {o : Oper} (hj : ops[j]? = some o) (h2 : kdx fr j o ≠ 2) {k : Nat} (hk : (O j).has k = true) : (O (j + 1)).has k = true ∧ ∀ i, (O (j + 1)).at_ k i = (O j).at_ k i := by
  rcases ht.step j o hj with ⟨_, _, h⟩ | ⟨_, ⟨_, h, _⟩ | ⟨_, A, h, _, hf⟩ | ⟨h, _⟩⟩
  · rw [h]; exact ⟨hk, fun _ => rfl⟩
  · rw [h]; exact ⟨hk, fun _ => rfl⟩
  · rw [h]
    refine ⟨by rw [OL.has_append, hk]; simp, fun i => ?_⟩
    rw [OL.at_append]
    split
    · rename_i hA
      rw [hf k hA] at hk; cases hk
    · rfl
  · exact absurd h h2
def noAct (ops : Array Oper) (fr : Nat → Bool) (a b : Nat) : Prop := ∀ i oi, ops[i]? = some oi → a ≤ i → i < b → kdx fr i oi ≠ 2
theorem noAct.sub {a b a' b' : Nat} (h : noAct ops fr a b) (ha : a ≤ a') (hb : b' ≤ b) : noAct ops fr a' b' := fun i oi hi h1 h2 => h i oi hi (by omega) (by omega)
theorem TrX.chain (ht : TrX P T ops fr env V O) {a : Nat} : ∀ d, a + d ≤ ops.size → noAct ops fr a (a + d) → ∀ {k : Nat}, (O a).has k = true → (O (a + d)).has k = true ∧ ∀ i, (O (a + d)).at_ k i = (O a).at_ k i
  | 0, _, _, k, hk => ⟨hk, fun _ => rfl⟩
  | d + 1, h, hn, k, hk => by
    obtain ⟨h1, h2⟩ := ht.chain d (by omega) (hn.sub (Nat.le_refl _) (by omega)) hk
    have hlt : a + d < ops.size := by omega
    have hx : ops[a + d]? = some ops[a + d] := by simp [hlt]
    obtain ⟨h3, h4⟩ := ht.up hx (hn _ _ hx (by omega) (by omega)) h1
    exact ⟨h3, fun i => (h4 i).trans (h2 i)⟩
theorem TrX.mono (ht : TrX P T ops fr env V O) {a b : Nat} (hab : a ≤ b) (hb : b ≤ ops.size) (hn : noAct ops fr a b) {k : Nat} (hk : (O a).has k = true) : (O b).has k = true ∧ ∀ i, (O b).at_ k i = (O a).at_ k i := by
  obtain ⟨d, rfl⟩ := Nat.exists_eq_add_of_le hab
  exact ht.chain d hb hn hk
theorem TrX.born (ht : TrX P T ops fr env V O) {a : Nat} {k : Nat} : ∀ d, (O (a + d)).has k = true → (O a).has k = true ∨ ∃ j, a ≤ j ∧ j < a + d ∧ (O (j + 1)).has k = true ∧ (O j).has k = false
  | 0, h => .inl h
  | d + 1, h => by
    cases hq : (O (a + d)).has k with
    | true =>
      rcases ht.born d hq with h | ⟨j, h1, h2, h3⟩
      · exact .inl h
      · exact .inr ⟨j, h1, by omega, h3⟩
    | false => exact .inr ⟨a + d, by omega, by omega, h, hq⟩
theorem nextAct (ops : Array Oper) (fr : Nat → Bool) : ∀ d m, m + d = ops.size → ∃ e, m ≤ e ∧ e ≤ ops.size ∧ noAct ops fr m e ∧ (e = ops.size ∨ ∃ oe, ops[e]? = some oe ∧ kdx fr e oe = 2)
  | 0, m, h => ⟨m, Nat.le_refl _, by omega, fun i oi _ h1 h2 => by omega, .inl (by omega)⟩
  | d + 1, m, h => by
    have hlt : m < ops.size := by omega
    have hx : ops[m]? = some ops[m] := by simp [hlt]
    by_cases h2 : kdx fr m ops[m] = 2
    · exact ⟨m, Nat.le_refl _, by omega, fun i oi _ h1 h2 => by omega, .inr ⟨_, hx, h2⟩⟩
    · obtain ⟨e, h3, h4, h5, h6⟩ := nextAct ops fr d (m + 1) (by omega)
      refine ⟨e, by omega, h4, fun i oi hi h7 h8 => ?_, h6⟩
      by_cases hi2 : i = m
      · subst hi2; rw [hx] at hi; cases hi; exact h2
      · exact h5 i oi hi (by omega) h8
structure Mem1 (ops : Array Oper) (fr : Nat → Bool) (O : Nat → OL) (D : Nat → Bool) (ob : Ob) (m e : Nat) : Prop where
  me : m ≤ e
  le : e ≤ ops.size
  acts : ∀ i oi, ops[i]? = some oi → kdx fr i oi = 2 → (D i = true ↔ i < m)
  no : noAct ops fr m e
  nx : e = ops.size ∨ ∃ oe, ops[e]? = some oe ∧ kdx fr e oe = 2
  p1 : ∀ i oi, ops[i]? = some oi → kdx fr i oi = 1 → i < m → D i = true
  p2 : ∀ i oi, ops[i]? = some oi → kdx fr i oi = 1 → e ≤ i → D i = false
  has : ∀ k, ob.has k = true ↔ (O m).has k = true ∨ ∃ j, m ≤ j ∧ j < e ∧ D j = true ∧ (O (j + 1)).has k = true ∧ (O j).has k = false
  at_ : ∀ k, ob.has k = true → ∀ i, ob.at_ k i = (O e).at_ k i
def MemX (ops : Array Oper) (fr : Nat → Bool) (O : Nat → OL) (D : Nat → Bool) (ob : Ob) : Prop := ∃ m e, Mem1 ops fr O D ob m e
theorem Mem1.turn (ht : TrX P T ops fr env V O) {D : Nat → Bool} {ob : Ob} {m e : Nat} (hob : ∀ k i, ob.at_ k i ≠ none → ob.has k = true) (hm : Mem1 ops fr O D ob m e)
    (h1 : ∀ i oi, ops[i]? = some oi → kdx fr i oi = 1 → m ≤ i → i < e → D i = true) : ob = (O e).ob := by
  have hh : ∀ k, ob.has k = true ↔ (O e).has k = true := by
    intro k
    rw [hm.has k]
    constructor
    · rintro (h | ⟨j, hj, hj2, _, h, _⟩)
      · exact (ht.mono hm.me hm.le hm.no h).1
      · exact (ht.mono (by omega : j + 1 ≤ e) hm.le (hm.no.sub (by omega) (Nat.le_refl _)) h).1
    · intro h
      obtain ⟨d, rfl⟩ := Nat.exists_eq_add_of_le hm.me
      rcases ht.born d h with h | ⟨j, hj, hj2, ha, hb⟩
      · exact .inl h
      · refine .inr ⟨j, hj, hj2, ?_, ha, hb⟩
        have hlt : j < ops.size := by have := hm.le; omega
        have hx : ops[j]? = some ops[j] := by simp [hlt]
        rcases kdx_le fr j ops[j] with h0 | h5 | h5
        · rw [ht.same hx h0, hb] at ha; cases ha
        · exact h1 _ _ hx h5 hj hj2
        · exact absurd h5 (hm.no _ _ hx hj hj2)
  refine Ob_ext (fun k i => ?_) (fun k => ?_)
  · cases hk : ob.has k with
    | true => exact hm.at_ k hk i
    | false =>
      have e1 : ob.at_ k i = none := by
        apply Classical.byContradiction
        intro hne
        rw [hob k i hne] at hk; cases hk
      have e2 : (O e).at_ k i = none := by
        apply Classical.byContradiction
        intro hne
        have := (hh k).2 (OL.has_of_at hne)
        rw [this] at hk; cases hk
      rw [e1]
      exact e2.symm
  · have := hh k
    show ob.has k = (O e).has k
    cases hx : ob.has k
    · rw [hx] at this
      cases hy : (O e).has k
      · rfl
      · exact absurd (this.2 hy) (by simp)
    · exact (this.1 hx).symm
section
variable {D D' : Nat → Bool} {i : Nat} {oi : Oper}
theorem Mem1.before (hd : DrawOkX ops U fr) {ob : Ob} {m e : Nat} (hm : Mem1 ops fr O D ob m e) (hi : ops[i]? = some oi) (h1 : kdx fr i oi = 1) (hU : ∀ j, j < ops.size → U i j = true → D j = true) : i < e := by
  have lt : ∀ {i : Nat} {oi : Oper}, ops[i]? = some oi → i < ops.size := fun hi => (Array.getElem?_eq_some_iff.1 hi).1
  apply Nat.lt_of_not_le
  intro hle
  rcases hm.nx with h | ⟨oe, he, h2⟩
  · have := lt hi; omega
  · have hne : e ≠ i := by
      intro h; subst h; rw [hi] at he; cases he; rw [h1] at h2; cases h2
    have := hU e (lt he) (hd.act1' e oe i oi he hi h2 h1 (by omega))
    have := (hm.acts e oe he h2).1 this
    have := hm.me
    omega
theorem MemX.zero (ht : TrX P T ops fr env V O) (hd : DrawOkX ops U fr) (hi : ops[i]? = some oi) (h0 : kdx fr i oi ≠ 2) (hU : ∀ j, j < ops.size → U i j = true → D j = true)
    (hD' : ∀ j, D' j = if j = i then true else D j) (hsame : O (i + 1) = O i) {ob : Ob} (hm : MemX ops fr O D ob) : MemX ops fr O D' ob := by
  obtain ⟨m, e, hm⟩ := hm
  refine ⟨m, e, hm.me, hm.le, fun j oj hj hk => ?_, hm.no, hm.nx, fun j oj hj hk hlt => ?_, fun j oj hj hk hle => ?_, fun k => ?_, hm.at_⟩
  · by_cases hji : j = i
    · subst hji; rw [hi] at hj; cases hj; exact absurd hk h0
    · rw [hD' j, if_neg hji]; exact hm.acts j oj hj hk
  · rw [hD' j]; split
    · rfl
    · exact hm.p1 j oj hj hk hlt
  · by_cases hji : j = i
    · subst hji; rw [hi] at hj; cases hj
      have := hm.before hd hi hk hU
      omega
    · rw [hD' j, if_neg hji]; exact hm.p2 j oj hj hk hle
  · rw [hm.has k]
    constructor
    · rintro (h | ⟨j, ha, hb, hc, hd⟩)
      · exact .inl h
      · exact .inr ⟨j, ha, hb, by rw [hD' j]; split <;> simp_all, hd⟩
    · rintro (h | ⟨j, ha, ha2, hb, hc, hd⟩)
      · exact .inl h
      · by_cases hji : j = i
        · subst hji; rw [hsame, hd] at hc; cases hc
        · rw [hD' j, if_neg hji] at hb
          exact .inr ⟨j, ha, ha2, hb, hc, hd⟩
theorem MemX.one (ht : TrX P T ops fr env V O) (hd : DrawOkX ops U fr) (hi : ops[i]? = some oi) (h1 : kdx fr i oi = 1) (hDi : D i = false) (hU : ∀ j, j < ops.size → U i j = true → D j = true)
    (hD' : ∀ j, D' j = if j = i then true else D j) {A : OL} (hA : O (i + 1) = A ++ O i) (hf : ∀ k, A.has k = true → (O i).has k = false) {ob : Ob} (hm : MemX ops fr O D ob) :
    (∀ k, ob.has k = true → (O i).ob.has k = true → ∀ j, ob.at_ k j = (O i).ob.at_ k j) ∧ (∀ k, A.has k = true → ob.has k = false) ∧ MemX ops fr O D' (A.ob.ext ob) := by
  obtain ⟨m, e, hm⟩ := hm
  have hie := hm.before hd hi h1 hU
  have hmi : m ≤ i := by
    apply Nat.le_of_not_lt
    intro h
    have := hm.p1 i oi hi h1 h
    rw [hDi] at this; cases this
  refine ⟨fun k hk hk2 j => ?_, fun k hk => ?_, m, e, hm.me, hm.le, fun j oj hj hk => ?_, hm.no, hm.nx, fun j oj hj hk hlt => ?_, fun j oj hj hk hle => ?_, fun k => ?_, fun k hk j => ?_⟩
  · rw [hm.at_ k hk j]
    exact (ht.mono (Nat.le_of_lt hie) hm.le (hm.no.sub hmi (Nat.le_refl _)) hk2).2 j
  · have hn := hf k hk
    apply Classical.byContradiction
    intro hh
    have hh : ob.has k = true := by simpa using hh
    rcases (hm.has k).1 hh with h | ⟨j, ha, ha2, hb, hc, hdd⟩
    · have := (ht.mono hmi (by have := hm.le; omega) (hm.no.sub (Nat.le_refl _) (by omega)) h).1
      rw [hn] at this; cases this
    · by_cases hji : j < i
      · have := (ht.mono (by omega : j + 1 ≤ i) (by have := hm.le; omega) (hm.no.sub (by omega) (by omega)) hc).1
        rw [hn] at this; cases this
      · by_cases hij : j = i
        · subst hij; rw [hDi] at hb; cases hb
        · have : (O (i + 1)).has k = true := by rw [hA, OL.has_append, hk]; rfl
          have := (ht.mono (by omega : i + 1 ≤ j) (by have := hm.le; omega) (hm.no.sub (by omega) (by omega)) this).1
          rw [hdd] at this; cases this
  · by_cases hji : j = i
    · subst hji; rw [hi] at hj; cases hj; rw [h1] at hk; cases hk
    · rw [hD' j, if_neg hji]; exact hm.acts j oj hj hk
  · rw [hD' j]; split
    · rfl
    · exact hm.p1 j oj hj hk hlt
  · by_cases hji : j = i
    · omega
    · rw [hD' j, if_neg hji]; exact hm.p2 j oj hj hk hle
  · have e' : (A.ob.ext ob).has k = (A.has k || ob.has k) := rfl
    rw [e', Bool.or_eq_true, hm.has k]
    constructor
    · rintro (h | h | ⟨j, ha, ha2, hb, hc⟩)
      · exact .inr ⟨i, hmi, hie, by rw [hD' i, if_pos rfl], by rw [hA, OL.has_append, h]; rfl, hf k h⟩
      · exact .inl h
      · exact .inr ⟨j, ha, ha2, by rw [hD' j]; split <;> simp_all, hc⟩
    · rintro (h | ⟨j, ha, ha2, hb, hc, hdd⟩)
      · exact .inr (.inl h)
      · by_cases hji : j = i
        · subst hji
          rw [hA, OL.has_append, hdd] at hc
          exact .inl (by simpa using hc)
        · rw [hD' j, if_neg hji] at hb
          exact .inr (.inr ⟨j, ha, ha2, hb, hc, hdd⟩)
  · have e' : (A.ob.ext ob).at_ k j = if A.has k = true then A.at_ k j else ob.at_ k j := rfl
    rw [e']
    split
    · rename_i hAk
      have hx : (O (i + 1)).has k = true := by rw [hA, OL.has_append, hAk]; rfl
      rw [(ht.mono (by omega : i + 1 ≤ e) hm.le (hm.no.sub (by omega) (Nat.le_refl _)) hx).2 j, hA, OL.at_append, if_pos hAk]
    · rename_i hAk
      refine hm.at_ k ?_ j
      have : (A.has k || ob.has k) = true := hk
      simpa [hAk] using this
theorem Mem1.start (ht : TrX P T ops fr env V O) {m e : Nat} (hme : m ≤ e) (hle : e ≤ ops.size) (hno : noAct ops fr m e) (hnx : e = ops.size ∨ ∃ oe, ops[e]? = some oe ∧ kdx fr e oe = 2)
    (hacts : ∀ i oi, ops[i]? = some oi → kdx fr i oi = 2 → (D i = true ↔ i < m)) (hp1 : ∀ i oi, ops[i]? = some oi → kdx fr i oi = 1 → i < m → D i = true) (hp2 : ∀ i oi, ops[i]? = some oi → kdx fr i oi = 1 → m ≤ i → D i = false) :
    Mem1 ops fr O D (O m).ob m e where
  me := hme
  le := hle
  acts := hacts
  no := hno
  nx := hnx
  p1 := hp1
  p2 := fun i oi hi h1 h => hp2 i oi hi h1 (by omega)
  has := fun k => by
    constructor
    · exact fun h => .inl h
    · rintro (h | ⟨j, ha, hb, hc, hd, he⟩)
      · exact h
      · have hlt : j < ops.size := by omega
        have hx : ops[j]? = some ops[j] := by simp [hlt]
        rcases kdx_le fr j ops[j] with h0 | h1 | h2
        · rw [ht.same hx h0, he] at hd; cases hd
        · rw [hp2 j _ hx h1 ha] at hc; cases hc
        · exact absurd h2 (hno j _ hx ha hb)
  at_ := fun k hk i => ((ht.mono hme hle hno hk).2 i).symm
theorem MemX.two (ht : TrX P T ops fr env V O) (hd : DrawOkX ops U fr) (hi : ops[i]? = some oi) (h2 : kdx fr i oi = 2) (hDi : D i = false)
    (hD' : ∀ j, D' j = if j = i then true else D j) (hU : ∀ j, j < ops.size → U i j = true → D j = true) (hUn : ∀ k ok, ops[k]? = some ok → U k i = true → D k = false) {ob : Ob} (hob : ∀ k i, ob.at_ k i ≠ none → ob.has k = true) (hm : MemX ops fr O D ob) :
    ob = (O i).ob ∧ MemX ops fr O D' (O (i + 1)).ob := by
  obtain ⟨m, e, hm⟩ := hm
  have lt : ∀ {i : Nat} {oi : Oper}, ops[i]? = some oi → i < ops.size := fun hi => (Array.getElem?_eq_some_iff.1 hi).1
  have hin := lt hi
  have hmi : m ≤ i := by
    apply Nat.le_of_not_lt
    intro h
    have := (hm.acts i oi hi h2).2 h
    rw [hDi] at this; cases this
  have hei : e ≤ i := by
    apply Nat.le_of_not_lt
    intro h
    exact hm.no i oi hi hmi h h2
  have hee : e = i := by
    rcases hm.nx with h | ⟨oe, he, h3⟩
    · omega
    · apply Classical.byContradiction
      intro hne
      have := hU e (lt he) (hd.act2 i oi e oe hi he h2 h3 (by omega))
      have := (hm.acts e oe he h3).1 this
      have := hm.me
      omega
  subst hee
  refine ⟨hm.turn ht hob (fun j oj hj hk ha hb => hU j (lt hj) (hd.act1 e oi j oj hi hj h2 hk hb)), ?_⟩
  obtain ⟨e', q1, q2, q3, q4⟩ := nextAct ops fr (ops.size - (e + 1)) (e + 1) (by omega)
  refine ⟨e + 1, e', Mem1.start ht q1 q2 q3 q4 (fun j oj hj hk => ?_) (fun j oj hj hk hlt => ?_) (fun j oj hj hk hle => ?_)⟩
  · rw [hD' j]
    by_cases hji : j = e
    · subst hji; simp
    · rw [if_neg hji, hm.acts j oj hj hk]
      constructor
      · intro h; omega
      · intro h
        have := hU j (lt hj) (hd.act2 e oi j oj hi hj h2 hk (by omega))
        exact (hm.acts j oj hj hk).1 this
  · rw [hD' j]; split
    · rfl
    · rename_i hne
      exact hU j (lt hj) (hd.act1 e oi j oj hi hj h2 hk (by omega))
  · rw [hD' j, if_neg (by omega)]
    exact hUn j oj hj (hd.act1' e oi j oj hi hj h2 hk (by omega))
theorem MemX.all (ht : TrX P T ops fr env V O) {ob : Ob} (hob : ∀ k i, ob.at_ k i ≠ none → ob.has k = true) (hm : MemX ops fr O D ob) (hall : ∀ i, i < ops.size → D i = true) : ob = (O ops.size).ob := by
  obtain ⟨m, e, hm⟩ := hm
  have lt : ∀ {i : Nat} {oi : Oper}, ops[i]? = some oi → i < ops.size := fun hi => (Array.getElem?_eq_some_iff.1 hi).1
  have he : e = ops.size := by
    rcases hm.nx with h | ⟨oe, he, h2⟩
    · exact h
    · have := (hm.acts e oe he h2).1 (hall e (lt he))
      have := hm.me
      omega
  have := hm.turn ht hob (fun j oj hj _ _ _ => hall j (lt hj))
  rw [this, he]
end
structure InvX (P : Program) (T : TT) (ops : Array Oper) (fr : Nat → Bool) (N : Nat) (env : Env) (V : Nat → AV) (O : Nat → OL) (X : Cx) (listed : Array Bool) (a : Act) (w : World) : Prop where
  sz : listed.size = ops.size
  cl : ∀ i oi, ops[i]? = some oi → Dl listed i = true → ∀ e ∈ oi.after, Region.binds .any e = true → Dl listed e.on = true
  pic : ∃ κ ob, Rel X κ ob w ∧ (∀ t, VR (KK X κ ob w) (get (envOf V (Dl listed) 0 ops.toList env) t) (a.tmps.getD t undef)) ∧ MemX ops fr O (Dl listed) ob
  size : a.tmps.size = N
  defers : a.defers = []
theorem WOps_cons (hT : TOk P T) (arr : Array Oper) {o : Oper} {r : List Oper} {env : Env} {ol : OL} {K : Env → OL → Prop} (h : WOps P T arr (o :: r) env ol K) :
    ∃ v ol1, StepJ P T arr o env ol v ol1 ∧ WOps P T arr r (putE o.dst v env) ol1 K := by
  unfold WOps at h
  have run : gd arr o env = some true → WOp P T o (evE env) ol (fun v ol' => WOps P T arr r (putE o.dst v env) ol' K) → ∃ v ol1, StepJ P T arr o env ol v ol1 ∧ WOps P T arr r (putE o.dst v env) ol1 K := by
    intro hg hw
    obtain ⟨v, hw⟩ := WOp_sound hT hw
    rcases hw with ⟨h0, h1, h2⟩ | ⟨h0, A, h1, h2, h3⟩ | ⟨h0, ol', h1, h2, _⟩
    · exact ⟨v, ol, .inr ⟨hg, .inl ⟨h0, rfl, h2⟩⟩, h1⟩
    · exact ⟨v, A ++ ol, .inr ⟨hg, .inr (.inl ⟨h0, A, rfl, h2, h3⟩)⟩, h1⟩
    · exact ⟨v, ol', .inr ⟨hg, .inr (.inr ⟨h0, h2⟩)⟩, h1⟩
  split at h
  · rename_i hg
    exact run (by simp [gd, hg]) h
  · rename_i j want hg
    split at h
    · rename_i d hd
      split at h
      · rename_i b hb
        split at h
        · rename_i hbw
          exact run (by simp only [gd, hg, hd, hb, hbw]) h
        · rename_i hbw
          exact ⟨undA, ol, .inl ⟨by simp only [gd, hg, hd, hb, hbw], rfl, rfl⟩, h⟩
      · rename_i hb
        exact ⟨undA, ol, .inl ⟨by simp only [gd, hg, hd, hb], rfl, rfl⟩, h⟩
      · exact h.elim
    · exact h.elim
def Ex (P : Program) (T : TT) (arr : Array Oper) (fr : Nat → Bool) (s : Nat) (ops : List Oper) (env : Env) (ol : OL) (K : Env → OL → Prop) : Prop :=
  ∃ (V : Nat → AV) (O : Nat → OL), O 0 = ol ∧ (∀ k o, ops[k]? = some o → StepK (kdx fr (s + k) o) P T arr o (envOf V (fun j => decide (j < k)) 0 ops env) (O k) (V k) (O (k + 1))) ∧ K (envOf V (fun _ => true) 0 ops env) (O ops.length)
theorem Ex.nil {arr : Array Oper} {s : Nat} {ol : OL} {K : Env → OL → Prop} (h : K env ol) : Ex P T arr fr s [] env ol K := ⟨fun _ => .any, fun _ => ol, rfl, fun k o hk => by simp at hk, h⟩
theorem Ex.cons {arr : Array Oper} {s : Nat} {o : Oper} {r : List Oper} {ol ol1 : OL} {v : AV} {K : Env → OL → Prop} (hs : StepK (kdx fr s o) P T arr o env ol v ol1) (h : Ex P T arr fr (s + 1) r (putE o.dst v env) ol1 K) : Ex P T arr fr s (o :: r) env ol K := by
  obtain ⟨V, O, hO, hst, hK⟩ := h
  refine ⟨fun | 0 => v | k + 1 => V k, fun | 0 => ol | k + 1 => O k, rfl, fun k o' hk => ?_, ?_⟩
  · cases k with
    | zero =>
      simp only [List.getElem?_cons_zero, Option.some.injEq] at hk
      subst hk
      have : (fun j : Nat => decide (j < 0)) = fun _ => false := by funext j; simp
      rw [this, envOf_none]
      simp only [Nat.zero_add, Nat.add_zero]
      rw [hO]
      exact hs
    | succ k =>
      have := hst k o' (by simpa using hk)
      simp only [envOf]
      rw [if_pos (by simp), envOf_shift]
      have e : (fun j : Nat => decide (j + 1 < k + 1)) = fun j => decide (j < k) := by funext j; simp
      rw [e, show s + (k + 1) = s + 1 + k from by omega]
      exact this
  · simp only [envOf, if_true]
    rw [envOf_shift]
    exact hK
theorem Ex.pre (hT : TOk P T) {arr : Array Oper} {r : List Oper} {K K' : Env → OL → Prop} : ∀ (l : List Oper) (s : Nat) (env : Env) (ol : OL), (∀ i, s ≤ i → i < s + l.length → fr i = false) → WOps P T arr l env ol K' → (∀ e o, K' e o → Ex P T arr fr (s + l.length) r e o K) → Ex P T arr fr s (l ++ r) env ol K
  | [], s, env, ol, _, h, hk => hk _ _ h
  | o :: l, s, env, ol, hf, h, hk' => by
    obtain ⟨v, ol1, hs, hw⟩ := WOps_cons hT arr h
    have hk : kdx fr s o = kind o := by unfold kdx; rw [hf s (Nat.le_refl _) (by simp)]; rfl
    refine Ex.cons (by rw [hk]; exact hs) (Ex.pre hT l (s + 1) _ _ (fun i h1 h2 => hf i (by omega) (by simp only [List.length_cons]; omega)) hw ?_)
    have e : s + (o :: l).length = s + 1 + l.length := by simp only [List.length_cons]; omega
    rw [e] at hk'
    exact hk'
def LoadC (P : Program) (T : TT) (o : Oper) (env : Env) (K : AV → Prop) : Prop :=
  o.guard = none ∧ ∃ t x u, o.op = .load t x ∧ evE env x = .cptr u ∧ (T.und t).known = true ∧ u.size = T.sz t ∧ u.isAgg = (T.und t).isAgg ∧ K u
theorem LoadC.step (hT : TOk P T) {arr : Array Oper} {o : Oper} {ol : OL} {K : AV → Prop} (h : LoadC P T o env K) : ∃ v, K v ∧ StepK 0 P T arr o env ol v ol := by
  obtain ⟨hg, t, x, u, ho, hx, hk, h1, h2, h⟩ := h
  refine ⟨u, h, .inr ⟨by simp [gd, hg], .inl ⟨rfl, rfl, fun X κ ob w ρ hP hTT hR hv => ?_⟩⟩⟩
  have hx' := hv x (by simp [ho, Op.operands])
  rw [hx] at hx'
  obtain ⟨b, oo, seg, e1, hJ, hu, hs⟩ := VR_cptr hx'
  obtain ⟨c, hrun, hvc⟩ := load_fin hT hk (K := KK X κ ob w) rfl hu hs h1 h2
  exact ⟨c, by simp [execOp, ho, e1, Instr.loadAt, Instr.sureAddr, hrun], hvc⟩
def WSeg (P : Program) (T : TT) (arr : Array Oper) : List Nat → List Oper → Env → OL → (Env → OL → Prop) → Prop
  | [], ops, env, ol, K => WOps P T arr ops env ol K
  | n :: fl, ops, env, ol, K => WOps P T arr (ops.take n) env ol (fun env' ol' => match ops.drop n with
    | o :: r => LoadC P T o env' (fun v => WSeg P T arr fl r (putE o.dst v env') ol' K)
    | [] => False)
def frL : List Nat → Nat → List Nat
  | [], _ => []
  | n :: fl, s => (s + n) :: frL fl (s + n + 1)
theorem frL_ge : ∀ (fl : List Nat) (s x : Nat), x ∈ frL fl s → s ≤ x
  | [], s, x, h => by cases h
  | n :: fl, s, x, h => by
    unfold frL at h
    rcases List.mem_cons.1 h with h | h
    · omega
    · have := frL_ge fl (s + n + 1) x h; omega
theorem frL_no (fl : List Nat) {s i : Nat} (h : i < s) : (frL fl s).any (Nat.beq i) = false := by
  cases hq : (frL fl s).any (Nat.beq i) with
  | false => rfl
  | true =>
    obtain ⟨x, h1, h2⟩ := List.any_eq_true.1 hq
    have := frL_ge fl s x h1
    have := Nat.eq_of_beq_eq_true h2
    omega
theorem WSeg.ex (hT : TOk P T) {arr : Array Oper} {K : Env → OL → Prop} : ∀ (fl : List Nat) (s : Nat) (ops : List Oper) (env : Env) (ol : OL), (∀ i, s ≤ i → fr i = (frL fl s).any (Nat.beq i)) → WSeg P T arr fl ops env ol K → Ex P T arr fr s ops env ol K
  | [], s, ops, env, ol, hf, h => by
    have := Ex.pre (r := []) hT ops s env ol (fun i h1 _ => by rw [hf i h1]; rfl) (K := K) (fr := fr) (arr := arr) (P := P) (T := T) h (fun _ _ h => Ex.nil h)
    rwa [List.append_nil] at this
  | n :: fl, s, ops, env, ol, hf, h => by
    have h : WOps P T arr (ops.take n) env ol (fun env' ol' => match ops.drop n with
      | o :: r => LoadC P T o env' (fun v => WSeg P T arr fl r (putE o.dst v env') ol' K)
      | [] => False) := h
    rcases Nat.lt_or_ge n ops.length with hn | hn
    · have hl : (ops.take n).length = n := by rw [List.length_take]; omega
      obtain ⟨o, r, hor⟩ : ∃ o r, ops.drop n = o :: r := by
        cases hq : ops.drop n with
        | nil => have := congrArg List.length hq; rw [List.length_drop, List.length_nil] at this; omega
        | cons o r => exact ⟨o, r, rfl⟩
      rw [hor] at h
      have hops : ops = ops.take n ++ (o :: r) := by rw [← hor, List.take_append_drop]
      rw [hops]
      refine Ex.pre hT (ops.take n) s env ol (fun i h1 h2 => ?_) h (fun env' ol' hh => ?_)
      · rw [hl] at h2
        rw [hf i h1]
        show (Nat.beq i (s + n) || (frL fl (s + n + 1)).any (Nat.beq i)) = false
        rw [frL_no fl (by omega), beq_ff (by omega)]; rfl
      · rw [hl]
        obtain ⟨v, hv, hs⟩ := LoadC.step hT (arr := arr) (ol := ol') hh
        have hfr : fr (s + n) = true := by
          rw [hf _ (by omega)]
          show (Nat.beq (s + n) (s + n) || _) = true
          rw [Nat.beq_refl]; rfl
        refine Ex.cons (v := v) (ol1 := ol') ?_ (WSeg.ex hT fl (s + n + 1) r _ _ (fun i hi => ?_) hv)
        · have : kdx fr (s + n) o = 0 := by unfold kdx; rw [hfr]; rfl
          rw [this]; exact hs
        · rw [hf i (by omega)]
          show (Nat.beq i (s + n) || _) = _
          rw [beq_ff (by omega)]; rfl
    · have e : ops.drop n = [] := List.drop_of_length_le hn
      rw [e] at h
      have := Ex.pre (r := []) hT (ops.take n) s env ol (fun i h1 h2 => ?_) (K := K) (fr := fr) (arr := arr) (P := P) (T := T) h (fun _ _ hh => hh.elim)
      · rwa [List.append_nil, List.take_of_length_le hn] at this
      · have : (ops.take n).length ≤ n := List.length_take_le _ _
        rw [hf i h1]
        show (Nat.beq i (s + n) || (frL fl (s + n + 1)).any (Nat.beq i)) = false
        rw [frL_no fl (by omega), beq_ff (by omega)]; rfl
section
variable {N : Nat} {id : Nat} {ol : OL} {Q : Exit → Env → OL → Prop}
end
theorem mt_expc {at_ : Nat → Nat → Option (AV × AV)} {d : Nat} {v : AV} (h : v.closed) (hn : v ≠ .any) : Mt V0 v (exp at_ d v) := by
  rw [exp_closed h]; exact Mt.rf h hn
end Go.Am

set_option linter.unusedVariables false
set_option linter.unusedSimpArgs false
namespace Go.Am
section
variable {P : Program} {T : TT} {N : Nat} {ks : List Nat} {env : Env} {ol : OL} {Q : Exit → Env → OL → Prop}
theorem srp (hT : TOk P T) {id : Nat} {ops : Array Oper} {y : Code} {env' : Env} {ol' : OL} (hd : dstOk N ops.toList = true)
    (h : ∀ R : Env → OL → Prop, R env' ol' → WOps P T ops ops.toList env ol R) (hy : Snp ks P T N y env' ol' Q) : Snp ks P T N (.seq (.region id ops false) y) env ol Q :=
  snp_seq (snp_region hT hd (h _ hy))
theorem lrp (hT : TOk P T) {id : Nat} {ops : Array Oper} {env' : Env} {ol' : OL} (hd : dstOk N ops.toList = true)
    (h : ∀ R : Env → OL → Prop, R env' ol' → WOps P T ops ops.toList env ol R) (hy : Q .normal env' ol') : Snp ks P T N (.region id ops false) env ol Q :=
  snp_region hT hd (h _ hy)
theorem sqp {c : Code} {env2 : Env} {ol2 : OL} (he : env = env2) (ho : ol = ol2) (h : Snp ks P T N c env2 ol2 Q) : Snp ks P T N c env ol Q := by
  subst he; subst ho; exact h
theorem WOps_runp (hT : TOk P T) (arr : Array Oper) {X : Cx} (hP : X.P = P) (hTT : X.T = T) {κ0 : Gh} {K : Env → OL → Prop} {rest : List Oper} {Qx : Exit → Act → World → Prop}
    (hk : ∀ env ol κ a w, K env ol → Rel X κ ol.ob w → EnvR (KK X κ ol.ob w) env a.tmps → a.tmps.size = N → a.defers = [] → PinOk ks κ0 X κ ol w → wpList P arr Qx rest a w) :
    ∀ (ops : List Oper) (env : Env) (ol : OL), WOps P T arr ops env ol K → dstOk N ops = true → ∀ (κ : Gh) (a : Act) (w : World), Rel X κ ol.ob w → EnvR (KK X κ ol.ob w) env a.tmps → a.tmps.size = N → a.defers = [] → PinOk ks κ0 X κ ol w → wpList P arr Qx (ops ++ rest) a w
  | [], env, ol, h, _, κ, a, w, hR, hE, hN, hD, hp => hk env ol κ a w h hR hE hN hD hp
  | o :: r, env, ol, h, hdst, κ, a, w, hR, hE, hN, hD, hp => by
    simp only [dstOk, List.all_cons, Bool.and_eq_true] at hdst
    have hlt : ∀ t, o.dst = some t → t < a.tmps.size := fun t ht => by
      have := hdst.1
      rw [ht] at this
      rw [hN]; simpa [Nat.blt_eq] using this
    have run : WOp P T o (evE env) ol (fun v ol' => WOps P T arr r (putE o.dst v env) ol' K) → o.wp P a w (wpList P arr Qx (r ++ rest)) Qx := by
      intro hw
      obtain ⟨v, ol', h1, h2⟩ := WOp_out hT hw
      have := h2 X κ w a hP hTT hR hE
      unfold Oper.wp
      rw [← hP]
      rw [← hP] at this
      refine upon_of_Out this (fun c w' κ' hR' hv hle => ?_)
      rw [hP]
      exact WOps_runp hT arr hP hTT hk r _ ol' h1 hdst.2 κ' _ w' hR' ((hE.mono hle).put hv hlt) (by rw [Act.put_size]; exact hN) (by rw [Act.put_defers]; exact hD) (hp.le hle)
    have skip : WOps P T arr r (putE o.dst undA env) ol K → wpList P arr Qx (r ++ rest) (a.put o.dst undef) w := fun hw =>
      WOps_runp hT arr hP hTT hk r _ ol hw hdst.2 κ _ w hR (hE.put (undA_ok _) hlt) (by rw [Act.put_size]; exact hN) (by rw [Act.put_defers]; exact hD) hp
    unfold WOps at h
    show wpList P arr Qx (o :: (r ++ rest)) a w
    unfold wpList
    split at h
    · rename_i hg
      rw [if_pos (by simp [Region.wanted, hg])]
      exact .inl (run h)
    · rename_i j want hg
      split at h
      · rename_i d hd
        split at h
        · rename_i b hb
          have hy := yielded_of hd hE hb (dst_lt_of_eq hE hb)
          split at h
          · rename_i hbw
            have : b = want := by simpa using hbw
            subst this
            rw [if_pos (by simp [Region.wanted, hg, hy])]
            exact .inl (run h)
          · rename_i hbw
            have : b ≠ want := by simpa using hbw
            rw [if_neg (by simp [Region.wanted, hg, hy, this])]
            exact skip h
        · rename_i f hb
          have hy := yielded_none hd hE hb
          rw [if_neg (by simp [Region.wanted, hg, hy])]
          exact skip h
        · exact h.elim
      · exact h.elim
theorem lrDp (hT : TOk P T) {id : Nat} {ops : Array Oper} {ops1 ops2 : List Oper} {o : Oper} {env1 env' : Env} {ol1 ol2 ol' : OL} {v : AV} (hd : dstOk N ops.toList = true)
    (hops : ops.toList = ops1 ++ o :: ops2) (hg : o.guard = none)
    (h1 : ∀ R : Env → OL → Prop, R env1 ol1 → WOps P T ops ops1 env ol R) (hm : MidJ P T o env1 ol1 v ol2)
    (h2 : ∀ R : Env → OL → Prop, R env' ol' → WOps P T ops ops2 (putE o.dst v env1) ol2 R)
    (hy : Q .normal env' ol') : Snp ks P T N (.region id ops false) env ol Q := by
  intro κ0 X κ a w hP hTT hR hE hN hD hp
  refine wp_region_list ?_
  rw [hops] at hd ⊢
  simp only [dstOk, List.all_append, List.all_cons, Bool.and_eq_true] at hd
  have hlt : ∀ (a : Act), a.tmps.size = N → ∀ t, o.dst = some t → t < a.tmps.size := fun a hN t ht => by
    have := hd.2.1
    rw [ht] at this
    rw [hN]; simpa [Nat.blt_eq] using this
  refine WOps_runp hT ops hP hTT (K := fun e l => e = env1 ∧ l = ol1) ?_ ops1 env ol (h1 _ ⟨rfl, rfl⟩) hd.1 κ a w hR hE hN hD hp
  rintro e l κ1 a1 w1 ⟨rfl, rfl⟩ hR1 hE1 hN1 hD1 hp1
  unfold wpList
  rw [if_pos (by simp [Region.wanted, hg])]
  refine .inl ?_
  unfold Oper.wp
  have := hm X κ1 w1 a1 hP hTT hR1 hE1
  rw [← hP]
  rw [← hP] at this
  refine upon_of_Out this (fun c w' κ' hR' hv hle => ?_)
  rw [hP]
  exact WOps_soundp hT ops (Q := Q) ops2 _ _ (h2 _ hy) hd.2.2 X κ' (a1.put o.dst c) w' hP hTT hR' ((hE1.mono hle).put hv (hlt a1 hN1)) (by rw [Act.put_size]; exact hN1) (by rw [Act.put_defers]; exact hD1) (hp1.le hle)
theorem srDp (hT : TOk P T) {id : Nat} {ops : Array Oper} {ops1 ops2 : List Oper} {o : Oper} {y : Code} {env1 env' : Env} {ol1 ol2 ol' : OL} {v : AV} (hd : dstOk N ops.toList = true)
    (hops : ops.toList = ops1 ++ o :: ops2) (hg : o.guard = none)
    (h1 : ∀ R : Env → OL → Prop, R env1 ol1 → WOps P T ops ops1 env ol R) (hm : MidJ P T o env1 ol1 v ol2)
    (h2 : ∀ R : Env → OL → Prop, R env' ol' → WOps P T ops ops2 (putE o.dst v env1) ol2 R)
    (hy : Snp ks P T N y env' ol' Q) : Snp ks P T N (.seq (.region id ops false) y) env ol Q :=
  snp_seq (lrDp hT hd hops hg h1 hm h2 hy)
end
theorem emb_famR {ρ : Nat → Nat → Nat × Nat} {ko kf ko' kf' N e : Nat} {w : Nat → Nat} {F : Nat → Nat → Int} {g : Nat → AV} {env' env : Env} {ol' : OL} (h1' : ∀ i, ρ ko i = (ko', i)) (h2' : ∀ i, ρ kf i = (kf', i)) (hne : ko' ≠ kf')
    (hk : ko ≠ kf) (h1 : ol'.at_ ko' 0 = some (ZR N, .arr N g)) (hg : ∀ j, j < N → g j = .own kf' j (w j) e)
    (h3 : ∀ r, r < N → ∃ C, ol'.at_ kf' r = some (Z64 (w r), C) ∧ ∀ V : Vw, Mt V (C64 (w r) (F r)) C)
    (henv : envAll (fun t v => MtE (vwOf ρ ol' [(ko, .one (ZR N) (CO kf N w e)), (kf, .many (famF N w F))]) v (get env' t)) env) :
    Emb ρ env' ol' env [(ko, .one (ZR N) (CO kf N w e)), (kf, .many (famF N w F))] := by
  have hdom : OL.has [(ko, .one (ZR N) (CO kf N w e)), (kf, .many (famF N w F))] kf = true := by simp [OL.has]
  refine ⟨henv, ⟨?_, fun r sh cc h => ?_, trivial⟩, ⟨⟨fun _ => ⟨rfl, rfl⟩, fun r sh cc h he => ?_, trivial⟩, fun r sh cc h => ⟨fun he => ?_, fun r2' sh2 cc2 h2 he => ?_, trivial⟩, trivial⟩⟩
  · dsimp only
    rw [h1']
    dsimp only
    rw [h1]
    exact ⟨rfl, ⟨rfl, fun _ => trivial⟩, rfl, fun j hj => by rw [hg j hj]; exact ⟨h2' j, rfl, rfl, hdom⟩⟩
  · obtain ⟨hr, rfl, rfl⟩ := famF_some h
    rw [h2']
    dsimp only
    obtain ⟨C, h3, h4⟩ := h3 r hr
    rw [h3]
    exact ⟨rfl, ⟨rfl, fun _ => trivial⟩, h4 _⟩
  · rw [h1', h2'] at he
    exact absurd (congrArg Prod.fst he) hne
  · rw [h1', h2'] at he
    exact absurd (congrArg Prod.fst he).symm hne
  · rw [h2', h2'] at he
    exact ⟨rfl, congrArg Prod.snd he⟩
theorem rtp {T : TT} {ks : List Nat} {t : Nat} {env : Env} {ol H : OL} {r : AV} {ρ : Nat → Nat → Nat × Nat} (h : Emb ρ [(0, get env t)] ol [(0, r)] H) (hp : pins ks ρ H) : retQp ks T [.tmp t] r H .ret env ol := ⟨ρ, h, hp⟩
end Go.Am

set_option linter.unusedVariables false
set_option linter.unusedSimpArgs false
namespace Go.Am
theorem mt_row0 {at_ : Nat → Nat → Option (AV × AV)} {k e N : Nat} {sh : AV} {f : Nat → Int} (h : at_ k 0 = some (sh, C64 N f)) : Mt V0 (rowA N f) (exp at_ 4 (.own k 0 N e)) := by
  show Mt V0 _ (match at_ k 0 with | some (_, .arr m f) => AV.ro m (fun j => exp at_ 3 (f j)) | _ => .any)
  rw [h]
  exact ⟨rfl, fun j _ => rfl⟩
theorem mt_int0 {at_ : Nat → Nat → Option (AV × AV)} {k : IntKind} {x : Int} : Mt V0 (.int k x) (exp at_ 4 (.int k x)) := rfl
end Go.Am

set_option linter.unusedVariables false
set_option linter.unusedSimpArgs false
namespace Go.Am
abbrev T3 := Nat → Nat → Nat → Int
theorem mul8 {x y : Int} (hx : 0 ≤ x ∧ x < 256) (hy : 0 ≤ y ∧ y < 256) : 0 ≤ x * y ∧ x * y ≤ 65025 := by
  refine ⟨Int.mul_nonneg hx.1 hy.1, ?_⟩
  have h1 : x * y ≤ 255 * y := Int.mul_le_mul_of_nonneg_right (by omega) hy.1
  omega
end Go.Am

set_option linter.unusedVariables false
set_option linter.unusedSimpArgs false
namespace Go.Am
def apF (p : Int) (F : Nat → Nat → Int) (v : Nat → Int) : Nat → Nat → Int
  | 0 => fun _ => 0
  | i + 1 => addF p (apF p F v i) (F i) (v i)
def starP (p : Int) (n : Nat) (T : T3) (fo : Nat → Int) (F : Nat → Nat → Int) : Prop :=
  ∀ i, i < n → (eqN 6 (apF p F (F i) n) (eF i) ∧ formF p fo (F i) = fo i) ∧ ∀ j, j < n → eqN 6 (apF p F (T i j) n) (timesF p n T (F j) (F i))
noncomputable instance (p : Int) (n : Nat) (T : T3) (fo : Nat → Int) (F : Nat → Nat → Int) : Decidable (starP p n T fo F) := Classical.propDecidable _
def liP (p : Int) (n : Int) (M : Nat) (F : Nat → Nat → Int) : Prop := (M : Int) = n ∧ ∀ i, i < M → smP p n (F i)
noncomputable instance (p n : Int) (M : Nat) (F : Nat → Nat → Int) : Decidable (liP p n M F) := Classical.propDecidable _
end Go.Am

set_option linter.unusedVariables false
set_option linter.unusedSimpArgs false
namespace Go.Am
def parD (c : Int) : Int := if 48 ≤ c ∧ c ≤ 57 then c - 48 else if 97 ≤ c ∧ c ≤ 99 then c - 87 else -1
def rdD (s : ByteArray) (i : Nat) : Int := parD (byteAt s i)
def rdOk (s : ByteArray) (n : Nat) : Prop := s.size = n ∧ ∀ i, i < n → 0 ≤ rdD s i
noncomputable instance (s : ByteArray) (n : Nat) : Decidable (rdOk s n) := Classical.propDecidable _
def rdF (s : ByteArray) (n : Nat) : Nat → Int := fun i => if i < n ∧ 0 ≤ rdD s i then rdD s i else 0
def rdV (p : Int) (n : Nat) (s : ByteArray) : Prop := rdOk s n ∧ smP p (n : Int) (rdF s n)
noncomputable instance (p : Int) (n : Nat) (s : ByteArray) : Decidable (rdV p n s) := Classical.propDecidable _
end Go.Am

set_option linter.unusedVariables false
set_option linter.unusedSimpArgs false
namespace Go.Am
theorem inc_id {n : Nat} {l : Nat → Nat} (h : ∀ i j, i < j → j < n → l i < l j) (hl : ∀ i, i < n → l i < n) : ∀ i, i < n → l i = i := by
  have lo : ∀ i, i < n → i ≤ l i := by
    intro i
    induction i with
    | zero => intro _; omega
    | succ i ih => intro hi; have := ih (by omega); have := h i (i + 1) (by omega) hi; omega
  have hi : ∀ d i, i + d = n - 1 → i < n → l i ≤ i := by
    intro d
    induction d with
    | zero => intro i h1 h2; have := hl i h2; omega
    | succ d ih => intro i h1 h2; have h3 := ih (i + 1) (by omega) (by omega); have := h i (i + 1) (by omega) (by omega); omega
  intro i h1
  have := lo i h1
  have := hi (n - 1 - i) i (by omega) h1
  omega
section
variable {p : Int} {n : Nat} {A : Nat → Nat → Int}
def gS (n : Nat) (A : Nat → Nat → Int) (i : Nat) : Nat → Nat → Int := fun r j => if j < n then A r j else dl r i
theorem gS_Bp (hp : 1 < p) (hA : ∀ i, Bp p (A i)) (i r : Nat) : Bp p (gS n A i r) := fun j => by
  unfold gS dl
  split
  · exact hA r j
  · split <;> omega
theorem full_null (hp : primeB p = true) (hA : ∀ i, Bp p (A i)) (hr : (redGo p n A n).no = n) {x : Nat → Int} (hx : Null p n n A x) {j : Nat} (hj : j < n) : p ∣ x j := by
  obtain ⟨⟨l, rr⟩, hn⟩ := red_ok (m := n) hp (fun i (_ : i < n) => hA i)
  have hx' := (hn x).2 hx
  have hl : ∀ i, i < (redGo p n A n).no → l i = i := by
    have := inc_id (n := (redGo p n A n).no) rr.inc (fun i hi => by have := (rr.lead i hi).1; omega)
    exact this
  have := null_lead rr hx' (i := j) (by omega) (fun k hk hne => by
    rw [hl j (by omega)] at hne
    have h0 := rr.off k j (by omega) (by omega) hne
    rw [hl k (by omega)] at h0
    rw [h0, Int.zero_mul])
  rwa [hl j (by omega)] at this
theorem gS_dot {i r : Nat} (x : Nat → Int) : dot n (gS n A i r) x = dot n (A r) x := dot_congr n (fun j hj => by unfold gS; rw [if_pos hj])
theorem gS_n {i r : Nat} : gS n A i r n = dl r i := by unfold gS; rw [if_neg (Nat.lt_irrefl n)]
theorem gS_con (hp : primeB p = true) (hA : ∀ i, Bp p (A i)) (hr : (redGo p n A n).no = n) (i : Nat) : conP n (redGo p n (gS n A i) (n + 1)).no (redGo p n (gS n A i) (n + 1)).O := by
  have hpb := primeB_bd hp
  obtain ⟨⟨l, rr⟩, hn⟩ := red_ok (m := n + 1) hp (fun r (_ : r < n) => gS_Bp (n := n) (by omega) hA i r)
  have hno := red_counts p n (gS n A i) (n + 1)
  generalize (redGo p n (gS n A i) (n + 1)).no = no at *
  generalize (redGo p n (gS n A i) (n + 1)).O = O at *
  intro i0 hi0
  apply Classical.byContradiction
  intro hge
  have hl0 : l i0 = n := by
    have h1 := (rr.lead i0 hi0).1
    rw [leadN_of (rr.lead i0 hi0)] at hge
    omega
  obtain ⟨c, hc, hcl⟩ : ∃ c, c < n ∧ ¬ IsL no l c := by
    apply Classical.byContradiction
    intro hall
    have hall : ∀ c, c < n → IsL no l c := fun c hc => Classical.byContradiction fun h => hall ⟨c, hc, h⟩
    have := (inc_eq (n := no) (n' := n + 1) (l := l) (l' := fun i => i) rr.inc (fun i j h _ => h) (fun i hi => ⟨l i, (rr.lead i hi).1, rfl⟩) (fun c hc => by
      rcases Nat.lt_or_ge c n with h | h
      · exact hall c h
      · exact ⟨i0, hi0, by omega⟩)).1
    omega
  have hx := (hn _).1 (solC_null rr (c := c) (by omega) hcl)
  have hxn : solC no O l c n = 0 := by
    have h1 := solC_lead rr hcl hi0
    rw [hl0] at h1
    rw [h1, (rr.lead i0 hi0).2.2 c (by omega)]; rfl
  have hA0 : Null p n n A (solC no O l c) := by
    intro r hr'
    have h1 := hx r hr'
    unfold Z at h1 ⊢
    have h2 : dot (n + 1) (gS n A i r) (solC no O l c) = dot n (A r) (solC no O l c) := by
      show dot n (gS n A i r) _ + gS n A i r n * solC no O l c n = _
      rw [gS_dot, hxn, Int.mul_zero, Int.add_zero]
    rwa [h2] at h1
  have h1 := full_null hp hA hr hA0 hc
  rw [solC_self] at h1
  have := Int.le_of_dvd (by omega) h1
  omega
theorem gS_one (hp : primeB p = true) (hA : ∀ i, Bp p (A i)) (hr : (redGo p n A n).no = n) (i : Nat) : oS p n n (gS n A i) := by
  have hpb := primeB_bd hp
  obtain ⟨⟨l, rr⟩, hn⟩ := red_ok (m := n + 1) hp (fun r (_ : r < n) => gS_Bp (n := n) (by omega) hA i r)
  have hs := sol_of_con rr (gS_con hp hA hr i)
  have hs' : Sol p n n (gS n A i) _ := sol_null.2 ((hn _).1 (sol_null.1 hs))
  refine oS_of hp (gS_Bp (by omega) hA i) hs' (fun y hy j hj => ?_)
  generalize solGo n (redGo p n (gS n A i) (n + 1)).O (redGo p n (gS n A i) (n + 1)).no = x at hs'
  have hd : Null p n n A (fun j => y j - x j) := by
    intro r hr'
    have h1 := hy r hr'
    have h2 := hs' r hr'
    rw [gS_dot] at h1 h2
    have h3 : dot n (A r) (fun j => y j - x j) = dot n (A r) y - dot n (A r) x := by
      unfold dot
      rw [show (fun j => A r j * (y j - x j)) = fun j => A r j * y j + (-1) * (A r j * x j) from funext fun j => by rw [Int.mul_sub]; omega, sumZ_add, sumZ_mul]
      omega
    unfold Z
    rw [h3]
    exact dvd_tr h1 (dvd_sy h2)
  exact full_null hp hA hr hd hj
def cpM (p : Int) (n : Nat) (A : Nat → Nat → Int) (r i : Nat) : Int := sS p n n (gS n A i) r
theorem cpM_Bp (hp : primeB p = true) (hA : ∀ i, Bp p (A i)) (hr : (redGo p n A n).no = n) (r : Nat) : Bp p (cpM p n A r) := fun i =>
  (oS_sol hp (gS_Bp (by have := primeB_bd hp; omega) hA i) (gS_one hp hA hr i)).2.1.b r
theorem cpM_mul (hp : primeB p = true) (hA : ∀ i, Bp p (A i)) (hr : (redGo p n A n).no = n) {r i : Nat} (hr' : r < n) : p ∣ sumZ (fun j => A r j * cpM p n A j i) n - dl r i := by
  have h := (oS_sol hp (gS_Bp (by have := primeB_bd hp; omega) hA i) (gS_one hp hA hr i)).1 r hr'
  rw [gS_dot, gS_n] at h
  exact h
def auS (n : Nat) (A : Nat → Nat → Int) : Nat → Nat → Int := fun r j => if j < n then A r j else dl r (j - n)
theorem auS_Bp (hp : 1 < p) (hA : ∀ i, Bp p (A i)) (r : Nat) : Bp p (auS n A r) := fun j => by
  unfold auS dl
  split
  · exact hA r j
  · split <;> omega
def auO (p : Int) (n : Nat) (A : Nat → Nat → Int) : Nat → Nat → Int := fun r j => if j < n then dl r j else cpM p n A r (j - n)
theorem dot_split (f x : Nat → Int) (n : Nat) : ∀ m, dot (n + m) f x = dot n f x + dot m (fun j => f (n + j)) (fun j => x (n + j))
  | 0 => by show _ = _ + 0; rw [Int.add_zero]; rfl
  | m + 1 => by
    show dot (n + m) f x + f (n + m) * x (n + m) = dot n f x + (dot m _ _ + f (n + m) * x (n + m))
    rw [dot_split f x n m, Int.add_assoc]
theorem au_dot {r : Nat} (hr : r < n) (x : Nat → Int) : dot (n + n) (auS n A r) x = dot n (A r) x + x (n + r) := by
  rw [dot_split]
  congr 1
  · exact dot_congr n (fun j hj => by unfold auS; rw [if_pos hj])
  · have : dot n (fun j => auS n A r (n + j)) (fun j => x (n + j)) = sumZ (fun j => (fun j => x (n + j)) j * dl j r) n := by
      refine sumZ_congr n (fun j hj => ?_)
      show auS n A r (n + j) * x (n + j) = x (n + j) * dl j r
      unfold auS
      rw [if_neg (by omega), Nat.add_sub_cancel_left, Int.mul_comm]
      congr 1
      unfold dl
      by_cases h : r = j
      · rw [if_pos h, if_pos h.symm]
      · rw [if_neg h, if_neg (Ne.symm h)]
    rw [this, sum_dl (fun j => x (n + j)) hr]
theorem auO_dot {r : Nat} (hr : r < n) (x : Nat → Int) : dot (n + n) (auO p n A r) x = x r + sumZ (fun i => cpM p n A r i * x (n + i)) n := by
  rw [dot_split]
  congr 1
  · have : dot n (auO p n A r) x = sumZ (fun j => x j * dl j r) n := by
      refine sumZ_congr n (fun j hj => ?_)
      unfold auO
      rw [if_pos hj, Int.mul_comm]
      congr 1
      unfold dl
      by_cases h : r = j
      · rw [if_pos h, if_pos h.symm]
      · rw [if_neg h, if_neg (Ne.symm h)]
    rw [this, sum_dl x hr]
  · exact sumZ_congr n (fun j hj => by show auO p n A r (n + j) * x (n + j) = _; unfold auO; rw [if_neg (by omega), Nat.add_sub_cancel_left])
theorem cpM_app (hp : primeB p = true) (hA : ∀ i, Bp p (A i)) (hr : (redGo p n A n).no = n) (y : Nat → Int) {r : Nat} (hr' : r < n) : p ∣ sumZ (fun j => A r j * sumZ (fun i => cpM p n A j i * y i) n) n - y r := by
  have e : sumZ (fun j => A r j * sumZ (fun i => cpM p n A j i * y i) n) n = sumZ (fun i => sumZ (fun j => A r j * cpM p n A j i) n * y i) n := by
    rw [show (fun j => A r j * sumZ (fun i => cpM p n A j i * y i) n) = fun j => sumZ (fun i => A r j * (cpM p n A j i * y i)) n from funext fun j => (sumZ_mul _ _ n).symm, sumZ_swap]
    refine sumZ_congr n (fun i hi => ?_)
    rw [← sumZ_mulr]
    exact sumZ_congr n (fun j hj => by rw [Int.mul_assoc])
  rw [e]
  have h := sumZ_dvd (p := p) (f := fun i => sumZ (fun j => A r j * cpM p n A j i) n * y i) (g := fun i => y i * dl i r) n (fun i hi => by
    have h1 := cpM_mul hp hA hr (i := i) hr'
    have h2 : sumZ (fun j => A r j * cpM p n A j i) n * y i - y i * dl i r = (sumZ (fun j => A r j * cpM p n A j i) n - dl r i) * y i := by
      rw [Int.sub_mul, Int.mul_comm (y i)]
      congr 2
      unfold dl
      by_cases h : r = i
      · rw [if_pos h, if_pos h.symm]
      · rw [if_neg h, if_neg (Ne.symm h)]
    rw [h2]
    exact Int.dvd_mul_of_dvd_left h1)
  rwa [sum_dl y hr'] at h
theorem au_red (hp : primeB p = true) (hA : ∀ i, Bp p (A i)) (hr : (redGo p n A n).no = n) :
    (redGo p n (auS n A) (n + n)).no = n ∧ ∀ r, r < n → ∀ j, j < n + n → (redGo p n (auS n A) (n + n)).O r j = auO p n A r j := by
  have hpb := primeB_bd hp
  obtain ⟨⟨l, rr⟩, hn⟩ := red_ok (m := n + n) hp (fun r (_ : r < n) => auS_Bp (n := n) (by omega) hA r)
  have rr' : Rref p (n + n) n (auO p n A) (fun i => i) := by
    refine ⟨fun i hi j => ?_, fun i hi => ⟨by omega, ?_, fun j hj => ?_⟩, fun i j hi hj hne => ?_, fun i j h _ => h⟩
    · unfold auO dl
      split
      · split <;> omega
      · exact cpM_Bp hp hA hr i _
    · unfold auO dl; rw [if_pos hi, if_pos rfl]
    · unfold auO dl; rw [if_pos (by omega), if_neg (by omega)]
    · unfold auO dl; rw [if_pos hi, if_neg (Ne.symm hne)]
  have hN : ∀ x, Null p (n + n) (redGo p n (auS n A) (n + n)).no (redGo p n (auS n A) (n + n)).O x ↔ Null p (n + n) n (auO p n A) x := by
    intro x
    rw [hn x]
    have hC := fun r (hr' : r < n) => cpM_app hp hA hr (fun i => x (n + i)) hr'
    constructor
    · intro h
      have hz : Null p n n A (fun j => x j + sumZ (fun i => cpM p n A j i * x (n + i)) n) := by
        intro r hr'
        have h1 := h r hr'
        unfold Z at h1 ⊢
        rw [au_dot hr'] at h1
        have h2 := hC r hr'
        have e : dot n (A r) (fun j => x j + sumZ (fun i => cpM p n A j i * x (n + i)) n) = dot n (A r) x + sumZ (fun j => A r j * sumZ (fun i => cpM p n A j i * x (n + i)) n) n := by
          unfold dot
          rw [← sumZ_add]
          exact sumZ_congr n (fun j _ => Int.mul_add _ _ _)
        rw [e]
        have := Int.dvd_add h1 h2
        rwa [show dot n (A r) x + x (n + r) + (sumZ (fun j => A r j * sumZ (fun i => cpM p n A j i * x (n + i)) n) n - x (n + r)) = dot n (A r) x + sumZ (fun j => A r j * sumZ (fun i => cpM p n A j i * x (n + i)) n) n by omega] at this
      intro r hr'
      unfold Z
      rw [auO_dot hr']
      exact full_null hp hA hr hz hr'
    · intro h r hr'
      unfold Z
      rw [au_dot hr']
      have h2 := hC r hr'
      have h1 : p ∣ dot n (A r) x + sumZ (fun j => A r j * sumZ (fun i => cpM p n A j i * x (n + i)) n) n := by
        unfold dot
        rw [← sumZ_add]
        have := sumZ_dvd (p := p) (f := fun j => A r j * x j + A r j * sumZ (fun i => cpM p n A j i * x (n + i)) n) (g := fun _ => 0) n (fun j hj => by
          have h3 := h j hj
          unfold Z at h3
          rw [auO_dot hj] at h3
          rw [← Int.mul_add, Int.sub_zero]
          exact Int.dvd_mul_of_dvd_right h3)
        rwa [sumZ_zero, Int.sub_zero] at this
      have := Int.dvd_sub h1 h2
      rwa [show dot n (A r) x + sumZ (fun j => A r j * sumZ (fun i => cpM p n A j i * x (n + i)) n) n - (sumZ (fun j => A r j * sumZ (fun i => cpM p n A j i * x (n + i)) n) n - x (n + r)) = dot n (A r) x + x (n + r) by omega] at this
  obtain ⟨h1, h2⟩ := rref_unique (by omega) rr rr' hN
  exact ⟨h1, fun r hr' j hj => h2 r (by omega) j hj⟩
end
def ρ2x (a b : Nat) : Nat → Nat → Nat × Nat := fun k i => bif Nat.beq k a then (b, i) else (k, i)
section
variable {n i j r : Nat}
theorem w02 : (if r < i then n + n else n) = (if r < i then n + n else if r = i then n + 0 else n) := by
  by_cases h : r < i
  · rw [if_pos h, if_pos h]
  · rw [if_neg h, if_neg h]; split <;> rfl
theorem w20 : (if r < i then n + n else if r = i then n + n else n) = (if r < i + 1 then n + n else n) := by
  by_cases h : r < i
  · rw [if_pos h, if_pos (by omega)]
  · rw [if_neg h]
    by_cases h2 : r = i
    · rw [if_pos h2, if_pos (by omega)]
    · rw [if_neg h2, if_neg (by omega)]
theorem w2s (h : r ≠ i) : (if r < i then n + n else if r = i then n + j else n) = (if r < i then n + n else if r = i then n + (j + 1) else n) := by
  rw [if_neg h, if_neg h]
theorem w2j : (if i < i then n + n else if i = i then n + j else n) = n + j := by rw [if_neg (Nat.lt_irrefl i), if_pos rfl]
theorem w2i : (if i < i then n + n else if i = i then n + (j + 1) else n) = n + j + 1 := by rw [w2j]; rfl
theorem f02 {A : Nat → Nat → Int} {z : Nat} (hz : z < if r < i then n + n else n) : mixG (auS n A) A i r z = mixG (auS n A) A (i + 1) r z := by
  by_cases h : r < i
  · rw [mixG_lt _ _ h, mixG_lt _ _ (by omega)]
  · rw [if_neg h] at hz
    rw [mixG_ge _ _ (by omega)]
    by_cases h2 : r = i
    · rw [mixG_lt _ _ (by omega)]; unfold auS; rw [if_pos hz]
    · rw [mixG_ge _ _ (by omega)]
theorem auS_at {A : Nat → Nat → Int} : dl i j = auS n A i (n + j) := by unfold auS; rw [if_neg (by omega), Nat.add_sub_cancel_left]
end
end Go.Am

set_option linter.unusedVariables false
set_option linter.unusedSimpArgs false
namespace Go.Am
def lk : List (Nat × Nat) → Nat → Nat
  | [], k => k
  | (a, b) :: r, k => bif Nat.beq k a then b else lk r k
def ρL (m : List (Nat × Nat)) (kg c s : Nat) : Nat → Nat → Nat × Nat := fun k i => bif Nat.beq k kg && Nat.beq i c then (s, 0) else (lk m k, i)
def keysOf : OL → List Nat
  | [] => []
  | (k, _) :: r => k :: keysOf r
def okL (m : List (Nat × Nat)) (s : Nat) (ks : List Nat) : Bool := ks.all fun a => !Nat.beq (lk m a) s && ks.all fun b => Nat.beq a b || !Nat.beq (lk m a) (lk m b)
theorem liveAll_keys {P : Nat → Nat → AV → AV → Prop} : ∀ {ol : OL}, (∀ k i sh c, k ∈ keysOf ol → P k i sh c) → liveAll P ol
  | [], _ => trivial
  | (k, .one sh c) :: r, h => ⟨h k 0 sh c (by simp [keysOf]), liveAll_keys (fun k i sh c hk => h k i sh c (by simp [keysOf, hk]))⟩
  | (k, .many f) :: r, h => ⟨fun i sh c _ => h k i sh c (by simp [keysOf]), liveAll_keys (fun k i sh c hk => h k i sh c (by simp [keysOf, hk]))⟩
  | (k, .gone) :: r, h => liveAll_keys (ol := r) (fun k i sh c hk => h k i sh c (by simp [keysOf, hk]))
theorem emb_L {m : List (Nat × Nat)} {kg c s : Nat} {env' env : Env} {ol' ol : OL} (hk : okL m s (keysOf ol) = true) (henv : envAll (fun t v => MtE (vwOf (ρL m kg c s) ol' ol) v (get env' t)) env)
    (hlive : liveAll (fun k i sh c_1 => match ol'.at_ (ρL m kg c s k i).1 (ρL m kg c s k i).2 with | some (sh', c') => sh' = sh ∧ ssh sh c_1 ∧ Mt (vwOf (ρL m kg c s) ol' ol) c_1 c' | none => False) ol) : Emb (ρL m kg c s) env' ol' env ol := by
  refine ⟨henv, hlive, liveAll_keys (fun k i _ _ hki => liveAll_keys (fun k2 i2 _ _ hk2 he => ?_))⟩
  simp only [okL, List.all_eq_true, Bool.and_eq_true, Bool.or_eq_true, Bool.not_eq_true'] at hk
  have ha := hk k hki
  have hb := hk k2 hk2
  unfold ρL at he
  cases h1 : (Nat.beq k kg && Nat.beq i c) <;> cases h2 : (Nat.beq k2 kg && Nat.beq i2 c) <;> rw [h1, h2] at he <;> simp only [cond_true, cond_false, Prod.mk.injEq] at he
  · refine ⟨?_, he.2⟩
    rcases ha.2 k2 hk2 with h | h
    · exact Nat.eq_of_beq_eq_true h
    · rw [he.1, Nat.beq_refl] at h; cases h
  · have := ha.1
    rw [he.1, Nat.beq_refl] at this; cases this
  · have := hb.1
    rw [← he.1, Nat.beq_refl] at this; cases this
  · simp only [Bool.and_eq_true] at h1 h2
    exact ⟨(Nat.eq_of_beq_eq_true h1.1).trans (Nat.eq_of_beq_eq_true h2.1).symm, (Nat.eq_of_beq_eq_true h1.2).trans (Nat.eq_of_beq_eq_true h2.2).symm⟩
theorem ρL_ne {m : List (Nat × Nat)} {kg c s k i : Nat} (h : k ≠ kg ∨ i ≠ c) : ρL m kg c s k i = (lk m k, i) := by
  unfold ρL
  rcases h with h | h
  · rw [beq_ff h]; rfl
  · rw [beq_ff h, Bool.and_false]; rfl
theorem ρL_eq {m : List (Nat × Nat)} {kg c s : Nat} : ρL m kg c s kg c = (s, 0) := by
  unfold ρL
  rw [Nat.beq_refl, Nat.beq_refl]; rfl
theorem emb_two {m : List (Nat × Nat)} {kg c s ka fa kb N e : Nat} {wA wB : Nat → Nat} {FA FB : Nat → Nat → Int} {gA gB : Nat → AV} {env' env : Env} {ol' : OL} (hne : ka ≠ kg ∧ fa ≠ kg ∧ kb ≠ kg) (hk : okL m s [ka, fa, kb, kg] = true)
    (hA1 : ol'.at_ (lk m ka) 0 = some (ZR N, .arr N gA)) (hgA : ∀ j, j < N → gA j = .own (lk m fa) j (wA j) e) (hA2 : ∀ r, r < N → ∃ C, ol'.at_ (lk m fa) r = some (Z64 (wA r), C) ∧ ∀ V : Vw, Mt V (C64 (wA r) (FA r)) C)
    (hB1 : ol'.at_ (lk m kb) 0 = some (ZR N, .arr N gB)) (hgB : ∀ j, j < N → j ≠ c → gB j = .own (lk m kg) j (wB j) e) (hgc : c < N → gB c = .own s 0 (wB c) e)
    (hB2 : c < N → ∃ C, ol'.at_ s 0 = some (Z64 (wB c), C) ∧ ∀ V : Vw, Mt V (C64 (wB c) (FB c)) C) (hB3 : ∀ r, r < N → r ≠ c → ∃ C, ol'.at_ (lk m kg) r = some (Z64 (wB r), C) ∧ ∀ V : Vw, Mt V (C64 (wB r) (FB r)) C)
    (henv : envAll (fun t v => MtE (vwOf (ρL m kg c s) ol' [(ka, .one (ZR N) (CO fa N wA e)), (fa, .many (famF N wA FA)), (kb, .one (ZR N) (CO kg N wB e)), (kg, .many (famF N wB FB))]) v (get env' t)) env) :
    Emb (ρL m kg c s) env' ol' env [(ka, .one (ZR N) (CO fa N wA e)), (fa, .many (famF N wA FA)), (kb, .one (ZR N) (CO kg N wB e)), (kg, .many (famF N wB FB))] := by
  have d1 : OL.has [(ka, .one (ZR N) (CO fa N wA e)), (fa, .many (famF N wA FA)), (kb, .one (ZR N) (CO kg N wB e)), (kg, .many (famF N wB FB))] fa = true := by simp [OL.has]
  have d2 : OL.has [(ka, .one (ZR N) (CO fa N wA e)), (fa, .many (famF N wA FA)), (kb, .one (ZR N) (CO kg N wB e)), (kg, .many (famF N wB FB))] kg = true := by simp [OL.has]
  refine emb_L hk henv ⟨?_, fun r sh cc h => ?_, ?_, fun r sh cc h => ?_, trivial⟩
  · dsimp only
    rw [ρL_ne (.inl hne.1)]
    dsimp only
    rw [hA1]
    exact ⟨rfl, ⟨rfl, fun _ => trivial⟩, rfl, fun j hj => by rw [hgA j hj]; exact ⟨ρL_ne (.inl hne.2.1), rfl, rfl, d1⟩⟩
  · obtain ⟨hr, rfl, rfl⟩ := famF_some h
    skip
    rw [ρL_ne (.inl hne.2.1)]
    dsimp only
    obtain ⟨C, q1, q2⟩ := hA2 r hr
    rw [q1]
    exact ⟨rfl, ⟨rfl, fun _ => trivial⟩, q2 _⟩
  · dsimp only
    rw [ρL_ne (.inl hne.2.2)]
    dsimp only
    rw [hB1]
    refine ⟨rfl, ⟨rfl, fun _ => trivial⟩, rfl, fun j hj => ?_⟩
    by_cases hjc : j = c
    · subst hjc
      rw [hgc hj]
      exact ⟨ρL_eq, rfl, rfl, d2⟩
    · rw [hgB j hj hjc]
      exact ⟨ρL_ne (.inr hjc), rfl, rfl, d2⟩
  · obtain ⟨hr, rfl, rfl⟩ := famF_some h
    by_cases hrc : r = c
    · subst hrc
      skip
      rw [ρL_eq]
      dsimp only
      obtain ⟨C, q1, q2⟩ := hB2 hr
      rw [q1]
      exact ⟨rfl, ⟨rfl, fun _ => trivial⟩, q2 _⟩
    · skip
      rw [ρL_ne (.inr hrc)]
      dsimp only
      obtain ⟨C, q1, q2⟩ := hB3 r hr hrc
      rw [q1]
      exact ⟨rfl, ⟨rfl, fun _ => trivial⟩, q2 _⟩
theorem emb_three {m : List (Nat × Nat)} {kg c s ko kf kr N e : Nat} {w : Nat → Nat} {F : Nat → Nat → Int} {g : Nat → AV} {sh3 c3 : AV} {env' env : Env} {ol' : OL} (hne : ko ≠ kg ∧ kf ≠ kg ∧ kr ≠ kg) (hk : okL m s [ko, kf, kr] = true)
    (h1 : ol'.at_ (lk m ko) 0 = some (ZR N, .arr N g)) (hg : ∀ j, j < N → g j = .own (lk m kf) j (w j) e) (h2 : ∀ r, r < N → ∃ C, ol'.at_ (lk m kf) r = some (Z64 (w r), C) ∧ ∀ V : Vw, Mt V (C64 (w r) (F r)) C)
    (h4 : ∃ C, ol'.at_ (lk m kr) 0 = some (sh3, C) ∧ ssh sh3 c3 ∧ ∀ V : Vw, Mt V c3 C)
    (henv : envAll (fun t v => MtE (vwOf (ρL m kg c s) ol' [(ko, .one (ZR N) (CO kf N w e)), (kf, .many (famF N w F)), (kr, .one sh3 c3)]) v (get env' t)) env) :
    Emb (ρL m kg c s) env' ol' env [(ko, .one (ZR N) (CO kf N w e)), (kf, .many (famF N w F)), (kr, .one sh3 c3)] := by
  have d1 : OL.has [(ko, .one (ZR N) (CO kf N w e)), (kf, .many (famF N w F)), (kr, .one sh3 c3)] kf = true := by simp [OL.has]
  refine emb_L hk henv ⟨?_, fun r sh cc h => ?_, ?_, trivial⟩
  · dsimp only
    rw [ρL_ne (.inl hne.1)]
    dsimp only
    rw [h1]
    exact ⟨rfl, ⟨rfl, fun _ => trivial⟩, rfl, fun j hj => by rw [hg j hj]; exact ⟨ρL_ne (.inl hne.2.1), rfl, rfl, d1⟩⟩
  · obtain ⟨hr, rfl, rfl⟩ := famF_some h
    rw [ρL_ne (.inl hne.2.1)]
    dsimp only
    obtain ⟨C, q1, q2⟩ := h2 r hr
    rw [q1]
    exact ⟨rfl, ⟨rfl, fun _ => trivial⟩, q2 _⟩
  · dsimp only
    rw [ρL_ne (.inl hne.2.2)]
    dsimp only
    obtain ⟨C, q1, q2, q3⟩ := h4
    rw [q1]
    exact ⟨rfl, q2, q3 _⟩
def colF (C : Nat → Nat → Int) (i : Nat) : Nat → Nat → Int := fun r z => if z < i then C r z else 0
def colG (C : Nat → Nat → Int) (i k : Nat) : Nat → Nat → Int := fun r z => if z < i ∨ (z = i ∧ r < k) then C r z else 0
theorem colG_0 {C : Nat → Nat → Int} {i r z : Nat} : colF C i r z = colG C i 0 r z := by
  unfold colF colG
  by_cases h : z < i
  · rw [if_pos h, if_pos (.inl h)]
  · rw [if_neg h, if_neg (by omega)]
theorem colG_n {C : Nat → Nat → Int} {i n r z : Nat} (hr : r < n) : colG C i n r z = colF C (i + 1) r z := by
  unfold colF colG
  by_cases h : z < i ∨ (z = i ∧ r < n)
  · rw [if_pos h, if_pos (by omega)]
  · rw [if_neg h, if_neg (by omega)]
theorem colG_set {C : Nat → Nat → Int} {i k z : Nat} : upd (colG C i k k) i (C k i) z = colG C i (k + 1) k z := by
  unfold upd colG
  by_cases h : z = i
  · subst h; rw [if_pos rfl, if_pos (.inr ⟨rfl, by omega⟩)]
  · rw [if_neg h]
    by_cases h2 : z < i
    · rw [if_pos (.inl h2), if_pos (.inl h2)]
    · rw [if_neg (by omega), if_neg (by omega)]
theorem colG_oth {C : Nat → Nat → Int} {i k r z : Nat} (h : r ≠ k) : colG C i k r z = colG C i (k + 1) r z := by
  unfold colG
  by_cases h2 : z < i ∨ (z = i ∧ r < k)
  · rw [if_pos h2, if_pos (by omega)]
  · rw [if_neg h2, if_neg (by omega)]
theorem fam_cset {x : Fam} {l : OL} {C : Nat → Nat → Int} {n N i k r : Nat} {v : Int} (hr : r < N) (hv : v = C k i) :
    ∃ D, (OL.set ((905, x) :: (1, .many (famF N (fun _ => n) (colG C i k))) :: l) 1 k (some (Z64 n, C64 n (upd (colG C i k k) i v)))).at_ 1 r = some (Z64 n, D) ∧ ∀ V : Vw, Mt V (C64 n (colG C i (k + 1) r)) D := by
  subst hv
  rw [OL.at_set]
  by_cases h : r = k
  · subst h
    rw [if_pos ⟨rfl, rfl⟩]
    exact ⟨_, rfl, fun V => mt_vec (fun j _ => colG_set)⟩
  · rw [if_neg (fun q => h q.2)]
    refine ⟨C64 n (colG C i k r), ?_, fun V => mt_vec (fun j _ => colG_oth h)⟩
    show famF N (fun _ => n) (colG C i k) r = _
    exact famF_at (w := fun _ => n) hr
theorem w1s {n j r : Nat} (h : r ≠ j) : (if r < j then n + 1 else n) = (if r < j + 1 then n + 1 else n) := by
  by_cases h2 : r < j
  · rw [if_pos h2, if_pos (by omega)]
  · rw [if_neg h2, if_neg (by omega)]
theorem mix1s {α : Type} {F G : Nat → α} {j r : Nat} (h : r ≠ j) : mixG F G j r = mixG F G (j + 1) r := by
  by_cases h2 : r < j
  · rw [mixG_lt _ _ h2, mixG_lt _ _ (by omega)]
  · rw [mixG_ge _ _ (by omega), mixG_ge _ _ (by omega)]
end Go.Am

set_option linter.unusedVariables false
set_option linter.unusedSimpArgs false
namespace Go.Am
section
variable {p : Int} {n : Nat} {A : Nat → Nat → Int} {b : Nat → Int}
def gB (n : Nat) (A : Nat → Nat → Int) (b : Nat → Int) : Nat → Nat → Int := fun r j => if j < n then A r j else b r
end
end Go.Am

set_option linter.unusedVariables false
set_option linter.unusedSimpArgs false
namespace Go.Am
theorem fam_uset {ko : Nat} {x : Fam} {l : OL} {F F' : Nat → Nat → Int} {n N k c r : Nat} {v : Int} (hko : Nat.beq 1 ko = false) (hr : r < N) (h1 : ∀ z, z < n → F' k z = upd (F k) c v z) (h2 : ∀ r, r ≠ k → ∀ z, z < n → F' r z = F r z) :
    ∃ D, (OL.set ((ko, x) :: (1, .many (famF N (fun _ => n) F)) :: l) 1 k (some (Z64 n, C64 n (upd (F k) c v)))).at_ 1 r = some (Z64 n, D) ∧ ∀ V : Vw, Mt V (C64 n (F' r)) D := by
  rw [OL.at_set]
  by_cases h : r = k
  · subst h
    rw [if_pos ⟨rfl, rfl⟩]
    exact ⟨_, rfl, fun V => mt_vec (fun j hj => (h1 j hj).symm)⟩
  · rw [if_neg (fun q => h q.2)]
    refine ⟨C64 n (F r), ?_, fun V => mt_vec (fun j hj => (h2 r h j hj).symm)⟩
    show (bif Nat.beq 1 ko then x.at_ r else famF N (fun _ => n) F r) = _
    rw [hko]
    exact famF_at (w := fun _ => n) hr
def cpD (p : Int) (C W : Nat → Nat → Int) : Nat → Nat → Nat → Int
  | 0 => fun _ _ => 0
  | i + 1 => fun r z => (cpD p C W i r z + C i z * W i r) % p
theorem cpD_Bp {p : Int} (hp : 0 < p) (C W : Nat → Nat → Int) : ∀ i r, Bp p (cpD p C W i r)
  | 0, _ => fun _ => ⟨Int.le_refl _, hp⟩
  | i + 1, _ => fun _ => ⟨Int.emod_nonneg _ (by omega), Int.emod_lt_of_pos _ hp⟩
def cpS (p : Int) (C W : Nat → Nat → Int) (i k l r z : Nat) : Int := if z < k ∨ (z = k ∧ r < l) then cpD p C W (i + 1) r z else cpD p C W i r z
def cpI (p : Int) (C W : Nat → Nat → Int) (i l k r z : Nat) : Int := if r < l ∨ (r = l ∧ z < k) then cpD p C W (i + 1) r z else cpD p C W i r z
section
variable {p : Int} {C W : Nat → Nat → Int} {i k l r z n : Nat}
theorem cpS_0 : cpS p C W i 0 0 r z = cpD p C W i r z := by unfold cpS; rw [if_neg (by omega)]
theorem cpS_n (hr : r < n) : cpS p C W i k n r z = cpS p C W i (k + 1) 0 r z := by
  unfold cpS
  by_cases h : z < k ∨ (z = k ∧ r < n)
  · rw [if_pos h, if_pos (by omega)]
  · rw [if_neg h, if_neg (by omega)]
theorem cpS_e (hz : z < n) : cpS p C W i n 0 r z = cpD p C W (i + 1) r z := by unfold cpS; rw [if_pos (.inl hz)]
theorem cpS_at : cpS p C W i k l l k = cpD p C W i l k := by unfold cpS; rw [if_neg (by omega)]
theorem cpS_set {v : Int} (hv : v = cpD p C W (i + 1) l k) : cpS p C W i k (l + 1) l z = upd (cpS p C W i k l l) k v z := by
  unfold upd
  by_cases h : z = k
  · subst h; rw [if_pos rfl, hv]; unfold cpS; rw [if_pos (by omega)]
  · rw [if_neg h]; unfold cpS
    by_cases h2 : z < k ∨ (z = k ∧ l < l + 1)
    · rw [if_pos h2, if_pos (by omega)]
    · rw [if_neg h2, if_neg (by omega)]
theorem cpS_oth (h : r ≠ l) : cpS p C W i k (l + 1) r z = cpS p C W i k l r z := by
  unfold cpS
  by_cases h2 : z < k ∨ (z = k ∧ r < l)
  · rw [if_pos h2, if_pos (by omega)]
  · rw [if_neg h2, if_neg (by omega)]
theorem cpI_0 : cpI p C W i 0 0 r z = cpD p C W i r z := by unfold cpI; rw [if_neg (by omega)]
theorem cpI_n (hz : z < n) : cpI p C W i l n r z = cpI p C W i (l + 1) 0 r z := by
  unfold cpI
  by_cases h : r < l ∨ (r = l ∧ z < n)
  · rw [if_pos h, if_pos (by omega)]
  · rw [if_neg h, if_neg (by omega)]
theorem cpI_e (hr : r < n) : cpI p C W i n 0 r z = cpD p C W (i + 1) r z := by unfold cpI; rw [if_pos (.inl hr)]
theorem cpI_at : cpI p C W i l k l k = cpD p C W i l k := by unfold cpI; rw [if_neg (by omega)]
theorem cpI_set {v : Int} (hv : v = cpD p C W (i + 1) l k) : cpI p C W i l (k + 1) l z = upd (cpI p C W i l k l) k v z := by
  unfold upd
  by_cases h : z = k
  · subst h; rw [if_pos rfl, hv]; unfold cpI; rw [if_pos (by omega)]
  · rw [if_neg h]; unfold cpI
    by_cases h2 : l < l ∨ (l = l ∧ z < k + 1)
    · rw [if_pos h2, if_pos (by omega)]
    · rw [if_neg h2, if_neg (by omega)]
theorem cpI_oth (h : r ≠ l) : cpI p C W i l (k + 1) r z = cpI p C W i l k r z := by
  unfold cpI
  by_cases h2 : r < l ∨ (r = l ∧ z < k)
  · rw [if_pos h2, if_pos (by omega)]
  · rw [if_neg h2, if_neg (by omega)]
end
theorem cp_bd {p : Int} (hp : 2 ≤ p ∧ p ≤ 13) {C W : Nat → Nat → Int} (hC : ∀ r, Bp p (C r)) (hW : ∀ r, Bp p (W r)) (i l k : Nat) :
    (0 ≤ C i k * W i l ∧ C i k * W i l ≤ 65025) ∧ (0 ≤ W i l * C i k ∧ W i l * C i k ≤ 65025) ∧ (0 ≤ cpD p C W i l k ∧ cpD p C W i l k ≤ 13) ∧ (cpD p C W i l k + C i k * W i l).tmod p = cpD p C W (i + 1) l k ∧ (cpD p C W i l k + W i l * C i k).tmod p = cpD p C W (i + 1) l k := by
  have h1 := mul8 (x := C i k) (y := W i l) ⟨(hC i k).1, by have := (hC i k).2; omega⟩ ⟨(hW i l).1, by have := (hW i l).2; omega⟩
  have h2 : W i l * C i k = C i k * W i l := Int.mul_comm _ _
  have h3 := cpD_Bp (p := p) (by omega) C W i l k
  refine ⟨h1, h2 ▸ h1, ⟨h3.1, by omega⟩, tmod_nn (by omega), ?_⟩
  rw [h2]; exact tmod_nn (by omega)
end Go.Am

set_option linter.unusedVariables false
set_option linter.unusedSimpArgs false
namespace Go.Am
section
variable {p : Int} {m no c i z : Nat} {O : Nat → Nat → Int} {l : Nat → Nat}
end
end Go.Am

set_option linter.unusedVariables false
set_option linter.unusedSimpArgs false
namespace Go.Am
theorem fam_cl {P : Program} {T : TT} {f : FuncId} {ars : List AV} {N n e e2 : Nat} {F : Nat → Nat → Int} (h : ACalls P T f ars (.own 0 0 N e2) [(0, .one (ZR N) (CO 1 N (fun _ => n) e)), (1, .many (famF N (fun _ => n) F))]) : ACalls P T f ars (rowsA N n F) [] :=
  h.res (ρ := ρ0) ⟨⟨mt_fam_fz (w := fun _ => n) (F := F) trivial (fun _ => trivial) rfl (fun r hr => famF_at (w := fun _ => n) hr) (fun _ _ => rfl) (fun _ _ _ _ => rfl), trivial⟩, trivial, trivial⟩
end Go.Am

set_option linter.unusedVariables false
set_option linter.unusedSimpArgs false
namespace Go.Am
section
variable {p : Int} {n : Nat} {A : Nat → Nat → Int}
end
def prF (p n : Int) (T : Nat → Nat → Nat → Int) (fo : Nat → Int) (q m : Int) (S : Nat → Nat → Nat → Int) (go : Nat → Int) (Y : Nat → Nat → Int) : Nat → AV
  | 0 => algA p n T fo
  | 1 => algA q m S go
  | 2 => matA Y
  | _ => .any
abbrev prA (p n : Int) (T : Nat → Nat → Nat → Int) (fo : Nat → Int) (q m : Int) (S : Nat → Nat → Nat → Int) (go : Nat → Int) (Y : Nat → Nat → Int) : AV := .sct 3 (prF p n T fo q m S go Y)
section
variable {p n q m p' n' q' m' : Int} {T S T' S' : Nat → Nat → Nat → Int} {fo go fo' go' : Nat → Int} {Y Y' : Nat → Nat → Int} {V : Vw}
theorem ssh_pr : ssh (prA p n T fo q m S go Y) (prA p' n' T' fo' q' m' S' go' Y') := by
  refine ⟨rfl, fun i => ?_⟩
  match i with
  | 0 => exact ssh_alg
  | 1 => exact ssh_alg
  | 2 => exact ssh_mat
  | n + 3 => exact trivial
theorem prF_congr {f : Nat → AV} (h0 : f 0 = algA p n T fo) (h1 : f 1 = algA q m S go) (h2 : f 2 = matA Y) (h4 : ∀ i, f (i + 3) = .any) : AV.sct 3 f = prA p n T fo q m S go Y := by
  refine congrArg (AV.sct 3) (funext fun i => ?_)
  match i with
  | 0 => exact h0
  | 1 => exact h1
  | 2 => exact h2
  | i + 3 => exact h4 i
theorem put_pr0 : put (prA p n T fo q m S go Y) [0] (algA p' n' T' fo') = prA p' n' T' fo' q m S go Y := prF_congr put_nil rfl rfl (fun _ => rfl)
theorem put_pr1 : put (prA p n T fo q m S go Y) [1] (algA p' n' T' fo') = prA p n T fo p' n' T' fo' Y := prF_congr rfl put_nil rfl (fun _ => rfl)
theorem put_pr2 : put (prA p n T fo q m S go Y) [2] (matA Y') = prA p n T fo q m S go Y' := prF_congr rfl rfl put_nil (fun _ => rfl)
variable {at_ : Nat → Nat → Option (AV × AV)} {d : Nat}
end
section
variable {z : Nat → Int}
end
section
variable {p : Int} {n m : Nat} {T S : Nat → Nat → Nat → Int} {fo go : Nat → Int} {Y : Nat → Nat → Int}
def zvP (p : Int) (n m : Nat) (Y : Nat → Nat → Int) (i : Nat) : Prop := smP p (m : Int) (Y i) ∧ (n ≤ i → eqN 6 (Y i) (fun _ => 0))
def prS (p : Int) (n m : Nat) (T S : Nat → Nat → Nat → Int) (Y : Nat → Nat → Int) : Prop :=
  ((∀ i, i < 6 → zvP p n m Y i) ∧ ∀ i, i < n → (∀ j, j < n → eqN 6 (apF p Y (T i j) n) (timesF p m S (Y i) (Y j))) ∧ ∀ j, j < m → eqN 6 (timesF p m S (Y i) (eF j)) (timesF p m S (eF j) (Y i))) ∧ eqN 6 (apF p Y (uF p n T) n) (uF p m S)
def prI (p : Int) (n m : Nat) (T S : Nat → Nat → Nat → Int) (Y : Nat → Nat → Int) : Prop :=
  (∀ i, i < 6 → (zvP p n m Y i ∧ ∀ j, j < m → eqN 6 (timesF p m S (Y i) (eF j)) (timesF p m S (eF j) (Y i))) ∧ ∀ j, j < 6 → eqN 6 (apF p Y (T i j) 6) (timesF p m S (Y i) (Y j))) ∧ eqN 6 (apF p Y (uF p n T) 6) (uF p m S)
noncomputable instance {i : Nat} : Decidable (zvP p n m Y i) := Classical.propDecidable _
noncomputable instance : Decidable (prS p n m T S Y) := Classical.propDecidable _
noncomputable instance : Decidable (prI p n m T S Y) := Classical.propDecidable _
end
end Go.Am

set_option linter.unusedVariables false
set_option linter.unusedSimpArgs false
namespace Go.Am
theorem in_both {lo hi g : Int} (h : lo ≤ g ∧ g ≤ hi) : (decide (lo ≤ g) && decide (g ≤ hi)) = true := by rw [decide_eq_true h.1, decide_eq_true h.2]; rfl
end Go.Am

set_option linter.unusedVariables false
set_option linter.unusedSimpArgs false
namespace Go.Am
structure PN (p : Int) (n : Nat) (T : Nat → Nat → Nat → Int) (fo : Nat → Int) (m : Nat) (S : Nat → Nat → Nat → Int) (go : Nat → Int) (Y : Nat → Nat → Int) : Prop where
  v : VN p n T fo
  w : VN p m S go
  c : comN n T
  r : rankT p n T fo = n
  s : rankT p m S go = m
  y : symA m (formT p S go)
  z : prS p n m T S Y
def PR (p n : Int) (T : Nat → Nat → Nat → Int) (fo : Nat → Int) (q m : Int) (S : Nat → Nat → Nat → Int) (go : Nat → Int) (Y : Nat → Nat → Int) : Prop :=
  ∃ a b : Nat, n = (a : Int) ∧ m = (b : Int) ∧ q = p ∧ PN p a T fo b S go Y
noncomputable instance {p n : Int} {T : Nat → Nat → Nat → Int} {fo : Nat → Int} {q m : Int} {S : Nat → Nat → Nat → Int} {go : Nat → Int} {Y : Nat → Nat → Int} : Decidable (PR p n T fo q m S go Y) := Classical.propDecidable _
section
variable {p n q m : Int} {T S : Nat → Nat → Nat → Int} {fo go : Nat → Int} {Y : Nat → Nat → Int}
end
end Go.Am
namespace Go.Am
end Go.Am

set_option linter.unusedVariables false
set_option linter.unusedSimpArgs false
namespace Go.Am
section
variable {p : Int} {n : Nat} {C : Nat → Nat → Int} {o : Nat → Int}
end
end Go.Am
namespace Go.Am
end Go.Am

set_option linter.unusedVariables false
set_option linter.unusedSimpArgs false
namespace Go.Am
def tnF (p n i o : Int) (s : AV) : Nat → AV
  | 0 => .int .i64 p
  | 1 => .int .i64 n
  | 2 => .int .i64 i
  | 3 => .int .i64 o
  | 4 => s
  | _ => .any
abbrev tnA (p n i o : Int) (s : AV) : AV := .sct 5 (tnF p n i o s)
section
variable {p n i o p' n' i' o' : Int} {s s' : AV} {V : Vw}
theorem closed_tn (h : s.closed) : (tnA p n i o s).closed := by
  intro k
  match k with
  | 0 => exact trivial
  | 1 => exact trivial
  | 2 => exact trivial
  | 3 => exact trivial
  | 4 => exact h
  | k + 5 => exact trivial
theorem mt_tn (h : Mt V s s') (h0 : p' = p := by rfl) (h1 : n' = n := by rfl) (h2 : i' = i := by rfl) (h3 : o' = o := by rfl) : Mt V (tnA p n i o s) (tnA p' n' i' o' s') := by
  subst h0; subst h1; subst h2; subst h3
  refine ⟨rfl, fun k hk => ?_⟩
  match k, hk with
  | 0, _ => exact rfl
  | 1, _ => exact rfl
  | 2, _ => exact rfl
  | 3, _ => exact rfl
  | 4, _ => exact h
theorem mt_tng {f : Nat → AV} (h0 : f 0 = .int .i64 p) (h1 : f 1 = .int .i64 n) (h2 : f 2 = .int .i64 i) (h3 : f 3 = .int .i64 o) (h : Mt V s (f 4)) : Mt V (tnA p n i o s) (.sct 5 f) := by
  refine ⟨rfl, fun k hk => ?_⟩
  match k, hk with
  | 0, _ => exact h0
  | 1, _ => exact h1
  | 2, _ => exact h2
  | 3, _ => exact h3
  | 4, _ => exact h
theorem sshTn (h : ssh s s') : ssh (tnA p n i o s) (tnA p' n' i' o' s') := by
  refine ⟨rfl, fun k => ?_⟩
  match k with
  | 0 => exact trivial
  | 1 => exact trivial
  | 2 => exact trivial
  | 3 => exact trivial
  | 4 => exact h
  | k + 5 => exact trivial
theorem tnF_congr {f : Nat → AV} (h0 : f 0 = .int .i64 p) (h1 : f 1 = .int .i64 n) (h2 : f 2 = .int .i64 i) (h3 : f 3 = .int .i64 o) (h : f 4 = s) (h5 : ∀ k, f (k + 5) = .any) : AV.sct 5 f = tnA p n i o s := by
  refine congrArg (AV.sct 5) (funext fun k => ?_)
  match k with
  | 0 => exact h0
  | 1 => exact h1
  | 2 => exact h2
  | 3 => exact h3
  | 4 => exact h
  | k + 5 => exact h5 k
theorem put_tn4 : put (tnA p n i o s) [4] s' = tnA p n i o s' := tnF_congr rfl rfl rfl rfl put_nil (fun _ => rfl)
theorem nr_tn (h : s.noref) : (tnA p n i o s).noref := by
  intro k
  match k with
  | 0 => exact trivial
  | 1 => exact trivial
  | 2 => exact trivial
  | 3 => exact trivial
  | 4 => exact h
  | k + 5 => exact trivial
theorem shift_tn {b : Nat} : shift b (tnA p n i o s) = tnA p n i o (shift b s) := tnF_congr rfl rfl rfl rfl rfl (fun _ => rfl)
theorem tn_inner {D : Nat → Bool} (h : s.inner D) : (tnA p n i o s).inner D := by
  intro k
  match k with
  | 0 => exact trivial
  | 1 => exact trivial
  | 2 => exact trivial
  | 3 => exact trivial
  | 4 => exact h
  | k + 5 => exact trivial
end
theorem mt_tn0 {at_ : Nat → Nat → Option (AV × AV)} {k e N : Nat} {sh : AV} {p n i o : Int} {F : Nat → Int} {f : Nat → AV} (h : at_ k 0 = some (sh, .arr N (fun j => .int .i64 (F j)))) (h0 : f 0 = .int .i64 p := by rfl) (h1 : f 1 = .int .i64 n := by rfl) (h2 : f 2 = .int .i64 i := by rfl) (h3 : f 3 = .int .i64 o := by rfl) (h4 : f 4 = .own k 0 N e := by rfl) :
    Mt V0 (tnA p n i o (rowA N F)) (exp at_ 4 (.sct 5 f)) := by
  refine ⟨rfl, fun j hj => ?_⟩
  match j, hj with
  | 0, _ => show Mt V0 _ (expS _ (f 0)); rw [h0]; exact rfl
  | 1, _ => show Mt V0 _ (expS _ (f 1)); rw [h1]; exact rfl
  | 2, _ => show Mt V0 _ (expS _ (f 2)); rw [h2]; exact rfl
  | 3, _ => show Mt V0 _ (expS _ (f 3)); rw [h3]; exact rfl
  | 4, _ => show Mt V0 _ (expS _ (f 4)); rw [h4]; exact mt_row0 h
theorem mt_tnn {at_ : Nat → Nat → Option (AV × AV)} {p n i o : Int} {S : Nat → AV} {f : Nat → AV} (h0 : f 0 = .int .i64 p := by rfl) (h1 : f 1 = .int .i64 n := by rfl) (h2 : f 2 = .int .i64 i := by rfl) (h3 : f 3 = .int .i64 o := by rfl) (h4 : f 4 = .nilsl := by rfl) : Mt V0 (tnA p n i o (.ro 0 S)) (exp at_ 4 (.sct 5 f)) := by
  refine ⟨rfl, fun j hj => ?_⟩
  match j, hj with
  | 0, _ => show Mt V0 _ (expS _ (f 0)); rw [h0]; exact rfl
  | 1, _ => show Mt V0 _ (expS _ (f 1)); rw [h1]; exact rfl
  | 2, _ => show Mt V0 _ (expS _ (f 2)); rw [h2]; exact rfl
  | 3, _ => show Mt V0 _ (expS _ (f 3)); rw [h3]; exact rfl
  | 4, _ => show Mt V0 _ (expS _ (f 4)); rw [h4]; exact rfl
theorem rt_tn {T : TT} {env : Env} {ol : OL} {t k N N' e : Nat} {ty : TypeId} {root sh c : AV} {p n i o : Int} {F : Nat → Int} (hx : get env t = .ptr t 0 [] 0 root) (hk : (T.und ty).known = true) (ho : ol.at_ t 0 = some (sh, c)) (hz : c.size = T.sz ty) (ha : c.isAgg = (T.und ty).isAgg)
    (hc : ∀ V : Vw, V.ρ 0 0 = (k, 0) → V.dom 0 = true → Mt V (tnA p n i o (.own 0 0 N e)) c) (h1 : ol.at_ k 0 = some (Z64 N', C64 N' F)) (hN : N' = N) :
    retQ T [.cell t ty] (tnA p n i o (.own 0 0 N e)) [(0, .one (Z64 N) (C64 N F))] .ret env ol := by
  subst hN
  show LoadW T ty (get env t) ol _
  rw [hx]
  have hs : sub c [] = c := by cases c <;> rfl
  simp only [LoadW, ho]
  refine ⟨hk, by rw [hs]; exact hz, by rw [hs]; exact ha, fun _ _ => (k, 0), ⟨by rw [hs]; exact hc _ rfl rfl, trivial⟩, ⟨?_, trivial⟩, ⟨⟨fun _ => ⟨rfl, rfl⟩, trivial⟩, trivial⟩⟩
  show (match ol.at_ k 0 with | some (sh', c') => _ | none => False)
  rw [h1]
  exact ⟨rfl, ⟨rfl, fun _ => trivial⟩, mt_vec (fun _ _ => rfl)⟩
theorem rt_tnu {T : TT} {env : Env} {ol : OL} {t u k N N' e : Nat} {ty : TypeId} {root sh c w : AV} {p n i o : Int} {F : Nat → Int} (hx : get env t = .ptr t 0 [] 0 root) (hk : (T.und ty).known = true) (ho : ol.at_ t 0 = some (sh, c)) (hz : c.size = T.sz ty) (ha : c.isAgg = (T.und ty).isAgg)
    (hc : ∀ V : Vw, V.ρ 0 0 = (k, 0) → V.dom 0 = true → Mt V (tnA p n i o (.own 0 0 N e)) c) (hu : ∀ V, Mt V w (get env u)) (h1 : ol.at_ k 0 = some (Z64 N', C64 N' F)) (hN : N' = N) :
    retQ T [.cell t ty, .tmp u] (.tup 2 (pairA (tnA p n i o (.own 0 0 N e)) w)) [(0, .one (Z64 N) (C64 N F))] .ret env ol := by
  subst hN
  show LoadW T ty (get env t) ol _
  rw [hx]
  have hs : sub c [] = c := by cases c <;> rfl
  simp only [LoadW, ho]
  refine ⟨hk, by rw [hs]; exact hz, by rw [hs]; exact ha, fun _ _ => (k, 0), ⟨⟨rfl, fun j hj => ?_⟩, trivial⟩, ⟨?_, trivial⟩, ⟨⟨fun _ => ⟨rfl, rfl⟩, trivial⟩, trivial⟩⟩
  · match j, hj with
    | 0, _ => show Mt _ _ (sub c []); rw [hs]; exact hc _ rfl rfl
    | 1, _ => exact hu _
  · show (match ol.at_ k 0 with | some (sh', c') => _ | none => False)
    rw [h1]
    exact ⟨rfl, ⟨rfl, fun _ => trivial⟩, mt_vec (fun _ _ => rfl)⟩
theorem mt_tn_own {p n i o : Int} {N e k : Nat} : ∀ V : Vw, V.ρ 0 0 = (k, 0) → V.dom 0 = true → Mt V (tnA p n i o (.own 0 0 N e)) (tnA p n i o (.own k 0 N e)) := fun V h1 h2 => mt_tn ⟨h1, rfl, rfl, h2⟩
theorem mut_tn {P : Program} {T : TT} (hT : TOk P T) {f : FuncId} {N e : Nat} {F G : Nat → Int} {r : AV} {p n i o : Int} {more : List AV}
    (hc : MCalls P T f [0] (tnA p n i o (.own 0 0 N e) :: more) [(0, .one (Z64 N) (C64 N F))] r [(0, .one (Z64 N) (C64 N G))]) {dst : Option Nat} {ty : TypeId} {pos : String} {af : Array Edge} {gu : Option (Nat × Bool)} {args : Array Operand} {aty : Array TypeId} {env : Env}
    (ha : args.toList.map (evE env) = tnA p n i o (.own 0 0 N e) :: more) (hin : innerL (fun k => Nat.beq k 0) more) (hr : r.inner (fun k => Nat.beq k 0)) {ol : OL} :
    MidJ P T ⟨dst, .call { callee := .value (.func f), args := args, argTypes := aty }, ty, pos, af, gu⟩ env ([(0, .one (Z64 N) (C64 N F))] ++ ol) r ([(0, .one (Z64 N) (C64 N G))] ++ ol) := by
  have hD : OL.has [(0, .one (Z64 N) (C64 N F))] = fun k => Nat.beq k 0 := by
    funext k
    simp [OL.has]
  refine mut_mid hT hc ha ?_ ?_ ?_ ?_ (fun k => rfl) (fun k i => ?_) (fun k hk => ?_)
  · rw [hD]; exact ⟨tn_inner rfl, hin⟩
  · rw [hD]; exact hr
  · rw [hD]; exact ⟨fun _ => trivial, trivial⟩
  · rw [hD]; exact ⟨fun _ => trivial, trivial⟩
  · simp only [OL.at_]
    cases Nat.beq k 0
    · rfl
    · cases i <;> rfl
  · rw [hD] at hk
    have := Nat.eq_of_beq_eq_true hk
    subst this
    exact List.mem_singleton.2 rfl
def dgF (n m x j : Nat) : Int := ((x / n ^ (m - 1 - j) % n : Nat) : Int)
def dgS (n m x c j : Nat) : Int := if c ≤ j then dgF n m x j else 0
theorem dgS_set {n m x c j : Nat} (hc : c < m) : upd (dgS n m x (c + 1)) c ((x / n ^ (m - 1 - c) % n : Nat) : Int) j = dgS n m x c j := by
  unfold upd dgS
  by_cases h : j = c
  · subst h; rw [if_pos rfl, if_pos (Nat.le_refl _)]; rfl
  · rw [if_neg h]
    by_cases h2 : c + 1 ≤ j
    · rw [if_pos h2, if_pos (by omega)]
    · rw [if_neg h2, if_neg (by omega)]
theorem dgS_0 {n m x j : Nat} (hj : j < m) : 0 = dgS n m x (m - 0) j := by unfold dgS; rw [if_neg (by omega)]
theorem dgS_step {n m x c j : Nat} (hc : c < m) : upd (dgS n m x (m - c)) (((m : Int) - 1 - (c : Int)).toNat) ((x / n ^ c % n : Nat) : Int) j = dgS n m x (m - (c + 1)) j := by
  have h := dgS_set (n := n) (x := x) (j := j) (show m - 1 - c < m by omega)
  rw [show m - 1 - (m - 1 - c) = c by omega, show m - 1 - c + 1 = m - c by omega] at h
  rw [show ((m : Int) - 1 - (c : Int)).toNat = m - 1 - c by omega, show m - (c + 1) = m - 1 - c by omega]
  exact h
theorem dgS_n {n m x j : Nat} : dgS n m x (m - m) j = dgF n m x j := by unfold dgS; rw [if_pos (by omega)]
theorem pow216 {n i : Nat} (hn : 1 ≤ n ∧ n ≤ 6) (hi : i ≤ 3) : 1 ≤ n ^ i ∧ n ^ i ≤ 216 := by
  refine ⟨Nat.pos_of_ne_zero (fun h => by have := Nat.pow_eq_zero.1 h; omega), ?_⟩
  have h1 : n ^ i ≤ 6 ^ i := Nat.pow_le_pow_left hn.2 i
  have h2 : 6 ^ i ≤ 6 ^ 3 := Nat.pow_le_pow_right (by omega) hi
  omega
theorem pow_mulI {n i : Nat} : ((n ^ i : Nat) : Int) * (n : Int) = ((n ^ (i + 1) : Nat) : Int) := by rw [Nat.pow_succ]; exact (Int.natCast_mul _ _).symm
end Go.Am

set_option linter.unusedVariables false
set_option linter.unusedSimpArgs false
namespace Go.Am
def dgN (n m x j : Nat) : Nat := x / n ^ (m - 1 - j) % n
theorem dgN_lt {n m x j : Nat} (hn : 0 < n) : dgN n m x j < n := Nat.mod_lt _ hn
theorem cube_at {n i j k : Nat} (hn : n ≤ 6) (hi : i < n) (hj : j < n) (hk : k < n) :
    (i * n ≤ 36 ∧ (i * n + j) * n ≤ 216) ∧ (i * n + j) * n + k < n ^ 3 ∧ dgN n 3 ((i * n + j) * n + k) 0 = i ∧ dgN n 3 ((i * n + j) * n + k) 1 = j ∧ dgN n 3 ((i * n + j) * n + k) 2 = k := by
  have h1 : i * n + j < n * n := by
    have : i * n + n ≤ n * n := by rw [← Nat.succ_mul]; exact Nat.mul_le_mul_right n hi
    omega
  have h2 : (i * n + j) * n + k < n * n * n := by
    have : (i * n + j) * n + n ≤ n * n * n := by rw [← Nat.succ_mul]; exact Nat.mul_le_mul_right n h1
    omega
  have h0 : i * n ≤ 6 * 6 := Nat.mul_le_mul (by omega) hn
  have h00 : (i * n + j) * n ≤ 36 * 6 := Nat.mul_le_mul (by have : n * n ≤ 6 * 6 := Nat.mul_le_mul hn hn; omega) hn
  have hn0 : 0 < n := by omega
  have d2 : ((i * n + j) * n + k) / n = i * n + j := by
    rw [Nat.mul_comm, Nat.mul_add_div hn0, Nat.div_eq_of_lt hk, Nat.add_zero]
  have d1 : (i * n + j) / n = i := by rw [Nat.mul_comm, Nat.mul_add_div hn0, Nat.div_eq_of_lt hj, Nat.add_zero]
  refine ⟨⟨by omega, by omega⟩, by rw [show n ^ 3 = n * n * n by rw [Nat.pow_succ, Nat.pow_succ, Nat.pow_one]]; exact h2, ?_, ?_, ?_⟩
  · show ((i * n + j) * n + k) / n ^ 2 % n = i
    rw [show n ^ 2 = n * n by rw [Nat.pow_succ, Nat.pow_one], ← Nat.div_div_eq_div_mul, d2, d1, Nat.mod_eq_of_lt hi]
  · show ((i * n + j) * n + k) / n ^ 1 % n = j
    rw [Nat.pow_one, d2, Nat.mul_comm, Nat.mul_add_mod, Nat.mod_eq_of_lt hj]
  · show ((i * n + j) * n + k) / n ^ 0 % n = k
    rw [Nat.pow_zero, Nat.div_one, Nat.mul_comm, Nat.mul_add_mod, Nat.mod_eq_of_lt hk]
def coQ (p : Int) (n : Nat) (T : Nat → Nat → Nat → Int) (fo : Nat → Int) (z : Nat) : Int :=
  cpD p (cpM p n (formT p T fo)) (fun i => timesF p n T (eF (dgN n 3 z 0)) (eF i)) n (dgN n 3 z 1) (dgN n 3 z 2)
end Go.Am
namespace Go.Am
theorem mt_tnl {at_ : Nat → Nat → Option (AV × AV)} {p n i o : Int} {f : Nat → AV} (h0 : f 0 = .int .i64 p := by rfl) (h1 : f 1 = .int .i64 n := by rfl) (h2 : f 2 = .int .i64 i := by rfl) (h3 : f 3 = .int .i64 o := by rfl) (h4 : f 4 = .nilsl := by rfl) : Mt V0 (tnA p n i o .nilsl) (exp at_ 4 (.sct 5 f)) := by
  refine ⟨rfl, fun j hj => ?_⟩
  match j, hj with
  | 0, _ => show Mt V0 _ (expS _ (f 0)); rw [h0]; exact rfl
  | 1, _ => show Mt V0 _ (expS _ (f 1)); rw [h1]; exact rfl
  | 2, _ => show Mt V0 _ (expS _ (f 2)); rw [h2]; exact rfl
  | 3, _ => show Mt V0 _ (expS _ (f 3)); rw [h3]; exact rfl
  | 4, _ => show Mt V0 _ (expS _ (f 4)); rw [h4]; exact rfl
end Go.Am

