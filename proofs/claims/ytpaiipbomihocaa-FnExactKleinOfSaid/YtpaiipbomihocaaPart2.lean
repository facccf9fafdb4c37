/- Part 2 of what the law stands on: abstract values, their walk, contracts of functions. My own work. Conditions: none. -/
import Derived.Test.YtpaiipbomihocaaPart1
import Derived.ChangeSlices
import Derived.Laws.Externs
import Derived.Lib.Bytealg
set_option linter.unusedVariables false
set_option linter.unusedSimpArgs false
namespace Go.Am
section
variable {H : Type} {enc : TypeId × Value → H} {P : Program} {w : World} {base : Nat} {spare : Nat → Bool} {held : Bool}
theorem open_vecs {t e u : TypeId} {N : Nat} {k : IntKind} {fuel : Nat} {cs : List Value} {x : DataW H × List MemPlace} (ht : P.underlying t = some (.slice e)) (he : P.underlying e = some (.array N u)) (hu : P.underlying u = some (.int k)) (hce : P.cellsOf e = N) (hcu : P.cellsOf u = 1)
    (h : DataW.trod enc P w base spare held fuel t cs = some x) :
    cs = [.slice none 0 0] ∨
    ∃ (a : Addr) (len cap : Nat) (z : Nat → Nat → Int), cs = [.slice (some a) len cap] ∧ len ≤ cap ∧ cap ≤ maxLen ∧
      (∀ i j, i < len → j < N → w.cell? (a.add (i * N + j)) = some (.int k (z i j)) ∧ k.has (z i j)) := by
  rcases DataW.trod_slice ht h with h0 | ⟨a, len, cap, elems, rest, n, _, rfl, rfl, hb, hl, hm, hlen, hel, hsp, hns⟩
  · exact Or.inl h0.1
  right
  refine ⟨a, len, cap, fun i j => match w.cell? (a.add (i * N + j)) with | some (.int _ m) => m | _ => 0, rfl, hl, hm, fun i j hi hj => ?_⟩
  have hE := hel i hi
  rw [hce] at hE
  rw [List.getElem?_eq_getElem (by omega), Option.bind_eq_some_iff] at hE
  obtain ⟨cs', hcs, hy⟩ := hE
  obtain ⟨hb1, hlen', hcell⟩ := World.cells?_some hcs
  obtain ⟨xs, m, _, _, hlc, hxl, hx⟩ := DataW.trod_array he hy
  have hxj := hx j hj
  rw [hcu, Nat.mul_one, List.getElem?_eq_getElem (by omega)] at hxj
  obtain ⟨q, hq1, hq2, hq3⟩ := DataW.trod_int hu hxj
  have hj' : j < cs'.length := by rw [hlen']; exact hj
  have hcj : cs'[j]? = some (.int k q) := by
    have : ((cs'.drop j).take 1)[0]? = some (.int k q) := by rw [hq1]; rfl
    rw [List.getElem?_take, if_pos (by omega), List.getElem?_drop, Nat.add_zero] at this
    exact this
  have hc := hcell j hj
  have hadd : (a.add (i * N)).add j = a.add (i * N + j) := by
    obtain ⟨b, o, s⟩ := a
    unfold Addr.add
    split <;> split <;> simp_all <;> omega
  rw [hadd, hcj] at hc
  show w.cell? (a.add (i * N + j)) = some (.int k (match w.cell? (a.add (i * N + j)) with | some (.int _ m) => m | _ => 0)) ∧ k.has (match w.cell? (a.add (i * N + j)) with | some (.int _ m) => m | _ => 0)
  rw [hc]
  refine ⟨rfl, ?_⟩
  have hwf : (Lit.int k q).wf = true := hq3
  simpa [Lit.wf, IntKind.has] using hwf
end
def lsF (len : Nat) (z : Nat → Nat → Int) (i : Nat) : Nat → Int := fun k => if i < len ∧ k < 6 then z i k else 0
theorem lsF_RV {len : Nat} {z : Nat → Nat → Int} (h : ∀ i j, i < len → j < 6 → IntKind.u8.has (z i j)) (i : Nat) : RV (lsF len z i) where
  b := fun k => by
    unfold lsF; split
    · rename_i hk; exact has_u8 (h i k hk.1 hk.2)
    · omega
  z := fun k hk => by unfold lsF; rw [if_neg (by omega)]
theorem vecs_in {T : TT} {w : World} {I : Nat → Prop} (hI : ∀ b, b < w.heap.size → I b) {a : Addr} {len cap : Nat} {z : Nat → Nat → Int} (hl : len ≤ cap) (hm : cap ≤ maxLen)
    (h : ∀ i j, i < len → j < 6 → w.cell? (a.add (i * 6 + j)) = some (.int .u8 (z i j))) : VR (K0 T I w) (vlA len (lsF len z)) (.slice (some a) len cap) := by
  refine ⟨some a, cap, rfl, hl, hm, ?_⟩
  by_cases h0 : len = 0
  · exact .inl h0
  right
  have h1 := h 0 0 (by omega) (by omega)
  obtain ⟨b, o, s⟩ := a
  have hs : s = none := by
    have := World.cell?_spot h1
    unfold Addr.add at this
    split at this <;> simp_all
  subst hs
  have hc : ∀ i j, i < len → j < 6 → w.cell? ⟨b, o + (i * 6 + j), none⟩ = some (.int .u8 (z i j)) := fun i j hi hj => by have := h i j hi hj; rwa [addr_add] at this
  cases hb : w.heap[b]? with
  | none => have := hc 0 0 (by omega) (by omega); simp [World.cell?, hb] at this
  | some ob =>
    cases ob with
    | cells cur e fr =>
      refine ⟨b, o, fun i => [.int .u8 (z i 0), .int .u8 (z i 1), .int .u8 (z i 2), .int .u8 (z i 3), .int .u8 (z i 4), .int .u8 (z i 5)], rfl, hI b (Array.getElem?_eq_some_iff.1 hb).1, ⟨cur, e, fr, hb, ?_⟩, fun i hi => ⟨⟨fun j => [.int .u8 (lsF len z i j)], ?_, fun j hj => ⟨rfl, rfl⟩⟩, rfl⟩⟩
      · have hget : ∀ i j, i < len → j < 6 → cur[o + (i * 6 + j)]? = some (.int .u8 (z i j)) := fun i j hi hj => by
          have := hc i j hi hj
          simp only [World.cell?, hb] at this
          simpa using this
        have key : ∀ m, m ≤ len → ∀ (q : Nat) (x : Value), (flat (fun i => [Value.int .u8 (z i 0), .int .u8 (z i 1), .int .u8 (z i 2), .int .u8 (z i 3), .int .u8 (z i 4), .int .u8 (z i 5)]) m)[q]? = some x → cur[o + q]? = some x := by
          intro m
          induction m with
          | zero => intro _ q x hq; simp [flat] at hq
          | succ m ih =>
            intro hm q x hq
            simp only [flat] at hq
            have hlen : (flat (fun i => [Value.int .u8 (z i 0), .int .u8 (z i 1), .int .u8 (z i 2), .int .u8 (z i 3), .int .u8 (z i 4), .int .u8 (z i 5)]) m).length = m * 6 := by
              rw [flat_len]; exact (sumTo_congr (g := fun _ => 6) (fun _ _ => rfl)).trans (sumTo_const 6 m)
            by_cases hlt : q < m * 6
            · rw [List.getElem?_append_left (by omega)] at hq
              exact ih (by omega) q x hq
            · rw [List.getElem?_append_right (by omega), hlen] at hq
              have hq6 : q - m * 6 < 6 := by
                have := (List.getElem?_eq_some_iff.1 hq).1
                simpa using this
              have hg := hget m (q - m * 6) (by omega) hq6
              rw [show m * 6 + (q - m * 6) = q by omega] at hg
              rw [hg]
              have : ∀ j, j < 6 → [Value.int .u8 (z m 0), .int .u8 (z m 1), .int .u8 (z m 2), .int .u8 (z m 3), .int .u8 (z m 4), .int .u8 (z m 5)][j]? = some (.int .u8 (z m j)) := by
                intro j hj
                match j, hj with
                | 0, _ => rfl
                | 1, _ => rfl
                | 2, _ => rfl
                | 3, _ => rfl
                | 4, _ => rfl
                | 5, _ => rfl
              rw [← this _ hq6]; exact hq
        exact key len (Nat.le_refl _)
      · have : ∀ j, j < 6 → lsF len z i j = z i j := fun j hj => if_pos ⟨hi, hj⟩
        simp only [flat, List.nil_append, List.singleton_append, List.cons_append]
        rw [this 0 (by omega), this 1 (by omega), this 2 (by omega), this 3 (by omega), this 4 (by omega), this 5 (by omega)]
    | _ => have := hc 0 0 (by omega) (by omega); simp [World.cell?, hb] at this
theorem vecs_nil {T : TT} {w : World} {I : Nat → Prop} {F : Nat → Nat → Int} : VR (K0 T I w) (vlA 0 F) (.slice none 0 0) := ⟨none, 0, rfl, Nat.le_refl _, Nat.zero_le _, .inl rfl⟩
end Go.Am

set_option linter.unusedVariables false
set_option linter.unusedSimpArgs false
namespace Go.Am
section
variable {p : Int} {m : Nat}
theorem dot_congr {f g x : Nat → Int} : ∀ m, (∀ j, j < m → f j = g j) → dot m f x = dot m g x := fun m h => sumZ_congr m (fun j hj => by rw [h j hj])
end
section
variable {p : Int} {m no : Nat} {O O' : Nat → Nat → Int}
end
end Go.Am

set_option linter.unusedVariables false
set_option linter.unusedSimpArgs false
namespace Go.Am
theorem fam_sh {b N e : Nat} {w : Nat → Nat} {F : Nat → Nat → Int} {ol : OL} {r : Nat} (hr : r < N) : OL.at_ (OL.shift b [(0, .one (ZR N) (CO 1 N w e)), (1, .many (famF N w F))] ++ ol) (b + 1) r = some (Z64 (w r), C64 (w r) (F r)) := by
  have e1 : Nat.beq (b + 1) (b + 0) = false := beq_ff (by omega)
  show (bif Nat.beq (b + 1) (b + 0) then _ else bif Nat.beq (b + 1) (b + 1) then (match famF N w F r with | some (sh, c) => some (sh, Am.shift b c) | none => none) else _) = _
  rw [e1, Nat.beq_refl, famF_at hr]
  rfl
def symA (n : Nat) (F : Nat → Nat → Int) : Prop := ∀ i, i < n → ∀ j, j < n → F j i = F i j
def symS (n : Nat) (F : Nat → Nat → Int) : Prop := ∀ i, i < n → ∀ j, j < i → F i j = F j i
noncomputable instance (n : Nat) (F : Nat → Nat → Int) : Decidable (symA n F) := Classical.propDecidable _
noncomputable instance (n : Nat) (F : Nat → Nat → Int) : Decidable (symS n F) := Classical.propDecidable _
theorem VN.ee {p : Int} {n : Nat} {T : Nat → Nat → Nat → Int} {fo : Nat → Int} (h : VN p n T fo) {i j : Nat} (hi : i < n) (hj : j < n) : timesF p n T (eF i) (eF j) = T i j := by
  funext k
  by_cases hk : k < n
  · exact times_ee hi hj hk (h.hT i j k)
  · unfold timesF; rw [if_neg hk, h.tz i j k (by omega)]
theorem Mt.rf {V : Vw} {v : AV} (h : v.closed) (hn : v ≠ .any) : Mt V v v := Mt_closed h (fun _ _ _ => trivial) hn
end Go.Am

set_option linter.unusedVariables false
set_option linter.unusedSimpArgs false
namespace Go.Am
def kdx (fr : Nat → Bool) (i : Nat) (o : Oper) : Nat := bif fr i then 0 else kind o
theorem kdx_le (fr : Nat → Bool) (i : Nat) (o : Oper) : kdx fr i o = 0 ∨ kdx fr i o = 1 ∨ kdx fr i o = 2 := by
  unfold kdx
  cases fr i
  · exact kind_le o
  · exact .inl rfl
def StepK (q : Nat) (P : Program) (T : TT) (arr : Array Oper) (o : Oper) (env : Env) (ol : OL) (v : AV) (ol' : OL) : Prop :=
  (gd arr o env = some false ∧ v = undA ∧ ol' = ol) ∨
  (gd arr o env = some true ∧
    ((q = 0 ∧ ol' = ol ∧ PureJ P T o (evE env) v) ∨
     (q = 1 ∧ ∃ A : OL, ol' = A ++ ol ∧ PassJ' P T o (evE env) ol.ob v A ∧ ∀ k, A.has k = true → ol.has k = false) ∨
     (q = 2 ∧ ActJ P T o (evE env) ol.ob v ol'.ob)))
structure DrawOkX (ops : Array Oper) (U : Nat → Nat → Bool) (fr : Nat → Bool) : Prop where
  back : ∀ i oi, ops[i]? = some oi → ∀ e ∈ oi.after, Region.binds .any e = true → e.on < i
  clos : ∀ i oi j, ops[i]? = some oi → j < ops.size → U i j = true → ∃ e ∈ oi.after, Region.binds .any e = true ∧ (e.on = j ∨ U e.on j = true)
  ap : ∀ i oi j oj, ops[i]? = some oi → ops[j]? = some oj → j < i → oj.apart ops oi = true ∨ U i j = true
  act1 : ∀ i oi j oj, ops[i]? = some oi → ops[j]? = some oj → kdx fr i oi = 2 → kdx fr j oj = 1 → j < i → U i j = true
  act1' : ∀ i oi j oj, ops[i]? = some oi → ops[j]? = some oj → kdx fr i oi = 2 → kdx fr j oj = 1 → i < j → U j i = true
  act2 : ∀ i oi j oj, ops[i]? = some oi → ops[j]? = some oj → kdx fr i oi = 2 → kdx fr j oj = 2 → j < i → U i j = true
structure TrX (P : Program) (T : TT) (ops : Array Oper) (fr : Nat → Bool) (env : Env) (V : Nat → AV) (O : Nat → OL) : Prop where
  step : ∀ k o, ops[k]? = some o → StepK (kdx fr k o) P T ops o (envOf V (fun j => decide (j < k)) 0 ops.toList env) (O k) (V k) (O (k + 1))
variable {P : Program} {T : TT} {ops : Array Oper} {U : Nat → Nat → Bool} {fr : Nat → Bool} {env : Env} {V : Nat → AV} {O : Nat → OL}
theorem TrX.same (ht : TrX P T ops fr env V O) {k : Nat} {o : Oper} (hk : ops[k]? = some o) (h0 : kdx fr k o = 0) : O (k + 1) = O k := by
  rcases ht.step k o hk with ⟨_, _, h⟩ | ⟨_, ⟨_, h, _⟩ | ⟨h, _⟩ | ⟨h, _⟩⟩
  · exact h
  · exact h
  · rw [h0] at h; cases h
  · rw [h0] at h; cases h
theorem TrX.up (ht : TrX P T ops fr env V O) {j : Nat} {o : Oper} (hj : ops[j]? = some o) (h2 : kdx fr j o ≠ 2) {k : Nat} (hk : (O j).has k = true) : (O (j + 1)).has k = true ∧ ∀ i, (O (j + 1)).at_ k i = (O j).at_ k i := by
  rcases ht.step j o hj with ⟨_, _, h⟩ | ⟨_, ⟨_, h, _⟩ | ⟨_, A, h, _, hf⟩ | ⟨h, _⟩⟩
  · rw [h]; exact ⟨hk, fun _ => rfl⟩
  · rw [h]; exact ⟨hk, fun _ => rfl⟩
  · rw [h]
    refine ⟨by rw [OL.has_append, hk]; simp, fun i => ?_⟩
    rw [OL.at_append]
    split
    · rename_i hA
      rw [hf k hA] at hk; cases hk
    · rfl
  · exact absurd h h2
def noAct (ops : Array Oper) (fr : Nat → Bool) (a b : Nat) : Prop := ∀ i oi, ops[i]? = some oi → a ≤ i → i < b → kdx fr i oi ≠ 2
theorem noAct.sub {a b a' b' : Nat} (h : noAct ops fr a b) (ha : a ≤ a') (hb : b' ≤ b) : noAct ops fr a' b' := fun i oi hi h1 h2 => h i oi hi (by omega) (by omega)
theorem TrX.chain (ht : TrX P T ops fr env V O) {a : Nat} : ∀ d, a + d ≤ ops.size → noAct ops fr a (a + d) → ∀ {k : Nat}, (O a).has k = true → (O (a + d)).has k = true ∧ ∀ i, (O (a + d)).at_ k i = (O a).at_ k i
  | 0, _, _, k, hk => ⟨hk, fun _ => rfl⟩
  | d + 1, h, hn, k, hk => by
    obtain ⟨h1, h2⟩ := ht.chain d (by omega) (hn.sub (Nat.le_refl _) (by omega)) hk
    have hlt : a + d < ops.size := by omega
    have hx : ops[a + d]? = some ops[a + d] := by simp [hlt]
    obtain ⟨h3, h4⟩ := ht.up hx (hn _ _ hx (by omega) (by omega)) h1
    exact ⟨h3, fun i => (h4 i).trans (h2 i)⟩
theorem TrX.mono (ht : TrX P T ops fr env V O) {a b : Nat} (hab : a ≤ b) (hb : b ≤ ops.size) (hn : noAct ops fr a b) {k : Nat} (hk : (O a).has k = true) : (O b).has k = true ∧ ∀ i, (O b).at_ k i = (O a).at_ k i := by
  obtain ⟨d, rfl⟩ := Nat.exists_eq_add_of_le hab
  exact ht.chain d hb hn hk
theorem TrX.born (ht : TrX P T ops fr env V O) {a : Nat} {k : Nat} : ∀ d, (O (a + d)).has k = true → (O a).has k = true ∨ ∃ j, a ≤ j ∧ j < a + d ∧ (O (j + 1)).has k = true ∧ (O j).has k = false
  | 0, h => .inl h
  | d + 1, h => by
    cases hq : (O (a + d)).has k with
    | true =>
      rcases ht.born d hq with h | ⟨j, h1, h2, h3⟩
      · exact .inl h
      · exact .inr ⟨j, h1, by omega, h3⟩
    | false => exact .inr ⟨a + d, by omega, by omega, h, hq⟩
theorem nextAct (ops : Array Oper) (fr : Nat → Bool) : ∀ d m, m + d = ops.size → ∃ e, m ≤ e ∧ e ≤ ops.size ∧ noAct ops fr m e ∧ (e = ops.size ∨ ∃ oe, ops[e]? = some oe ∧ kdx fr e oe = 2)
  | 0, m, h => ⟨m, Nat.le_refl _, by omega, fun i oi _ h1 h2 => by omega, .inl (by omega)⟩
  | d + 1, m, h => by
    have hlt : m < ops.size := by omega
    have hx : ops[m]? = some ops[m] := by simp [hlt]
    by_cases h2 : kdx fr m ops[m] = 2
    · exact ⟨m, Nat.le_refl _, by omega, fun i oi _ h1 h2 => by omega, .inr ⟨_, hx, h2⟩⟩
    · obtain ⟨e, h3, h4, h5, h6⟩ := nextAct ops fr d (m + 1) (by omega)
      refine ⟨e, by omega, h4, fun i oi hi h7 h8 => ?_, h6⟩
      by_cases hi2 : i = m
      · subst hi2; rw [hx] at hi; cases hi; exact h2
      · exact h5 i oi hi (by omega) h8
structure Mem1 (ops : Array Oper) (fr : Nat → Bool) (O : Nat → OL) (D : Nat → Bool) (ob : Ob) (m e : Nat) : Prop where
  me : m ≤ e
  le : e ≤ ops.size
  acts : ∀ i oi, ops[i]? = some oi → kdx fr i oi = 2 → (D i = true ↔ i < m)
  no : noAct ops fr m e
  nx : e = ops.size ∨ ∃ oe, ops[e]? = some oe ∧ kdx fr e oe = 2
  p1 : ∀ i oi, ops[i]? = some oi → kdx fr i oi = 1 → i < m → D i = true
  p2 : ∀ i oi, ops[i]? = some oi → kdx fr i oi = 1 → e ≤ i → D i = false
  has : ∀ k, ob.has k = true ↔ (O m).has k = true ∨ ∃ j, m ≤ j ∧ j < e ∧ D j = true ∧ (O (j + 1)).has k = true ∧ (O j).has k = false
  at_ : ∀ k, ob.has k = true → ∀ i, ob.at_ k i = (O e).at_ k i
def MemX (ops : Array Oper) (fr : Nat → Bool) (O : Nat → OL) (D : Nat → Bool) (ob : Ob) : Prop := ∃ m e, Mem1 ops fr O D ob m e
theorem Mem1.turn (ht : TrX P T ops fr env V O) {D : Nat → Bool} {ob : Ob} {m e : Nat} (hob : ∀ k i, ob.at_ k i ≠ none → ob.has k = true) (hm : Mem1 ops fr O D ob m e)
    (h1 : ∀ i oi, ops[i]? = some oi → kdx fr i oi = 1 → m ≤ i → i < e → D i = true) : ob = (O e).ob := by
  have hh : ∀ k, ob.has k = true ↔ (O e).has k = true := by
    intro k
    rw [hm.has k]
    constructor
    · rintro (h | ⟨j, hj, hj2, _, h, _⟩)
      · exact (ht.mono hm.me hm.le hm.no h).1
      · exact (ht.mono (by omega : j + 1 ≤ e) hm.le (hm.no.sub (by omega) (Nat.le_refl _)) h).1
    · intro h
      obtain ⟨d, rfl⟩ := Nat.exists_eq_add_of_le hm.me
      rcases ht.born d h with h | ⟨j, hj, hj2, ha, hb⟩
      · exact .inl h
      · refine .inr ⟨j, hj, hj2, ?_, ha, hb⟩
        have hlt : j < ops.size := by have := hm.le; omega
        have hx : ops[j]? = some ops[j] := by simp [hlt]
        rcases kdx_le fr j ops[j] with h0 | h5 | h5
        · rw [ht.same hx h0, hb] at ha; cases ha
        · exact h1 _ _ hx h5 hj hj2
        · exact absurd h5 (hm.no _ _ hx hj hj2)
  refine Ob_ext (fun k i => ?_) (fun k => ?_)
  · cases hk : ob.has k with
    | true => exact hm.at_ k hk i
    | false =>
      have e1 : ob.at_ k i = none := by
        apply Classical.byContradiction
        intro hne
        rw [hob k i hne] at hk; cases hk
      have e2 : (O e).at_ k i = none := by
        apply Classical.byContradiction
        intro hne
        have := (hh k).2 (OL.has_of_at hne)
        rw [this] at hk; cases hk
      rw [e1]
      exact e2.symm
  · have := hh k
    show ob.has k = (O e).has k
    cases hx : ob.has k
    · rw [hx] at this
      cases hy : (O e).has k
      · rfl
      · exact absurd (this.2 hy) (by simp)
    · exact (this.1 hx).symm
section
variable {D D' : Nat → Bool} {i : Nat} {oi : Oper}
theorem Mem1.before (hd : DrawOkX ops U fr) {ob : Ob} {m e : Nat} (hm : Mem1 ops fr O D ob m e) (hi : ops[i]? = some oi) (h1 : kdx fr i oi = 1) (hU : ∀ j, j < ops.size → U i j = true → D j = true) : i < e := by
  have lt : ∀ {i : Nat} {oi : Oper}, ops[i]? = some oi → i < ops.size := fun hi => (Array.getElem?_eq_some_iff.1 hi).1
  apply Nat.lt_of_not_le
  intro hle
  rcases hm.nx with h | ⟨oe, he, h2⟩
  · have := lt hi; omega
  · have hne : e ≠ i := by
      intro h; subst h; rw [hi] at he; cases he; rw [h1] at h2; cases h2
    have := hU e (lt he) (hd.act1' e oe i oi he hi h2 h1 (by omega))
    have := (hm.acts e oe he h2).1 this
    have := hm.me
    omega
theorem MemX.zero (ht : TrX P T ops fr env V O) (hd : DrawOkX ops U fr) (hi : ops[i]? = some oi) (h0 : kdx fr i oi ≠ 2) (hU : ∀ j, j < ops.size → U i j = true → D j = true)
    (hD' : ∀ j, D' j = if j = i then true else D j) (hsame : O (i + 1) = O i) {ob : Ob} (hm : MemX ops fr O D ob) : MemX ops fr O D' ob := by
  obtain ⟨m, e, hm⟩ := hm
  refine ⟨m, e, hm.me, hm.le, fun j oj hj hk => ?_, hm.no, hm.nx, fun j oj hj hk hlt => ?_, fun j oj hj hk hle => ?_, fun k => ?_, hm.at_⟩
  · by_cases hji : j = i
    · subst hji; rw [hi] at hj; cases hj; exact absurd hk h0
    · rw [hD' j, if_neg hji]; exact hm.acts j oj hj hk
  · rw [hD' j]; split
    · rfl
    · exact hm.p1 j oj hj hk hlt
  · by_cases hji : j = i
    · subst hji; rw [hi] at hj; cases hj
      have := hm.before hd hi hk hU
      omega
    · rw [hD' j, if_neg hji]; exact hm.p2 j oj hj hk hle
  · rw [hm.has k]
    constructor
    · rintro (h | ⟨j, ha, hb, hc, hd⟩)
      · exact .inl h
      · exact .inr ⟨j, ha, hb, by rw [hD' j]; split <;> simp_all, hd⟩
    · rintro (h | ⟨j, ha, ha2, hb, hc, hd⟩)
      · exact .inl h
      · by_cases hji : j = i
        · subst hji; rw [hsame, hd] at hc; cases hc
        · rw [hD' j, if_neg hji] at hb
          exact .inr ⟨j, ha, ha2, hb, hc, hd⟩
theorem MemX.one (ht : TrX P T ops fr env V O) (hd : DrawOkX ops U fr) (hi : ops[i]? = some oi) (h1 : kdx fr i oi = 1) (hDi : D i = false) (hU : ∀ j, j < ops.size → U i j = true → D j = true)
    (hD' : ∀ j, D' j = if j = i then true else D j) {A : OL} (hA : O (i + 1) = A ++ O i) (hf : ∀ k, A.has k = true → (O i).has k = false) {ob : Ob} (hm : MemX ops fr O D ob) :
    (∀ k, ob.has k = true → (O i).ob.has k = true → ∀ j, ob.at_ k j = (O i).ob.at_ k j) ∧ (∀ k, A.has k = true → ob.has k = false) ∧ MemX ops fr O D' (A.ob.ext ob) := by
  obtain ⟨m, e, hm⟩ := hm
  have hie := hm.before hd hi h1 hU
  have hmi : m ≤ i := by
    apply Nat.le_of_not_lt
    intro h
    have := hm.p1 i oi hi h1 h
    rw [hDi] at this; cases this
  refine ⟨fun k hk hk2 j => ?_, fun k hk => ?_, m, e, hm.me, hm.le, fun j oj hj hk => ?_, hm.no, hm.nx, fun j oj hj hk hlt => ?_, fun j oj hj hk hle => ?_, fun k => ?_, fun k hk j => ?_⟩
  · rw [hm.at_ k hk j]
    exact (ht.mono (Nat.le_of_lt hie) hm.le (hm.no.sub hmi (Nat.le_refl _)) hk2).2 j
  · have hn := hf k hk
    apply Classical.byContradiction
    intro hh
    have hh : ob.has k = true := by simpa using hh
    rcases (hm.has k).1 hh with h | ⟨j, ha, ha2, hb, hc, hdd⟩
    · have := (ht.mono hmi (by have := hm.le; omega) (hm.no.sub (Nat.le_refl _) (by omega)) h).1
      rw [hn] at this; cases this
    · by_cases hji : j < i
      · have := (ht.mono (by omega : j + 1 ≤ i) (by have := hm.le; omega) (hm.no.sub (by omega) (by omega)) hc).1
        rw [hn] at this; cases this
      · by_cases hij : j = i
        · subst hij; rw [hDi] at hb; cases hb
        · have : (O (i + 1)).has k = true := by rw [hA, OL.has_append, hk]; rfl
          have := (ht.mono (by omega : i + 1 ≤ j) (by have := hm.le; omega) (hm.no.sub (by omega) (by omega)) this).1
          rw [hdd] at this; cases this
  · by_cases hji : j = i
    · subst hji; rw [hi] at hj; cases hj; rw [h1] at hk; cases hk
    · rw [hD' j, if_neg hji]; exact hm.acts j oj hj hk
  · rw [hD' j]; split
    · rfl
    · exact hm.p1 j oj hj hk hlt
  · by_cases hji : j = i
    · omega
    · rw [hD' j, if_neg hji]; exact hm.p2 j oj hj hk hle
  · have e' : (A.ob.ext ob).has k = (A.has k || ob.has k) := rfl
    rw [e', Bool.or_eq_true, hm.has k]
    constructor
    · rintro (h | h | ⟨j, ha, ha2, hb, hc⟩)
      · exact .inr ⟨i, hmi, hie, by rw [hD' i, if_pos rfl], by rw [hA, OL.has_append, h]; rfl, hf k h⟩
      · exact .inl h
      · exact .inr ⟨j, ha, ha2, by rw [hD' j]; split <;> simp_all, hc⟩
    · rintro (h | ⟨j, ha, ha2, hb, hc, hdd⟩)
      · exact .inr (.inl h)
      · by_cases hji : j = i
        · subst hji
          rw [hA, OL.has_append, hdd] at hc
          exact .inl (by simpa using hc)
        · rw [hD' j, if_neg hji] at hb
          exact .inr (.inr ⟨j, ha, ha2, hb, hc, hdd⟩)
  · have e' : (A.ob.ext ob).at_ k j = if A.has k = true then A.at_ k j else ob.at_ k j := rfl
    rw [e']
    split
    · rename_i hAk
      have hx : (O (i + 1)).has k = true := by rw [hA, OL.has_append, hAk]; rfl
      rw [(ht.mono (by omega : i + 1 ≤ e) hm.le (hm.no.sub (by omega) (Nat.le_refl _)) hx).2 j, hA, OL.at_append, if_pos hAk]
    · rename_i hAk
      refine hm.at_ k ?_ j
      have : (A.has k || ob.has k) = true := hk
      simpa [hAk] using this
theorem Mem1.start (ht : TrX P T ops fr env V O) {m e : Nat} (hme : m ≤ e) (hle : e ≤ ops.size) (hno : noAct ops fr m e) (hnx : e = ops.size ∨ ∃ oe, ops[e]? = some oe ∧ kdx fr e oe = 2)
    (hacts : ∀ i oi, ops[i]? = some oi → kdx fr i oi = 2 → (D i = true ↔ i < m)) (hp1 : ∀ i oi, ops[i]? = some oi → kdx fr i oi = 1 → i < m → D i = true) (hp2 : ∀ i oi, ops[i]? = some oi → kdx fr i oi = 1 → m ≤ i → D i = false) :
    Mem1 ops fr O D (O m).ob m e where
  me := hme
  le := hle
  acts := hacts
  no := hno
  nx := hnx
  p1 := hp1
  p2 := fun i oi hi h1 h => hp2 i oi hi h1 (by omega)
  has := fun k => by
    constructor
    · exact fun h => .inl h
    · rintro (h | ⟨j, ha, hb, hc, hd, he⟩)
      · exact h
      · have hlt : j < ops.size := by omega
        have hx : ops[j]? = some ops[j] := by simp [hlt]
        rcases kdx_le fr j ops[j] with h0 | h1 | h2
        · rw [ht.same hx h0, he] at hd; cases hd
        · rw [hp2 j _ hx h1 ha] at hc; cases hc
        · exact absurd h2 (hno j _ hx ha hb)
  at_ := fun k hk i => ((ht.mono hme hle hno hk).2 i).symm
theorem MemX.two (ht : TrX P T ops fr env V O) (hd : DrawOkX ops U fr) (hi : ops[i]? = some oi) (h2 : kdx fr i oi = 2) (hDi : D i = false)
    (hD' : ∀ j, D' j = if j = i then true else D j) (hU : ∀ j, j < ops.size → U i j = true → D j = true) (hUn : ∀ k ok, ops[k]? = some ok → U k i = true → D k = false) {ob : Ob} (hob : ∀ k i, ob.at_ k i ≠ none → ob.has k = true) (hm : MemX ops fr O D ob) :
    ob = (O i).ob ∧ MemX ops fr O D' (O (i + 1)).ob := by
  obtain ⟨m, e, hm⟩ := hm
  have lt : ∀ {i : Nat} {oi : Oper}, ops[i]? = some oi → i < ops.size := fun hi => (Array.getElem?_eq_some_iff.1 hi).1
  have hin := lt hi
  have hmi : m ≤ i := by
    apply Nat.le_of_not_lt
    intro h
    have := (hm.acts i oi hi h2).2 h
    rw [hDi] at this; cases this
  have hei : e ≤ i := by
    apply Nat.le_of_not_lt
    intro h
    exact hm.no i oi hi hmi h h2
  have hee : e = i := by
    rcases hm.nx with h | ⟨oe, he, h3⟩
    · omega
    · apply Classical.byContradiction
      intro hne
      have := hU e (lt he) (hd.act2 i oi e oe hi he h2 h3 (by omega))
      have := (hm.acts e oe he h3).1 this
      have := hm.me
      omega
  subst hee
  refine ⟨hm.turn ht hob (fun j oj hj hk ha hb => hU j (lt hj) (hd.act1 e oi j oj hi hj h2 hk hb)), ?_⟩
  obtain ⟨e', q1, q2, q3, q4⟩ := nextAct ops fr (ops.size - (e + 1)) (e + 1) (by omega)
  refine ⟨e + 1, e', Mem1.start ht q1 q2 q3 q4 (fun j oj hj hk => ?_) (fun j oj hj hk hlt => ?_) (fun j oj hj hk hle => ?_)⟩
  · rw [hD' j]
    by_cases hji : j = e
    · subst hji; simp
    · rw [if_neg hji, hm.acts j oj hj hk]
      constructor
      · intro h; omega
      · intro h
        have := hU j (lt hj) (hd.act2 e oi j oj hi hj h2 hk (by omega))
        exact (hm.acts j oj hj hk).1 this
  · rw [hD' j]; split
    · rfl
    · rename_i hne
      exact hU j (lt hj) (hd.act1 e oi j oj hi hj h2 hk (by omega))
  · rw [hD' j, if_neg (by omega)]
    exact hUn j oj hj (hd.act1' e oi j oj hi hj h2 hk (by omega))
theorem MemX.all (ht : TrX P T ops fr env V O) {ob : Ob} (hob : ∀ k i, ob.at_ k i ≠ none → ob.has k = true) (hm : MemX ops fr O D ob) (hall : ∀ i, i < ops.size → D i = true) : ob = (O ops.size).ob := by
  obtain ⟨m, e, hm⟩ := hm
  have lt : ∀ {i : Nat} {oi : Oper}, ops[i]? = some oi → i < ops.size := fun hi => (Array.getElem?_eq_some_iff.1 hi).1
  have he : e = ops.size := by
    rcases hm.nx with h | ⟨oe, he, h2⟩
    · exact h
    · have := (hm.acts e oe he h2).1 (hall e (lt he))
      have := hm.me
      omega
  have := hm.turn ht hob (fun j oj hj _ _ _ => hall j (lt hj))
  rw [this, he]
end
structure InvX (P : Program) (T : TT) (ops : Array Oper) (fr : Nat → Bool) (N : Nat) (env : Env) (V : Nat → AV) (O : Nat → OL) (X : Cx) (listed : Array Bool) (a : Act) (w : World) : Prop where
  sz : listed.size = ops.size
  cl : ∀ i oi, ops[i]? = some oi → Dl listed i = true → ∀ e ∈ oi.after, Region.binds .any e = true → Dl listed e.on = true
  pic : ∃ κ ob, Rel X κ ob w ∧ (∀ t, VR (KK X κ ob w) (get (envOf V (Dl listed) 0 ops.toList env) t) (a.tmps.getD t undef)) ∧ MemX ops fr O (Dl listed) ob
  size : a.tmps.size = N
  defers : a.defers = []
theorem WOps_cons (hT : TOk P T) (arr : Array Oper) {o : Oper} {r : List Oper} {env : Env} {ol : OL} {K : Env → OL → Prop} (h : WOps P T arr (o :: r) env ol K) :
    ∃ v ol1, StepJ P T arr o env ol v ol1 ∧ WOps P T arr r (putE o.dst v env) ol1 K := by
  unfold WOps at h
  have run : gd arr o env = some true → WOp P T o (evE env) ol (fun v ol' => WOps P T arr r (putE o.dst v env) ol' K) → ∃ v ol1, StepJ P T arr o env ol v ol1 ∧ WOps P T arr r (putE o.dst v env) ol1 K := by
    intro hg hw
    obtain ⟨v, hw⟩ := WOp_sound hT hw
    rcases hw with ⟨h0, h1, h2⟩ | ⟨h0, A, h1, h2, h3⟩ | ⟨h0, ol', h1, h2, _⟩
    · exact ⟨v, ol, .inr ⟨hg, .inl ⟨h0, rfl, h2⟩⟩, h1⟩
    · exact ⟨v, A ++ ol, .inr ⟨hg, .inr (.inl ⟨h0, A, rfl, h2, h3⟩)⟩, h1⟩
    · exact ⟨v, ol', .inr ⟨hg, .inr (.inr ⟨h0, h2⟩)⟩, h1⟩
  split at h
  · rename_i hg
    exact run (by simp [gd, hg]) h
  · rename_i j want hg
    split at h
    · rename_i d hd
      split at h
      · rename_i b hb
        split at h
        · rename_i hbw
          exact run (by simp only [gd, hg, hd, hb, hbw]) h
        · rename_i hbw
          exact ⟨undA, ol, .inl ⟨by simp only [gd, hg, hd, hb, hbw], rfl, rfl⟩, h⟩
      · rename_i hb
        exact ⟨undA, ol, .inl ⟨by simp only [gd, hg, hd, hb], rfl, rfl⟩, h⟩
      · exact h.elim
    · exact h.elim
def Ex (P : Program) (T : TT) (arr : Array Oper) (fr : Nat → Bool) (s : Nat) (ops : List Oper) (env : Env) (ol : OL) (K : Env → OL → Prop) : Prop :=
  ∃ (V : Nat → AV) (O : Nat → OL), O 0 = ol ∧ (∀ k o, ops[k]? = some o → StepK (kdx fr (s + k) o) P T arr o (envOf V (fun j => decide (j < k)) 0 ops env) (O k) (V k) (O (k + 1))) ∧ K (envOf V (fun _ => true) 0 ops env) (O ops.length)
theorem Ex.nil {arr : Array Oper} {s : Nat} {ol : OL} {K : Env → OL → Prop} (h : K env ol) : Ex P T arr fr s [] env ol K := ⟨fun _ => .any, fun _ => ol, rfl, fun k o hk => by simp at hk, h⟩
theorem Ex.cons {arr : Array Oper} {s : Nat} {o : Oper} {r : List Oper} {ol ol1 : OL} {v : AV} {K : Env → OL → Prop} (hs : StepK (kdx fr s o) P T arr o env ol v ol1) (h : Ex P T arr fr (s + 1) r (putE o.dst v env) ol1 K) : Ex P T arr fr s (o :: r) env ol K := by
  obtain ⟨V, O, hO, hst, hK⟩ := h
  refine ⟨fun | 0 => v | k + 1 => V k, fun | 0 => ol | k + 1 => O k, rfl, fun k o' hk => ?_, ?_⟩
  · cases k with
    | zero =>
      simp only [List.getElem?_cons_zero, Option.some.injEq] at hk
      subst hk
      have : (fun j : Nat => decide (j < 0)) = fun _ => false := by funext j; simp
      rw [this, envOf_none]
      simp only [Nat.zero_add, Nat.add_zero]
      rw [hO]
      exact hs
    | succ k =>
      have := hst k o' (by simpa using hk)
      simp only [envOf]
      rw [if_pos (by simp), envOf_shift]
      have e : (fun j : Nat => decide (j + 1 < k + 1)) = fun j => decide (j < k) := by funext j; simp
      rw [e, show s + (k + 1) = s + 1 + k from by omega]
      exact this
  · simp only [envOf, if_true]
    rw [envOf_shift]
    exact hK
theorem Ex.pre (hT : TOk P T) {arr : Array Oper} {r : List Oper} {K K' : Env → OL → Prop} : ∀ (l : List Oper) (s : Nat) (env : Env) (ol : OL), (∀ i, s ≤ i → i < s + l.length → fr i = false) → WOps P T arr l env ol K' → (∀ e o, K' e o → Ex P T arr fr (s + l.length) r e o K) → Ex P T arr fr s (l ++ r) env ol K
  | [], s, env, ol, _, h, hk => hk _ _ h
  | o :: l, s, env, ol, hf, h, hk' => by
    obtain ⟨v, ol1, hs, hw⟩ := WOps_cons hT arr h
    have hk : kdx fr s o = kind o := by unfold kdx; rw [hf s (Nat.le_refl _) (by simp)]; rfl
    refine Ex.cons (by rw [hk]; exact hs) (Ex.pre hT l (s + 1) _ _ (fun i h1 h2 => hf i (by omega) (by simp only [List.length_cons]; omega)) hw ?_)
    have e : s + (o :: l).length = s + 1 + l.length := by simp only [List.length_cons]; omega
    rw [e] at hk'
    exact hk'
def LoadC (P : Program) (T : TT) (o : Oper) (env : Env) (K : AV → Prop) : Prop :=
  o.guard = none ∧ ∃ t x u, o.op = .load t x ∧ evE env x = .cptr u ∧ (T.und t).known = true ∧ u.size = T.sz t ∧ u.isAgg = (T.und t).isAgg ∧ K u
theorem LoadC.step (hT : TOk P T) {arr : Array Oper} {o : Oper} {ol : OL} {K : AV → Prop} (h : LoadC P T o env K) : ∃ v, K v ∧ StepK 0 P T arr o env ol v ol := by
  obtain ⟨hg, t, x, u, ho, hx, hk, h1, h2, h⟩ := h
  refine ⟨u, h, .inr ⟨by simp [gd, hg], .inl ⟨rfl, rfl, fun X κ ob w ρ hP hTT hR hv => ?_⟩⟩⟩
  have hx' := hv x (by simp [ho, Op.operands])
  rw [hx] at hx'
  obtain ⟨b, oo, seg, e1, hJ, hu, hs⟩ := VR_cptr hx'
  obtain ⟨c, hrun, hvc⟩ := load_fin hT hk (K := KK X κ ob w) rfl hu hs h1 h2
  exact ⟨c, by simp [execOp, ho, e1, Instr.loadAt, Instr.sureAddr, hrun], hvc⟩
def WSeg (P : Program) (T : TT) (arr : Array Oper) : List Nat → List Oper → Env → OL → (Env → OL → Prop) → Prop
  | [], ops, env, ol, K => WOps P T arr ops env ol K
  | n :: fl, ops, env, ol, K => WOps P T arr (ops.take n) env ol (fun env' ol' => match ops.drop n with
    | o :: r => LoadC P T o env' (fun v => WSeg P T arr fl r (putE o.dst v env') ol' K)
    | [] => False)
def frL : List Nat → Nat → List Nat
  | [], _ => []
  | n :: fl, s => (s + n) :: frL fl (s + n + 1)
theorem frL_ge : ∀ (fl : List Nat) (s x : Nat), x ∈ frL fl s → s ≤ x
  | [], s, x, h => by cases h
  | n :: fl, s, x, h => by
    unfold frL at h
    rcases List.mem_cons.1 h with h | h
    · omega
    · have := frL_ge fl (s + n + 1) x h; omega
theorem frL_no (fl : List Nat) {s i : Nat} (h : i < s) : (frL fl s).any (Nat.beq i) = false := by
  cases hq : (frL fl s).any (Nat.beq i) with
  | false => rfl
  | true =>
    obtain ⟨x, h1, h2⟩ := List.any_eq_true.1 hq
    have := frL_ge fl s x h1
    have := Nat.eq_of_beq_eq_true h2
    omega
theorem WSeg.ex (hT : TOk P T) {arr : Array Oper} {K : Env → OL → Prop} : ∀ (fl : List Nat) (s : Nat) (ops : List Oper) (env : Env) (ol : OL), (∀ i, s ≤ i → fr i = (frL fl s).any (Nat.beq i)) → WSeg P T arr fl ops env ol K → Ex P T arr fr s ops env ol K
  | [], s, ops, env, ol, hf, h => by
    have := Ex.pre (r := []) hT ops s env ol (fun i h1 _ => by rw [hf i h1]; rfl) (K := K) (fr := fr) (arr := arr) (P := P) (T := T) h (fun _ _ h => Ex.nil h)
    rwa [List.append_nil] at this
  | n :: fl, s, ops, env, ol, hf, h => by
    have h : WOps P T arr (ops.take n) env ol (fun env' ol' => match ops.drop n with
      | o :: r => LoadC P T o env' (fun v => WSeg P T arr fl r (putE o.dst v env') ol' K)
      | [] => False) := h
    rcases Nat.lt_or_ge n ops.length with hn | hn
    · have hl : (ops.take n).length = n := by rw [List.length_take]; omega
      obtain ⟨o, r, hor⟩ : ∃ o r, ops.drop n = o :: r := by
        cases hq : ops.drop n with
        | nil => have := congrArg List.length hq; rw [List.length_drop, List.length_nil] at this; omega
        | cons o r => exact ⟨o, r, rfl⟩
      rw [hor] at h
      have hops : ops = ops.take n ++ (o :: r) := by rw [← hor, List.take_append_drop]
      rw [hops]
      refine Ex.pre hT (ops.take n) s env ol (fun i h1 h2 => ?_) h (fun env' ol' hh => ?_)
      · rw [hl] at h2
        rw [hf i h1]
        show (Nat.beq i (s + n) || (frL fl (s + n + 1)).any (Nat.beq i)) = false
        rw [frL_no fl (by omega), beq_ff (by omega)]; rfl
      · rw [hl]
        obtain ⟨v, hv, hs⟩ := LoadC.step hT (arr := arr) (ol := ol') hh
        have hfr : fr (s + n) = true := by
          rw [hf _ (by omega)]
          show (Nat.beq (s + n) (s + n) || _) = true
          rw [Nat.beq_refl]; rfl
        refine Ex.cons (v := v) (ol1 := ol') ?_ (WSeg.ex hT fl (s + n + 1) r _ _ (fun i hi => ?_) hv)
        · have : kdx fr (s + n) o = 0 := by unfold kdx; rw [hfr]; rfl
          rw [this]; exact hs
        · rw [hf i (by omega)]
          show (Nat.beq i (s + n) || _) = _
          rw [beq_ff (by omega)]; rfl
    · have e : ops.drop n = [] := List.drop_of_length_le hn
      rw [e] at h
      have := Ex.pre (r := []) hT (ops.take n) s env ol (fun i h1 h2 => ?_) (K := K) (fr := fr) (arr := arr) (P := P) (T := T) h (fun _ _ hh => hh.elim)
      · rwa [List.append_nil, List.take_of_length_le hn] at this
      · have : (ops.take n).length ≤ n := List.length_take_le _ _
        rw [hf i h1]
        show (Nat.beq i (s + n) || (frL fl (s + n + 1)).any (Nat.beq i)) = false
        rw [frL_no fl (by omega), beq_ff (by omega)]; rfl
section
variable {N : Nat} {id : Nat} {ol : OL} {Q : Exit → Env → OL → Prop}
end
theorem mt_expc {at_ : Nat → Nat → Option (AV × AV)} {d : Nat} {v : AV} (h : v.closed) (hn : v ≠ .any) : Mt V0 v (exp at_ d v) := by
  rw [exp_closed h]; exact Mt.rf h hn
end Go.Am

set_option linter.unusedVariables false
set_option linter.unusedSimpArgs false
namespace Go.Am
section
variable {P : Program} {T : TT} {N : Nat} {ks : List Nat} {env : Env} {ol : OL} {Q : Exit → Env → OL → Prop}
end
theorem emb_famR {ρ : Nat → Nat → Nat × Nat} {ko kf ko' kf' N e : Nat} {w : Nat → Nat} {F : Nat → Nat → Int} {g : Nat → AV} {env' env : Env} {ol' : OL} (h1' : ∀ i, ρ ko i = (ko', i)) (h2' : ∀ i, ρ kf i = (kf', i)) (hne : ko' ≠ kf')
    (hk : ko ≠ kf) (h1 : ol'.at_ ko' 0 = some (ZR N, .arr N g)) (hg : ∀ j, j < N → g j = .own kf' j (w j) e)
    (h3 : ∀ r, r < N → ∃ C, ol'.at_ kf' r = some (Z64 (w r), C) ∧ ∀ V : Vw, Mt V (C64 (w r) (F r)) C)
    (henv : envAll (fun t v => MtE (vwOf ρ ol' [(ko, .one (ZR N) (CO kf N w e)), (kf, .many (famF N w F))]) v (get env' t)) env) :
    Emb ρ env' ol' env [(ko, .one (ZR N) (CO kf N w e)), (kf, .many (famF N w F))] := by
  have hdom : OL.has [(ko, .one (ZR N) (CO kf N w e)), (kf, .many (famF N w F))] kf = true := by simp [OL.has]
  refine ⟨henv, ⟨?_, fun r sh cc h => ?_, trivial⟩, ⟨⟨fun _ => ⟨rfl, rfl⟩, fun r sh cc h he => ?_, trivial⟩, fun r sh cc h => ⟨fun he => ?_, fun r2' sh2 cc2 h2 he => ?_, trivial⟩, trivial⟩⟩
  · dsimp only
    rw [h1']
    dsimp only
    rw [h1]
    exact ⟨rfl, ⟨rfl, fun _ => trivial⟩, rfl, fun j hj => by rw [hg j hj]; exact ⟨h2' j, rfl, rfl, hdom⟩⟩
  · obtain ⟨hr, rfl, rfl⟩ := famF_some h
    rw [h2']
    dsimp only
    obtain ⟨C, h3, h4⟩ := h3 r hr
    rw [h3]
    exact ⟨rfl, ⟨rfl, fun _ => trivial⟩, h4 _⟩
  · rw [h1', h2'] at he
    exact absurd (congrArg Prod.fst he) hne
  · rw [h1', h2'] at he
    exact absurd (congrArg Prod.fst he).symm hne
  · rw [h2', h2'] at he
    exact ⟨rfl, congrArg Prod.snd he⟩
end Go.Am

set_option linter.unusedVariables false
set_option linter.unusedSimpArgs false
namespace Go.Am
theorem mt_vl0 {at_ : Nat → Nat → Option (AV × AV)} {k e N : Nat} {sh : AV} {S : Nat → Nat → Int} (h : at_ k 0 = some (sh, .arr N (fun i => vecA (S i)))) : Mt V0 (vlA N S) (exp at_ 4 (.own k 0 N e)) := by
  show Mt V0 _ (match at_ k 0 with | some (_, .arr m f) => AV.ro m (fun j => exp at_ 3 (f j)) | _ => .any)
  rw [h]
  exact ⟨rfl, fun j _ => mt_expc (closed_vec (n := 6)) (by simp)⟩
end Go.Am

set_option linter.unusedVariables false
set_option linter.unusedSimpArgs false
namespace Go.Am
abbrev T3 := Nat → Nat → Nat → Int
end Go.Am

set_option linter.unusedVariables false
set_option linter.unusedSimpArgs false
namespace Go.Am
def apF (p : Int) (F : Nat → Nat → Int) (v : Nat → Int) : Nat → Nat → Int
  | 0 => fun _ => 0
  | i + 1 => addF p (apF p F v i) (F i) (v i)
theorem apF_Bp {p : Int} (hp : 0 < p) (F : Nat → Nat → Int) (v : Nat → Int) : ∀ i, Bp p (apF p F v i)
  | 0 => fun _ => ⟨Int.le_refl _, hp⟩
  | i + 1 => addF_Bp hp _ _ _
def starP (p : Int) (n : Nat) (T : T3) (fo : Nat → Int) (F : Nat → Nat → Int) : Prop :=
  ∀ i, i < n → (eqN 6 (apF p F (F i) n) (eF i) ∧ formF p fo (F i) = fo i) ∧ ∀ j, j < n → eqN 6 (apF p F (T i j) n) (timesF p n T (F j) (F i))
noncomputable instance (p : Int) (n : Nat) (T : T3) (fo : Nat → Int) (F : Nat → Nat → Int) : Decidable (starP p n T fo F) := Classical.propDecidable _
def liP (p : Int) (n : Int) (M : Nat) (F : Nat → Nat → Int) : Prop := (M : Int) = n ∧ ∀ i, i < M → smP p n (F i)
noncomputable instance (p n : Int) (M : Nat) (F : Nat → Nat → Int) : Decidable (liP p n M F) := Classical.propDecidable _
theorem VN.form_e {p : Int} {n : Nat} {T : T3} {fo : Nat → Int} (h : VN p n T fo) {i : Nat} (hi : i < n) : formF p fo (eF i) = fo i := by
  unfold formF
  have h6 := h.n6
  have : sumZ (fun k => fo k * eF i k) 6 = fo i := by
    rw [← sum_dl fo (show i < 6 by omega)]
    exact sumZ_congr 6 (fun k _ => by rw [eF_dl]; congr 1; unfold dl; by_cases hk : k = i; subst hk; rfl; rw [if_neg hk, if_neg (Ne.symm hk)])
  rw [this]
  exact Int.emod_eq_of_lt (h.f i).1 (h.f i).2
def cutL (F : Nat → Nat → Int) (i : Nat) : Nat → Nat → Int := fun r => if r < i then F r else fun _ => 0
theorem mt_cutL {V : Vw} {F : Nat → Nat → Int} {i r : Nat} {c : AV} : Mt V (vecA (cutL F (i + 1) r)) (bif Nat.beq r (i : Int).toNat then put c [] (vecA (F (i : Int).toNat)) else vecA (cutL F i r)) := by
  rw [Int.toNat_natCast, put_nil]
  by_cases h : r = i
  · subst h
    rw [Nat.beq_refl]
    exact mt_vec (fun z _ => by unfold cutL; rw [if_pos (Nat.lt_succ_self r)])
  · rw [beq_ff h]
    refine mt_vec (fun z _ => ?_)
    unfold cutL
    by_cases h2 : r < i
    · rw [if_pos h2, if_pos (by omega)]
    · rw [if_neg h2, if_neg (by omega)]
theorem li_iff {p n : Int} {M : Nat} {F : Nat → Nat → Int} : decide (liP p n M F) = (decide ((M : Int) = n) && !(decide (0 ≤ idxF (fun i => !decide (smP p n (F i))) M))) := by
  by_cases h1 : (M : Int) = n
  · rw [decide_eq_true h1, Bool.true_and]
    by_cases h2 : ∀ i, i < M → smP p n (F i)
    · rw [decide_eq_true (show liP p n M F from ⟨h1, h2⟩)]
      symm
      rw [Bool.not_eq_true', decide_eq_false_iff_not]
      intro h3
      obtain ⟨i, hi, hP⟩ := idx_ge.1 h3
      simp at hP
      exact hP (h2 i hi)
    · rw [decide_eq_false (fun h : liP p n M F => h2 h.2)]
      symm
      rw [Bool.not_eq_false', decide_eq_true_eq]
      refine idx_ge.2 ?_
      obtain ⟨i, h⟩ := Classical.not_forall.1 h2
      obtain ⟨hi, h⟩ := Classical.not_imp.1 h
      exact ⟨i, hi, by simpa using h⟩
  · rw [decide_eq_false h1, Bool.false_and, decide_eq_false (fun h : liP p n M F => h1 h.1)]
theorem vecs_arg2 {H : Type} {enc : TypeId × Value → H} {P : Program} {T : TT} {w : World} {base : Nat} {spare : Nat → Bool} {held : Bool} {t e u : TypeId} {a : Option Addr} {len cap : Nat} {d : DataW H} {ps : List MemPlace}
    (ht : P.underlying t = some (.slice e)) (he : P.underlying e = some (.array 6 u)) (hu : P.underlying u = some (.int .u8)) (hce : P.cellsOf e = 6) (hcu : P.cellsOf u = 1) (h : DataW.Trod enc P w base spare held t (.slice a len cap) d ps) :
    ∃ (M : Nat) (F : Nat → Nat → Int), M ≤ maxLen ∧ (∀ i, RV (F i)) ∧ VR (K0 T (fun b => b < w.heap.size) w) (vlA M F) (.slice a len cap) := by
  obtain ⟨fuel, hf⟩ := h
  rcases open_vecs (N := 6) (k := .u8) ht he hu hce hcu hf with hcs | ⟨x, l, c, z, hcs, hl, hm, hz⟩
  · simp [Value.cells] at hcs
    obtain ⟨rfl, rfl, rfl⟩ := hcs
    exact ⟨0, fun _ _ => 0, Nat.zero_le _, fun _ => ⟨B8_0, fun _ _ => rfl⟩, vecs_nil⟩
  · simp [Value.cells] at hcs
    obtain ⟨rfl, rfl, rfl⟩ := hcs
    exact ⟨len, lsF len z, Nat.le_trans hl hm, fun i => lsF_RV (fun i j hi hj => (hz i j hi hj).2) i, vecs_in (fun b hb => hb) hl hm (fun i j hi hj => (hz i j hi hj).1)⟩
end Go.Am

set_option linter.unusedVariables false
set_option linter.unusedSimpArgs false
namespace Go.Am
def parD (c : Int) : Int := if 48 ≤ c ∧ c ≤ 57 then c - 48 else if 97 ≤ c ∧ c ≤ 99 then c - 87 else -1
def rdD (s : ByteArray) (i : Nat) : Int := parD (byteAt s i)
def rdOk (s : ByteArray) (n : Nat) : Prop := s.size = n ∧ ∀ i, i < n → 0 ≤ rdD s i
noncomputable instance (s : ByteArray) (n : Nat) : Decidable (rdOk s n) := Classical.propDecidable _
def rdF (s : ByteArray) (n : Nat) : Nat → Int := fun i => if i < n ∧ 0 ≤ rdD s i then rdD s i else 0
def rdV (p : Int) (n : Nat) (s : ByteArray) : Prop := rdOk s n ∧ smP p (n : Int) (rdF s n)
noncomputable instance (p : Int) (n : Nat) (s : ByteArray) : Decidable (rdV p n s) := Classical.propDecidable _
end Go.Am

set_option linter.unusedVariables false
set_option linter.unusedSimpArgs false
namespace Go.Am
theorem inc_id {n : Nat} {l : Nat → Nat} (h : ∀ i j, i < j → j < n → l i < l j) (hl : ∀ i, i < n → l i < n) : ∀ i, i < n → l i = i := by
  have lo : ∀ i, i < n → i ≤ l i := by
    intro i
    induction i with
    | zero => intro _; omega
    | succ i ih => intro hi; have := ih (by omega); have := h i (i + 1) (by omega) hi; omega
  have hi : ∀ d i, i + d = n - 1 → i < n → l i ≤ i := by
    intro d
    induction d with
    | zero => intro i h1 h2; have := hl i h2; omega
    | succ d ih => intro i h1 h2; have h3 := ih (i + 1) (by omega) (by omega); have := h i (i + 1) (by omega) (by omega); omega
  intro i h1
  have := lo i h1
  have := hi (n - 1 - i) i (by omega) h1
  omega
section
variable {p : Int} {n : Nat} {A : Nat → Nat → Int}
def gS (n : Nat) (A : Nat → Nat → Int) (i : Nat) : Nat → Nat → Int := fun r j => if j < n then A r j else dl r i
theorem gS_Bp (hp : 1 < p) (hA : ∀ i, Bp p (A i)) (i r : Nat) : Bp p (gS n A i r) := fun j => by
  unfold gS dl
  split
  · exact hA r j
  · split <;> omega
theorem full_null (hp : primeB p = true) (hA : ∀ i, Bp p (A i)) (hr : (redGo p n A n).no = n) {x : Nat → Int} (hx : Null p n n A x) {j : Nat} (hj : j < n) : p ∣ x j := by
  obtain ⟨⟨l, rr⟩, hn⟩ := red_ok (m := n) hp (fun i (_ : i < n) => hA i)
  have hx' := (hn x).2 hx
  have hl : ∀ i, i < (redGo p n A n).no → l i = i := by
    have := inc_id (n := (redGo p n A n).no) rr.inc (fun i hi => by have := (rr.lead i hi).1; omega)
    exact this
  have := null_lead rr hx' (i := j) (by omega) (fun k hk hne => by
    rw [hl j (by omega)] at hne
    have h0 := rr.off k j (by omega) (by omega) hne
    rw [hl k (by omega)] at h0
    rw [h0, Int.zero_mul])
  rwa [hl j (by omega)] at this
theorem gS_dot {i r : Nat} (x : Nat → Int) : dot n (gS n A i r) x = dot n (A r) x := dot_congr n (fun j hj => by unfold gS; rw [if_pos hj])
theorem gS_n {i r : Nat} : gS n A i r n = dl r i := by unfold gS; rw [if_neg (Nat.lt_irrefl n)]
theorem gS_con (hp : primeB p = true) (hA : ∀ i, Bp p (A i)) (hr : (redGo p n A n).no = n) (i : Nat) : conP n (redGo p n (gS n A i) (n + 1)).no (redGo p n (gS n A i) (n + 1)).O := by
  have hpb := primeB_bd hp
  obtain ⟨⟨l, rr⟩, hn⟩ := red_ok (m := n + 1) hp (fun r (_ : r < n) => gS_Bp (n := n) (by omega) hA i r)
  have hno := red_counts p n (gS n A i) (n + 1)
  generalize (redGo p n (gS n A i) (n + 1)).no = no at *
  generalize (redGo p n (gS n A i) (n + 1)).O = O at *
  intro i0 hi0
  apply Classical.byContradiction
  intro hge
  have hl0 : l i0 = n := by
    have h1 := (rr.lead i0 hi0).1
    rw [leadN_of (rr.lead i0 hi0)] at hge
    omega
  obtain ⟨c, hc, hcl⟩ : ∃ c, c < n ∧ ¬ IsL no l c := by
    apply Classical.byContradiction
    intro hall
    have hall : ∀ c, c < n → IsL no l c := fun c hc => Classical.byContradiction fun h => hall ⟨c, hc, h⟩
    have := (inc_eq (n := no) (n' := n + 1) (l := l) (l' := fun i => i) rr.inc (fun i j h _ => h) (fun i hi => ⟨l i, (rr.lead i hi).1, rfl⟩) (fun c hc => by
      rcases Nat.lt_or_ge c n with h | h
      · exact hall c h
      · exact ⟨i0, hi0, by omega⟩)).1
    omega
  have hx := (hn _).1 (solC_null rr (c := c) (by omega) hcl)
  have hxn : solC no O l c n = 0 := by
    have h1 := solC_lead rr hcl hi0
    rw [hl0] at h1
    rw [h1, (rr.lead i0 hi0).2.2 c (by omega)]; rfl
  have hA0 : Null p n n A (solC no O l c) := by
    intro r hr'
    have h1 := hx r hr'
    unfold Z at h1 ⊢
    have h2 : dot (n + 1) (gS n A i r) (solC no O l c) = dot n (A r) (solC no O l c) := by
      show dot n (gS n A i r) _ + gS n A i r n * solC no O l c n = _
      rw [gS_dot, hxn, Int.mul_zero, Int.add_zero]
    rwa [h2] at h1
  have h1 := full_null hp hA hr hA0 hc
  rw [solC_self] at h1
  have := Int.le_of_dvd (by omega) h1
  omega
theorem gS_one (hp : primeB p = true) (hA : ∀ i, Bp p (A i)) (hr : (redGo p n A n).no = n) (i : Nat) : oS p n n (gS n A i) := by
  have hpb := primeB_bd hp
  obtain ⟨⟨l, rr⟩, hn⟩ := red_ok (m := n + 1) hp (fun r (_ : r < n) => gS_Bp (n := n) (by omega) hA i r)
  have hs := sol_of_con rr (gS_con hp hA hr i)
  have hs' : Sol p n n (gS n A i) _ := sol_null.2 ((hn _).1 (sol_null.1 hs))
  refine oS_of hp (gS_Bp (by omega) hA i) hs' (fun y hy j hj => ?_)
  generalize solGo n (redGo p n (gS n A i) (n + 1)).O (redGo p n (gS n A i) (n + 1)).no = x at hs'
  have hd : Null p n n A (fun j => y j - x j) := by
    intro r hr'
    have h1 := hy r hr'
    have h2 := hs' r hr'
    rw [gS_dot] at h1 h2
    have h3 : dot n (A r) (fun j => y j - x j) = dot n (A r) y - dot n (A r) x := by
      unfold dot
      rw [show (fun j => A r j * (y j - x j)) = fun j => A r j * y j + (-1) * (A r j * x j) from funext fun j => by rw [Int.mul_sub]; omega, sumZ_add, sumZ_mul]
      omega
    unfold Z
    rw [h3]
    exact dvd_tr h1 (dvd_sy h2)
  exact full_null hp hA hr hd hj
def cpM (p : Int) (n : Nat) (A : Nat → Nat → Int) (r i : Nat) : Int := sS p n n (gS n A i) r
theorem cpM_Bp (hp : primeB p = true) (hA : ∀ i, Bp p (A i)) (hr : (redGo p n A n).no = n) (r : Nat) : Bp p (cpM p n A r) := fun i =>
  (oS_sol hp (gS_Bp (by have := primeB_bd hp; omega) hA i) (gS_one hp hA hr i)).2.1.b r
theorem cpM_mul (hp : primeB p = true) (hA : ∀ i, Bp p (A i)) (hr : (redGo p n A n).no = n) {r i : Nat} (hr' : r < n) : p ∣ sumZ (fun j => A r j * cpM p n A j i) n - dl r i := by
  have h := (oS_sol hp (gS_Bp (by have := primeB_bd hp; omega) hA i) (gS_one hp hA hr i)).1 r hr'
  rw [gS_dot, gS_n] at h
  exact h
def auS (n : Nat) (A : Nat → Nat → Int) : Nat → Nat → Int := fun r j => if j < n then A r j else dl r (j - n)
theorem auS_Bp (hp : 1 < p) (hA : ∀ i, Bp p (A i)) (r : Nat) : Bp p (auS n A r) := fun j => by
  unfold auS dl
  split
  · exact hA r j
  · split <;> omega
def auO (p : Int) (n : Nat) (A : Nat → Nat → Int) : Nat → Nat → Int := fun r j => if j < n then dl r j else cpM p n A r (j - n)
theorem dot_split (f x : Nat → Int) (n : Nat) : ∀ m, dot (n + m) f x = dot n f x + dot m (fun j => f (n + j)) (fun j => x (n + j))
  | 0 => by show _ = _ + 0; rw [Int.add_zero]; rfl
  | m + 1 => by
    show dot (n + m) f x + f (n + m) * x (n + m) = dot n f x + (dot m _ _ + f (n + m) * x (n + m))
    rw [dot_split f x n m, Int.add_assoc]
theorem au_dot {r : Nat} (hr : r < n) (x : Nat → Int) : dot (n + n) (auS n A r) x = dot n (A r) x + x (n + r) := by
  rw [dot_split]
  congr 1
  · exact dot_congr n (fun j hj => by unfold auS; rw [if_pos hj])
  · have : dot n (fun j => auS n A r (n + j)) (fun j => x (n + j)) = sumZ (fun j => (fun j => x (n + j)) j * dl j r) n := by
      refine sumZ_congr n (fun j hj => ?_)
      show auS n A r (n + j) * x (n + j) = x (n + j) * dl j r
      unfold auS
      rw [if_neg (by omega), Nat.add_sub_cancel_left, Int.mul_comm]
      congr 1
      unfold dl
      by_cases h : r = j
      · rw [if_pos h, if_pos h.symm]
      · rw [if_neg h, if_neg (Ne.symm h)]
    rw [this, sum_dl (fun j => x (n + j)) hr]
theorem auO_dot {r : Nat} (hr : r < n) (x : Nat → Int) : dot (n + n) (auO p n A r) x = x r + sumZ (fun i => cpM p n A r i * x (n + i)) n := by
  rw [dot_split]
  congr 1
  · have : dot n (auO p n A r) x = sumZ (fun j => x j * dl j r) n := by
      refine sumZ_congr n (fun j hj => ?_)
      unfold auO
      rw [if_pos hj, Int.mul_comm]
      congr 1
      unfold dl
      by_cases h : r = j
      · rw [if_pos h, if_pos h.symm]
      · rw [if_neg h, if_neg (Ne.symm h)]
    rw [this, sum_dl x hr]
  · exact sumZ_congr n (fun j hj => by show auO p n A r (n + j) * x (n + j) = _; unfold auO; rw [if_neg (by omega), Nat.add_sub_cancel_left])
theorem cpM_app (hp : primeB p = true) (hA : ∀ i, Bp p (A i)) (hr : (redGo p n A n).no = n) (y : Nat → Int) {r : Nat} (hr' : r < n) : p ∣ sumZ (fun j => A r j * sumZ (fun i => cpM p n A j i * y i) n) n - y r := by
  have e : sumZ (fun j => A r j * sumZ (fun i => cpM p n A j i * y i) n) n = sumZ (fun i => sumZ (fun j => A r j * cpM p n A j i) n * y i) n := by
    rw [show (fun j => A r j * sumZ (fun i => cpM p n A j i * y i) n) = fun j => sumZ (fun i => A r j * (cpM p n A j i * y i)) n from funext fun j => (sumZ_mul _ _ n).symm, sumZ_swap]
    refine sumZ_congr n (fun i hi => ?_)
    rw [← sumZ_mulr]
    exact sumZ_congr n (fun j hj => by rw [Int.mul_assoc])
  rw [e]
  have h := sumZ_dvd (p := p) (f := fun i => sumZ (fun j => A r j * cpM p n A j i) n * y i) (g := fun i => y i * dl i r) n (fun i hi => by
    have h1 := cpM_mul hp hA hr (i := i) hr'
    have h2 : sumZ (fun j => A r j * cpM p n A j i) n * y i - y i * dl i r = (sumZ (fun j => A r j * cpM p n A j i) n - dl r i) * y i := by
      rw [Int.sub_mul, Int.mul_comm (y i)]
      congr 2
      unfold dl
      by_cases h : r = i
      · rw [if_pos h, if_pos h.symm]
      · rw [if_neg h, if_neg (Ne.symm h)]
    rw [h2]
    exact Int.dvd_mul_of_dvd_left h1)
  rwa [sum_dl y hr'] at h
theorem au_red (hp : primeB p = true) (hA : ∀ i, Bp p (A i)) (hr : (redGo p n A n).no = n) :
    (redGo p n (auS n A) (n + n)).no = n ∧ ∀ r, r < n → ∀ j, j < n + n → (redGo p n (auS n A) (n + n)).O r j = auO p n A r j := by
  have hpb := primeB_bd hp
  obtain ⟨⟨l, rr⟩, hn⟩ := red_ok (m := n + n) hp (fun r (_ : r < n) => auS_Bp (n := n) (by omega) hA r)
  have rr' : Rref p (n + n) n (auO p n A) (fun i => i) := by
    refine ⟨fun i hi j => ?_, fun i hi => ⟨by omega, ?_, fun j hj => ?_⟩, fun i j hi hj hne => ?_, fun i j h _ => h⟩
    · unfold auO dl
      split
      · split <;> omega
      · exact cpM_Bp hp hA hr i _
    · unfold auO dl; rw [if_pos hi, if_pos rfl]
    · unfold auO dl; rw [if_pos (by omega), if_neg (by omega)]
    · unfold auO dl; rw [if_pos hi, if_neg (Ne.symm hne)]
  have hN : ∀ x, Null p (n + n) (redGo p n (auS n A) (n + n)).no (redGo p n (auS n A) (n + n)).O x ↔ Null p (n + n) n (auO p n A) x := by
    intro x
    rw [hn x]
    have hC := fun r (hr' : r < n) => cpM_app hp hA hr (fun i => x (n + i)) hr'
    constructor
    · intro h
      have hz : Null p n n A (fun j => x j + sumZ (fun i => cpM p n A j i * x (n + i)) n) := by
        intro r hr'
        have h1 := h r hr'
        unfold Z at h1 ⊢
        rw [au_dot hr'] at h1
        have h2 := hC r hr'
        have e : dot n (A r) (fun j => x j + sumZ (fun i => cpM p n A j i * x (n + i)) n) = dot n (A r) x + sumZ (fun j => A r j * sumZ (fun i => cpM p n A j i * x (n + i)) n) n := by
          unfold dot
          rw [← sumZ_add]
          exact sumZ_congr n (fun j _ => Int.mul_add _ _ _)
        rw [e]
        have := Int.dvd_add h1 h2
        rwa [show dot n (A r) x + x (n + r) + (sumZ (fun j => A r j * sumZ (fun i => cpM p n A j i * x (n + i)) n) n - x (n + r)) = dot n (A r) x + sumZ (fun j => A r j * sumZ (fun i => cpM p n A j i * x (n + i)) n) n by omega] at this
      intro r hr'
      unfold Z
      rw [auO_dot hr']
      exact full_null hp hA hr hz hr'
    · intro h r hr'
      unfold Z
      rw [au_dot hr']
      have h2 := hC r hr'
      have h1 : p ∣ dot n (A r) x + sumZ (fun j => A r j * sumZ (fun i => cpM p n A j i * x (n + i)) n) n := by
        unfold dot
        rw [← sumZ_add]
        have := sumZ_dvd (p := p) (f := fun j => A r j * x j + A r j * sumZ (fun i => cpM p n A j i * x (n + i)) n) (g := fun _ => 0) n (fun j hj => by
          have h3 := h j hj
          unfold Z at h3
          rw [auO_dot hj] at h3
          rw [← Int.mul_add, Int.sub_zero]
          exact Int.dvd_mul_of_dvd_right h3)
        rwa [sumZ_zero, Int.sub_zero] at this
      have := Int.dvd_sub h1 h2
      rwa [show dot n (A r) x + sumZ (fun j => A r j * sumZ (fun i => cpM p n A j i * x (n + i)) n) n - (sumZ (fun j => A r j * sumZ (fun i => cpM p n A j i * x (n + i)) n) n - x (n + r)) = dot n (A r) x + x (n + r) by omega] at this
  obtain ⟨h1, h2⟩ := rref_unique (by omega) rr rr' hN
  exact ⟨h1, fun r hr' j hj => h2 r (by omega) j hj⟩
end
def ρ2x (a b : Nat) : Nat → Nat → Nat × Nat := fun k i => bif Nat.beq k a then (b, i) else (k, i)
section
variable {n i j r : Nat}
theorem w02 : (if r < i then n + n else n) = (if r < i then n + n else if r = i then n + 0 else n) := by
  by_cases h : r < i
  · rw [if_pos h, if_pos h]
  · rw [if_neg h, if_neg h]; split <;> rfl
theorem w20 : (if r < i then n + n else if r = i then n + n else n) = (if r < i + 1 then n + n else n) := by
  by_cases h : r < i
  · rw [if_pos h, if_pos (by omega)]
  · rw [if_neg h]
    by_cases h2 : r = i
    · rw [if_pos h2, if_pos (by omega)]
    · rw [if_neg h2, if_neg (by omega)]
theorem w2s (h : r ≠ i) : (if r < i then n + n else if r = i then n + j else n) = (if r < i then n + n else if r = i then n + (j + 1) else n) := by
  rw [if_neg h, if_neg h]
theorem w2j : (if i < i then n + n else if i = i then n + j else n) = n + j := by rw [if_neg (Nat.lt_irrefl i), if_pos rfl]
theorem w2i : (if i < i then n + n else if i = i then n + (j + 1) else n) = n + j + 1 := by rw [w2j]; rfl
theorem f02 {A : Nat → Nat → Int} {z : Nat} (hz : z < if r < i then n + n else n) : mixG (auS n A) A i r z = mixG (auS n A) A (i + 1) r z := by
  by_cases h : r < i
  · rw [mixG_lt _ _ h, mixG_lt _ _ (by omega)]
  · rw [if_neg h] at hz
    rw [mixG_ge _ _ (by omega)]
    by_cases h2 : r = i
    · rw [mixG_lt _ _ (by omega)]; unfold auS; rw [if_pos hz]
    · rw [mixG_ge _ _ (by omega)]
theorem auS_at {A : Nat → Nat → Int} : dl i j = auS n A i (n + j) := by unfold auS; rw [if_neg (by omega), Nat.add_sub_cancel_left]
end
end Go.Am

set_option linter.unusedVariables false
set_option linter.unusedSimpArgs false
namespace Go.Am
def lk : List (Nat × Nat) → Nat → Nat
  | [], k => k
  | (a, b) :: r, k => bif Nat.beq k a then b else lk r k
def ρL (m : List (Nat × Nat)) (kg c s : Nat) : Nat → Nat → Nat × Nat := fun k i => bif Nat.beq k kg && Nat.beq i c then (s, 0) else (lk m k, i)
def keysOf : OL → List Nat
  | [] => []
  | (k, _) :: r => k :: keysOf r
def okL (m : List (Nat × Nat)) (s : Nat) (ks : List Nat) : Bool := ks.all fun a => !Nat.beq (lk m a) s && ks.all fun b => Nat.beq a b || !Nat.beq (lk m a) (lk m b)
theorem liveAll_keys {P : Nat → Nat → AV → AV → Prop} : ∀ {ol : OL}, (∀ k i sh c, k ∈ keysOf ol → P k i sh c) → liveAll P ol
  | [], _ => trivial
  | (k, .one sh c) :: r, h => ⟨h k 0 sh c (by simp [keysOf]), liveAll_keys (fun k i sh c hk => h k i sh c (by simp [keysOf, hk]))⟩
  | (k, .many f) :: r, h => ⟨fun i sh c _ => h k i sh c (by simp [keysOf]), liveAll_keys (fun k i sh c hk => h k i sh c (by simp [keysOf, hk]))⟩
  | (k, .gone) :: r, h => liveAll_keys (ol := r) (fun k i sh c hk => h k i sh c (by simp [keysOf, hk]))
theorem emb_L {m : List (Nat × Nat)} {kg c s : Nat} {env' env : Env} {ol' ol : OL} (hk : okL m s (keysOf ol) = true) (henv : envAll (fun t v => MtE (vwOf (ρL m kg c s) ol' ol) v (get env' t)) env)
    (hlive : liveAll (fun k i sh c_1 => match ol'.at_ (ρL m kg c s k i).1 (ρL m kg c s k i).2 with | some (sh', c') => sh' = sh ∧ ssh sh c_1 ∧ Mt (vwOf (ρL m kg c s) ol' ol) c_1 c' | none => False) ol) : Emb (ρL m kg c s) env' ol' env ol := by
  refine ⟨henv, hlive, liveAll_keys (fun k i _ _ hki => liveAll_keys (fun k2 i2 _ _ hk2 he => ?_))⟩
  simp only [okL, List.all_eq_true, Bool.and_eq_true, Bool.or_eq_true, Bool.not_eq_true'] at hk
  have ha := hk k hki
  have hb := hk k2 hk2
  unfold ρL at he
  cases h1 : (Nat.beq k kg && Nat.beq i c) <;> cases h2 : (Nat.beq k2 kg && Nat.beq i2 c) <;> rw [h1, h2] at he <;> simp only [cond_true, cond_false, Prod.mk.injEq] at he
  · refine ⟨?_, he.2⟩
    rcases ha.2 k2 hk2 with h | h
    · exact Nat.eq_of_beq_eq_true h
    · rw [he.1, Nat.beq_refl] at h; cases h
  · have := ha.1
    rw [he.1, Nat.beq_refl] at this; cases this
  · have := hb.1
    rw [← he.1, Nat.beq_refl] at this; cases this
  · simp only [Bool.and_eq_true] at h1 h2
    exact ⟨(Nat.eq_of_beq_eq_true h1.1).trans (Nat.eq_of_beq_eq_true h2.1).symm, (Nat.eq_of_beq_eq_true h1.2).trans (Nat.eq_of_beq_eq_true h2.2).symm⟩
theorem ρL_ne {m : List (Nat × Nat)} {kg c s k i : Nat} (h : k ≠ kg ∨ i ≠ c) : ρL m kg c s k i = (lk m k, i) := by
  unfold ρL
  rcases h with h | h
  · rw [beq_ff h]; rfl
  · rw [beq_ff h, Bool.and_false]; rfl
theorem ρL_eq {m : List (Nat × Nat)} {kg c s : Nat} : ρL m kg c s kg c = (s, 0) := by
  unfold ρL
  rw [Nat.beq_refl, Nat.beq_refl]; rfl
theorem emb_two {m : List (Nat × Nat)} {kg c s ka fa kb N e : Nat} {wA wB : Nat → Nat} {FA FB : Nat → Nat → Int} {gA gB : Nat → AV} {env' env : Env} {ol' : OL} (hne : ka ≠ kg ∧ fa ≠ kg ∧ kb ≠ kg) (hk : okL m s [ka, fa, kb, kg] = true)
    (hA1 : ol'.at_ (lk m ka) 0 = some (ZR N, .arr N gA)) (hgA : ∀ j, j < N → gA j = .own (lk m fa) j (wA j) e) (hA2 : ∀ r, r < N → ∃ C, ol'.at_ (lk m fa) r = some (Z64 (wA r), C) ∧ ∀ V : Vw, Mt V (C64 (wA r) (FA r)) C)
    (hB1 : ol'.at_ (lk m kb) 0 = some (ZR N, .arr N gB)) (hgB : ∀ j, j < N → j ≠ c → gB j = .own (lk m kg) j (wB j) e) (hgc : c < N → gB c = .own s 0 (wB c) e)
    (hB2 : c < N → ∃ C, ol'.at_ s 0 = some (Z64 (wB c), C) ∧ ∀ V : Vw, Mt V (C64 (wB c) (FB c)) C) (hB3 : ∀ r, r < N → r ≠ c → ∃ C, ol'.at_ (lk m kg) r = some (Z64 (wB r), C) ∧ ∀ V : Vw, Mt V (C64 (wB r) (FB r)) C)
    (henv : envAll (fun t v => MtE (vwOf (ρL m kg c s) ol' [(ka, .one (ZR N) (CO fa N wA e)), (fa, .many (famF N wA FA)), (kb, .one (ZR N) (CO kg N wB e)), (kg, .many (famF N wB FB))]) v (get env' t)) env) :
    Emb (ρL m kg c s) env' ol' env [(ka, .one (ZR N) (CO fa N wA e)), (fa, .many (famF N wA FA)), (kb, .one (ZR N) (CO kg N wB e)), (kg, .many (famF N wB FB))] := by
  have d1 : OL.has [(ka, .one (ZR N) (CO fa N wA e)), (fa, .many (famF N wA FA)), (kb, .one (ZR N) (CO kg N wB e)), (kg, .many (famF N wB FB))] fa = true := by simp [OL.has]
  have d2 : OL.has [(ka, .one (ZR N) (CO fa N wA e)), (fa, .many (famF N wA FA)), (kb, .one (ZR N) (CO kg N wB e)), (kg, .many (famF N wB FB))] kg = true := by simp [OL.has]
  refine emb_L hk henv ⟨?_, fun r sh cc h => ?_, ?_, fun r sh cc h => ?_, trivial⟩
  · dsimp only
    rw [ρL_ne (.inl hne.1)]
    dsimp only
    rw [hA1]
    exact ⟨rfl, ⟨rfl, fun _ => trivial⟩, rfl, fun j hj => by rw [hgA j hj]; exact ⟨ρL_ne (.inl hne.2.1), rfl, rfl, d1⟩⟩
  · obtain ⟨hr, rfl, rfl⟩ := famF_some h
    skip
    rw [ρL_ne (.inl hne.2.1)]
    dsimp only
    obtain ⟨C, q1, q2⟩ := hA2 r hr
    rw [q1]
    exact ⟨rfl, ⟨rfl, fun _ => trivial⟩, q2 _⟩
  · dsimp only
    rw [ρL_ne (.inl hne.2.2)]
    dsimp only
    rw [hB1]
    refine ⟨rfl, ⟨rfl, fun _ => trivial⟩, rfl, fun j hj => ?_⟩
    by_cases hjc : j = c
    · subst hjc
      rw [hgc hj]
      exact ⟨ρL_eq, rfl, rfl, d2⟩
    · rw [hgB j hj hjc]
      exact ⟨ρL_ne (.inr hjc), rfl, rfl, d2⟩
  · obtain ⟨hr, rfl, rfl⟩ := famF_some h
    by_cases hrc : r = c
    · subst hrc
      skip
      rw [ρL_eq]
      dsimp only
      obtain ⟨C, q1, q2⟩ := hB2 hr
      rw [q1]
      exact ⟨rfl, ⟨rfl, fun _ => trivial⟩, q2 _⟩
    · skip
      rw [ρL_ne (.inr hrc)]
      dsimp only
      obtain ⟨C, q1, q2⟩ := hB3 r hr hrc
      rw [q1]
      exact ⟨rfl, ⟨rfl, fun _ => trivial⟩, q2 _⟩
theorem emb_three {m : List (Nat × Nat)} {kg c s ko kf kr N e : Nat} {w : Nat → Nat} {F : Nat → Nat → Int} {g : Nat → AV} {sh3 c3 : AV} {env' env : Env} {ol' : OL} (hne : ko ≠ kg ∧ kf ≠ kg ∧ kr ≠ kg) (hk : okL m s [ko, kf, kr] = true)
    (h1 : ol'.at_ (lk m ko) 0 = some (ZR N, .arr N g)) (hg : ∀ j, j < N → g j = .own (lk m kf) j (w j) e) (h2 : ∀ r, r < N → ∃ C, ol'.at_ (lk m kf) r = some (Z64 (w r), C) ∧ ∀ V : Vw, Mt V (C64 (w r) (F r)) C)
    (h4 : ∃ C, ol'.at_ (lk m kr) 0 = some (sh3, C) ∧ ssh sh3 c3 ∧ ∀ V : Vw, Mt V c3 C)
    (henv : envAll (fun t v => MtE (vwOf (ρL m kg c s) ol' [(ko, .one (ZR N) (CO kf N w e)), (kf, .many (famF N w F)), (kr, .one sh3 c3)]) v (get env' t)) env) :
    Emb (ρL m kg c s) env' ol' env [(ko, .one (ZR N) (CO kf N w e)), (kf, .many (famF N w F)), (kr, .one sh3 c3)] := by
  have d1 : OL.has [(ko, .one (ZR N) (CO kf N w e)), (kf, .many (famF N w F)), (kr, .one sh3 c3)] kf = true := by simp [OL.has]
  refine emb_L hk henv ⟨?_, fun r sh cc h => ?_, ?_, trivial⟩
  · dsimp only
    rw [ρL_ne (.inl hne.1)]
    dsimp only
    rw [h1]
    exact ⟨rfl, ⟨rfl, fun _ => trivial⟩, rfl, fun j hj => by rw [hg j hj]; exact ⟨ρL_ne (.inl hne.2.1), rfl, rfl, d1⟩⟩
  · obtain ⟨hr, rfl, rfl⟩ := famF_some h
    rw [ρL_ne (.inl hne.2.1)]
    dsimp only
    obtain ⟨C, q1, q2⟩ := h2 r hr
    rw [q1]
    exact ⟨rfl, ⟨rfl, fun _ => trivial⟩, q2 _⟩
  · dsimp only
    rw [ρL_ne (.inl hne.2.2)]
    dsimp only
    obtain ⟨C, q1, q2, q3⟩ := h4
    rw [q1]
    exact ⟨rfl, q2, q3 _⟩
def colF (C : Nat → Nat → Int) (i : Nat) : Nat → Nat → Int := fun r z => if z < i then C r z else 0
def colG (C : Nat → Nat → Int) (i k : Nat) : Nat → Nat → Int := fun r z => if z < i ∨ (z = i ∧ r < k) then C r z else 0
theorem colG_0 {C : Nat → Nat → Int} {i r z : Nat} : colF C i r z = colG C i 0 r z := by
  unfold colF colG
  by_cases h : z < i
  · rw [if_pos h, if_pos (.inl h)]
  · rw [if_neg h, if_neg (by omega)]
theorem colG_n {C : Nat → Nat → Int} {i n r z : Nat} (hr : r < n) : colG C i n r z = colF C (i + 1) r z := by
  unfold colF colG
  by_cases h : z < i ∨ (z = i ∧ r < n)
  · rw [if_pos h, if_pos (by omega)]
  · rw [if_neg h, if_neg (by omega)]
theorem colG_set {C : Nat → Nat → Int} {i k z : Nat} : upd (colG C i k k) i (C k i) z = colG C i (k + 1) k z := by
  unfold upd colG
  by_cases h : z = i
  · subst h; rw [if_pos rfl, if_pos (.inr ⟨rfl, by omega⟩)]
  · rw [if_neg h]
    by_cases h2 : z < i
    · rw [if_pos (.inl h2), if_pos (.inl h2)]
    · rw [if_neg (by omega), if_neg (by omega)]
theorem colG_oth {C : Nat → Nat → Int} {i k r z : Nat} (h : r ≠ k) : colG C i k r z = colG C i (k + 1) r z := by
  unfold colG
  by_cases h2 : z < i ∨ (z = i ∧ r < k)
  · rw [if_pos h2, if_pos (by omega)]
  · rw [if_neg h2, if_neg (by omega)]
theorem fam_cset {x : Fam} {l : OL} {C : Nat → Nat → Int} {n N i k r : Nat} {v : Int} (hr : r < N) (hv : v = C k i) :
    ∃ D, (OL.set ((905, x) :: (1, .many (famF N (fun _ => n) (colG C i k))) :: l) 1 k (some (Z64 n, C64 n (upd (colG C i k k) i v)))).at_ 1 r = some (Z64 n, D) ∧ ∀ V : Vw, Mt V (C64 n (colG C i (k + 1) r)) D := by
  subst hv
  rw [OL.at_set]
  by_cases h : r = k
  · subst h
    rw [if_pos ⟨rfl, rfl⟩]
    exact ⟨_, rfl, fun V => mt_vec (fun j _ => colG_set)⟩
  · rw [if_neg (fun q => h q.2)]
    refine ⟨C64 n (colG C i k r), ?_, fun V => mt_vec (fun j _ => colG_oth h)⟩
    show famF N (fun _ => n) (colG C i k) r = _
    exact famF_at (w := fun _ => n) hr
theorem w1s {n j r : Nat} (h : r ≠ j) : (if r < j then n + 1 else n) = (if r < j + 1 then n + 1 else n) := by
  by_cases h2 : r < j
  · rw [if_pos h2, if_pos (by omega)]
  · rw [if_neg h2, if_neg (by omega)]
theorem mix1s {α : Type} {F G : Nat → α} {j r : Nat} (h : r ≠ j) : mixG F G j r = mixG F G (j + 1) r := by
  by_cases h2 : r < j
  · rw [mixG_lt _ _ h2, mixG_lt _ _ (by omega)]
  · rw [mixG_ge _ _ (by omega), mixG_ge _ _ (by omega)]
end Go.Am

set_option linter.unusedVariables false
set_option linter.unusedSimpArgs false
namespace Go.Am
def pr2 (p : Int) (G : Nat → Nat → Nat → Int) (C : Nat → Nat → Int) (k : Nat) (u : Nat → Int) : Nat → Nat → Int
  | 0 => u
  | l + 1 => addF p (pr2 p G C k u l) (G k l) (C k l)
def pr1 (p : Int) (n : Nat) (G : Nat → Nat → Nat → Int) (C : Nat → Nat → Int) : Nat → Nat → Int
  | 0 => fun _ => 0
  | k + 1 => pr2 p G C k (pr1 p n G C k) n
theorem pr2_Bp {p : Int} (hp : 0 < p) {G : Nat → Nat → Nat → Int} {C : Nat → Nat → Int} {k : Nat} {u : Nat → Int} (hu : Bp p u) : ∀ l, Bp p (pr2 p G C k u l)
  | 0 => hu
  | l + 1 => addF_Bp hp _ _ _
theorem pr1_Bp {p : Int} (hp : 0 < p) {n : Nat} {G : Nat → Nat → Nat → Int} {C : Nat → Nat → Int} : ∀ k, Bp p (pr1 p n G C k)
  | 0 => fun _ => ⟨Int.le_refl _, hp⟩
  | k + 1 => pr2_Bp hp (pr1_Bp hp k) n
section
variable {p : Int} {n : Nat} {A : Nat → Nat → Int} {b : Nat → Int}
def gB (n : Nat) (A : Nat → Nat → Int) (b : Nat → Int) : Nat → Nat → Int := fun r j => if j < n then A r j else b r
end
end Go.Am

set_option linter.unusedVariables false
set_option linter.unusedSimpArgs false
namespace Go.Am
section
variable {p : Int} {C W : Nat → Nat → Int} {i k l r z n : Nat}
end
end Go.Am

set_option linter.unusedVariables false
set_option linter.unusedSimpArgs false
namespace Go.Am
section
variable {p : Int} {m no c i z : Nat} {O : Nat → Nat → Int} {l : Nat → Nat}
end
end Go.Am

set_option linter.unusedVariables false
set_option linter.unusedSimpArgs false
namespace Go.Am
end Go.Am

set_option linter.unusedVariables false
set_option linter.unusedSimpArgs false
namespace Go.Am
section
variable {p : Int} {n : Nat} {A : Nat → Nat → Int}
end
def prF (p n : Int) (T : Nat → Nat → Nat → Int) (fo : Nat → Int) (q m : Int) (S : Nat → Nat → Nat → Int) (go : Nat → Int) (Y : Nat → Nat → Int) : Nat → AV
  | 0 => algA p n T fo
  | 1 => algA q m S go
  | 2 => matA Y
  | _ => .any
abbrev prA (p n : Int) (T : Nat → Nat → Nat → Int) (fo : Nat → Int) (q m : Int) (S : Nat → Nat → Nat → Int) (go : Nat → Int) (Y : Nat → Nat → Int) : AV := .sct 3 (prF p n T fo q m S go Y)
section
variable {p n q m p' n' q' m' : Int} {T S T' S' : Nat → Nat → Nat → Int} {fo go fo' go' : Nat → Int} {Y Y' : Nat → Nat → Int} {V : Vw}
theorem ssh_pr : ssh (prA p n T fo q m S go Y) (prA p' n' T' fo' q' m' S' go' Y') := by
  refine ⟨rfl, fun i => ?_⟩
  match i with
  | 0 => exact ssh_alg
  | 1 => exact ssh_alg
  | 2 => exact ssh_mat
  | n + 3 => exact trivial
theorem prF_congr {f : Nat → AV} (h0 : f 0 = algA p n T fo) (h1 : f 1 = algA q m S go) (h2 : f 2 = matA Y) (h4 : ∀ i, f (i + 3) = .any) : AV.sct 3 f = prA p n T fo q m S go Y := by
  refine congrArg (AV.sct 3) (funext fun i => ?_)
  match i with
  | 0 => exact h0
  | 1 => exact h1
  | 2 => exact h2
  | i + 3 => exact h4 i
theorem put_pr0 : put (prA p n T fo q m S go Y) [0] (algA p' n' T' fo') = prA p' n' T' fo' q m S go Y := prF_congr put_nil rfl rfl (fun _ => rfl)
theorem put_pr1 : put (prA p n T fo q m S go Y) [1] (algA p' n' T' fo') = prA p n T fo p' n' T' fo' Y := prF_congr rfl put_nil rfl (fun _ => rfl)
theorem put_pr2 : put (prA p n T fo q m S go Y) [2] (matA Y') = prA p n T fo q m S go Y' := prF_congr rfl rfl put_nil (fun _ => rfl)
variable {at_ : Nat → Nat → Option (AV × AV)} {d : Nat}
end
section
variable {z : Nat → Int}
end
section
variable {p : Int} {n m : Nat} {T S : Nat → Nat → Nat → Int} {fo go : Nat → Int} {Y : Nat → Nat → Int}
def zvP (p : Int) (n m : Nat) (Y : Nat → Nat → Int) (i : Nat) : Prop := smP p (m : Int) (Y i) ∧ (n ≤ i → eqN 6 (Y i) (fun _ => 0))
def prS (p : Int) (n m : Nat) (T S : Nat → Nat → Nat → Int) (Y : Nat → Nat → Int) : Prop :=
  ((∀ i, i < 6 → zvP p n m Y i) ∧ ∀ i, i < n → (∀ j, j < n → eqN 6 (apF p Y (T i j) n) (timesF p m S (Y i) (Y j))) ∧ ∀ j, j < m → eqN 6 (timesF p m S (Y i) (eF j)) (timesF p m S (eF j) (Y i))) ∧ eqN 6 (apF p Y (uF p n T) n) (uF p m S)
def prI (p : Int) (n m : Nat) (T S : Nat → Nat → Nat → Int) (Y : Nat → Nat → Int) : Prop :=
  (∀ i, i < 6 → (zvP p n m Y i ∧ ∀ j, j < m → eqN 6 (timesF p m S (Y i) (eF j)) (timesF p m S (eF j) (Y i))) ∧ ∀ j, j < 6 → eqN 6 (apF p Y (T i j) 6) (timesF p m S (Y i) (Y j))) ∧ eqN 6 (apF p Y (uF p n T) 6) (uF p m S)
noncomputable instance {i : Nat} : Decidable (zvP p n m Y i) := Classical.propDecidable _
noncomputable instance : Decidable (prS p n m T S Y) := Classical.propDecidable _
noncomputable instance : Decidable (prI p n m T S Y) := Classical.propDecidable _
end
end Go.Am

set_option linter.unusedVariables false
set_option linter.unusedSimpArgs false
namespace Go.Am
end Go.Am

