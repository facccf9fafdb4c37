/- Part 2 of what the law stands on: abstract values, their walk, contracts of functions. My own work. Conditions: none. -/
import Derived.Test.YtndlghhhkgjohaaPart1
import Derived.Lib.SlicesCompact
set_option linter.unusedVariables false
set_option linter.unusedSimpArgs false
namespace Go.Am
abbrev tb2 (G : Nat → Nat → Nat) : Nat → Nat → Int := fun i j => ((G i j : Nat) : Int)
def grpF (n : Int) (G : Nat → Nat → Nat) : Nat → AV
  | 0 => .int .i64 n
  | 1 => matA (tb2 G)
  | _ => .any
abbrev grpA (n : Int) (G : Nat → Nat → Nat) : AV := .sct 2 (grpF n G)
section
variable {n n' : Int} {G G' : Nat → Nat → Nat} {V : Vw}
theorem closed_grp : (grpA n G).closed := by
  intro i
  match i with
  | 0 => exact trivial
  | 1 => exact closed_mat
  | n + 2 => exact trivial
theorem closed_cgrp : (AV.cptr (grpA n G)).closed := closed_grp
theorem m_grp : MtE V (grpA n G) (grpA n G) := Mt_closed (V := V) closed_grp (fun _ _ _ => trivial) (by simp)
theorem m_cgrp : MtE V (.cptr (grpA n G)) (.cptr (grpA n G)) := Mt_closed (V := V) (v := .cptr (grpA n G)) closed_grp (fun _ _ _ => trivial) (by simp)
theorem ssh_grp : ssh (grpA n G) (grpA n' G') := by
  refine ⟨rfl, fun i => ?_⟩
  match i with
  | 0 => exact trivial
  | 1 => exact ssh_mat
  | n + 2 => exact trivial
theorem grpF_congr {f : Nat → AV} (h0 : f 0 = .int .i64 n) (h1 : f 1 = matA (tb2 G)) (h4 : ∀ i, f (i + 2) = .any) : AV.sct 2 f = grpA n G := by
  refine congrArg (AV.sct 2) (funext fun i => ?_)
  match i with
  | 0 => exact h0
  | 1 => exact h1
  | i + 2 => exact h4 i
theorem put_grp0 : put (grpA n G) [0] (.int .i64 n') = grpA n' G := grpF_congr put_nil rfl (fun _ => rfl)
theorem put_grp1 : put (grpA n G) [1] (matA (tb2 G')) = grpA n G' := grpF_congr rfl put_nil (fun _ => rfl)
variable {at_ : Nat → Nat → Option (AV × AV)} {d : Nat}
theorem exp_grp : exp at_ (d + 1) (grpA n G) = grpA n G := by
  simp only [exp, expS, AV.sct.injEq, true_and]
  funext i
  match i with
  | 0 => rfl
  | 1 => rfl
  | n + 2 => rfl
theorem exp_cgrp : exp at_ (d + 1) (.cptr (grpA n G)) = .cptr (grpA n G) := by
  have := @exp_grp n G at_ d
  simp only [exp, expS] at this ⊢
  rw [this]
end
def kdG (i : Nat) : IntKind := if i < 1 then .i64 else .u8
def tbG (z : Nat → Int) (i j : Nat) : Nat := if i < 6 ∧ j < 6 then (z (1 + (i * 6 + j))).toNat else 0
theorem kd_grp {P : Program} {a b : TypeId} (h1 : P.underlying a = some (.int .i64)) (h2 : P.underlying b = some (.int .u8)) (i : Nat) (hi : i < 37) (u : TypeId) (hu : (a :: List.replicate 36 b)[i]? = some u) : P.underlying u = some (.int (kdG i)) := by
  match i, hi with
  | 0, _ => rw [← Option.some.inj (show some a = some u from hu)]; exact h1
  | i + 1, hi =>
    rw [List.getElem?_cons_succ, List.getElem?_replicate, if_pos (by omega)] at hu
    rw [← Option.some.inj hu]
    unfold kdG; rw [if_neg (by omega)]; exact h2
section
variable {z : Nat → Int}
theorem grp_in {K : Kx} {cs : Array Value} (hs : cs.size = 37) (h : ∀ i, i < 37 → cs.getD i undef = .int (kdG i) (z i) ∧ (kdG i).has (z i)) : VR K (grpA (z 0) (tbG z)) (.agg cs) := by
  refine ⟨cs, rfl, ?_⟩
  rw [toList_seg, hs]
  have h : ∀ i, i < 37 → (fun i => cs.getD i undef) i = .int (kdG i) (z i) ∧ (kdG i).has (z i) := h
  generalize (fun i => cs.getD i undef) = f at h ⊢
  refine ⟨fun i => match i with | 0 => segF f 0 1 | 1 => segF f 1 36 | _ => [], ?_, fun i hi => ?_⟩
  · show segF f 0 (1 + 36) = _
    rw [seg_add]
    rfl
  · match i, hi with
    | 0, _ => exact FL_int_seg (h 0 (by omega)).1
    | 1, _ => exact FL_arr_seg (n := 6) (s := 6) (fun i hi => FL_vec_seg (fun j hj => by
        obtain ⟨h1, h2⟩ := h (1 + (i * 6 + j)) (by omega)
        rw [show 1 + i * 6 + j = 1 + (i * 6 + j) by omega, h1]
        unfold kdG at h2 ⊢
        rw [if_neg (by omega)] at h2 ⊢
        have := has_u8 h2
        have e : tb2 (tbG z) i j = (((z (1 + (i * 6 + j))).toNat : Nat) : Int) := by unfold tb2 tbG; exact congrArg _ (if_pos ⟨hi, hj⟩)
        rw [e]
        congr 1
        omega)) rfl
end
structure RG (G : Nat → Nat → Nat) : Prop where
  b : ∀ i j, G i j < 256
theorem grp_RG {z : Nat → Int} (h : ∀ i, i < 37 → (kdG i).has (z i)) : RG (tbG z) where
  b := fun i j => by
    unfold tbG
    split
    · have := h (1 + (i * 6 + j)) (by omega)
      unfold kdG at this
      rw [if_neg (by omega)] at this
      have := has_u8 this
      omega
    · omega
theorem RG.w8 {G : Nat → Nat → Nat} (h : RG G) (i j : Nat) : IntKind.i64.wrap ((G i j : Nat) : Int) = ((G i j : Nat) : Int) := w64 (by omega) (by have := h.b i j; omega)
end Go.Am

set_option linter.unusedVariables false
set_option linter.unusedSimpArgs false
namespace Go.Am
section
variable {P : Program} {T : TT}
abbrev nbA (n : Nat) (F : Nat → Int) : AV := .arr n (fun i => .int .i64 (F i))
def TurnC (P : Program) (f : FuncId) (n m : Nat) (F G : Nat → Int) (ret : Nat → Nat → Value) : Prop :=
  ∀ (w : World) (b cap : Nat) (cur : Array Value) (e : TypeId), w.heap[b]? = some (.cells cur e (0, 0)) → n ≤ cap → cap ≤ maxLen → cur.size = cap → (∀ j, j < n → cur.getD j undef = .int .i64 (F j)) →
    Calls P f #[.slice (some ⟨b, 0, none⟩) n cap] w fun ex w' => ex = .returned (ret b cap) ∧ ∃ cur2, w'.heap[b]? = some (.cells cur2 e (0, 0)) ∧ cur2.size = cur.size ∧ (∀ j, j < m → cur2.getD j undef = .int .i64 (G j)) ∧
      w'.os = w.os ∧ w'.tape = w.tape ∧ w'.output = w.output ∧ w.heap.size ≤ w'.heap.size ∧ ∀ b', b' < w.heap.size → b' ≠ b → w'.heap[b']? = w.heap[b']?
theorem nb_size {n : Nat} {F : Nat → Int} : (nbA n F).size = n := by show n * (AV.int .i64 (F 0)).size = n; show n * 1 = n; omega
theorem nb_of {K : Kx} {cur : Array Value} {n : Nat} {F : Nat → Int} (h : FL K (nbA n F) (cur.toList.take n)) (hn : n ≤ cur.size) : ∀ j, j < n → cur.getD j undef = .int .i64 (F j) := by
  intro j hj
  obtain ⟨g, h1, h2⟩ := h
  have h3 := flat_one (g := g) (c := fun i => .int .i64 (F i)) n (fun i hi => (h2 i hi).1) j
  rw [← h1, if_pos hj, List.getElem?_take, if_pos hj, Array.getElem?_toList] at h3
  rw [Array.getD_eq_getD_getElem?, h3]
  rfl
theorem nb_mk {K : Kx} {cur : Array Value} {n : Nat} {F : Nat → Int} (h : ∀ j, j < n → cur.getD j undef = .int .i64 (F j)) (hn : n ≤ cur.size) : FL K (nbA n F) (cur.toList.take n) := by
  refine ⟨fun i => [.int .i64 (F i)], ?_, fun i hi => ⟨rfl, rfl⟩⟩
  apply List.ext_getElem?
  intro j
  rw [flat_one (c := fun i => .int .i64 (F i)) n (fun i _ => rfl), List.getElem?_take]
  by_cases hj : j < n
  · rw [if_pos hj, if_pos hj, Array.getElem?_toList]
    have := h j hj
    rw [Array.getD_eq_getD_getElem?] at this
    have h4 : j < cur.size := by omega
    rw [Array.getElem?_eq_getElem h4] at this ⊢
    exact congrArg some this
  · rw [if_neg hj, if_neg hj]
theorem mcalls_turn {f : FuncId} {n : Nat} {e : TypeId} {F G : Nat → Int} (hE : Ent P f) (hz1 : T.sz e = 1) (hz0 : T.zero e = .int .i64 0) (h : TurnC P f n n F G (fun _ _ => .tuple #[])) :
    MCalls P T f [0] [.own 0 0 n e] [(0, .one (.arr n (fun _ => T.zero e)) (nbA n F))] undA [(0, .one (.arr n (fun _ => T.zero e)) (nbA n G))] := by
  refine ⟨hE, fun X κ w cs hP hTT hw0 hR hvs => ?_⟩
  match cs, hvs with
  | [c], hvs =>
    have hv0 := VR_own hvs.1
    obtain ⟨hd, hn, cap, cur, fr, e1, c1, c2, c3, c4⟩ := hv0
    obtain ⟨cur', el, l1, l2, l3, l4, l5, l6, l7⟩ := hR.live 0 0 (.arr n (fun _ => T.zero e)) (nbA n F) rfl
    have c3' : w.heap[κ.blk 0 0]? = some (.cells cur e fr) := c3
    rw [l1] at c3'
    simp only [Option.some.injEq, Obj.cells.injEq] at c3'
    obtain ⟨rfl, rfl, rfl⟩ := c3'
    rw [nb_size] at l2 l3
    have hcs : cur'.size = cap := by rw [show cur'.size = cap * X.T.sz el from c4, hTT, hz1]; omega
    have e1' : c = .slice (some ⟨κ.blk 0 0, 0, none⟩) n cap := e1
    rw [e1']
    refine Calls.mono (h w (κ.blk 0 0) cap cur' el l1 c1 c2 hcs (nb_of l3 l2)) ?_
    rintro ex w' ⟨rfl, cur2, t1, t2, t3, t4, t5, t6, t7, t8⟩
    have only0 : ∀ k i, OL.at_ [(0, Fam.one (.arr n (fun _ => T.zero el)) (nbA n G))] k i ≠ none → k = 0 ∧ i = 0 := fun k i hq => by
      simp only [OL.at_] at hq
      cases hb : Nat.beq k 0
      · rw [hb] at hq; exact absurd rfl hq
      · rw [hb] at hq
        simp only [cond_true, Fam.at_] at hq
        cases hi : Nat.beq i 0
        · rw [hi] at hq; exact absurd rfl hq
        · exact ⟨Nat.eq_of_beq_eq_true hb, Nat.eq_of_beq_eq_true hi⟩
    have hsize : ∀ (b : Nat) cur e fr, w.heap[b]? = some (.cells cur e fr) → ∃ cur' fr', w'.heap[b]? = some (.cells cur' e fr') ∧ cur'.size = cur.size := fun b cu e2 fr2 hb => by
      by_cases hbb : b = κ.blk 0 0
      · subst hbb
        rw [l1] at hb
        simp only [Option.some.injEq, Obj.cells.injEq] at hb
        obtain ⟨rfl, rfl, rfl⟩ := hb
        exact ⟨cur2, (0, 0), t1, t2⟩
      · exact ⟨cu, fr2, (t8 b (Array.getElem?_eq_some_iff.1 hb).1 hbb).trans hb, rfl⟩
    refine ⟨_, κ, rfl, ?_, ⟨#[], rfl, rfl, fun i hi => absurd hi (Nat.not_lt_zero _)⟩, ⟨fun k hk => by simp at hk; subst hk; rfl, fun _ _ _ => ⟨rfl, rfl⟩, fun b cu e2 fr2 hb => hsize b cu e2 fr2 (by rw [← hw0]; exact hb)⟩⟩
    refine ⟨t4.trans hR.os, t5.trans hR.tape, t6.trans hR.output, Nat.le_trans hR.size t7, fun b hb hM => ?_, fun k i sh c hq => ?_, fun k i k2 i2 hq hq2 _ => ?_, fun k i hq => OL.has_of_at hq, hR.hI, hR.hM⟩
    · refine (t8 b (Nat.lt_of_lt_of_le hb hR.size) (fun hbb => ?_)).trans (hR.block b hb hM)
      rcases l6 with l6 | l6
      · omega
      · rw [← hbb] at l6; exact hM l6
    · have hq : OL.at_ [(0, Fam.one (.arr n (fun _ => T.zero el)) (nbA n G))] k i = some (sh, c) := hq
      obtain ⟨rfl, rfl⟩ := only0 k i (by rw [hq]; simp)
      have hq : some (AV.arr n (fun _ => T.zero el), nbA n G) = some (sh, c) := hq
      simp only [Option.some.injEq, Prod.mk.injEq] at hq
      obtain ⟨rfl, rfl⟩ := hq
      refine ⟨cur2, el, t1, by rw [nb_size]; omega, by rw [nb_size]; exact nb_mk t3 (by omega), ⟨rfl, fun i => by rw [hz0]; exact trivial⟩, l5, l6, l7⟩
    · obtain ⟨rfl, rfl⟩ := only0 k i hq
      obtain ⟨rfl, rfl⟩ := only0 k2 i2 hq2
      exact ⟨rfl, rfl⟩
theorem cut_mid (hT : TOk P T) {f : FuncId} (hE : Ent P f) {e : TypeId} (hz1 : T.sz e = 1) (hz0 : T.zero e = .int .i64 0) {dst : Option Nat} {ty : TypeId} {pos : String} {af : Array Edge} {gu : Option (Nat × Bool)} {s : Nat} {aty : Array TypeId}
    {env : Env} {ol : OL} {k n m key : Nat} {F G : Nat → Int} (hturn : TurnC P f n m F G (fun b cap => .slice (some ⟨b, 0, none⟩) m cap)) (hmn : m ≤ n) (hs : get env s = .own k 0 n e) (hat : ol.at_ k 0 = some (.arr n (fun _ => T.zero e), nbA n F)) (hkey : ol.has key = false) :
    MidJ P T ⟨dst, .call { callee := .value (.func f), args := #[.tmp s], argTypes := aty }, ty, pos, af, gu⟩ env ol (.own key 0 m e) ((key, .one (.arr m (fun _ => T.zero e)) (nbA m G)) :: ol.set k 0 none) := by
  intro X κ w act hP hTT hR hEn
  have vs := hEn s; rw [hs] at vs
  obtain ⟨hd, hn, cap, cur, fr, e1, c1, c2, c3, c4⟩ := VR_own vs
  obtain ⟨cur', el, l1, l2, l3, l4, l5⟩ := hR.live k 0 _ _ hat
  have c3' : w.heap[κ.blk k 0]? = some (.cells cur e fr) := c3
  rw [l1] at c3'
  simp only [Option.some.injEq, Obj.cells.injEq] at c3'
  obtain ⟨rfl, rfl, rfl⟩ := c3'
  rw [nb_size] at l2 l3
  have hc4 : cur'.size = cap := by rw [show cur'.size = cap * X.T.sz el from c4, hTT, hz1]; omega
  have hrun : (execOp act.eval ⟨dst, .call { callee := .value (.func f), args := #[.tmp s], argTypes := aty }, ty, pos, af, gu⟩).run P w = .ok (.enter f #[.slice (some ⟨κ.blk k 0, 0, none⟩) n cap]) w := by
    rw [run_call hE]
    have e1' : act.eval (.tmp s) = .slice (some ⟨κ.blk k 0, 0, none⟩) n cap := e1
    simp [e1']
  rw [hrun]
  show Calls X.P f _ w _
  rw [hP]
  refine Calls.mono (hturn w (κ.blk k 0) cap cur' el l1 c1 c2 hc4 (nb_of l3 l2)) ?_
  rintro ex w' ⟨rfl, cur2, t1, t2, t3, t4, t5, t6, t7, t8⟩
  obtain ⟨r1, r2⟩ := Rel.repl (κ := κ) (w' := w') (key := key) (b := κ.blk k 0) (sh := .arr m (fun _ => T.zero el)) (c := nbA m G) (cur := cur2) (e := el)
    hR hat hkey t4 t5 t6 t7 t8 (.inl rfl) t1
    (fun c0 e0 f0 h0 => by rw [l1] at h0; simp only [Option.some.injEq, Obj.cells.injEq] at h0; obtain ⟨rfl, rfl, rfl⟩ := h0; exact ⟨rfl, t2⟩)
    (fun K' _ => by rw [nb_size]; exact nb_mk t3 (by omega)) (by rw [nb_size]; omega) ⟨rfl, fun i => by rw [hz0]; exact trivial⟩
  refine ⟨_, _, rfl, r1, ⟨_, rfl, by show OL.has _ key = true; rw [cons_has]; simp, by show (κ.set key (κ.blk k 0) (.arr m (fun _ => T.zero el))).shp key 0 = .arr m (fun _ => X.T.zero el); rw [Gh.set_shp, hTT], cap, cur2, (0, 0), ?_, by omega, c2, ?_, ?_⟩, r2⟩
  · show _ = Value.slice (some ⟨(κ.set key (κ.blk k 0) (.arr m (fun _ => T.zero el))).blk key 0, 0, none⟩) m cap
    rw [Gh.set_blk]
  · show w'.heap[(κ.set key (κ.blk k 0) (.arr m (fun _ => T.zero el))).blk key 0]? = _
    rw [Gh.set_blk]; exact t1
  · show cur2.size = cap * X.T.sz el
    rw [hTT, t2, hz1]; omega
end
end Go.Am

set_option linter.unusedVariables false
set_option linter.unusedSimpArgs false
namespace Go.Am
open Go.Lib
def srtF (n : Nat) (F : Nat → Int) (j : Nat) : Int := (((List.range n).map F).mergeSort (fun x y => decide (x ≤ y))).getD j 0
def cmpN (n : Nat) (F : Nat → Int) : Nat := (compactUpTo ((List.range n).map F).toArray n).length
def cmpF (n : Nat) (F : Nat → Int) (j : Nat) : Int := (compactUpTo ((List.range n).map F).toArray n).getD j 0
theorem cmp_le (n : Nat) (F : Nat → Int) : (compactUpTo ((List.range n).map F).toArray n).length ≤ n := by
  unfold compactUpTo
  rw [List.length_map]
  refine Nat.le_trans (List.length_filter_le _ _) ?_
  rw [List.length_range]; exact Nat.le_refl _
theorem rng_get {n : Nat} {F : Nat → Int} {j : Nat} (hj : j < n) : ((List.range n).map F).toArray[j]! = F j := by
  simp [hj]
theorem cmp_eq (n : Nat) (F : Nat → Int) : compactUpTo ((List.range n).map F).toArray n = ((List.range n).filter (keeps ((List.range n).map F).toArray)).map F := by
  unfold compactUpTo
  refine List.map_congr_left (fun j hj => ?_)
  have := (List.mem_filter.1 hj).1
  exact rng_get (List.mem_range.1 this)
section
variable {n : Nat} {F : Nat → Int}
theorem keeps_iff {j : Nat} (hj : j < n) : keeps ((List.range n).map F).toArray j = true ↔ j = 0 ∨ F j ≠ F (j - 1) := by
  unfold keeps
  rw [decide_eq_true_eq, rng_get hj, rng_get (show j - 1 < n by omega)]
theorem cmp_inc (hs : ∀ i j, i ≤ j → j < n → F i ≤ F j) : ∀ a b, a < b → b < cmpN n F → cmpF n F a < cmpF n F b := by
  have hp : (compactUpTo ((List.range n).map F).toArray n).Pairwise (· < ·) := by
    rw [cmp_eq, List.pairwise_map]
    refine List.Pairwise.imp_of_mem ?_ (List.Pairwise.filter _ List.pairwise_lt_range)
    intro i j hi hj hij
    have hjn := List.mem_range.1 (List.mem_filter.1 hj).1
    have hk := (keeps_iff hjn).1 (List.mem_filter.1 hj).2
    rcases hk with rfl | hk
    · omega
    · have h1 := hs i (j - 1) (by omega) (by omega)
      have h2 := hs (j - 1) j (by omega) hjn
      omega
  intro a b hab hb
  have hb : b < (compactUpTo ((List.range n).map F).toArray n).length := hb
  have := List.pairwise_iff_getElem.1 hp a b (by omega) hb hab
  unfold cmpF
  simp only [List.getD, List.getElem?_eq_getElem hb, List.getElem?_eq_getElem (show a < (compactUpTo ((List.range n).map F).toArray n).length by omega), Option.getD_some]
  exact this
theorem cmp_mem {z : Int} : (∃ r, r < cmpN n F ∧ cmpF n F r = z) ↔ ∃ j, j < n ∧ F j = z := by
  have hm : (∃ r, r < cmpN n F ∧ cmpF n F r = z) ↔ z ∈ compactUpTo ((List.range n).map F).toArray n := by
    unfold cmpN cmpF
    rw [List.mem_iff_getElem?]
    constructor
    · rintro ⟨r, hr, e⟩
      refine ⟨r, ?_⟩
      simp only [List.getD, List.getElem?_eq_getElem hr, Option.getD_some] at e
      rw [List.getElem?_eq_getElem hr, e]
    · rintro ⟨r, e⟩
      have hr := (List.getElem?_eq_some_iff.1 e).1
      exact ⟨r, hr, by simp [List.getD, e]⟩
  rw [hm, cmp_eq, List.mem_map]
  constructor
  · rintro ⟨j, hj, e⟩
    exact ⟨j, List.mem_range.1 (List.mem_filter.1 hj).1, e⟩
  · rintro ⟨j, hj, e⟩
    have key : ∀ j, j < n → F j = z → ∃ i, i < n ∧ F i = z ∧ keeps ((List.range n).map F).toArray i = true := by
      intro j
      induction j with
      | zero => intro hj e; exact ⟨0, hj, e, (keeps_iff hj).2 (.inl rfl)⟩
      | succ j ih =>
        intro hj e
        by_cases h : F (j + 1) = F j
        · exact ih (by omega) (h ▸ e)
        · exact ⟨j + 1, hj, e, (keeps_iff hj).2 (.inr h)⟩
    obtain ⟨i, hi, e2, hk⟩ := key j hj e
    exact ⟨i, List.mem_filter.2 ⟨List.mem_range.2 hi, hk⟩, e2⟩
theorem srt_len : (((List.range n).map F).mergeSort (fun x y => decide (x ≤ y))).length = n := by rw [List.length_mergeSort]; simp
theorem srt_at {j : Nat} (hj : j < n) : srtF n F j = (((List.range n).map F).mergeSort (fun x y => decide (x ≤ y)))[j]'(by rw [srt_len]; exact hj) := by
  unfold srtF
  simp only [List.getD, List.getElem?_eq_getElem (show j < (((List.range n).map F).mergeSort (fun x y => decide (x ≤ y))).length by rw [srt_len]; exact hj), Option.getD_some]
theorem srt_inc (i j : Nat) (hij : i ≤ j) (hj : j < n) : srtF n F i ≤ srtF n F j := by
  rcases Nat.eq_or_lt_of_le hij with rfl | hlt
  · exact Int.le_refl _
  · have hp : (((List.range n).map F).mergeSort (fun x y => decide (x ≤ y))).Pairwise (fun a b => decide (a ≤ b) = true) :=
      List.pairwise_mergeSort (fun a b c h1 h2 => by simp at *; omega) (fun a b => by simp; omega) _
    have := List.pairwise_iff_getElem.1 hp i j (by rw [srt_len]; omega) (by rw [srt_len]; exact hj) hlt
    rw [srt_at hj, srt_at (show i < n by omega)]
    simpa using this
theorem srt_mem {z : Int} : (∃ j, j < n ∧ srtF n F j = z) ↔ ∃ j, j < n ∧ F j = z := by
  have h1 : (∃ j, j < n ∧ srtF n F j = z) ↔ z ∈ ((List.range n).map F).mergeSort (fun x y => decide (x ≤ y)) := by
    rw [List.mem_iff_getElem]
    constructor
    · rintro ⟨j, hj, e⟩; exact ⟨j, by rw [srt_len]; exact hj, by rw [← srt_at hj]; exact e⟩
    · rintro ⟨j, hj, e⟩; rw [srt_len] at hj; exact ⟨j, hj, by rw [srt_at hj]; exact e⟩
  rw [h1, (List.mergeSort_perm _ _).mem_iff, List.mem_map]
  constructor
  · rintro ⟨j, hj, e⟩; exact ⟨j, List.mem_range.1 hj, e⟩
  · rintro ⟨j, hj, e⟩; exact ⟨j, List.mem_range.2 hj, e⟩
end
theorem GN.class_eq {n : Nat} {G : Nat → Nat → Nat} (h : GN n G) {i : Nat} (hi : i < n) :
    cmpN n (srtF n (fun x => ((cj n G i x : Nat) : Int))) = clN n G i ∧ ∀ r, r < clN n G i → cmpF n (srtF n (fun x => ((cj n G i x : Nat) : Int))) r = ((clF n G i r : Nat) : Int) := by
  have hmem : ∀ z : Int, (∃ r, r < cmpN n (srtF n (fun x => ((cj n G i x : Nat) : Int))) ∧ cmpF n (srtF n (fun x => ((cj n G i x : Nat) : Int))) r = z) ↔ ∃ x, x < n ∧ ((cj n G i x : Nat) : Int) = z := fun z => by rw [cmp_mem, srt_mem]
  have hnn : ∀ r, r < cmpN n (srtF n (fun x => ((cj n G i x : Nat) : Int))) → ∃ x, x < n ∧ ((cj n G i x : Nat) : Int) = cmpF n (srtF n (fun x => ((cj n G i x : Nat) : Int))) r := fun r hr => (hmem _).1 ⟨r, hr, rfl⟩
  have hinc := cmp_inc (n := n) (F := srtF n (fun x => ((cj n G i x : Nat) : Int))) (fun a b h1 h2 => srt_inc a b h1 h2)
  obtain ⟨e1, e2⟩ := en_uniq (P := owF n G i n) (n := n) (m := cmpN n (srtF n (fun x => ((cj n G i x : Nat) : Int)))) (f := fun r => (cmpF n (srtF n (fun x => ((cj n G i x : Nat) : Int))) r).toNat)
    (fun a b hab hb => by
      have := hinc a b hab hb
      obtain ⟨x, _, ex⟩ := hnn a (by omega)
      obtain ⟨y, _, ey⟩ := hnn b hb
      omega)
    (fun r hr => by
      obtain ⟨x, hx, ex⟩ := hnn r hr
      have e : (cmpF n (srtF n (fun x => ((cj n G i x : Nat) : Int))) r).toNat = cj n G i x := by omega
      rw [e]
      exact ⟨h.cj_lt hi hx, own_iff.2 ⟨x, hx, rfl⟩⟩)
    (fun z hz hP => by
      obtain ⟨x, hx, ex⟩ := own_iff.1 hP
      obtain ⟨r, hr, er⟩ := (hmem (z : Int)).2 ⟨x, hx, by rw [ex]⟩
      exact ⟨r, hr, by show (cmpF n (srtF n (fun x => ((cj n G i x : Nat) : Int))) r).toNat = z; omega⟩)
  refine ⟨e1, fun r hr => ?_⟩
  have h1 := e2 r (by rw [e1]; exact hr)
  obtain ⟨x, _, ex⟩ := hnn r (by rw [e1]; exact hr)
  have h1 : (cmpF n (srtF n (fun x => ((cj n G i x : Nat) : Int))) r).toNat = clF n G i r := h1
  omega
end Go.Am

set_option linter.unusedVariables false
set_option linter.unusedSimpArgs false
namespace Go.Am
theorem liveAll_imp {P Q : Nat → Nat → AV → AV → Prop} : ∀ {ol : OL}, liveAll P ol → (∀ k i sh c, k ∈ keysOf ol → P k i sh c → Q k i sh c) → liveAll Q ol
  | [], _, _ => trivial
  | (k, .one sh c) :: r, h, f => ⟨f k 0 sh c (by simp [keysOf]) h.1, liveAll_imp h.2 (fun k i sh c hk => f k i sh c (by simp [keysOf, hk]))⟩
  | (k, .many g) :: r, h, f => ⟨fun i sh c hi => f k i sh c (by simp [keysOf]) (h.1 i sh c hi), liveAll_imp h.2 (fun k i sh c hk => f k i sh c (by simp [keysOf, hk]))⟩
  | (k, .gone) :: r, h, f => liveAll_imp (ol := r) h (fun k i sh c hk => f k i sh c (by simp [keysOf, hk]))
theorem emb_famL {m : List (Nat × Nat)} {kf c s ko N e : Nat} {w : Nat → Nat} {F : Nat → Nat → Int} {g : Nat → AV} {env' env : Env} {ol' : OL} {rest : OL} (hne : ko ≠ kf) (hk : okL m s (ko :: kf :: keysOf rest) = true) (hnr : (keysOf rest).all (fun k => !Nat.beq k kf) = true) (hkf : lk m kf = kf)
    (h1 : ol'.at_ (lk m ko) 0 = some (ZR N, .arr N g)) (hg : ∀ j, j < N → j ≠ c → g j = .own kf j (w j) e) (hgc : c < N → g c = .own s 0 (w c) e)
    (h2 : c < N → ∃ C, ol'.at_ s 0 = some (Z64 (w c), C) ∧ ∀ V : Vw, Mt V (C64 (w c) (F c)) C)
    (h3 : ∀ r, r < N → r ≠ c → ∃ C, ol'.at_ kf r = some (Z64 (w r), C) ∧ ∀ V : Vw, Mt V (C64 (w r) (F r)) C)
    (h4 : liveAll (fun k i sh c3 => ∃ C, ol'.at_ (lk m k) i = some (sh, C) ∧ ssh sh c3 ∧ ∀ V : Vw, Mt V c3 C) rest)
    (henv : envAll (fun t v => MtE (vwOf (ρL m kf c s) ol' ((ko, .one (ZR N) (CO kf N w e)) :: (kf, .many (famF N w F)) :: rest)) v (get env' t)) env) :
    Emb (ρL m kf c s) env' ol' env ((ko, .one (ZR N) (CO kf N w e)) :: (kf, .many (famF N w F)) :: rest) := by
  have d1 : OL.has ((ko, .one (ZR N) (CO kf N w e)) :: (kf, .many (famF N w F)) :: rest) kf = true := by simp [OL.has]
  refine emb_L hk henv ⟨?_, fun r sh cc h => ?_, liveAll_imp h4 (fun k i sh c3 hki h => ?_)⟩
  · dsimp only
    rw [ρL_ne (.inl hne)]
    dsimp only
    rw [h1]
    refine ⟨rfl, ⟨rfl, fun _ => trivial⟩, rfl, fun j hj => ?_⟩
    by_cases hjc : j = c
    · subst hjc
      rw [hgc hj]
      exact ⟨ρL_eq, rfl, rfl, d1⟩
    · rw [hg j hj hjc]
      refine ⟨?_, rfl, rfl, d1⟩
      have := ρL_ne (m := m) (kg := kf) (c := c) (s := s) (k := kf) (i := j) (.inr hjc)
      rw [hkf] at this; exact this
  · obtain ⟨hr, rfl, rfl⟩ := famF_some h
    by_cases hrc : r = c
    · subst hrc
      rw [ρL_eq]
      dsimp only
      obtain ⟨C, q1, q2⟩ := h2 hr
      rw [q1]
      exact ⟨rfl, ⟨rfl, fun _ => trivial⟩, q2 _⟩
    · rw [ρL_ne (.inr hrc), hkf]
      dsimp only
      obtain ⟨C, q1, q2⟩ := h3 r hr hrc
      rw [q1]
      exact ⟨rfl, ⟨rfl, fun _ => trivial⟩, q2 _⟩
  · have hkk : k ≠ kf := fun e => by
      have := List.all_eq_true.1 hnr k hki
      rw [e, Nat.beq_refl] at this; cases this
    rw [ρL_ne (.inl hkk)]
    dsimp only
    obtain ⟨C, q1, q2, q3⟩ := h
    rw [q1]
    exact ⟨rfl, q2, q3 _⟩
end Go.Am

set_option linter.unusedVariables false
set_option linter.unusedSimpArgs false
namespace Go.Am
abbrev rowsW (N : Nat) (W : Nat → Nat) (R : Nat → Nat → Int) : AV := .ro N (fun i => rowA (W i) (R i))
theorem closed_rowsW {N : Nat} {W : Nat → Nat} {R : Nat → Nat → Int} : (rowsW N W R).closed := fun _ _ => trivial
theorem mt_rowsW {V : Vw} {N : Nat} {W : Nat → Nat} {R S : Nat → Nat → Int} (h : ∀ i, i < N → ∀ j, j < W i → S i j = R i j) : Mt V (rowsW N W R) (rowsW N W S) :=
  ⟨rfl, fun i hi => ⟨rfl, fun j hj => congrArg (AV.int .i64) (h i hi j hj)⟩⟩
theorem mt_famW_fz {V : Vw} {ko kf N e e2 : Nat} {w : Nat → Nat} {F : Nat → Nat → Int} {sh : AV} (hz : V.fz ko 0) (hzf : ∀ r, V.fz kf r) (ha : V.at' ko 0 = some (sh, CO kf N w e)) (hf : ∀ r, r < N → V.at' kf r = some (Z64 (w r), C64 (w r) (F r))) : Mt V (rowsW N w F) (.own ko 0 N e2) :=
  mt_fz hz ha (fun r hr => mt_fz (hzf r) (sh := Z64 (w r)) (G := fun j => .int .i64 (F r j)) (hf r hr) (fun j hj => rfl))
theorem mt_famW0 {at_ : Nat → Nat → Option (AV × AV)} {ko kf N e e2 : Nat} {w : Nat → Nat} {S F : Nat → Nat → Int} {sh : AV} (ha : at_ ko 0 = some (sh, CO kf N w e2)) (hf : ∀ r, r < N → at_ kf r = some (Z64 (w r), C64 (w r) (F r)))
    (hS : ∀ r, r < N → ∀ j, j < w r → F r j = S r j) : Mt V0 (rowsW N w S) (exp at_ 4 (.own ko 0 N e)) := by
  show Mt V0 _ (match at_ ko 0 with | some (_, .arr m f) => AV.ro m (fun j => exp at_ 3 (f j)) | _ => .any)
  rw [ha]
  refine ⟨rfl, fun r hr => ?_⟩
  show Mt V0 _ (match at_ kf r with | some (_, .arr m f) => AV.ro m (fun j => exp at_ 2 (f j)) | _ => .any)
  rw [hf r hr]
  exact ⟨rfl, fun j hj => congrArg (AV.int .i64) (hS r hr j hj)⟩
def sw (W : Nat → Nat) : Nat → Nat
  | 0 => 0
  | i + 1 => sw W i + W i
theorem sw_le {W : Nat → Nat} {b : Nat} (h : ∀ r, W r ≤ b) : ∀ i, sw W i ≤ i * b
  | 0 => Nat.zero_le _
  | i + 1 => by
    have := sw_le h i
    have := h i
    show sw W i + W i ≤ (i + 1) * b
    rw [Nat.succ_mul]; omega
def mkW (W : Nat → Nat) (k : Int) (r j : Nat) : Int := k + (sw W r : Nat) + (j : Nat)
section
variable {n : Nat} {G : Nat → Nat → Nat}
theorem ent_lt (h : entP n G) (hn : n ≤ 6) {i j : Nat} (hi : i < n) (hj : j < n) : G i j < n := by
  have := h i (by omega) j (by omega)
  unfold entQ at this
  rwa [if_pos ⟨hi, hj⟩] at this
def gmI (n : Nat) (G : Nat → Nat → Nat) (i : Nat) : Prop := (G 0 i = i ∧ G i 0 = i ∧ 0 ≤ ivI n G i) ∧ ∀ j, j < n → ∀ k, k < n → G (G i j) k = G i (G j k)
theorem ivI_iff {i : Nat} : 0 ≤ ivI n G i ↔ ∃ j, j < n ∧ G i j = 0 ∧ G j i = 0 := by
  unfold ivI
  rw [idx_ge]
  constructor
  · rintro ⟨j, hj, h⟩; exact ⟨j, hj, of_decide_eq_true h⟩
  · rintro ⟨j, hj, h⟩; exact ⟨j, hj, decide_eq_true h⟩
theorem gn_of (h1 : 1 ≤ n) (h6 : n ≤ 6) (he : entP n G) (h : ∀ i, i < n → gmI n G i) : GN n G :=
  ⟨h1, h6, he, fun i hi => ⟨(h i hi).1.1, (h i hi).1.2.1⟩, fun i hi => ivI_iff.1 (h i hi).1.2.2, fun i hi => (h i hi).2⟩
theorem GN.gm (h : GN n G) {i : Nat} (hi : i < n) : gmI n G i := ⟨⟨h.l hi, h.r hi, ivI_iff.2 (h.inv i hi)⟩, fun j hj k hk => h.as hi hj hk⟩
def anyB (P : Nat → Bool) : Nat → Bool
  | 0 => false
  | j + 1 => anyB P j || P j
theorem anyB_iff {P : Nat → Bool} : ∀ j, anyB P j = true ↔ ∃ a, a < j ∧ P a = true
  | 0 => by simp [anyB]
  | j + 1 => by
    show (anyB P j || P j) = true ↔ _
    rw [Bool.or_eq_true, anyB_iff j]
    constructor
    · rintro (⟨a, ha, h⟩ | h)
      · exact ⟨a, by omega, h⟩
      · exact ⟨j, by omega, h⟩
    · rintro ⟨a, ha, h⟩
      rcases Nat.lt_or_ge a j with h2 | h2
      · exact .inl ⟨a, h2, h⟩
      · obtain rfl : a = j := by omega
        exact .inr h
def ivB (G : Nat → Nat → Nat) (i j : Nat) : Bool := decide (((G i j : Nat) : Int) = 0) && decide (((G j i : Nat) : Int) = 0)
theorem ivB_iff {i : Nat} : anyB (ivB G i) n = true ↔ 0 ≤ ivI n G i := by
  rw [anyB_iff, ivI_iff]
  constructor
  · rintro ⟨a, ha, h⟩
    simp only [ivB, Bool.and_eq_true, decide_eq_true_eq] at h
    exact ⟨a, ha, by omega, by omega⟩
  · rintro ⟨a, ha, h1, h2⟩
    exact ⟨a, ha, by simp [ivB, h1, h2]⟩
theorem ivB_d {i j : Nat} : ivB G i j = decide (G i j = 0 ∧ G j i = 0) := by
  unfold ivB
  rw [← Bool.decide_and]
  exact decide_eq_decide.2 ⟨fun ⟨a, b⟩ => ⟨by omega, by omega⟩, fun ⟨a, b⟩ => ⟨by omega, by omega⟩⟩
def entB (n : Nat) (G : Nat → Nat → Nat) (i j : Nat) : Bool := ((decide ((i : Int) < (n : Int)) && decide ((j : Int) < (n : Int))) && decide ((n : Int) ≤ ((G i j : Nat) : Int))) || (!(decide ((i : Int) < (n : Int)) && decide ((j : Int) < (n : Int))) && decide (((G i j : Nat) : Int) ≠ 0))
theorem entB_iff {i j : Nat} : entB n G i j = true ↔ ¬ entQ n G i j := by
  unfold entB entQ
  by_cases h1 : i < n <;> by_cases h2 : j < n <;> by_cases h3 : G i j < n <;> by_cases h4 : G i j = 0 <;> simp [h1, h2, h3, h4] <;> omega
theorem entB_t {i j : Nat} (h : entB n G i j = true) : ¬ entQ n G i j := entB_iff.1 h
theorem entB_f {i j : Nat} (h : entB n G i j = false) : entQ n G i j := Classical.byContradiction fun q => by rw [entB_iff.2 q] at h; cases h
theorem gn_in (h : (!(decide ((1 : Int) ≤ (n : Int)) && decide ((n : Int) ≤ 6)) || !(decide (entP n G))) = false) : 1 ≤ n ∧ n ≤ 6 ∧ entP n G := by
  simp only [Bool.or_eq_false_iff, Bool.not_eq_false', Bool.and_eq_true, decide_eq_true_eq] at h
  exact ⟨by omega, by omega, h.2⟩
theorem gn_in_t (h : (!(decide ((1 : Int) ≤ (n : Int)) && decide ((n : Int) ≤ 6)) || !(decide (entP n G))) = true) : ¬ GN n G := fun q => by
  have h1 := q.n1; have h6 := q.n6; have he := q.ent
  simp [he] at h
  omega
theorem gi_of {i : Nat} (h : ((decide (((G 0 i : Nat) : Int) ≠ (i : Int)) || decide (((G i 0 : Nat) : Int) ≠ (i : Int))) || decide (ivI n G i < 0)) = false) : G 0 i = i ∧ G i 0 = i ∧ 0 ≤ ivI n G i := by
  simp only [Bool.or_eq_false_iff, decide_eq_false_iff_not] at h
  exact ⟨by omega, by omega, by omega⟩
theorem gi_t {i : Nat} (h : ((decide (((G 0 i : Nat) : Int) ≠ (i : Int)) || decide (((G i 0 : Nat) : Int) ≠ (i : Int))) || decide (ivI n G i < 0)) = true) : ¬ gmI n G i := fun q => by
  obtain ⟨⟨q1, q2, q3⟩, _⟩ := q
  simp only [Bool.or_eq_true, decide_eq_true_eq] at h
  omega
theorem gs_of {i : Nat} (h : ((!(anyB (ivB G i) n) || decide (((G 0 i : Nat) : Int) ≠ (i : Int))) || decide (((G i 0 : Nat) : Int) ≠ (i : Int))) = false) : G 0 i = i ∧ G i 0 = i ∧ 0 ≤ ivI n G i := by
  simp only [Bool.or_eq_false_iff, decide_eq_false_iff_not, Bool.not_eq_false'] at h
  exact ⟨by omega, by omega, ivB_iff.1 h.1.1⟩
theorem gs_t {i : Nat} (h : ((!(anyB (ivB G i) n) || decide (((G 0 i : Nat) : Int) ≠ (i : Int))) || decide (((G i 0 : Nat) : Int) ≠ (i : Int))) = true) : ¬ gmI n G i := fun q => by
  obtain ⟨⟨q1, q2, q3⟩, _⟩ := q
  rw [ivB_iff.2 q3] at h
  simp only [Bool.not_true, Bool.false_or, Bool.or_eq_true, decide_eq_true_eq] at h
  omega
theorem ing_of (h : (!(decide ((1 : Int) ≤ (n : Int)) && decide ((n : Int) ≤ 6))) = false) : 1 ≤ n ∧ n ≤ 6 := by
  simp only [Bool.not_eq_false', Bool.and_eq_true, decide_eq_true_eq] at h
  omega
theorem ing_t (h : (!(decide ((1 : Int) ≤ (n : Int)) && decide ((n : Int) ≤ 6))) = true) : ¬ GN n G := fun q => by
  have h1 := q.n1; have h6 := q.n6
  simp at h
  omega
theorem eq_of {i j : Nat} (h : (decide ((n : Int) ≤ (i : Int)) || decide ((n : Int) ≤ (j : Int))) = true) : ¬ (i < n ∧ j < n) := by
  simp only [Bool.or_eq_true, decide_eq_true_eq] at h
  omega
theorem eq_in {i j : Nat} (h : (decide ((n : Int) ≤ (i : Int)) || decide ((n : Int) ≤ (j : Int))) = false) : i < n ∧ j < n := by
  simp only [Bool.or_eq_false_iff, decide_eq_false_iff_not] at h
  omega
theorem entQ_o {i j : Nat} (h : ¬ (i < n ∧ j < n)) (h2 : G i j = 0) : entQ n G i j := by unfold entQ; rwa [if_neg h]
theorem entQ_on {i j : Nat} (h : ¬ (i < n ∧ j < n)) (h2 : G i j ≠ 0) : ¬ entQ n G i j := by unfold entQ; rwa [if_neg h]
theorem entQ_i {i j : Nat} (h : i < n ∧ j < n) (h2 : G i j < n) : entQ n G i j := by unfold entQ; rwa [if_pos h]
theorem entQ_in {i j : Nat} (h : i < n ∧ j < n) (h2 : n ≤ G i j) : ¬ entQ n G i j := by unfold entQ; rw [if_pos h]; omega
def GZ (n : Int) (G : Nat → Nat → Nat) : Prop := 0 ≤ n ∧ GN n.toNat G
noncomputable instance (n : Int) (G : Nat → Nat → Nat) : Decidable (GZ n G) := Classical.propDecidable _
theorem in_neg {n : Int} (h : n < 0) : (decide ((1 : Int) ≤ n) && decide (n ≤ 6)) = false := by rw [decide_eq_false (by omega)]; rfl
theorem GZ_N : GZ (n : Int) G ↔ GN n G := by unfold GZ; simp
theorem GZ_neg {n : Int} (h : n < 0) : ¬ GZ n G := fun q => by have := q.1; omega
theorem GZ_of {n : Int} (h : GZ n G) : ∃ m : Nat, n = (m : Int) ∧ GN m G := ⟨n.toNat, by have := h.1; omega, h.2⟩
theorem GN.gz (h : GN n G) : GZ (n : Int) G := GZ_N.2 h
theorem GN.wle (h : GN n G) (r : Nat) : clN n G (rpF n G r) ≤ 6 := Nat.le_trans (enN_le _ _) h.n6
theorem GN.cle (h : GN n G) : ccN n G ≤ 6 := Nat.le_trans (enN_le _ _) h.n6
theorem GN.e6 (h : GN n G) (i j : Nat) (hi : i < n) (hj : j < n) : G i j < 6 := by have := h.lt hi hj; have := h.n6; omega
theorem enN_mono {P : Nat → Bool} {i : Nat} : ∀ n, i ≤ n → enN P i ≤ enN P n
  | 0, h => by obtain rfl : i = 0 := by omega
               exact Nat.le_refl _
  | n + 1, h => by
    rcases Nat.lt_or_ge n i with h2 | h2
    · obtain rfl : i = n + 1 := by omega
      exact Nat.le_refl _
    · have := enN_mono (P := P) n h2
      show enN P i ≤ (if P n then enN P n + 1 else enN P n)
      split <;> omega
theorem en_at {P : Nat → Bool} {i : Nat} (hP : P i = true) : ∀ n, i < n → enN P i < enN P n ∧ enF P n (enN P i) = i
  | 0, h => absurd h (Nat.not_lt_zero _)
  | n + 1, h => by
    by_cases e : i = n
    · subst e
      rw [en_t hP]
      exact ⟨by omega, enF_t hP⟩
    · obtain ⟨h1, h2⟩ := en_at hP n (by omega)
      refine ⟨Nat.lt_of_lt_of_le h1 (enN_mono (n + 1) (by omega)), ?_⟩
      rw [enF_o h1]; exact h2
def gpN (G : Nat → Nat → Nat) (f : Nat → Nat) : Nat → Nat
  | 0 => 0
  | r + 1 => G (gpN G f r) (f r)
theorem GN.gp (h : GN n G) {f : Nat → Nat} {m : Nat} (hf : ∀ r, r < m → f r < n) : ∀ r, r ≤ m → gpN G f r < n
  | 0, _ => h.n1
  | r + 1, hr => h.lt (h.gp hf r (by omega)) (hf r (by omega))
def f3 (a b c : Nat) : Nat → Nat
  | 0 => a
  | 1 => b
  | 2 => c
  | _ => 0
def f2 (a b : Nat) : Nat → Nat
  | 0 => a
  | 1 => b
  | _ => 0
theorem GN.gp3 (h : GN n G) {i x : Nat} (hi : i < n) (hx : x < n) : gpN G (f3 x i (ivN n G x)) 3 = cj n G i x := by
  show G (G (G 0 x) i) (ivN n G x) = _
  rw [h.l hx]; rfl
abbrev ccW (n : Nat) (G : Nat → Nat → Nat) (r : Nat) : Nat := clN n G (rpF n G r)
abbrev ccF (n : Nat) (G : Nat → Nat → Nat) (r z : Nat) : Int := ((clF n G (rpF n G r) z : Nat) : Int)
theorem mt_bools {V : Vw} {m : Nat} {f g : Nat → Bool} (h : ∀ z, z < m → g z = f z) : Mt V (.arr m (fun z => .bool (f z))) (.arr m (fun z => .bool (g z))) := ⟨rfl, fun z hz => congrArg AV.bool (h z hz)⟩
theorem met_t {i : Nat} (h : metF n G i i = true) (z : Nat) : metF n G (i + 1) z = metF n G i z := by
  show (if metF n G i i then metF n G i else fun j => metF n G i j || owF n G i n j) z = _
  rw [if_pos h]
theorem met_f {i : Nat} (h : metF n G i i = false) (z : Nat) : metF n G (i + 1) z = (metF n G i z || owF n G i n z) := by
  show (if metF n G i i then metF n G i else fun j => metF n G i j || owF n G i n j) z = _
  rw [if_neg (by simp [h])]
def metG (n : Nat) (G : Nat → Nat → Nat) (i j z : Nat) : Bool := metF n G i z || (decide (z < j) && owF n G i n z)
theorem metG_0 {i z : Nat} : metF n G i z = metG n G i 0 z := by unfold metG; simp
theorem GN.metG_n (h : GN n G) {i z : Nat} (hi : i < n) (hm : metF n G i i = false) : metG n G i n z = metF n G (i + 1) z := by
  rw [met_f hm]
  unfold metG
  cases ho : owF n G i n z with
  | false => simp
  | true => simp [h.own_lt hi ho]
def updB (f : Nat → Bool) (j : Nat) (b : Bool) (i : Nat) : Bool := if i = j then b else f i
theorem metG_t {i j : Nat} (ho : owF n G i n j = true) (z : Nat) : updB (metG n G i j) j true z = metG n G i (j + 1) z := by
  unfold updB metG
  by_cases e : z = j
  · subst e; simp [ho]
  · rw [if_neg e, decide_eq_decide.2 (show z < j ↔ z < j + 1 by omega)]
theorem metG_f {i j : Nat} (ho : owF n G i n j = false) (z : Nat) : metG n G i j z = metG n G i (j + 1) z := by
  unfold metG
  by_cases e : z = j
  · subst e; simp [ho]
  · rw [decide_eq_decide.2 (show z < j ↔ z < j + 1 by omega)]
theorem put_bools {m j : Nat} {f : Nat → Bool} {b : Bool} : put (.arr m (fun i => .bool (f i))) [j] (.bool b) = .arr m (fun i => .bool (updB f j b i)) := by
  simp only [put, AV.arr.injEq, true_and]
  funext i
  unfold updB
  by_cases h : i = j
  · subst h; simp [put]
  · simp [beq_ff h, h]
end
theorem nr_grp {n : Int} {G : Nat → Nat → Nat} : (grpA n G).noref := by
  intro i
  match i with
  | 0 => exact trivial
  | 1 => exact fun _ _ => trivial
  | n + 2 => exact trivial
theorem shift_grp {b : Nat} {n : Int} {G : Nat → Nat → Nat} : shift b (grpA n G) = grpA n G := grpF_congr rfl rfl (fun _ => rfl)
theorem GN.wle2 {n : Nat} {G : Nat → Nat → Nat} (h : GN n G) (r : Nat) : ccW n G r ≤ 100 := Nat.le_trans (h.wle r) (by decide)
section
variable {P : Program} {T : TT} {all : Array Oper} {r : List Oper} {R : Env → OL → Prop} {ty : TypeId} {pos : String} {af : Array Edge} {x y : Operand} {t : TypeId} {env : Env} {ol : OL}
theorem w_stb {k i o j n : Nat} {sh root : AV} {f : Nat → Bool} {z : Bool} (hx : evE env x = .ptr k i [j] o root) (hy : evE env y = .bool z) (hk : (T.und t).known = true) (ho : ol.at_ k i = some (sh, .arr n (fun i => .bool (f i)))) (hs : ssh (sub root [j]) (.bool z)) (hz : 1 = T.sz t)
    (hr : WOps P T all r env (ol.set k i (some (sh, .arr n (fun i => .bool (updB f j z i))))) R) : WOps P T all (⟨none, .store t x y, ty, pos, af, none⟩ :: r) env ol R :=
  w_store hx hy hk ho trivial hs hz (by rw [put_bools]) hr
end
end Go.Am

set_option linter.unusedVariables false
set_option linter.unusedSimpArgs false
namespace Go.Am
section
variable {n : Nat} {G : Nat → Nat → Nat}
end
end Go.Am

set_option linter.unusedVariables false
set_option linter.unusedSimpArgs false
namespace Go.Am
def dskF (A v w : AV) (s : ByteArray) : Nat → AV
  | 0 => A
  | 1 => v
  | 2 => w
  | 3 => .strg s
  | _ => .any
abbrev dskA (p n : Int) (T : T3) (fo v w : Nat → Int) (s : ByteArray) : AV := .sct 4 (dskF (algA p n T fo) (vecA v) (vecA w) s)
section
variable {p n p' n' : Int} {T T' : T3} {fo fo' v v' w w' : Nat → Int} {s s' : ByteArray} {V : Vw}
theorem ssh_dsk : ssh (dskA p n T fo v w s) (dskA p' n' T' fo' v' w' s') := by
  refine ⟨rfl, fun i => ?_⟩
  match i with
  | 0 => exact ssh_alg
  | 1 => exact ssh_vec
  | 2 => exact ssh_vec
  | 3 => exact trivial
  | n + 4 => exact trivial
variable {at_ : Nat → Nat → Option (AV × AV)} {d : Nat}
end
end Go.Am

