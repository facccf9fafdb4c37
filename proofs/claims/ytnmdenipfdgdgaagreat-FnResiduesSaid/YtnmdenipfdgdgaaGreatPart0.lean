/- Part 0 of what the law stands on: abstract values, their walk, contracts of functions. My own work. Conditions: none. -/
import Derived.Laws.AppendOwn
import Derived.Laws.OwnMore
import Derived.Orders
import Derived.Tactics
import Derived.Below
import Derived.Laws.Entries
import Derived.Laws.StructEq
import Derived.Laws.Strings
import Derived.Laws.IdiomStrings
import Derived.Laws.BytesArg
import Derived.Laws.MakeOwn
set_option linter.unusedVariables false
set_option linter.unusedSimpArgs false
set_option linter.unusedSectionVars false
namespace Go.Am
inductive AV where
  | any
  | int (k : IntKind) (n : Int)
  | bool (b : Bool)
  | strg (s : ByteArray)
  | arr (n : Nat) (f : Nat → AV)
  | sct (n : Nat) (f : Nat → AV)
  | tup (n : Nat) (f : Nat → AV)
  | ptr (k i : Nat) (path : List Nat) (off : Nat) (root : AV)
  | own (k i : Nat) (n : Nat) (e : TypeId)
  | cptr (v : AV)
  | ro (n : Nat) (f : Nat → AV)
  | nilsl
  | fn (g : FuncId) (n : Nat) (caps : Nat → AV)
def AV.isAgg : AV → Bool
  | .arr _ _ => true
  | .sct _ _ => true
  | _ => false
def sumTo (g : Nat → Nat) : Nat → Nat
  | 0 => 0
  | n + 1 => sumTo g n + g n
def AV.size : AV → Nat
  | .arr n f => n * (f 0).size
  | .sct n f => sumTo (fun i => (f i).size) n
  | _ => 1
def flat (g : Nat → List Value) : Nat → List Value
  | 0 => []
  | n + 1 => flat g n ++ g n
theorem flat_len (g : Nat → List Value) (n : Nat) : (flat g n).length = sumTo (fun i => (g i).length) n := by
  induction n with
  | zero => rfl
  | succ n ih => simp [flat, sumTo, ih]
theorem sumTo_congr {f g : Nat → Nat} {n : Nat} (h : ∀ i, i < n → f i = g i) : sumTo f n = sumTo g n := by
  induction n with
  | zero => rfl
  | succ n ih => simp only [sumTo]; rw [ih (fun i hi => h i (by omega)), h n (by omega)]
theorem sumTo_const (s n : Nat) : sumTo (fun _ => s) n = n * s := by
  induction n with
  | zero => simp [sumTo]
  | succ n ih => simp only [sumTo, ih]; rw [Nat.add_mul]; omega
theorem flat_congr {f g : Nat → List Value} {n : Nat} (h : ∀ i, i < n → f i = g i) : flat f n = flat g n := by
  induction n with
  | zero => rfl
  | succ n ih => simp only [flat]; rw [ih (fun i hi => h i (by omega)), h n (by omega)]
theorem beq_ff {j i : Nat} (h : j ≠ i) : Nat.beq j i = false := by
  cases hb : Nat.beq j i
  · rfl
  · exact absurd (Nat.eq_of_beq_eq_true hb) h
theorem flat_split (g : Nat → List Value) {i n : Nat} (h : i < n) :
    ∃ post, flat g n = flat g i ++ (g i ++ post) ∧ ∀ x, flat (fun j => bif Nat.beq j i then x else g j) n = flat g i ++ (x ++ post) := by
  induction n with
  | zero => omega
  | succ n ih =>
    by_cases hi : i = n
    · subst hi
      refine ⟨[], by simp [flat], fun x => ?_⟩
      simp only [flat, List.append_nil]
      rw [flat_congr (g := g) (fun j hj => by
        have : Nat.beq j i = false := beq_ff (by omega)
        simp [this])]
      simp
    · obtain ⟨post, h1, h2⟩ := ih (by omega)
      refine ⟨post ++ g n, by simp [flat, h1], fun x => ?_⟩
      simp only [flat]
      rw [h2 x]
      have : Nat.beq n i = false := beq_ff (by omega)
      simp [this]
structure Kx where
  heap : Array Obj
  J : Nat → Prop
  dom : Nat → Prop
  blk : Nat → Nat → Nat
  shp : Nat → Nat → AV
  sz : TypeId → Nat
  zr : TypeId → AV
def offs : Nat → AV → List Nat → Nat
  | acc, _, [] => acc
  | acc, .arr _ f, i :: p => offs (acc + i * (f 0).size) (f i) p
  | acc, .sct _ f, i :: p => offs (acc + sumTo (fun j => (f j).size) i) (f i) p
  | acc, _, _ :: _ => acc
def valid : AV → List Nat → Prop
  | _, [] => True
  | .arr n f, i :: p => i < n ∧ (f i).size = (f 0).size ∧ valid (f i) p
  | .sct n f, i :: p => i < n ∧ valid (f i) p
  | _, _ :: _ => False
def sub : AV → List Nat → AV
  | v, [] => v
  | .arr _ f, i :: p => sub (f i) p
  | .sct _ f, i :: p => sub (f i) p
  | _, _ :: _ => .any
def put : AV → List Nat → AV → AV
  | _, [], v => v
  | .arr n f, i :: p, v => .arr n (fun j => bif Nat.beq j i then put (f i) p v else f j)
  | .sct n f, i :: p, v => .sct n (fun j => bif Nat.beq j i then put (f i) p v else f j)
  | w, _ :: _, _ => w
def Kx.seg (K : Kx) (b o : Nat) (seg : List Value) : Prop :=
  ∃ cur e fr, K.heap[b]? = some (.cells cur e fr) ∧ ∀ (j : Nat) (x : Value), seg[j]? = some x → cur[o + j]? = some x
def Kx.ownR (K : Kx) (k i n : Nat) (e : TypeId) (c : Value) : Prop :=
  K.dom k ∧ K.shp k i = .arr n (fun _ => K.zr e) ∧ ∃ cap cur fr, c = .slice (some ⟨K.blk k i, 0, none⟩) n cap ∧ n ≤ cap ∧ cap ≤ maxLen ∧
    K.heap[K.blk k i]? = some (.cells cur e fr) ∧ cur.size = cap * K.sz e
def Kx.ptrR (K : Kx) (k i : Nat) (path : List Nat) (off : Nat) (root : AV) (c : Value) : Prop :=
  K.dom k ∧ c = .pointer (some ⟨K.blk k i, off, none⟩) ∧ off = offs 0 root path ∧ valid root path ∧ root = K.shp k i
def FL (K : Kx) : AV → List Value → Prop
  | .any, cs => ∃ c, cs = [c] ∧ c.oneCell' = true
  | .int k n, cs => cs = [.int k n]
  | .bool b, cs => cs = [.bool b]
  | .strg s, cs => cs = [.string s]
  | .arr n f, cs => ∃ g, cs = flat g n ∧ ∀ i, i < n → FL K (f i) (g i) ∧ (g i).length = (f 0).size
  | .sct n f, cs => ∃ g, cs = flat g n ∧ ∀ i, i < n → FL K (f i) (g i)
  | .own k i n e, cs => ∃ c, cs = [c] ∧ K.ownR k i n e c
  | .cptr v, cs => ∃ b o seg, cs = [.pointer (some ⟨b, o, none⟩)] ∧ K.J b ∧ FL K v seg ∧ K.seg b o seg
  | .ro n f, cs => ∃ A cap, cs = [.slice A n cap] ∧ n ≤ cap ∧ cap ≤ maxLen ∧
      (n = 0 ∨ ∃ b o g, A = some ⟨b, o, none⟩ ∧ K.J b ∧ K.seg b o (flat g n) ∧ ∀ i, i < n → FL K (f i) (g i) ∧ (g i).length = (f 0).size)
  | .nilsl, cs => cs = [.slice none 0 0]
  | .fn q n caps, cs => ∃ cv : Array Value, cs = [.func (.func q) #[] cv] ∧ cv.size = n ∧ ∀ i, i < n → (caps i).isAgg = false ∧ FL K (caps i) [cv.getD i undef]
  | .tup _ _, _ => False
  | .ptr _ _ _ _ _, _ => False
def VR (K : Kx) : AV → Value → Prop
  | .any, _ => True
  | .arr n f, c => ∃ cs : Array Value, c = .agg cs ∧ FL K (.arr n f) cs.toList
  | .sct n f, c => ∃ cs : Array Value, c = .agg cs ∧ FL K (.sct n f) cs.toList
  | .tup n f, c => ∃ vs : Array Value, c = .tuple vs ∧ vs.size = n ∧ ∀ i, i < n → VR K (f i) (vs.getD i undef)
  | .ptr k i path off root, c => K.ptrR k i path off root c
  | .fn q n caps, c => ∃ cv : Array Value, c = .func (.func q) #[] cv ∧ cv.size = n ∧ ∀ i, i < n → VR K (caps i) (cv.getD i undef)
  | .int k n, c => FL K (.int k n) [c]
  | .bool b, c => FL K (.bool b) [c]
  | .strg s, c => FL K (.strg s) [c]
  | .own k i n e, c => FL K (.own k i n e) [c]
  | .cptr v, c => FL K (.cptr v) [c]
  | .ro n f, c => FL K (.ro n f) [c]
  | .nilsl, c => FL K .nilsl [c]
theorem FL_len {K : Kx} : ∀ {v : AV} {cs : List Value}, FL K v cs → cs.length = v.size := by
  intro v
  induction v with
  | arr n f ih =>
    intro cs h
    obtain ⟨g, rfl, hg⟩ := h
    rw [flat_len, sumTo_congr (g := fun _ => (f 0).size) (fun i hi => (hg i hi).2), sumTo_const]
    rfl
  | sct n f ih =>
    intro cs h
    obtain ⟨g, rfl, hg⟩ := h
    rw [flat_len, sumTo_congr (g := fun i => (f i).size) (fun i hi => ih i (hg i hi))]
    rfl
  | any => rintro cs ⟨c, rfl, _⟩; rfl
  | int k n => rintro cs rfl; rfl
  | bool b => rintro cs rfl; rfl
  | strg s => rintro cs rfl; rfl
  | nilsl => rintro cs rfl; rfl
  | own k i n e => rintro cs ⟨c, rfl, _⟩; rfl
  | cptr v => rintro cs ⟨b, o, seg, rfl, _⟩; rfl
  | ro n f => rintro cs ⟨A, cap, rfl, _⟩; rfl
  | fn q n caps => rintro cs ⟨cv, rfl, _⟩; rfl
  | tup n f => intro cs h; exact h.elim
  | ptr k i path off root => intro cs h; exact h.elim
theorem mem_flat {g : Nat → List Value} {n : Nat} {u : Value} (h : u ∈ flat g n) : ∃ i, i < n ∧ u ∈ g i := by
  induction n with
  | zero => simp [flat] at h
  | succ n ih =>
    simp only [flat, List.mem_append] at h
    rcases h with h | h
    · obtain ⟨i, hi, hu⟩ := ih h
      exact ⟨i, by omega, hu⟩
    · exact ⟨n, by omega, h⟩
theorem FL_one {K : Kx} : ∀ {v : AV} {cs : List Value}, FL K v cs → ∀ u ∈ cs, u.oneCell' = true := by
  intro v
  induction v with
  | arr n f ih =>
    intro cs h u hu
    obtain ⟨g, rfl, hg⟩ := h
    obtain ⟨i, hi, hm⟩ := mem_flat hu
    exact ih i (hg i hi).1 u hm
  | sct n f ih =>
    intro cs h u hu
    obtain ⟨g, rfl, hg⟩ := h
    obtain ⟨i, hi, hm⟩ := mem_flat hu
    exact ih i (hg i hi) u hm
  | any => rintro cs ⟨c, rfl, hc⟩ u hu; simp at hu; subst hu; exact hc
  | int k n => rintro cs rfl u hu; simp at hu; subst hu; rfl
  | bool b => rintro cs rfl u hu; simp at hu; subst hu; rfl
  | strg s => rintro cs rfl u hu; simp at hu; subst hu; rfl
  | nilsl => rintro cs rfl u hu; simp at hu; subst hu; rfl
  | own k i n e => rintro cs ⟨c, rfl, _, _, cap, cur, fr, rfl, _⟩ u hu; simp at hu; subst hu; rfl
  | cptr v => rintro cs ⟨b, o, seg, rfl, _⟩ u hu; simp at hu; subst hu; rfl
  | ro n f => rintro cs ⟨A, cap, rfl, _⟩ u hu; simp at hu; subst hu; rfl
  | fn q n caps => rintro cs ⟨cv, rfl, _⟩ u hu; simp at hu; subst hu; rfl
  | tup n f => intro cs h; exact h.elim
  | ptr k i path off root => intro cs h; exact h.elim
structure Le (K K' : Kx) : Prop where
  J : ∀ b, K.J b → K'.J b ∧ K'.heap[b]? = K.heap[b]?
  dom : ∀ k, K.dom k → K'.dom k
  blk : ∀ k i, K.dom k → K'.blk k i = K.blk k i ∧ K'.shp k i = K.shp k i
  size : ∀ (b : Nat) cur e fr, K.heap[b]? = some (.cells cur e fr) → ∃ cur' fr', K'.heap[b]? = some (.cells cur' e fr') ∧ cur'.size = cur.size
  sz : K'.sz = K.sz
  zr : K'.zr = K.zr
theorem Le.refl (K : Kx) : Le K K := ⟨fun _ h => ⟨h, rfl⟩, fun _ h => h, fun _ _ _ => ⟨rfl, rfl⟩, fun _ cur _ fr h => ⟨cur, fr, h, rfl⟩, rfl, rfl⟩
theorem Le.trans {A B C : Kx} (h : Le A B) (k : Le B C) : Le A C :=
  ⟨fun b hb => ⟨(k.J b (h.J b hb).1).1, ((k.J b (h.J b hb).1).2).trans (h.J b hb).2⟩, fun i hi => k.dom i (h.dom i hi),
   fun i j hi => ⟨((k.blk i j (h.dom i hi)).1).trans (h.blk i j hi).1, ((k.blk i j (h.dom i hi)).2).trans (h.blk i j hi).2⟩, fun b cur e fr hb => by
     obtain ⟨c1, f1, h1, e1⟩ := h.size b cur e fr hb
     obtain ⟨c2, f2, h2, e2⟩ := k.size b c1 e f1 h1
     exact ⟨c2, f2, h2, e2.trans e1⟩, k.sz.trans h.sz, k.zr.trans h.zr⟩
theorem Kx.seg_mono {K K' : Kx} (h : Le K K') {b o : Nat} {s : List Value} (hJ : K.J b) (hs : K.seg b o s) : K'.seg b o s := by
  obtain ⟨cur, e, fr, h1, h2⟩ := hs
  exact ⟨cur, e, fr, (h.J b hJ).2.trans h1, h2⟩
theorem Kx.ownR_mono {K K' : Kx} (h : Le K K') {k i n : Nat} {e : TypeId} {c : Value} (hs : K.ownR k i n e c) : K'.ownR k i n e c := by
  obtain ⟨hd, hn, cap, cur, fr, rfl, h1, h2, h3, h4⟩ := hs
  obtain ⟨cur', fr', h5, h6⟩ := h.size _ _ _ _ h3
  exact ⟨h.dom _ hd, by rw [(h.blk _ _ hd).2, h.zr]; exact hn, cap, cur', fr', by rw [(h.blk _ _ hd).1], h1, h2, by rw [(h.blk _ _ hd).1]; exact h5, by rw [h6, h4, h.sz]⟩
theorem FL_mono {K K' : Kx} (h : Le K K') : ∀ {v : AV} {cs : List Value}, FL K v cs → FL K' v cs := by
  intro v
  induction v with
  | arr n f ih =>
    rintro cs ⟨g, rfl, hg⟩
    exact ⟨g, rfl, fun i hi => ⟨ih i (hg i hi).1, (hg i hi).2⟩⟩
  | sct n f ih =>
    rintro cs ⟨g, rfl, hg⟩
    exact ⟨g, rfl, fun i hi => ih i (hg i hi)⟩
  | own k i n e => rintro cs ⟨c, rfl, hc⟩; exact ⟨c, rfl, Kx.ownR_mono h hc⟩
  | cptr v ih => rintro cs ⟨b, o, seg, rfl, hJ, hv, hs⟩; exact ⟨b, o, seg, rfl, (h.J b hJ).1, ih hv, Kx.seg_mono h hJ hs⟩
  | ro n f ih =>
    rintro cs ⟨A, cap, rfl, h1, h2, h3⟩
    refine ⟨A, cap, rfl, h1, h2, ?_⟩
    rcases h3 with h3 | ⟨b, o, g, hA, hJ, hs, hg⟩
    · exact .inl h3
    · exact .inr ⟨b, o, g, hA, (h.J b hJ).1, Kx.seg_mono h hJ hs, fun i hi => ⟨ih i (hg i hi).1, (hg i hi).2⟩⟩
  | fn q n caps ih => rintro cs ⟨cv, rfl, h1, h2⟩; exact ⟨cv, rfl, h1, fun i hi => ⟨(h2 i hi).1, ih i (h2 i hi).2⟩⟩
  | _ => intro cs h; exact h
theorem VR_mono {K K' : Kx} (h : Le K K') : ∀ {v : AV} {c : Value}, VR K v c → VR K' v c := by
  intro v
  induction v with
  | arr n f ih => rintro c ⟨cs, rfl, hc⟩; exact ⟨cs, rfl, FL_mono h hc⟩
  | sct n f ih => rintro c ⟨cs, rfl, hc⟩; exact ⟨cs, rfl, FL_mono h hc⟩
  | tup n f ih => rintro c ⟨vs, rfl, h1, h2⟩; exact ⟨vs, rfl, h1, fun i hi => ih i (h2 i hi)⟩
  | fn q n caps ih => rintro c ⟨cv, rfl, h1, h2⟩; exact ⟨cv, rfl, h1, fun i hi => ih i (h2 i hi)⟩
  | ptr k i path off root => rintro c ⟨hd, rfl, h1, h2, h3⟩; exact ⟨h.dom _ hd, by rw [(h.blk _ _ hd).1], h1, h2, by rw [(h.blk _ _ hd).2]; exact h3⟩
  | any => intro c _; trivial
  | _ => intro c hc; exact FL_mono h hc
def ssh : AV → AV → Prop
  | .arr n f, w => match w with | .arr m g => n = m ∧ ∀ i, ssh (f i) (g i) | _ => False
  | .sct n f, w => match w with | .sct m g => n = m ∧ ∀ i, ssh (f i) (g i) | _ => False
  | .tup _ _, _ => False
  | _, w => match w with | .arr _ _ => False | .sct _ _ => False | .tup _ _ => False | _ => True
theorem ssh_size : ∀ {v w : AV}, ssh v w → v.size = w.size := by
  intro v
  induction v with
  | arr n f ih =>
    intro w h
    cases w <;> simp only [ssh] at h
    obtain ⟨rfl, h⟩ := h
    simp only [AV.size]; rw [ih 0 (h 0)]
  | sct n f ih =>
    intro w h
    cases w <;> simp only [ssh] at h
    obtain ⟨rfl, h⟩ := h
    simp only [AV.size]; exact sumTo_congr fun i _ => ih i (h i)
  | tup n f ih => intro w h; exact h.elim
  | _ => intro w h; cases w <;> simp only [ssh] at h <;> rfl
theorem ssh_path : ∀ (path : List Nat) {r c : AV} (acc : Nat), ssh r c → valid r path →
    valid c path ∧ offs acc r path = offs acc c path ∧ ssh (sub r path) (sub c path) ∧ ∀ v, ssh (sub r path) v → ssh r (put c path v) := by
  intro path
  induction path with
  | nil => intro r c acc h _; cases r <;> cases c <;> exact ⟨trivial, rfl, h, fun v hv => hv⟩
  | cons i p ih =>
    intro r c acc h hv
    cases r with
    | arr n f =>
      cases c <;> simp only [ssh] at h
      rename_i m g
      obtain ⟨rfl, h⟩ := h
      obtain ⟨h1, h2, h3⟩ := hv
      obtain ⟨k1, k2, k3, k4⟩ := ih (acc + i * (f 0).size) (h i) h3
      refine ⟨⟨h1, by rw [← ssh_size (h i), ← ssh_size (h 0)]; exact h2, k1⟩, ?_, k3, fun v hv => ⟨rfl, fun j => ?_⟩⟩
      · simp only [offs]; rw [k2, ssh_size (h 0)]
      · dsimp only
        cases hj : Nat.beq j i
        · exact h j
        · show ssh _ (put _ _ _)
          have : j = i := Nat.eq_of_beq_eq_true hj
          subst this
          exact k4 v hv
    | sct n f =>
      cases c <;> simp only [ssh] at h
      rename_i m g
      obtain ⟨rfl, h⟩ := h
      obtain ⟨h1, h3⟩ := hv
      obtain ⟨k1, k2, k3, k4⟩ := ih (acc + sumTo (fun j => (f j).size) i) (h i) h3
      refine ⟨⟨h1, k1⟩, ?_, k3, fun v hv => ⟨rfl, fun j => ?_⟩⟩
      · simp only [offs]; rw [k2, sumTo_congr fun j _ => ssh_size (h j)]
      · dsimp only
        cases hj : Nat.beq j i
        · exact h j
        · show ssh _ (put _ _ _)
          have : j = i := Nat.eq_of_beq_eq_true hj
          subst this
          exact k4 v hv
    | _ => exact hv.elim
theorem FL_dec {K : Kx} : ∀ (path : List Nat) {c : AV} {cs : List Value} (acc : Nat), FL K c cs → valid c path →
    ∃ pre seg post, cs = pre ++ (seg ++ post) ∧ offs acc c path = acc + pre.length ∧ FL K (sub c path) seg ∧
      ∀ v seg', ssh (sub c path) v → FL K v seg' → FL K (put c path v) (pre ++ (seg' ++ post)) := by
  intro path
  induction path with
  | nil =>
    intro c cs acc h _
    refine ⟨[], cs, [], by simp, ?_, ?_, fun v seg' _ hv => ?_⟩
    · cases c <;> rfl
    · cases c <;> exact h
    · cases c <;> simpa [put] using hv
  | cons i p ih =>
    intro c cs acc h hv
    cases c with
    | arr n f =>
      obtain ⟨g, rfl, hg⟩ := h
      obtain ⟨h1, h2, h3⟩ := hv
      obtain ⟨pre, seg, post, k1, k2, k3, k4⟩ := ih (acc + i * (f 0).size) (hg i h1).1 h3
      obtain ⟨post', q1, q2⟩ := flat_split g h1
      have hl : (flat g i).length = i * (f 0).size := by
        rw [flat_len, sumTo_congr (g := fun _ => (f 0).size) (fun j hj => (hg j (by omega)).2), sumTo_const]
      refine ⟨flat g i ++ pre, seg, post ++ post', ?_, ?_, k3, fun v seg' hv hs => ?_⟩
      · rw [q1, k1]; simp
      · simp only [offs]; rw [k2, List.length_append, hl]; omega
      · have hnew := k4 v seg' hv hs
        have hlen : (pre ++ (seg' ++ post)).length = (f 0).size := by
          rw [FL_len hnew, ← (hg i h1).2, FL_len (hg i h1).1]
          have hss : ∀ (path : List Nat) (c v : AV), valid c path → ssh (sub c path) v → (put c path v).size = c.size := by
            intro path
            induction path with
            | nil => intro c v _ hv; cases c <;> exact (ssh_size hv).symm
            | cons j q ihq =>
              intro c v hvv hv
              cases c with
              | arr m u =>
                obtain ⟨a1, a2, a3⟩ := hvv
                simp only [put, AV.size]
                cases hj : Nat.beq 0 j
                · rfl
                · have : 0 = j := Nat.eq_of_beq_eq_true hj
                  subst this
                  simp only [cond_true]
                  rw [ihq _ _ a3 hv]
              | sct m u =>
                obtain ⟨a1, a3⟩ := hvv
                simp only [put, AV.size]
                refine sumTo_congr fun t _ => ?_
                cases hj : Nat.beq t j
                · rfl
                · have : t = j := Nat.eq_of_beq_eq_true hj
                  subst this
                  simp only [cond_true]
                  rw [ihq _ _ a3 hv]
              | _ => exact hvv.elim
          exact hss p (f i) v h3 hv
        refine ⟨fun j => bif Nat.beq j i then pre ++ (seg' ++ post) else g j, by rw [q2]; simp, fun j hj => ?_⟩
        have hz : (bif Nat.beq 0 i then put (f i) p v else f 0).size = (f 0).size := by
          cases h0 : Nat.beq 0 i
          · rfl
          · have : 0 = i := Nat.eq_of_beq_eq_true h0
            subst this
            simp only [cond_true]
            rw [← FL_len hnew]; exact hlen
        dsimp only
        cases hji : Nat.beq j i
        · exact ⟨(hg j hj).1, by rw [hz]; exact (hg j hj).2⟩
        · have : j = i := Nat.eq_of_beq_eq_true hji
          subst this
          exact ⟨hnew, by rw [hz]; exact hlen⟩
    | sct n f =>
      obtain ⟨g, rfl, hg⟩ := h
      obtain ⟨h1, h3⟩ := hv
      obtain ⟨pre, seg, post, k1, k2, k3, k4⟩ := ih (acc + sumTo (fun j => (f j).size) i) (hg i h1) h3
      obtain ⟨post', q1, q2⟩ := flat_split g h1
      have hl : (flat g i).length = sumTo (fun j => (f j).size) i := by
        rw [flat_len]; exact sumTo_congr fun j hj => FL_len (hg j (by omega))
      refine ⟨flat g i ++ pre, seg, post ++ post', ?_, ?_, k3, fun v seg' hv hs => ?_⟩
      · rw [q1, k1]; simp
      · simp only [offs]; rw [k2, List.length_append, hl]; omega
      · have hnew := k4 v seg' hv hs
        refine ⟨fun j => bif Nat.beq j i then pre ++ (seg' ++ post) else g j, by rw [q2]; simp, fun j hj => ?_⟩
        dsimp only
        cases hji : Nat.beq j i
        · exact hg j hj
        · have : j = i := Nat.eq_of_beq_eq_true hji
          subst this
          exact hnew
    | _ => exact hv.elim
end Go.Am

namespace Go.Am
structure Ob where
  at_ : Nat → Nat → Option (AV × AV)
  has : Nat → Bool
inductive Fam where
  | one (sh c : AV)
  | gone
  | many (f : Nat → Option (AV × AV))
def Fam.at_ : Fam → Nat → Option (AV × AV)
  | .one sh c, i => bif Nat.beq i 0 then some (sh, c) else none
  | .gone, _ => none
  | .many f, i => f i
def Fam.set (F : Fam) (i : Nat) (x : Option (AV × AV)) : Fam :=
  match F, x with
  | .one sh c, some p => bif Nat.beq i 0 then .one p.1 p.2 else .many (fun j => bif Nat.beq j i then x else Fam.at_ (.one sh c) j)
  | .one sh c, none => bif Nat.beq i 0 then .gone else .many (fun j => bif Nat.beq j i then x else Fam.at_ (.one sh c) j)
  | F, x => .many (fun j => bif Nat.beq j i then x else F.at_ j)
theorem Fam.at_set (F : Fam) (i : Nat) (x : Option (AV × AV)) (j : Nat) : (F.set i x).at_ j = bif Nat.beq j i then x else F.at_ j := by
  cases F with
  | one sh c =>
    cases x with
    | none =>
      simp only [Fam.set]
      cases h : Nat.beq i 0
      · rfl
      · have : i = 0 := Nat.eq_of_beq_eq_true h
        subst this
        simp only [cond_true, Fam.at_]
        cases Nat.beq j 0 <;> rfl
    | some p =>
      simp only [Fam.set]
      cases h : Nat.beq i 0
      · rfl
      · have : i = 0 := Nat.eq_of_beq_eq_true h
        subst this
        simp only [cond_true, Fam.at_]
        cases Nat.beq j 0 <;> rfl
  | gone => cases x <;> rfl
  | many f => cases x <;> rfl
abbrev OL := List (Nat × Fam)
def OL.at_ : OL → Nat → Nat → Option (AV × AV)
  | [], _, _ => none
  | (k', F) :: r, k, i => bif Nat.beq k k' then F.at_ i else OL.at_ r k i
def OL.has : OL → Nat → Bool
  | [], _ => false
  | (k', _) :: r, k => bif Nat.beq k k' then true else OL.has r k
def OL.fam : OL → Nat → Fam
  | [], _ => .gone
  | (k', F) :: r, k => bif Nat.beq k k' then F else OL.fam r k
def OL.ob (l : OL) : Ob := ⟨l.at_, l.has⟩
theorem OL.at_fam (l : OL) (k i : Nat) : l.at_ k i = (l.fam k).at_ i := by
  induction l with
  | nil => rfl
  | cons p r ih =>
    obtain ⟨k', F⟩ := p
    simp only [OL.at_, OL.fam]
    cases Nat.beq k k'
    · exact ih
    · rfl
theorem OL.has_of_at {l : OL} {k i : Nat} (h : l.at_ k i ≠ none) : l.has k = true := by
  induction l with
  | nil => exact absurd rfl h
  | cons p r ih =>
    obtain ⟨k', F⟩ := p
    simp only [OL.at_, OL.has] at *
    cases hb : Nat.beq k k'
    · rw [hb] at h; exact ih h
    · rfl
def OL.set (l : OL) (k i : Nat) (x : Option (AV × AV)) : OL := (k, (l.fam k).set i x) :: l
theorem OL.at_set (l : OL) (k i : Nat) (x : Option (AV × AV)) (k' i' : Nat) :
    (l.set k i x).at_ k' i' = if k' = k ∧ i' = i then x else l.at_ k' i' := by
  simp only [OL.set, OL.at_]
  cases hb : Nat.beq k' k
  · have : k' ≠ k := fun h => by subst h; simp at hb
    simp [this]
  · have : k' = k := Nat.eq_of_beq_eq_true hb
    subst this
    simp only [cond_true, Fam.at_set, true_and]
    cases hi : Nat.beq i' i
    · have : i' ≠ i := fun h => by subst h; simp at hi
      simp [this, OL.at_fam]
    · have : i' = i := Nat.eq_of_beq_eq_true hi
      simp [this]
theorem OL.has_set (l : OL) (k i : Nat) (x : Option (AV × AV)) (k' : Nat) : (l.set k i x).has k' = (l.has k' || Nat.beq k' k) := by
  simp only [OL.set, OL.has]
  cases Nat.beq k' k <;> simp
theorem OL.at_append (a b : OL) (k i : Nat) : (a ++ b).at_ k i = if a.has k = true then a.at_ k i else b.at_ k i := by
  induction a with
  | nil => simp [OL.has]
  | cons p r ih =>
    obtain ⟨k', F⟩ := p
    simp only [List.cons_append, OL.at_, OL.has]
    by_cases hk : k = k'
    · subst hk; simp
    · simp only [beq_ff hk, cond_false]; exact ih
theorem OL.has_append (a b : OL) (k : Nat) : (a ++ b).has k = (a.has k || b.has k) := by
  induction a with
  | nil => simp [OL.has]
  | cons p r ih =>
    obtain ⟨k', F⟩ := p
    simp only [List.cons_append, OL.has]
    cases Nat.beq k k'
    · exact ih
    · simp
def Ob.ext (A : Ob) (o : Ob) : Ob := ⟨fun k i => if A.has k = true then A.at_ k i else o.at_ k i, fun k => A.has k || o.has k⟩
theorem OL.ob_append (a b : OL) : (a ++ b).ob = a.ob.ext b.ob := by
  simp only [OL.ob, Ob.ext]
  congr 1
  · funext k i; exact OL.at_append a b k i
  · funext k; exact OL.has_append a b k
inductive TD where
  | other
  | bool
  | int (k : IntKind)
  | str
  | ptr (e : TypeId)
  | arr (n : Nat) (e : TypeId)
  | sct (fs : List (TypeId × Nat))
  | slc (e : TypeId)
  | fnc
def TD.known : TD → Bool
  | .other => false
  | _ => true
def TD.isAgg : TD → Bool
  | .arr _ _ => true
  | .sct _ => true
  | _ => false
structure TT where
  und : TypeId → TD
  sz : TypeId → Nat
  by_ : TypeId → Nat
  zero : TypeId → AV
def TD.ok (P : Program) (t : TypeId) : TD → Prop
  | .other => True
  | .bool => P.underlying t = some .bool
  | .int k => P.underlying t = some (.int k)
  | .str => P.underlying t = some .string
  | .ptr e => P.underlying t = some (.pointer e)
  | .arr n e => P.underlying t = some (.array n e)
  | .sct fs => ∃ flds : Array Field, P.underlying t = some (.struct flds) ∧ flds.toList.map (fun f => (f.type, f.offset)) = fs
  | .slc e => P.underlying t = some (.slice e)
  | .fnc => ∃ a b c, P.underlying t = some (.func a b c)
def plainT (T : TT) : Nat → TypeId → Bool
  | 0, _ => false
  | d + 1, t => match T.und t with
    | .int _ => true
    | .arr _ e => plainT T d e
    | .sct fs => fs.all fun f => plainT T d f.1
    | _ => false
structure TOk (P : Program) (T : TT) : Prop where
  seq : ∀ t fs, T.und t = .sct fs → plainT T 6 t = true → P.stoodInHeld t = false ∧ P.eqGuardType P.depth t = false
  und : ∀ t, (T.und t).ok P t
  one : ∀ t, (T.und t).known = true → (T.und t).isAgg = false → T.sz t = 1
  eqg : ∀ t n e k, T.und t = .arr n e → T.und e = .int k → P.eqGuardType P.depth t = false
  info : ∀ t, (T.und t).known = true → ∃ i z, P.info? t = some i ∧ i.size = T.sz t ∧ i.bytes = T.by_ t ∧ i.zero = some z ∧
    (∀ K, FL K (T.zero t) z.cells.toList) ∧ (T.zero t).isAgg = (T.und t).isAgg ∧ ((T.und t).isAgg = true → ∃ cs, z = .agg cs) ∧
    ssh (T.zero t) (T.zero t) ∧ (T.zero t).size = T.sz t ∧ 0 < T.sz t
structure Cx where
  P : Program
  T : TT
  w0 : World
  I : Nat → Prop
  M : Nat → Prop
structure Gh where
  blk : Nat → Nat → Nat
  shp : Nat → Nat → AV
def KK (X : Cx) (κ : Gh) (o : Ob) (w : World) : Kx where
  heap := w.heap
  J := fun b => (X.I b ∨ X.M b ∨ (X.w0.heap.size ≤ b ∧ b < w.heap.size)) ∧ ∀ k i, o.at_ k i ≠ none → κ.blk k i ≠ b
  dom := fun k => o.has k = true
  blk := κ.blk
  shp := κ.shp
  sz := X.T.sz
  zr := X.T.zero
structure Rel (X : Cx) (κ : Gh) (o : Ob) (w : World) : Prop where
  os : w.os = X.w0.os
  tape : w.tape = X.w0.tape
  output : w.output = X.w0.output
  size : X.w0.heap.size ≤ w.heap.size
  block : ∀ b, b < X.w0.heap.size → ¬ X.M b → w.heap[b]? = X.w0.heap[b]?
  live : ∀ k i sh c, o.at_ k i = some (sh, c) → ∃ cur e, w.heap[κ.blk k i]? = some (.cells cur e (0, 0)) ∧ c.size ≤ cur.size ∧
    FL (KK X κ o w) c (cur.toList.take c.size) ∧ ssh sh c ∧ sh = κ.shp k i ∧ (X.w0.heap.size ≤ κ.blk k i ∨ X.M (κ.blk k i)) ∧ ¬ X.I (κ.blk k i)
  inj : ∀ k i k' i', o.at_ k i ≠ none → o.at_ k' i' ≠ none → κ.blk k i = κ.blk k' i' → k = k' ∧ i = i'
  has : ∀ k i, o.at_ k i ≠ none → o.has k = true
  hI : ∀ b, X.I b → b < X.w0.heap.size ∧ ¬ X.M b
  hM : ∀ b, X.M b → b < X.w0.heap.size
theorem Rel.blk_lt {X : Cx} {κ : Gh} {o : Ob} {w : World} (h : Rel X κ o w) {k i : Nat} (hk : o.at_ k i ≠ none) : κ.blk k i < w.heap.size := by
  cases hc : o.at_ k i with
  | none => exact absurd hc hk
  | some p =>
    obtain ⟨cur, e, h1, _⟩ := h.live k i p.1 p.2 hc
    exact (Array.getElem?_eq_some_iff.1 h1).1
theorem Le.drew (X : Cx) (κ : Gh) (o : Ob) (w : World) : Le (KK X κ o w) (KK X κ o w.drew) := Le.refl _
theorem Rel.drew {X : Cx} {κ : Gh} {o : Ob} {w : World} (h : Rel X κ o w) : Rel X κ o w.drew :=
  ⟨h.os, h.tape, h.output, h.size, h.block, h.live, h.inj, h.has, h.hI, h.hM⟩
theorem Rel.J_lt {X : Cx} {κ : Gh} {o : Ob} {w : World} (h : Rel X κ o w) {b : Nat} (hb : (KK X κ o w).J b) : b < w.heap.size := by
  rcases hb.1 with h1 | h1 | h1
  · exact Nat.lt_of_lt_of_le (h.hI b h1).1 h.size
  · exact Nat.lt_of_lt_of_le (h.hM b h1) h.size
  · exact h1.2
theorem heap_alloc_lt (w : World) (x : Obj) {b : Nat} (hb : b < w.heap.size) : (w.alloc x).heap[b]? = w.heap[b]? := by
  show (w.heap.push x)[b]? = w.heap[b]?
  rw [Array.getElem?_push, if_neg (by omega)]
theorem size_alloc_eq (w : World) (x : Obj) : (w.alloc x).heap.size = w.heap.size + 1 := by
  show (w.heap.push x).size = _
  rw [Array.size_push]
theorem Le.step {X : Cx} {κ κ' : Gh} {o o' : Ob} {w w' : World}
    (hs : w.heap.size ≤ w'.heap.size)
    (hJ : ∀ b, (KK X κ o w).J b → w'.heap[b]? = w.heap[b]? ∧ ∀ k i, o'.at_ k i ≠ none → κ'.blk k i ≠ b)
    (hd : ∀ k, o.has k = true → o'.has k = true ∧ ∀ i, κ'.blk k i = κ.blk k i ∧ κ'.shp k i = κ.shp k i)
    (hsz : ∀ (b : Nat) cur e fr, w.heap[b]? = some (.cells cur e fr) → ∃ cur' fr', w'.heap[b]? = some (.cells cur' e fr') ∧ cur'.size = cur.size) :
    Le (KK X κ o w) (KK X κ' o' w') where
  J := fun b hb => by
    obtain ⟨h1, h2⟩ := hJ b hb
    refine ⟨⟨?_, h2⟩, h1⟩
    rcases hb.1 with h3 | h3 | h3
    · exact .inl h3
    · exact .inr (.inl h3)
    · exact .inr (.inr ⟨h3.1, by omega⟩)
  dom := fun k hk => (hd k hk).1
  blk := fun k i hk => (hd k hk).2 i
  size := hsz
  sz := rfl
  zr := rfl
theorem sizes_same {w w' : World} (h : ∀ b, b < w.heap.size → w'.heap[b]? = w.heap[b]?) (b : Nat) (cur : Array Value) (e : TypeId) (fr : Nat × Nat)
    (hb : w.heap[b]? = some (.cells cur e fr)) : ∃ cur' fr', w'.heap[b]? = some (.cells cur' e fr') ∧ cur'.size = cur.size :=
  ⟨cur, fr, (h b (Array.getElem?_eq_some_iff.1 hb).1).trans hb, rfl⟩
structure Gr (w w' : World) : Prop where
  os : w'.os = w.os
  tape : w'.tape = w.tape
  output : w'.output = w.output
  size : w.heap.size ≤ w'.heap.size
  block : ∀ b, b < w.heap.size → w'.heap[b]? = w.heap[b]?
theorem Gr.refl (w : World) : Gr w w := ⟨rfl, rfl, rfl, Nat.le_refl _, fun _ _ => rfl⟩
theorem Gr.alloc (w : World) (x : Obj) : Gr w (w.alloc x) :=
  ⟨rfl, rfl, rfl, by rw [size_alloc_eq]; omega, fun _ hb => heap_alloc_lt w x hb⟩
theorem Le.grow {X : Cx} {κ : Gh} {o : Ob} {w w' : World} (h : Rel X κ o w) (g : Gr w w') : Le (KK X κ o w) (KK X κ o w') :=
  Le.step g.size (fun b hb => ⟨g.block b (h.J_lt hb), hb.2⟩) (fun k hk => ⟨hk, fun _ => ⟨rfl, rfl⟩⟩) (sizes_same g.block)
theorem Rel.grow {X : Cx} {κ : Gh} {o : Ob} {w w' : World} (h : Rel X κ o w) (g : Gr w w') : Rel X κ o w' where
  os := g.os.trans h.os
  tape := g.tape.trans h.tape
  output := g.output.trans h.output
  size := Nat.le_trans h.size g.size
  block := fun b hb hM => (g.block b (Nat.lt_of_lt_of_le hb h.size)).trans (h.block b hb hM)
  live := fun k i sh c hc => by
    obtain ⟨cur, e, h1, h2, h3, h4⟩ := h.live k i sh c hc
    exact ⟨cur, e, (g.block _ (Array.getElem?_eq_some_iff.1 h1).1).trans h1, h2, FL_mono (Le.grow h g) h3, h4⟩
  inj := h.inj
  has := h.has
  hI := h.hI
  hM := h.hM
def Gh.set (κ : Gh) (k b : Nat) (n : AV) : Gh := ⟨fun k' i => bif Nat.beq k' k then b else κ.blk k' i, fun k' i => bif Nat.beq k' k then n else κ.shp k' i⟩
theorem Gh.set_blk (κ : Gh) (k b : Nat) (n : AV) (i : Nat) : (κ.set k b n).blk k i = b := by simp [Gh.set]
theorem Gh.set_shp (κ : Gh) (k b : Nat) (n : AV) (i : Nat) : (κ.set k b n).shp k i = n := by simp [Gh.set]
theorem Gh.set_blk_ne (κ : Gh) {k k' : Nat} (b : Nat) (n : AV) (i : Nat) (h : k' ≠ k) : (κ.set k b n).blk k' i = κ.blk k' i := by simp [Gh.set, beq_ff h]
theorem Gh.set_shp_ne (κ : Gh) {k k' : Nat} (b : Nat) (n : AV) (i : Nat) (h : k' ≠ k) : (κ.set k b n).shp k' i = κ.shp k' i := by simp [Gh.set, beq_ff h]
theorem Ob.ext_one_at (k : Nat) (sh c : AV) (o : Ob) (k' i : Nat) : ((OL.ob [(k, .one sh c)]).ext o).at_ k' i = if k' = k then (if i = 0 then some (sh, c) else none) else o.at_ k' i := by
  simp only [Ob.ext, OL.ob, OL.has, OL.at_, Fam.at_]
  by_cases h : k' = k
  · subst h
    simp only [Nat.beq_refl, cond_true, if_true]
    cases hb : Nat.beq i 0
    · have : i ≠ 0 := fun h => by subst h; simp at hb
      simp [this]
    · have : i = 0 := Nat.eq_of_beq_eq_true hb
      simp [this]
  · simp [beq_ff h, h]
theorem Ob.ext_one_has (k : Nat) (sh c : AV) (o : Ob) (k' : Nat) : ((OL.ob [(k, .one sh c)]).ext o).has k' = (Nat.beq k' k || o.has k') := by
  simp only [Ob.ext, OL.ob, OL.has]
  cases Nat.beq k' k <;> rfl
section
variable {X : Cx} {κ : Gh} {o : Ob} {w w' : World} {k : Nat} {sh c : AV} {cur : Array Value} {e : TypeId}
theorem Le.new (h : Rel X κ o w) (g : Gr w w') (hk : o.has k = false) :
    Le (KK X κ o w) (KK X (κ.set k w.heap.size sh) ((OL.ob [(k, .one sh c)]).ext o) w') := by
  refine Le.step g.size (fun b hb => ⟨g.block b (h.J_lt hb), fun k' i hk' => ?_⟩) (fun k' hk' => ?_) (sizes_same g.block)
  · rw [Ob.ext_one_at] at hk'
    by_cases hkk : k' = k
    · subst hkk
      rw [Gh.set_blk]
      have := h.J_lt hb
      omega
    · rw [if_neg hkk] at hk'
      rw [Gh.set_blk_ne _ _ _ _ hkk]
      exact hb.2 k' i hk'
  · have hkk : k' ≠ k := fun e => by subst e; rw [hk] at hk'; cases hk'
    refine ⟨by rw [Ob.ext_one_has, hk']; simp, fun i => ⟨Gh.set_blk_ne _ _ _ _ hkk, Gh.set_shp_ne _ _ _ _ hkk⟩⟩
theorem Rel.new (h : Rel X κ o w) (g : Gr w w') (hk : o.has k = false) (hb : w'.heap[w.heap.size]? = some (.cells cur e (0, 0)))
    (h1 : c.size ≤ cur.size) (h2 : FL (KK X (κ.set k w.heap.size sh) ((OL.ob [(k, .one sh c)]).ext o) w') c (cur.toList.take c.size)) (h3 : ssh sh c) :
    Rel X (κ.set k w.heap.size sh) ((OL.ob [(k, .one sh c)]).ext o) w' where
  os := g.os.trans h.os
  tape := g.tape.trans h.tape
  output := g.output.trans h.output
  size := Nat.le_trans h.size g.size
  block := fun b hb hM => (g.block b (Nat.lt_of_lt_of_le hb h.size)).trans (h.block b hb hM)
  live := fun k' i sh' c' hc => by
    rw [Ob.ext_one_at] at hc
    by_cases hkk : k' = k
    · subst hkk
      rw [if_pos rfl] at hc
      by_cases hi : i = 0
      · rw [if_pos hi] at hc
        simp only [Option.some.injEq, Prod.mk.injEq] at hc
        obtain ⟨rfl, rfl⟩ := hc
        refine ⟨cur, e, by rw [Gh.set_blk]; exact hb, h1, h2, h3, by rw [Gh.set_shp], .inl (by rw [Gh.set_blk]; exact h.size), ?_⟩
        rw [Gh.set_blk]
        intro hI
        have := (h.hI _ hI).1
        have := h.size
        omega
      · rw [if_neg hi] at hc; cases hc
    · rw [if_neg hkk] at hc
      obtain ⟨cur', e', k1, k2, k3, k4, k5, k6⟩ := h.live k' i sh' c' hc
      rw [Gh.set_blk_ne _ _ _ _ hkk, Gh.set_shp_ne _ _ _ _ hkk]
      exact ⟨cur', e', (g.block _ (Array.getElem?_eq_some_iff.1 k1).1).trans k1, k2, FL_mono (Le.new h g hk) k3, k4, k5, k6⟩
  inj := fun k1 i1 k2 i2 q1 q2 he => by
    rw [Ob.ext_one_at] at q1 q2
    by_cases a1 : k1 = k
    · by_cases a2 : k2 = k
      · rw [if_pos a1] at q1
        rw [if_pos a2] at q2
        refine ⟨by rw [a1, a2], ?_⟩
        by_cases b1 : i1 = 0
        · by_cases b2 : i2 = 0
          · omega
          · rw [if_neg b2] at q2; exact absurd rfl q2
        · rw [if_neg b1] at q1; exact absurd rfl q1
      · rw [if_neg a2] at q2
        subst a1
        rw [Gh.set_blk, Gh.set_blk_ne _ _ _ _ a2] at he
        have := h.blk_lt q2
        omega
    · rw [if_neg a1] at q1
      by_cases a2 : k2 = k
      · subst a2
        rw [Gh.set_blk, Gh.set_blk_ne _ _ _ _ a1] at he
        have := h.blk_lt q1
        omega
      · rw [if_neg a2] at q2
        rw [Gh.set_blk_ne _ _ _ _ a1, Gh.set_blk_ne _ _ _ _ a2] at he
        exact h.inj _ _ _ _ q1 q2 he
  has := fun k' i hk' => by
    rw [Ob.ext_one_has]
    rw [Ob.ext_one_at] at hk'
    by_cases hkk : k' = k
    · subst hkk; simp
    · rw [if_neg hkk] at hk'
      rw [h.has k' i hk']; simp
  hI := h.hI
  hM := h.hM
end
end Go.Am

namespace Go.Am
theorem VR_int {K : Kx} {k : IntKind} {n : Int} {c : Value} (h : VR K (.int k n) c) : c = .int k n := by
  have h' : [c] = [Value.int k n] := h
  simpa using h'
theorem VR_bool {K : Kx} {b : Bool} {c : Value} (h : VR K (.bool b) c) : c = .bool b := by
  have h' : [c] = [Value.bool b] := h
  simpa using h'
theorem VR_strg {K : Kx} {b : ByteArray} {c : Value} (h : VR K (.strg b) c) : c = .string b := by
  have h' : [c] = [Value.string b] := h
  simpa using h'
theorem VR_nilsl {K : Kx} {c : Value} (h : VR K .nilsl c) : c = .slice none 0 0 := by
  have h' : [c] = [Value.slice none 0 0] := h
  simpa using h'
theorem VR_own {K : Kx} {k i n : Nat} {e : TypeId} {c : Value} (h : VR K (.own k i n e) c) : K.ownR k i n e c := by
  obtain ⟨c', h1, h2⟩ := (h : ∃ c', [c] = [c'] ∧ K.ownR k i n e c')
  simp only [List.cons.injEq, and_true] at h1
  subst h1
  exact h2
theorem VR_cptr {K : Kx} {v : AV} {c : Value} (h : VR K (.cptr v) c) : ∃ b o seg, c = .pointer (some ⟨b, o, none⟩) ∧ K.J b ∧ FL K v seg ∧ K.seg b o seg := by
  obtain ⟨b, o, seg, h1, h2⟩ := (h : ∃ b o seg, [c] = [Value.pointer (some ⟨b, o, none⟩)] ∧ K.J b ∧ FL K v seg ∧ K.seg b o seg)
  simp only [List.cons.injEq, and_true] at h1
  exact ⟨b, o, seg, h1, h2⟩
theorem VR_cptr_mk {K : Kx} {v : AV} {b o : Nat} {seg : List Value} (h1 : K.J b) (h2 : FL K v seg) (h3 : K.seg b o seg) : VR K (.cptr v) (.pointer (some ⟨b, o, none⟩)) :=
  ⟨b, o, seg, rfl, h1, h2, h3⟩
theorem VR_ro {K : Kx} {n : Nat} {f : Nat → AV} {c : Value} (h : VR K (.ro n f) c) : ∃ A cap, c = .slice A n cap ∧ n ≤ cap ∧ cap ≤ maxLen ∧
      (n = 0 ∨ ∃ b o g, A = some ⟨b, o, none⟩ ∧ K.J b ∧ K.seg b o (flat g n) ∧ ∀ i, i < n → FL K (f i) (g i) ∧ (g i).length = (f 0).size) := by
  obtain ⟨A, cap, h1, h2⟩ := (h : ∃ A cap, [c] = [Value.slice A n cap] ∧ n ≤ cap ∧ cap ≤ maxLen ∧
      (n = 0 ∨ ∃ b o g, A = some ⟨b, o, none⟩ ∧ K.J b ∧ K.seg b o (flat g n) ∧ ∀ i, i < n → FL K (f i) (g i) ∧ (g i).length = (f 0).size))
  simp only [List.cons.injEq, and_true] at h1
  exact ⟨A, cap, h1, h2⟩
def AV.cel : AV → Prop
  | .any => False
  | .tup _ _ => False
  | .ptr _ _ _ _ _ => False
  | .fn _ n caps => ∀ i, i < n → (match caps i with | .cptr _ => True | .own _ _ _ _ => True | .ro _ _ => True | .int _ _ => True | _ => False)
  | _ => True
theorem FL_of_VR {K : Kx} {v : AV} {c : Value} (hv : v.cel) (h : VR K v c) : FL K v c.cells.toList := by
  cases v <;> simp only [AV.cel] at hv
  case arr n f => obtain ⟨cs, rfl, hc⟩ := h; exact hc
  case sct n f => obtain ⟨cs, rfl, hc⟩ := h; exact hc
  case int k n => rw [VR_int h]; exact rfl
  case bool b => rw [VR_bool h]; exact rfl
  case strg b => rw [VR_strg h]; exact rfl
  case nilsl => rw [VR_nilsl h]; exact rfl
  case own k i n e => have h' := VR_own h; obtain ⟨_, _, cap, cur, fr, rfl, _⟩ := h'; exact h
  case cptr v => obtain ⟨b, o, seg, rfl, _⟩ := VR_cptr h; exact h
  case ro n f => obtain ⟨A, cap, rfl, _⟩ := VR_ro h; exact h
  case fn q n caps =>
    obtain ⟨cv, rfl, h1, h2⟩ := h
    refine ⟨cv, rfl, h1, fun i hi => ?_⟩
    have h3 := hv i hi
    have h4 := h2 i hi
    revert h3 h4
    generalize caps i = u
    intro h3 h4
    cases u <;> simp only at h3 <;> exact ⟨rfl, h4⟩
theorem VR_of_FL_agg {K : Kx} {v : AV} {cs : Array Value} (hv : v.isAgg = true) (h : FL K v cs.toList) : VR K v (.agg cs) := by
  cases v <;> simp only [AV.isAgg, Bool.false_eq_true] at hv
  · exact ⟨cs, rfl, h⟩
  · exact ⟨cs, rfl, h⟩
theorem VR_of_FL_one {K : Kx} : ∀ {v : AV} {c : Value}, v.isAgg = false → FL K v [c] → VR K v c := by
  intro v
  induction v with
  | arr n f _ => intro c hv; simp [AV.isAgg] at hv
  | sct n f _ => intro c hv; simp [AV.isAgg] at hv
  | any => intro c _ _; trivial
  | tup n f _ => intro c _ h; exact h.elim
  | ptr k i path off root _ => intro c _ h; exact h.elim
  | fn q n caps ih =>
    rintro c _ ⟨cv, h1, h2, h3⟩
    simp only [List.cons.injEq, and_true] at h1
    exact ⟨cv, h1, h2, fun i hi => ih i (h3 i hi).1 (h3 i hi).2⟩
  | _ => intro c _ h; exact h
end Go.Am

namespace Go.Am
abbrev EV := Operand → AV
def AV.toI : AV → Int
  | .int _ n => n
  | _ => 0
def byteAt (s : ByteArray) (j : Nat) : Int := if h : j < s.size then ((s[j]'h).toNat : Int) else 0
def CmpW (p : Prop) (K : AV → Prop) : Prop := (p → K (.bool true)) ∧ (¬ p → K (.bool false))
def simT (T : TT) : Nat → TypeId → AV → Prop
  | 0, _, _ => False
  | d + 1, t, v => match T.und t with
    | .int _ => ∃ k x, v = .int k x
    | .arr n e => ∃ f, v = .arr n f ∧ (T.und e).known = true ∧ ∀ i, i < n → (f i).size = T.sz e ∧ (f i).isAgg = (T.und e).isAgg ∧ simT T d e (f i)
    | .sct fs => plainT T 6 t = true ∧ ∃ f, v = .sct fs.length f ∧ ∀ (i : Nat) ft fo, fs[i]? = some (ft, fo) → (T.und ft).known = true ∧ sumTo (fun j => (f j).size) i = fo ∧ (f i).size = T.sz ft ∧ (f i).isAgg = (T.und ft).isAgg ∧ simT T d ft (f i)
    | _ => False
def BW (T : TT) (op : BinOp) (t : TypeId) (a b : AV) (K : AV → Prop) : Prop :=
  match a, b with
  | .int k x, .int k' y => k = k' ∧ (match op with
    | .add => K (.int k (k.wrap (x + y)))
    | .sub => K (.int k (k.wrap (x - y)))
    | .mul => K (.int k (k.wrap (x * y)))
    | .quo => y ≠ 0 ∧ K (.int k (k.wrap (x.tdiv y)))
    | .rem => y ≠ 0 ∧ K (.int k (x.tmod y))
    | .eql => CmpW (x = y) K
    | .neq => CmpW (x ≠ y) K
    | .lss => CmpW (x < y) K
    | .leq => CmpW (x ≤ y) K
    | .gtr => CmpW (y < x) K
    | .geq => CmpW (y ≤ x) K
    | .shr => 0 ≤ y ∧ K (.int k (x.fdiv (2 ^ (min y.toNat k.bits))))
    | .and => K (.int k (k.wrap ((BitVec.ofInt k.bits x &&& BitVec.ofInt k.bits y).toNat : Int)))
    | _ => False)
  | .bool x, .bool y => (match T.und t with
    | .bool => (match op with
      | .eql => K (.bool (x == y))
      | .neq => K (.bool (!(x == y)))
      | _ => False)
    | _ => False)
  | .arr n f, .arr m g => (match T.und t with
    | .arr n' e => (match T.und e with
      | .int k => n' = n ∧ m = n ∧ (∀ i, i < n → f i = .int k (f i).toI) ∧ (∀ i, i < n → g i = .int k (g i).toI) ∧ (match op with
        | .eql => CmpW (∀ i, i < n → (f i).toI = (g i).toI) K
        | .neq => CmpW (¬ ∀ i, i < n → (f i).toI = (g i).toI) K
        | _ => False)
      | _ => False)
    | _ => False)
  | .own _ _ _ _, .nilsl => (match T.und t with
    | .slc _ => (match op with
      | .eql => K (.bool false)
      | .neq => K (.bool true)
      | _ => False)
    | _ => False)
  | .ro n _, .nilsl => n ≠ 0 ∧ (match T.und t with
    | .slc _ => (match op with
      | .eql => K (.bool false)
      | .neq => K (.bool true)
      | _ => False)
    | _ => False)
  | .nilsl, .nilsl => (match T.und t with
    | .slc _ => (match op with
      | .eql => K (.bool true)
      | .neq => K (.bool false)
      | _ => False)
    | _ => False)
  | .strg x, .strg y => (match T.und t with
    | .str => (match op with
      | .eql => CmpW (x.toList = y.toList) K
      | .neq => CmpW (x.toList ≠ y.toList) K
      | _ => False)
    | _ => False)
  | .sct n f, .sct m g => (match T.und t with
    | .sct _ => (AV.sct n f = .sct m g) ∧ simT T 6 t (.sct n f) ∧ (match op with
      | .eql => K (.bool true)
      | .neq => K (.bool false)
      | _ => False)
    | _ => False)
  | _, _ => False
def FieldAddrW (T : TT) (t : TypeId) (f : Nat) (v : AV) (K : AV → Prop) : Prop :=
  match T.und t with
  | .sct fs => (match fs[f]? with
    | some (ft, fo) => (T.und ft).known = true ∧ T.sz ft ≠ 0 ∧ (match v with
      | .cptr u => (match u with
        | .sct n g => f < n ∧ sumTo (fun j => (g j).size) f = fo ∧ K (.cptr (g f))
        | _ => False)
      | .ptr k i p o root => (match sub root p with
        | .sct n g => f < n ∧ sumTo (fun j => (g j).size) f = fo ∧ K (.ptr k i (p ++ [f]) (o + fo) root)
        | _ => False)
      | _ => False)
    | none => False)
  | _ => False
def IndexAddrW (T : TT) (t : TypeId) (v : AV) (j : Int) (K : AV → Prop) : Prop :=
  match v with
  | .cptr u => (match u with
    | .arr n g => (match T.und t with
      | .arr m e => m = n ∧ (T.und e).known = true ∧ (g 0).size = T.sz e ∧ (0 ≤ j ∧ j < (n : Int)) ∧ K (.cptr (g j.toNat))
      | _ => False)
    | _ => False)
  | .ptr k i p o root => (match sub root p with
    | .arr n g => (match T.und t with
      | .arr m e => m = n ∧ (T.und e).known = true ∧ (g 0).size = T.sz e ∧ (g j.toNat).size = (g 0).size ∧ (0 ≤ j ∧ j < (n : Int)) ∧
          K (.ptr k i (p ++ [j.toNat]) (o + j.toNat * T.sz e) root)
      | _ => False)
    | _ => False)
  | .own k i n e' => (match T.und t with
    | .slc e => e = e' ∧ (T.und e).known = true ∧ (0 ≤ j ∧ j < (n : Int)) ∧ K (.ptr k i [j.toNat] (0 + j.toNat * T.sz e) (.arr n (fun _ => T.zero e)))
    | _ => False)
  | .ro n g => (match T.und t with
    | .slc e => (T.und e).known = true ∧ (g 0).size = T.sz e ∧ (0 ≤ j ∧ j < (n : Int)) ∧ K (.cptr (g j.toNat))
    | _ => False)
  | _ => False
def IndexW (T : TT) (t : TypeId) (v : AV) (j : Int) (K : AV → Prop) : Prop :=
  match v with
  | .arr n g => (match T.und t with
    | .arr m e => m = n ∧ (T.und e).known = true ∧ (g 0).size = T.sz e ∧ (g j.toNat).isAgg = (T.und e).isAgg ∧ (0 ≤ j ∧ j < (n : Int)) ∧ K (g j.toNat)
    | _ => False)
  | .strg s => (match T.und t with
    | .str => (0 ≤ j ∧ j < (s.size : Int)) ∧ K (.int .u8 (byteAt s j.toNat))
    | _ => False)
  | _ => False
def FieldW (T : TT) (t : TypeId) (f : Nat) (v : AV) (K : AV → Prop) : Prop :=
  match v with
  | .sct n g => (match T.und t with
    | .sct fs => (match fs[f]? with
      | some (ft, fo) => f < n ∧ (T.und ft).known = true ∧ (g f).size = T.sz ft ∧ (g f).isAgg = (T.und ft).isAgg ∧ sumTo (fun j => (g j).size) f = fo ∧ K (g f)
      | none => False)
    | _ => False)
  | _ => False
def LenW (v : AV) (T : TT) (t : TypeId) (K : AV → Prop) : Prop :=
  match T.und t, v with
  | .slc _, .own _ _ n _ => K (.int .i64 n)
  | .slc _, .ro n _ => K (.int .i64 n)
  | .slc _, .nilsl => K (.int .i64 0)
  | .str, .strg s => K (.int .i64 s.size)
  | .arr n _, _ => K (.int .i64 n)
  | _, _ => False
def bdW (d : Nat) (x : Option AV) (K : Int → Prop) : Prop :=
  match x with
  | none => K d
  | some (.int _ j) => K j
  | _ => False
def SliceW (T : TT) (t : TypeId) (v : AV) (lo hi : Option AV) (K : AV → Prop) : Prop :=
  match v with
  | .ro n g => (match T.und t with
    | .slc e => (T.und e).known = true ∧ (g 0).size = T.sz e ∧ bdW n hi fun h => bdW 0 lo fun l => (0 ≤ l ∧ l ≤ h ∧ h ≤ (n : Int) ∧ (g l.toNat).size = (g 0).size) ∧ K (.ro (h.toNat - l.toNat) (fun i => g (l.toNat + i)))
    | _ => False)
  | .cptr u => (match u with
    | .arr n g => (match T.und t with
      | .arr m e => m = n ∧ (T.und e).known = true ∧ (g 0).size = T.sz e ∧ n ≤ maxLen ∧ bdW n hi fun h => bdW 0 lo fun l => (0 ≤ l ∧ l ≤ h ∧ h ≤ (n : Int) ∧ (g l.toNat).size = (g 0).size) ∧ K (.ro (h.toNat - l.toNat) (fun i => g (l.toNat + i)))
      | _ => False)
    | _ => False)
  | .strg s => (match T.und t with
    | .str => bdW s.size hi fun h => bdW 0 lo fun l => (0 ≤ l ∧ l ≤ h ∧ h ≤ (s.size : Int)) ∧ K (.strg (s.extract l.toNat h.toNat))
    | _ => False)
  | _ => False
def bytesF (n : Nat) (z : Nat → Int) : ByteArray := ⟨((List.range n).map (fun i => UInt8.ofNat (z i).toNat)).toArray⟩
def ConvW (T : TT) (s d : TypeId) (v : AV) (K : AV → Prop) : Prop :=
  match T.und s, T.und d, v with
  | .int _, .int k', .int _ n => K (.int k' (k'.wrap n))
  | .slc e, .str, .ro n f => (match T.und e with
    | .int .u8 => (∀ i, i < n → f i = .int .u8 (f i).toI ∧ 0 ≤ (f i).toI ∧ (f i).toI < 256) ∧ K (.strg (bytesF n (fun i => (f i).toI)))
    | _ => False)
  | _, _, _ => False
def UnW (op : UnOp) (v : AV) (K : AV → Prop) : Prop :=
  match op, v with
  | .not, .bool b => K (.bool !b)
  | .neg, .int k n => K (.int k (k.wrap (0 - n)))
  | _, _ => False
def constAV : Value → AV
  | .int k n => .int k n
  | .bool b => .bool b
  | .string s => .strg s
  | .slice none 0 0 => .nilsl
  | _ => .any
def PW (T : TT) (op : Op) (ev : EV) (K : AV → Prop) : Prop :=
  match op with
  | .move x => K (ev x)
  | .assign x => K (ev x)
  | .pick c a b => (match ev c with
    | .bool true => K (ev a)
    | .bool false => K (ev b)
    | _ => False)
  | .nilCheck x => (match ev x with
    | .cptr v => K (.cptr v)
    | .ptr k i p o r => K (.ptr k i p o r)
    | .fn g n c => K (.fn g n c)
    | _ => False)
  | .fieldAddr t x f => FieldAddrW T t f (ev x) K
  | .indexAddr t x ix => (match ev ix with
    | .int _ j => IndexAddrW T t (ev x) j K
    | _ => False)
  | .index t x ix => (match ev ix with
    | .int _ j => IndexW T t (ev x) j K
    | _ => False)
  | .field t x f => FieldW T t f (ev x) K
  | .extract x i => (match ev x with
    | .tup n g => i < n ∧ K (g i)
    | _ => False)
  | .binOp op t x y _ => BW T op t (ev x) (ev y) K
  | .unOp op _ x => UnW op (ev x) K
  | .convert s d x => ConvW T s d (ev x) K
  | .makeFunc (.func g) first caps => first = #[] ∧ K (.fn g caps.size (fun i => ev (caps.toList.getD i (.const undef))))
  | .slice t x lo hi none => SliceW T t (ev x) (lo.map ev) (hi.map ev) K
  | .slice t x none (some h) (some m) => (match ev x, ev h, ev m, T.und t with
    | .ro n g, .int _ a, .int _ b, .slc e => (a = b ∧ 0 ≤ a ∧ a ≤ (n : Int) ∧ (T.und e).known = true ∧ (g 0).size = T.sz e) ∧ K (.ro a.toNat g)
    | _, _, _, _ => False)
  | .call { callee := .builtin .len, args, argTypes } => (match args.toList, argTypes.toList with
    | [x], [t] => LenW (ev x) T t K
    | _, _ => False)
  | .call { callee := .builtin .max, args, argTypes := _ } => (match args.toList with
    | [x, y] => (match ev x, ev y with
      | .int k a, .int _ b => K (.int k (if b > a then b else a))
      | _, _ => False)
    | _ => False)
  | _ => False
def PureJ (P : Program) (T : TT) (o : Oper) (ev : EV) (v : AV) : Prop :=
  ∀ (X : Cx) (κ : Gh) (ob : Ob) (w : World) (ρ : Operand → Value), X.P = P → X.T = T → Rel X κ ob w →
    (∀ x ∈ o.op.operands.toList, VR (KK X κ ob w) (ev x) (ρ x)) →
    ∃ c, (execOp ρ o).run P w = .ok (.value c) w ∧ VR (KK X κ ob w) v c
def PureS (P : Program) (T : TT) (ev : EV) (xs : List Operand) (s : (Operand → Value) → Sem Value) (v : AV) : Prop :=
  ∀ (X : Cx) (κ : Gh) (ob : Ob) (w : World) (ρ : Operand → Value), X.P = P → X.T = T → Rel X κ ob w →
    (∀ x ∈ xs, VR (KK X κ ob w) (ev x) (ρ x)) → ∃ c, (s ρ).run P w = .ok c w ∧ VR (KK X κ ob w) v c
theorem VR_int_mk {K : Kx} (k : IntKind) (n : Int) : VR K (.int k n) (.int k n) := rfl
theorem VR_bool_mk {K : Kx} (b : Bool) : VR K (.bool b) (.bool b) := rfl
section
variable {P : Program} {T : TT}
theorem run_guard (op : BinOp) (t : TypeId) (x y : Operand) (a b : Value) (w : World)
    (h : (∀ c d, ¬ (a = .agg c ∧ b = .agg d)) ∧ ¬ (a = .nilIface ∧ b = .nilIface)) : (eqGuard op t x y a b).run P w = .ok () w := by
  obtain ⟨h1, h2⟩ := h
  unfold eqGuard
  cases op
  case eql =>
    simp only [Bool.not_true, Bool.false_eq_true, if_false]
    cases a <;> cases b <;> first | rfl | exact absurd ⟨rfl, rfl⟩ h2 | exact absurd ⟨rfl, rfl⟩ (h1 _ _)
  case neq =>
    simp only [Bool.not_true, Bool.false_eq_true, if_false]
    cases a <;> cases b <;> first | rfl | exact absurd ⟨rfl, rfl⟩ h2 | exact absurd ⟨rfl, rfl⟩ (h1 _ _)
  all_goals rfl
theorem two {op : BinOp} {t : TypeId} {x y : Operand} {ev : EV} {u u' v : AV} {a b r : Value} (ea : ev x = u) (eb : ev y = u')
    (ha : ∀ K c, VR K u c → c = a) (hb : ∀ K c, VR K u' c → c = b)
    (hg : (∀ c d, ¬ (a = .agg c ∧ b = .agg d)) ∧ ¬ (a = .nilIface ∧ b = .nilIface))
    (hr : ∀ w, (binOp op t a b).run P w = .ok r w) (hv : ∀ K, VR K v r) :
    PureS P T ev [x, y] (fun ρ => do eqGuard op t x y (ρ x) (ρ y); binOp op t (ρ x) (ρ y)) v := by
  intro X κ ob w ρ hP hT hR hh
  have h1 := hh x (by simp)
  have h2 := hh y (by simp)
  rw [ea] at h1
  rw [eb] at h2
  refine ⟨r, ?_, hv _⟩
  dsimp only
  rw [ha _ _ h1, hb _ _ h2, Sem.run_bind, run_guard op t x y a b w hg]
  exact hr w
theorem num2 {op : BinOp} {t : TypeId} {x y : Operand} {ev : EV} {k : IntKind} {a b : Int} {v : AV} {r : Value} (ea : ev x = .int k a) (eb : ev y = .int k b)
    (hr : ∀ w, (binOp op t (.int k a) (.int k b)).run P w = .ok r w) (hv : ∀ K, VR K v r) :
    PureS P T ev [x, y] (fun ρ => do eqGuard op t x y (ρ x) (ρ y); binOp op t (ρ x) (ρ y)) v :=
  two ea eb (fun _ _ => VR_int) (fun _ _ => VR_int) ⟨by simp, by simp⟩ hr hv
theorem cmp2 {p : Prop} {K : AV → Prop} {S : AV → Prop} [hd : Decidable p] (h : CmpW p K) (hs : S (.bool (decide p))) : ∃ v, K v ∧ S v := by
  refine ⟨_, ?_, hs⟩
  by_cases hp : p
  · simp only [hp, decide_true]; exact h.1 hp
  · simp only [hp, decide_false]; exact h.2 hp
theorem run_eql_of {t : TypeId} {a b : Value} {r : Bool} {w : World} (hs : binOp .eql t a b = (do pure (.bool (← Op.equal t a b)))) (h : (Op.equalIn (9999 + 1) t a b).run P w = .ok r w) :
    (binOp .eql t a b).run P w = .ok (.bool r) w := by
  rw [hs, Sem.run_bind]
  show ((Op.equalIn (9999 + 1) t a b).run P w).andThen _ = _
  rw [h]
  rfl
theorem run_neq_of {t : TypeId} {a b : Value} {r : Bool} {w : World} (hs : binOp .neq t a b = (do pure (.bool (!(← Op.equal t a b))))) (h : (Op.equalIn (9999 + 1) t a b).run P w = .ok r w) :
    (binOp .neq t a b).run P w = .ok (.bool (!r)) w := by
  rw [hs, Sem.run_bind]
  show ((Op.equalIn (9999 + 1) t a b).run P w).andThen _ = _
  rw [h]
  rfl
theorem two' {op : BinOp} {t : TypeId} {x y : Operand} {ev : EV} {u u' v : AV} {r : Value} (ea : ev x = u) (eb : ev y = u')
    (hr : ∀ K c c', VR K u c → VR K u' c' → ∀ w, ((eqGuard op t x y c c').run P w = .ok () w) ∧ (binOp op t c c').run P w = .ok r w) (hv : ∀ K, VR K v r) :
    PureS P T ev [x, y] (fun ρ => do eqGuard op t x y (ρ x) (ρ y); binOp op t (ρ x) (ρ y)) v := by
  intro X κ ob w ρ hP hT hR hh
  have h1 := hh x (by simp)
  have h2 := hh y (by simp)
  rw [ea] at h1
  rw [eb] at h2
  obtain ⟨k1, k2⟩ := hr _ _ _ h1 h2 w
  refine ⟨r, ?_, hv _⟩
  dsimp only
  rw [Sem.run_bind, k1]
  exact k2
theorem run_forIn_eq {w : World} (a b : Nat → Int) (body : Nat → Option Bool × Unit → Sem (ForInStep (Option Bool × Unit))) :
    ∀ (m s : Nat), (∀ i, s ≤ i → i < s + m → (a i = b i → (body i (none, ())).run P w = .ok (.yield (none, ())) w) ∧ (a i ≠ b i → (body i (none, ())).run P w = .ok (.done (some false, ())) w)) →
      ((∀ i, s ≤ i → i < s + m → a i = b i) → (forIn (List.range' s m) (none, ()) body).run P w = .ok (none, ()) w) ∧
      ((¬ ∀ i, s ≤ i → i < s + m → a i = b i) → (forIn (List.range' s m) (none, ()) body).run P w = .ok (some false, ()) w) := by
  intro m
  induction m with
  | zero => intro s _; exact ⟨fun _ => rfl, fun h => absurd (fun i h1 h2 => by omega) h⟩
  | succ m ih =>
    intro s h
    obtain ⟨i1, i2⟩ := ih (s + 1) (fun i h1 h2 => h i (by omega) (by omega))
    obtain ⟨b1, b2⟩ := h s (Nat.le_refl _) (by omega)
    rw [List.range'_succ, List.forIn_cons, Sem.run_bind]
    by_cases hs : a s = b s
    · rw [b1 hs]
      refine ⟨fun hq => i1 (fun i h1 h2 => hq i (by omega) (by omega)), fun hq => i2 (fun hh => hq (fun i h1 h2 => ?_))⟩
      by_cases he : i = s
      · subst he; exact hs
      · exact hh i (by omega) (by omega)
    · rw [b2 hs]
      exact ⟨fun hq => absurd (hq s (Nat.le_refl _) (by omega)) hs, fun _ => rfl⟩
theorem run_isAgg (hT : TOk P T) {t : TypeId} (ht : (T.und t).known = true) (w : World) : (Go.isAgg t).run P w = .ok (T.und t).isAgg w := by
  have h := hT.und t
  cases htd : T.und t with
  | other => rw [htd] at ht; cases ht
  | sct fs =>
    rw [htd] at h
    obtain ⟨flds, h1, _⟩ := h
    simp [Go.isAgg, run_underlying h1, TD.isAgg]
  | fnc =>
    rw [htd] at h
    obtain ⟨_, _, _, h1⟩ := h
    simp [Go.isAgg, run_underlying h1, TD.isAgg]
  | _ =>
    rw [htd] at h
    simp [Go.isAgg, run_underlying h, TD.isAgg]
theorem run_sizeOf (hT : TOk P T) {t : TypeId} (ht : (T.und t).known = true) (w : World) : (sizeOf t).run P w = .ok (T.sz t) w := by
  obtain ⟨i, z, h1, h2, _⟩ := hT.info t ht
  simp [sizeOf, typeInfo, h1, h2]
theorem run_part_one (hT : TOk P T) {t : TypeId} (ht : (T.und t).known = true) (hag : (T.und t).isAgg = false) {cs : Array Value} {o : Nat} {c : Value} (hc : cs[o]? = some c) (w : World) :
    (part t cs o).run P w = .ok c w := by
  simp [part, run_isAgg hT ht, hag, hc]
theorem run_part_agg (hT : TOk P T) {t : TypeId} (ht : (T.und t).known = true) (hag : (T.und t).isAgg = true) (cs : Array Value) (o : Nat) (w : World) :
    (part t cs o).run P w = .ok (.agg (cs.extract o (o + T.sz t))) w := by
  simp [part, run_isAgg hT ht, hag, run_sizeOf hT ht]
theorem flat_get {g : Nat → List Value} {s n : Nat} (hg : ∀ i, i < n → (g i).length = s) {i : Nat} (hi : i < n) :
    ∃ post, flat g n = flat g i ++ (g i ++ post) ∧ (flat g i).length = i * s := by
  obtain ⟨post, h1, _⟩ := flat_split g hi
  refine ⟨post, h1, ?_⟩
  rw [flat_len, sumTo_congr (g := fun _ => s) (fun j hj => hg j (by omega)), sumTo_const]
theorem int_cells {K : Kx} {k : IntKind} {n : Nat} {f : Nat → AV} {cs : Array Value} (h : FL K (.arr n f) cs.toList) (hf : ∀ i, i < n → f i = .int k (f i).toI) :
    ∀ i, i < n → cs[i]? = some (.int k (f i).toI) := by
  intro i hi
  obtain ⟨g, hg, hh⟩ := h
  have h1 : ∀ j, j < n → g j = [.int k (f j).toI] := fun j hj => by
    have h2 := (hh j hj).1
    rw [hf j hj] at h2
    exact h2
  obtain ⟨post, e1, e2⟩ := flat_get (s := 1) (g := g) (n := n) (fun j hj => by rw [h1 j hj]; rfl) hi
  rw [← Array.getElem?_toList, hg, e1, List.getElem?_append_right (by omega), e2, h1 i hi]
  simp
theorem run_equal_ints (hT : TOk P T) {t e : TypeId} {n : Nat} {k : IntKind} (ht : P.underlying t = some (.array n e)) (he : T.und e = .int k) {xs ys : Array Value} {a b : Nat → Int}
    (hx : ∀ i, i < n → xs[i]? = some (.int k (a i))) (hy : ∀ i, i < n → ys[i]? = some (.int k (b i))) (w : World) :
    (Op.equalIn (9999 + 1) t (.agg xs) (.agg ys)).run P w = .ok (decide (∀ i, i < n → a i = b i)) w := by
  have hu := hT.und e
  rw [he] at hu
  have heo : (T.und e).known = true := by rw [he]; rfl
  have hs : T.sz e = 1 := hT.one e heo (by rw [he]; rfl)
  show (Op.equalIn (9999 + 1) t (.agg xs) (.agg ys)).run P w = _
  unfold Op.equalIn
  simp only [Sem.run_bind, run_underlying ht, Result.andThen_ok, run_sizeOf hT heo, Std.Legacy.Range.forIn_eq_forIn_range']
  have hsz : ([:n] : Std.Legacy.Range).size = n := by simp [Std.Legacy.Range.size]
  rw [hsz]
  generalize hbody : (fun (i : Nat) (_ : Option Bool × Unit) => _ : Nat → Option Bool × Unit → Sem (ForInStep (Option Bool × Unit))) = body
  have hb : ∀ i, 0 ≤ i → i < 0 + n → (a i = b i → (body i (none, ())).run P w = .ok (.yield (none, ())) w) ∧ (a i ≠ b i → (body i (none, ())).run P w = .ok (.done (some false, ())) w) := by
    intro i h1 h2
    subst hbody
    dsimp only
    rw [hs, Nat.mul_one, Sem.run_bind, run_part_one hT heo (by rw [he]; rfl) (hx i (by omega))]
    simp only [Result.andThen_ok]
    rw [Sem.run_bind, run_part_one hT heo (by rw [he]; rfl) (hy i (by omega))]
    simp only [Result.andThen_ok]
    rw [Sem.run_bind, run_equalIn_int w 9998 e k k (a i) (b i) hu]
    simp only [Result.andThen_ok]
    exact ⟨fun hab => by simp [hab], fun hab => by simp [hab]⟩
  obtain ⟨i1, i2⟩ := run_forIn_eq a b body n 0 hb
  by_cases hq : ∀ i, i < n → a i = b i
  · rw [i1 (fun i _ h2 => hq i (by omega)), decide_eq_true hq]; rfl
  · rw [i2 (fun hh => hq (fun i h2 => hh i (by omega) (by omega))), decide_eq_false hq]; rfl
theorem VR_part {K : Kx} {v : AV} {cs : Array Value} {pre s post : List Value} (hcs : cs.toList = pre ++ (s ++ post)) (hs : FL K v s) :
    (v.isAgg = true → VR K v (.agg (cs.extract pre.length (pre.length + v.size)))) ∧ (v.isAgg = false → ∃ c, cs[pre.length]? = some c ∧ VR K v c) := by
  have hl := FL_len hs
  constructor
  · intro hv
    refine VR_of_FL_agg hv ?_
    have : (cs.extract pre.length (pre.length + v.size)).toList = s := by
      rw [Array.toList_extract, hcs, List.extract_eq_take_drop, Nat.add_sub_cancel_left, List.drop_left, ← hl, List.take_left]
    rw [this]
    exact hs
  · intro hv
    have h1 : v.size = 1 := by cases v <;> first | rfl | (simp [AV.isAgg] at hv)
    rw [h1] at hl
    obtain ⟨c, rfl⟩ : ∃ c, s = [c] := by
      cases s with
      | nil => simp at hl
      | cons a r => cases r with
        | nil => exact ⟨a, rfl⟩
        | cons b r => simp at hl
    refine ⟨c, ?_, VR_of_FL_one hv hs⟩
    rw [← Array.getElem?_toList, hcs, List.getElem?_append_right (by omega)]
    simp
theorem part_ok (hT : TOk P T) {e : TypeId} {v : AV} {K : Kx} {cs : Array Value} {pre s post : List Value} (he : (T.und e).known = true) (hcs : cs.toList = pre ++ (s ++ post)) (hs : FL K v s)
    (hsz : v.size = T.sz e) (hag : v.isAgg = (T.und e).isAgg) (w : World) : ∃ c, (part e cs pre.length).run P w = .ok c w ∧ VR K v c := by
  have hp := VR_part hcs hs
  cases hb : (T.und e).isAgg with
  | true =>
    rw [hb] at hag
    exact ⟨_, run_part_agg hT he hb cs _ w, by have := hp.1 hag; rw [hsz] at this; exact this⟩
  | false =>
    rw [hb] at hag
    obtain ⟨c, k1, k2⟩ := hp.2 hag
    exact ⟨_, run_part_one hT he hb k1 w, k2⟩
theorem eqF_self {D : Nat} {cs : Array Value} : ∀ (l : List Field) (w : World), (∀ f ∈ l, ∃ c, (part f.type cs f.offset).run P w = .ok c w ∧ (Op.equalIn D f.type c c).run P w = .ok true w) →
    (Op.eqFields D cs cs l).run P w = .ok true w := by
  intro l w
  induction l with
  | nil => intro _; rfl
  | cons f l ih =>
    intro h
    obtain ⟨c, h1, h2⟩ := h f (by simp)
    have ih := ih (fun g hg => h g (by simp [hg]))
    unfold Op.eqFields
    rw [Sem.run_ite]
    split
    · rw [Sem.run_bind, h1]
      simp only [Result.andThen_ok]
      rw [Sem.run_bind, h1]
      simp only [Result.andThen_ok]
      rw [Sem.run_bind, h2]
      simp only [Result.andThen_ok, Bool.not_true, Bool.false_eq_true, if_false]
      exact ih
    · exact ih
theorem flat_cut {g : Nat → List Value} {n i : Nat} (hi : i < n) : ∃ post, flat g n = flat g i ++ (g i ++ post) := by
  obtain ⟨post, h1, _⟩ := flat_split g hi
  exact ⟨post, h1⟩
theorem eq_self (hT : TOk P T) : ∀ (d : Nat) (t : TypeId) (v : AV) {K : Kx} {c : Value} (D : Nat) (w : World), simT T d t v → VR K v c → (Op.equalIn (d + D) t c c).run P w = .ok true w := by
  intro d
  induction d with
  | zero => intro t v K c D w h; exact h.elim
  | succ d ih =>
    intro t v K c D w h hc
    have hu := hT.und t
    unfold simT at h
    rw [show d + 1 + D = (d + D) + 1 by omega]
    split at h
    · rename_i k htd
      rw [htd] at hu
      obtain ⟨k', x, rfl⟩ := h
      rw [VR_int hc, run_equalIn_int w (d + D) t k' k x x hu]
      simp
    · rename_i n e htd
      rw [htd] at hu
      obtain ⟨f, rfl, he, h⟩ := h
      obtain ⟨cs, rfl, g, e2, e3⟩ := hc
      have hpart : ∀ i, i < n → ∃ c, (part e cs (i * T.sz e)).run P w = .ok c w ∧ VR K (f i) c := by
        intro i hi
        obtain ⟨post, q1, q2⟩ := flat_get (s := (f 0).size) (g := g) (n := n) (fun i hi => (e3 i hi).2) hi
        rw [q1] at e2
        obtain ⟨c, k1, k2⟩ := part_ok hT he e2 (e3 i hi).1 (h i hi).1 (h i hi).2.1 w
        rw [q2, (h 0 (by omega)).1] at k1
        exact ⟨c, k1, k2⟩
      show (Op.equalIn ((d + D) + 1) t (.agg cs) (.agg cs)).run P w = _
      unfold Op.equalIn
      simp only [Sem.run_bind, run_underlying hu, Result.andThen_ok, run_sizeOf hT he, Std.Legacy.Range.forIn_eq_forIn_range']
      have hsz : ([:n] : Std.Legacy.Range).size = n := by simp [Std.Legacy.Range.size]
      rw [hsz]
      generalize hbody : (fun (i : Nat) (_ : Option Bool × Unit) => _ : Nat → Option Bool × Unit → Sem (ForInStep (Option Bool × Unit))) = body
      have hb : ∀ i, 0 ≤ i → i < 0 + n → ((0 : Int) = 0 → (body i (none, ())).run P w = .ok (.yield (none, ())) w) ∧ ((0 : Int) ≠ 0 → (body i (none, ())).run P w = .ok (.done (some false, ())) w) := by
        intro i h1 h2
        refine ⟨fun _ => ?_, fun hne => absurd rfl hne⟩
        obtain ⟨c, k1, k2⟩ := hpart i (by omega)
        subst hbody
        dsimp only
        rw [Sem.run_bind, k1]
        simp only [Result.andThen_ok]
        rw [Sem.run_bind, k1]
        simp only [Result.andThen_ok]
        rw [Sem.run_bind, ih e (f i) D w (h i (by omega)).2.2 k2]
        simp only [Result.andThen_ok]
        rfl
      obtain ⟨i1, i2⟩ := run_forIn_eq (fun _ => 0) (fun _ => 0) body n 0 hb
      rw [i1 (fun _ _ _ => rfl)]
      rfl
    · rename_i fs htd
      obtain ⟨hpl, f, rfl, h⟩ := h
      obtain ⟨k1, k2⟩ := hT.seq t fs htd hpl
      rw [htd] at hu
      obtain ⟨flds, hu, hfl⟩ := hu
      obtain ⟨cs, rfl, g, e2, e3⟩ := hc
      have hF : P.fieldsOf t = flds := by simp [Program.fieldsOf, hu]
      rw [run_equalIn_struct w (d + D) t cs cs (by rw [hF]; exact hu) k1, hF]
      refine eqF_self flds.toList w (fun fl hm => ?_)
      obtain ⟨i, hi, rfl⟩ := List.getElem_of_mem hm
      have hfi : fs[i]? = some (flds.toList[i].type, flds.toList[i].offset) := by
        rw [← hfl, List.getElem?_map, List.getElem?_eq_getElem hi]
        rfl
      have hlt : i < fs.length := by
        rw [List.getElem?_eq_some_iff] at hfi
        exact hfi.1
      obtain ⟨he, ho, hsz, hag, hsim⟩ := h i _ _ hfi
      obtain ⟨post, q1⟩ := flat_cut (g := g) hlt
      rw [q1] at e2
      obtain ⟨c, p1, p2⟩ := part_ok hT he e2 (e3 i hlt) hsz hag w
      have hl : (flat g i).length = flds.toList[i].offset := by
        rw [flat_len, ← ho]
        exact sumTo_congr (fun j hj => FL_len (e3 j (by omega)))
      rw [hl] at p1
      exact ⟨c, p1, ih _ (f i) D w hsim p2⟩
    · exact h.elim
theorem FL_det : ∀ (d : Nat) (t : TypeId) (v : AV) {K : Kx} {s s' : List Value}, simT T d t v → FL K v s → FL K v s' → s = s' := by
  intro d
  induction d with
  | zero => intro t v K s s' h; exact h.elim
  | succ d ih =>
    intro t v K s s' h h1 h2
    unfold simT at h
    split at h
    · obtain ⟨k', x, rfl⟩ := h
      have h1 : s = [_] := h1
      have h2 : s' = [_] := h2
      rw [h1, h2]
    · obtain ⟨f, rfl, he, h⟩ := h
      obtain ⟨g, rfl, e3⟩ := h1
      obtain ⟨g', rfl, e3'⟩ := h2
      exact flat_congr (fun i hi => ih _ _ (h i hi).2.2 (e3 i hi).1 (e3' i hi).1)
    · rename_i fs htd
      obtain ⟨hpl, f, rfl, h⟩ := h
      obtain ⟨g, rfl, e3⟩ := h1
      obtain ⟨g', rfl, e3'⟩ := h2
      refine flat_congr (fun i hi => ?_)
      obtain ⟨he, ho, hsz, hag, hsim⟩ := h i _ _ (List.getElem?_eq_getElem hi)
      exact ih _ _ hsim (e3 i hi) (e3' i hi)
    · exact h.elim
theorem BW_sound {op : BinOp} {t : TypeId} {x y : Operand} {ev : EV} {K : AV → Prop} (hT : TOk P T) (h : BW T op t (ev x) (ev y) K) :
    ∃ v, K v ∧ PureS P T ev [x, y] (fun ρ => do eqGuard op t x y (ρ x) (ρ y); binOp op t (ρ x) (ρ y)) v := by
  unfold BW at h
  split at h
  · rename_i k a k' b ea eb
    obtain ⟨rfl, h⟩ := h
    cases op <;> simp only at h
    case add => exact ⟨_, h, num2 ea eb (fun w => by simp [binOp, Op.intArith]) (fun K => VR_int_mk _ _)⟩
    case sub => exact ⟨_, h, num2 ea eb (fun w => by simp [binOp, Op.intArith]) (fun K => VR_int_mk _ _)⟩
    case mul => exact ⟨_, h, num2 ea eb (fun w => by simp [binOp, Op.intArith]) (fun K => VR_int_mk _ _)⟩
    case quo => exact ⟨_, h.2, num2 ea eb (fun w => by simp [binOp, Op.intDiv, h.1]) (fun K => VR_int_mk _ _)⟩
    case rem => exact ⟨_, h.2, num2 ea eb (fun w => by simp [binOp, Op.intDiv, h.1]) (fun K => VR_int_mk _ _)⟩
    case eql => exact cmp2 h (num2 ea eb (fun w => by simp [binOp, Op.intCmp]; rfl) (fun K => VR_bool_mk _))
    case neq => exact cmp2 h (num2 ea eb (fun w => by simp [binOp, Op.intCmp]; rfl) (fun K => VR_bool_mk _))
    case lss => exact cmp2 h (num2 ea eb (fun w => by simp [binOp, Op.intCmp]) (fun K => VR_bool_mk _))
    case leq => exact cmp2 h (num2 ea eb (fun w => by simp [binOp, Op.intCmp]) (fun K => VR_bool_mk _))
    case gtr => exact cmp2 h (num2 ea eb (fun w => by simp [binOp, Op.intCmp]) (fun K => VR_bool_mk _))
    case geq => exact cmp2 h (num2 ea eb (fun w => by simp [binOp, Op.intCmp]) (fun K => VR_bool_mk _))
    case shr => exact ⟨_, h.2, num2 ea eb (fun w => by simp [binOp, Op.shift, Int.not_lt.2 h.1]) (fun K => VR_int_mk _ _)⟩
    case and => exact ⟨_, h, num2 ea eb (fun w => by simp [binOp, Op.intBits]) (fun K => VR_int_mk _ _)⟩
  · rename_i a b ea eb
    have hu := hT.und t
    split at h
    · rename_i htd
      rw [htd] at hu
      cases op <;> simp only at h
      case eql => exact ⟨_, h, two ea eb (fun _ _ => VR_bool) (fun _ _ => VR_bool) ⟨by simp, by simp⟩ (fun w => run_eql_of rfl (run_equalIn_bool' w 9999 t a b hu)) (fun K => VR_bool_mk _)⟩
      case neq => exact ⟨_, h, two ea eb (fun _ _ => VR_bool) (fun _ _ => VR_bool) ⟨by simp, by simp⟩ (fun w => run_neq_of rfl (run_equalIn_bool' w 9999 t a b hu)) (fun K => VR_bool_mk _)⟩
    · exact h.elim
  · 
    rename_i n0 f m g ea eb
    split at h
    · rename_i n' e htd
      have hu := hT.und t
      rw [htd] at hu
      split at h
      · rename_i k hte
        obtain ⟨hn1, hn2, hf, hg, h⟩ := h
        subst hn2
        have hn3 : n' = m := hn1
        clear hn1
        subst hn3
        have key : ∀ K' c c', VR K' (.arr n' f) c → VR K' (.arr n' g) c' → ∀ w, (∃ xs ys, c = .agg xs ∧ c' = .agg ys) ∧
            (Op.equalIn (9999 + 1) t c c').run P w = .ok (decide (∀ i, i < n' → (f i).toI = (g i).toI)) w := by
          rintro K' c c' ⟨xs, rfl, h1⟩ ⟨ys, rfl, h2⟩ w
          exact ⟨⟨xs, ys, rfl, rfl⟩, run_equal_ints hT hu hte (int_cells h1 hf) (int_cells h2 hg) w⟩
        have hguard : ∀ (xs ys : Array Value) (w : World), (eqGuard op t x y (.agg xs) (.agg ys)).run P w = .ok () w := fun xs ys w => by
          refine run_eqGuard_agg w op t x y xs ys (hT.eqg t n' e k htd hte)
        cases op <;> simp only at h
        case eql =>
          refine cmp2 h (two' ea eb (fun K' c c' h1 h2 w => ?_) (fun K' => VR_bool_mk _))
          obtain ⟨⟨xs, ys, rfl, rfl⟩, hr⟩ := key K' c c' h1 h2 w
          exact ⟨hguard xs ys w, run_eql_of rfl hr⟩
        case neq =>
          refine cmp2 h (two' ea eb (fun K' c c' h1 h2 w => ?_) (fun K' => VR_bool_mk _))
          obtain ⟨⟨xs, ys, rfl, rfl⟩, hr⟩ := key K' c c' h1 h2 w
          refine ⟨hguard xs ys w, ?_⟩
          rw [decide_not]
          exact run_neq_of rfl hr
      · exact h.elim
    · exact h.elim
  · rename_i k i n e ea eb
    have hu := hT.und t
    split at h
    · rename_i el htd
      rw [htd] at hu
      have key : ∀ K' c c', VR K' (.own k i n e) c → VR K' .nilsl c' → ∀ w, (eqGuard op t x y c c').run P w = .ok () w ∧ (Op.equalIn (9999 + 1) t c c').run P w = .ok false w ∧ (∃ A n c2, c = .slice A n c2) ∧ c' = .slice none 0 0 := by
        intro K' c c' h1 h2 w
        obtain ⟨_, _, cap, cur, fr, rfl, _⟩ := VR_own h1
        rw [VR_nilsl h2]
        refine ⟨run_guard _ _ _ _ _ _ _ ⟨by simp, by simp⟩, ?_, ⟨_, _, _, rfl⟩, rfl⟩
        unfold Op.equalIn
        simp [run_underlying hu]
      cases op <;> simp only at h
      case eql =>
        refine ⟨_, h, two' ea eb (fun K' c c' h1 h2 w => ?_) (fun K' => VR_bool_mk _)⟩
        obtain ⟨k1, k2, ⟨A, n, c2, rfl⟩, rfl⟩ := key K' c c' h1 h2 w
        exact ⟨k1, run_eql_of rfl k2⟩
      case neq =>
        refine ⟨_, h, two' (r := .bool (!false)) ea eb (fun K' c c' h1 h2 w => ?_) (fun K' => VR_bool_mk _)⟩
        obtain ⟨k1, k2, ⟨A, n, c2, rfl⟩, rfl⟩ := key K' c c' h1 h2 w
        exact ⟨k1, run_neq_of rfl k2⟩
    · exact h.elim
  · rename_i n f ea eb
    obtain ⟨hn, h⟩ := h
    have hu := hT.und t
    split at h
    · rename_i el htd
      rw [htd] at hu
      have key : ∀ K' c c', VR K' (.ro n f) c → VR K' .nilsl c' → ∀ w, (eqGuard op t x y c c').run P w = .ok () w ∧ (Op.equalIn (9999 + 1) t c c').run P w = .ok false w ∧ (∃ A n c2, c = .slice A n c2) ∧ c' = .slice none 0 0 := by
        intro K' c c' h1 h2 w
        obtain ⟨A, cap, rfl, _, _, h3⟩ := VR_ro h1
        rcases h3 with h3 | ⟨b, o, g, rfl, _⟩
        · exact absurd h3 hn
        rw [VR_nilsl h2]
        refine ⟨run_guard _ _ _ _ _ _ _ ⟨by simp, by simp⟩, ?_, ⟨_, _, _, rfl⟩, rfl⟩
        unfold Op.equalIn
        simp [run_underlying hu]
      cases op <;> simp only at h
      case eql =>
        refine ⟨_, h, two' ea eb (fun K' c c' h1 h2 w => ?_) (fun K' => VR_bool_mk _)⟩
        obtain ⟨k1, k2, ⟨A, n, c2, rfl⟩, rfl⟩ := key K' c c' h1 h2 w
        exact ⟨k1, run_eql_of rfl k2⟩
      case neq =>
        refine ⟨_, h, two' (r := .bool (!false)) ea eb (fun K' c c' h1 h2 w => ?_) (fun K' => VR_bool_mk _)⟩
        obtain ⟨k1, k2, ⟨A, n, c2, rfl⟩, rfl⟩ := key K' c c' h1 h2 w
        exact ⟨k1, run_neq_of rfl k2⟩
    · exact h.elim
  · rename_i ea eb
    have hu := hT.und t
    split at h
    · rename_i el htd
      rw [htd] at hu
      have key : ∀ w, (Op.equalIn (9999 + 1) t (.slice none 0 0) (.slice none 0 0)).run P w = .ok true w := by
        intro w
        unfold Op.equalIn
        simp [run_underlying hu]
      cases op <;> simp only at h
      case eql => exact ⟨_, h, two ea eb (fun _ _ => VR_nilsl) (fun _ _ => VR_nilsl) ⟨by simp, by simp⟩ (fun w => run_eql_of rfl (key w)) (fun K => VR_bool_mk _)⟩
      case neq => exact ⟨_, h, two (r := .bool (!true)) ea eb (fun _ _ => VR_nilsl) (fun _ _ => VR_nilsl) ⟨by simp, by simp⟩ (fun w => run_neq_of rfl (key w)) (fun K => VR_bool_mk _)⟩
    · exact h.elim
  · rename_i a b ea eb
    have hu := hT.und t
    split at h
    · rename_i htd
      rw [htd] at hu
      have hb : (a.toList == b.toList) = decide (a.toList = b.toList) := by
        by_cases hab : a.toList = b.toList
        · simp [hab]
        · simp [hab]
      cases op <;> simp only at h
      case eql => exact cmp2 h (two ea eb (fun _ _ => VR_strg) (fun _ _ => VR_strg) ⟨by simp, by simp⟩ (fun w => by rw [binOp_string_eql, hb]; rfl) (fun K => VR_bool_mk _))
      case neq => exact cmp2 h (two ea eb (fun _ _ => VR_strg) (fun _ _ => VR_strg) ⟨by simp, by simp⟩ (fun w => by rw [binOp_string_neq, hb, decide_not]; rfl) (fun K => VR_bool_mk _))
    · exact h.elim
  · 
    rename_i n f m g ea eb
    split at h
    · rename_i fs htd
      obtain ⟨he, hs, h⟩ := h
      rw [← he] at eb
      have hpl : plainT T 6 t = true := by
        unfold simT at hs
        rw [htd] at hs
        exact hs.1
      have key : ∀ K' c c', VR K' (.sct n f) c → VR K' (.sct n f) c' → ∀ w, (eqGuard op t x y c c').run P w = .ok () w ∧ (Op.equalIn (9999 + 1) t c c').run P w = .ok true w ∧ ∃ cs, c = .agg cs ∧ c' = .agg cs := by
        rintro K' c c' ⟨xs, rfl, h1⟩ ⟨ys, rfl, h2⟩ w
        have : xs = ys := by
          have := FL_det 6 t _ hs h1 h2
          exact Array.ext' this
        subst this
        exact ⟨run_eqGuard_agg w op t x y xs xs (hT.seq t fs htd hpl).2, eq_self hT 6 t (.sct n f) 9994 w hs ⟨xs, rfl, h1⟩, xs, rfl, rfl⟩
      cases op <;> simp only at h
      case eql =>
        refine ⟨_, h, two' ea eb (fun K' c c' h1 h2 w => ?_) (fun K' => VR_bool_mk _)⟩
        obtain ⟨k1, k2, cs, rfl, rfl⟩ := key K' c c' h1 h2 w
        exact ⟨k1, run_eql_of rfl k2⟩
      case neq =>
        refine ⟨_, h, two' (r := .bool (!true)) ea eb (fun K' c c' h1 h2 w => ?_) (fun K' => VR_bool_mk _)⟩
        obtain ⟨k1, k2, cs, rfl, rfl⟩ := key K' c c' h1 h2 w
        exact ⟨k1, run_neq_of rfl k2⟩
    · exact h.elim
  · exact h.elim
end
end Go.Am

namespace Go.Am
section
variable {P : Program} {T : TT}
theorem addr_add (b o n : Nat) : (⟨b, o, none⟩ : Addr).add n = ⟨b, o + n, none⟩ := by unfold Addr.add; split <;> simp_all
theorem valid_nil (v : AV) : valid v [] := by cases v <;> trivial
theorem offs_nil (a : Nat) (v : AV) : offs a v [] = a := by cases v <;> rfl
theorem sub_nil (v : AV) : sub v [] = v := by cases v <;> rfl
theorem seg_sub {K : Kx} {b o : Nat} {pre s post : List Value} (h : K.seg b o (pre ++ (s ++ post))) : K.seg b (o + pre.length) s := by
  obtain ⟨cur, e, fr, h1, h2⟩ := h
  refine ⟨cur, e, fr, h1, fun j x hx => ?_⟩
  rw [Nat.add_assoc]
  refine h2 (pre.length + j) x ?_
  rw [List.getElem?_append_right (by omega), List.getElem?_append_left (by
    have := (List.getElem?_eq_some_iff.1 hx).1
    omega)]
  simpa using hx
theorem cptr_sub {K : Kx} {v : AV} {path : List Nat} {c : Value} (h : VR K (.cptr v) c) (hv : valid v path) :
    ∃ b o, c = .pointer (some ⟨b, o, none⟩) ∧ VR K (.cptr (sub v path)) (.pointer (some ⟨b, o + offs 0 v path, none⟩)) := by
  obtain ⟨b, o, seg, rfl, h1, h2, h3⟩ := VR_cptr h
  obtain ⟨pre, s, post, e1, e2, e3, _⟩ := FL_dec path 0 h2 hv
  refine ⟨b, o, rfl, VR_cptr_mk h1 e3 ?_⟩
  rw [e2, Nat.zero_add]
  rw [e1] at h3
  exact seg_sub h3
theorem fields_get {P : Program} {t : TypeId} {fs : List (TypeId × Nat)} (h : (TD.sct fs).ok P t) {f ft fo : Nat} (hf : fs[f]? = some (ft, fo)) :
    ∃ flds : Array Field, P.underlying t = some (.struct flds) ∧ ∃ fld, flds[f]? = some fld ∧ fld.type = ft ∧ fld.offset = fo := by
  obtain ⟨flds, h1, h2⟩ := h
  refine ⟨flds, h1, ?_⟩
  rw [← h2, List.getElem?_map, Array.getElem?_toList] at hf
  cases hq : flds[f]? with
  | none => rw [hq] at hf; cases hf
  | some fld =>
    rw [hq] at hf
    simp only [Option.map_some, Option.some.injEq, Prod.mk.injEq] at hf
    exact ⟨fld, rfl, hf.1, hf.2⟩
theorem run_fieldAt (hT : TOk P T) {t : TypeId} {fs : List (TypeId × Nat)} (htd : T.und t = .sct fs) {f ft fo : Nat} (hf : fs[f]? = some (ft, fo))
    (h1 : (T.und ft).known = true) (h2 : T.sz ft ≠ 0) (b o : Nat) (w : World) :
    (Instr.fieldAt t (.pointer (some ⟨b, o, none⟩)) f).run P w = .ok (.pointer (some ⟨b, o + fo, none⟩)) w := by
  have hu := hT.und t
  rw [htd] at hu
  obtain ⟨flds, e1, fld, e2, e3, e4⟩ := fields_get hu hf
  subst e3
  subst e4
  simp [Instr.fieldAt, run_underlying e1, e2, Instr.sureAddr, fieldPlace, run_sizeOf hT h1, h2, addr_add]
theorem run_indexAt_arr (hT : TOk P T) {t e : TypeId} {n : Nat} (htd : T.und t = .arr n e) (he : (T.und e).known = true) {k : IntKind} {j : Int} (h0 : 0 ≤ j) (h1 : j < (n : Int)) (b o : Nat) (w : World) :
    (Instr.indexAt t (.pointer (some ⟨b, o, none⟩)) (.int k j)).run P w = .ok (.pointer (some ⟨b, o + j.toNat * T.sz e, none⟩)) w := by
  have hu := hT.und t
  rw [htd] at hu
  simp [Instr.indexAt, asIntOf, run_underlying hu, Instr.sureAddr, h0, h1, run_sizeOf hT he, addr_add]
theorem run_indexAt_slc (hT : TOk P T) {t e : TypeId} {n c : Nat} (htd : T.und t = .slc e) (he : (T.und e).known = true) {k : IntKind} {j : Int} (h0 : 0 ≤ j) (h1 : j < (n : Int)) (b o : Nat) (w : World) :
    (Instr.indexAt t (.slice (some ⟨b, o, none⟩) n c) (.int k j)).run P w = .ok (.pointer (some ⟨b, o + j.toNat * T.sz e, none⟩)) w := by
  have hu := hT.und t
  rw [htd] at hu
  simp [Instr.indexAt, asIntOf, run_underlying hu, h0, h1, run_sizeOf hT he, addr_add]
theorem valid_snoc : ∀ (p : List Nat) {r : AV} {i : Nat}, valid r p → valid (sub r p) [i] → valid r (p ++ [i]) := by
  intro p
  induction p with
  | nil => intro r i _ h; cases r <;> exact h
  | cons j p ih =>
    intro r i h1 h2
    cases r with
    | arr n f => exact ⟨h1.1, h1.2.1, ih h1.2.2 h2⟩
    | sct n f => exact ⟨h1.1, ih h1.2 h2⟩
    | _ => exact h1.elim
theorem offs_snoc : ∀ (p : List Nat) {r : AV} (acc i : Nat), valid r p → offs acc r (p ++ [i]) = offs (offs acc r p) (sub r p) [i] := by
  intro p
  induction p with
  | nil => intro r acc i _; cases r <;> rfl
  | cons j p ih =>
    intro r acc i h
    cases r with
    | arr n f => exact ih _ _ h.2.2
    | sct n f => exact ih _ _ h.2
    | _ => exact h.elim
theorem FieldAddrW_sound {t : TypeId} {f : Nat} {x : Operand} {ev : EV} {K : AV → Prop} (hT : TOk P T) (h : FieldAddrW T t f (ev x) K) :
    ∃ v, K v ∧ PureS P T ev [x] (fun ρ => Instr.fieldAt t (ρ x) f) v := by
  unfold FieldAddrW at h
  split at h
  · rename_i fs htd
    split at h
    · rename_i ft fo hf
      obtain ⟨h1, h2, h⟩ := h
      split at h
      · rename_i u ex
        split at h
        · rename_i n g
          obtain ⟨h3, h4, h⟩ := h
          refine ⟨_, h, fun X κ ob w ρ hP hTT hR hv => ?_⟩
          have hx := hv x (by simp)
          rw [ex] at hx
          obtain ⟨b, o, e1, e2⟩ := cptr_sub (path := [f]) hx ⟨h3, by cases g f <;> trivial⟩
          simp only [sub, sub_nil] at e2
          refine ⟨_, ?_, e2⟩
          dsimp only
          rw [e1, run_fieldAt hT htd hf h1 h2]
          simp only [offs, offs_nil]
          rw [Nat.zero_add, h4]
        · exact h.elim
      · rename_i k i p o root ex
        split at h
        · rename_i n g hs
          obtain ⟨h3, h4, h⟩ := h
          refine ⟨_, h, fun X κ ob w ρ hP hTT hR hv => ?_⟩
          have hx := hv x (by simp)
          rw [ex] at hx
          obtain ⟨hd, e1, e2, e3, e4⟩ := hx
          refine ⟨_, ?_, hd, rfl, ?_, ?_, e4⟩
          · dsimp only
            rw [e1, run_fieldAt hT htd hf h1 h2]
          · rw [offs_snoc p 0 f e3, hs, e2, ← h4]
            simp only [offs, offs_nil]
          · refine valid_snoc p e3 ?_
            rw [hs]
            exact ⟨h3, by cases g f <;> trivial⟩
        · exact h.elim
      · exact h.elim
    · exact h.elim
  · exact h.elim
theorem IndexAddrW_sound {t : TypeId} {j : Int} {k : IntKind} {x ix : Operand} {ev : EV} {K : AV → Prop} (hT : TOk P T) (hix : ev ix = .int k j) (h : IndexAddrW T t (ev x) j K) :
    ∃ v, K v ∧ PureS P T ev [x, ix] (fun ρ => Instr.indexAt t (ρ x) (ρ ix)) v := by
  have key : ∀ {X : Cx} {κ : Gh} {ob : Ob} {w : World} {ρ : Operand → Value}, (∀ z ∈ [x, ix], VR (KK X κ ob w) (ev z) (ρ z)) → ρ ix = .int k j := by
    intro X κ ob w ρ hv
    have := hv ix (by simp)
    rw [hix] at this
    exact VR_int this
  unfold IndexAddrW at h
  split at h
  · rename_i u ex
    split at h
    · rename_i n g
      split at h
      · rename_i m e htd
        obtain ⟨rfl, he, hg, ⟨h0, h1⟩, h⟩ := h
        refine ⟨_, h, fun X κ ob w ρ hP hTT hR hv => ?_⟩
        have hx := hv x (by simp)
        rw [ex] at hx
        have hj : j.toNat < m := by omega
        have hval : valid (.arr m g) [j.toNat] := by
          obtain ⟨b, o, seg, _, _, ⟨gg, _, h3⟩, _⟩ := VR_cptr hx
          refine ⟨hj, ?_, valid_nil _⟩
          have h4 := h3 _ hj
          rw [← FL_len h4.1]
          exact h4.2
        obtain ⟨b, o, e1, e2⟩ := cptr_sub hx hval
        simp only [sub, sub_nil] at e2
        refine ⟨_, ?_, e2⟩
        dsimp only
        rw [e1, key hv, run_indexAt_arr hT htd he h0 h1]
        simp only [offs, offs_nil]
        rw [Nat.zero_add, hg]
      · exact h.elim
    · exact h.elim
  · rename_i k' i p o root ex
    split at h
    · rename_i n g hs
      split at h
      · rename_i m e htd
        obtain ⟨rfl, he, hg, hgj, ⟨h0, h1⟩, h⟩ := h
        refine ⟨_, h, fun X κ ob w ρ hP hTT hR hv => ?_⟩
        have hx := hv x (by simp)
        rw [ex] at hx
        obtain ⟨hd, e1, e2, e3, e4⟩ := hx
        refine ⟨_, ?_, hd, rfl, ?_, ?_, e4⟩
        · dsimp only
          rw [e1, key hv, run_indexAt_arr hT htd he h0 h1]
        · rw [offs_snoc p 0 _ e3, hs, e2]
          simp only [offs, offs_nil]
          rw [hg]
        · refine valid_snoc p e3 ?_
          rw [hs]
          exact ⟨by omega, hgj, valid_nil _⟩
      · exact h.elim
    · exact h.elim
  · rename_i k' i n e' ex
    split at h
    · rename_i e htd
      obtain ⟨rfl, he, ⟨h0, h1⟩, h⟩ := h
      refine ⟨_, h, fun X κ ob w ρ hP hTT hR hv => ?_⟩
      have hx := hv x (by simp)
      rw [ex] at hx
      obtain ⟨hd, hn, cap, cur, fr, e1, _⟩ := VR_own hx
      obtain ⟨iz, z, _, _, _, _, _, _, _, _, hz, _⟩ := hT.info e he
      refine ⟨_, ?_, hd, rfl, ?_, ⟨by omega, rfl, valid_nil _⟩, ?_⟩
      · dsimp only
        rw [e1, key hv, run_indexAt_slc hT htd he h0 h1]
      · simp only [offs, offs_nil]
        rw [hz]
      · rw [hn]; show _ = AV.arr n (fun _ => X.T.zero e); rw [hTT]
    · exact h.elim
  · rename_i n g ex
    split at h
    · rename_i e htd
      obtain ⟨he, hg, ⟨h0, h1⟩, h⟩ := h
      refine ⟨_, h, fun X κ ob w ρ hP hTT hR hv => ?_⟩
      have hx := hv x (by simp)
      rw [ex] at hx
      obtain ⟨A, cap, e1, _, _, h3⟩ := VR_ro hx
      have hj : j.toNat < n := by omega
      rcases h3 with h3 | ⟨b, o, gg, rfl, hJ, hs, hh⟩
      · omega
      obtain ⟨post, q1, q2⟩ := flat_get (s := (g 0).size) (g := gg) (n := n) (fun i hi => (hh i hi).2) hj
      rw [q1] at hs
      refine ⟨.pointer (some ⟨b, o + j.toNat * T.sz e, none⟩), ?_, VR_cptr_mk hJ (hh _ hj).1 ?_⟩
      · dsimp only
        rw [e1, key hv, run_indexAt_slc hT htd he h0 h1]
      · have := seg_sub hs
        rw [q2, hg] at this
        exact this
    · exact h.elim
  · exact h.elim
theorem IndexW_sound {t : TypeId} {j : Int} {k : IntKind} {x ix : Operand} {ev : EV} {K : AV → Prop} (hT : TOk P T) (hix : ev ix = .int k j) (h : IndexW T t (ev x) j K) :
    ∃ v, K v ∧ PureS P T ev [x, ix] (fun ρ => Instr.index t (ρ x) (ρ ix)) v := by
  have key : ∀ {X : Cx} {κ : Gh} {ob : Ob} {w : World} {ρ : Operand → Value}, (∀ z ∈ [x, ix], VR (KK X κ ob w) (ev z) (ρ z)) → ρ ix = .int k j := by
    intro X κ ob w ρ hv
    have := hv ix (by simp)
    rw [hix] at this
    exact VR_int this
  unfold IndexW at h
  split at h
  · rename_i n g ex
    split at h
    · rename_i m e htd
      obtain ⟨rfl, he, hg, hag, ⟨h0, h1⟩, h⟩ := h
      have hu := hT.und t
      rw [htd] at hu
      refine ⟨_, h, fun X κ ob w ρ hP hTT hR hv => ?_⟩
      have hx := hv x (by simp)
      rw [ex] at hx
      obtain ⟨cs, e1, gg, e2, e3⟩ := hx
      have hj : j.toNat < m := by omega
      obtain ⟨post, q1, q2⟩ := flat_get (s := (g 0).size) (g := gg) (n := m) (fun i hi => (e3 i hi).2) hj
      rw [q1] at e2
      have hp := VR_part e2 (e3 _ hj).1
      rw [q2, hg] at hp
      have hsz : (g j.toNat).size = T.sz e := by rw [← FL_len (e3 _ hj).1, (e3 _ hj).2, hg]
      have hrun : ∀ r : Result Value, (part e cs (j.toNat * T.sz e)).run P w = r → (Instr.index t (ρ x) (ρ ix)).run P w = r := by
        intro r hr
        rw [e1, key hv]
        simp only [Instr.index, asIntOf, Sem.run_bind, Sem.run_pure, Result.andThen_ok, run_underlying hu, h0, h1, and_self, if_true, run_sizeOf hT he]
        exact hr
      cases hb : (T.und e).isAgg with
      | true =>
        rw [hb] at hag
        exact ⟨_, hrun _ (run_part_agg hT he hb cs _ w), by have := hp.1 hag; rw [hsz] at this; exact this⟩
      | false =>
        rw [hb] at hag
        obtain ⟨c, k1, k2⟩ := hp.2 hag
        exact ⟨_, hrun _ (run_part_one hT he hb k1 w), k2⟩
    · exact h.elim
  · rename_i s ex
    split at h
    · rename_i htd
      obtain ⟨⟨h0, h1⟩, h⟩ := h
      have hu := hT.und t
      rw [htd] at hu
      refine ⟨_, h, fun X κ ob w ρ hP hTT hR hv => ?_⟩
      have hx := hv x (by simp)
      rw [ex] at hx
      have hj : j.toNat < s.size := by omega
      refine ⟨_, ?_, VR_int_mk _ _⟩
      dsimp only
      rw [VR_strg hx, key hv]
      simp [Instr.index, asIntOf, run_underlying hu, h0, hj, byteAt]
    · exact h.elim
  · exact h.elim
theorem FieldW_sound {t : TypeId} {f : Nat} {x : Operand} {ev : EV} {K : AV → Prop} (hT : TOk P T) (h : FieldW T t f (ev x) K) :
    ∃ v, K v ∧ PureS P T ev [x] (fun ρ => Instr.field t (ρ x) f) v := by
  unfold FieldW at h
  split at h
  · rename_i n g ex
    split at h
    · rename_i fs htd
      split at h
      · rename_i ft fo hf
        obtain ⟨h1, he, hsz, hag, h4, h⟩ := h
        have hu := hT.und t
        rw [htd] at hu
        obtain ⟨flds, u1, fld, u2, u3, u4⟩ := fields_get hu hf
        subst u3
        subst u4
        refine ⟨_, h, fun X κ ob w ρ hP hTT hR hv => ?_⟩
        have hx := hv x (by simp)
        rw [ex] at hx
        obtain ⟨cs, e1, gg, e2, e3⟩ := hx
        obtain ⟨post, q1, _⟩ := flat_split gg h1
        have q2 : (flat gg f).length = fld.offset := by rw [flat_len, ← h4]; exact sumTo_congr fun i hi => FL_len (e3 i (by omega))
        rw [q1] at e2
        have hp := VR_part e2 (e3 _ h1)
        rw [q2] at hp
        have hrun : ∀ r : Result Value, (part fld.type cs fld.offset).run P w = r → (Instr.field t (ρ x) f).run P w = r := by
          intro r hr
          rw [e1]
          simp only [Instr.field, Sem.run_bind, run_underlying u1, Result.andThen_ok, u2, asAgg, Sem.run_pure]
          exact hr
        cases hb : (T.und fld.type).isAgg with
        | true =>
          rw [hb] at hag
          exact ⟨_, hrun _ (run_part_agg hT he hb cs _ w), by have := hp.1 hag; rw [hsz] at this; exact this⟩
        | false =>
          rw [hb] at hag
          obtain ⟨c, k1, k2⟩ := hp.2 hag
          exact ⟨_, hrun _ (run_part_one hT he hb k1 w), k2⟩
      · exact h.elim
    · exact h.elim
  · exact h.elim
theorem LenW_sound {t : TypeId} {x : Operand} {ev : EV} {K : AV → Prop} (hT : TOk P T) (h : LenW (ev x) T t K) (ty : TypeId) :
    ∃ v, K v ∧ PureS P T ev [x] (fun ρ => Builtin.len_ #[t] ty #[ρ x]) v := by
  unfold LenW at h
  have hu := hT.und t
  split at h
  · rename_i e k i n e' htd ex
    rw [htd] at hu
    refine ⟨_, h, fun X κ ob w ρ hP hTT hR hv => ?_⟩
    have hx := hv x (by simp)
    rw [ex] at hx
    obtain ⟨hd, hn, cap, cur, fr, e1, _⟩ := VR_own hx
    refine ⟨_, ?_, VR_int_mk _ _⟩
    dsimp only
    rw [e1]
    simp [Builtin.len_, run_underlying hu, goInt]
  · rename_i e n f htd ex
    rw [htd] at hu
    refine ⟨_, h, fun X κ ob w ρ hP hTT hR hv => ?_⟩
    have hx := hv x (by simp)
    rw [ex] at hx
    obtain ⟨A, cap, e1, _⟩ := VR_ro hx
    refine ⟨_, ?_, VR_int_mk _ _⟩
    dsimp only
    rw [e1]
    simp [Builtin.len_, run_underlying hu, goInt]
  · rename_i e htd ex
    rw [htd] at hu
    refine ⟨_, h, fun X κ ob w ρ hP hTT hR hv => ?_⟩
    have hx := hv x (by simp)
    rw [ex] at hx
    refine ⟨_, ?_, VR_int_mk _ _⟩
    dsimp only
    rw [VR_nilsl hx]
    simp [Builtin.len_, run_underlying hu, goInt]
  · rename_i s htd ex
    rw [htd] at hu
    refine ⟨_, h, fun X κ ob w ρ hP hTT hR hv => ?_⟩
    have hx := hv x (by simp)
    rw [ex] at hx
    refine ⟨_, ?_, VR_int_mk _ _⟩
    dsimp only
    rw [VR_strg hx]
    simp [Builtin.len_, run_underlying hu, goInt]
  · rename_i n e v htd
    rw [htd] at hu
    refine ⟨_, h, fun X κ ob w ρ hP hTT hR hv => ?_⟩
    refine ⟨_, ?_, VR_int_mk _ _⟩
    simp [Builtin.len_, run_underlying hu, goInt]
  · exact h.elim
theorem ConvW_sound {s d : TypeId} {x : Operand} {ev : EV} {K : AV → Prop} (hT : TOk P T) (h : ConvW T s d (ev x) K) :
    ∃ v, K v ∧ PureS P T ev [x] (fun ρ => convert s d (ρ x)) v := by
  unfold ConvW at h
  split at h
  · rename_i k1 k2 k n h1 h2 ex
    have u1 := hT.und s
    have u2 := hT.und d
    rw [h1] at u1
    rw [h2] at u2
    refine ⟨_, h, fun X κ ob w ρ hP hTT hR hv => ?_⟩
    have hx := hv x (by simp)
    rw [ex] at hx
    refine ⟨_, ?_, VR_int_mk _ _⟩
    dsimp only
    rw [VR_int hx]
    simp [convert, run_underlying u1, run_underlying u2, Conv.intToInt]
  · rename_i e n f h1 h2 ex
    have u1 := hT.und s
    have u2 := hT.und d
    rw [h1] at u1
    rw [h2] at u2
    split at h
    · rename_i he
      have u3 := hT.und e
      rw [he] at u3
      obtain ⟨hf, h⟩ := h
      refine ⟨_, h, fun X κ ob w ρ hP hTT hR hv => ?_⟩
      have hx := hv x (by simp)
      rw [ex] at hx
      refine ⟨.string (bytesF n (fun i => (f i).toI)), ?_, rfl⟩
      dsimp only
      obtain ⟨A, cap, hc, _, _, h3⟩ := VR_ro hx
      rw [hc]
      have hlen : ((List.range n).map (fun i => UInt8.ofNat ((f i).toI).toNat)).length = n := by simp
      rcases h3 with h3 | ⟨b, o, g, hA, _, hseg, hg⟩
      · subst h3
        cases A with
        | none => exact run_convert_bytes_nil w s e u1 u3 0 cap d u2
        | some a => exact run_convert_bytes_back w s d e a cap [] u1 u3 u2 (fun j hj => by simp at hj)
      · subst hA
        obtain ⟨cur, e', fr, hb, hcell⟩ := hseg
        have := run_convert_bytes_back (P := P) w s d e ⟨b, o, none⟩ cap ((List.range n).map (fun i => UInt8.ofNat ((f i).toI).toNat)) u1 u3 u2 (fun j hj => by
          have hjn : j < n := by simpa using hj
          obtain ⟨k1, k2, k3⟩ := hf j hjn
          have hgj : g j = [.int .u8 (f j).toI] := by
            have := (hg j hjn).1
            rw [k1] at this
            exact this
          have hone : ∀ i, i < n → (g i).length = 1 := fun i hi => by
            have := (hg i hi).1
            rw [(hf i hi).1] at this
            rw [show g i = [.int .u8 (f i).toI] from this]; rfl
          have hflat : ∀ m, m ≤ n → j < m → (flat g m)[j]? = some (.int .u8 (f j).toI) := by
            intro m
            induction m with
            | zero => intro _ h; omega
            | succ m ih =>
              intro hm hj2
              have hl : (flat g m).length = m := by
                rw [flat_len, sumTo_congr (g := fun _ => 1) (fun i hi => hone i (by omega)), sumTo_const]; omega
              simp only [flat]
              by_cases hjm : j < m
              · rw [List.getElem?_append_left (by omega)]
                exact ih (by omega) hjm
              · have : j = m := by omega
                subst this
                rw [List.getElem?_append_right (by omega), hl, Nat.sub_self, hgj]; rfl
          have hcj := hcell j _ (hflat n (Nat.le_refl _) hjn)
          rw [addr_add]
          simp only [World.cell?, show w.heap[b]? = _ from hb]
          rw [hcj]
          simp only [List.getElem_map, List.getElem_range]
          have ht : (UInt8.ofNat ((f j).toI).toNat).toNat = ((f j).toI).toNat := by
            rw [UInt8.toNat_ofNat']
            exact Nat.mod_eq_of_lt (by omega)
          rw [ht, Int.toNat_of_nonneg k2]
          rfl)
        rw [hlen] at this
        exact this
    · exact h.elim
  · exact h.elim
theorem UnW_sound {op : UnOp} {x : Operand} {ev : EV} {K : AV → Prop} (h : UnW op (ev x) K) :
    ∃ v, K v ∧ PureS P T ev [x] (fun ρ => Op.unary op (ρ x)) v := by
  unfold UnW at h
  split at h
  · rename_i b ex
    refine ⟨_, h, fun X κ ob w ρ hP hTT hR hv => ?_⟩
    have hx := hv x (by simp)
    rw [ex] at hx
    refine ⟨_, ?_, VR_bool_mk _⟩
    dsimp only
    rw [VR_bool hx]
    simp [Op.unary]
  · rename_i k n ex
    refine ⟨_, h, fun X κ ob w ρ hP hTT hR hv => ?_⟩
    have hx := hv x (by simp)
    rw [ex] at hx
    refine ⟨_, ?_, VR_int_mk _ _⟩
    dsimp only
    rw [VR_int hx]
    simp [Op.unary, Op.intArith]
  · exact h.elim
theorem flat_shift (g : Nat → List Value) {l h n : Nat} (h1 : l ≤ h) (h2 : h ≤ n) : ∃ post, flat g n = flat g l ++ (flat (fun i => g (l + i)) (h - l) ++ post) := by
  have a : ∀ d, flat g (l + d) = flat g l ++ flat (fun i => g (l + i)) d := by
    intro d
    induction d with
    | zero => simp [flat]
    | succ d ih => rw [Nat.add_succ]; simp only [flat]; rw [ih]; simp
  have b : ∀ d, ∃ post, flat g (h + d) = flat g h ++ post := by
    intro d
    induction d with
    | zero => exact ⟨[], by simp⟩
    | succ d ih =>
      obtain ⟨p, hp⟩ := ih
      exact ⟨p ++ g (h + d), by rw [Nat.add_succ]; simp only [flat]; rw [hp]; simp⟩
  obtain ⟨post, hp⟩ := b (n - h)
  have e1 : h + (n - h) = n := by omega
  rw [e1] at hp
  have e2 := a (h - l)
  have e3 : l + (h - l) = h := by omega
  rw [e3] at e2
  exact ⟨post, by rw [hp, e2]; simp⟩
theorem bd_get {d : Nat} {x : Option Operand} {ev : EV} {K : Int → Prop} (h : bdW d (x.map ev) K) : ∃ j : Int, K j ∧ ((x = none ∧ j = d) ∨ ∃ o k, x = some o ∧ ev o = .int k j) := by
  unfold bdW at h
  split at h
  · rename_i hx
    cases x with
    | none => exact ⟨_, h, .inl ⟨rfl, rfl⟩⟩
    | some o => simp at hx
  · rename_i k j hx
    cases x with
    | none => simp at hx
    | some o => simp at hx; exact ⟨_, h, .inr ⟨o, k, rfl, hx⟩⟩
  · exact h.elim
theorem bd_val {d : Nat} {x : Option Operand} {ev : EV} {j : Int} {Kx' : Kx} {ρ : Operand → Value} (hb : (x = none ∧ j = d) ∨ ∃ o k, x = some o ∧ ev o = .int k j)
    (hv : ∀ z ∈ x.toList, VR Kx' (ev z) (ρ z)) : (x.map ρ = none ∧ j = d) ∨ ∃ k, x.map ρ = some (.int k j) := by
  rcases hb with ⟨rfl, rfl⟩ | ⟨o, k, rfl, he⟩
  · exact .inl ⟨rfl, rfl⟩
  · have := hv o (by simp)
    rw [he] at this
    exact .inr ⟨k, by simp [VR_int this]⟩
theorem run_bounds (isS : Bool) (len cap : Nat) {lo hi : Option Value} {l h : Int} (hl : (lo = none ∧ l = (0 : Nat)) ∨ ∃ k, lo = some (.int k l)) (hh : (hi = none ∧ h = len) ∨ ∃ k, hi = some (.int k h))
    (h0 : 0 ≤ l) (h1 : l ≤ h) (h2 : h ≤ (cap : Int)) (w : World) : (Instr.sliceBounds isS len cap lo hi none).run P w = .ok (l.toNat, h.toNat, cap) w := by
  have h3 : (0 : Int) ≤ h := by omega
  have h4 : l ≤ (h.toNat : Int) := by omega
  rcases hl with ⟨rfl, rfl⟩ | ⟨k, rfl⟩
  · rcases hh with ⟨rfl, rfl⟩ | ⟨k', rfl⟩
    · simp [Instr.sliceBounds]
    · simp [Instr.sliceBounds, Instr.sliceBound, asIntOf, h3, h2]
  · rcases hh with ⟨rfl, rfl⟩ | ⟨k', rfl⟩
    · simp [Instr.sliceBounds, Instr.sliceBound, asIntOf, h0, h1]
    · simp [Instr.sliceBounds, Instr.sliceBound, asIntOf, h0, h4, h3, h2]
      intro; omega
theorem VR_ro_cut {K : Kx} {g : Nat → AV} {n l h b o m : Nat} {gg : Nat → List Value} (hJ : K.J b) (hs : K.seg b o (flat gg n)) (hh : ∀ i, i < n → FL K (g i) (gg i) ∧ (gg i).length = (g 0).size)
    (h1 : l ≤ h) (h2 : h ≤ n) (h3 : h ≤ m) (h4 : m ≤ maxLen) (hl : (g l).size = (g 0).size) :
    VR K (.ro (h - l) (fun i => g (l + i))) (.slice (some ⟨b, o + l * (g 0).size, none⟩) (h - l) (m - l)) := by
  refine ⟨_, _, rfl, by omega, by omega, ?_⟩
  by_cases hz : h - l = 0
  · exact .inl hz
  · refine .inr ⟨b, _, fun i => gg (l + i), rfl, hJ, ?_, fun i hi => ⟨(hh _ (by omega)).1, by rw [(hh _ (by omega)).2]; exact hl.symm⟩⟩
    obtain ⟨post, hp⟩ := flat_shift gg h1 h2
    rw [hp] at hs
    have := seg_sub hs
    rwa [flat_len, sumTo_congr (g := fun _ => (g 0).size) (fun j hj => (hh j (by omega)).2), sumTo_const] at this
theorem SliceW_sound {t : TypeId} {x : Operand} {lo hi : Option Operand} {ev : EV} {K : AV → Prop} (hT : TOk P T) (h : SliceW T t (ev x) (lo.map ev) (hi.map ev) K) :
    ∃ v, K v ∧ PureS P T ev (x :: (lo.toList ++ hi.toList)) (fun ρ => Instr.sliceAt t (ρ x) (lo.map ρ) (hi.map ρ) none) v := by
  unfold SliceW at h
  have hu := hT.und t
  split at h
  · rename_i n g ex
    split at h
    · rename_i e htd
      rw [htd] at hu
      obtain ⟨he, hg, h⟩ := h
      obtain ⟨hb, h, hhi⟩ := bd_get h
      obtain ⟨lb, h, hlo⟩ := bd_get h
      obtain ⟨⟨q0, q1, q2, q3⟩, h⟩ := h
      refine ⟨_, h, fun X κ ob w ρ hP hTT hR hv => ?_⟩
      have hx := hv x (by simp)
      rw [ex] at hx
      have vhi := bd_val hhi (ρ := ρ) (fun z hz => hv z (by simp [hz]))
      have vlo := bd_val hlo (ρ := ρ) (fun z hz => hv z (by simp [hz]))
      obtain ⟨A, cap, e1, c1, c2, c3⟩ := VR_ro hx
      have hrun : (Instr.sliceAt t (ρ x) (lo.map ρ) (hi.map ρ) none).run P w = .ok (.slice (if cap = lb.toNat then A else A.map (·.add (lb.toNat * T.sz e))) (hb.toNat - lb.toNat) (cap - lb.toNat)) w := by
        rw [e1]
        simp [Instr.sliceAt, Instr.slice, run_underlying hu, run_bounds (P := P) true n cap vlo vhi q0 q1 (by omega) w, run_sizeOf hT he]
      rcases c3 with c3 | ⟨b, o, gg, rfl, hJ, hs, hh⟩
      · refine ⟨_, hrun, ⟨_, _, rfl, by omega, by omega, .inl (by omega)⟩⟩
      · by_cases hz : hb.toNat - lb.toNat = 0
        · exact ⟨_, hrun, ⟨_, _, rfl, by omega, by omega, .inl hz⟩⟩
        · refine ⟨_, hrun, ?_⟩
          rw [if_neg (by omega)]
          simp only [Option.map_some, addr_add]
          rw [← hg]
          exact VR_ro_cut hJ hs hh (by omega) (by omega) (by omega) c2 q3
    · exact h.elim
  · rename_i u ex
    split at h
    · rename_i n g
      split at h
      · rename_i m e htd
        rw [htd] at hu
        obtain ⟨rfl, he, hg, hml, h⟩ := h
        obtain ⟨hb, h, hhi⟩ := bd_get h
        obtain ⟨lb, h, hlo⟩ := bd_get h
        obtain ⟨⟨q0, q1, q2, q3⟩, h⟩ := h
        refine ⟨_, h, fun X κ ob w ρ hP hTT hR hv => ?_⟩
        have hx := hv x (by simp)
        rw [ex] at hx
        have vhi := bd_val hhi (ρ := ρ) (fun z hz => hv z (by simp [hz]))
        have vlo := bd_val hlo (ρ := ρ) (fun z hz => hv z (by simp [hz]))
        obtain ⟨b, o, seg, e1, hJ, ⟨gg, rfl, hh⟩, hs⟩ := VR_cptr hx
        have hrun : (Instr.sliceAt t (ρ x) (lo.map ρ) (hi.map ρ) none).run P w = .ok (.slice (some (if m = lb.toNat then ⟨b, o, none⟩ else (⟨b, o, none⟩ : Addr).add (lb.toNat * T.sz e))) (hb.toNat - lb.toNat) (m - lb.toNat)) w := by
          rw [e1]
          simp [Instr.sliceAt, run_underlying hu, run_bounds (P := P) false m m vlo vhi q0 q1 q2 w, run_sizeOf hT he, Instr.sureAddr]
        by_cases hz : hb.toNat - lb.toNat = 0
        · exact ⟨_, hrun, ⟨_, _, rfl, by omega, by omega, .inl hz⟩⟩
        · refine ⟨_, hrun, ?_⟩
          rw [if_neg (by omega)]
          simp only [addr_add]
          rw [← hg]
          exact VR_ro_cut hJ hs hh (by omega) (by omega) (by omega) hml q3
      · exact h.elim
    · exact h.elim
  · rename_i s ex
    split at h
    · rename_i htd
      rw [htd] at hu
      obtain ⟨hb, h, hhi⟩ := bd_get h
      obtain ⟨lb, h, hlo⟩ := bd_get h
      obtain ⟨⟨q0, q1, q2⟩, h⟩ := h
      refine ⟨_, h, fun X κ ob w ρ hP hTT hR hv => ?_⟩
      have hx := hv x (by simp)
      rw [ex] at hx
      have vhi := bd_val hhi (ρ := ρ) (fun z hz => hv z (by simp [hz]))
      have vlo := bd_val hlo (ρ := ρ) (fun z hz => hv z (by simp [hz]))
      refine ⟨.string (s.extract lb.toNat hb.toNat), ?_, rfl⟩
      dsimp only
      rw [VR_strg hx]
      simp [Instr.sliceAt, Instr.slice, run_underlying hu, run_bounds (P := P) false s.size s.size vlo vhi q0 q1 q2 w]
    · exact h.elim
  · exact h.elim
theorem PureJ_of_S {o : Oper} {ev : EV} {v : AV} {xs : List Operand} {s : (Operand → Value) → Sem Value} (hs : PureS P T ev xs s v) (hx : ∀ x ∈ xs, x ∈ o.op.operands.toList)
    (he : ∀ ρ w, (execOp ρ o).run P w = ((s ρ).run P w).andThen fun c w' => .ok (.value c) w') : PureJ P T o ev v := by
  intro X κ ob w ρ hP hTT hR hv
  obtain ⟨c, h1, h2⟩ := hs X κ ob w ρ hP hTT hR (fun x hm => hv x (hx x hm))
  refine ⟨c, ?_, h2⟩
  rw [he, h1]
  rfl
theorem PW_sound {o : Oper} {ev : EV} {K : AV → Prop} (hT : TOk P T) (h : PW T o.op ev K) : ∃ v, K v ∧ PureJ P T o ev v := by
  unfold PW at h
  split at h
  · rename_i x ho
    exact ⟨_, h, fun X κ ob w ρ hP hTT hR hv => ⟨_, by simp [execOp, ho], hv x (by simp [ho, Op.operands])⟩⟩
  · rename_i x ho
    exact ⟨_, h, fun X κ ob w ρ hP hTT hR hv => ⟨_, by simp [execOp, ho], hv x (by simp [ho, Op.operands])⟩⟩
  · rename_i c a b ho
    split at h
    · rename_i ec
      refine ⟨_, h, fun X κ ob w ρ hP hTT hR hv => ?_⟩
      have h1 := hv c (by simp [ho, Op.operands])
      rw [ec] at h1
      exact ⟨_, by simp [execOp, ho, asBool, VR_bool h1], hv a (by simp [ho, Op.operands])⟩
    · rename_i ec
      refine ⟨_, h, fun X κ ob w ρ hP hTT hR hv => ?_⟩
      have h1 := hv c (by simp [ho, Op.operands])
      rw [ec] at h1
      exact ⟨_, by simp [execOp, ho, asBool, VR_bool h1], hv b (by simp [ho, Op.operands])⟩
    · exact h.elim
  · rename_i x ho
    split at h
    · rename_i v ex
      refine ⟨_, h, fun X κ ob w ρ hP hTT hR hv => ?_⟩
      have h1 := hv x (by simp [ho, Op.operands])
      rw [ex] at h1
      obtain ⟨b, oo, seg, e1, _⟩ := VR_cptr h1
      exact ⟨ρ x, by simp [execOp, ho, e1], h1⟩
    · rename_i k i p oo r ex
      refine ⟨_, h, fun X κ ob w ρ hP hTT hR hv => ?_⟩
      have h1 := hv x (by simp [ho, Op.operands])
      rw [ex] at h1
      have e1 := h1.2.1
      exact ⟨ρ x, by simp [execOp, ho, e1], h1⟩
    · rename_i g n c ex
      refine ⟨_, h, fun X κ ob w ρ hP hTT hR hv => ?_⟩
      have h1 := hv x (by simp [ho, Op.operands])
      rw [ex] at h1
      obtain ⟨cv, e1, _⟩ := h1
      exact ⟨ρ x, by simp [execOp, ho, e1], by have h2 := hv x (by simp [ho, Op.operands]); rw [ex] at h2; exact h2⟩
    · exact h.elim
  · rename_i t x f ho
    obtain ⟨v, h1, h2⟩ := FieldAddrW_sound hT h
    exact ⟨v, h1, PureJ_of_S h2 (by simp [ho, Op.operands]) (fun ρ w => by simp [execOp, ho])⟩
  · rename_i t x ix ho
    split at h
    · rename_i k j hix
      obtain ⟨v, h1, h2⟩ := IndexAddrW_sound hT hix h
      exact ⟨v, h1, PureJ_of_S h2 (by simp [ho, Op.operands]) (fun ρ w => by simp [execOp, ho])⟩
    · exact h.elim
  · rename_i t x ix ho
    split at h
    · rename_i k j hix
      obtain ⟨v, h1, h2⟩ := IndexW_sound hT hix h
      exact ⟨v, h1, PureJ_of_S h2 (by simp [ho, Op.operands]) (fun ρ w => by simp [execOp, ho])⟩
    · exact h.elim
  · rename_i t x f ho
    obtain ⟨v, h1, h2⟩ := FieldW_sound hT h
    exact ⟨v, h1, PureJ_of_S h2 (by simp [ho, Op.operands]) (fun ρ w => by simp [execOp, ho])⟩
  · rename_i x i ho
    split at h
    · rename_i n g ex
      obtain ⟨hi, h⟩ := h
      refine ⟨_, h, fun X κ ob w ρ hP hTT hR hv => ?_⟩
      have h1 := hv x (by simp [ho, Op.operands])
      rw [ex] at h1
      obtain ⟨vs, e1, e2, e3⟩ := h1
      have hlt : i < vs.size := by omega
      refine ⟨vs[i], by simp [execOp, ho, e1, Instr.extract, hlt], ?_⟩
      have := e3 i hi
      simpa [hlt] using this
    · exact h.elim
  · rename_i op t x y yt ho
    obtain ⟨v, h1, h2⟩ := BW_sound hT h
    exact ⟨v, h1, PureJ_of_S h2 (by simp [ho, Op.operands]) (fun ρ w => by simp [execOp, ho]; cases (Sem.run P (eqGuard op t x y (ρ x) (ρ y)) w) <;> rfl)⟩
  · rename_i op t x ho
    obtain ⟨v, h1, h2⟩ := UnW_sound (P := P) (T := T) h
    exact ⟨v, h1, PureJ_of_S h2 (by simp [ho, Op.operands]) (fun ρ w => by simp [execOp, ho])⟩
  · rename_i s d x ho
    obtain ⟨v, h1, h2⟩ := ConvW_sound hT h
    exact ⟨v, h1, PureJ_of_S h2 (by simp [ho, Op.operands]) (fun ρ w => by simp [execOp, ho])⟩
  · rename_i g first caps ho
    obtain ⟨hf, h⟩ := h
    refine ⟨_, h, fun X κ ob w ρ hP hTT hR hv => ?_⟩
    refine ⟨.func (.func g) #[] (caps.map ρ), by simp [execOp, ho, Instr.makeFunc, hf], _, rfl, by simp, fun i hi => ?_⟩
    have h1 := hv (caps.toList.getD i (.const undef)) (by
      simp only [ho, Op.operands, hf, Array.empty_append]
      rw [List.getD_eq_getElem?_getD, List.getElem?_eq_getElem (by simpa using hi)]
      simp)
    have : (caps.map ρ).getD i undef = ρ (caps.toList.getD i (.const undef)) := by
      simp [hi]
    rw [this]
    exact h1
  · rename_i t x lo hi ho
    obtain ⟨v, h1, h2⟩ := SliceW_sound hT h
    refine ⟨v, h1, PureJ_of_S h2 (fun z hz => ?_) (fun ρ w => by simp [execOp, ho])⟩
    simp only [List.mem_cons, List.mem_append, Option.mem_toList] at hz
    rcases hz with rfl | hz | hz
    · simp [ho, Op.operands]
    · simp [ho, Op.operands, hz]
    · simp [ho, Op.operands, hz]
  · rename_i t x hb mb ho
    have hu := hT.und t
    split at h
    · rename_i n g k a k' b e ex eh em htd
      rw [htd] at hu
      obtain ⟨⟨rfl, q0, q1, he, hg⟩, h⟩ := h
      refine ⟨_, h, fun X κ ob w ρ hP hTT hR hv => ?_⟩
      have hx := hv x (by simp [ho, Op.operands])
      have hh := hv hb (by simp [ho, Op.operands])
      have hm := hv mb (by simp [ho, Op.operands])
      rw [ex] at hx
      rw [eh] at hh
      rw [em] at hm
      obtain ⟨A, cap, e1, c1, c2, c3⟩ := VR_ro hx
      have hrun : (execOp ρ o).run P w = .ok (.value (.slice (if a.toNat = 0 then A else A.map (·.add (0 * T.sz e))) (a.toNat - 0) (a.toNat - 0))) w := by
        simp [execOp, ho, e1, VR_int hh, VR_int hm, Instr.sliceAt, Instr.slice, run_underlying hu, Instr.sliceBounds, Instr.sliceBound, asIntOf, q0, show a ≤ (cap : Int) by omega, show a ≤ (a.toNat : Int) by omega, run_sizeOf hT he]
        intro hlt
        exact absurd hlt (by omega)
      refine ⟨_, hrun, ?_⟩
      rcases c3 with c3 | ⟨b, o, gg, rfl, hJ, hs, hc⟩
      · exact ⟨_, _, rfl, by omega, by omega, .inl (by omega)⟩
      · by_cases hz : a.toNat = 0
        · exact ⟨_, _, rfl, by omega, by omega, .inl hz⟩
        · rw [if_neg hz]
          simp only [Option.map_some, addr_add]
          rw [← hg]
          have := VR_ro_cut (l := 0) (h := a.toNat) (m := a.toNat) hJ hs hc (by omega) (by omega) (by omega) (by omega) rfl
          simpa using this
    · exact h.elim
  · rename_i args argTypes ho
    split at h
    · rename_i x t ha ht
      have ha' : args = #[x] := by rw [← Array.toArray_toList (xs := args), ha]
      have ht' : argTypes = #[t] := by rw [← Array.toArray_toList (xs := argTypes), ht]
      subst ha'
      subst ht'
      obtain ⟨v, h1, h2⟩ := LenW_sound hT h o.type
      refine ⟨v, h1, PureJ_of_S h2 (fun z hz => by simp at hz; subst hz; simp [ho, Op.operands, Call.operands]) (fun ρ w => ?_)⟩
      simp [execOp, ho, resolve, invoke, builtin]
    · exact h.elim
  · rename_i args argTypes ho
    split at h
    · rename_i x y ha
      have ha' : args = #[x, y] := by rw [← Array.toArray_toList (xs := args), ha]
      subst ha'
      split at h
      · rename_i k a k' b ex ey
        refine ⟨_, h, fun X κ ob w ρ hP hTT hR hv => ⟨.int k (if b > a then b else a), ?_, VR_int_mk _ _⟩⟩
        have hx := hv x (by simp [ho, Op.operands, Call.operands])
        have hy := hv y (by simp [ho, Op.operands, Call.operands])
        rw [ex] at hx
        rw [ey] at hy
        simp [execOp, ho, resolve, invoke, builtin, Builtin.max_, Builtin.max2, VR_int hx, VR_int hy]
      · exact h.elim
    · exact h.elim
  · exact h.elim
end
end Go.Am

namespace Go.Am
def Out (X : Cx) (κ : Gh) (ob : Ob) (w : World) (ob' : Ob) (v : AV) : Result Next → Prop
  | .ok (.value c) w' => ∃ κ', Rel X κ' ob' w' ∧ VR (KK X κ' ob' w') v c ∧ Le (KK X κ ob w) (KK X κ' ob' w')
  | .ok .skip w' => ∃ κ', Rel X κ' ob' w' ∧ VR (KK X κ' ob' w') v undef ∧ Le (KK X κ ob w) (KK X κ' ob' w')
  | .ok (.enter f args) w1 => Calls X.P f args w1 (fun e w' => ∃ c κ', e = .returned c ∧ Rel X κ' ob' w' ∧ VR (KK X κ' ob' w') v c ∧ Le (KK X κ ob w) (KK X κ' ob' w'))
  | _ => False
def PassJ (P : Program) (T : TT) (o : Oper) (ev : EV) (ob : Ob) (v : AV) (A : OL) : Prop :=
  ∀ (X : Cx) (κ : Gh) (ob1 : Ob) (w : World) (ρ : Operand → Value), X.P = P → X.T = T → Rel X κ ob1 w →
    (∀ k, ob1.has k = true → ob.has k = true → ∀ i, ob1.at_ k i = ob.at_ k i) → (∀ k, A.has k = true → ob1.has k = false) →
    (∀ x ∈ o.op.operands.toList, VR (KK X κ ob1 w) (ev x) (ρ x)) → Out X κ ob1 w (A.ob.ext ob1) v ((execOp ρ o).run P w)
def ActJ (P : Program) (T : TT) (o : Oper) (ev : EV) (ob : Ob) (v : AV) (ob' : Ob) : Prop :=
  ∀ (X : Cx) (κ : Gh) (w : World) (ρ : Operand → Value), X.P = P → X.T = T → Rel X κ ob w →
    (∀ x ∈ o.op.operands.toList, VR (KK X κ ob w) (ev x) (ρ x)) → Out X κ ob w ob' v ((execOp ρ o).run P w)
theorem Ob.ext_nil (o : Ob) : (OL.ob []).ext o = o := by
  obtain ⟨a, h⟩ := o
  simp [Ob.ext, OL.ob, OL.has]
section
variable {P : Program} {T : TT}
theorem PassJ.of_pure {o : Oper} {ev : EV} {v : AV} (h : PureJ P T o ev v) (ob : Ob) : PassJ P T o ev ob v [] := by
  intro X κ ob1 w ρ hP hT hR _ _ hv
  obtain ⟨c, h1, h2⟩ := h X κ ob1 w ρ hP hT hR hv
  rw [h1, Ob.ext_nil]
  exact ⟨κ, hR, h2, Le.refl _⟩
theorem foldl_set : ∀ (vs : List Value) (k off : Nat) (cells : Array Value), off + k + vs.length ≤ cells.size →
    ((vs.zipIdx k).foldl (fun (cs : Array Value) (p : Value × Nat) => cs.setIfInBounds (off + p.2) p.1) cells).toList =
      cells.toList.take (off + k) ++ vs ++ cells.toList.drop (off + k + vs.length)
  | [], k, off, cells, h => by simp
  | v :: vs, k, off, cells, h => by
    simp only [List.length_cons] at h
    rw [List.zipIdx_cons, List.foldl_cons]
    rw [foldl_set vs (k + 1) off _ (by rw [Array.size_setIfInBounds]; omega)]
    have hlt : off + k < cells.toList.length := by simp; omega
    simp only [Array.toList_setIfInBounds, List.length_cons]
    have e1 : (cells.toList.set (off + k) v).take (off + (k + 1)) = cells.toList.take (off + k) ++ [v] := by
      rw [← Nat.add_assoc, List.take_add_one, List.take_set_of_le (Nat.le_refl _), List.getElem?_set_self hlt]
      rfl
    have e2 : (cells.toList.set (off + k) v).drop (off + (k + 1) + vs.length) = cells.toList.drop (off + k + (vs.length + 1)) := by
      rw [List.drop_set_of_lt (by omega)]
      congr 1
      omega
    rw [e1, e2]
    simp
theorem run_fill {place : Nat → Option (Nat × Nat)} {cells : Array Value} {i : Nat} {v : Value} {rest : List (Nat × Value)} {off size : Nat} (hp : place i = some (off, size)) (hs : v.cells.size = size)
    (hf : off + size ≤ cells.size) :
    Instr.fill place cells ((i, v) :: rest) = Instr.fill place (cells.toList.take off ++ v.cells.toList ++ cells.toList.drop (off + size)).toArray rest := by
  simp only [Instr.fill, hp]
  have h1 : ¬ (v.cells.size ≠ size || decide (off + v.cells.size > cells.size)) = true := by
    simp [hs]; omega
  rw [if_neg h1]
  congr 1
  have h2 := foldl_set v.cells.toList 0 off cells (by simp; omega)
  simp only [Nat.add_zero, Array.length_toList] at h2
  rw [← hs, ← h2]
  have h3 : v.cells.toList.zipIdx = v.cells.zipIdx.toList := by rw [Array.toList_zipIdx]
  rw [Array.toArray_toList, h3, Array.foldl_toList]
def fillF (ev : EV) : List (Nat × Operand) → (Nat → AV) → (Nat → AV)
  | [], f => f
  | (j, x) :: r, f => fillF ev r (fun i => bif Nat.beq i j then ev x else f i)
def fillOk (ev : EV) (n : Nat) (s : Nat → Nat) : List (Nat × Operand) → Prop
  | [] => True
  | (j, x) :: r => (j < n ∧ (ev x).cel ∧ (ev x).size = s j) ∧ fillOk ev n s r
theorem fill_go {K : Kx} {ev : EV} {ρ : Operand → Value} {n : Nat} {s : Nat → Nat} {place : Nat → Option (Nat × Nat)}
    (hplace : ∀ i, i < n → place i = some (sumTo s i, s i)) :
    ∀ (parts : List (Nat × Operand)) (f : Nat → AV) (g : Nat → List Value) (cells : Array Value),
      cells.toList = flat g n → (∀ i, i < n → FL K (f i) (g i) ∧ (g i).length = s i) → fillOk ev n s parts → (∀ p ∈ parts, VR K (ev p.2) (ρ p.2)) →
      ∃ (g' : Nat → List Value) (cells' : Array Value), Instr.fill place cells (parts.map fun p => (p.1, ρ p.2)) = some cells' ∧ cells'.toList = flat g' n ∧
        ∀ i, i < n → FL K (fillF ev parts f i) (g' i) ∧ (g' i).length = s i
  | [], f, g, cells, hc, hg, _, _ => ⟨g, cells, rfl, hc, hg⟩
  | (j, x) :: r, f, g, cells, hc, hg, hok, hv => by
    obtain ⟨⟨hj, hcel, hsz⟩, hr⟩ := hok
    have hx := hv (j, x) (by simp)
    have hFL := FL_of_VR hcel hx
    have hl := FL_len hFL
    obtain ⟨post, q1, q2⟩ := flat_split g hj
    have hpre : (flat g j).length = sumTo s j := by rw [flat_len]; exact sumTo_congr fun i hi => (hg i (by omega)).2
    have hgj := (hg j hj).2
    simp only [Array.length_toList] at hl
    have hcs : cells.size = (flat g n).length := by rw [← hc]; simp
    have hfit : sumTo s j + s j ≤ cells.size := by
      rw [hcs, q1]; simp only [List.length_append]; omega
    have hstep : Instr.fill place cells (((j, x) :: r).map fun p => (p.1, ρ p.2)) =
        Instr.fill place (cells.toList.take (sumTo s j) ++ (ρ x).cells.toList ++ cells.toList.drop (sumTo s j + s j)).toArray (r.map fun p => (p.1, ρ p.2)) := by
      rw [List.map_cons]
      exact run_fill (hplace j hj) (by rw [hl, hsz]) hfit
    rw [hstep]
    refine fill_go hplace r (fun i => bif Nat.beq i j then ev x else f i) (fun i => bif Nat.beq i j then (ρ x).cells.toList else g i) _ ?_ (fun i hi => ?_) hr (fun p hp => hv p (by simp [hp]))
    · rw [q2, hc, q1, ← hpre, List.take_left, ← hgj, ← List.length_append, ← List.append_assoc, List.drop_left]
      simp
    · cases hb : Nat.beq i j
      · exact hg i hi
      · have : i = j := Nat.eq_of_beq_eq_true hb
        subst this
        exact ⟨hFL, by simp only [cond_true, Array.length_toList]; rw [hl, hsz]⟩
theorem FL_zero (hT : TOk P T) {t : TypeId} (ht : (T.und t).known = true) : ∃ i z, P.info? t = some i ∧ i.zero = some z ∧ i.size = T.sz t ∧ (∀ K, FL K (T.zero t) z.cells.toList) ∧ z.cells.size = T.sz t := by
  obtain ⟨i, z, h1, h2, h3, h4, h5, h6, h7, h8, h9, _⟩ := hT.info t ht
  refine ⟨i, z, h1, h4, h2, h5, ?_⟩
  have := FL_len (h5 ⟨#[], fun _ => False, fun _ => False, fun _ _ => 0, fun _ _ => .any, fun _ => 0, fun _ => .any⟩)
  simp only [Array.length_toList] at this
  rw [this, h9]
theorem run_loadVar_seg (hT : TOk P T) {t : TypeId} (ht : (T.und t).known = true) {w : World} {b o : Nat} {seg : List Value} {cur : Array Value} {e : TypeId} {fr : Nat × Nat}
    (hb : w.heap[b]? = some (.cells cur e fr)) (hs : ∀ (j : Nat) (x : Value), seg[j]? = some x → cur[o + j]? = some x) (hl : seg.length = T.sz t) :
    ((T.und t).isAgg = true → (loadVar t ⟨b, o, none⟩).run P w = .ok (.agg seg.toArray) w) ∧
    ((T.und t).isAgg = false → ∀ c, seg = [c] → (loadVar t ⟨b, o, none⟩).run P w = .ok c w) := by
  have hc : ∀ j x, seg[j]? = some x → w.cell? ((⟨b, o, none⟩ : Addr).add j) = some x := by
    intro j x hx
    rw [addr_add]
    simp only [World.cell?, hb]
    exact hs j x hx
  constructor
  · intro hag
    have hlc := run_loadCells_list (P := P) w ⟨b, o, none⟩ seg hc
    rw [hl] at hlc
    simp [loadVar, run_isAgg hT ht, hag, run_sizeOf hT ht, hlc]
  · intro hag c hsc
    subst hsc
    have h0 := hc 0 c (by simp)
    rw [addr_add, Nat.add_zero] at h0
    simp [loadVar, run_isAgg hT ht, hag, h0]
def LoadW (T : TT) (t : TypeId) (v : AV) (ol : OL) (K : AV → Prop) : Prop :=
  (T.und t).known = true ∧ (match v with
    | .cptr u => u.size = T.sz t ∧ u.isAgg = (T.und t).isAgg ∧ K u
    | .ptr k i p o root => (match ol.at_ k i with
      | some (_, c) => (sub c p).size = T.sz t ∧ (sub c p).isAgg = (T.und t).isAgg ∧ K (sub c p)
      | none => False)
    | _ => False)
theorem load_fin (hT : TOk P T) {t : TypeId} (ht : (T.und t).known = true) {K : Kx} {w : World} (hw : K.heap = w.heap) {b o : Nat} {seg : List Value} {u : AV}
    (hu : FL K u seg) (hs : K.seg b o seg) (hsz : u.size = T.sz t) (hag : u.isAgg = (T.und t).isAgg) :
    ∃ c, (loadVar t ⟨b, o, none⟩).run P w = .ok c w ∧ VR K u c := by
  obtain ⟨cur, e, fr, h1, h2⟩ := hs
  rw [hw] at h1
  have hl : seg.length = T.sz t := by rw [FL_len hu, hsz]
  obtain ⟨r1, r2⟩ := run_loadVar_seg hT ht h1 h2 hl
  cases hb : (T.und t).isAgg with
  | true =>
    rw [hb] at hag
    exact ⟨_, r1 hb, VR_of_FL_agg hag (by simpa using hu)⟩
  | false =>
    rw [hb] at hag
    have : T.sz t = 1 := hT.one t ht hb
    obtain ⟨c, rfl⟩ : ∃ c, seg = [c] := by
      rw [this] at hl
      cases seg with
      | nil => simp at hl
      | cons a r => cases r with
        | nil => exact ⟨a, rfl⟩
        | cons b r => simp at hl
    exact ⟨c, r2 hb c rfl, VR_of_FL_one hag hu⟩
theorem live_seg {X : Cx} {κ : Gh} {ob : Ob} {w : World} (h : Rel X κ ob w) {k i : Nat} {root c : AV} (hk : ob.at_ k i = some (root, c)) {p : List Nat} (hv : valid root p) :
    ∃ seg, FL (KK X κ ob w) (sub c p) seg ∧ (KK X κ ob w).seg (κ.blk k i) (offs 0 root p) seg := by
  obtain ⟨cur, e, h1, h2, h3, h4, _⟩ := h.live k i root c hk
  obtain ⟨v1, v2, v3, v4⟩ := ssh_path p 0 h4 hv
  obtain ⟨pre, seg, post, q1, q2, q3, _⟩ := FL_dec p 0 h3 v1
  refine ⟨seg, q3, ?_⟩
  rw [v2, q2, Nat.zero_add]
  have : (KK X κ ob w).seg (κ.blk k i) 0 (cur.toList.take c.size) := ⟨cur, e, (0, 0), h1, fun j x hx => by
    rw [Nat.zero_add, ← Array.getElem?_toList]
    rw [List.getElem?_take] at hx
    split at hx
    · exact hx
    · cases hx⟩
  rw [q1] at this
  simpa using seg_sub this
theorem LoadW_sound {o : Oper} {t : TypeId} {x : Operand} (ho : o.op = .load t x) {ev : EV} {ol : OL} {K : AV → Prop} (hT : TOk P T) (h : LoadW T t (ev x) ol K) :
    ∃ v, K v ∧ PassJ P T o ev ol.ob v [] := by
  obtain ⟨ht, h⟩ := h
  have fin : ∀ {X : Cx} {κ : Gh} {ob1 : Ob} {w : World} {ρ : Operand → Value} {b oo : Nat} {v c : _}, Rel X κ ob1 w → ρ x = .pointer (some ⟨b, oo, none⟩) → (loadVar t ⟨b, oo, none⟩).run P w = .ok c w → VR (KK X κ ob1 w) v c →
      Out X κ ob1 w ((OL.ob []).ext ob1) v ((execOp ρ o).run P w) := by
    intro X κ ob1 w ρ b oo v c hR hx hrun hv
    rw [Ob.ext_nil]
    have : (execOp ρ o).run P w = .ok (.value c) w := by simp [execOp, ho, hx, Instr.loadAt, Instr.sureAddr, hrun]
    rw [this]
    exact ⟨κ, hR, hv, Le.refl _⟩
  split at h
  · rename_i u ex
    obtain ⟨h1, h2, h⟩ := h
    refine ⟨_, h, fun X κ ob1 w ρ hP hTT hR _ _ hv => ?_⟩
    have hx := hv x (by simp [ho, Op.operands])
    rw [ex] at hx
    obtain ⟨b, oo, seg, e1, hJ, hu, hs⟩ := VR_cptr hx
    obtain ⟨c, hrun, hvc⟩ := load_fin hT ht (K := KK X κ ob1 w) rfl hu hs h1 h2
    exact fin hR e1 hrun hvc
  · rename_i k i p oo root ex
    split at h
    · rename_i sh c hat
      obtain ⟨h1, h2, h⟩ := h
      refine ⟨_, h, fun X κ ob1 w ρ hP hTT hR hag _ hv => ?_⟩
      have hx := hv x (by simp [ho, Op.operands])
      rw [ex] at hx
      obtain ⟨hd, e1, e2, e3, e4⟩ := hx
      have hat' : ob1.at_ k i = some (sh, c) := by
        rw [hag k hd (OL.has_of_at (by rw [hat]; simp)) i]
        exact hat
      have hsh : sh = root := by
        obtain ⟨_, _, _, _, _, _, l5, _⟩ := hR.live k i sh c hat'
        exact l5.trans e4.symm
      subst hsh
      obtain ⟨seg, s1, s2⟩ := live_seg hR hat' e3
      rw [← e2] at s2
      obtain ⟨c', hrun, hvc⟩ := load_fin hT ht (K := KK X κ ob1 w) rfl s1 s2 h1 h2
      exact fin hR e1 hrun hvc
    · exact h.elim
  · exact h.elim
def AllocW (T : TT) (t : TypeId) (key : Nat) (ol : OL) (K : AV → OL → Prop) : Prop :=
  (T.und t).known = true ∧ ol.has key = false ∧ K (.ptr key 0 [] 0 (T.zero t)) [(key, .one (T.zero t) (T.zero t))]
theorem new_ptr {X : Cx} {κ : Gh} {ob1 : Ob} {w : World} {key : Nat} {c : AV} {cur : Array Value} {e : TypeId} (hR : Rel X κ ob1 w) (hk : ob1.has key = false)
    (hc : ∀ K', Le (KK X κ ob1 w) K' → FL K' c cur.toList) (hs : ssh c c) :
    ∃ κ', Rel X κ' ((OL.ob [(key, .one c c)]).ext ob1) (w.alloc (.cells cur e)) ∧
      VR (KK X κ' ((OL.ob [(key, .one c c)]).ext ob1) (w.alloc (.cells cur e))) (.ptr key 0 [] 0 c) (.pointer (some ⟨w.heap.size, 0, none⟩)) ∧
      Le (KK X κ ob1 w) (KK X κ' ((OL.ob [(key, .one c c)]).ext ob1) (w.alloc (.cells cur e))) := by
  have hle : Le (KK X κ ob1 w) (KK X (κ.set key w.heap.size c) ((OL.ob [(key, .one c c)]).ext ob1) (w.alloc (.cells cur e))) := Le.new hR (Gr.alloc w _) hk
  have hfl := hc _ hle
  have hlen := FL_len hfl
  refine ⟨κ.set key w.heap.size c, ?_, ?_, hle⟩
  · refine Rel.new hR (Gr.alloc w _) hk (cur := cur) (e := e) (heap_alloc_new w _) ?_ ?_ hs
    · simp at hlen; omega
    · rw [← hlen, List.take_length]; exact hfl
  · refine ⟨by show ((OL.ob [(key, .one c c)]).ext ob1).has key = true; rw [Ob.ext_one_has]; simp, ?_, by rw [offs_nil], valid_nil _, (Gh.set_shp κ key w.heap.size c 0).symm⟩
    show _ = Value.pointer (some ⟨(κ.set key w.heap.size c).blk key 0, 0, none⟩)
    rw [Gh.set_blk]
theorem AllocW_sound {o : Oper} {t : TypeId} (ho : o.op = .alloc t) {ev : EV} {ol : OL} {key : Nat} {K : AV → OL → Prop} (hT : TOk P T) (h : AllocW T t key ol K) :
    ∃ v A, K v A ∧ PassJ P T o ev ol.ob v A ∧ ∀ k, A.has k = true → ol.has k = false := by
  obtain ⟨ht, hk, h⟩ := h
  obtain ⟨i, z, h1, h2, h3, h4, h5⟩ := FL_zero hT ht
  obtain ⟨_, _, _, _, _, _, _, _, _, hss, _⟩ := hT.info t ht
  refine ⟨_, _, h, fun X κ ob1 w ρ hP hTT hR hag hA hv => ?_, fun k hk' => ?_⟩
  · have hk1 : ob1.has key = false := hA key (by simp [OL.has])
    obtain ⟨κ', r1, r2, r3⟩ := new_ptr (e := t) (cur := z.cells) hR hk1 (fun K' _ => h4 K') hss
    have : (execOp ρ o).run P w = .ok (.value (.pointer (some ⟨w.heap.size, 0, none⟩))) (w.alloc (.cells z.cells t)) := by
      simp [execOp, ho, Instr.alloc, zeroValue, typeInfo, h1, h2, newVar, newRow]
    rw [this]
    exact ⟨κ', r1, r2, r3⟩
  · simp only [OL.has] at hk'
    cases hb : Nat.beq k key
    · rw [hb] at hk'; cases hk'
    · rw [Nat.eq_of_beq_eq_true hb]; exact hk
def BoxW (key : Nat) (v : AV) (ol : OL) (K : AV → OL → Prop) : Prop :=
  v.cel ∧ (K (.cptr v) [] ∨ (ol.has key = false ∧ ssh v v ∧ K (.ptr key 0 [] 0 v) [(key, .one v v)]))
theorem J_new {X : Cx} {κ : Gh} {o : Ob} {w : World} (h : Rel X κ o w) (x : Obj) : (KK X κ o (w.alloc x)).J w.heap.size :=
  ⟨.inr (.inr ⟨h.size, by rw [size_alloc_eq]; omega⟩), fun k i hk hb => by have := h.blk_lt hk; omega⟩
theorem BoxW_sound {o : Oper} {t : TypeId} {x : Operand} (ho : o.op = .box t x) {ev : EV} {ol : OL} {key : Nat} {K : AV → OL → Prop} (hT : TOk P T) (h : BoxW key (ev x) ol K) :
    ∃ v A, K v A ∧ PassJ P T o ev ol.ob v A ∧ ∀ k, A.has k = true → ol.has k = false := by
  obtain ⟨hcel, h⟩ := h
  have hrun : ∀ (ρ : Operand → Value) (w : World), (execOp ρ o).run P w = .ok (.value (.pointer (some ⟨w.heap.size, 0, none⟩))) (w.alloc (.cells (ρ x).cells t)) := by
    intro ρ w
    simp [execOp, ho, Instr.box, newVar, newRow]
  rcases h with h | ⟨hk, hss, h⟩
  · refine ⟨_, _, h, fun X κ ob1 w ρ hP hTT hR hag hA hv => ?_, fun k hk' => by simp [OL.has] at hk'⟩
    rw [hrun, Ob.ext_nil]
    have hx := hv x (by simp [ho, Op.operands])
    have hg := Gr.alloc w (.cells (ρ x).cells t)
    have hle := Le.grow hR hg
    refine ⟨κ, hR.grow hg, VR_cptr_mk (J_new hR _) (FL_mono hle (FL_of_VR hcel hx)) ⟨(ρ x).cells, t, (0, 0), heap_alloc_new w _, fun j u hu => ?_⟩, hle⟩
    rw [Nat.zero_add, ← Array.getElem?_toList]; exact hu
  · refine ⟨_, _, h, fun X κ ob1 w ρ hP hTT hR hag hA hv => ?_, fun k hk' => ?_⟩
    · have hk1 : ob1.has key = false := hA key (by simp [OL.has])
      have hx := hv x (by simp [ho, Op.operands])
      obtain ⟨κ', r1, r2, r3⟩ := new_ptr (e := t) (cur := (ρ x).cells) hR hk1 (fun K' hle => FL_mono hle (FL_of_VR hcel hx)) hss
      rw [hrun]
      exact ⟨κ', r1, r2, r3⟩
    · simp only [OL.has] at hk'
      cases hb : Nat.beq k key
      · rw [hb] at hk'; cases hk'
      · rw [Nat.eq_of_beq_eq_true hb]; exact hk
end
end Go.Am

namespace Go.Am
section
variable {P : Program} {T : TT}
theorem madeCells_flat (z : Array Value) (hz : 0 < z.size) (n : Nat) : (madeCells z (n * z.size)).toList = flat (fun _ => z.toList) n := by
  have hbase : ∀ a : Nat, ((List.range z.size).map (fun j => z[(a * z.size + j) % z.size]!)) = z.toList := by
    intro a
    apply List.ext_getElem?
    intro j
    rw [List.getElem?_map]
    by_cases hj : j < z.size
    · rw [List.getElem?_range hj]
      have : (a * z.size + j) % z.size = j := by rw [Nat.add_comm, Nat.add_mul_mod_self_right, Nat.mod_eq_of_lt hj]
      simp [Nat.mod_eq_of_lt hj, hj]
    · rw [List.getElem?_eq_none (by simp; omega), List.getElem?_eq_none (by simp; omega)]
      rfl
  induction n with
  | zero => simp [madeCells, flat]
  | succ n ih =>
    simp only [flat]
    rw [← ih]
    simp only [madeCells, Array.toList_map, Array.toList_range]
    rw [Nat.add_mul, Nat.one_mul, List.range_add, List.map_append, List.map_map]
    congr 1
    exact hbase n
theorem new_own (hT : TOk P T) {X : Cx} {κ : Gh} {ob1 : Ob} {w w' : World} {key : Nat} {n : Nat} {F : Nat → AV} {cur : Array Value} {e : TypeId} {cap : Nat} (hTT : X.T = T) (he : (T.und e).known = true)
    (hR : Rel X κ ob1 w) (hk : ob1.has key = false) (hw : Gr w w') (hb : w'.heap[w.heap.size]? = some (.cells cur e (0, 0)))
    (hc : ∀ K', Le (KK X κ ob1 w) K' → ∃ g, (∀ i, i < n → FL K' (F i) (g i) ∧ (g i).length = T.sz e) ∧ cur.toList.take (n * T.sz e) = flat g n)
    (hcur : cur.size = cap * T.sz e) (hnc : n ≤ cap) (hm : cap ≤ maxLen) (hs : ∀ i, ssh (T.zero e) (F i)) :
    ∃ κ', Rel X κ' ((OL.ob [(key, .one (.arr n (fun _ => T.zero e)) (.arr n F))]).ext ob1) w' ∧
      VR (KK X κ' ((OL.ob [(key, .one (.arr n (fun _ => T.zero e)) (.arr n F))]).ext ob1) w') (.own key 0 n e) (.slice (some ⟨w.heap.size, 0, none⟩) n cap) ∧
      Le (KK X κ ob1 w) (KK X κ' ((OL.ob [(key, .one (.arr n (fun _ => T.zero e)) (.arr n F))]).ext ob1) w') := by
  have hle : Le (KK X κ ob1 w) (KK X (κ.set key w.heap.size (.arr n (fun _ => T.zero e))) ((OL.ob [(key, .one (.arr n (fun _ => T.zero e)) (.arr n F))]).ext ob1) w') := Le.new hR hw hk
  obtain ⟨g, hg, hfl⟩ := hc _ hle
  have hF0 : n ≠ 0 → (F 0).size = T.sz e := fun h0 => by
    have := hg 0 (by omega)
    rw [← FL_len this.1, this.2]
  have hsize : (AV.arr n F).size = n * T.sz e := by
    simp only [AV.size]
    by_cases h0 : n = 0
    · subst h0; simp
    · rw [hF0 h0]
  have hle2 : n * T.sz e ≤ cap * T.sz e := Nat.mul_le_mul_right _ hnc
  refine ⟨κ.set key w.heap.size (.arr n (fun _ => T.zero e)), ?_, ?_, hle⟩
  · refine Rel.new hR hw hk (cur := cur) (e := e) hb ?_ ?_ ⟨rfl, hs⟩
    · rw [hsize]; omega
    · rw [hsize]
      exact ⟨g, hfl, fun i hi => ⟨(hg i hi).1, by rw [hF0 (by omega)]; exact (hg i hi).2⟩⟩
  · refine ⟨_, rfl, by show ((OL.ob [(key, .one (.arr n (fun _ => T.zero e)) (.arr n F))]).ext ob1).has key = true; rw [Ob.ext_one_has]; simp, by show (κ.set key w.heap.size (.arr n (fun _ => T.zero e))).shp key 0 = .arr n (fun _ => X.T.zero e); rw [Gh.set_shp, hTT], cap, cur, (0, 0), ?_, hnc, hm, ?_, ?_⟩
    · show _ = Value.slice (some ⟨(κ.set key w.heap.size (.arr n (fun _ => T.zero e))).blk key 0, 0, none⟩) n cap
      rw [Gh.set_blk]
    · show w'.heap[(κ.set key w.heap.size (.arr n (fun _ => T.zero e))).blk key 0]? = _
      rw [Gh.set_blk]; exact hb
    · show cur.size = cap * X.T.sz e
      rw [hTT]; exact hcur
theorem flat_all {g : Nat → List Value} {n s : Nat} (hg : ∀ i, i < n → (g i).length = s) : (flat g n).length = n * s := by
  rw [flat_len, sumTo_congr (g := fun _ => s) hg, sumTo_const]
def fillSsh (z : AV) (ev : EV) : List (Nat × Operand) → Prop
  | [] => True
  | (_, x) :: r => ssh z (ev x) ∧ fillSsh z ev r
theorem fill_ssh {z : AV} {ev : EV} : ∀ (parts : List (Nat × Operand)) (f : Nat → AV), fillSsh z ev parts → (∀ i, ssh z (f i)) → ∀ i, ssh z (fillF ev parts f i)
  | [], f, _, hf => hf
  | (j, x) :: r, f, hs, hf => fill_ssh r _ hs.2 (fun i => by
      cases Nat.beq i j
      · exact hf i
      · exact hs.1)
def BuildSliceW (T : TT) (t : TypeId) (len : Nat) (parts : List (Nat × Operand)) (key : Nat) (ev : EV) (ol : OL) (K : AV → OL → Prop) : Prop :=
  match T.und t with
  | .slc e => (T.und e).known = true ∧ Nat.ble (len * T.sz e) 16777216 = true ∧ ol.has key = false ∧ fillOk ev len (fun _ => T.sz e) parts ∧ fillSsh (T.zero e) ev parts ∧
      K (.own key 0 len e) [(key, .one (.arr len (fun _ => T.zero e)) (.arr len (fillF ev parts (fun _ => T.zero e))))]
  | _ => False
theorem has_one {key k : Nat} {F : Fam} {ol : OL} (h : ol.has key = false) (hk : OL.has [(key, F)] k = true) : ol.has k = false := by
  simp only [OL.has] at hk
  cases hb : Nat.beq k key
  · rw [hb] at hk; cases hk
  · rw [Nat.eq_of_beq_eq_true hb]; exact h
theorem BuildSliceW_sound {o : Oper} {t : TypeId} {len : Nat} {parts : Array (Nat × Operand)} (ho : o.op = .buildSlice t len parts) {ev : EV} {ol : OL} {key : Nat} {K : AV → OL → Prop} (hT : TOk P T)
    (h : BuildSliceW T t len parts.toList key ev ol K) : ∃ v A, K v A ∧ PassJ P T o ev ol.ob v A ∧ ∀ k, A.has k = true → ol.has k = false := by
  unfold BuildSliceW at h
  have hu := hT.und t
  split at h
  · rename_i e htd
    rw [htd] at hu
    obtain ⟨he, hlen, hk, hok, hssh, h⟩ := h
    have hlen' : len * T.sz e ≤ 16777216 := Nat.le_of_ble_eq_true hlen
    obtain ⟨i, z, h1, h2, h3, h4, h5⟩ := FL_zero hT he
    obtain ⟨_, _, _, _, _, _, _, _, _, hss, hz9, hpos⟩ := hT.info e he
    refine ⟨_, _, h, fun X κ ob1 w ρ hP hTT hR hag hA hv => ?_, fun k hk' => has_one hk hk'⟩
    have hk1 : ob1.has key = false := hA key (by simp [OL.has])
    have hplace : ∀ i, i < len → (fun i => some (i * T.sz e, T.sz e) : Nat → Option (Nat × Nat)) i = some (sumTo (fun _ => T.sz e) i, T.sz e) := fun i _ => by rw [sumTo_const]
    have hmade : (madeCells z.cells (len * T.sz e)).toList = flat (fun _ => z.cells.toList) len := by
      rw [← h5]; exact madeCells_flat z.cells (by omega) len
    have hgo : ∀ K', Le (KK X κ ob1 w) K' → _ := fun K' hle => fill_go (K := K') (ev := ev) (ρ := ρ) hplace parts.toList (fun _ => T.zero e) (fun _ => z.cells.toList) (madeCells z.cells (len * T.sz e)) hmade
      (fun i _ => ⟨h4 K', by simp [h5]⟩) hok (fun p hp => VR_mono hle (hv p.2 (by
        simp only [ho, Op.operands]
        rw [List.mem_map]
        exact ⟨p, hp, rfl⟩)))
    obtain ⟨g', cells', q1, q2, q3⟩ := hgo _ (Le.refl _)
    have hsz : cells'.size = len * T.sz e := by
      rw [← Array.length_toList, q2, flat_all (fun i hi => (q3 i hi).2)]
    have hrun : (execOp ρ o).run P w = .ok (.value (.slice (some ⟨w.heap.size, 0, none⟩) len len)) (w.alloc (.cells cells' e)) := by
      have hcells : (if len * T.sz e = 0 then (#[] : Array Value) else z.cells) = if len * T.sz e = 0 then #[] else z.cells := rfl
      simp only [execOp, ho, Instr.buildSlice, Sem.run_bind, run_underlying hu, Result.andThen_ok, run_sizeOf hT he]
      rw [if_neg (by omega)]
      by_cases h0 : len * T.sz e = 0
      · have hlz : len = 0 := by
          rcases Nat.mul_eq_zero.1 h0 with h | h
          · exact h
          · omega
        subst hlz
        have hnil : parts.toList = [] := by
          cases hp : parts.toList with
          | nil => rfl
          | cons q r => rw [hp] at hok; exact absurd hok.1.1 (by omega)
        have hc0 : cells' = #[] := by
          apply Array.ext'
          rw [q2]; rfl
        simp only [Nat.zero_mul, if_true, Sem.run_pure, Result.andThen_ok]
        have hnil' : parts = #[] := by rw [← Array.toArray_toList (xs := parts), hnil]
        subst hnil'
        subst hc0
        simp [Instr.fill, newRow, Array.range_zero']
      · rw [if_neg h0]
        simp only [zeroValue, typeInfo, Sem.run_bind, program, Sem.run, h1, h2, Result.andThen_ok, Sem.run_pure]
        have : (parts.map fun (x : Nat × Operand) => (x.1, ρ x.2)).toList = parts.toList.map fun p => (p.1, ρ p.2) := by simp
        simp only [madeCells] at q1
        simp [q1, newRow]
    rw [hrun]
    refine new_own hT hTT he hR hk1 (Gr.alloc w _) (heap_alloc_new w _) (fun K' hle => ?_) hsz (Nat.le_refl _) ?_ (fill_ssh parts.toList _ hssh (fun _ => hss))
    · obtain ⟨g2, c2, p1, p2, p3⟩ := hgo K' hle
      rw [q1] at p1
      simp only [Option.some.injEq] at p1
      subst p1
      refine ⟨g2, p3, ?_⟩
      rw [← hsz, ← Array.length_toList, List.take_length, p2]
    · have : len ≤ len * T.sz e := Nat.le_mul_of_pos_right _ hpos
      simp only [maxLen]; omega
  · exact h.elim
def MakeW (T : TT) (t : TypeId) (l c : AV) (key : Nat) (ol : OL) (K : AV → OL → Prop) : Prop :=
  match T.und t, l, c with
  | .slc e, .int _ n, .int _ m => (T.und e).known = true ∧ m = n ∧ 0 ≤ n ∧ n * T.by_ e ≤ 140737488355328 ∧ n ≤ 140737488355328 ∧ ol.has key = false ∧
      K (.own key 0 n.toNat e) [(key, .one (.arr n.toNat (fun _ => T.zero e)) (.arr n.toNat (fun _ => T.zero e)))]
  | _, _, _ => False
theorem MakeW_sound {o : Oper} {t : TypeId} {l c : Operand} (ho : o.op = .makeSlice t l c) {ev : EV} {ol : OL} {key : Nat} {K : AV → OL → Prop} (hT : TOk P T)
    (h : MakeW T t (ev l) (ev c) key ol K) : ∃ v A, K v A ∧ PassJ P T o ev ol.ob v A ∧ ∀ k, A.has k = true → ol.has k = false := by
  unfold MakeW at h
  have hu := hT.und t
  split at h
  · rename_i e kl n kc m htd el ec
    rw [htd] at hu
    obtain ⟨he, rfl, h0, hby, hn, hk, h⟩ := h
    obtain ⟨i, z, h1, h2, h3, h4, h5⟩ := FL_zero hT he
    obtain ⟨i', _, h1', _, hby', _, _, _, _, hss, hz9, hpos⟩ := hT.info e he
    obtain rfl : i = i' := by rw [h1] at h1'; exact Option.some.inj h1'
    refine ⟨_, _, h, fun X κ ob1 w ρ hP hTT hR hag hA hv => ?_, fun k hk' => has_one hk hk'⟩
    have hk1 : ob1.has key = false := hA key (by simp [OL.has])
    have v1 := hv l (by simp [ho, Op.operands])
    have v2 := hv c (by simp [ho, Op.operands])
    rw [el] at v1
    rw [ec] at v2
    have hrun : (execOp ρ o).run P w = .ok (.value (.slice (some ⟨w.heap.size, 0, none⟩) m.toNat m.toNat)) (w.alloc (.cells (madeCells z.cells (m.toNat * i.size)) e)) := by
      simp only [execOp, ho, VR_int v1, VR_int v2, Sem.run_bind]
      rw [run_make (P := P) w t e i z hu h1 h2 kl kc m m h0 (Int.le_refl _) (by rw [hby', Int.mul_comm]; omega) (by omega)]
      rfl
    rw [hrun, h3]
    have hmade : (madeCells z.cells (m.toNat * T.sz e)).toList = flat (fun _ => z.cells.toList) m.toNat := by
      rw [← h5]; exact madeCells_flat z.cells (by omega) _
    refine new_own hT hTT he hR hk1 (Gr.alloc w _) (heap_alloc_new w _) (fun K' hle => ⟨fun _ => z.cells.toList, fun i _ => ⟨h4 K', by simp [h5]⟩, ?_⟩) (size_madeCells _ _) (Nat.le_refl _) (by simp only [maxLen]; omega) (fun _ => hss)
    rw [hmade, ← flat_all (g := fun _ => z.cells.toList) (n := m.toNat) (s := T.sz e) (fun i _ => by simp [h5]), List.take_length]
  · exact h.elim
theorem Le.turn {X : Cx} {κ κ' : Gh} {o o' : Ob} {w w' : World} {b : Nat} (h : Rel X κ o w) (hs : w.heap.size ≤ w'.heap.size)
    (hblk : ∀ b', b' < w.heap.size → b' ≠ b → w'.heap[b']? = w.heap[b']?)
    (hb : ∀ cur e fr, w.heap[b]? = some (.cells cur e fr) → ∃ cur' fr', w'.heap[b]? = some (.cells cur' e fr') ∧ cur'.size = cur.size)
    (hJ : ∀ b', (KK X κ o w).J b' → b' ≠ b ∧ ∀ k i, o'.at_ k i ≠ none → κ'.blk k i ≠ b')
    (hd : ∀ k, o.has k = true → o'.has k = true ∧ ∀ i, κ'.blk k i = κ.blk k i ∧ κ'.shp k i = κ.shp k i) : Le (KK X κ o w) (KK X κ' o' w') := by
  refine Le.step hs (fun b' hb' => ⟨hblk b' (h.J_lt hb') (hJ b' hb').1, (hJ b' hb').2⟩) hd (fun b' cur e fr hc => ?_)
  by_cases he : b' = b
  · subst he; exact hb cur e fr hc
  · exact ⟨cur, fr, (hblk b' (Array.getElem?_eq_some_iff.1 hc).1 he).trans hc, rfl⟩
def StoreW (T : TT) (t : TypeId) (a v : AV) (ol : OL) (K : OL → Prop) : Prop :=
  match a with
  | .ptr k i p o root => (match ol.at_ k i with
    | some (sh, c) => (T.und t).known = true ∧ v.cel ∧ ssh (sub root p) v ∧ v.size = T.sz t ∧ K (ol.set k i (some (sh, put c p v)))
    | none => False)
  | _ => False
theorem size_put : ∀ (p : List Nat) (c v : AV), valid c p → ssh (sub c p) v → (put c p v).size = c.size := by
  intro p
  induction p with
  | nil => intro c v _ hv; cases c <;> exact (ssh_size hv).symm
  | cons j q ihq =>
    intro c v hvv hv
    cases c with
    | arr m u =>
      obtain ⟨a1, a2, a3⟩ := hvv
      simp only [put, AV.size]
      cases hj : Nat.beq 0 j
      · rfl
      · have : 0 = j := Nat.eq_of_beq_eq_true hj
        subst this
        simp only [cond_true]
        rw [ihq _ _ a3 hv]
    | sct m u =>
      obtain ⟨a1, a3⟩ := hvv
      simp only [put, AV.size]
      refine sumTo_congr fun t _ => ?_
      cases hj : Nat.beq t j
      · rfl
      · have : t = j := Nat.eq_of_beq_eq_true hj
        subst this
        simp only [cond_true]
        rw [ihq _ _ a3 hv]
    | _ => exact hvv.elim
theorem StoreW_sound {o : Oper} {t : TypeId} {a x : Operand} (ho : o.op = .store t a x) {ev : EV} {ol : OL} {K : OL → Prop} (hT : TOk P T) (h : StoreW T t (ev a) (ev x) ol K) :
    ∃ ol' : OL, K ol' ∧ ActJ P T o ev ol.ob .any ol'.ob ∧ ∀ k, ol.has k = true → ol'.has k = true := by
  unfold StoreW at h
  split at h
  · rename_i k i p oo root ea
    split at h
    · rename_i sh c hat
      obtain ⟨ht, hcel, hss, hsz, h⟩ := h
      have hhas : ol.has k = true := OL.has_of_at (i := i) (by rw [hat]; simp)
      have hhas' : ∀ k', (ol.set k i (some (sh, put c p (ev x)))).has k' = ol.has k' := fun k' => by
        rw [OL.has_set]
        cases hb : Nat.beq k' k
        · simp
        · rw [Nat.eq_of_beq_eq_true hb, hhas]; rfl
      refine ⟨_, h, fun X κ w ρ hP hTT hR hv => ?_, fun k' hk' => by rw [hhas']; exact hk'⟩
      have va := hv a (by simp [ho, Op.operands])
      have vx := hv x (by simp [ho, Op.operands])
      rw [ea] at va
      obtain ⟨hd, e1, e2, e3, e4⟩ := va
      obtain ⟨cur, e, l1, l2, l3, l4, l5, l6, l7⟩ := hR.live k i sh c hat
      have hsh : sh = root := l5.trans e4.symm
      subst hsh
      obtain ⟨s1, s2, s3, s4⟩ := ssh_path p 0 l4 e3
      obtain ⟨pre, seg, post, q1, q2, q3, q4⟩ := FL_dec p 0 l3 s1
      have hFL := FL_of_VR hcel vx
      have hvl := FL_len hFL
      have hsegl : seg.length = (ρ x).cells.toList.length := by
        rw [FL_len q3, hvl, ← ssh_size s3, ssh_size hss]
      have hssv : ssh (sub c p) (ev x) := by
        have key : ∀ {a b d : AV}, ssh a b → ssh a d → ssh b d := by
          intro a
          induction a with
          | arr n f ih =>
            intro b d h1 h2
            cases b <;> simp only [ssh] at h1
            cases d <;> simp only [ssh] at h2
            exact ⟨h1.1.symm.trans h2.1, fun j => ih j (h1.2 j) (h2.2 j)⟩
          | sct n f ih =>
            intro b d h1 h2
            cases b <;> simp only [ssh] at h1
            cases d <;> simp only [ssh] at h2
            exact ⟨h1.1.symm.trans h2.1, fun j => ih j (h1.2 j) (h2.2 j)⟩
          | tup n f _ => intro b d h1 _; exact h1.elim
          | _ => intro b d h1 h2; cases b <;> simp only [ssh] at h1 <;> cases d <;> simp only [ssh] at h2 <;> trivial
        exact key s3 hss
      have hnew := q4 (ev x) _ hssv hFL
      have hoff : oo = pre.length := by rw [e2, s2, q2, Nat.zero_add]
      have hlen0 : (cur.toList.take c.size).length = c.size := by rw [List.length_take]; simp; omega
      have hcurdec : cur.toList = (pre ++ (seg ++ post)) ++ cur.toList.drop c.size := by rw [← q1, List.take_append_drop]
      have hfit : pre.length + (ρ x).cells.toList.length ≤ cur.size := by
        have := congrArg List.length hcurdec
        simp only [List.length_append, Array.length_toList] at this
        simp only [Array.length_toList] at hsegl ⊢
        omega
      have hst := run_storeCells_at P (κ.blk k i) oo e (ρ x).cells.toList 0 cur w l1 (by rw [hoff]; omega) (FL_one hFL)
      rw [Nat.add_zero, hoff] at hst
      generalize hcur' : (cur.toList.take pre.length ++ (ρ x).cells.toList ++ cur.toList.drop (pre.length + (ρ x).cells.toList.length)).toArray = cur' at hst
      have hcurl : cur'.toList = (pre ++ ((ρ x).cells.toList ++ post)) ++ cur.toList.drop c.size := by
        have e0 : cur.toList.take pre.length = pre := by rw [hcurdec, List.append_assoc, List.take_left]
        have e3 : cur.toList.drop (pre.length + (ρ x).cells.toList.length) = post ++ cur.toList.drop c.size := by
          rw [← hsegl, ← List.length_append]
          conv => lhs; rw [hcurdec]
          rw [← List.append_assoc, List.append_assoc (pre ++ seg), List.drop_left]
        rw [← hcur', e0, e3]
        simp
      have hcsz : cur'.size = cur.size := by
        have h1 := congrArg List.length hcurl
        have h2 := congrArg List.length hcurdec
        simp only [List.length_append, Array.length_toList] at h1 h2 hsegl
        omega
      have hrun : (execOp ρ o).run P w = .ok .skip (w.setRow (κ.blk k i) cur') := by
        have hz : (ρ x).cells.size = T.sz t := by rw [← Array.length_toList, hvl, hsz]
        simp only [execOp, ho, Instr.storeAt, Sem.run_bind, e1, Instr.sureAddr, Sem.run_pure, Result.andThen_ok, storeVar, run_sizeOf hT ht]
        rw [if_neg (by rw [hz]; simp)]
        show (((storeCells ⟨κ.blk k i, oo, none⟩ (ρ x).cells.toList).run P w).andThen _) = _
        rw [hoff, hst]
        rfl
      rw [hrun]
      have hblk : ∀ b', b' < w.heap.size → b' ≠ κ.blk k i → (w.setRow (κ.blk k i) cur').heap[b']? = w.heap[b']? := fun b' _ hne => setRow_other w _ b' cur' hne
      have hbk : (w.setRow (κ.blk k i) cur').heap[κ.blk k i]? = some (.cells cur' e (0, 0)) := setRow_heap w _ cur cur' e (0, 0) l1
      have hatn : ∀ k' i', (ol.set k i (some (sh, put c p (ev x)))).at_ k' i' ≠ none → ol.at_ k' i' ≠ none := by
        intro k' i' hne
        rw [OL.at_set] at hne
        by_cases hc : k' = k ∧ i' = i
        · rw [hc.1, hc.2, hat]; simp
        · rw [if_neg hc] at hne; exact hne
      have hle : Le (KK X κ ol.ob w) (KK X κ (ol.set k i (some (sh, put c p (ev x)))).ob (w.setRow (κ.blk k i) cur')) := by
        refine Le.turn (b := κ.blk k i) hR (by simp) hblk (fun c0 e0 f0 h0 => ?_) (fun b' hJ => ⟨fun he => ?_, fun k' i' hne => hJ.2 k' i' (hatn k' i' hne)⟩) (fun k' hk' => ⟨by show OL.has _ k' = true; rw [hhas']; exact hk', fun _ => ⟨rfl, rfl⟩⟩)
        · rw [l1] at h0
          simp only [Option.some.injEq, Obj.cells.injEq] at h0
          obtain ⟨rfl, rfl, rfl⟩ := h0
          exact ⟨cur', (0, 0), hbk, hcsz⟩
        · subst he
          exact hJ.2 k i (by show ol.at_ k i ≠ none; rw [hat]; simp) rfl
      refine ⟨κ, ?_, trivial, hle⟩
      refine ⟨hR.os, hR.tape, hR.output, by simpa using hR.size, fun b hb hM => ?_, fun k' i' sh' c' hc => ?_, fun k1 i1 k2 i2 h1 h2 he => hR.inj k1 i1 k2 i2 (hatn _ _ h1) (hatn _ _ h2) he, fun k' i' hne => ?_, hR.hI, hR.hM⟩
      · rw [hblk b (Nat.lt_of_lt_of_le hb hR.size) (fun he => by
          subst he
          rcases l6 with l6 | l6
          · omega
          · exact hM l6)]
        exact hR.block b hb hM
      · have hc' : (ol.set k i (some (sh, put c p (ev x)))).at_ k' i' = some (sh', c') := hc
        rw [OL.at_set] at hc'
        by_cases hki : k' = k ∧ i' = i
        · rw [if_pos hki] at hc'
          simp only [Option.some.injEq, Prod.mk.injEq] at hc'
          obtain ⟨rfl, rfl⟩ := hc'
          obtain ⟨rfl, rfl⟩ := hki
          have hsp := size_put p c (ev x) s1 hssv
          refine ⟨cur', e, hbk, by rw [hsp, hcsz]; exact l2, ?_, s4 _ hss, l5, l6, l7⟩
          refine FL_mono hle ?_
          rw [hsp, hcurl]
          have hl : (pre ++ ((ρ x).cells.toList ++ post)).length = c.size := by
            have := congrArg List.length q1
            rw [hlen0] at this
            simp only [List.length_append] at this ⊢
            omega
          rw [← hl, List.take_left]
          exact hnew
        · rw [if_neg hki] at hc'
          obtain ⟨cur2, e2, m1, m2, m3, m4⟩ := hR.live k' i' sh' c' hc'
          refine ⟨cur2, e2, ?_, m2, FL_mono hle m3, m4⟩
          rw [hblk _ (Array.getElem?_eq_some_iff.1 m1).1 (fun he => hki (hR.inj k' i' k i (by show ol.at_ k' i' ≠ none; rw [hc']; simp) (by show ol.at_ k i ≠ none; rw [hat]; simp) he))]
          exact m1
      · show OL.has _ k' = true
        rw [hhas']
        exact hR.has k' i' (hatn k' i' hne)
    · exact h.elim
  · exact h.elim
end
end Go.Am

namespace Go.Am
section
variable {P : Program} {T : TT}
theorem cons_at (key : Nat) (sh c : AV) (ol : OL) (k' i' : Nat) : OL.at_ ((key, .one sh c) :: ol) k' i' = if k' = key then (if i' = 0 then some (sh, c) else none) else ol.at_ k' i' := by
  have := Ob.ext_one_at key sh c ol.ob k' i'
  rw [← OL.ob_append] at this
  exact this
theorem cons_has (key : Nat) (sh c : AV) (ol : OL) (k' : Nat) : OL.has ((key, .one sh c) :: ol) k' = (Nat.beq k' key || ol.has k') := by
  have := Ob.ext_one_has key sh c ol.ob k'
  rw [← OL.ob_append] at this
  exact this
theorem Rel.repl {X : Cx} {κ : Gh} {ol : OL} {w w' : World} {k i key b : Nat} {sh c : AV} {p : AV × AV} {cur : Array Value} {e : TypeId} (hR : Rel X κ ol.ob w) (hat : ol.at_ k i = some p) (hk : ol.has key = false)
    (hos : w'.os = w.os) (htape : w'.tape = w.tape) (hout : w'.output = w.output) (hs : w.heap.size ≤ w'.heap.size)
    (hblk : ∀ b', b' < w.heap.size → b' ≠ b → w'.heap[b']? = w.heap[b']?) (hbb : b = κ.blk k i ∨ w.heap.size ≤ b) (hb : w'.heap[b]? = some (.cells cur e (0, 0)))
    (hbo : ∀ cur0 e0 fr0, w.heap[b]? = some (.cells cur0 e0 fr0) → e = e0 ∧ cur.size = cur0.size)
    (hFL : ∀ K', Le (KK X κ ol.ob w) K' → FL K' c (cur.toList.take c.size)) (hsz : c.size ≤ cur.size) (hssh : ssh sh c) :
    Rel X (κ.set key b sh) (OL.ob ((key, .one sh c) :: ol.set k i none)) w' ∧ Le (KK X κ ol.ob w) (KK X (κ.set key b sh) (OL.ob ((key, .one sh c) :: ol.set k i none)) w') := by
  have hhas : ol.has k = true := OL.has_of_at (i := i) (by rw [hat]; simp)
  have hne : k ≠ key := fun h => by subst h; rw [hk] at hhas; cases hhas
  have hlive : ol.ob.at_ k i ≠ none := by show ol.at_ k i ≠ none; rw [hat]; simp
  have hat' : ∀ k' i', OL.at_ ((key, .one sh c) :: ol.set k i none) k' i' ≠ none → k' ≠ key → ol.at_ k' i' ≠ none ∧ ¬ (k' = k ∧ i' = i) ∧ OL.at_ ((key, .one sh c) :: ol.set k i none) k' i' = ol.at_ k' i' := by
    intro k' i' h1 h2
    rw [cons_at, if_neg h2, OL.at_set] at h1 ⊢
    by_cases hc : k' = k ∧ i' = i
    · rw [if_pos hc] at h1; exact absurd rfl h1
    · rw [if_neg hc] at h1 ⊢; exact ⟨h1, hc, rfl⟩
  have hblne : ∀ k' i', ol.at_ k' i' ≠ none → ¬ (k' = k ∧ i' = i) → κ.blk k' i' ≠ b := by
    intro k' i' h1 h2 he
    rcases hbb with hbb | hbb
    · rw [hbb] at he
      exact h2 (hR.inj k' i' k i h1 hlive he)
    · have := hR.blk_lt (k := k') (i := i') h1
      omega
  have hle : Le (KK X κ ol.ob w) (KK X (κ.set key b sh) (OL.ob ((key, .one sh c) :: ol.set k i none)) w') := by
    refine Le.turn (b := b) hR hs hblk (fun c0 e0 f0 h0 => ?_) (fun b' hJ => ⟨fun he => ?_, fun k' i' h1 => ?_⟩) (fun k' hk' => ?_)
    · obtain ⟨rfl, h2⟩ := hbo c0 e0 f0 h0
      exact ⟨cur, (0, 0), hb, h2⟩
    · subst he
      rcases hbb with hbb | hbb
      · exact hJ.2 k i hlive hbb.symm
      · have := hR.J_lt hJ; omega
    · by_cases hkk : k' = key
      · subst hkk
        rw [Gh.set_blk]
        intro he
        subst he
        rcases hbb with hbb | hbb
        · exact hJ.2 k i hlive hbb.symm
        · have := hR.J_lt hJ; omega
      · rw [Gh.set_blk_ne _ _ _ _ hkk]
        exact hJ.2 k' i' (hat' k' i' h1 hkk).1
    · have hkk : k' ≠ key := fun h => by
        subst h
        have : ol.has k' = true := hk'
        rw [hk] at this; cases this
      refine ⟨?_, fun i => ⟨Gh.set_blk_ne _ _ _ _ hkk, Gh.set_shp_ne _ _ _ _ hkk⟩⟩
      show OL.has _ k' = true
      have h' : ol.has k' = true := hk'
      rw [cons_has, OL.has_set, h']
      simp
  refine ⟨⟨hos.trans hR.os, htape.trans hR.tape, hout.trans hR.output, Nat.le_trans hR.size hs, fun b' hb' hM => ?_, fun k' i' sh' c' hc => ?_, fun k1 i1 k2 i2 h1 h2 he => ?_, fun k' i' h1 => ?_, hR.hI, hR.hM⟩, hle⟩
  · have hlt := Nat.lt_of_lt_of_le hb' hR.size
    rw [hblk b' hlt (fun he => by
      subst he
      rcases hbb with hbb | hbb
      · obtain ⟨_, _, _, _, _, _, _, h6, _⟩ := hR.live k i p.1 p.2 hat
        rw [← hbb] at h6
        rcases h6 with h6 | h6
        · omega
        · exact hM h6
      · omega)]
    exact hR.block b' hb' hM
  · have hc' : OL.at_ ((key, .one sh c) :: ol.set k i none) k' i' = some (sh', c') := hc
    by_cases hkk : k' = key
    · subst hkk
      rw [cons_at, if_pos rfl] at hc'
      by_cases hi : i' = 0
      · rw [if_pos hi] at hc'
        simp only [Option.some.injEq, Prod.mk.injEq] at hc'
        obtain ⟨rfl, rfl⟩ := hc'
        rw [Gh.set_blk, Gh.set_shp]
        refine ⟨cur, e, hb, hsz, hFL _ hle, hssh, rfl, ?_, ?_⟩
        · rcases hbb with hbb | hbb
          · obtain ⟨_, _, _, _, _, _, _, h6, _⟩ := hR.live k i p.1 p.2 hat
            rw [hbb]; exact h6
          · exact .inl (Nat.le_trans hR.size hbb)
        · rcases hbb with hbb | hbb
          · obtain ⟨_, _, _, _, _, _, _, _, h7⟩ := hR.live k i p.1 p.2 hat
            rw [hbb]; exact h7
          · intro hI
            have h1 := (hR.hI _ hI).1
            have h2 := hR.size
            omega
      · rw [if_neg hi] at hc'; cases hc'
    · obtain ⟨h1, h2, h3⟩ := hat' k' i' (by rw [hc']; simp) hkk
      rw [h3] at hc'
      obtain ⟨cur2, e2, m1, m2, m3, m4⟩ := hR.live k' i' sh' c' hc'
      rw [Gh.set_blk_ne _ _ _ _ hkk, Gh.set_shp_ne _ _ _ _ hkk]
      exact ⟨cur2, e2, (hblk _ (Array.getElem?_eq_some_iff.1 m1).1 (hblne k' i' h1 h2)).trans m1, m2, FL_mono hle m3, m4⟩
  · by_cases a1 : k1 = key
    · by_cases a2 : k2 = key
      · refine ⟨by rw [a1, a2], ?_⟩
        have z : ∀ k' i', k' = key → OL.at_ ((key, .one sh c) :: ol.set k i none) k' i' ≠ none → i' = 0 := by
          intro k' i' q1 q2
          rw [cons_at, if_pos q1] at q2
          by_cases h0 : i' = 0
          · exact h0
          · rw [if_neg h0] at q2; exact absurd rfl q2
        rw [z k1 i1 a1 h1, z k2 i2 a2 h2]
      · obtain ⟨g1, g2, _⟩ := hat' k2 i2 h2 a2
        subst a1
        rw [Gh.set_blk, Gh.set_blk_ne _ _ _ _ a2] at he
        exact absurd he.symm (hblne k2 i2 g1 g2)
    · obtain ⟨f1, f2, _⟩ := hat' k1 i1 h1 a1
      by_cases a2 : k2 = key
      · subst a2
        rw [Gh.set_blk, Gh.set_blk_ne _ _ _ _ a1] at he
        exact absurd he (hblne k1 i1 f1 f2)
      · obtain ⟨g1, g2, _⟩ := hat' k2 i2 h2 a2
        rw [Gh.set_blk_ne _ _ _ _ a1, Gh.set_blk_ne _ _ _ _ a2] at he
        exact hR.inj _ _ _ _ f1 g1 he
  · show OL.has _ k' = true
    rw [cons_has]
    by_cases hkk : k' = key
    · subst hkk; simp
    · have := hR.has k' i' (hat' k' i' h1 hkk).1
      have h' : ol.has k' = true := this
      rw [OL.has_set, h']
      simp
def appF (n : Nat) (f : Nat → AV) (m : Nat) (g : Nat → AV) : Nat → AV :=
  match m with
  | 1 => fun j => bif Nat.beq j n then g 0 else f j
  | _ => fun j => bif Nat.blt j n then f j else g (j - n)
theorem appF_lt {n m j : Nat} {f g : Nat → AV} (h : j < n) : appF n f m g j = f j := by
  unfold appF
  split
  · simp [beq_ff (show j ≠ n by omega)]
  · have : Nat.blt j n = true := by simp [Nat.blt_eq]; exact h
    simp [this]
theorem appF_ge {n m j : Nat} {f g : Nat → AV} (h : n ≤ j) (h2 : j < n + m) : appF n f m g j = g (j - n) := by
  unfold appF
  split
  · have : j = n := by omega
    subst this
    simp
  · have : Nat.blt j n = false := by
      cases hb : Nat.blt j n
      · rfl
      · rw [Nat.blt_eq] at hb; omega
    simp [this]
theorem appF_ssh {z : AV} {n m : Nat} {f g : Nat → AV} (hf : ∀ i, ssh z (f i)) (hg : ∀ i, ssh z (g i)) : ∀ i, ssh z (appF n f m g i) := by
  intro i
  unfold appF
  split
  · dsimp only
    cases Nat.beq i n
    · exact hf i
    · exact hg 0
  · dsimp only
    cases Nat.blt i n
    · exact hg _
    · exact hf i
def ElemsW (T : TT) (e : TypeId) (x : AV) (ol : OL) (C : Nat → (Nat → AV) → Prop) : Prop :=
  match x with
  | .own k i m e' => e' = e ∧ (match ol.at_ k i with
    | some (sh, .arr m' g) => m' = m ∧ sh = .arr m (fun _ => T.zero e) ∧ C m g
    | _ => False)
  | .ro m g => 0 < m ∧ (∀ i, ssh (T.zero e) (g i)) ∧ C m g
  | _ => False
theorem ElemsW_get {hT : TOk P T} {e : TypeId} (he : (T.und e).known = true) {x : AV} {ol : OL} {C : Nat → (Nat → AV) → Prop} (h : ElemsW T e x ol C) :
    ∃ m g, C m g ∧ ∀ (X : Cx) (κ : Gh) (w : World) (c : Value), X.T = T → Rel X κ ol.ob w → VR (KK X κ ol.ob w) x c →
      (∀ i, ssh (T.zero e) (g i)) ∧ ∃ b o cap gg, c = .slice (some ⟨b, o, none⟩) m cap ∧ (∀ i, i < m → FL (KK X κ ol.ob w) (g i) (gg i) ∧ (gg i).length = T.sz e) ∧
        (∀ j u, (flat gg m)[j]? = some u → w.cell? ((⟨b, o, none⟩ : Addr).add j) = some u) := by
  unfold ElemsW at h
  have hz := hT.info e he
  obtain ⟨_, _, _, _, _, _, _, _, _, hss, hz9, hpos⟩ := hz
  split at h
  · rename_i k i m e'
    obtain ⟨rfl, h⟩ := h
    split at h
    · rename_i sh m' g hat
      obtain ⟨rfl, rfl, h⟩ := h
      refine ⟨m', g, h, fun X κ w c hTT hR hx => ?_⟩
      obtain ⟨hd, hn, cap, cur, fr, e1, c1, c2, c3, c4⟩ := VR_own hx
      obtain ⟨cur', e2, l1, l2, l3, l4, l5⟩ := hR.live k i _ _ hat
      have c3' : w.heap[κ.blk k i]? = some (.cells cur e' fr) := c3
      rw [l1] at c3'
      simp only [Option.some.injEq, Obj.cells.injEq] at c3'
      obtain ⟨rfl, rfl, rfl⟩ := c3'
      obtain ⟨gg, q1, q2⟩ := l3
      have hlen : ∀ j, j < m' → (gg j).length = T.sz e2 := fun j hj => by
        rw [(q2 j hj).2, ← hz9, ← ssh_size (l4.2 0)]
      refine ⟨l4.2, _, 0, cap, gg, e1, fun j hj => ⟨(q2 j hj).1, hlen j hj⟩, fun j u hu => ?_⟩
      rw [addr_add, Nat.zero_add]
      show World.cell? w ⟨κ.blk k i, j, none⟩ = some u
      simp only [World.cell?, l1]
      rw [← q1, List.getElem?_take] at hu
      split at hu
      · simpa using hu
      · cases hu
    · exact h.elim
  · rename_i m g
    obtain ⟨hm, hsg, h⟩ := h
    refine ⟨m, g, h, fun X κ w c hTT hR hx => ?_⟩
    obtain ⟨A, cap, e1, c1, c2, c3⟩ := VR_ro hx
    rcases c3 with c3 | ⟨b, o, gg, rfl, hJ, ⟨cur, e2, fr, s1, s2⟩, hh⟩
    · omega
    have hlen : ∀ j, j < m → (gg j).length = T.sz e := fun j hj => by
      rw [(hh j hj).2, ← hz9, ← ssh_size (hsg 0)]
    refine ⟨hsg, b, o, cap, gg, e1, fun j hj => ⟨(hh j hj).1, hlen j hj⟩, fun j u hu => ?_⟩
    rw [addr_add]
    have s1' : w.heap[b]? = some (.cells cur e2 fr) := s1
    simp only [World.cell?, s1']
    exact s2 j u hu
  · exact h.elim
theorem flat_app (gf gg : Nat → List Value) (n : Nat) : ∀ m, flat (fun j => if j < n then gf j else gg (j - n)) (n + m) = flat gf n ++ flat gg m
  | 0 => by
    rw [Nat.add_zero, flat_congr (g := gf) (fun i hi => if_pos hi)]
    simp [flat]
  | m + 1 => by
    rw [Nat.add_succ]
    simp only [flat]
    rw [flat_app gf gg n m, if_neg (by omega), Nat.add_sub_cancel_left]
    simp
def AppendW (T : TT) (t : TypeId) (s x : AV) (key : Nat) (ol : OL) (K : AV → OL → Prop) : Prop :=
  match T.und t with
  | .slc e => (T.und e).known = true ∧ ((∃ k i n g, s = .own k i n e ∧ x = .ro 0 g ∧ K s ol) ∨ (ol.has key = false ∧ ElemsW T e x ol (fun m g =>
      (match s with
      | .own k i n e' => e' = e ∧ (match ol.at_ k i with
        | some (sh, .arr n' f) => n' = n ∧ sh = .arr n (fun _ => T.zero e) ∧ (n + m) * T.by_ e ≤ 140737488355328 ∧ n + m ≤ 140737488355328 ∧
            K (.own key 0 (n + m) e) ((key, .one (.arr (n + m) (fun _ => T.zero e)) (.arr (n + m) (appF n f m g))) :: ol.set k i none)
        | _ => False)
      | .nilsl => 0 < m ∧ m * T.by_ e ≤ 140737488355328 ∧ m ≤ 140737488355328 ∧
            K (.own key 0 m e) ((key, .one (.arr m (fun _ => T.zero e)) (.arr m g)) :: ol)
      | _ => False))))
  | _ => False
theorem AppendW_sound {o : Oper} {t : TypeId} {s x : Operand} (ho : o.op = .call { callee := .builtin .append, args := #[s, x], argTypes := #[t, t] }) {ev : EV} {ol : OL} {key : Nat} {K : AV → OL → Prop} (hT : TOk P T)
    (h : AppendW T t (ev s) (ev x) key ol K) : ∃ (v : AV) (ol' : OL), K v ol' ∧ ActJ P T o ev ol.ob v ol'.ob ∧ ∀ k, ol.has k = true → ol'.has k = true := by
  unfold AppendW at h
  have hu := hT.und t
  split at h
  · rename_i e htd
    rw [htd] at hu
    obtain ⟨he, h⟩ := h
    rcases h with ⟨k, i, n, g, es, ex, h⟩ | ⟨hk, h⟩
    · refine ⟨_, _, h, fun X κ w ρ hP hTT hR hv => ?_, fun k' hk' => hk'⟩
      have vs := hv s (by simp [ho, Op.operands, Call.operands])
      have vx := hv x (by simp [ho, Op.operands, Call.operands])
      obtain ⟨i0, z, h1, h2, h3, h4, h5⟩ := FL_zero hT he
      rw [ex] at vx
      obtain ⟨A, cap2, e2, _, _, _⟩ := VR_ro vx
      have vs' := vs
      rw [es] at vs'
      obtain ⟨hd, hn, cap, cur, fr, e1, c1, c2, c3, c4⟩ := VR_own vs'
      have hrun : (execOp ρ o).run P w = .ok (.value (ρ s)) w := by
        have : (execOp ρ o).run P w = ((Builtin.append_ #[t, t] o.type #[ρ s, ρ x]).run P w).andThen fun c w' => .ok (.value c) w' := by simp [execOp, ho, resolve, invoke, builtin]
        rw [this, e1, e2]
        have hap : ∀ a0 : Addr, (Builtin.append_ #[t, t] o.type #[.slice (some a0) n cap, .slice A 0 cap2]).run P w = .ok (.slice (some a0) n cap) w := fun a0 =>
          by cases A <;> simp [Builtin.append_, run_underlying hu, sizeOf, typeInfo, h1, Builtin.lenOf, Builtin.firstCells, c1, storeCells, loadCells, loadCellsFrom]
        rw [hap]; rfl
      show Out X κ ol.ob w _ _ _
      rw [hrun]
      exact ⟨κ, hR, vs, Le.refl _⟩
    obtain ⟨m, g, h, hx⟩ := ElemsW_get (hT := hT) he h
    obtain ⟨i0, z, h1, h2, h3, h4, h5⟩ := FL_zero hT he
    obtain ⟨i', _, h1', _, hby', _, _, _, _, hss, hz9, hpos⟩ := hT.info e he
    obtain rfl : i0 = i' := by rw [h1] at h1'; exact Option.some.inj h1'
    have hexec : ∀ (ρ : Operand → Value) (w : World), (execOp ρ o).run P w = ((Builtin.append_ #[t, t] o.type #[ρ s, ρ x]).run P w).andThen fun c w' => .ok (.value c) w' := by
      intro ρ w
      simp [execOp, ho, resolve, invoke, builtin]
    split at h
    · rename_i k i n e' es
      obtain ⟨rfl, h⟩ := h
      split at h
      · rename_i sh n' f hat
        obtain ⟨rfl, rfl, hb1, hb2, h⟩ := h
        refine ⟨_, _, h, fun X κ w ρ hP hTT hR hv => ?_, fun k' hk' => by rw [cons_has, OL.has_set, hk']; simp⟩
        have vs := hv s (by simp [ho, Op.operands, Call.operands])
        have vx := hv x (by simp [ho, Op.operands, Call.operands])
        rw [es] at vs
        obtain ⟨hsg, b2, o2, cap2, gg, e2, hgg, hcell⟩ := hx X κ w (ρ x) hTT hR vx
        obtain ⟨hd, hn, cap, cur, fr, e1, c1, c2, c3, c4⟩ := VR_own vs
        obtain ⟨cur', el, l1, l2, l3, l4, l5⟩ := hR.live k i _ _ hat
        have c3' : w.heap[κ.blk k i]? = some (.cells cur e' fr) := c3
        rw [l1] at c3'
        simp only [Option.some.injEq, Obj.cells.injEq] at c3'
        obtain ⟨rfl, rfl, rfl⟩ := c3'
        obtain ⟨gf, q1, q2⟩ := l3
        have hflen : ∀ j, j < n' → (gf j).length = T.sz el := fun j hj => by
          rw [(q2 j hj).2, ← hz9, ← ssh_size (l4.2 0)]
        have c4' : cur'.size = cap * T.sz el := by rw [← hTT]; exact c4
        have hxs : (flat gf n').length = n' * i0.size := by rw [h3]; exact flat_all hflen
        have hnews : (flat gg m).length = m * i0.size := by rw [h3]; exact flat_all (fun j hj => (hgg j hj).2)
        have hone : ∀ u ∈ flat gg m, u.oneCell' = true := fun u hu' => by
          obtain ⟨j, hj, hm'⟩ := mem_flat hu'
          exact FL_one (hgg j hj).1 u hm'
        have hsz1 : (AV.arr n' f).size = n' * T.sz el := by
          show n' * (f 0).size = _
          rw [← hz9, ← ssh_size (l4.2 0)]
        have htake : cur'.toList.take (n' * T.sz el) = flat gf n' := by rw [← q1, hsz1]
        have hFsz : (AV.arr (n' + m) (appF n' f m g)).size = (n' + m) * T.sz el := by
          show (n' + m) * (appF n' f m g 0).size = _
          rw [← ssh_size (appF_ssh (m := m) (n := n') l4.2 hsg 0), hz9]
        have hFL : ∀ (cur2 : Array Value), cur2.toList.take ((n' + m) * T.sz el) = flat gf n' ++ flat gg m → ∀ K', Le (KK X κ ol.ob w) K' → FL K' (.arr (n' + m) (appF n' f m g)) (cur2.toList.take ((AV.arr (n' + m) (appF n' f m g)).size)) := by
          intro cur2 hc2 K' hle
          rw [hFsz, hc2]
          refine ⟨fun j => if j < n' then gf j else gg (j - n'), (flat_app gf gg n' m).symm, fun j hj => ?_⟩
          have hz0 : (appF n' f m g 0).size = T.sz el := by rw [← ssh_size (appF_ssh (m := m) (n := n') l4.2 hsg 0), hz9]
          dsimp only
          by_cases hjn : j < n'
          · rw [if_pos hjn, appF_lt hjn, hz0]
            exact ⟨FL_mono hle (q2 j hjn).1, hflen j hjn⟩
          · rw [if_neg hjn, appF_ge (by omega) hj, hz0]
            exact ⟨FL_mono hle (hgg (j - n') (by omega)).1, (hgg (j - n') (by omega)).2⟩
        have hm63 : n' + m ≤ maxLen := by simp only [maxLen]; omega
        by_cases hroom : n' + m ≤ cap
        · have hfit : n' * i0.size + (flat gg m).length ≤ cur'.size := by
            rw [hnews, h3, c4', ← Nat.add_mul]; exact Nat.mul_le_mul_right _ hroom
          have hr := run_append_room (P := P) w t o.type el i0 hu h1 (κ.blk k i) n' cap cur' l1 ⟨b2, o2, none⟩ m cap2 (flat gg m) hnews hcell hone hroom hfit
          rw [hexec, e1, e2]
          show Out X κ ol.ob w _ _ (((Builtin.append_ #[t, t] o.type #[.slice (some ⟨κ.blk k i, 0, none⟩) n' cap, .slice (some ⟨b2, o2, none⟩) m cap2]).run P w).andThen _)
          rw [hr]
          generalize hcur2 : (cur'.toList.take (n' * i0.size) ++ flat gg m ++ cur'.toList.drop (n' * i0.size + (flat gg m).length)).toArray = cur2
          have hcur2l : cur2.toList = flat gf n' ++ flat gg m ++ cur'.toList.drop (n' * i0.size + (flat gg m).length) := by rw [← hcur2, h3, htake]
          have hcsz : cur2.size = cur'.size := by
            have h1 := congrArg List.length hcur2l
            simp only [List.length_append, List.length_drop, Array.length_toList, hxs] at h1
            omega
          have hc2t : cur2.toList.take ((n' + m) * T.sz el) = flat gf n' ++ flat gg m := by
            rw [hcur2l, ← h3, Nat.add_mul, ← hxs, ← hnews, ← List.length_append, List.take_left]
          obtain ⟨r1, r2⟩ := Rel.repl (κ := κ) (w' := w.setRow (κ.blk k i) cur2) (key := key) (b := κ.blk k i) (sh := .arr (n' + m) (fun _ => T.zero el)) (c := .arr (n' + m) (appF n' f m g)) (cur := cur2) (e := el)
            hR hat hk rfl rfl rfl (by simp) (fun b' _ hne => setRow_other w _ b' cur2 hne) (.inl rfl) (setRow_heap w _ cur' cur2 el (0, 0) l1)
            (fun c0 e0 f0 h0 => by rw [l1] at h0; simp only [Option.some.injEq, Obj.cells.injEq] at h0; obtain ⟨rfl, rfl, rfl⟩ := h0; exact ⟨rfl, hcsz⟩)
            (hFL cur2 hc2t) (by rw [hFsz, hcsz, c4']; exact Nat.mul_le_mul_right _ hroom) ⟨rfl, appF_ssh l4.2 hsg⟩
          refine ⟨_, r1, ⟨_, rfl, by show OL.has _ key = true; rw [cons_has]; simp, by show (κ.set key (κ.blk k i) (.arr (n' + m) (fun _ => T.zero el))).shp key 0 = .arr (n' + m) (fun _ => X.T.zero el); rw [Gh.set_shp, hTT], cap, cur2, (0, 0), ?_, hroom, c2, ?_, ?_⟩, r2⟩
          · show _ = Value.slice (some ⟨(κ.set key (κ.blk k i) (.arr (n' + m) (fun _ => T.zero el))).blk key 0, 0, none⟩) (n' + m) cap
            rw [Gh.set_blk]
          · show (w.setRow (κ.blk k i) cur2).heap[(κ.set key (κ.blk k i) (.arr (n' + m) (fun _ => T.zero el))).blk key 0]? = _
            rw [Gh.set_blk]; exact setRow_heap w _ cur' cur2 el (0, 0) l1
          · show cur2.size = cap * X.T.sz el
            rw [hTT, hcsz]; exact c4'
        · have holds : ∀ j u, (flat gf n')[j]? = some u → w.cell? ((⟨κ.blk k i, 0, none⟩ : Addr).add j) = some u := by
            intro j u hj
            rw [addr_add, Nat.zero_add]
            simp only [World.cell?, l1]
            rw [← htake, List.getElem?_take] at hj
            split at hj
            · simpa using hj
            · cases hj
          have hr := run_append_grow (P := P) w t o.type el i0 z hu h1 h2 ⟨κ.blk k i, 0, none⟩ n' cap (flat gf n') hxs holds ⟨b2, o2, none⟩ m cap2 (flat gg m) hnews hcell (by omega) (by simp only [maxLen] at hm63; omega) (growslice_fits (by omega) (by rw [hby']; exact hb1))
          rw [hexec, e1, e2]
          show Out X κ ol.ob w _ _ (((Builtin.append_ #[t, t] o.type #[.slice (some ⟨κ.blk k i, 0, none⟩) n' cap, .slice (some ⟨b2, o2, none⟩) m cap2]).run P w).andThen _)
          rw [hr]
          have hge := grownCap_ge w (n' + m) cap el
          have hcm := grownCap_le_maxLen w (n' + m) cap el hm63
          generalize grownCap w (n' + m) cap el = gc at hge hcm ⊢
          generalize hcur2 : ((flat gf n').toArray ++ (flat gg m).toArray ++ Builtin.zeroCells z.cells (gc - (n' + m))) = cur2
          have hcsz : cur2.size = gc * T.sz el := by
            rw [← hcur2]
            simp only [Array.size_append, List.size_toArray, size_zeroCells, h5, hxs, hnews, h3, ← Nat.add_mul]
            congr 1
            omega
          have hc2t : cur2.toList.take ((n' + m) * T.sz el) = flat gf n' ++ flat gg m := by
            rw [← hcur2]
            simp only [Array.toList_append, List.append_assoc]
            rw [← List.append_assoc, ← h3, Nat.add_mul, ← hxs, ← hnews, ← List.length_append, List.take_left]
          have hg := Gr.alloc w.drew (.cells cur2 el)
          obtain ⟨r1, r2⟩ := Rel.repl (κ := κ) (w' := w.drew.alloc (.cells cur2 el)) (key := key) (b := w.heap.size) (sh := .arr (n' + m) (fun _ => T.zero el)) (c := .arr (n' + m) (appF n' f m g)) (cur := cur2) (e := el)
            hR hat hk rfl rfl rfl hg.size (fun b' hb' _ => hg.block b' hb') (.inr (Nat.le_refl _)) (heap_alloc_new w.drew _)
            (fun c0 e0 f0 h0 => by have := (Array.getElem?_eq_some_iff.1 h0).1; omega)
            (hFL cur2 hc2t) (by rw [hFsz, hcsz]; exact Nat.mul_le_mul_right _ hge) ⟨rfl, appF_ssh l4.2 hsg⟩
          refine ⟨_, r1, ⟨_, rfl, by show OL.has _ key = true; rw [cons_has]; simp, by show (κ.set key w.heap.size (.arr (n' + m) (fun _ => T.zero el))).shp key 0 = .arr (n' + m) (fun _ => X.T.zero el); rw [Gh.set_shp, hTT], gc, cur2, (0, 0), ?_, hge, hcm, ?_, ?_⟩, r2⟩
          · show _ = Value.slice (some ⟨(κ.set key w.heap.size (.arr (n' + m) (fun _ => T.zero el))).blk key 0, 0, none⟩) (n' + m) gc
            rw [Gh.set_blk]
          · show (w.drew.alloc (.cells cur2 el)).heap[(κ.set key w.heap.size (.arr (n' + m) (fun _ => T.zero el))).blk key 0]? = _
            rw [Gh.set_blk]; exact heap_alloc_new w.drew _
          · show cur2.size = gc * X.T.sz el
            rw [hTT]; exact hcsz
      · exact h.elim
    · rename_i es
      obtain ⟨hm0, hb1, hb2, h⟩ := h
      refine ⟨_, _, h, fun X κ w ρ hP hTT hR hv => ?_, fun k' hk' => by rw [cons_has, hk']; simp⟩
      have vs := hv s (by simp [ho, Op.operands, Call.operands])
      have vx := hv x (by simp [ho, Op.operands, Call.operands])
      rw [es] at vs
      obtain ⟨hsg, b2, o2, cap2, gg, e2, hgg, hcell⟩ := hx X κ w (ρ x) hTT hR vx
      have hnews : (flat gg m).length = m * i0.size := by rw [h3]; exact flat_all (fun j hj => (hgg j hj).2)
      have hm63 : m ≤ maxLen := by simp only [maxLen]; omega
      have hr := run_append_nil (P := P) w t o.type e i0 z hu h1 h2 ⟨b2, o2, none⟩ m cap2 (flat gg m) hnews hcell hm0 (by omega) (by rw [hby']; omega)
      rw [hexec, VR_nilsl vs, e2, hr]
      have hge := grownCap_ge w m 0 e
      have hcm := grownCap_le_maxLen w m 0 e hm63
      generalize grownCap w m 0 e = gc at hge hcm ⊢
      generalize hcur2 : ((flat gg m).toArray ++ Builtin.zeroCells z.cells (gc - m)) = cur2
      have hcsz : cur2.size = gc * T.sz e := by
        rw [← hcur2]
        simp only [Array.size_append, List.size_toArray, size_zeroCells, h5, hnews, h3, ← Nat.add_mul]
        congr 1
        omega
      have hc2t : cur2.toList.take (m * T.sz e) = flat gg m := by
        rw [← hcur2]
        simp only [Array.toList_append]
        rw [← h3, ← hnews, List.take_left]
      have hg0 := Gr.alloc w.drew (.cells cur2 e)
      have hg : Gr w (w.drew.alloc (.cells cur2 e)) := ⟨hg0.os, hg0.tape, hg0.output, hg0.size, hg0.block⟩
      have := new_own (key := key) (n := m) (F := g) (cur := cur2) (e := e) (cap := gc) hT hTT he hR hk hg (heap_alloc_new w.drew _) (fun K' hle => ⟨gg, fun j hj => ⟨FL_mono hle (hgg j hj).1, (hgg j hj).2⟩, hc2t⟩) hcsz hge hcm hsg
      rw [← OL.ob_append] at this
      exact this
    · exact h.elim
  · exact h.elim
end
end Go.Am

namespace Go.Am
def AV.noref : AV → Prop
  | .arr _ f => ∀ i, (f i).noref
  | .sct _ f => ∀ i, (f i).noref
  | .tup _ f => ∀ i, (f i).noref
  | .cptr _ => False
  | .ro _ _ => False
  | .fn _ n _ => n = 0
  | .ptr _ _ _ _ _ => False
  | _ => True
def AV.closed : AV → Prop
  | .arr _ f => ∀ i, (f i).closed
  | .sct _ f => ∀ i, (f i).closed
  | .tup _ f => ∀ i, (f i).closed
  | .cptr v => v.closed
  | .ro _ f => ∀ i, (f i).closed
  | .fn _ _ f => ∀ i, (f i).closed
  | .own _ _ _ _ => False
  | .ptr _ _ _ _ _ => False
  | _ => True
def shift (b : Nat) : AV → AV
  | .arr n f => .arr n (fun i => shift b (f i))
  | .sct n f => .sct n (fun i => shift b (f i))
  | .tup n f => .tup n (fun i => shift b (f i))
  | .ro n f => .ro n (fun i => shift b (f i))
  | .cptr v => .cptr (shift b v)
  | .fn g n f => .fn g n (fun i => shift b (f i))
  | .own k i n e => .own (b + k) i n e
  | .ptr k i p o r => .ptr (b + k) i p o r
  | v => v
theorem shift_size (b : Nat) : ∀ v : AV, (shift b v).size = v.size := by
  intro v
  induction v with
  | arr n f ih => simp only [shift, AV.size, ih 0]
  | sct n f ih => simp only [shift, AV.size, ih]
  | _ => rfl
theorem shift_isAgg (b : Nat) (v : AV) : (shift b v).isAgg = v.isAgg := by cases v <;> rfl
theorem ssh_shift (b : Nat) : ∀ {s v : AV}, ssh s v → ssh s (shift b v) := by
  intro s
  induction s with
  | arr n f ih =>
    intro v h
    cases v <;> simp only [ssh] at h
    exact ⟨h.1, fun i => ih i (h.2 i)⟩
  | sct n f ih =>
    intro v h
    cases v <;> simp only [ssh] at h
    exact ⟨h.1, fun i => ih i (h.2 i)⟩
  | tup n f _ => intro v h; exact h.elim
  | _ => intro v h; cases v <;> simp only [ssh] at h <;> trivial
def expS (dr : AV → AV) : AV → AV
  | .arr n f => .arr n (fun i => expS dr (f i))
  | .sct n f => .sct n (fun i => expS dr (f i))
  | .tup n f => .tup n (fun i => expS dr (f i))
  | .ro n f => .ro n (fun i => expS dr (f i))
  | .cptr v => .cptr (expS dr v)
  | .fn g n f => .fn g n (fun i => expS dr (f i))
  | .own k i n e => dr (.own k i n e)
  | .ptr k i p o r => dr (.ptr k i p o r)
  | v => v
def exp (at_ : Nat → Nat → Option (AV × AV)) : Nat → AV → AV
  | 0 => expS (fun _ => .any)
  | d + 1 => expS (fun v => match v with
    | .own k i _ _ => (match at_ k i with
      | some (_, .arr m f) => .ro m (fun j => exp at_ d (f j))
      | _ => .any)
    | .ptr k i p _ _ => (match at_ k i with
      | some (_, c) => .cptr (exp at_ d (sub c p))
      | none => .any)
    | v => v)
structure DrOk (K K' : Kx) (dr : AV → AV) : Prop where
  own : ∀ k i n e c, K.ownR k i n e c → FL K' (dr (.own k i n e)) [c] ∧ VR K' (dr (.own k i n e)) c
  ptr : ∀ k i p o r c, K.ptrR k i p o r c → VR K' (dr (.ptr k i p o r)) c
  one : ∀ k i n e, (dr (.own k i n e)).size = 1 ∧ (dr (.own k i n e)).isAgg = false
  two : ∀ k i p o r, (dr (.ptr k i p o r)).isAgg = false ∧ (dr (.ptr k i p o r)).size = 1
structure KSub (K K' : Kx) : Prop where
  heap : K'.heap = K.heap
  J : ∀ b, K.J b → K'.J b
theorem KSub.seg {K K' : Kx} (h : KSub K K') {b o : Nat} {s : List Value} (hs : K.seg b o s) : K'.seg b o s := by
  obtain ⟨cur, e, fr, h1, h2⟩ := hs
  exact ⟨cur, e, fr, by rw [h.heap]; exact h1, h2⟩
theorem expS_size {dr : AV → AV} (h1 : ∀ k i n e, (dr (.own k i n e)).size = 1) (h2 : ∀ k i p o r, (dr (.ptr k i p o r)).size = 1) : ∀ v : AV, (expS dr v).size = v.size := by
  intro v
  induction v with
  | arr n f ih => simp only [expS, AV.size, ih 0]
  | sct n f ih => simp only [expS, AV.size, ih]
  | own k i n e => exact h1 k i n e
  | ptr k i p o r _ => exact h2 k i p o r
  | _ => rfl
theorem expS_isAgg {dr : AV → AV} (h1 : ∀ k i n e, (dr (.own k i n e)).isAgg = false) (h2 : ∀ k i p o r, (dr (.ptr k i p o r)).isAgg = false) (v : AV) : (expS dr v).isAgg = v.isAgg := by
  cases v <;> first | rfl | exact h1 _ _ _ _ | exact h2 _ _ _ _ _
theorem FL_expS {K K' : Kx} (hs : KSub K K') {dr : AV → AV} (hdr : DrOk K K' dr) : ∀ {v : AV} {cs : List Value}, FL K v cs → FL K' (expS dr v) cs := by
  have hz := expS_size (fun k i n e => (hdr.one k i n e).1) (fun k i p o r => (hdr.two k i p o r).2)
  have ha := expS_isAgg (fun k i n e => (hdr.one k i n e).2) (fun k i p o r => (hdr.two k i p o r).1)
  intro v
  induction v with
  | arr n f ih =>
    rintro cs ⟨g, rfl, hg⟩
    exact ⟨g, rfl, fun i hi => ⟨ih i (hg i hi).1, by rw [hz]; exact (hg i hi).2⟩⟩
  | sct n f ih =>
    rintro cs ⟨g, rfl, hg⟩
    exact ⟨g, rfl, fun i hi => ih i (hg i hi)⟩
  | own k i n e => rintro cs ⟨c, rfl, hc⟩; exact (hdr.own k i n e c hc).1
  | cptr v ih => rintro cs ⟨b, o, seg, rfl, hJ, hv, hsg⟩; exact ⟨b, o, seg, rfl, hs.J b hJ, ih hv, hs.seg hsg⟩
  | ro n f ih =>
    rintro cs ⟨A, cap, rfl, h1, h2, h3⟩
    refine ⟨A, cap, rfl, h1, h2, ?_⟩
    rcases h3 with h3 | ⟨b, o, g, hA, hJ, hsg, hg⟩
    · exact .inl h3
    · exact .inr ⟨b, o, g, hA, hs.J b hJ, hs.seg hsg, fun i hi => ⟨ih i (hg i hi).1, by rw [hz]; exact (hg i hi).2⟩⟩
  | fn q n caps ih => rintro cs ⟨cv, rfl, h1, h2⟩; exact ⟨cv, rfl, h1, fun i hi => ⟨by rw [ha]; exact (h2 i hi).1, ih i (h2 i hi).2⟩⟩
  | tup n f _ => intro cs h; exact h.elim
  | ptr k i p o r _ => intro cs h; exact h.elim
  | _ => intro cs h; exact h
theorem VR_expS {K K' : Kx} (hs : KSub K K') {dr : AV → AV} (hdr : DrOk K K' dr) : ∀ {v : AV} {c : Value}, VR K v c → VR K' (expS dr v) c := by
  intro v
  induction v with
  | arr n f ih => rintro c ⟨cs, rfl, hc⟩; exact ⟨cs, rfl, FL_expS hs hdr hc⟩
  | sct n f ih => rintro c ⟨cs, rfl, hc⟩; exact ⟨cs, rfl, FL_expS hs hdr hc⟩
  | tup n f ih => rintro c ⟨vs, rfl, h1, h2⟩; exact ⟨vs, rfl, h1, fun i hi => ih i (h2 i hi)⟩
  | fn q n caps ih => rintro c ⟨cv, rfl, h1, h2⟩; exact ⟨cv, rfl, h1, fun i hi => ih i (h2 i hi)⟩
  | ptr k i p o r _ => intro c h; exact hdr.ptr k i p o r c h
  | own k i n e => intro c h; exact (hdr.own k i n e c (VR_own h)).2
  | any => intro c _; trivial
  | cptr v _ => intro c hc; exact FL_expS hs hdr hc
  | ro n f _ => intro c hc; exact FL_expS hs hdr hc
  | _ => intro c hc; exact hc
theorem FL_closed {K K' : Kx} (hs : KSub K K') (dr : AV → AV) : ∀ {v : AV} {cs : List Value}, v.closed → FL K v cs → FL K' (expS dr v) cs ∧ (expS dr v).size = v.size ∧ (expS dr v).isAgg = v.isAgg := by
  have hz : ∀ {v : AV}, v.closed → (expS dr v).size = v.size := by
    intro v
    induction v with
    | arr n f ih => intro h; simp only [expS, AV.size]; rw [ih 0 (h 0)]
    | sct n f ih => intro h; simp only [expS, AV.size]; exact sumTo_congr fun i _ => ih i (h i)
    | own k i n e => intro h; exact h.elim
    | ptr k i p o r _ => intro h; exact h.elim
    | _ => intro _; rfl
  have ha : ∀ {v : AV}, v.closed → (expS dr v).isAgg = v.isAgg := by
    intro v h
    cases v <;> first | rfl | exact h.elim
  intro v cs hc h
  refine ⟨?_, hz hc, ha hc⟩
  revert cs
  induction v with
  | arr n f ih =>
    rintro cs ⟨g, rfl, hg⟩
    exact ⟨g, rfl, fun i hi => ⟨ih i (hc i) (hg i hi).1, by rw [hz (hc 0)]; exact (hg i hi).2⟩⟩
  | sct n f ih =>
    rintro cs ⟨g, rfl, hg⟩
    exact ⟨g, rfl, fun i hi => ih i (hc i) (hg i hi)⟩
  | own k i n e => exact hc.elim
  | cptr v ih => rintro cs ⟨b, o, seg, rfl, hJ, hv, hsg⟩; exact ⟨b, o, seg, rfl, hs.J b hJ, ih hc hv, hs.seg hsg⟩
  | ro n f ih =>
    rintro cs ⟨A, cap, rfl, h1, h2, h3⟩
    refine ⟨A, cap, rfl, h1, h2, ?_⟩
    rcases h3 with h3 | ⟨b, o, g, hA, hJ, hsg, hg⟩
    · exact .inl h3
    · exact .inr ⟨b, o, g, hA, hs.J b hJ, hs.seg hsg, fun i hi => ⟨ih i (hc i) (hg i hi).1, by rw [hz (hc 0)]; exact (hg i hi).2⟩⟩
  | fn q n caps ih => rintro cs ⟨cv, rfl, h1, h2⟩; exact ⟨cv, rfl, h1, fun i hi => ⟨by rw [ha (hc i)]; exact (h2 i hi).1, ih i (hc i) (h2 i hi).2⟩⟩
  | tup n f _ => intro cs h; exact h.elim
  | ptr k i p o r _ => exact hc.elim
  | _ => intro cs h; exact h
theorem VR_closed {K K' : Kx} (hs : KSub K K') (dr : AV → AV) : ∀ {v : AV} {c : Value}, v.closed → VR K v c → VR K' (expS dr v) c := by
  intro v
  induction v with
  | arr n f ih => rintro c h ⟨cs, rfl, hc⟩; exact ⟨cs, rfl, (FL_closed hs dr (v := .arr n f) h hc).1⟩
  | sct n f ih => rintro c h ⟨cs, rfl, hc⟩; exact ⟨cs, rfl, (FL_closed hs dr (v := .sct n f) h hc).1⟩
  | tup n f ih => rintro c h ⟨vs, rfl, h1, h2⟩; exact ⟨vs, rfl, h1, fun i hi => ih i (h i) (h2 i hi)⟩
  | fn q n caps ih => rintro c h ⟨cv, rfl, h1, h2⟩; exact ⟨cv, rfl, h1, fun i hi => ih i (h i) (h2 i hi)⟩
  | ptr k i p o r _ => intro c h; exact h.elim
  | own k i n e => intro c h; exact h.elim
  | any => intro c _ _; trivial
  | cptr v _ => intro c h hc; exact (FL_closed hs dr (v := .cptr v) h hc).1
  | ro n f _ => intro c h hc; exact (FL_closed hs dr (v := .ro n f) h hc).1
  | _ => intro c h hc; exact hc
def K0 (T : TT) (I : Nat → Prop) (w : World) : Kx := { heap := w.heap, J := I, dom := fun _ => False, blk := fun _ _ => 0, shp := fun _ _ => .any, sz := T.sz, zr := T.zero }
def allI (X : Cx) (w : World) : Nat → Prop := fun b => X.I b ∨ X.M b ∨ (X.w0.heap.size ≤ b ∧ b < w.heap.size)
theorem exp_ok {X : Cx} {κ : Gh} {ob ob1 : Ob} {w : World} (hR : Rel X κ ob1 w) (hag : ∀ k, ob1.has k = true → ob.has k = true → ∀ i, ob1.at_ k i = ob.at_ k i)
    (hhas : ∀ k i, ob.at_ k i ≠ none → ob.has k = true) :
    ∀ d, DrOk (KK X κ ob1 w) (K0 X.T (allI X w) w) (fun v => match v with
      | .own k i _ _ => (match ob.at_ k i with
        | some (_, .arr m f) => .ro m (fun j => exp ob.at_ d (f j))
        | _ => .any)
      | .ptr k i p _ _ => (match ob.at_ k i with
        | some (_, c) => .cptr (exp ob.at_ d (sub c p))
        | none => .any)
      | v => v) ∧ (∀ {v : AV} {cs : List Value}, FL (KK X κ ob1 w) v cs → FL (K0 X.T (allI X w) w) (exp ob.at_ d v) cs ∧ (exp ob.at_ d v).size = v.size) := by
  have hsub : KSub (KK X κ ob1 w) (K0 X.T (allI X w) w) := ⟨rfl, fun b hb => hb.1⟩
  have any0 : DrOk (KK X κ ob1 w) (K0 X.T (allI X w) w) (fun _ => .any) := ⟨fun k i n e c h => by
      obtain ⟨_, _, cap, cur, fr, rfl, _⟩ := h
      exact ⟨⟨_, rfl, rfl⟩, trivial⟩, fun _ _ _ _ _ _ _ => trivial, fun _ _ _ _ => ⟨rfl, rfl⟩, fun _ _ _ _ _ => ⟨rfl, rfl⟩⟩
  have liveI : ∀ {k i : Nat} {sh c : AV}, ob1.at_ k i = some (sh, c) → allI X w (κ.blk k i) := fun {k i sh c} h => by
    obtain ⟨cur, e, l1, _, _, _, _, l6, _⟩ := hR.live k i sh c h
    rcases l6 with l6 | l6
    · exact .inr (.inr ⟨l6, (Array.getElem?_eq_some_iff.1 l1).1⟩)
    · exact .inr (.inl l6)
  have step : ∀ d, (∀ {v : AV} {cs : List Value}, FL (KK X κ ob1 w) v cs → FL (K0 X.T (allI X w) w) (exp ob.at_ d v) cs ∧ (exp ob.at_ d v).size = v.size) →
      DrOk (KK X κ ob1 w) (K0 X.T (allI X w) w) (fun v => match v with
      | .own k i _ _ => (match ob.at_ k i with
        | some (_, .arr m f) => .ro m (fun j => exp ob.at_ d (f j))
        | _ => .any)
      | .ptr k i p _ _ => (match ob.at_ k i with
        | some (_, c) => .cptr (exp ob.at_ d (sub c p))
        | none => .any)
      | v => v) := by
    intro d hd
    refine ⟨fun k i n e c h => ?_, fun k i p o r c h => ?_, fun k i n e => ?_, fun k i p o r => ?_⟩
    · have hanyc : FL (K0 X.T (allI X w) w) .any [c] ∧ VR (K0 X.T (allI X w) w) .any c := by
        obtain ⟨_, _, cap, cur, fr, rfl, _⟩ := h
        exact ⟨⟨_, rfl, rfl⟩, trivial⟩
      dsimp only
      split
      · rename_i sh m f hat
        obtain ⟨hdom, hshp, cap, cur, fr, rfl, c1, c2, c3, c4⟩ := h
        have hat1 : ob1.at_ k i = some (sh, .arr m f) := by rw [hag k hdom (hhas k i (by rw [hat]; simp)) i]; exact hat
        obtain ⟨cur', e2, l1, l2, l3, l4, l5, l6⟩ := hR.live k i _ _ hat1
        have hshp' : κ.shp k i = .arr n (fun _ => X.T.zero e) := hshp
        rw [l5, hshp'] at l4
        obtain ⟨rfl, l4'⟩ := l4
        have c3' : w.heap[κ.blk k i]? = some (.cells cur e fr) := c3
        rw [l1] at c3'
        simp only [Option.some.injEq, Obj.cells.injEq] at c3'
        obtain ⟨rfl, rfl, rfl⟩ := c3'
        obtain ⟨gg, q1, q2⟩ := l3
        have : FL (K0 X.T (allI X w) w) (.ro n (fun j => exp ob.at_ d (f j))) [.slice (some ⟨κ.blk k i, 0, none⟩) n cap] := by
          refine ⟨_, _, rfl, c1, c2, .inr ⟨_, 0, gg, rfl, liveI hat1, ⟨cur', e2, (0, 0), l1, fun j u hu => ?_⟩, fun j hj => ⟨(hd (q2 j hj).1).1, ?_⟩⟩⟩
          · rw [Nat.zero_add, ← Array.getElem?_toList]
            rw [← q1, List.getElem?_take] at hu
            split at hu
            · exact hu
            · cases hu
          · rw [(hd (q2 0 (by omega)).1).2]; exact (q2 j hj).2
        exact ⟨this, this⟩
      · exact hanyc
    · dsimp only
      split
      · rename_i sh c' hat
        obtain ⟨hdom, rfl, e2, e3, e4⟩ := h
        have hat1 : ob1.at_ k i = some (sh, c') := by rw [hag k hdom (hhas k i (by rw [hat]; simp)) i]; exact hat
        obtain ⟨cur', el, l1, l2, l3, l4, l5, l6⟩ := hR.live k i _ _ hat1
        have hsh : sh = r := l5.trans e4.symm
        subst hsh
        obtain ⟨seg, s1, s2⟩ := live_seg hR hat1 e3
        rw [← e2] at s2
        exact VR_cptr_mk (liveI hat1) (hd s1).1 (hsub.seg s2)
      · trivial
    · dsimp only
      split <;> exact ⟨rfl, rfl⟩
    · dsimp only
      split <;> exact ⟨rfl, rfl⟩
  intro d
  induction d with
  | zero =>
    have h0 : ∀ {v : AV} {cs : List Value}, FL (KK X κ ob1 w) v cs → FL (K0 X.T (allI X w) w) (exp ob.at_ 0 v) cs ∧ (exp ob.at_ 0 v).size = v.size := fun h =>
      ⟨FL_expS hsub any0 h, expS_size (fun _ _ _ _ => rfl) (fun _ _ _ _ _ => rfl) _⟩
    exact ⟨step 0 h0, h0⟩
  | succ d ih =>
    have h1 : ∀ {v : AV} {cs : List Value}, FL (KK X κ ob1 w) v cs → FL (K0 X.T (allI X w) w) (exp ob.at_ (d + 1) v) cs ∧ (exp ob.at_ (d + 1) v).size = v.size := fun h =>
      ⟨FL_expS hsub ih.1 h, expS_size (fun k i n e => (ih.1.one k i n e).1) (fun k i p o r => (ih.1.two k i p o r).2) _⟩
    exact ⟨step (d + 1) h1, h1⟩
theorem VR_exp {X : Cx} {κ : Gh} {ob ob1 : Ob} {w : World} (hR : Rel X κ ob1 w) (hag : ∀ k, ob1.has k = true → ob.has k = true → ∀ i, ob1.at_ k i = ob.at_ k i)
    (hhas : ∀ k i, ob.at_ k i ≠ none → ob.has k = true) (d : Nat) {v : AV} {c : Value} (h : VR (KK X κ ob1 w) v c) : VR (K0 X.T (allI X w) w) (exp ob.at_ (d + 1) v) c :=
  VR_expS (K := KK X κ ob1 w) (K' := K0 X.T (allI X w) w) ⟨rfl, fun b (hb : (KK X κ ob1 w).J b) => hb.1⟩ (exp_ok hR hag hhas d).1 h
structure ShOk (b : Nat) (K K' : Kx) : Prop where
  heap : K'.heap = K.heap
  sz : K'.sz = K.sz
  zr : K'.zr = K.zr
  dom : ∀ k, K.dom k → K'.dom (b + k) ∧ ∀ i, K'.blk (b + k) i = K.blk k i ∧ K'.shp (b + k) i = K.shp k i
theorem ShOk.seg {b' : Nat} {K K' : Kx} (h : ShOk b' K K') {b o : Nat} {s : List Value} (hs : K.seg b o s) : K'.seg b o s := by
  obtain ⟨cur, e, fr, h1, h2⟩ := hs
  exact ⟨cur, e, fr, by rw [h.heap]; exact h1, h2⟩
theorem ShOk.own {b : Nat} {K K' : Kx} (h : ShOk b K K') {k i n : Nat} {e : TypeId} {c : Value} (hs : K.ownR k i n e c) : K'.ownR (b + k) i n e c := by
  obtain ⟨hd, hn, cap, cur, fr, rfl, h1, h2, h3, h4⟩ := hs
  obtain ⟨d1, d2⟩ := h.dom k hd
  exact ⟨d1, by rw [(d2 i).2, h.zr]; exact hn, cap, cur, fr, by rw [(d2 i).1], h1, h2, by rw [(d2 i).1, h.heap]; exact h3, by rw [h.sz]; exact h4⟩
theorem FL_shift {b : Nat} {K K' : Kx} (h : ShOk b K K') : ∀ {v : AV} {cs : List Value}, ((∀ x, K.J x → K'.J x) ∨ v.noref) → FL K v cs → FL K' (shift b v) cs := by
  intro v
  induction v with
  | arr n f ih =>
    rintro cs hJ ⟨g, rfl, hg⟩
    exact ⟨g, rfl, fun i hi => ⟨ih i (hJ.imp id (fun q => q i)) (hg i hi).1, by rw [shift_size]; exact (hg i hi).2⟩⟩
  | sct n f ih =>
    rintro cs hJ ⟨g, rfl, hg⟩
    exact ⟨g, rfl, fun i hi => ih i (hJ.imp id (fun q => q i)) (hg i hi)⟩
  | own k i n e => rintro cs _ ⟨c, rfl, hc⟩; exact ⟨c, rfl, h.own hc⟩
  | cptr v ih =>
    rintro cs hJ ⟨b, o, seg, rfl, hb, hv, hsg⟩
    rcases hJ with hJ | hJ
    · exact ⟨b, o, seg, rfl, hJ b hb, ih (.inl hJ) hv, h.seg hsg⟩
    · exact hJ.elim
  | ro n f ih =>
    rintro cs hJ ⟨A, cap, rfl, h1, h2, h3⟩
    rcases hJ with hJ | hJ
    · refine ⟨A, cap, rfl, h1, h2, ?_⟩
      rcases h3 with h3 | ⟨b, o, g, hA, hb, hsg, hg⟩
      · exact .inl h3
      · exact .inr ⟨b, o, g, hA, hJ b hb, h.seg hsg, fun i hi => ⟨ih i (.inl hJ) (hg i hi).1, by rw [shift_size]; exact (hg i hi).2⟩⟩
    · exact hJ.elim
  | fn q n caps ih =>
    rintro cs hJ ⟨cv, rfl, h1, h2⟩
    refine ⟨cv, rfl, h1, fun i hi => ⟨by rw [shift_isAgg]; exact (h2 i hi).1, ?_⟩⟩
    rcases hJ with hJ | hJ
    · exact ih i (.inl hJ) (h2 i hi).2
    · have : n = 0 := hJ
      omega
  | tup n f _ => intro cs _ h; exact h.elim
  | ptr k i p o r _ => intro cs _ h; exact h.elim
  | _ => intro cs _ h; exact h
theorem VR_shift {b : Nat} {K K' : Kx} (h : ShOk b K K') : ∀ {v : AV} {c : Value}, ((∀ x, K.J x → K'.J x) ∨ v.noref) → VR K v c → VR K' (shift b v) c := by
  intro v
  induction v with
  | arr n f ih => rintro c hJ ⟨cs, rfl, hc⟩; exact ⟨cs, rfl, FL_shift h hJ hc⟩
  | sct n f ih => rintro c hJ ⟨cs, rfl, hc⟩; exact ⟨cs, rfl, FL_shift h hJ hc⟩
  | tup n f ih => rintro c hJ ⟨vs, rfl, h1, h2⟩; exact ⟨vs, rfl, h1, fun i hi => ih i (hJ.imp id (fun q => q i)) (h2 i hi)⟩
  | fn q n caps ih =>
    rintro c hJ ⟨cv, rfl, h1, h2⟩
    refine ⟨cv, rfl, h1, fun i hi => ?_⟩
    rcases hJ with hJ | hJ
    · exact ih i (.inl hJ) (h2 i hi)
    · have : n = 0 := hJ
      omega
  | ptr k i p o r _ =>
    rintro c _ ⟨hd, rfl, h1, h2, h3⟩
    obtain ⟨d1, d2⟩ := h.dom k hd
    exact ⟨d1, by rw [(d2 i).1], h1, h2, by rw [(d2 i).2]; exact h3⟩
  | any => intro c _ _; trivial
  | own k i n e => intro c hJ hc; exact FL_shift h hJ hc
  | cptr v _ => intro c hJ hc; exact FL_shift h hJ hc
  | ro n f _ => intro c hJ hc; exact FL_shift h hJ hc
  | _ => intro c _ hc; exact hc
def Fam.shift (b : Nat) : Fam → Fam
  | .one sh c => .one sh (Am.shift b c)
  | .gone => .gone
  | .many f => .many (fun i => match f i with | some (sh, c) => some (sh, Am.shift b c) | none => none)
def OL.shift (b : Nat) : OL → OL
  | [] => []
  | (k, F) :: r => (b + k, F.shift b) :: OL.shift b r
theorem Fam.at_shift (b : Nat) (F : Fam) (i : Nat) : (F.shift b).at_ i = match F.at_ i with | some (sh, c) => some (sh, Am.shift b c) | none => none := by
  cases F with
  | one sh c =>
    simp only [Fam.shift, Fam.at_]
    cases Nat.beq i 0 <;> rfl
  | gone => rfl
  | many f => rfl
theorem beq_add (b k k' : Nat) : Nat.beq (b + k) (b + k') = Nat.beq k k' := by
  by_cases h : k = k'
  · subst h; simp
  · rw [beq_ff h, beq_ff (by omega)]
theorem OL.at_shift (b : Nat) (H : OL) (k i : Nat) : (OL.shift b H).at_ (b + k) i = match H.at_ k i with | some (sh, c) => some (sh, Am.shift b c) | none => none := by
  induction H with
  | nil => rfl
  | cons p r ih =>
    obtain ⟨k', F⟩ := p
    simp only [OL.shift, OL.at_, beq_add]
    cases Nat.beq k k'
    · exact ih
    · exact Fam.at_shift b F i
theorem OL.has_shift (b : Nat) (H : OL) (k : Nat) : (OL.shift b H).has (b + k) = H.has k := by
  induction H with
  | nil => rfl
  | cons p r ih =>
    obtain ⟨k', F⟩ := p
    simp only [OL.shift, OL.has, beq_add]
    cases Nat.beq k k'
    · exact ih
    · rfl
theorem OL.has_shift_ge {b : Nat} {H : OL} {k : Nat} (h : (OL.shift b H).has k = true) : b ≤ k := by
  induction H with
  | nil => cases h
  | cons p r ih =>
    obtain ⟨k', F⟩ := p
    simp only [OL.shift, OL.has] at h
    cases hb : Nat.beq k (b + k')
    · rw [hb] at h; exact ih h
    · have := Nat.eq_of_beq_eq_true hb; omega
def norefH : OL → Prop
  | [] => True
  | (_, .one _ c) :: r => c.noref ∧ norefH r
  | (_, .gone) :: r => norefH r
  | (_, .many f) :: r => (∀ i sh c, f i = some (sh, c) → c.noref) ∧ norefH r
theorem norefH_at {H : OL} (h : norefH H) {k i : Nat} {sh c : AV} (hk : H.at_ k i = some (sh, c)) : c.noref := by
  induction H with
  | nil => cases hk
  | cons p r ih =>
    obtain ⟨k', F⟩ := p
    simp only [OL.at_] at hk
    cases F with
    | one s1 c1 =>
      cases hb : Nat.beq k k'
      · rw [hb] at hk; exact ih h.2 hk
      · rw [hb] at hk
        simp only [cond_true, Fam.at_] at hk
        cases hi : Nat.beq i 0
        · rw [hi] at hk; cases hk
        · rw [hi] at hk
          simp only [cond_true, Option.some.injEq, Prod.mk.injEq] at hk
          rw [← hk.2]; exact h.1
    | gone =>
      cases hb : Nat.beq k k'
      · rw [hb] at hk; exact ih h hk
      · rw [hb] at hk; cases hk
    | many f =>
      cases hb : Nat.beq k k'
      · rw [hb] at hk; exact ih h.2 hk
      · rw [hb] at hk; exact h.1 i sh c hk
def freshB (b : Nat) : OL → OL → Bool
  | [], _ => true
  | (k, _) :: r, ol => (!(OL.has ol (b + k))) && freshB b r ol
theorem freshB_has {b : Nat} {H ol : OL} (h : freshB b H ol = true) {k : Nat} (hk : (OL.shift b H).has k = true) : ol.has k = false := by
  induction H with
  | nil => cases hk
  | cons p r ih =>
    obtain ⟨k', F⟩ := p
    simp only [freshB, Bool.and_eq_true, Bool.not_eq_true'] at h
    simp only [OL.shift, OL.has] at hk
    cases hb : Nat.beq k (b + k')
    · rw [hb] at hk; exact ih h.2 hk
    · rw [Nat.eq_of_beq_eq_true hb]; exact h.1
def VRs (K : Kx) : List AV → List Value → Prop
  | [], [] => True
  | a :: ars, c :: cs => VR K a c ∧ VRs K ars cs
  | _, _ => False
def Ent (P : Program) (f : FuncId) : Prop := ∀ (args : Array Value) (w : World), (callFunc f args).run P w = .ok (.enter f args) w
structure ACalls (P : Program) (T : TT) (f : FuncId) (ars : List AV) (r : AV) (H : OL) : Prop where
  ent : Ent P f
  go : ∀ (w : World) (I : Nat → Prop) (cs : List Value), (∀ b, I b → b < w.heap.size) → VRs (K0 T I w) ars cs →
    Calls P f cs.toArray w (fun e w' => ∃ c κ, e = .returned c ∧ Rel ⟨P, T, w, I, fun _ => False⟩ κ H.ob w' ∧ VR (KK ⟨P, T, w, I, fun _ => False⟩ κ H.ob w') r c)
def capL (n : Nat) (caps : Nat → AV) : List AV := (List.range n).map caps
def closedL : List AV → Prop
  | [] => True
  | a :: r => a.closed ∧ closedL r
def callee (ev : EV) : Operand → AV
  | .func g => .fn g 0 (fun _ => .any)
  | x => ev x
def CallW (P : Program) (T : TT) (f : Operand) (args : List Operand) (key : Nat) (ev : EV) (ol : OL) (K : AV → OL → Prop) : Prop :=
  match callee ev f with
  | .fn g n caps => ∃ r H, ACalls P T g ((args.map ev ++ capL n caps).map (exp ol.at_ 4)) r H ∧ ((r.noref ∧ norefH H) ∨ closedL (args.map ev ++ capL n caps)) ∧
      freshB (1000 * (key + 1)) H ol = true ∧ K (shift (1000 * (key + 1)) r) (OL.shift (1000 * (key + 1)) H)
  | _ => False
theorem VRs_map {K K' : Kx} {ars : List AV} {cs : List Value} {F : AV → AV} (h : VRs K ars cs) (hF : ∀ a c, a ∈ ars → VR K a c → VR K' (F a) c) : VRs K' (ars.map F) cs := by
  induction ars generalizing cs with
  | nil => cases cs <;> exact h
  | cons a ars ih =>
    cases cs with
    | nil => exact h.elim
    | cons c cs => exact ⟨hF a c (by simp) h.1, ih h.2 (fun a c ha => hF a c (by simp [ha]))⟩
theorem VRs_append {K : Kx} {ars bs : List AV} {cs ds : List Value} (h1 : VRs K ars cs) (h2 : VRs K bs ds) : VRs K (ars ++ bs) (cs ++ ds) := by
  induction ars generalizing cs with
  | nil => cases cs with
    | nil => exact h2
    | cons => exact h1.elim
  | cons a ars ih =>
    cases cs with
    | nil => exact h1.elim
    | cons c cs => exact ⟨h1.1, ih h1.2⟩
theorem VRs_of {K : Kx} {ev : EV} {ρ : Operand → Value} : ∀ (xs : List Operand), (∀ x ∈ xs, VR K (ev x) (ρ x)) → VRs K (xs.map ev) (xs.map ρ)
  | [], _ => trivial
  | x :: xs, h => ⟨h x (by simp), VRs_of xs (fun y hy => h y (by simp [hy]))⟩
theorem VRs_caps {K : Kx} : ∀ (n : Nat) (caps : Nat → AV) (cv : List Value), cv.length = n → (∀ i, i < n → VR K (caps i) (cv.getD i undef)) → VRs K (capL n caps) cv := by
  have key : ∀ (n s : Nat) (caps : Nat → AV) (cv : List Value), cv.length = n → (∀ i, i < n → VR K (caps (s + i)) (cv.getD i undef)) → VRs K ((List.range' s n).map caps) cv := by
    intro n
    induction n with
    | zero => intro s caps cv h _; cases cv with
      | nil => trivial
      | cons => simp at h
    | succ n ih =>
      intro s caps cv h hv
      cases cv with
      | nil => simp at h
      | cons c cv =>
        rw [List.range'_succ, List.map_cons]
        refine ⟨hv 0 (by omega), ih (s + 1) caps cv (by simpa using h) (fun i hi => ?_)⟩
        have := hv (i + 1) (by omega)
        rw [show s + (i + 1) = s + 1 + i from by omega] at this
        simpa using this
  intro n caps cv h hv
  unfold capL
  rw [List.range_eq_range']
  exact key n 0 caps cv h (fun i hi => by rw [Nat.zero_add]; exact hv i hi)
theorem closedL_mem {ars : List AV} (h : closedL ars) {a : AV} (ha : a ∈ ars) : a.closed := by
  induction ars with
  | nil => cases ha
  | cons b ars ih =>
    cases ha with
    | head => exact h.1
    | tail _ h' => exact ih h.2 h'
section
variable {P : Program} {T : TT}
theorem CallW_sound {o : Oper} {f : Operand} {args : Array Operand} {argTypes : Array TypeId} (ho : o.op = .call { callee := .value f, args := args, argTypes := argTypes }) {ev : EV} {ol : OL} {key : Nat} {K : AV → OL → Prop}
    (h : CallW P T f args.toList key ev ol K) : ∃ v A, K v A ∧ (∀ k, A.has k = true → ol.has k = false) ∧
      ∀ (X : Cx) (κ : Gh) (ob1 : Ob) (w : World) (ρ : Operand → Value), X.P = P → X.T = T → (∀ g, ρ (.func g) = .func (.func g) #[] #[]) → Rel X κ ob1 w →
        (∀ k, ob1.has k = true → ol.ob.has k = true → ∀ i, ob1.at_ k i = ol.ob.at_ k i) → (∀ k, A.has k = true → ob1.has k = false) →
        (∀ x ∈ o.op.operands.toList, VR (KK X κ ob1 w) (ev x) (ρ x)) → Out X κ ob1 w (A.ob.ext ob1) v ((execOp ρ o).run P w) := by
  unfold CallW at h
  split at h
  · rename_i g n caps hg
    obtain ⟨r, H, hA, href, hfr, h⟩ := h
    refine ⟨_, _, h, fun k hk => freshB_has hfr hk, fun X κ ob1 w ρ hP hTT hρ hR hag hnew hv => ?_⟩
    generalize hb : 1000 * (key + 1) = b at *
    obtain ⟨cv, e1, e2, e3⟩ : ∃ cv : Array Value, ρ f = .func (.func g) #[] cv ∧ cv.size = n ∧ ∀ i, i < n → VR (KK X κ ob1 w) (caps i) (cv.getD i undef) := by
      cases f with
      | func g' =>
        simp only [callee, AV.fn.injEq] at hg
        obtain ⟨rfl, rfl, _⟩ := hg
        exact ⟨#[], hρ g', rfl, fun i hi => by omega⟩
      | tmp t =>
        have := hv (.tmp t) (by simp [ho, Op.operands, Call.operands])
        simp only [callee] at hg
        rw [hg] at this
        exact this
      | const c =>
        have := hv (.const c) (by simp [ho, Op.operands, Call.operands])
        simp only [callee] at hg
        rw [hg] at this
        exact this
      | global c =>
        have := hv (.global c) (by simp [ho, Op.operands, Call.operands])
        simp only [callee] at hg
        rw [hg] at this
        exact this
    have hvs : VRs (KK X κ ob1 w) (args.toList.map ev ++ capL n caps) (args.toList.map ρ ++ cv.toList) :=
      VRs_append (VRs_of _ (fun x hx => hv x (by simp [ho, Op.operands, Call.operands]; exact .inr (by simpa using hx)))) (VRs_caps n caps cv.toList (by simpa using e2) (fun i hi => by
        have := e3 i hi
        simpa using this))
    obtain ⟨I, hI, hvs', hJ⟩ : ∃ I : Nat → Prop, (∀ b, I b → allI X w b) ∧ VRs (K0 X.T I w) ((args.toList.map ev ++ capL n caps).map (exp ol.at_ 4)) (args.toList.map ρ ++ cv.toList) ∧
        ((r.noref ∧ norefH H) ∨ ∀ b, I b → (KK X κ ob1 w).J b) := by
      rcases href with href | hcl
      · exact ⟨allI X w, fun _ h => h, VRs_map hvs (fun a c _ h => VR_exp (ob := ol.ob) hR hag (fun k i hk => OL.has_of_at hk) 3 h), .inl href⟩
      · exact ⟨(KK X κ ob1 w).J, fun b hb => hb.1, VRs_map hvs (fun a c ha h => by unfold exp; exact VR_closed (K := KK X κ ob1 w) (K' := K0 X.T (KK X κ ob1 w).J w) ⟨rfl, fun _ h => h⟩ _ (closedL_mem hcl ha) h), .inr (fun _ h => h)⟩
    have hlt : ∀ b, allI X w b → b < w.heap.size := by
      intro b' hb'
      rcases hb' with h1 | h1 | h1
      · exact Nat.lt_of_lt_of_le (hR.hI _ h1).1 hR.size
      · exact Nat.lt_of_lt_of_le (hR.hM _ h1) hR.size
      · exact h1.2
    have hcall := hA.go w I (args.toList.map ρ ++ cv.toList) (fun b' hb' => hlt b' (hI b' hb')) (by rw [← hTT]; exact hvs')
    have hrun : (execOp ρ o).run P w = .ok (.enter g (args.toList.map ρ ++ cv.toList).toArray) w := by
      have : (args.toList.map ρ ++ cv.toList).toArray = #[] ++ args.map ρ ++ cv := by
        apply Array.ext'; simp
      rw [this]
      simp only [execOp, ho, resolve, e1, Deferred.ofValue, Sem.run_bind, Sem.run_pure, Result.andThen_ok, invoke]
      exact hA.ent _ w
    rw [hrun]
    show Calls X.P g _ w _
    rw [hP]
    refine hcall.mono ?_
    rintro e w' ⟨c, κH, rfl, RH, hr⟩
    have hbn : ∀ k i, H.at_ k i ≠ none → w.heap.size ≤ κH.blk k i := by
      intro k i hk
      cases hc : H.at_ k i with
      | none => exact absurd hc hk
      | some p =>
        obtain ⟨_, _, _, _, _, _, _, l6, _⟩ := RH.live k i p.1 p.2 hc
        exact l6.resolve_right (fun h => h)
    let κ' : Gh := ⟨fun k i => if (OL.shift b H).has k = true then κH.blk (k - b) i else κ.blk k i, fun k i => if (OL.shift b H).has k = true then κH.shp (k - b) i else κ.shp k i⟩
    have k1 : ∀ k i, H.has k = true → κ'.blk (b + k) i = κH.blk k i ∧ κ'.shp (b + k) i = κH.shp k i := by
      intro k i hk
      have : (OL.shift b H).has (b + k) = true := by rw [OL.has_shift]; exact hk
      simp only [κ', this, if_true, Nat.add_sub_cancel_left, and_self]
    have k2 : ∀ k i, ob1.has k = true → κ'.blk k i = κ.blk k i ∧ κ'.shp k i = κ.shp k i := by
      intro k i hk
      have : (OL.shift b H).has k ≠ true := fun q => by rw [hnew k q] at hk; cases hk
      simp only [κ', if_neg this, and_self]
    have hat : ∀ k i, ((OL.shift b H).ob.ext ob1).at_ k i ≠ none → (∃ k0, k = b + k0 ∧ H.at_ k0 i ≠ none ∧ H.has k0 = true) ∨ (ob1.at_ k i ≠ none ∧ ob1.has k = true ∧ ((OL.shift b H).ob.ext ob1).at_ k i = ob1.at_ k i) := by
      intro k i hk
      by_cases hs : (OL.shift b H).has k = true
      · have hge := OL.has_shift_ge hs
        refine .inl ⟨k - b, by omega, ?_, ?_⟩
        · intro hn
          have hk' : (OL.shift b H).at_ k i ≠ none := by simpa [Ob.ext, OL.ob, hs] using hk
          rw [show k = b + (k - b) from by omega, OL.at_shift, hn] at hk'
          exact hk' rfl
        · rw [show k = b + (k - b) from by omega, OL.has_shift] at hs; exact hs
      · have hk' : ob1.at_ k i ≠ none := by simpa [Ob.ext, OL.ob, hs] using hk
        exact .inr ⟨hk', hR.has k i hk', by simp [Ob.ext, OL.ob, hs]⟩
    have g : Gr w w' := ⟨RH.os, RH.tape, RH.output, RH.size, fun b' hb' => RH.block b' hb' (fun h => h)⟩
    have hle : Le (KK X κ ob1 w) (KK X κ' ((OL.shift b H).ob.ext ob1) w') := by
      refine Le.step g.size (fun b' hb' => ⟨g.block b' (hR.J_lt hb'), fun k i hk => ?_⟩) (fun k hk => ⟨by simp [Ob.ext, hk], fun i => k2 k i hk⟩) (sizes_same g.block)
      rcases hat k i hk with ⟨k0, rfl, q1, q2⟩ | ⟨q1, q2, _⟩
      · rw [(k1 k0 i q2).1]
        have := hbn k0 i q1
        have := hR.J_lt hb'
        omega
      · rw [(k2 k i q2).1]
        exact hb'.2 k i q1
    have hsh : ShOk b (KK ⟨P, T, w, I, fun _ => False⟩ κH H.ob w') (KK X κ' ((OL.shift b H).ob.ext ob1) w') := by
      refine ⟨rfl, by show X.T.sz = T.sz; rw [hTT], by show X.T.zero = T.zero; rw [hTT], fun k hk => ⟨?_, fun i => k1 k i hk⟩⟩
      show ((OL.shift b H).has (b + k) || ob1.has (b + k)) = true
      rw [OL.has_shift]
      have hk' : H.has k = true := hk
      rw [hk']; rfl
    have hJ' : (r.noref ∧ norefH H) ∨ ∀ x, (KK ⟨P, T, w, I, fun _ => False⟩ κH H.ob w').J x → (KK X κ' ((OL.shift b H).ob.ext ob1) w').J x := by
      refine hJ.imp id (fun hIJ x hx => ?_)
      obtain ⟨hx1, hx2⟩ := hx
      rcases hx1 with hx1 | hx1 | hx1
      · exact (hle.J x (hIJ x hx1)).1
      · exact hx1.elim
      · refine ⟨.inr (.inr ⟨Nat.le_trans hR.size hx1.1, hx1.2⟩), fun k i hk => ?_⟩
        rcases hat k i hk with ⟨k0, rfl, q1, q2⟩ | ⟨q1, q2, _⟩
        · rw [(k1 k0 i q2).1]
          exact hx2 k0 i q1
        · rw [(k2 k i q2).1]
          have := hR.blk_lt q1
          have h1 : w.heap.size ≤ x := hx1.1
          omega
    refine ⟨c, κ', rfl, ⟨RH.os.trans hR.os, RH.tape.trans hR.tape, RH.output.trans hR.output, Nat.le_trans hR.size RH.size, fun b' hb' hM => (g.block b' (Nat.lt_of_lt_of_le hb' hR.size)).trans (hR.block b' hb' hM), fun k i sh c' hc => ?_, fun q1 i1 q2 i2 h1 h2 he => ?_, fun k i hk => ?_, hR.hI, hR.hM⟩, VR_shift hsh (hJ'.symm.imp id (fun q => q.1)) hr, hle⟩
    · rcases hat k i (by rw [hc]; simp) with ⟨k0, rfl, q1, q2⟩ | ⟨q1, q2, q3⟩
      · have hs : (OL.shift b H).has (b + k0) = true := by rw [OL.has_shift]; exact q2
        have hc' : (OL.shift b H).at_ (b + k0) i = some (sh, c') := by simpa [Ob.ext, OL.ob, hs] using hc
        rw [OL.at_shift] at hc'
        cases hq : H.at_ k0 i with
        | none => exact absurd hq q1
        | some p =>
          rw [hq] at hc'
          simp only [Option.some.injEq, Prod.mk.injEq] at hc'
          obtain ⟨rfl, rfl⟩ := hc'
          obtain ⟨cur, el, l1, l2, l3, l4, l5, l6, l7⟩ := RH.live k0 i p.1 p.2 hq
          rw [(k1 k0 i q2).1, (k1 k0 i q2).2, shift_size]
          refine ⟨cur, el, l1, l2, FL_shift hsh (hJ'.symm.imp id (fun q => norefH_at q.2 hq)) l3, ssh_shift b l4, l5, .inl (Nat.le_trans hR.size (hbn k0 i q1)), fun hI' => ?_⟩
          have h1 := (hR.hI _ hI').1
          have h2 := hbn k0 i q1
          have h3 := hR.size
          omega
      · rw [q3] at hc
        obtain ⟨cur, el, l1, l2, l3, l4⟩ := hR.live k i sh c' hc
        rw [(k2 k i q2).1, (k2 k i q2).2]
        exact ⟨cur, el, (g.block _ (Array.getElem?_eq_some_iff.1 l1).1).trans l1, l2, FL_mono hle l3, l4⟩
    · rcases hat q1 i1 h1 with ⟨a0, rfl, a1, a2⟩ | ⟨a1, a2, _⟩
      · rcases hat q2 i2 h2 with ⟨b0, rfl, b1, b2⟩ | ⟨b1, b2, _⟩
        · rw [(k1 a0 i1 a2).1, (k1 b0 i2 b2).1] at he
          obtain ⟨z1, z2⟩ := RH.inj a0 i1 b0 i2 a1 b1 he
          exact ⟨by rw [z1], z2⟩
        · rw [(k1 a0 i1 a2).1, (k2 q2 i2 b2).1] at he
          have := hbn a0 i1 a1
          have := hR.blk_lt b1
          omega
      · rcases hat q2 i2 h2 with ⟨b0, rfl, b1, b2⟩ | ⟨b1, b2, _⟩
        · rw [(k2 q1 i1 a2).1, (k1 b0 i2 b2).1] at he
          have := hbn b0 i2 b1
          have := hR.blk_lt a1
          omega
        · rw [(k2 q1 i1 a2).1, (k2 q2 i2 b2).1] at he
          exact hR.inj _ _ _ _ a1 b1 he
    · rcases hat k i hk with ⟨k0, rfl, q1, q2⟩ | ⟨q1, q2, _⟩
      · show ((OL.shift b H).has (b + k0) || ob1.has (b + k0)) = true
        rw [OL.has_shift, q2]; rfl
      · show ((OL.shift b H).has k || ob1.has k) = true
        rw [q2]; simp
  · exact h.elim
end
end Go.Am

namespace Go.Am
def placesOk (T : TT) (f : Nat → AV) : Nat → Nat → List (TypeId × Nat) → Prop
  | _, _, [] => True
  | i, o, (ft, fo) :: r => fo = o ∧ (T.und ft).known = true ∧ T.sz ft = (f i).size ∧ placesOk T f (i + 1) (o + (f i).size) r
def BuildW (T : TT) (t : TypeId) (parts : List (Nat × Operand)) (ev : EV) (K : AV → Prop) : Prop :=
  (T.und t).known = true ∧ (match T.zero t with
  | .arr n f => (match T.und t with
    | .arr m e => m = n ∧ (T.und e).known = true ∧ (∀ i, (f i).size = T.sz e) ∧ fillOk ev n (fun _ => T.sz e) parts ∧ (fillF ev parts f 0).size = T.sz e ∧ K (.arr n (fillF ev parts f))
    | _ => False)
  | .sct n f => (match T.und t with
    | .sct fs => fs.length = n ∧ placesOk T f 0 0 fs ∧ fillOk ev n (fun i => (f i).size) parts ∧ K (.sct n (fillF ev parts f))
    | _ => False)
  | _ => False)
section
variable {P : Program} {T : TT}
theorem placesOk_get {f : Nat → AV} : ∀ (fs : List (TypeId × Nat)) (i o : Nat), placesOk T f i o fs → ∀ j, j < fs.length →
    ∃ ft, fs[j]? = some (ft, o + sumTo (fun a => (f (i + a)).size) j) ∧ (T.und ft).known = true ∧ T.sz ft = (f (i + j)).size
  | [], _, _, _, j, hj => by simp at hj
  | (ft, fo) :: r, i, o, ⟨h1, h2, h3, h4⟩, j, hj => by
    cases j with
    | zero => exact ⟨ft, by simp [sumTo, h1], h2, h3⟩
    | succ j =>
      obtain ⟨ft', q1, q2, q3⟩ := placesOk_get r (i + 1) (o + (f i).size) h4 j (by simpa using hj)
      refine ⟨ft', ?_, q2, by rw [q3]; congr 2; omega⟩
      rw [List.getElem?_cons_succ, q1]
      congr 2
      have : ∀ m, sumTo (fun a => (f (i + a)).size) (m + 1) = (f i).size + sumTo (fun a => (f (i + 1 + a)).size) m := by
        intro m
        induction m with
        | zero => simp [sumTo]
        | succ m ih =>
          rw [show sumTo (fun a => (f (i + a)).size) (m + 1 + 1) = sumTo (fun a => (f (i + a)).size) (m + 1) + (f (i + (m + 1))).size from rfl, ih]
          simp only [sumTo]
          rw [show i + (m + 1) = i + 1 + m from by omega]
          omega
      rw [this j]
      omega
theorem mapM_places {f : Nat → AV} (hT : TOk P T) : ∀ (fs : List Field) (i o : Nat), placesOk T f i o (fs.map fun x => (x.type, x.offset)) →
    ∃ places : List (Nat × Nat), fs.mapM (fun f => (P.info? f.type).map fun i => (f.offset, i.size)) = some places ∧ places = (fs.map fun x => (x.offset, T.sz x.type))
  | [], _, _, _ => ⟨[], rfl, rfl⟩
  | x :: fs, i, o, ⟨h1, h2, h3, h4⟩ => by
    obtain ⟨pl, q1, q2⟩ := mapM_places hT fs _ _ h4
    obtain ⟨ii, z, e1, e2, _⟩ := hT.info x.type h2
    refine ⟨(x.offset, T.sz x.type) :: pl, ?_, by simp [q2]⟩
    simp [List.mapM_cons, e1, q1, e2]
theorem BuildW_sound {o : Oper} {t : TypeId} {parts : Array (Nat × Operand)} (ho : o.op = .build t parts) {ev : EV} {K : AV → Prop} (hT : TOk P T) (h : BuildW T t parts.toList ev K) :
    ∃ v, K v ∧ PureJ P T o ev v := by
  obtain ⟨ht, h⟩ := h
  obtain ⟨i, z, h1, h2, h3, h4, h5⟩ := FL_zero hT ht
  have hpart : ∀ (ρ : Operand → Value), (parts.map fun (x : Nat × Operand) => (x.1, ρ x.2)).toList = parts.toList.map fun p => (p.1, ρ p.2) := fun ρ => by simp
  have hu := hT.und t
  have hrun : ∀ (ρ : Operand → Value) (w : World) (cells : Array Value), P.built t (parts.toList.map fun p => (p.1, ρ p.2)) = some cells → (execOp ρ o).run P w = .ok (.value (.agg cells)) w := by
    intro ρ w cells hc
    simp only [execOp, ho, Sem.run_bind]
    rw [run_build w t _ cells (by rw [hpart]; exact hc)]
    rfl
  have hops : ∀ (X : Cx) (κ : Gh) (ob : Ob) (w : World) (ρ : Operand → Value), (∀ x ∈ o.op.operands.toList, VR (KK X κ ob w) (ev x) (ρ x)) → ∀ p ∈ parts.toList, VR (KK X κ ob w) (ev p.2) (ρ p.2) := by
    intro X κ ob w ρ hv p hp
    refine hv p.2 ?_
    simp only [ho, Op.operands]
    rw [List.mem_map]
    exact ⟨p, hp, rfl⟩
  split at h
  · rename_i n f hz
    split at h
    · rename_i m e htd
      obtain ⟨rfl, he, hsz, hok, hs0, h⟩ := h
      rw [htd] at hu
      obtain ⟨ie, ze, e1, e2, _⟩ := hT.info e he
      refine ⟨_, h, fun X κ ob w ρ hP hTT hR hv => ?_⟩
      have hFz := h4 (KK X κ ob w)
      rw [hz] at hFz
      obtain ⟨g, g1, g2⟩ := hFz
      obtain ⟨g', cells, q1, q2, q3⟩ := fill_go (K := KK X κ ob w) (ev := ev) (ρ := ρ) (n := m) (s := fun _ => T.sz e) (place := fun i => some (i * T.sz e, T.sz e)) (fun i _ => by rw [sumTo_const]) parts.toList f g z.cells g1
        (fun i hi => ⟨(g2 i hi).1, by rw [(g2 i hi).2, hsz 0]⟩) hok (hops X κ ob w ρ hv)
      refine ⟨.agg cells, hrun ρ w cells ?_, cells, rfl, g', q2, fun i hi => ⟨(q3 i hi).1, by rw [hs0]; exact (q3 i hi).2⟩⟩
      have hu' : P.underlying t = some (.array m e) := hu
      simp [Program.built, h1, hu', h2, e1, e2, q1]
    · exact h.elim
  · rename_i n f hz
    split at h
    · rename_i fs htd
      obtain ⟨rfl, hpl, hok, h⟩ := h
      rw [htd] at hu
      obtain ⟨flds, u1, u2⟩ := hu
      refine ⟨_, h, fun X κ ob w ρ hP hTT hR hv => ?_⟩
      have hFz := h4 (KK X κ ob w)
      rw [hz] at hFz
      obtain ⟨g, g1, g2⟩ := hFz
      obtain ⟨pl, p1, p2⟩ := mapM_places hT flds.toList 0 0 (by rw [u2]; exact hpl)
      obtain ⟨g', cells, q1, q2, q3⟩ := fill_go (K := KK X κ ob w) (ev := ev) (ρ := ρ) (n := fs.length) (s := fun i => (f i).size) (place := fun x => pl[x]?) (fun i hi => by
          obtain ⟨ft, r1, r2, r3⟩ := placesOk_get fs 0 0 hpl i hi
          rw [p2, List.getElem?_map]
          rw [← u2, List.getElem?_map] at r1
          cases hq : flds.toList[i]? with
          | none => rw [hq] at r1; cases r1
          | some fld =>
            rw [hq] at r1
            simp only [Option.map_some, Option.some.injEq, Prod.mk.injEq, Nat.zero_add] at r1 r3 ⊢
            rw [r1.1, r1.2, r3]
            exact ⟨rfl, rfl⟩) parts.toList f g z.cells g1
        (fun i hi => ⟨g2 i hi, FL_len (g2 i hi)⟩) hok (hops X κ ob w ρ hv)
      refine ⟨.agg cells, hrun ρ w cells ?_, cells, rfl, g', q2, fun i hi => (q3 i hi).1⟩
      simp [Program.built, h1, u1, h2, p1, q1]
    · exact h.elim
  · exact h.elim
def PassJ' (P : Program) (T : TT) (o : Oper) (ev : EV) (ob : Ob) (v : AV) (A : OL) : Prop :=
  ∀ (X : Cx) (κ : Gh) (ob1 : Ob) (w : World) (ρ : Operand → Value), X.P = P → X.T = T → (∀ g, ρ (.func g) = .func (.func g) #[] #[]) → Rel X κ ob1 w →
    (∀ k, ob1.has k = true → ob.has k = true → ∀ i, ob1.at_ k i = ob.at_ k i) → (∀ k, A.has k = true → ob1.has k = false) →
    (∀ x ∈ o.op.operands.toList, VR (KK X κ ob1 w) (ev x) (ρ x)) → Out X κ ob1 w (A.ob.ext ob1) v ((execOp ρ o).run P w)
def WOp (P : Program) (T : TT) (o : Oper) (ev : EV) (ol : OL) (K : AV → OL → Prop) : Prop :=
  match o.op with
  | .load t x => LoadW T t (ev x) ol (fun v => K v ol)
  | .alloc t => AllocW T t (o.dst.getD 999) ol (fun v A => K v (A ++ ol))
  | .box _ x => BoxW (o.dst.getD 999) (ev x) ol (fun v A => K v (A ++ ol))
  | .buildSlice t n ps => BuildSliceW T t n ps.toList (o.dst.getD 999) ev ol (fun v A => K v (A ++ ol))
  | .makeSlice t l c => MakeW T t (ev l) (ev c) (o.dst.getD 999) ol (fun v A => K v (A ++ ol))
  | .build t ps => BuildW T t ps.toList ev (fun v => K v ol)
  | .store t a x => StoreW T t (ev a) (ev x) ol (fun ol' => K .any ol')
  | .call { callee := .builtin .append, args := args, argTypes := argTypes } => (match args.toList, argTypes.toList with
    | [s, x], [t, t'] => t' = t ∧ AppendW T t (ev s) (ev x) (o.dst.getD 999) ol K
    | _, _ => False)
  | .call { callee := .value f, args := args, argTypes := _ } => CallW P T f args.toList (o.dst.getD 999) ev ol (fun v A => K v (A ++ ol))
  | op => PW T op ev (fun v => K v ol)
def kind (o : Oper) : Nat :=
  match o.op with
  | .load _ _ | .alloc _ | .box _ _ | .buildSlice _ _ _ | .makeSlice _ _ _ => 1
  | .store _ _ _ => 2
  | .call { callee := .builtin .append, .. } => 2
  | .call { callee := .value _, .. } => 1
  | _ => 0
theorem WOp_sound {o : Oper} {ev : EV} {ol : OL} {K : AV → OL → Prop} (hT : TOk P T) (h : WOp P T o ev ol K) :
    ∃ v, (kind o = 0 ∧ K v ol ∧ PureJ P T o ev v) ∨ (kind o = 1 ∧ ∃ A, K v (A ++ ol) ∧ PassJ' P T o ev ol.ob v A ∧ ∀ k, A.has k = true → ol.has k = false) ∨
      (kind o = 2 ∧ ∃ ol' : OL, K v ol' ∧ ActJ P T o ev ol.ob v ol'.ob ∧ ∀ k, ol.has k = true → ol'.has k = true) := by
  unfold WOp at h
  split at h
  · rename_i t x ho
    obtain ⟨v, h1, h2⟩ := LoadW_sound ho hT h
    exact ⟨v, .inr (.inl ⟨by simp [kind, ho], [], h1, fun X κ ob1 w ρ a b _ c d e f => h2 X κ ob1 w ρ a b c d e f, fun k hk => by cases hk⟩)⟩
  · rename_i t ho
    obtain ⟨v, A, h1, h2, h3⟩ := AllocW_sound (ev := ev) ho hT h
    exact ⟨v, .inr (.inl ⟨by simp [kind, ho], A, h1, fun X κ ob1 w ρ a b _ c d e f => h2 X κ ob1 w ρ a b c d e f, h3⟩)⟩
  · rename_i t x ho
    obtain ⟨v, A, h1, h2, h3⟩ := BoxW_sound ho hT h
    exact ⟨v, .inr (.inl ⟨by simp [kind, ho], A, h1, fun X κ ob1 w ρ a b _ c d e f => h2 X κ ob1 w ρ a b c d e f, h3⟩)⟩
  · rename_i t n ps ho
    obtain ⟨v, A, h1, h2, h3⟩ := BuildSliceW_sound ho hT h
    exact ⟨v, .inr (.inl ⟨by simp [kind, ho], A, h1, fun X κ ob1 w ρ a b _ c d e f => h2 X κ ob1 w ρ a b c d e f, h3⟩)⟩
  · rename_i t l c ho
    obtain ⟨v, A, h1, h2, h3⟩ := MakeW_sound ho hT h
    exact ⟨v, .inr (.inl ⟨by simp [kind, ho], A, h1, fun X κ ob1 w ρ a b _ c d e f => h2 X κ ob1 w ρ a b c d e f, h3⟩)⟩
  · rename_i t ps ho
    obtain ⟨v, h1, h2⟩ := BuildW_sound ho hT h
    exact ⟨v, .inl ⟨by simp [kind, ho], h1, h2⟩⟩
  · rename_i t a x ho
    obtain ⟨ol', h1, h2, h3⟩ := StoreW_sound ho hT h
    exact ⟨.any, .inr (.inr ⟨by simp [kind, ho], ol', h1, h2, h3⟩)⟩
  · rename_i args argTypes ho
    split at h
    · rename_i s x t t' ha ht
      obtain ⟨rfl, h⟩ := h
      have ha' : args = #[s, x] := by rw [← Array.toArray_toList (xs := args), ha]
      have ht' : argTypes = #[t', t'] := by rw [← Array.toArray_toList (xs := argTypes), ht]
      subst ha'
      subst ht'
      obtain ⟨v, ol', h1, h2, h3⟩ := AppendW_sound ho hT h
      exact ⟨v, .inr (.inr ⟨by simp [kind, ho], ol', h1, h2, h3⟩)⟩
    · exact h.elim
  · rename_i f args at_ ho
    obtain ⟨v, A, h1, h2, h3⟩ := CallW_sound ho h
    exact ⟨v, .inr (.inl ⟨by simp [kind, ho], A, h1, h3, h2⟩)⟩
  · rename_i op n1 n2 n3 n4 n5 n6 n7 n8 n9
    obtain ⟨v, h1, h2⟩ := PW_sound hT h
    refine ⟨v, .inl ⟨?_, h1, h2⟩⟩
    unfold kind
    split
    · rename_i t x ho; exact absurd ho (n1 t x)
    · rename_i t ho; exact absurd ho (n2 t)
    · rename_i t x ho; exact absurd ho (n3 t x)
    · rename_i t n ps ho; exact absurd ho (n4 t n ps)
    · rename_i t l c ho; exact absurd ho (n5 t l c)
    · rename_i t a x ho; exact absurd ho (n7 t a x)
    · rename_i args at_ ho; exact absurd ho (n8 args at_)
    · rename_i f args at_ ho; exact absurd ho (n9 f args at_)
    · rfl
end
end Go.Am

