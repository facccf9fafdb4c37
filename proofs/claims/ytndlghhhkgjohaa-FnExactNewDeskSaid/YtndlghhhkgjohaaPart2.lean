/- Part 2 of what the law stands on: abstract values, their walk, contracts of functions. My own work. Conditions: none. -/
import Derived.Test.YtndlghhhkgjohaaPart1
import Derived.Laws.Externs
import Derived.Lib.Bytealg
import Derived.Lib.SlicesCompact
set_option linter.unusedVariables false
set_option linter.unusedSimpArgs false
namespace Go.Am
end Go.Am

set_option linter.unusedVariables false
set_option linter.unusedSimpArgs false
namespace Go.Am
abbrev T3 := Nat → Nat → Nat → Int
end Go.Am

set_option linter.unusedVariables false
set_option linter.unusedSimpArgs false
namespace Go.Am
def apF (p : Int) (F : Nat → Nat → Int) (v : Nat → Int) : Nat → Nat → Int
  | 0 => fun _ => 0
  | i + 1 => addF p (apF p F v i) (F i) (v i)
def starP (p : Int) (n : Nat) (T : T3) (fo : Nat → Int) (F : Nat → Nat → Int) : Prop :=
  ∀ i, i < n → (eqN 6 (apF p F (F i) n) (eF i) ∧ formF p fo (F i) = fo i) ∧ ∀ j, j < n → eqN 6 (apF p F (T i j) n) (timesF p n T (F j) (F i))
noncomputable instance (p : Int) (n : Nat) (T : T3) (fo : Nat → Int) (F : Nat → Nat → Int) : Decidable (starP p n T fo F) := Classical.propDecidable _
def liP (p : Int) (n : Int) (M : Nat) (F : Nat → Nat → Int) : Prop := (M : Int) = n ∧ ∀ i, i < M → smP p n (F i)
noncomputable instance (p n : Int) (M : Nat) (F : Nat → Nat → Int) : Decidable (liP p n M F) := Classical.propDecidable _
end Go.Am

set_option linter.unusedVariables false
set_option linter.unusedSimpArgs false
namespace Go.Am
def parD (c : Int) : Int := if 48 ≤ c ∧ c ≤ 57 then c - 48 else if 97 ≤ c ∧ c ≤ 99 then c - 87 else -1
def rdD (s : ByteArray) (i : Nat) : Int := parD (byteAt s i)
def rdOk (s : ByteArray) (n : Nat) : Prop := s.size = n ∧ ∀ i, i < n → 0 ≤ rdD s i
noncomputable instance (s : ByteArray) (n : Nat) : Decidable (rdOk s n) := Classical.propDecidable _
def rdF (s : ByteArray) (n : Nat) : Nat → Int := fun i => if i < n ∧ 0 ≤ rdD s i then rdD s i else 0
def rdV (p : Int) (n : Nat) (s : ByteArray) : Prop := rdOk s n ∧ smP p (n : Int) (rdF s n)
noncomputable instance (p : Int) (n : Nat) (s : ByteArray) : Decidable (rdV p n s) := Classical.propDecidable _
end Go.Am

set_option linter.unusedVariables false
set_option linter.unusedSimpArgs false
namespace Go.Am
section
variable {p : Int} {n : Nat} {A : Nat → Nat → Int}
end
section
variable {n i j r : Nat}
end
end Go.Am

set_option linter.unusedVariables false
set_option linter.unusedSimpArgs false
namespace Go.Am
end Go.Am

set_option linter.unusedVariables false
set_option linter.unusedSimpArgs false
namespace Go.Am
section
variable {p : Int} {n : Nat} {A : Nat → Nat → Int} {b : Nat → Int}
end
end Go.Am

set_option linter.unusedVariables false
set_option linter.unusedSimpArgs false
namespace Go.Am
section
variable {p : Int} {C W : Nat → Nat → Int} {i k l r z n : Nat}
end
end Go.Am

set_option linter.unusedVariables false
set_option linter.unusedSimpArgs false
namespace Go.Am
section
variable {p : Int} {m no c i z : Nat} {O : Nat → Nat → Int} {l : Nat → Nat}
end
end Go.Am

set_option linter.unusedVariables false
set_option linter.unusedSimpArgs false
namespace Go.Am
end Go.Am

set_option linter.unusedVariables false
set_option linter.unusedSimpArgs false
namespace Go.Am
section
variable {p : Int} {n : Nat} {A : Nat → Nat → Int}
end
def prF (p n : Int) (T : Nat → Nat → Nat → Int) (fo : Nat → Int) (q m : Int) (S : Nat → Nat → Nat → Int) (go : Nat → Int) (Y : Nat → Nat → Int) : Nat → AV
  | 0 => algA p n T fo
  | 1 => algA q m S go
  | 2 => matA Y
  | _ => .any
abbrev prA (p n : Int) (T : Nat → Nat → Nat → Int) (fo : Nat → Int) (q m : Int) (S : Nat → Nat → Nat → Int) (go : Nat → Int) (Y : Nat → Nat → Int) : AV := .sct 3 (prF p n T fo q m S go Y)
section
variable {p n q m p' n' q' m' : Int} {T S T' S' : Nat → Nat → Nat → Int} {fo go fo' go' : Nat → Int} {Y Y' : Nat → Nat → Int} {V : Vw}
theorem ssh_pr : ssh (prA p n T fo q m S go Y) (prA p' n' T' fo' q' m' S' go' Y') := by
  refine ⟨rfl, fun i => ?_⟩
  match i with
  | 0 => exact ssh_alg
  | 1 => exact ssh_alg
  | 2 => exact ssh_mat
  | n + 3 => exact trivial
theorem prF_congr {f : Nat → AV} (h0 : f 0 = algA p n T fo) (h1 : f 1 = algA q m S go) (h2 : f 2 = matA Y) (h4 : ∀ i, f (i + 3) = .any) : AV.sct 3 f = prA p n T fo q m S go Y := by
  refine congrArg (AV.sct 3) (funext fun i => ?_)
  match i with
  | 0 => exact h0
  | 1 => exact h1
  | 2 => exact h2
  | i + 3 => exact h4 i
theorem put_pr0 : put (prA p n T fo q m S go Y) [0] (algA p' n' T' fo') = prA p' n' T' fo' q m S go Y := prF_congr put_nil rfl rfl (fun _ => rfl)
theorem put_pr1 : put (prA p n T fo q m S go Y) [1] (algA p' n' T' fo') = prA p n T fo p' n' T' fo' Y := prF_congr rfl put_nil rfl (fun _ => rfl)
theorem put_pr2 : put (prA p n T fo q m S go Y) [2] (matA Y') = prA p n T fo q m S go Y' := prF_congr rfl rfl put_nil (fun _ => rfl)
variable {at_ : Nat → Nat → Option (AV × AV)} {d : Nat}
end
section
variable {z : Nat → Int}
end
section
variable {p : Int} {n m : Nat} {T S : Nat → Nat → Nat → Int} {fo go : Nat → Int} {Y : Nat → Nat → Int}
def zvP (p : Int) (n m : Nat) (Y : Nat → Nat → Int) (i : Nat) : Prop := smP p (m : Int) (Y i) ∧ (n ≤ i → eqN 6 (Y i) (fun _ => 0))
def prS (p : Int) (n m : Nat) (T S : Nat → Nat → Nat → Int) (Y : Nat → Nat → Int) : Prop :=
  ((∀ i, i < 6 → zvP p n m Y i) ∧ ∀ i, i < n → (∀ j, j < n → eqN 6 (apF p Y (T i j) n) (timesF p m S (Y i) (Y j))) ∧ ∀ j, j < m → eqN 6 (timesF p m S (Y i) (eF j)) (timesF p m S (eF j) (Y i))) ∧ eqN 6 (apF p Y (uF p n T) n) (uF p m S)
def prI (p : Int) (n m : Nat) (T S : Nat → Nat → Nat → Int) (Y : Nat → Nat → Int) : Prop :=
  (∀ i, i < 6 → (zvP p n m Y i ∧ ∀ j, j < m → eqN 6 (timesF p m S (Y i) (eF j)) (timesF p m S (eF j) (Y i))) ∧ ∀ j, j < 6 → eqN 6 (apF p Y (T i j) 6) (timesF p m S (Y i) (Y j))) ∧ eqN 6 (apF p Y (uF p n T) 6) (uF p m S)
noncomputable instance {i : Nat} : Decidable (zvP p n m Y i) := Classical.propDecidable _
noncomputable instance : Decidable (prS p n m T S Y) := Classical.propDecidable _
noncomputable instance : Decidable (prI p n m T S Y) := Classical.propDecidable _
end
end Go.Am

set_option linter.unusedVariables false
set_option linter.unusedSimpArgs false
namespace Go.Am
end Go.Am

set_option linter.unusedVariables false
set_option linter.unusedSimpArgs false
namespace Go.Am
structure PN (p : Int) (n : Nat) (T : Nat → Nat → Nat → Int) (fo : Nat → Int) (m : Nat) (S : Nat → Nat → Nat → Int) (go : Nat → Int) (Y : Nat → Nat → Int) : Prop where
  v : VN p n T fo
  w : VN p m S go
  c : comN n T
  r : rankT p n T fo = n
  s : rankT p m S go = m
  y : symA m (formT p S go)
  z : prS p n m T S Y
def PR (p n : Int) (T : Nat → Nat → Nat → Int) (fo : Nat → Int) (q m : Int) (S : Nat → Nat → Nat → Int) (go : Nat → Int) (Y : Nat → Nat → Int) : Prop :=
  ∃ a b : Nat, n = (a : Int) ∧ m = (b : Int) ∧ q = p ∧ PN p a T fo b S go Y
noncomputable instance {p n : Int} {T : Nat → Nat → Nat → Int} {fo : Nat → Int} {q m : Int} {S : Nat → Nat → Nat → Int} {go : Nat → Int} {Y : Nat → Nat → Int} : Decidable (PR p n T fo q m S go Y) := Classical.propDecidable _
section
variable {p n q m : Int} {T S : Nat → Nat → Nat → Int} {fo go : Nat → Int} {Y : Nat → Nat → Int}
end
end Go.Am
namespace Go.Am
end Go.Am

set_option linter.unusedVariables false
set_option linter.unusedSimpArgs false
namespace Go.Am
section
variable {p : Int} {n : Nat} {C : Nat → Nat → Int} {o : Nat → Int}
end
end Go.Am
namespace Go.Am
end Go.Am

set_option linter.unusedVariables false
set_option linter.unusedSimpArgs false
namespace Go.Am
def tnF (p n i o : Int) (s : AV) : Nat → AV
  | 0 => .int .i64 p
  | 1 => .int .i64 n
  | 2 => .int .i64 i
  | 3 => .int .i64 o
  | 4 => s
  | _ => .any
abbrev tnA (p n i o : Int) (s : AV) : AV := .sct 5 (tnF p n i o s)
section
variable {p n i o p' n' i' o' : Int} {s s' : AV} {V : Vw}
theorem sshTn (h : ssh s s') : ssh (tnA p n i o s) (tnA p' n' i' o' s') := by
  refine ⟨rfl, fun k => ?_⟩
  match k with
  | 0 => exact trivial
  | 1 => exact trivial
  | 2 => exact trivial
  | 3 => exact trivial
  | 4 => exact h
  | k + 5 => exact trivial
theorem tnF_congr {f : Nat → AV} (h0 : f 0 = .int .i64 p) (h1 : f 1 = .int .i64 n) (h2 : f 2 = .int .i64 i) (h3 : f 3 = .int .i64 o) (h : f 4 = s) (h5 : ∀ k, f (k + 5) = .any) : AV.sct 5 f = tnA p n i o s := by
  refine congrArg (AV.sct 5) (funext fun k => ?_)
  match k with
  | 0 => exact h0
  | 1 => exact h1
  | 2 => exact h2
  | 3 => exact h3
  | 4 => exact h
  | k + 5 => exact h5 k
theorem put_tn4 : put (tnA p n i o s) [4] s' = tnA p n i o s' := tnF_congr rfl rfl rfl rfl put_nil (fun _ => rfl)
end
end Go.Am

set_option linter.unusedVariables false
set_option linter.unusedSimpArgs false
namespace Go.Am
end Go.Am
namespace Go.Am
end Go.Am

set_option linter.unusedVariables false
set_option linter.unusedSimpArgs false
namespace Go.Am
section
variable {p : Int} {n : Nat} {T : Nat → Nat → Nat → Int} {fo : Nat → Int}
noncomputable def pw (p : Int) (n : Nat) (T : Nat → Nat → Nat → Int) (v : Nat → Int) (k : Nat) : Nat → Int := powV p n T (uF p n T) v k
def lc (p : Int) (c : Nat → Int) (w : Nat → Nat → Int) : Nat → Nat → Int
  | 0 => fun _ => 0
  | m + 1 => addF p (lc p c w m) (w m) (c m)
end
end Go.Am

set_option linter.unusedVariables false
set_option linter.unusedSimpArgs false
namespace Go.Am
section
variable {p : Int} {n : Nat} {T : Nat → Nat → Nat → Int} {fo : Nat → Int}
theorem VN.P (h : VN p n T fo) : p = ((p.toNat : Nat) : Int) := by have := h.p0; omega
end
end Go.Am
namespace Go.Am
end Go.Am

set_option linter.unusedVariables false
set_option linter.unusedSimpArgs false
namespace Go.Am
section
variable {p : Int} {n : Nat} {T : Nat → Nat → Nat → Int} {fo : Nat → Int}
end
end Go.Am

set_option linter.unusedVariables false
set_option linter.unusedSimpArgs false
namespace Go.Am
section
variable {p : Int} {n : Nat} {T : Nat → Nat → Nat → Int} {fo : Nat → Int}
end
end Go.Am

set_option linter.unusedVariables false
set_option linter.unusedSimpArgs false
namespace Go.Am
section
variable {p : Int} {n : Nat} {T : Nat → Nat → Nat → Int} {fo : Nat → Int}
noncomputable def mpS (p : Int) (n : Nat) (T : Nat → Nat → Nat → Int) (v : Nat → Int) (k j : Nat) : Int := pw p n T v j k
noncomputable def mpI (p : Int) (n : Nat) (T : Nat → Nat → Nat → Int) (v : Nat → Int) (m k j : Nat) : Int := if j < m then pw p n T v j k else (- pw p n T v j k) % p
structure MPd (p : Int) (n : Nat) (T : Nat → Nat → Nat → Int) (v : Nat → Int) (D : Nat) : Prop where
  d1 : 1 ≤ D
  dn : D ≤ n
  sy : oneP D (echGo p (D + 1) (mpS p n T v) n).no (echGo p (D + 1) (mpS p n T v) n).O
  sn : ∀ m, m < D → ¬ oneP m (echGo p (m + 1) (mpS p n T v) n).no (echGo p (m + 1) (mpS p n T v) n).O
  iy : conP D (redGo p n (mpI p n T v D) (D + 1)).no (redGo p n (mpI p n T v D) (D + 1)).O
  i_n : ∀ m, m < D → ¬ conP m (redGo p n (mpI p n T v m) (m + 1)).no (redGo p n (mpI p n T v m) (m + 1)).O
  out : ∀ a, a < D → solGo D (redGo p n (mpI p n T v D) (D + 1)).O (redGo p n (mpI p n T v D) (D + 1)).no a = (- (echGo p (D + 1) (mpS p n T v) n).O a D) % p
end
end Go.Am

set_option linter.unusedVariables false
set_option linter.unusedSimpArgs false
namespace Go.Am
def entQ (n : Nat) (G : Nat → Nat → Nat) (i j : Nat) : Prop := if i < n ∧ j < n then G i j < n else G i j = 0
instance (n : Nat) (G : Nat → Nat → Nat) (i j : Nat) : Decidable (entQ n G i j) := by unfold entQ; exact inferInstance
def entP (n : Nat) (G : Nat → Nat → Nat) : Prop := ∀ i, i < 6 → ∀ j, j < 6 → entQ n G i j
noncomputable instance (n : Nat) (G : Nat → Nat → Nat) : Decidable (entP n G) := Classical.propDecidable _
def idP (G : Nat → Nat → Nat) (i : Nat) : Prop := G 0 i = i ∧ G i 0 = i
def ascG (n : Nat) (G : Nat → Nat → Nat) (i : Nat) : Prop := ∀ j, j < n → ∀ k, k < n → G (G i j) k = G i (G j k)
structure GN (n : Nat) (G : Nat → Nat → Nat) : Prop where
  n1 : 1 ≤ n
  n6 : n ≤ 6
  ent : entP n G
  id : ∀ i, i < n → idP G i
  inv : ∀ i, i < n → ∃ j, j < n ∧ G i j = 0 ∧ G j i = 0
  asc : ∀ i, i < n → ascG n G i
noncomputable instance (n : Nat) (G : Nat → Nat → Nat) : Decidable (GN n G) := Classical.propDecidable _
section
variable {n : Nat} {G : Nat → Nat → Nat}
theorem GN.lt (h : GN n G) {i j : Nat} (hi : i < n) (hj : j < n) : G i j < n := by
  have hn := h.n6
  have := h.ent i (by omega) j (by omega)
  unfold entQ at this
  rwa [if_pos ⟨hi, hj⟩] at this
theorem GN.l (h : GN n G) {i : Nat} (hi : i < n) : G 0 i = i := (h.id i hi).1
theorem GN.r (h : GN n G) {i : Nat} (hi : i < n) : G i 0 = i := (h.id i hi).2
theorem GN.as (h : GN n G) {i j k : Nat} (hi : i < n) (hj : j < n) (hk : k < n) : G (G i j) k = G i (G j k) := h.asc i hi j hj k hk
end
end Go.Am

set_option linter.unusedVariables false
set_option linter.unusedSimpArgs false
namespace Go.Am
abbrev tb2 (G : Nat → Nat → Nat) : Nat → Nat → Int := fun i j => ((G i j : Nat) : Int)
def grpF (n : Int) (G : Nat → Nat → Nat) : Nat → AV
  | 0 => .int .i64 n
  | 1 => matA (tb2 G)
  | _ => .any
abbrev grpA (n : Int) (G : Nat → Nat → Nat) : AV := .sct 2 (grpF n G)
section
variable {n n' : Int} {G G' : Nat → Nat → Nat} {V : Vw}
theorem ssh_grp : ssh (grpA n G) (grpA n' G') := by
  refine ⟨rfl, fun i => ?_⟩
  match i with
  | 0 => exact trivial
  | 1 => exact ssh_mat
  | n + 2 => exact trivial
theorem grpF_congr {f : Nat → AV} (h0 : f 0 = .int .i64 n) (h1 : f 1 = matA (tb2 G)) (h4 : ∀ i, f (i + 2) = .any) : AV.sct 2 f = grpA n G := by
  refine congrArg (AV.sct 2) (funext fun i => ?_)
  match i with
  | 0 => exact h0
  | 1 => exact h1
  | i + 2 => exact h4 i
theorem put_grp0 : put (grpA n G) [0] (.int .i64 n') = grpA n' G := grpF_congr put_nil rfl (fun _ => rfl)
theorem put_grp1 : put (grpA n G) [1] (matA (tb2 G')) = grpA n G' := grpF_congr rfl put_nil (fun _ => rfl)
variable {at_ : Nat → Nat → Option (AV × AV)} {d : Nat}
end
section
variable {z : Nat → Int}
end
structure RG (G : Nat → Nat → Nat) : Prop where
  b : ∀ i j, G i j < 256
theorem RG.w8 {G : Nat → Nat → Nat} (h : RG G) (i j : Nat) : IntKind.i64.wrap ((G i j : Nat) : Int) = ((G i j : Nat) : Int) := w64 (by omega) (by have := h.b i j; omega)
end Go.Am

set_option linter.unusedVariables false
set_option linter.unusedSimpArgs false
namespace Go.Am
section
variable {P : Program} {T : TT}
end
end Go.Am

set_option linter.unusedVariables false
set_option linter.unusedSimpArgs false
namespace Go.Am
open Go.Lib
section
variable {n : Nat} {F : Nat → Int}
end
end Go.Am

set_option linter.unusedVariables false
set_option linter.unusedSimpArgs false
namespace Go.Am
end Go.Am

set_option linter.unusedVariables false
set_option linter.unusedSimpArgs false
namespace Go.Am
section
variable {n : Nat} {G : Nat → Nat → Nat}
def GZ (n : Int) (G : Nat → Nat → Nat) : Prop := 0 ≤ n ∧ GN n.toNat G
noncomputable instance (n : Int) (G : Nat → Nat → Nat) : Decidable (GZ n G) := Classical.propDecidable _
def f3 (a b c : Nat) : Nat → Nat
  | 0 => a
  | 1 => b
  | 2 => c
  | _ => 0
def f2 (a b : Nat) : Nat → Nat
  | 0 => a
  | 1 => b
  | _ => 0
end
section
variable {P : Program} {T : TT} {all : Array Oper} {r : List Oper} {R : Env → OL → Prop} {ty : TypeId} {pos : String} {af : Array Edge} {x y : Operand} {t : TypeId} {env : Env} {ol : OL}
end
end Go.Am

set_option linter.unusedVariables false
set_option linter.unusedSimpArgs false
namespace Go.Am
section
variable {n : Nat} {G : Nat → Nat → Nat}
end
end Go.Am

set_option linter.unusedVariables false
set_option linter.unusedSimpArgs false
namespace Go.Am
theorem strq {a b : ByteArray} {q : Bool} (h : decide (a.data.toList = b.data.toList) = q) : decide (a.toList = b.toList) = q := by
  rw [Lib.toList_data, Lib.toList_data]; exact h
def pT (a b c : Nat) : Int := if a = b ∧ b = c ∧ a < 2 then 1 else 0
def pfF (k : Nat) : Int := if k < 2 then 1 else 0
theorem set3 {T : T3} {i j k : Nat} {v : Int} (a b c : Nat) : upd T i (upd (T i) j (upd (T i j) k v)) a b c = if a = i ∧ b = j ∧ c = k then v else T a b c := by
  unfold upd
  by_cases h1 : a = i
  · subst h1
    rw [if_pos rfl]
    by_cases h2 : b = j
    · subst h2
      rw [if_pos rfl]
      by_cases h3 : c = k
      · subst h3; rw [if_pos rfl, if_pos ⟨rfl, rfl, rfl⟩]
      · rw [if_neg h3, if_neg (fun q => h3 q.2.2)]
    · rw [if_neg h2, if_neg (fun q => h2 q.2.1)]
  · rw [if_neg h1, if_neg (fun q => h1 q.1)]
def tz3 : T3 := fun _ _ _ => 0
def pt1 : T3 := upd tz3 0 (upd (tz3 0) 0 (upd (tz3 0 0) 0 1))
theorem pT_set (a b c : Nat) : upd pt1 1 (upd (pt1 1) 1 (upd (pt1 1 1) 1 1)) a b c = pT a b c := by
  rw [set3]
  unfold pt1
  rw [set3]
  unfold pT tz3
  by_cases h1 : a = 1 ∧ b = 1 ∧ c = 1
  · rw [if_pos h1, if_pos (by omega)]
  · rw [if_neg h1]
    by_cases h2 : a = 0 ∧ b = 0 ∧ c = 0
    · rw [if_pos h2, if_pos (by omega)]
    · rw [if_neg h2, if_neg (by omega)]
theorem pT_Bp : BpT 5 pT := fun i j k => by unfold pT; split <;> omega
theorem pT_LU : LU 5 2 pT pfF := fun i hi k hk => by
  match i, hi, k, hk with
  | 0, _, 0, _ => exact by decide
  | 0, _, 1, _ => exact by decide
  | 1, _, 0, _ => exact by decide
  | 1, _, 1, _ => exact by decide
theorem pT_RU : RU 5 2 pT pfF := fun i hi k hk => by
  match i, hi, k, hk with
  | 0, _, 0, _ => exact by decide
  | 0, _, 1, _ => exact by decide
  | 1, _, 0, _ => exact by decide
  | 1, _, 1, _ => exact by decide
theorem pair_as : assocP 5 2 pT := fun i hi j hj k hk => by
  match i, hi, j, hj, k, hk with
  | 0, _, 0, _, 0, _ => exact (by decide : ∀ z, z < 6 → timesF 5 2 pT (pT 0 0) (eF 0) z = timesF 5 2 pT (eF 0) (pT 0 0) z)
  | 0, _, 0, _, 1, _ => exact (by decide : ∀ z, z < 6 → timesF 5 2 pT (pT 0 0) (eF 1) z = timesF 5 2 pT (eF 0) (pT 0 1) z)
  | 0, _, 1, _, 0, _ => exact (by decide : ∀ z, z < 6 → timesF 5 2 pT (pT 0 1) (eF 0) z = timesF 5 2 pT (eF 0) (pT 1 0) z)
  | 0, _, 1, _, 1, _ => exact (by decide : ∀ z, z < 6 → timesF 5 2 pT (pT 0 1) (eF 1) z = timesF 5 2 pT (eF 0) (pT 1 1) z)
  | 1, _, 0, _, 0, _ => exact (by decide : ∀ z, z < 6 → timesF 5 2 pT (pT 1 0) (eF 0) z = timesF 5 2 pT (eF 1) (pT 0 0) z)
  | 1, _, 0, _, 1, _ => exact (by decide : ∀ z, z < 6 → timesF 5 2 pT (pT 1 0) (eF 1) z = timesF 5 2 pT (eF 1) (pT 0 1) z)
  | 1, _, 1, _, 0, _ => exact (by decide : ∀ z, z < 6 → timesF 5 2 pT (pT 1 1) (eF 0) z = timesF 5 2 pT (eF 1) (pT 1 0) z)
  | 1, _, 1, _, 1, _ => exact (by decide : ∀ z, z < 6 → timesF 5 2 pT (pT 1 1) (eF 1) z = timesF 5 2 pT (eF 1) (pT 1 1) z)
theorem pair_VN : VN 5 2 pT pfF where
  hp := by decide
  n0 := by decide
  n6 := by decide
  hT := pT_Bp
  tz := fun i j k h => by unfold pT; rw [if_neg (by omega)]
  f := fun k => by unfold pfF; split <;> omega
  fz := fun k hk => by unfold pfF; rw [if_neg (by omega)]
  asc := pair_as
  u := uOk_of (by decide) (by decide) pT_Bp pT_LU pT_RU
def bltT (N : Nat) (P : Nat → Nat → Int) (i j : Nat) : T3 := fun a b c => if (b < N ∧ (a < i ∨ (a = i ∧ b < j))) ∧ P a b = (c : Int) then 1 else 0
theorem blt_0 {N : Nat} {P : Nat → Nat → Int} {a b c : Nat} : bltT N P 0 0 a b c = 0 := by unfold bltT; rw [if_neg (by omega)]
theorem blt_j {N : Nat} {P : Nat → Nat → Int} {i a b c : Nat} : bltT N P i N a b c = bltT N P (i + 1) 0 a b c := by
  unfold bltT
  by_cases h : (b < N ∧ (a < i ∨ (a = i ∧ b < N))) ∧ P a b = (c : Int)
  · rw [if_pos h, if_pos (by omega)]
  · rw [if_neg h, if_neg (by omega)]
theorem blt_t {N : Nat} {P : Nat → Nat → Int} {i j a b c : Nat} (hj : j < N) (h : 0 ≤ P i j) : upd (bltT N P i j) i (upd (bltT N P i j i) j (upd (bltT N P i j i j) (P i j).toNat 1)) a b c = bltT N P i (j + 1) a b c := by
  rw [set3]
  unfold bltT
  by_cases h1 : a = i ∧ b = j ∧ c = (P i j).toNat
  · obtain ⟨rfl, rfl, rfl⟩ := h1
    rw [if_pos ⟨rfl, rfl, rfl⟩, if_pos ⟨⟨hj, by omega⟩, by omega⟩]
  · rw [if_neg h1]
    by_cases h2 : (b < N ∧ (a < i ∨ (a = i ∧ b < j))) ∧ P a b = (c : Int)
    · rw [if_pos h2, if_pos ⟨by omega, h2.2⟩]
    · rw [if_neg h2, if_neg]
      rintro ⟨⟨q1, q2⟩, q3⟩
      by_cases h3 : a = i ∧ b = j
      · obtain ⟨rfl, rfl⟩ := h3
        exact h1 ⟨rfl, rfl, by omega⟩
      · exact h2 ⟨⟨q1, by omega⟩, q3⟩
theorem blt_f {N : Nat} {P : Nat → Nat → Int} {i j a b c : Nat} (h : P i j < 0) : bltT N P i j a b c = bltT N P i (j + 1) a b c := by
  unfold bltT
  by_cases h2 : (b < N ∧ (a < i ∨ (a = i ∧ b < j))) ∧ P a b = (c : Int)
  · rw [if_pos h2, if_pos ⟨by omega, h2.2⟩]
  · rw [if_neg h2, if_neg]
    rintro ⟨⟨q1, q2⟩, q3⟩
    by_cases h3 : a = i ∧ b = j
    · obtain ⟨rfl, rfl⟩ := h3; omega
    · exact h2 ⟨⟨q1, by omega⟩, q3⟩
def prP (i j : Nat) : Int := if i = j then (i : Int) else -1
theorem pT_blt (a b c : Nat) : bltT 2 prP 2 0 a b c = pT a b c := by
  unfold bltT prP pT
  by_cases h : a = b ∧ b = c ∧ a < 2
  · obtain ⟨rfl, rfl, h⟩ := h
    exact (if_pos ⟨⟨h, .inl h⟩, if_pos rfl⟩).trans (if_pos ⟨rfl, rfl, h⟩).symm
  · refine (if_neg ?_).trans (if_neg h).symm
    rintro ⟨q1, q2⟩
    by_cases e : a = b
    · subst e; rw [if_pos rfl] at q2; exact h ⟨rfl, by omega, by omega⟩
    · rw [if_neg e] at q2; omega
def dskF (A v w : AV) (s : ByteArray) : Nat → AV
  | 0 => A
  | 1 => v
  | 2 => w
  | 3 => .strg s
  | _ => .any
abbrev dskA (p n : Int) (T : T3) (fo v w : Nat → Int) (s : ByteArray) : AV := .sct 4 (dskF (algA p n T fo) (vecA v) (vecA w) s)
section
variable {p n p' n' : Int} {T T' : T3} {fo fo' v v' w w' : Nat → Int} {s s' : ByteArray} {V : Vw}
theorem closed_dsk : (dskA p n T fo v w s).closed := by
  intro i
  match i with
  | 0 => exact closed_alg
  | 1 => exact fun _ => trivial
  | 2 => exact fun _ => trivial
  | 3 => exact trivial
  | n + 4 => exact trivial
theorem nr_dsk : (dskA p n T fo v w s).noref := by
  intro i
  match i with
  | 0 => exact nr_alg
  | 1 => exact fun _ => trivial
  | 2 => exact fun _ => trivial
  | 3 => exact trivial
  | n + 4 => exact trivial
theorem dskF_congr {f : Nat → AV} (h0 : f 0 = algA p n T fo) (h1 : f 1 = vecA v) (h2 : f 2 = vecA w) (h3 : f 3 = .strg s) (h4 : ∀ i, f (i + 4) = .any) : AV.sct 4 f = dskA p n T fo v w s := by
  refine congrArg (AV.sct 4) (funext fun i => ?_)
  match i with
  | 0 => exact h0
  | 1 => exact h1
  | 2 => exact h2
  | 3 => exact h3
  | i + 4 => exact h4 i
theorem shift_dsk {b : Nat} : shift b (dskA p n T fo v w s) = dskA p n T fo v w s := dskF_congr shift_alg rfl rfl rfl (fun _ => rfl)
theorem m_dsk : MtE V (dskA p n T fo v w s) (dskA p n T fo v w s) := Mt_closed (V := V) closed_dsk (fun _ _ _ => trivial) (by simp)
theorem ssh_dsk : ssh (dskA p n T fo v w s) (dskA p' n' T' fo' v' w' s') := by
  refine ⟨rfl, fun i => ?_⟩
  match i with
  | 0 => exact ssh_alg
  | 1 => exact ssh_vec
  | 2 => exact ssh_vec
  | 3 => exact trivial
  | n + 4 => exact trivial
variable {at_ : Nat → Nat → Option (AV × AV)} {d : Nat}
theorem exp_dsk : exp at_ d (dskA p n T fo v w s) = dskA p n T fo v w s := exp_closed closed_dsk
end
end Go.Am

