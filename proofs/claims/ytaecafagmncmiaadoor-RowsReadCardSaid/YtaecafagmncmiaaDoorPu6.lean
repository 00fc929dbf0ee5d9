/-
  Plain laws: instances, rows.
-/
import Derived.Test.YtaecafagmncmiaaDoorPu5
namespace Go.Proofs.YtaecafagmncmiaaDoor.Pu

structure Inst where
  id : Bs
  dfn : Bs
  status : Int
  at_ : Int
  tries : Int
  due : Int
  out : Bool
  deriving DecidableEq
structure Chg where
  key : Bs
  drop : Bool
  value : Bs
  deriving DecidableEq
def textP (s : Bs) : Part := ⟨true, 0, s⟩
def numP (n : Int) : Part := ⟨false, n, []⟩
def outN (b : Bool) : Int := if b then 1 else 0
def fieldsI (x : Inst) : List Int := [x.status, x.at_, x.tries, x.due, outN x.out]
def badN (n : Int) : Bool := decide (n < 0) || decide (9007199254740991 < n)
def okI (x : Inst) : Bool := nameB x.id && nameB x.dfn && !(fieldsI x).any badN
/-- an instance's value, by pieces -/
def instTo (x : Inst) (j : Nat) : Bs := rowB [x.id, x.dfn] ++ ((fieldsI x).take j).flatMap fun n => num n.toNat
def instB (x : Inst) : Bs := instTo x 5
theorem fieldsI_len (x : Inst) : (fieldsI x).length = 5 := rfl
theorem instTo_zero (x : Inst) : instTo x 0 = rowB [x.id, x.dfn] := by simp [instTo]
theorem instTo_succ {x : Inst} {j : Nat} {n : Int} (h : (fieldsI x)[j]? = some n) : instTo x (j + 1) = instTo x j ++ num n.toNat := by
  unfold instTo
  rw [List.take_add_one, h]
  simp [List.flatMap_append]
theorem badN_no {n : Int} (h : badN n = false) : 0 ≤ n ∧ n ≤ 9007199254740991 := by unfold badN at h; simp at h; omega
theorem badN_yes {n : Int} (h : badN n = true) : n < 0 ∨ 9007199254740991 < n := by unfold badN at h; simpa using h
theorem okI_names {x : Inst} (h : okI x = true) : nameB x.id = true ∧ nameB x.dfn = true := by unfold okI at h; simp at h; exact h.1
theorem okI_fields {x : Inst} (h : okI x = true) : ∀ n ∈ fieldsI x, badN n = false := by
  unfold okI at h
  simp only [Bool.and_eq_true, Bool.not_eq_true', List.any_eq_false] at h
  intro n hn
  simpa using h.2 n hn
theorem okI_at {x : Inst} (h : okI x = true) {j : Nat} {n : Int} (hj : (fieldsI x)[j]? = some n) : 0 ≤ n ∧ n ≤ 9007199254740991 := badN_no (okI_fields h n (List.mem_of_getElem? hj))
theorem rowB_two {a b : Bs} (ha : a.length ≤ 20) (hb : b.length ≤ 20) : (rowB [a, b]).length ≤ 80 := by
  have h0 := psize_le7 (n := 2) (by unfold maxN; omega)
  have h1 := psize_le7 (n := a.length) (by unfold maxN; omega)
  have h2 := psize_le7 (n := b.length) (by unfold maxN; omega)
  unfold rowB textB
  simp [num_length]
  omega
theorem num_short {n : Int} (h : 0 ≤ n ∧ n ≤ 9007199254740991) : (num n.toNat).length ≤ 8 := by
  have h1 := psize_le7 (n := n.toNat) (by unfold maxN; omega)
  rw [num_length]; omega
theorem instTo_len {x : Inst} (h : okI x = true) : ∀ j, j ≤ 5 → (instTo x j).length ≤ 80 + 8 * j := by
  intro j
  induction j with
  | zero =>
    intro _
    have h1 := okI_names h
    have h2 := nameB_len h1.1
    have h3 := nameB_len h1.2
    have := rowB_two h2.2 h3.2
    rw [instTo_zero]; omega
  | succ j ih =>
    intro hj
    obtain ⟨n, hn⟩ : ∃ n, (fieldsI x)[j]? = some n := ⟨_, List.getElem?_eq_getElem (by rw [fieldsI_len]; omega)⟩
    rw [instTo_succ hn, List.length_append]
    have := ih (by omega)
    have := num_short (okI_at h hn)
    omega

/-- a row of an instance -/
def rowC (kind : UInt8) (ps : List Part) (value : Bs) : Chg := ⟨(keyB (textP [kind] :: ps)).2, false, value⟩
/-- an instance's rows, in the order in which they are made -/
def madeI (x : Inst) : List Chg :=
  [rowC 115 [textP x.id] (instB x), rowC 105 [numP x.status, textP x.id] [], rowC 100 [textP x.dfn, textP x.id] []] ++
  (if x.out then [rowC 111 [textP x.id] []] else []) ++ (if x.due != 0 then [rowC 116 [numP x.due, textP x.id] []] else [])
/-- an instance's rows, by their keys -/
def rowsI (x : Inst) : List Chg :=
  [rowC 100 [textP x.dfn, textP x.id] [], rowC 105 [numP x.status, textP x.id] []] ++ (if x.out then [rowC 111 [textP x.id] []] else []) ++
  [rowC 115 [textP x.id] (instB x)] ++ (if x.due != 0 then [rowC 116 [numP x.due, textP x.id] []] else [])
attribute [irreducible] fieldsI badN okI instTo instB rowC madeI rowsI
end Go.Proofs.YtaecafagmncmiaaDoor.Pu
