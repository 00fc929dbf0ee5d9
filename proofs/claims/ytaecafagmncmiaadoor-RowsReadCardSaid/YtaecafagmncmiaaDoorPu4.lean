/-
  Plain laws: parts and keys.
-/
import Derived.Lib.Replace
import Derived.Lib.IndexLaws
import Derived.Test.YtaecafagmncmiaaDoorPu3
namespace Go.Proofs.YtaecafagmncmiaaDoor.Pu

structure Part where
  text : Bool
  n : Int
  s : Bs
  deriving DecidableEq

/-- a 0 becomes 0 255 -/
def esc (s : Bs) : Bs := s.flatMap fun c => if c = 0 then [0, 255] else [c]
theorem esc_cons (c : UInt8) (s : Bs) : esc (c :: s) = (if c = 0 then [0, 255] else [c]) ++ esc s := by simp [esc]
theorem esc_app (s t : Bs) : esc (s ++ t) = esc s ++ esc t := by simp [esc]
theorem esc_none {s : Bs} (h : ∀ k : Nat, s[k]? ≠ some 0) : esc s = s := by
  induction s with
  | nil => rfl
  | cons c s ih =>
    have h0 : c ≠ 0 := fun e => h 0 (by simp [e])
    rw [esc_cons, if_neg h0, ih (fun k => by have := h (k + 1); simpa using this)]
    rfl
theorem esc_length (s : Bs) : (esc s).length ≤ 2 * s.length := by
  induction s with
  | nil => simp [esc]
  | cons c s ih =>
    rw [esc_cons]
    split <;> simp <;> omega
theorem countFrom_le (sub : Bs) : ∀ (fuel : Nat) (s : Bs), Lib.countFrom sub fuel s ≤ fuel := by
  intro fuel
  induction fuel with
  | zero => intro s; simp [Lib.countFrom]
  | succ f ih =>
    intro s
    rw [Lib.countFrom]
    split
    · omega
    · have := ih (s.drop ((Lib.index s sub).toNat + sub.length)); omega
theorem repl_esc : ∀ (fuel : Nat) (s : Bs), s.length < fuel → Lib.replaceK [0] [0, 255] (Lib.countFrom [0] fuel s) s = esc s := by
  intro fuel
  induction fuel with
  | zero => intro s h; omega
  | succ f ih =>
    intro s h
    have hidx : Lib.index s [0] = Lib.indexByte s 0 := Lib.index_one s 0
    rcases Int.lt_or_le (Lib.index s [0]) 0 with hneg | hpos
    · have hm : Lib.index s [0] = -1 := by have := Lib.index_ge s [0]; omega
      have hno := Lib.indexByte_none (hidx ▸ hm)
      rw [Lib.countFrom, hm]
      simp only [beq_self_eq_true, if_true, Lib.replaceK]
      exact (esc_none hno).symm
    · obtain ⟨i, hi⟩ := Int.eq_ofNat_of_zero_le hpos
      obtain ⟨hs, hbefore⟩ := Lib.indexByte_some (hidx ▸ hi)
      have hlt : i < s.length := (List.getElem?_eq_some_iff.1 hs).1
      have hne : (Lib.index s [0] == -1) = false := by rw [beq_eq_false_iff_ne]; omega
      have htn : (Lib.index s [0]).toNat = i := by omega
      rw [Lib.countFrom, hne, htn]
      simp only [Bool.false_eq_true, if_false, List.length_singleton]
      rw [Nat.add_comm 1, Lib.replaceK_hit _ _ _ _ i hi]
      simp only [List.length_singleton]
      rw [ih _ (by rw [List.length_drop]; omega)]
      have hsplit : s = s.take i ++ 0 :: s.drop (i + 1) := by
        have h1 := List.take_append_drop i s
        rw [List.drop_eq_getElem_cons hlt] at h1
        have h2 : s[i] = 0 := by
          have := (List.getElem?_eq_some_iff.1 hs).2
          exact this
        rw [h2] at h1
        exact h1.symm
      have htake : esc (s.take i) = s.take i := esc_none fun k hk => by
        rw [List.getElem?_take] at hk
        split at hk
        · rename_i hki; exact hbefore k hki hk
        · cases hk
      have he := congrArg esc hsplit
      rw [he, esc_app, esc_cons, htake]
      simp
theorem replaceAll_esc (s : Bs) : Lib.replaceAll s [0] [0, 255] = esc s := by
  unfold Lib.replaceAll Lib.replace Lib.replaceNum
  rw [if_neg (by decide), if_pos (.inl (by decide))]
  exact repl_esc _ s (by omega)

def partBad (p : Part) : Bool := !p.text && (decide (p.n < 0) || decide (9007199254740991 < p.n))
def partB (p : Part) : Bs := if p.text then 2 :: (esc p.s ++ [0, 0]) else 1 :: beL 7 p.n.toNat
def keyGo : Bs → List Part → Nat × Bs
  | acc, [] => (0, acc)
  | acc, p :: ps => if p.text = true ∧ 80 < p.s.length then (5, []) else if 80 < (acc ++ partB p).length then (5, []) else keyGo (acc ++ partB p) ps
def keyB (ps : List Part) : Nat × Bs := if ps.any partBad then (1, []) else keyGo [] ps
theorem keyB_bad {ps : List Part} {j : Nat} {p : Part} (h : ps[j]? = some p) (hp : partBad p = true) : keyB ps = (1, []) := by
  unfold keyB
  have : ps.any partBad = true := List.any_eq_true.2 ⟨p, List.mem_of_getElem? h, hp⟩
  rw [if_pos this]
theorem any_snoc {ps : List Part} {j : Nat} {p : Part} (h : ps[j]? = some p) (ha : (ps.take j).any partBad = false) (hp : partBad p = false) : (ps.take (j + 1)).any partBad = false := by
  rw [List.take_add_one, h, List.any_append, ha]; simp [hp]
theorem keyB_ok {ps : List Part} (h : ps.any partBad = false) : keyB ps = keyGo [] ps := by
  unfold keyB
  rw [if_neg (by simp [h])]
theorem drop_at {α : Type} {l : List α} {j : Nat} {x : α} (h : l[j]? = some x) : l.drop j = x :: l.drop (j + 1) := by
  have hlt : j < l.length := (List.getElem?_eq_some_iff.1 h).1
  rw [List.drop_eq_getElem_cons hlt, (List.getElem?_eq_some_iff.1 h).2]
theorem keyGo_err : ∀ (ps : List Part) (acc : Bs), (keyGo acc ps).1 = 0 ∨ keyGo acc ps = (5, []) := by
  intro ps
  induction ps with
  | nil => intro acc; exact .inl rfl
  | cons p ps ih =>
    intro acc
    rw [keyGo]
    split
    · exact .inr rfl
    · split
      · exact .inr rfl
      · exact ih _
theorem keyB_err (ps : List Part) : (keyB ps).1 = 0 ∨ (keyB ps) = (1, []) ∨ (keyB ps) = (5, []) := by
  unfold keyB
  split
  · exact .inr (.inl rfl)
  · rcases keyGo_err ps [] with h | h
    · exact .inl h
    · exact .inr (.inr h)
theorem keyGo_len : ∀ (ps : List Part) (acc : Bs), acc.length ≤ 80 → (keyGo acc ps).2.length ≤ 80 := by
  intro ps
  induction ps with
  | nil => intro acc h; exact h
  | cons p ps ih =>
    intro acc h
    rw [keyGo]
    split
    · simp
    · split
      · simp
      · exact ih _ (by omega)
theorem keyB_len (ps : List Part) : (keyB ps).2.length ≤ 80 := by
  unfold keyB
  split
  · simp
  · exact keyGo_len ps [] (by simp)
attribute [irreducible] esc partBad partB keyGo keyB
end Go.Proofs.YtaecafagmncmiaaDoor.Pu
