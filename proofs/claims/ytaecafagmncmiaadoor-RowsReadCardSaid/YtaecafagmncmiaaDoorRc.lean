/-
  The walk of rows.Of's second closure: a row is appended.
-/
import Derived.Test.YtaecafagmncmiaaDoorSo
namespace Go.Proofs.YtaecafagmncmiaaDoor
open Go.RowKit Pu

theorem Ow.setCell_other {w : World} {base n size o i : Nat} {t : TypeId} {v u : Value} {xs : List Value} (h : Ow w base t size v n xs) (ho : o < base) : Ow (w.setCell ⟨o, i, none⟩ u) base t size v n xs := by
  refine ⟨h.1, ?_⟩
  rcases h.2 with h0 | ⟨g, off, cap, cur, fr, hv, hg, hh, r⟩
  · exact .inl h0
  · exact .inr ⟨g, off, cap, cur, fr, hv, hg, (heap_setCell_other w ⟨o, i, none⟩ g u (by simp; omega)).trans hh, r⟩

/-- a variable, block o, that holds a slice of the call's own -/
def OutAt (w : World) (base o : Nat) (acc : List Chg) : Prop :=
  ∃ v, w.heap[o]? = some (.cells #[v] 41 (0, 0)) ∧ Ow w base 49 3 v acc.length (acc.flatMap chgC)
/-- all below base is as it was, but block o -/
structure Beside (base o : Nat) (w w' : World) : Prop where
  os : w'.os = w.os
  tape : w'.tape = w.tape
  output : w'.output = w.output
  size : w.heap.size ≤ w'.heap.size
  block : ∀ k, k < base → k ≠ o → w'.heap[k]? = w.heap[k]?
theorem Beside.refl (base o : Nat) (w : World) : Beside base o w w := ⟨rfl, rfl, rfl, Nat.le_refl _, fun _ _ _ => rfl⟩
theorem Beside.trans {base o : Nat} {a b c : World} (h : Beside base o a b) (k : Beside base o b c) : Beside base o a c :=
  ⟨k.os.trans h.os, k.tape.trans h.tape, k.output.trans h.output, Nat.le_trans h.size k.size, fun i hi ho => (k.block i hi ho).trans (h.block i hi ho)⟩
theorem Beside.of_below {base o B : Nat} {a b : World} (h : Below B a b) (hb : base ≤ B) : Beside base o a b := ⟨h.os, h.tape, h.output, h.size, fun k hk _ => h.block k (by omega)⟩
theorem Beside.below {base o B : Nat} {a b : World} (h : Beside base o a b) (hb : B ≤ base) (ho : B ≤ o) : Below B a b := ⟨h.os, h.tape, h.output, h.size, fun k hk => h.block k (by omega) (by omega)⟩
theorem OutAt.below {w w' : World} {base o B : Nat} {acc : List Chg} (h : OutAt w base o acc) (hb : Below B w w') (hB : B = w.heap.size) : OutAt w' base o acc := by
  subst hB
  obtain ⟨v, h1, h2⟩ := h
  exact ⟨v, (hb.block o (Array.getElem?_eq_some_iff.1 h1).1).trans h1, h2.below hb⟩

theorem chg_snoc (acc : List Chg) (k v : Bs) : acc.flatMap chgC ++ (#[Value.string (bs k), .bool false, .string (bs v)] : Array Value).toList = (acc ++ [(⟨k, false, v⟩ : Chg)]).flatMap chgC := by simp [chgC]

set_option maxRecDepth 100000 in
set_option maxHeartbeats 1000000 in
theorem row_closure (kind value : Bs) (A : Option Addr) (c : Nat) (ps : List Part) (acc : List Chg) (base o : Nat) (w : World) (hr : Rd w 3 A ps.length (ps.flatMap parC)) (hg : Glob w) (hn : ps.length ≤ 10) (ha : acc.length ≤ 1000)
    (hout : OutAt w base o acc) (ho : o < base) (hbase : base ≤ w.heap.size) :
    Calls Tryd.prog 50 #[.string (bs kind), .string (bs value), .slice A ps.length c, .pointer (some ⟨o, 0, none⟩)] w fun e w' =>
      e = .returned (.tuple #[]) ∧ OutAt w' base o (acc ++ [⟨(keyB (textP kind :: ps)).2, false, value⟩]) ∧ Beside base o w w' := by
  have hkey := rkey_any kind A c ps w hr hg (by omega)
  have HKEY := Lib.hid hkey
  have HO := Lib.hid hout
  generalize keyB (textP kind :: ps) = S at HKEY ⊢
  have hq : ∀ w, (Instr.build 49 #[(0, .string (bs S.2)), (2, .string (bs value))]).run Tryd.prog w = .ok (.agg #[.string (bs S.2), .bool false, .string (bs value)]) w := fun _ => by kernel_rfl
  clear hkey hr hg hout
  go_enter Tryd.func50, Tryd.ntmps50
  go_wp2_with (first
    | (go_at_call 16; refine HKEY.out.mono ?_; rintro e w1 ⟨rfl, hb1⟩; obtain ⟨v, hv, hov⟩ := HO.out.below hb1 rfl; have cv := (cell_of_row w1 o 0 _ _ _ hv).trans (show _ = some v from rfl); have fv := frozen_of_row w1 o 0 _ _ hv; obtain ⟨A3, c3, rfl, _⟩ := hov.rd; have HV := Lib.hid hv; have HOV := Lib.hid hov; clear hv hov)
    | (at_builtin; refine wpList_push tChg rfl _ _ rfl base (.slice A3 acc.length c3) acc.length _ _ rfl rfl HOV.out rfl (by simp [Value.oneCell']) (by omega) (by omega) (Nat.le_trans hbase hb1.size) ?_; intro v4 w4 ho4 hg4 hw4 hb4; obtain ⟨A4, c4, rfl, _⟩ := ho4.rd; have hv4 := (hb4.block o ho).trans HV.out; have cv4 := (cell_of_row w4 o 0 _ _ _ hv4).trans (show _ = some (Value.slice A3 acc.length c3) from rfl); have fv4 := frozen_of_row w4 o 0 _ _ hv4; have HV4 := Lib.hid hv4; clear hv4))
  go_end0
  refine ⟨rfl, ⟨_, ?_, (ho4.setCell_other ho).cast (by simp) (chg_snoc acc S.2 value)⟩, ?_⟩
  · have := heap_setCell_same w4 o 0 _ _ (.slice A4 (acc.length + 1) c4) HV4.out
    simpa using this
  · refine (Beside.of_below hb1 hbase).trans ((Beside.of_below hb4 (Nat.le_refl _)).trans ⟨rfl, rfl, rfl, by simp, fun k hk hko => heap_setCell_other w4 ⟨o, 0, none⟩ k _ (by simpa using hko)⟩)
end Go.Proofs.YtaecafagmncmiaaDoor
