/-
  The walks of package pack: reading.
-/
import Derived.Test.YtaecafagmncmiaaDoorPk
import Derived.BigQuiet
import Derived.Deep.QuietTactic
namespace Go.Proofs.YtaecafagmncmiaaDoor
open Go.RowKit Pu

/-- an error of a number; 0: none -/
def errv (k : Nat) : Value := if k = 0 then .nilIface else .iface 68 (.int .i64 k)

@[go_sem] theorem wrap64_u8 (c : UInt8) : wrap64 (c.toNat : Int) = (c.toNat : Int) := by
  have := c.toNat_lt
  unfold wrap64
  omega
theorem ofInt_i64 (a : Nat) (ha : a < 9223372036854775808) : (BitVec.ofInt 64 (a : Int)).toNat = a := by
  rw [BitVec.ofInt_natCast, BitVec.toNat_ofNat]; exact Nat.mod_eq_of_lt (by omega)
theorem or_byte (n c : Nat) (hn : n < 36028797018963968) (hc : c < 256) : Go.bits .or .i64 ((n : Int) * 256) (c : Int) = ((n * 256 + c : Nat) : Int) := by
  have h1 : (n * 256) ||| c = n * 256 + c := by
    have := Nat.two_pow_add_eq_or_of_lt (i := 8) (b := c) (by omega) n
    rw [show n * 256 = 2 ^ 8 * n from by omega]
    omega
  rw [show ((n : Int) * 256) = ((n * 256 : Nat) : Int) from by omega]
  show IntKind.i64.wrap ((BitVec.ofInt 64 ((n * 256 : Nat) : Int) ||| BitVec.ofInt 64 (c : Int)).toNat : Int) = _
  rw [BitVec.toNat_or, ofInt_i64 _ (by omega), ofInt_i64 c (by omega), h1, IntKind.wrap_i64]
  omega

set_option maxRecDepth 100000 in
set_option maxHeartbeats 1000000 in
theorem readNum_short (w : World) :
    Calls Tryd.prog 28 #[.string (bs [])] w fun e w' => e = .returned (.tuple #[.int .i64 0, .string (bs []), errv 2]) ∧ w = w' := by
  go_enter Tryd.func28, Tryd.ntmps28
  go_wp2
  go_ret3
  exact ⟨rfl, rfl⟩

set_option maxRecDepth 100000 in
set_option maxHeartbeats 1000000 in
theorem readNum_long (k : UInt8) (r : Bs) (w : World) (h : 7 < k.toNat) :
    Calls Tryd.prog 28 #[.string (bs (k :: r))] w fun e w' => e = .returned (.tuple #[.int .i64 0, .string (bs []), errv 3]) ∧ w = w' := by
  go_enter Tryd.func28, Tryd.ntmps28
  go_wp2
  go_ret3
  exact ⟨rfl, rfl⟩
set_option maxRecDepth 100000 in
set_option maxHeartbeats 1000000 in
theorem readNum_few (k : UInt8) (r : Bs) (w : World) (h : k.toNat ≤ 7) (hl : r.length < k.toNat) :
    Calls Tryd.prog 28 #[.string (bs (k :: r))] w fun e w' => e = .returned (.tuple #[.int .i64 0, .string (bs []), errv 2]) ∧ w = w' := by
  go_enter Tryd.func28, Tryd.ntmps28
  go_wp2
  go_ret3
  exact ⟨rfl, rfl⟩

def RnPost (k : UInt8) (q t : Bs) (e : Ending) : Prop :=
  ((psize (beN q) ≠ k.toNat ∨ 9007199254740991 < beN q) → e = .returned (.tuple #[.int .i64 0, .string (bs []), errv 3])) ∧
  (psize (beN q) = k.toNat → beN q ≤ 9007199254740991 → e = .returned (.tuple #[.int .i64 (beN q), .string (bs t), .nilIface]))
theorem take_snoc {q : Bs} {j : Nat} (h : j < q.length) : q.take (j + 1) = q.take j ++ [q[j]] := List.take_succ_eq_append_getElem h

set_option maxRecDepth 100000 in
set_option maxHeartbeats 1000000 in
theorem readNum_walk (k : UInt8) (q t : Bs) (w : World) (h : k.toNat ≤ 7) (hq : q.length = k.toNat) (_hr : t.length + q.length + 1 ≤ 9223372036854775807) :
    Calls Tryd.prog 28 #[.string (bs (k :: (q ++ t)))] w fun e w' => RnPost k q t e ∧ Below w.heap.size w w' := by
  have e1 : (bs (k :: (q ++ t))).extract 1 (1 + k.toNat) = bs q := by rw [bs_extract, Nat.add_sub_cancel_left, List.drop_one, List.tail_cons, ← hq, List.take_left]
  have e2 : (bs (k :: (q ++ t))).extract (1 + k.toNat) (k.toNat + t.length + 1) = bs t := by rw [bs_extract, ← hq, Nat.add_comm 1, List.drop_succ_cons, List.drop_left, List.take_of_length_le (by omega)]
  have hql : q.length ≤ 7 := by omega
  have hsz : (bs q).size ≤ maxLen := by rw [bs_size]; unfold maxLen; omega
  have hbq : ∀ j, beN (q.take j) < 72057594037927936 := fun j => by
    have h1 := beN_lt (q.take j)
    have h2 : (q.take j).length ≤ 7 := by rw [List.length_take]; omega
    have h3 : 256 ^ (q.take j).length ≤ 256 ^ 7 := Nat.pow_le_pow_right (by omega) h2
    omega
  have Hbq := Lib.hid hbq
  clear hbq
  go_enter Tryd.func28, Tryd.ntmps28
  go_wp2_with (first
    | (refine wpList_bytes rfl _ (src := 9) (dst := 104) rfl Tryd.underlying9 Tryd.underlying104 Tryd.underlying5 (bs q) (congrArg Value.string e1) hsz ?_; intro c1 W1 hg1 how1))
  obtain ⟨A, c, hAc, hrd⟩ := (how1 0 (Nat.zero_le _)).rd
  obtain ⟨rfl, rfl⟩ : A = some ⟨w.heap.size, 0, none⟩ ∧ c = c1 := by injection hAc with h1 _ h2; exact ⟨h1.symm, h2.symm⟩
  have hb1 : Below w.heap.size w W1 := below_g (Below.refl _ _) hg1
  clear hAc how1 hg1 e1
  rw [bs_toList] at hrd
  have Hrd := Lib.hid hrd
  clear hrd
  go_loop [2, 30] (fun n i => ∃ j : Nat, j ≤ q.length ∧ i = .int .i64 j ∧ n = .int .i64 (beN (q.take j))) (fun _ i => q.length - (intOf i).toNat)
  case atStart => exact ⟨0, by omega, rfl, rfl⟩
  case round =>
    obtain ⟨j, hj, rfl, rfl⟩ := hrel
    by_cases hlt : j < q.length
    · have hcell : W1.cell? ⟨w.heap.size, j, none⟩ = some (.int .u8 ((q[j]).toNat : Int)) := by
        obtain ⟨b, off, hA, _, hc⟩ := Hrd.out.2.2 (by rw [bs_size]; omega)
        obtain ⟨rfl, rfl⟩ : b = w.heap.size ∧ off = 0 := by injection hA with hA; injection hA with h1 h2; exact ⟨h1.symm, h2.symm⟩
        simpa using hc j (.int .u8 ((q[j]).toNat : Int)) (by simp [u8s, hlt])
      have hn1 : beN (q.take j) < 281474976710656 := by
        have h1 := beN_lt (q.take j)
        have h2 : (q.take j).length ≤ 6 := by rw [List.length_take]; omega
        have h3 : 256 ^ (q.take j).length ≤ 256 ^ 6 := Nat.pow_le_pow_right (by omega) h2
        omega
      have hor : Go.bits .or .i64 ((beN (q.take j) : Int) * 256) ((q[j]).toNat : Int) = (beN (q.take (j + 1)) : Int) := by
        rw [or_byte _ _ (by omega) (q[j]).toNat_lt, take_snoc hlt, beN_snoc]
      go_wp2
      go_round
      case rel => exact ⟨j + 1, by omega, by go_num, rfl⟩
      case measure => simp [intOf]; omega
    · obtain rfl : j = q.length := by omega
      have hbq := Hbq.out q.length
      rw [List.take_length] at hbq ⊢
      by_cases hc : psize (beN q) = k.toNat ∧ beN q ≤ 9007199254740991
      · obtain ⟨hc1, hc2⟩ := hc
        have hfin : RnPost k q t (.returned (.tuple #[.int .i64 (beN q), .string (bs t), .nilIface])) := ⟨fun h => by omega, fun _ _ => rfl⟩
        go_wp2_with (go_at_call 57; refine (size_any _ _ (by omega)).mono ?_; rintro e w' ⟨rfl, rfl⟩)
        go_quiet (fail)
        go_wp2
        go_ret3
        refine ⟨?_, below_n hb1 _⟩
        show RnPost k q t (.returned (.tuple #[.int .i64 (beN q), .string ((bs (k :: (q ++ t))).extract (1 + k.toNat) (k.toNat + t.length + 1)), .nilIface]))
        rw [e2]
        exact hfin
      · have hfin : RnPost k q t (.returned (.tuple #[.int .i64 0, .string (bs []), errv 3])) := ⟨fun _ => rfl, fun h1 h2 => by omega⟩
        by_cases hp : psize (beN q) = k.toNat
        · have hgt : 9007199254740991 < beN q := by omega
          clear hc
          go_wp2_with (go_at_call 57; refine (size_any _ _ (by omega)).mono ?_; rintro e w' ⟨rfl, rfl⟩)
          go_ret3
          exact ⟨hfin, hb1⟩
        · clear hc
          go_wp2_with (go_at_call 57; refine (size_any _ _ (by omega)).mono ?_; rintro e w' ⟨rfl, rfl⟩)
          go_ret3
          exact ⟨hfin, hb1⟩

theorem readNum_any (l : Bs) (w : World) (hl : l.length ≤ 9223372036854775807) :
    Calls Tryd.prog 28 #[.string (bs l)] w fun e w' => e = .returned (.tuple #[.int .i64 (readNum l).2.1, .string (bs (readNum l).2.2), errv (readNum l).1]) ∧ Below w.heap.size w w' := by
  cases l with
  | nil => rw [show readNum [] = (2, 0, []) from by simp [readNum]]; exact (readNum_short w).mono fun e w' ⟨h1, h2⟩ => ⟨h1, h2 ▸ Below.refl _ _⟩
  | cons k r =>
    by_cases h7 : 7 < k.toNat
    · simp only [readNum, h7, if_true]
      exact (readNum_long k r w h7).mono fun e w' ⟨h1, h2⟩ => ⟨h1, h2 ▸ Below.refl _ _⟩
    by_cases hf : r.length < k.toNat
    · simp only [readNum, h7, hf, if_true, if_false]
      exact (readNum_few k r w (by omega) hf).mono fun e w' ⟨h1, h2⟩ => ⟨h1, h2 ▸ Below.refl _ _⟩
    have hs := readNum_walk k (r.take k.toNat) (r.drop k.toNat) w (by omega) (by rw [List.length_take]; omega) (by simp at hl ⊢; omega)
    rw [List.take_append_drop] at hs
    refine hs.mono fun e w' ⟨⟨h1, h2⟩, h3⟩ => ⟨?_, h3⟩
    simp only [readNum, h7, hf, if_false]
    by_cases hc : psize (beN (r.take k.toNat)) ≠ k.toNat ∨ maxN < beN (r.take k.toNat)
    · rw [if_pos hc]; exact h1 hc
    · rw [if_neg hc]; unfold maxN at hc; exact h2 (by omega) (by omega)
end Go.Proofs.YtaecafagmncmiaaDoor
