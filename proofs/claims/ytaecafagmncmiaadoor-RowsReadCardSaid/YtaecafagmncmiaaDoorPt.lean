/-
  The walk of order.part.
-/
import Derived.Test.YtaecafagmncmiaaDoorW4
namespace Go.Proofs.YtaecafagmncmiaaDoor
open Go.RowKit Pu

/-- what is known of a part read: the part (if there is no error), the rest, the error -/
def PtPost (er : Nat) (p : Part) (rest : Bs) (e : Ending) : Prop :=
  ∃ q : Part, (er = 0 → q = p) ∧ e = .returned (.tuple #[.agg #[.bool q.text, .int .i64 q.n, .string (bs q.s)], .string (bs rest), errv er])

theorem partR_short {r : Bs} (h : r.length < 7) : partR (1 :: r) = (2, noPart, []) := by rw [partR, if_pos rfl, if_pos h]
theorem partR_num {r : Bs} (h : 7 ≤ r.length) : partR (1 :: r) = if maxN < beN (r.take 7) then (3, noPart, []) else (0, ⟨false, beN (r.take 7), []⟩, r.drop 7) := by rw [partR, if_pos rfl, if_neg (by omega)]
theorem partR_other {c : UInt8} {r : Bs} (h1 : c ≠ 1) (h2 : c ≠ 2) : partR (c :: r) = (3, noPart, []) := by rw [partR, if_neg h1, if_neg h2]

set_option maxRecDepth 100000 in
set_option maxHeartbeats 1000000 in
theorem part_short (r : Bs) (w : World) (h7 : r.length < 7) :
    Calls Tryd.prog 62 #[.string (bs (1 :: r))] w fun e w' => PtPost 2 noPart [] e ∧ Below w.heap.size w w' := by
  have hc1 : (((1 : UInt8).toNat : Int) == 1) = true := rfl
  have hfin : PtPost 2 noPart [] (.returned (.tuple #[.agg #[.bool false, .int .i64 0, .string ⟨#[]⟩], .string ⟨#[]⟩, .iface 68 (.int .i64 2)])) := ⟨noPart, fun _ => rfl, rfl⟩
  have HF := Lib.hid hfin
  clear hfin
  generalize hc : (1 : UInt8) = c at hc1 ⊢
  clear hc
  go_enter Tryd.func62, Tryd.ntmps62
  go_wp2
  refine bodyPost_ret (results_ctt rfl _ _ w.heap.size _ _ _ _ rfl (heap_alloc_new w _) Tryd.underlying54 rfl (by kernel_rfl)) rfl ?_
  exact ⟨HF.out, below_al (Below.refl _ _) _⟩

set_option maxRecDepth 100000 in
set_option maxHeartbeats 1000000 in
theorem part_other (c : UInt8) (r : Bs) (w : World) (h1 : c ≠ 1) (h2 : c ≠ 2) :
    Calls Tryd.prog 62 #[.string (bs (c :: r))] w fun e w' => PtPost 3 noPart [] e ∧ Below w.heap.size w w' := by
  have hc1 : ((c.toNat : Int) == 1) = false := by rw [beq_eq_false_iff_ne]; intro h; exact h1 (UInt8.toNat.inj (by simpa using (by omega : c.toNat = 1)))
  have hc2 : ((c.toNat : Int) == 2) = false := by rw [beq_eq_false_iff_ne]; intro h; exact h2 (UInt8.toNat.inj (by simpa using (by omega : c.toNat = 2)))
  have hfin : PtPost 3 noPart [] (.returned (.tuple #[.agg #[.bool false, .int .i64 0, .string ⟨#[]⟩], .string ⟨#[]⟩, .iface 68 (.int .i64 3)])) := ⟨noPart, fun _ => rfl, rfl⟩
  have HF := Lib.hid hfin
  clear hfin h1 h2
  go_enter Tryd.func62, Tryd.ntmps62
  go_wp2
  refine bodyPost_ret (results_ctt rfl _ _ w.heap.size _ _ _ _ rfl (heap_alloc_new w _) Tryd.underlying54 rfl (by kernel_rfl)) rfl ?_
  exact ⟨HF.out, below_al (Below.refl _ _) _⟩

set_option maxRecDepth 100000 in
set_option maxHeartbeats 1000000 in
theorem part_num (q t : Bs) (w : World) (hq : q.length = 7) (ht : t.length ≤ 80) :
    Calls Tryd.prog 62 #[.string (bs (1 :: (q ++ t)))] w fun e w' => (PtPost (if maxN < beN q then 3 else 0) ⟨false, beN q, []⟩ (if maxN < beN q then [] else t) e) ∧ Below w.heap.size w w' := by
  have hc1 : (((1 : UInt8).toNat : Int) == 1) = true := rfl
  have e1 : (bs (1 :: (q ++ t))).extract 1 (7 + t.length + 1) = bs (q ++ t) := by rw [bs_extract, List.drop_one, List.tail_cons, List.take_of_length_le (by simp; omega)]
  generalize hc : (1 : UInt8) = c at hc1 e1 ⊢
  clear hc
  have hsz : (u8s q).toArray.size = 7 := by simp [u8s_length, hq]
  have hcp : ∀ ty, (Builtin.copy_ #[104, 9] ty #[.slice (some ⟨w.heap.size + 1, 0, none⟩) 7 7, .string (bs (q ++ t))]).run Tryd.prog (((w.alloc (.cells #[.bool false, .int .i64 0, .string ⟨#[]⟩] 54)).alloc (.cells #[.int .u8 0, .int .u8 0, .int .u8 0, .int .u8 0, .int .u8 0, .int .u8 0, .int .u8 0] 127)).drew) = .ok (.int .i64 7) (((w.alloc (.cells #[.bool false, .int .i64 0, .string ⟨#[]⟩] 54)).alloc (.cells (u8s q).toArray 127)).drew) := by
    intro ty
    have hmin : Nat.min (q ++ t).length 7 = 7 := Nat.min_eq_right (by rw [List.length_append]; omega)
    have h := run_copy_str (P := Tryd.prog) (w := (((w.alloc (.cells #[.bool false, .int .i64 0, .string ⟨#[]⟩] 54)).alloc (.cells #[.int .u8 0, .int .u8 0, .int .u8 0, .int .u8 0, .int .u8 0, .int .u8 0, .int .u8 0] 127)).drew)) (u := 9) (ty := ty) Tryd.underlying104 (by kernel_rfl) (w.heap.size + 1) 7 7 _ 127 (heap_alloc2_new w _ _) (q ++ t) q (by rw [hmin, ← hq, List.take_left]) (by rw [hq]; decide)
    rw [h, hmin]
    have hs : (w.alloc (.cells #[.bool false, .int .i64 0, .string ⟨#[]⟩] 54)).heap.size = w.heap.size + 1 := by simp
    show Result.ok (Value.int .i64 7) ((((w.alloc (.cells #[.bool false, .int .i64 0, .string ⟨#[]⟩] 54)).alloc (.cells #[.int .u8 0, .int .u8 0, .int .u8 0, .int .u8 0, .int .u8 0, .int .u8 0, .int .u8 0] 127)).setRow (w.heap.size + 1) _).drew) = _
    rw [← hs, setRow_alloc, hq]
    simp
  go_enter Tryd.func62, Tryd.ntmps62
  go_wp2
  go_region
  all_goals
    go_wp2_with (refine wpList_load_row rfl 127 _ rfl (w.heap.size + 1) rfl 127 (u8s q).toArray (0, 0) _ (heap_alloc2_new w _ _) Tryd.underlying127 rfl (by rw [hsz]; kernel_rfl) ?_)
  clear hcp e1
  have hlq : ∀ j, (q.take j).length ≤ 7 := fun j => by rw [List.length_take]; omega
  have HLQ := Lib.hid hlq
  clear hlq
  go_loopw [24] (fun i wr => ∃ j : Nat, j ≤ 7 ∧ i = .int .i64 j ∧ wr.heap[w.heap.size]? = some (.cells #[.bool false, .int .i64 (beN (q.take j) : Nat), .string ⟨#[]⟩] 54 (0, 0)) ∧ Below w.heap.size w wr) (fun i _ => 7 - (intOf i).toNat)
  case atStart => exact ⟨0, by omega, rfl, by rw [List.take_zero, beN_nil]; exact heap_alloc2_old w _ _, below_n (below_al (below_al (Below.refl _ _) _) _) 1⟩
  case round =>
    obtain ⟨j, hj, rfl, hblk, hbw⟩ := hrel
    have hc0 := (cell_of_row wr w.heap.size 1 _ _ _ hblk).trans (show _ = some (Value.int .i64 (beN (q.take j) : Nat)) from rfl)
    by_cases hlt : j < 7
    · obtain ⟨x, hx⟩ : ∃ x, q[j]? = some x := ⟨_, List.getElem?_eq_getElem (by omega)⟩
      have hidx : ∀ W, (Instr.index 127 (.agg (u8s q).toArray) (.int .i64 (j : Int))).run Tryd.prog W = .ok (.int .u8 (x.toNat : Int)) W := fun W =>
        run_index_agg Tryd.underlying127 _ W j _ hlt (by simp [u8s, hx]) (by kernel_rfl) (Tryd.isAgg5 W)
      have hfz := frozen_of_row wr w.heap.size 1 _ _ hblk
      have hn1 : beN (q.take j) < 281474976710656 := by
        have h1 := beN_lt (q.take j)
        have h2 : (q.take j).length ≤ 6 := by rw [List.length_take]; omega
        have h3 : 256 ^ (q.take j).length ≤ 256 ^ 6 := Nat.pow_le_pow_right (by omega) h2
        omega
      have hor : Go.bits .or .i64 ((beN (q.take j) : Int) * 256) (x.toNat : Int) = (beN (q.take (j + 1)) : Int) := by
        rw [or_byte _ _ (by omega) x.toNat_lt, List.take_add_one, hx, Option.toList_some, beN_snoc]
      have hst := heap_setCell_same wr _ 1 _ _ (.int .i64 (beN (q.take (j + 1)) : Nat)) hblk
      have HST := Lib.hid hst
      clear hst hblk hx
      go_wp2
      go_roundw
      case rel => exact ⟨j + 1, by omega, by go_num, HST.out, hbw.setCell (Nat.le_refl _) _⟩
      case measure => simp [intOf]; omega
    · obtain rfl : j = 7 := by omega
      rw [List.take_of_length_le (by omega)] at hblk hc0
      have c0 := (cell_of_row wr w.heap.size 0 _ _ _ hblk).trans (show _ = some (Value.bool false) from rfl)
      have c2 := (cell_of_row wr w.heap.size 2 _ _ _ hblk).trans (show _ = some (Value.string ⟨#[]⟩) from rfl)
      have f0 := frozen_of_row wr w.heap.size 0 _ _ hblk
      have f1 := frozen_of_row wr w.heap.size 1 _ _ hblk
      have f2 := frozen_of_row wr w.heap.size 2 _ _ hblk
      have s0 := setCell_self (i := 0) hblk (show _ = some (Value.bool false) from rfl)
      have s1 := setCell_self (i := 1) hblk (show _ = some (Value.int .i64 (beN q : Nat)) from rfl)
      have s2 := setCell_self (i := 2) hblk (show _ = some (Value.string ⟨#[]⟩) from rfl)
      have e2 : (bs (c :: (q ++ t))).extract 8 (7 + t.length + 1) = bs t := by
        rw [bs_extract, show c :: (q ++ t) = (c :: q) ++ t from rfl, show (8 : Nat) = (c :: q).length from by simp [hq], List.drop_left, List.take_of_length_le (by simp; omega)]
      have HB := Lib.hid hblk
      clear hblk
      by_cases hm : 9007199254740991 < beN q
      · have hfin : PtPost 3 ⟨false, beN q, []⟩ [] (.returned (.tuple #[.agg #[.bool false, .int .i64 (beN q : Nat), .string ⟨#[]⟩], .string ⟨#[]⟩, .iface 68 (.int .i64 3)])) := ⟨⟨false, beN q, []⟩, fun _ => rfl, rfl⟩
        have HF := Lib.hid hfin
        clear hfin
        go_wp2
        refine bodyPost_ret (results_ctt rfl _ _ w.heap.size _ _ _ _ rfl HB.out Tryd.underlying54 rfl (by kernel_rfl)) rfl ?_
        exact ⟨HF.out, hbw⟩
      · have hfin : PtPost 0 ⟨false, beN q, []⟩ t (.returned (.tuple #[.agg #[.bool false, .int .i64 (beN q : Nat), .string ⟨#[]⟩], .string (bs t), .nilIface])) := ⟨⟨false, beN q, []⟩, fun _ => rfl, rfl⟩
        have HF := Lib.hid hfin
        clear hfin
        go_wp2
        go_region
        all_goals (try go_wp2)
        all_goals
          refine bodyPost_ret (results_ctt rfl _ wr.drew w.heap.size _ _ _ _ rfl HB.out Tryd.underlying54 rfl (by kernel_rfl)) rfl ?_
        exact ⟨HF.out, below_n hbw 1⟩
end Go.Proofs.YtaecafagmncmiaaDoor
