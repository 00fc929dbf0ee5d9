/-
  The walks of package pack: texts and rows of texts.
-/
import Derived.Test.YtaecafagmncmiaaDoorPr
import Derived.Test.YtaecafagmncmiaaDoorPu2
namespace Go.Proofs.YtaecafagmncmiaaDoor
open Go.RowKit Pu

theorem bs_pre (l : Bs) (n : Nat) : (bs l).extract 0 n = bs (l.take n) := by rw [bs_extract]; simp
theorem bs_suf (l : Bs) (n m : Nat) (h : m = l.length) : (bs l).extract n m = bs (l.drop n) := by rw [h, bs_from]
theorem errv_pos {k : Nat} (h : k ≠ 0) : errv k = .iface 68 (.int .i64 k) := by unfold errv; rw [if_neg h]

set_option maxRecDepth 100000 in
set_option maxHeartbeats 1000000 in
theorem readText_any (l : Bs) (w : World) (hl : l.length ≤ 9223372036854775807) :
    Calls Tryd.prog 29 #[.string (bs l)] w fun e w' => e = .returned (.tuple #[.string (bs (readText l).2.1), .string (bs (readText l).2.2), errv (readText l).1]) ∧ Below w.heap.size w w' := by
  have hrest := readNum_rest l
  have hval := readNum_val l
  have hbad := readNum_bad l
  have hN := readNum_any l w hl
  rcases hr : readNum l with ⟨er, n, t⟩
  rw [hr] at hrest hval hN hbad
  simp only at hrest hval hN hbad
  unfold maxN at hval
  have HN := Lib.hid hN
  by_cases he : er = 0
  · subst he
    have e0 : errv 0 = .nilIface := rfl
    rw [e0] at HN
    by_cases h1 : 1048576 < n
    · have hfin : readText l = (5, [], []) := by simp [readText, hr, maxT, h1]
      rw [hfin]
      clear hr hfin hbad hN
      go_enter Tryd.func29, Tryd.ntmps29
      go_wp2_with (go_at_call 28; refine HN.out.mono ?_; rintro e w' ⟨rfl, hb⟩)
      go_ret3
      exact ⟨rfl, hb⟩
    by_cases h2 : t.length < n
    · have hfin : readText l = (2, [], []) := by simp [readText, hr, maxT, h1, h2]
      rw [hfin]
      clear hr hfin hbad hN
      go_enter Tryd.func29, Tryd.ntmps29
      go_wp2_with (go_at_call 28; refine HN.out.mono ?_; rintro e w' ⟨rfl, hb⟩)
      go_ret3
      exact ⟨rfl, hb⟩
    · have hfin : readText l = (0, t.take n, t.drop n) := by simp [readText, hr, maxT, h1, h2]
      have HF := Lib.hid hfin
      clear hr hfin hbad hN
      go_enter Tryd.func29, Tryd.ntmps29
      go_wp2_with (go_at_call 28; refine HN.out.mono ?_; rintro e w' ⟨rfl, hb⟩)
      go_quiet (fail)
      go_wp2
      go_ret3
      refine ⟨?_, below_n hb _⟩
      rw [HF.out]
      show _ = Ending.returned (.tuple #[.string (bs (t.take n)), .string (bs (t.drop n)), .nilIface])
      rw [← bs_pre, ← bs_suf t n t.length rfl]
      rfl
  · have hb2 := hbad he
    simp only [Prod.mk.injEq] at hb2
    obtain ⟨rfl, rfl⟩ := hb2
    have hfin : readText l = (er, [], []) := by simp [readText, hr, he]
    rw [hfin]
    rw [errv_pos he] at HN ⊢
    clear hr hfin hbad hN
    go_enter Tryd.func29, Tryd.ntmps29
    go_wp2_with (go_at_call 28; refine HN.out.mono ?_; rintro e w' ⟨rfl, hb⟩)
    go_ret3
    exact ⟨rfl, hb⟩

set_option maxRecDepth 100000 in
set_option maxHeartbeats 1000000 in
theorem text_any (l : Bs) (w : World) (hl : l.length ≤ 1048576) :
    Calls Tryd.prog 71 #[.string (bs l)] w fun e w' => e = .returned (.tuple #[.string (bs (textB l)), .nilIface]) ∧ Below w.heap.size w w' := by
  have hn := num_length (n := l.length)
  have h7 := psize_le7 (n := l.length) (by unfold maxN; omega)
  have ha := bs_app (num l.length) l
  rw [show textB l = num l.length ++ l from by unfold textB; rfl]
  go_enter Tryd.func71, Tryd.ntmps71
  go_wp2_with (go_at_call 59; refine (num_any _ _ (by unfold maxN; omega)).mono ?_; rintro e w' ⟨rfl, hb⟩)
  go_ret2
  exact ⟨rfl, hb⟩

/-- texts as cells -/
def strs (l : List Bs) : List Value := l.map fun s => .string (bs s)
theorem strs_at {l : List Bs} {j : Nat} (h : j < l.length) : (strs l)[j]? = some (.string (bs l[j])) := by simp [strs, h]
/-- the first j texts' bytes -/
def rowTo (l : List Bs) (j : Nat) : Bs := num l.length ++ (l.take j).flatMap textB
theorem rowTo_succ {l : List Bs} {j : Nat} (h : j < l.length) : rowTo l (j + 1) = rowTo l j ++ textB l[j] := by
  unfold rowTo
  rw [List.take_succ_eq_append_getElem h, List.flatMap_append, List.append_assoc]
  simp
theorem rowTo_zero (l : List Bs) : rowTo l 0 = num l.length := by simp [rowTo]
theorem rowTo_all (l : List Bs) : rowTo l l.length = rowB l := by unfold rowTo rowB; rw [List.take_length]
theorem rowTo_le {l : List Bs} {j : Nat} : (rowTo l j).length ≤ (rowB l).length := by
  unfold rowTo rowB
  have : (l.flatMap textB) = (l.take j).flatMap textB ++ (l.drop j).flatMap textB := by rw [← List.flatMap_append, List.take_append_drop]
  rw [this]
  simp

attribute [local irreducible] rowTo
set_option maxRecDepth 100000 in
set_option maxHeartbeats 400000 in
theorem row_any (A : Option Addr) (c : Nat) (l : List Bs) (w : World) (hr : Rd w 1 A l.length (strs l)) (hn : l.length ≤ 1000) (ht : ∀ s ∈ l, s.length ≤ 1048576) (hR : (rowB l).length ≤ 1048576) :
    Calls Tryd.prog 58 #[.slice A l.length c] w fun e w' => e = .returned (.tuple #[.string (bs (rowB l)), .nilIface]) ∧ Below w.heap.size w w' := by
  have h0 : (num l.length).length ≤ 1048576 := by have := rowTo_le (l := l) (j := 0); rw [rowTo_zero] at this; omega
  have hsz : (bs (num l.length)).size ≤ maxLen := by rw [bs_size]; unfold maxLen; omega
  have HR := Lib.hid hr
  have HT := Lib.hid ht
  clear hr ht
  go_enter Tryd.func58, Tryd.ntmps58
  go_wp2_with (first
    | (go_at_call 59; refine (num_any _ _ (by unfold maxN; omega)).mono ?_; rintro e w1 ⟨rfl, hb1⟩)
    | (refine wpList_bytes rfl _ (src := 9) (dst := 104) rfl Tryd.underlying9 Tryd.underlying104 Tryd.underlying5 (bs (num l.length)) rfl hsz ?_; intro c1 w2 hg2 how2))
  have hb2 : Below w.heap.size w w2 := below_g hb1 hg2
  have how := how2 w.heap.size hb1.size
  rw [bs_toList, bs_size] at how
  have HO := Lib.hid how
  clear how how2 hg2 hb1
  go_loopw [6, 25] (fun v i wr => ∃ j n : Nat, j ≤ l.length ∧ i = .int .i64 j ∧ Ow wr w.heap.size 5 1 v n (u8s (rowTo l j)) ∧ Below w.heap.size w wr) (fun _ i _ => l.length - (intOf i).toNat)
  case atStart => exact ⟨0, _, by omega, rfl, by rw [rowTo_zero]; exact HO.out, hb2⟩
  case round =>
    obtain ⟨j, n, hj, rfl, how, hbw⟩ := hrel
    obtain ⟨A6, c6, rfl, _⟩ := how.rd
    by_cases hlt : j < l.length
    · have hrw := HR.out.below hbw
      obtain ⟨b, off, rfl, hbl, hc⟩ := hrw.at_ hlt
      have hcell := hc j _ (strs_at hlt)
      have hn1 := how.1
      rw [u8s_length] at hn1
      have hle := rowTo_le (l := l) (j := j + 1)
      have hs := rowTo_succ hlt
      have hle2 : (rowTo l j).length + (textB l[j]).length ≤ 1048576 := by rw [hs, List.length_append] at hle; omega
      have hn2 : (n : Int) + ((textB l[j]).length : Int) ≤ 1048576 := by omega
      have hlj := HT.out l[j] (List.getElem_mem hlt)
      generalize l[j] = s at hcell hs hle2 hn2 hlj
      have HS := Lib.hid hs
      have HO := Lib.hid how
      clear how hs hle hc hrw hn1 hle2
      go_wp2_with (first
        | (go_at_call 71; refine (text_any _ _ hlj).mono ?_; rintro e w3 ⟨rfl, hb3⟩)
        | (refine wpList_pushstr tU8 rfl _ _ rfl Tryd.underlying9 w.heap.size (.slice A6 n c6) n (u8s (rowTo l j)) (bs (textB s)) rfl rfl (HO.out.below hb3) (by rw [bs_size]; omega) (Nat.le_trans hbw.size hb3.size) ?_; intro v4 w4 ho4 hg4 hw4 hb4))
      go_roundw
      case rel => exact ⟨j + 1, _, by omega, by go_num, by rw [HS.out, u8s_append]; rw [bs_toList] at ho4; exact ho4, (below_tr hbw hb3).trans hb4⟩
      case measure => simp [intOf]; omega
    · obtain rfl : j = l.length := by omega
      have hst := ow_str Tryd.underlying104 Tryd.underlying5 Tryd.underlying9 how
      rw [rowTo_all] at hst
      clear how
      go_wp2
      go_ret2
      exact ⟨rfl, hbw⟩
end Go.Proofs.YtaecafagmncmiaaDoor
