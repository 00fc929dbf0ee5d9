/-
  The walk of rows.Instance.
-/
import Derived.Test.YtaecafagmncmiaaDoorOf
import Derived.Test.YtaecafagmncmiaaDoorPv
namespace Go.Proofs.YtaecafagmncmiaaDoor
open Go.RowKit Pu

def zeroI : Value := .agg #[.string ⟨#[]⟩, .string ⟨#[]⟩, .int .i64 0, .int .i64 0, .int .i64 0, .int .i64 0, .bool false]
theorem zcells {W : World} {g : Nat} {t : TypeId} {fr : Nat × Nat} (h : W.heap[g]? = some (.cells #[.string ⟨#[]⟩, .string ⟨#[]⟩, .int .i64 0, .int .i64 0, .int .i64 0, .int .i64 0, .bool false] t fr)) : W.cell? ⟨g, 0, none⟩ = some (.string ⟨#[]⟩) ∧ W.cell? ⟨g, 1, none⟩ = some (.string ⟨#[]⟩) ∧ W.cell? ⟨g, 2, none⟩ = some (.int .i64 0) ∧ W.cell? ⟨g, 3, none⟩ = some (.int .i64 0) ∧ W.cell? ⟨g, 4, none⟩ = some (.int .i64 0) ∧ W.cell? ⟨g, 5, none⟩ = some (.int .i64 0) ∧ W.cell? ⟨g, 6, none⟩ = some (.bool false) :=
  ⟨cell_of_row W g 0 _ _ _ h, cell_of_row W g 1 _ _ _ h, cell_of_row W g 2 _ _ _ h, cell_of_row W g 3 _ _ _ h, cell_of_row W g 4 _ _ _ h, cell_of_row W g 5 _ _ _ h, cell_of_row W g 6 _ _ _ h⟩
theorem cells7 {W : World} {g : Nat} {t : TypeId} {fr : Nat × Nat} {v0 v1 v2 v3 v4 v5 v6 : Value} (h : W.heap[g]? = some (.cells #[v0, v1, v2, v3, v4, v5, v6] t fr)) : W.cell? ⟨g, 0, none⟩ = some v0 ∧ W.cell? ⟨g, 1, none⟩ = some v1 ∧ W.cell? ⟨g, 2, none⟩ = some v2 ∧ W.cell? ⟨g, 3, none⟩ = some v3 ∧ W.cell? ⟨g, 4, none⟩ = some v4 ∧ W.cell? ⟨g, 5, none⟩ = some v5 ∧ W.cell? ⟨g, 6, none⟩ = some v6 :=
  ⟨cell_of_row W g 0 _ _ _ h, cell_of_row W g 1 _ _ _ h, cell_of_row W g 2 _ _ _ h, cell_of_row W g 3 _ _ _ h, cell_of_row W g 4 _ _ _ h, cell_of_row W g 5 _ _ _ h, cell_of_row W g 6 _ _ _ h⟩
theorem zself {W : World} {g : Nat} {t : TypeId} {fr : Nat × Nat} (h : W.heap[g]? = some (.cells #[.string ⟨#[]⟩, .string ⟨#[]⟩, .int .i64 0, .int .i64 0, .int .i64 0, .int .i64 0, .bool false] t fr)) : W.setCell ⟨g, 0, none⟩ (.string ⟨#[]⟩) = W ∧ W.setCell ⟨g, 1, none⟩ (.string ⟨#[]⟩) = W ∧ W.setCell ⟨g, 2, none⟩ (.int .i64 0) = W ∧ W.setCell ⟨g, 3, none⟩ (.int .i64 0) = W ∧ W.setCell ⟨g, 4, none⟩ (.int .i64 0) = W ∧ W.setCell ⟨g, 5, none⟩ (.int .i64 0) = W ∧ W.setCell ⟨g, 6, none⟩ (.bool false) = W :=
  ⟨setCell_self (i := 0) h rfl, setCell_self (i := 1) h rfl, setCell_self (i := 2) h rfl, setCell_self (i := 3) h rfl, setCell_self (i := 4) h rfl, setCell_self (i := 5) h rfl, setCell_self (i := 6) h rfl⟩
theorem fro7 {W : World} {g : Nat} {t : TypeId} {cs : Array Value} (h : W.heap[g]? = some (.cells cs t (0, 0))) : W.frozen? ⟨g, 0, none⟩ = false ∧ W.frozen? ⟨g, 1, none⟩ = false ∧ W.frozen? ⟨g, 2, none⟩ = false ∧ W.frozen? ⟨g, 3, none⟩ = false ∧ W.frozen? ⟨g, 4, none⟩ = false ∧ W.frozen? ⟨g, 5, none⟩ = false ∧ W.frozen? ⟨g, 6, none⟩ = false :=
  ⟨frozen_of_row W g 0 _ _ h, frozen_of_row W g 1 _ _ h, frozen_of_row W g 2 _ _ h, frozen_of_row W g 3 _ _ h, frozen_of_row W g 4 _ _ h, frozen_of_row W g 5 _ _ h, frozen_of_row W g 6 _ _ h⟩

set_option maxRecDepth 100000 in
set_option maxHeartbeats 2000000 in
theorem inst_head (v : Bs) (w : World) (hl : v.length ≤ 9223372036854775807) (h : (readNum v).1 ≠ 0 ∨ (readNum v).2.1 ≠ 2) :
    Calls Tryd.prog 12 #[.string (bs v)] w fun e w' => e = .returned (.tuple #[zeroI, errv 3]) ∧ Below w.heap.size w w' := by
  have e3 : errv 3 = .iface 68 (.int .i64 3) := errv_pos (by omega)
  have HE := Lib.hid e3
  have e0 : errv 0 = .nilIface := rfl
  have hq : ∀ w, (Instr.build 25 #[]).run Tryd.prog w = .ok zeroI w := fun _ => by kernel_rfl
  unfold zeroI at hq ⊢
  have hrn := fun w => readNum_any v w hl
  generalize readNum v = R at hrn h
  obtain ⟨er, n, m⟩ := R
  simp only at hrn h
  have HRN := Lib.hid hrn
  have HB0 := Lib.hid (below_al (below_al (Below.refl _ w) (.cells #[.string ⟨#[]⟩, .string ⟨#[]⟩, .int .i64 0, .int .i64 0, .int .i64 0, .int .i64 0, .bool false] 25)) (.cells #[.string ⟨#[]⟩, .string ⟨#[]⟩, .int .i64 0, .int .i64 0, .int .i64 0, .int .i64 0, .bool false] 25))
  have HZ0 := Lib.hid (heap_alloc2_old w (.cells #[.string ⟨#[]⟩, .string ⟨#[]⟩, .int .i64 0, .int .i64 0, .int .i64 0, .int .i64 0, .bool false] 25) (.cells #[.string ⟨#[]⟩, .string ⟨#[]⟩, .int .i64 0, .int .i64 0, .int .i64 0, .int .i64 0, .bool false] 25))
  have HZ1 := Lib.hid (heap_alloc2_new w (.cells #[.string ⟨#[]⟩, .string ⟨#[]⟩, .int .i64 0, .int .i64 0, .int .i64 0, .int .i64 0, .bool false] 25) (.cells #[.string ⟨#[]⟩, .string ⟨#[]⟩, .int .i64 0, .int .i64 0, .int .i64 0, .int .i64 0, .bool false] 25))
  have hs2 : ((w.alloc (.cells #[.string ⟨#[]⟩, .string ⟨#[]⟩, .int .i64 0, .int .i64 0, .int .i64 0, .int .i64 0, .bool false] 25)).alloc (.cells #[.string ⟨#[]⟩, .string ⟨#[]⟩, .int .i64 0, .int .i64 0, .int .i64 0, .int .i64 0, .bool false] 25)).heap.size = w.heap.size + 2 := by simp only [World.alloc, Array.size_push]
  have HS2 := Lib.hid hs2
  clear hrn e3 hl hs2
  by_cases he : er = 0
  · subst he
    have hn : ((n : Int) != 2) = true := by rw [bne_iff_ne]; omega
    clear h
    go_enter Tryd.func12, Tryd.ntmps12
    go_wp2_with (first | (go_at_call 28; refine (HRN.out _).mono ?_; rintro e w1 ⟨rfl, hb1⟩; have hbw1 := below_tr HB0.out hb1; have hz0 := (hb1.block w.heap.size (by rw [HS2.out]; omega)).trans HZ0.out; have hz1 := (hb1.block (w.heap.size + 1) (by rw [HS2.out]; omega)).trans HZ1.out; obtain ⟨c0, c1, c2, c3, c4, c5, c6⟩ := zcells hz1; obtain ⟨d0, d1, d2, d3, d4, d5, d6⟩ := zcells hz0; obtain ⟨s0, s1, s2, s3, s4, s5, s6⟩ := zself hz0; obtain ⟨f0, f1, f2, f3, f4, f5, f6⟩ := fro7 hz0; have HZW := Lib.hid hz0; clear hz0 hz1))
    refine bodyPost_ret (results_ct rfl _ _ w.heap.size _ _ _ _ rfl HZW.out Tryd.underlying25 rfl (by kernel_rfl)) rfl ?_
    exact ⟨by rw [HE.out]; rfl, hbw1⟩
  · have he0 := errv_pos he
    clear h he
    go_enter Tryd.func12, Tryd.ntmps12
    go_wp2_with (first | (go_at_call 28; refine (HRN.out _).mono ?_; rintro e w1 ⟨rfl, hb1⟩; have hbw1 := below_tr HB0.out hb1; have hz0 := (hb1.block w.heap.size (by rw [HS2.out]; omega)).trans HZ0.out; have hz1 := (hb1.block (w.heap.size + 1) (by rw [HS2.out]; omega)).trans HZ1.out; obtain ⟨c0, c1, c2, c3, c4, c5, c6⟩ := zcells hz1; obtain ⟨d0, d1, d2, d3, d4, d5, d6⟩ := zcells hz0; obtain ⟨s0, s1, s2, s3, s4, s5, s6⟩ := zself hz0; obtain ⟨f0, f1, f2, f3, f4, f5, f6⟩ := fro7 hz0; have HZW := Lib.hid hz0; clear hz0 hz1))
    refine bodyPost_ret (results_ct rfl _ _ w.heap.size _ _ _ _ rfl HZW.out Tryd.underlying25 rfl (by kernel_rfl)) rfl ?_
    exact ⟨by rw [HE.out]; rfl, hbw1⟩

theorem store7 {W : World} {g : Nat} {t : TypeId} (h : W.heap[g]? = some (.cells #[.string ⟨#[]⟩, .string ⟨#[]⟩, .int .i64 0, .int .i64 0, .int .i64 0, .int .i64 0, .bool false] t (0, 0))) (v0 v1 v2 v3 v4 v5 v6 : Value) : (((((((W.setCell ⟨g, 0, none⟩ v0).setCell ⟨g, 1, none⟩ v1).setCell ⟨g, 2, none⟩ v2).setCell ⟨g, 3, none⟩ v3).setCell ⟨g, 4, none⟩ v4).setCell ⟨g, 5, none⟩ v5).setCell ⟨g, 6, none⟩ v6).heap[g]? = some (.cells #[v0, v1, v2, v3, v4, v5, v6] t (0, 0)) := by
  have h0 := heap_setCell_same W g 0 _ _ v0 h
  have h1 := heap_setCell_same _ g 1 _ _ v1 h0
  have h2 := heap_setCell_same _ g 2 _ _ v2 h1
  have h3 := heap_setCell_same _ g 3 _ _ v3 h2
  have h4 := heap_setCell_same _ g 4 _ _ v4 h3
  have h5 := heap_setCell_same _ g 5 _ _ v5 h4
  have h6 := heap_setCell_same _ g 6 _ _ v6 h5
  simpa using h6
/-- the row of the instance when j texts are read -/
def rowT (m : Bs) : Nat → Array Value
  | 0 => #[.string ⟨#[]⟩, .string ⟨#[]⟩, .int .i64 0, .int .i64 0, .int .i64 0, .int .i64 0, .bool false]
  | 1 => #[.string (bs (txt m 0)), .string ⟨#[]⟩, .int .i64 0, .int .i64 0, .int .i64 0, .int .i64 0, .bool false]
  | _ => #[.string (bs (txt m 0)), .string (bs (txt m 1)), .int .i64 0, .int .i64 0, .int .i64 0, .int .i64 0, .bool false]
/-- .. and k numbers -/
def rowN (a b q : Bs) : Nat → Array Value
  | 0 => #[.string (bs a), .string (bs b), .int .i64 0, .int .i64 0, .int .i64 0, .int .i64 0, .bool false]
  | 1 => #[.string (bs a), .string (bs b), .int .i64 (nm q 0 : Nat), .int .i64 0, .int .i64 0, .int .i64 0, .bool false]
  | 2 => #[.string (bs a), .string (bs b), .int .i64 (nm q 0 : Nat), .int .i64 (nm q 1 : Nat), .int .i64 0, .int .i64 0, .bool false]
  | 3 => #[.string (bs a), .string (bs b), .int .i64 (nm q 0 : Nat), .int .i64 (nm q 1 : Nat), .int .i64 (nm q 2 : Nat), .int .i64 0, .bool false]
  | _ => #[.string (bs a), .string (bs b), .int .i64 (nm q 0 : Nat), .int .i64 (nm q 1 : Nat), .int .i64 (nm q 2 : Nat), .int .i64 (nm q 3 : Nat), .bool false]

def InPost (I : Nat × Inst) (e : Ending) : Prop := e = .returned (.tuple #[instV I.2, errv I.1])
theorem inPost_no (I : Nat × Inst) (h : I = (3, noI)) (e3 : errv 3 = .iface 68 (.int .i64 3)) : InPost I (.returned (.tuple #[.agg #[.string ⟨#[]⟩, .string ⟨#[]⟩, .int .i64 0, .int .i64 0, .int .i64 0, .int .i64 0, .bool false], .iface 68 (.int .i64 3)])) := by
  rw [h, InPost, ← e3]; rfl

set_option maxRecDepth 100000 in
set_option maxHeartbeats 4000000 in
theorem inst_main (v : Bs) (w : World) (hl : v.length ≤ 9223372036854775807) (h0 : (readNum v).1 = 0) (h2 : (readNum v).2.1 = 2) (hg : Glob w) :
    Calls Tryd.prog 12 #[.string (bs v)] w fun e w' => InPost (instR v) e ∧ Below w.heap.size w w' := by
  have e3 : errv 3 = .iface 68 (.int .i64 3) := errv_pos (by omega)
  have HE := Lib.hid e3
  have e0 : errv 0 = .nilIface := rfl
  have hq : ∀ w, (Instr.build 25 #[]).run Tryd.prog w = .ok zeroI w := fun _ => by kernel_rfl
  unfold zeroI at hq
  have hrn := fun w => readNum_any v w hl
  have ht := fun (j : Nat) (hj : j < 2) => instR_text (v := v) h0 h2 hj
  have hn := fun h (j : Nat) (hj : j < 5) => instR_num (v := v) h0 h2 h hj
  have he := instR_end (v := v) h0 h2
  have hml := readNum_rest v
  generalize instR v = I at ht hn he ⊢
  generalize readNum v = R at hrn ht hn he h0 h2 hml
  obtain ⟨er, n, m⟩ := R
  simp only at hrn ht hn he h0 h2 hml
  subst h0 h2
  have HRN := Lib.hid hrn
  have HT := Lib.hid ht
  have HN := Lib.hid hn
  have HEND := Lib.hid he
  have HB0 := Lib.hid (below_al (below_al (Below.refl _ w) (.cells #[.string ⟨#[]⟩, .string ⟨#[]⟩, .int .i64 0, .int .i64 0, .int .i64 0, .int .i64 0, .bool false] 25)) (.cells #[.string ⟨#[]⟩, .string ⟨#[]⟩, .int .i64 0, .int .i64 0, .int .i64 0, .int .i64 0, .bool false] 25))
  have HZ0 := Lib.hid (heap_alloc2_old w (.cells #[.string ⟨#[]⟩, .string ⟨#[]⟩, .int .i64 0, .int .i64 0, .int .i64 0, .int .i64 0, .bool false] 25) (.cells #[.string ⟨#[]⟩, .string ⟨#[]⟩, .int .i64 0, .int .i64 0, .int .i64 0, .int .i64 0, .bool false] 25))
  have HZ1 := Lib.hid (heap_alloc2_new w (.cells #[.string ⟨#[]⟩, .string ⟨#[]⟩, .int .i64 0, .int .i64 0, .int .i64 0, .int .i64 0, .bool false] 25) (.cells #[.string ⟨#[]⟩, .string ⟨#[]⟩, .int .i64 0, .int .i64 0, .int .i64 0, .int .i64 0, .bool false] 25))
  have hs2 : ((w.alloc (.cells #[.string ⟨#[]⟩, .string ⟨#[]⟩, .int .i64 0, .int .i64 0, .int .i64 0, .int .i64 0, .bool false] 25)).alloc (.cells #[.string ⟨#[]⟩, .string ⟨#[]⟩, .int .i64 0, .int .i64 0, .int .i64 0, .int .i64 0, .bool false] 25)).heap.size = w.heap.size + 2 := by simp only [World.alloc, Array.size_push]
  have HS2 := Lib.hid hs2
  have HG := Lib.hid hg
  clear hrn e3 ht hn he hs2 hg
  go_enter Tryd.func12, Tryd.ntmps12
  go_wp2_with (first | (go_at_call 28; refine (HRN.out _).mono ?_; rintro e w1 ⟨rfl, hb1⟩; have hbw1 := below_tr HB0.out hb1; have hz0 := (hb1.block w.heap.size (by rw [HS2.out]; omega)).trans HZ0.out; have hz1 := (hb1.block (w.heap.size + 1) (by rw [HS2.out]; omega)).trans HZ1.out; obtain ⟨c0, c1, c2, c3, c4, c5, c6⟩ := zcells hz1; have hsz := hb1.size; rw [HS2.out] at hsz; have HZ0w := Lib.hid hz0; have HZ1w := Lib.hid hz1; clear hz0 hz1))
  clear c0 c1 c2 c3 c4 c5 c6
  go_loopw [6, 36] (fun r i wr => ∃ j : Nat, j ≤ 2 ∧ i = .int .i64 j ∧ r = .string (bs (restT m j)) ∧ okT m j ∧ wr.heap[w1.heap.size]? = some (.cells (rowT m j) 25 (0, 0)) ∧ wr.heap[w1.heap.size + 1]? = some (.cells #[.pointer (some ⟨w1.heap.size, 0, none⟩), .pointer (some ⟨w1.heap.size, 1, none⟩)] 69) ∧ Below w1.heap.size w1 wr) (fun _ i _ => 2 - (intOf i).toNat)
  case atStart =>
    refine ⟨0, Nat.zero_le _, rfl, ?_, okT_zero m, ?_, ?_, below_al (below_al (Below.refl _ _) _) _⟩
    · unfold restT; rfl
    · exact heap_alloc2_old w1 _ _
    · exact heap_alloc2_new w1 _ _
  case round =>
    obtain ⟨j, hj, rfl, rfl, hok, hrow, hptr, hbr⟩ := hrel
    have hz0 := (hbr.block w.heap.size (by omega)).trans HZ0w.out
    have hz1 := (hbr.block (w.heap.size + 1) (by omega)).trans HZ1w.out
    by_cases hlt : j < 2
    · have hrt := fun w => readText_any (restT m j) w (by have := restT_len m j; omega)
      have htx : (readText (restT m j)).2.1 = txt m j := by unfold txt; rfl
      have hrs : (readText (restT m j)).2.2 = restT m (j + 1) := by rw [restT]
      have hfail := HT.out j hlt
      have hsucc := okT_succ hok
      rw [htx, hrs] at hrt
      generalize (readText (restT m j)).1 = er at hrt hfail hsucc
      have HRT := Lib.hid hrt
      have hcase : j = 0 ∨ j = 1 := by omega
      clear hrt htx hrs
      have hlp : w1.heap.size + 1 < wr.heap.size := (Array.getElem?_eq_some_iff.1 hptr).1
      have hlx : w1.heap.size < wr.heap.size := by omega
      have hne0 : ¬ w.heap.size = w1.heap.size := by omega
      have hne1 : ¬ w.heap.size + 1 = w1.heap.size := by omega
      have HPTR := Lib.hid hptr
      clear hptr
      rcases hcase with hj0 | hj0
      · subst hj0
        have pc := (cell_of_row wr (w1.heap.size + 1) 0 _ _ _ HPTR.out).trans (show _ = some (Value.pointer (some ⟨w1.heap.size, 0, none⟩)) from rfl)
        by_cases he : er = 0
        · subst he
          have HS := Lib.hid (hsucc rfl)
          clear hfail hsucc
          go_wp2_with (first | (go_at_call 29; refine (HRT.out _).mono ?_; rintro e w2 ⟨rfl, hb2⟩; have hrow2 := (hb2.block w1.heap.size hlx).trans hrow; have hz02 := (hb2.block w.heap.size (by omega)).trans hz0; have hz12 := (hb2.block (w.heap.size + 1) (by omega)).trans hz1; have hp2 := (hb2.block (w1.heap.size + 1) hlp).trans HPTR.out; have x0 := (cell_of_row w2 w1.heap.size 0 _ _ _ hrow2).trans (show _ = some (Value.string ⟨#[]⟩) from rfl); have y0 := frozen_of_row w2 w1.heap.size 0 _ _ hrow2; have hst := heap_setCell_same w2 w1.heap.size 0 _ _ (.string (bs (txt m 0))) hrow2; have hst0 := (heap_setCell_other w2 ⟨w1.heap.size, 0, none⟩ w.heap.size (.string (bs (txt m 0))) (by simp; omega)).trans hz02; have hst1 := (heap_setCell_other w2 ⟨w1.heap.size, 0, none⟩ (w.heap.size + 1) (.string (bs (txt m 0))) (by simp; omega)).trans hz12; have hstp := (heap_setCell_other w2 ⟨w1.heap.size, 0, none⟩ (w1.heap.size + 1) (.string (bs (txt m 0))) (by simp)).trans hp2; have HST := Lib.hid hst; have HST0 := Lib.hid hst0; have HSTP := Lib.hid hstp; obtain ⟨c0, c1, c2, c3, c4, c5, c6⟩ := zcells hz12; obtain ⟨d0, d1, d2, d3, d4, d5, d6⟩ := zcells hz02; obtain ⟨f0, f1, f2, f3, f4, f5, f6⟩ := fro7 hz02; obtain ⟨s0, s1, s2, s3, s4, s5, s6⟩ := zself hst0; have hbw2 := hbr.trans (hb2.mono (Nat.le_trans (Nat.le_refl _) hbr.size)); clear hrow2 hz02 hz12 hp2 hst hst0 hst1 hstp))
          go_roundw
          case rel => exact ⟨1, by omega, by go_num, rfl, HS.out, HST.out, HSTP.out, hbw2.setCell (p := ⟨w1.heap.size, 0, none⟩) (Nat.le_refl _) _⟩
          case measure => simp [intOf]
        · have hF := inPost_no I (hfail he) HE.out
          have HF := Lib.hid hF
          have he0 := errv_pos he
          clear hfail hsucc hF he
          go_wp2_with (first | (go_at_call 29; refine (HRT.out _).mono ?_; rintro e w2 ⟨rfl, hb2⟩; have hrow2 := (hb2.block w1.heap.size hlx).trans hrow; have hz02 := (hb2.block w.heap.size (by omega)).trans hz0; have hz12 := (hb2.block (w.heap.size + 1) (by omega)).trans hz1; have hp2 := (hb2.block (w1.heap.size + 1) hlp).trans HPTR.out; have x0 := (cell_of_row w2 w1.heap.size 0 _ _ _ hrow2).trans (show _ = some (Value.string ⟨#[]⟩) from rfl); have y0 := frozen_of_row w2 w1.heap.size 0 _ _ hrow2; have hst := heap_setCell_same w2 w1.heap.size 0 _ _ (.string (bs (txt m 0))) hrow2; have hst0 := (heap_setCell_other w2 ⟨w1.heap.size, 0, none⟩ w.heap.size (.string (bs (txt m 0))) (by simp; omega)).trans hz02; have hst1 := (heap_setCell_other w2 ⟨w1.heap.size, 0, none⟩ (w.heap.size + 1) (.string (bs (txt m 0))) (by simp; omega)).trans hz12; have hstp := (heap_setCell_other w2 ⟨w1.heap.size, 0, none⟩ (w1.heap.size + 1) (.string (bs (txt m 0))) (by simp)).trans hp2; have HST := Lib.hid hst; have HST0 := Lib.hid hst0; have HSTP := Lib.hid hstp; obtain ⟨c0, c1, c2, c3, c4, c5, c6⟩ := zcells hz12; obtain ⟨d0, d1, d2, d3, d4, d5, d6⟩ := zcells hz02; obtain ⟨f0, f1, f2, f3, f4, f5, f6⟩ := fro7 hz02; obtain ⟨s0, s1, s2, s3, s4, s5, s6⟩ := zself hst0; have hbw2 := hbr.trans (hb2.mono (Nat.le_trans (Nat.le_refl _) hbr.size)); clear hrow2 hz02 hz12 hp2 hst hst0 hst1 hstp))
          refine bodyPost_ret (results_ct rfl _ _ w.heap.size _ _ _ _ rfl HST0.out Tryd.underlying25 rfl (by kernel_rfl)) rfl ?_
          exact ⟨HF.out, hbw1.trans ((hbw2.setCell (p := ⟨w1.heap.size, 0, none⟩) (Nat.le_refl _) _).mono (by omega))⟩
      · subst hj0
        have pc := (cell_of_row wr (w1.heap.size + 1) 1 _ _ _ HPTR.out).trans (show _ = some (Value.pointer (some ⟨w1.heap.size, 1, none⟩)) from rfl)
        by_cases he : er = 0
        · subst he
          have HS := Lib.hid (hsucc rfl)
          clear hfail hsucc
          go_wp2_with (first | (go_at_call 29; refine (HRT.out _).mono ?_; rintro e w2 ⟨rfl, hb2⟩; have hrow2 := (hb2.block w1.heap.size hlx).trans hrow; have hz02 := (hb2.block w.heap.size (by omega)).trans hz0; have hz12 := (hb2.block (w.heap.size + 1) (by omega)).trans hz1; have hp2 := (hb2.block (w1.heap.size + 1) hlp).trans HPTR.out; have x0 := (cell_of_row w2 w1.heap.size 1 _ _ _ hrow2).trans (show _ = some (Value.string ⟨#[]⟩) from rfl); have y0 := frozen_of_row w2 w1.heap.size 1 _ _ hrow2; have hst := heap_setCell_same w2 w1.heap.size 1 _ _ (.string (bs (txt m 1))) hrow2; have hst0 := (heap_setCell_other w2 ⟨w1.heap.size, 1, none⟩ w.heap.size (.string (bs (txt m 1))) (by simp; omega)).trans hz02; have hst1 := (heap_setCell_other w2 ⟨w1.heap.size, 1, none⟩ (w.heap.size + 1) (.string (bs (txt m 1))) (by simp; omega)).trans hz12; have hstp := (heap_setCell_other w2 ⟨w1.heap.size, 1, none⟩ (w1.heap.size + 1) (.string (bs (txt m 1))) (by simp)).trans hp2; have HST := Lib.hid hst; have HST0 := Lib.hid hst0; have HSTP := Lib.hid hstp; obtain ⟨c0, c1, c2, c3, c4, c5, c6⟩ := zcells hz12; obtain ⟨d0, d1, d2, d3, d4, d5, d6⟩ := zcells hz02; obtain ⟨f0, f1, f2, f3, f4, f5, f6⟩ := fro7 hz02; obtain ⟨s0, s1, s2, s3, s4, s5, s6⟩ := zself hst0; have hbw2 := hbr.trans (hb2.mono (Nat.le_trans (Nat.le_refl _) hbr.size)); clear hrow2 hz02 hz12 hp2 hst hst0 hst1 hstp))
          go_roundw
          case rel => exact ⟨2, by omega, by go_num, rfl, HS.out, HST.out, HSTP.out, hbw2.setCell (p := ⟨w1.heap.size, 1, none⟩) (Nat.le_refl _) _⟩
          case measure => simp [intOf]
        · have hF := inPost_no I (hfail he) HE.out
          have HF := Lib.hid hF
          have he0 := errv_pos he
          clear hfail hsucc hF he
          go_wp2_with (first | (go_at_call 29; refine (HRT.out _).mono ?_; rintro e w2 ⟨rfl, hb2⟩; have hrow2 := (hb2.block w1.heap.size hlx).trans hrow; have hz02 := (hb2.block w.heap.size (by omega)).trans hz0; have hz12 := (hb2.block (w.heap.size + 1) (by omega)).trans hz1; have hp2 := (hb2.block (w1.heap.size + 1) hlp).trans HPTR.out; have x0 := (cell_of_row w2 w1.heap.size 1 _ _ _ hrow2).trans (show _ = some (Value.string ⟨#[]⟩) from rfl); have y0 := frozen_of_row w2 w1.heap.size 1 _ _ hrow2; have hst := heap_setCell_same w2 w1.heap.size 1 _ _ (.string (bs (txt m 1))) hrow2; have hst0 := (heap_setCell_other w2 ⟨w1.heap.size, 1, none⟩ w.heap.size (.string (bs (txt m 1))) (by simp; omega)).trans hz02; have hst1 := (heap_setCell_other w2 ⟨w1.heap.size, 1, none⟩ (w.heap.size + 1) (.string (bs (txt m 1))) (by simp; omega)).trans hz12; have hstp := (heap_setCell_other w2 ⟨w1.heap.size, 1, none⟩ (w1.heap.size + 1) (.string (bs (txt m 1))) (by simp)).trans hp2; have HST := Lib.hid hst; have HST0 := Lib.hid hst0; have HSTP := Lib.hid hstp; obtain ⟨c0, c1, c2, c3, c4, c5, c6⟩ := zcells hz12; obtain ⟨d0, d1, d2, d3, d4, d5, d6⟩ := zcells hz02; obtain ⟨f0, f1, f2, f3, f4, f5, f6⟩ := fro7 hz02; obtain ⟨s0, s1, s2, s3, s4, s5, s6⟩ := zself hst0; have hbw2 := hbr.trans (hb2.mono (Nat.le_trans (Nat.le_refl _) hbr.size)); clear hrow2 hz02 hz12 hp2 hst hst0 hst1 hstp))
          refine bodyPost_ret (results_ct rfl _ _ w.heap.size _ _ _ _ rfl HST0.out Tryd.underlying25 rfl (by kernel_rfl)) rfl ?_
          exact ⟨HF.out, hbw1.trans ((hbw2.setCell (p := ⟨w1.heap.size, 1, none⟩) (Nat.le_refl _) _).mono (by omega))⟩
    · obtain rfl : j = 2 := by omega
      have hfail2 := HN.out hok
      have hend2 := HEND.out hok
      have hrowq : wr.heap[w1.heap.size]? = some (.cells (rowN (txt m 0) (txt m 1) (restT m 2) 0) 25 (0, 0)) := hrow
      have hla := txt_len m 0
      have hlb := txt_len m 1
      have hlq := restT_len m 2
      obtain ⟨wo, rfl⟩ : ∃ W, W = wr := ⟨_, rfl⟩
      generalize txt m 0 = a at hend2 hrowq hla
      generalize txt m 1 = b at hend2 hrowq hlb
      generalize restT m 2 = q at hfail2 hend2 hrowq hlq ⊢
      have hlp0 : w1.heap.size + 1 < wo.heap.size := (Array.getElem?_eq_some_iff.1 hptr).1
      have HFAIL := Lib.hid hfail2
      have HEND2 := Lib.hid hend2
      have HROWQ := Lib.hid hrowq
      have HZA := Lib.hid hz0
      have HZB := Lib.hid hz1
      have HBO := Lib.hid hbr
      clear hok hfail2 hend2 hrow hrowq hptr hz0 hz1 HT HN HEND hbr
      go_wp2
      try rw [show (((2 : Nat) : Int)) = 2 from rfl]
      go_loopw [6, 59] (fun r i wr => ∃ k : Nat, k ≤ 5 ∧ i = .int .i64 k ∧ r = .string (bs (restN q k)) ∧ okN q k ∧ wr.heap[w1.heap.size]? = some (.cells (rowN a b q k) 25 (0, 0)) ∧ wr.heap[wo.heap.size]? = some (.cells #[.int .i64 ((if k = 5 then nm q 4 else 0 : Nat) : Int)] 3 (0, 0)) ∧ wr.heap[wo.heap.size + 1]? = some (.cells #[.pointer (some ⟨w1.heap.size, 2, none⟩), .pointer (some ⟨w1.heap.size, 3, none⟩), .pointer (some ⟨w1.heap.size, 4, none⟩), .pointer (some ⟨w1.heap.size, 5, none⟩), .pointer (some ⟨wo.heap.size, 0, none⟩)] 73) ∧ Below w1.heap.size w1 wr) (fun _ i _ => 5 - (intOf i).toNat)
      case atStart =>
        refine ⟨0, Nat.zero_le _, rfl, ?_, okN_zero q, ?_, ?_, ?_, below_al (below_al HBO.out _) _⟩
        · unfold restN; rfl
        · rw [heap_alloc_old _ _ (by simp; omega), heap_alloc_old _ _ (by omega)]; exact HROWQ.out
        · exact heap_alloc2_old wo _ _
        · exact heap_alloc2_new wo _ _
      case round =>
        obtain ⟨k, hk, rfl, rfl, hok, hrow, hout, hptr, hbr⟩ := hrel
        have hz0 := (hbr.block w.heap.size (by omega)).trans HZ0w.out
        have hz1 := (hbr.block (w.heap.size + 1) (by omega)).trans HZ1w.out
        have hlp : wo.heap.size + 1 < wr.heap.size := (Array.getElem?_eq_some_iff.1 hptr).1
        have hlo : wo.heap.size < wr.heap.size := by omega
        have hlx : w1.heap.size < wr.heap.size := by omega
        have hxo : w1.heap.size < wo.heap.size := by omega
        have hne0 : ¬ w.heap.size = w1.heap.size := by omega
        have hne1 : ¬ w.heap.size + 1 = w1.heap.size := by omega
        have hne2 : ¬ w.heap.size = wo.heap.size := by omega
        have hne3 : ¬ w.heap.size + 1 = wo.heap.size := by omega
        have HPTR := Lib.hid hptr
        clear hptr
        by_cases hlt : k < 5
        · have hrt := fun w => readNum_any (restN q k) w (by have := restN_len q k; omega)
          have htx : (readNum (restN q k)).2.1 = nm q k := by unfold nm; rfl
          have hrs : (readNum (restN q k)).2.2 = restN q (k + 1) := by rw [restN]
          have hfail := HFAIL.out k hlt
          have hsucc := okN_succ hok
          rw [htx, hrs] at hrt
          generalize (readNum (restN q k)).1 = er at hrt hfail hsucc
          have HRD := Lib.hid hrt
          have hcase : k = 0 ∨ k = 1 ∨ k = 2 ∨ k = 3 ∨ k = 4 := by omega
          clear hrt htx hrs
          rcases hcase with hk0 | hk0 | hk0 | hk0 | hk0
          · subst hk0
            have pc := (cell_of_row wr (wo.heap.size + 1) 0 _ _ _ HPTR.out).trans (show _ = some (Value.pointer (some ⟨w1.heap.size, 2, none⟩)) from rfl)
            by_cases he : er = 0
            · subst he
              have HS := Lib.hid (hsucc rfl)
              clear hfail hsucc
              go_wp2_with (first | (go_at_call 28; refine (HRD.out _).mono ?_; rintro e w2 ⟨rfl, hb2⟩; have hrow2 := (hb2.block w1.heap.size hlx).trans hrow; have hoth2 := (hb2.block wo.heap.size hlo).trans hout; have hz02 := (hb2.block w.heap.size (by omega)).trans hz0; have hz12 := (hb2.block (w.heap.size + 1) (by omega)).trans hz1; have hp2 := (hb2.block (wo.heap.size + 1) hlp).trans HPTR.out; have x0 := (cell_of_row w2 w1.heap.size 2 _ _ _ hrow2).trans (show _ = some (Value.int .i64 0) from rfl); have y0 := frozen_of_row w2 w1.heap.size 2 _ _ hrow2; have hst := heap_setCell_same w2 w1.heap.size 2 _ _ (.int .i64 (nm q 0 : Nat)) hrow2; have hsto := (heap_setCell_other w2 ⟨w1.heap.size, 2, none⟩ wo.heap.size (.int .i64 (nm q 0 : Nat)) (by simp; omega)).trans hoth2; have hst0 := (heap_setCell_other w2 ⟨w1.heap.size, 2, none⟩ w.heap.size (.int .i64 (nm q 0 : Nat)) (by simp; omega)).trans hz02; have hstp := (heap_setCell_other w2 ⟨w1.heap.size, 2, none⟩ (wo.heap.size + 1) (.int .i64 (nm q 0 : Nat)) (by simp; omega)).trans hp2; have HST := Lib.hid hst; have HSTO := Lib.hid hsto; have HST0 := Lib.hid hst0; have HSTP := Lib.hid hstp; obtain ⟨c0, c1, c2, c3, c4, c5, c6⟩ := zcells hz12; obtain ⟨d0, d1, d2, d3, d4, d5, d6⟩ := zcells hz02; obtain ⟨f0, f1, f2, f3, f4, f5, f6⟩ := fro7 hz02; obtain ⟨s0, s1, s2, s3, s4, s5, s6⟩ := zself hst0; have hbw2 := hbr.trans (hb2.mono (by omega)); clear hrow2 hz02 hz12 hp2 hst hst0 hstp hsto hoth2))
              go_roundw
              case rel => exact ⟨1, by omega, by go_num, rfl, HS.out, HST.out, HSTO.out, HSTP.out, hbw2.setCell (p := ⟨w1.heap.size, 2, none⟩) (Nat.le_refl _) _⟩
              case measure => simp [intOf]
            · have hF := inPost_no I (hfail he) HE.out
              have HF := Lib.hid hF
              have he0 := errv_pos he
              clear hfail hsucc hF he
              go_wp2_with (first | (go_at_call 28; refine (HRD.out _).mono ?_; rintro e w2 ⟨rfl, hb2⟩; have hrow2 := (hb2.block w1.heap.size hlx).trans hrow; have hoth2 := (hb2.block wo.heap.size hlo).trans hout; have hz02 := (hb2.block w.heap.size (by omega)).trans hz0; have hz12 := (hb2.block (w.heap.size + 1) (by omega)).trans hz1; have hp2 := (hb2.block (wo.heap.size + 1) hlp).trans HPTR.out; have x0 := (cell_of_row w2 w1.heap.size 2 _ _ _ hrow2).trans (show _ = some (Value.int .i64 0) from rfl); have y0 := frozen_of_row w2 w1.heap.size 2 _ _ hrow2; have hst := heap_setCell_same w2 w1.heap.size 2 _ _ (.int .i64 (nm q 0 : Nat)) hrow2; have hsto := (heap_setCell_other w2 ⟨w1.heap.size, 2, none⟩ wo.heap.size (.int .i64 (nm q 0 : Nat)) (by simp; omega)).trans hoth2; have hst0 := (heap_setCell_other w2 ⟨w1.heap.size, 2, none⟩ w.heap.size (.int .i64 (nm q 0 : Nat)) (by simp; omega)).trans hz02; have hstp := (heap_setCell_other w2 ⟨w1.heap.size, 2, none⟩ (wo.heap.size + 1) (.int .i64 (nm q 0 : Nat)) (by simp; omega)).trans hp2; have HST := Lib.hid hst; have HSTO := Lib.hid hsto; have HST0 := Lib.hid hst0; have HSTP := Lib.hid hstp; obtain ⟨c0, c1, c2, c3, c4, c5, c6⟩ := zcells hz12; obtain ⟨d0, d1, d2, d3, d4, d5, d6⟩ := zcells hz02; obtain ⟨f0, f1, f2, f3, f4, f5, f6⟩ := fro7 hz02; obtain ⟨s0, s1, s2, s3, s4, s5, s6⟩ := zself hst0; have hbw2 := hbr.trans (hb2.mono (by omega)); clear hrow2 hz02 hz12 hp2 hst hst0 hstp hsto hoth2))
              refine bodyPost_ret (results_ct rfl _ _ w.heap.size _ _ _ _ rfl HST0.out Tryd.underlying25 rfl (by kernel_rfl)) rfl ?_
              exact ⟨HF.out, hbw1.trans ((hbw2.setCell (p := ⟨w1.heap.size, 2, none⟩) (Nat.le_refl _) _).mono (by omega))⟩
          · subst hk0
            have pc := (cell_of_row wr (wo.heap.size + 1) 1 _ _ _ HPTR.out).trans (show _ = some (Value.pointer (some ⟨w1.heap.size, 3, none⟩)) from rfl)
            by_cases he : er = 0
            · subst he
              have HS := Lib.hid (hsucc rfl)
              clear hfail hsucc
              go_wp2_with (first | (go_at_call 28; refine (HRD.out _).mono ?_; rintro e w2 ⟨rfl, hb2⟩; have hrow2 := (hb2.block w1.heap.size hlx).trans hrow; have hoth2 := (hb2.block wo.heap.size hlo).trans hout; have hz02 := (hb2.block w.heap.size (by omega)).trans hz0; have hz12 := (hb2.block (w.heap.size + 1) (by omega)).trans hz1; have hp2 := (hb2.block (wo.heap.size + 1) hlp).trans HPTR.out; have x0 := (cell_of_row w2 w1.heap.size 3 _ _ _ hrow2).trans (show _ = some (Value.int .i64 0) from rfl); have y0 := frozen_of_row w2 w1.heap.size 3 _ _ hrow2; have hst := heap_setCell_same w2 w1.heap.size 3 _ _ (.int .i64 (nm q 1 : Nat)) hrow2; have hsto := (heap_setCell_other w2 ⟨w1.heap.size, 3, none⟩ wo.heap.size (.int .i64 (nm q 1 : Nat)) (by simp; omega)).trans hoth2; have hst0 := (heap_setCell_other w2 ⟨w1.heap.size, 3, none⟩ w.heap.size (.int .i64 (nm q 1 : Nat)) (by simp; omega)).trans hz02; have hstp := (heap_setCell_other w2 ⟨w1.heap.size, 3, none⟩ (wo.heap.size + 1) (.int .i64 (nm q 1 : Nat)) (by simp; omega)).trans hp2; have HST := Lib.hid hst; have HSTO := Lib.hid hsto; have HST0 := Lib.hid hst0; have HSTP := Lib.hid hstp; obtain ⟨c0, c1, c2, c3, c4, c5, c6⟩ := zcells hz12; obtain ⟨d0, d1, d2, d3, d4, d5, d6⟩ := zcells hz02; obtain ⟨f0, f1, f2, f3, f4, f5, f6⟩ := fro7 hz02; obtain ⟨s0, s1, s2, s3, s4, s5, s6⟩ := zself hst0; have hbw2 := hbr.trans (hb2.mono (by omega)); clear hrow2 hz02 hz12 hp2 hst hst0 hstp hsto hoth2))
              go_roundw
              case rel => exact ⟨2, by omega, by go_num, rfl, HS.out, HST.out, HSTO.out, HSTP.out, hbw2.setCell (p := ⟨w1.heap.size, 3, none⟩) (Nat.le_refl _) _⟩
              case measure => simp [intOf]
            · have hF := inPost_no I (hfail he) HE.out
              have HF := Lib.hid hF
              have he0 := errv_pos he
              clear hfail hsucc hF he
              go_wp2_with (first | (go_at_call 28; refine (HRD.out _).mono ?_; rintro e w2 ⟨rfl, hb2⟩; have hrow2 := (hb2.block w1.heap.size hlx).trans hrow; have hoth2 := (hb2.block wo.heap.size hlo).trans hout; have hz02 := (hb2.block w.heap.size (by omega)).trans hz0; have hz12 := (hb2.block (w.heap.size + 1) (by omega)).trans hz1; have hp2 := (hb2.block (wo.heap.size + 1) hlp).trans HPTR.out; have x0 := (cell_of_row w2 w1.heap.size 3 _ _ _ hrow2).trans (show _ = some (Value.int .i64 0) from rfl); have y0 := frozen_of_row w2 w1.heap.size 3 _ _ hrow2; have hst := heap_setCell_same w2 w1.heap.size 3 _ _ (.int .i64 (nm q 1 : Nat)) hrow2; have hsto := (heap_setCell_other w2 ⟨w1.heap.size, 3, none⟩ wo.heap.size (.int .i64 (nm q 1 : Nat)) (by simp; omega)).trans hoth2; have hst0 := (heap_setCell_other w2 ⟨w1.heap.size, 3, none⟩ w.heap.size (.int .i64 (nm q 1 : Nat)) (by simp; omega)).trans hz02; have hstp := (heap_setCell_other w2 ⟨w1.heap.size, 3, none⟩ (wo.heap.size + 1) (.int .i64 (nm q 1 : Nat)) (by simp; omega)).trans hp2; have HST := Lib.hid hst; have HSTO := Lib.hid hsto; have HST0 := Lib.hid hst0; have HSTP := Lib.hid hstp; obtain ⟨c0, c1, c2, c3, c4, c5, c6⟩ := zcells hz12; obtain ⟨d0, d1, d2, d3, d4, d5, d6⟩ := zcells hz02; obtain ⟨f0, f1, f2, f3, f4, f5, f6⟩ := fro7 hz02; obtain ⟨s0, s1, s2, s3, s4, s5, s6⟩ := zself hst0; have hbw2 := hbr.trans (hb2.mono (by omega)); clear hrow2 hz02 hz12 hp2 hst hst0 hstp hsto hoth2))
              refine bodyPost_ret (results_ct rfl _ _ w.heap.size _ _ _ _ rfl HST0.out Tryd.underlying25 rfl (by kernel_rfl)) rfl ?_
              exact ⟨HF.out, hbw1.trans ((hbw2.setCell (p := ⟨w1.heap.size, 3, none⟩) (Nat.le_refl _) _).mono (by omega))⟩
          · subst hk0
            have pc := (cell_of_row wr (wo.heap.size + 1) 2 _ _ _ HPTR.out).trans (show _ = some (Value.pointer (some ⟨w1.heap.size, 4, none⟩)) from rfl)
            by_cases he : er = 0
            · subst he
              have HS := Lib.hid (hsucc rfl)
              clear hfail hsucc
              go_wp2_with (first | (go_at_call 28; refine (HRD.out _).mono ?_; rintro e w2 ⟨rfl, hb2⟩; have hrow2 := (hb2.block w1.heap.size hlx).trans hrow; have hoth2 := (hb2.block wo.heap.size hlo).trans hout; have hz02 := (hb2.block w.heap.size (by omega)).trans hz0; have hz12 := (hb2.block (w.heap.size + 1) (by omega)).trans hz1; have hp2 := (hb2.block (wo.heap.size + 1) hlp).trans HPTR.out; have x0 := (cell_of_row w2 w1.heap.size 4 _ _ _ hrow2).trans (show _ = some (Value.int .i64 0) from rfl); have y0 := frozen_of_row w2 w1.heap.size 4 _ _ hrow2; have hst := heap_setCell_same w2 w1.heap.size 4 _ _ (.int .i64 (nm q 2 : Nat)) hrow2; have hsto := (heap_setCell_other w2 ⟨w1.heap.size, 4, none⟩ wo.heap.size (.int .i64 (nm q 2 : Nat)) (by simp; omega)).trans hoth2; have hst0 := (heap_setCell_other w2 ⟨w1.heap.size, 4, none⟩ w.heap.size (.int .i64 (nm q 2 : Nat)) (by simp; omega)).trans hz02; have hstp := (heap_setCell_other w2 ⟨w1.heap.size, 4, none⟩ (wo.heap.size + 1) (.int .i64 (nm q 2 : Nat)) (by simp; omega)).trans hp2; have HST := Lib.hid hst; have HSTO := Lib.hid hsto; have HST0 := Lib.hid hst0; have HSTP := Lib.hid hstp; obtain ⟨c0, c1, c2, c3, c4, c5, c6⟩ := zcells hz12; obtain ⟨d0, d1, d2, d3, d4, d5, d6⟩ := zcells hz02; obtain ⟨f0, f1, f2, f3, f4, f5, f6⟩ := fro7 hz02; obtain ⟨s0, s1, s2, s3, s4, s5, s6⟩ := zself hst0; have hbw2 := hbr.trans (hb2.mono (by omega)); clear hrow2 hz02 hz12 hp2 hst hst0 hstp hsto hoth2))
              go_roundw
              case rel => exact ⟨3, by omega, by go_num, rfl, HS.out, HST.out, HSTO.out, HSTP.out, hbw2.setCell (p := ⟨w1.heap.size, 4, none⟩) (Nat.le_refl _) _⟩
              case measure => simp [intOf]
            · have hF := inPost_no I (hfail he) HE.out
              have HF := Lib.hid hF
              have he0 := errv_pos he
              clear hfail hsucc hF he
              go_wp2_with (first | (go_at_call 28; refine (HRD.out _).mono ?_; rintro e w2 ⟨rfl, hb2⟩; have hrow2 := (hb2.block w1.heap.size hlx).trans hrow; have hoth2 := (hb2.block wo.heap.size hlo).trans hout; have hz02 := (hb2.block w.heap.size (by omega)).trans hz0; have hz12 := (hb2.block (w.heap.size + 1) (by omega)).trans hz1; have hp2 := (hb2.block (wo.heap.size + 1) hlp).trans HPTR.out; have x0 := (cell_of_row w2 w1.heap.size 4 _ _ _ hrow2).trans (show _ = some (Value.int .i64 0) from rfl); have y0 := frozen_of_row w2 w1.heap.size 4 _ _ hrow2; have hst := heap_setCell_same w2 w1.heap.size 4 _ _ (.int .i64 (nm q 2 : Nat)) hrow2; have hsto := (heap_setCell_other w2 ⟨w1.heap.size, 4, none⟩ wo.heap.size (.int .i64 (nm q 2 : Nat)) (by simp; omega)).trans hoth2; have hst0 := (heap_setCell_other w2 ⟨w1.heap.size, 4, none⟩ w.heap.size (.int .i64 (nm q 2 : Nat)) (by simp; omega)).trans hz02; have hstp := (heap_setCell_other w2 ⟨w1.heap.size, 4, none⟩ (wo.heap.size + 1) (.int .i64 (nm q 2 : Nat)) (by simp; omega)).trans hp2; have HST := Lib.hid hst; have HSTO := Lib.hid hsto; have HST0 := Lib.hid hst0; have HSTP := Lib.hid hstp; obtain ⟨c0, c1, c2, c3, c4, c5, c6⟩ := zcells hz12; obtain ⟨d0, d1, d2, d3, d4, d5, d6⟩ := zcells hz02; obtain ⟨f0, f1, f2, f3, f4, f5, f6⟩ := fro7 hz02; obtain ⟨s0, s1, s2, s3, s4, s5, s6⟩ := zself hst0; have hbw2 := hbr.trans (hb2.mono (by omega)); clear hrow2 hz02 hz12 hp2 hst hst0 hstp hsto hoth2))
              refine bodyPost_ret (results_ct rfl _ _ w.heap.size _ _ _ _ rfl HST0.out Tryd.underlying25 rfl (by kernel_rfl)) rfl ?_
              exact ⟨HF.out, hbw1.trans ((hbw2.setCell (p := ⟨w1.heap.size, 4, none⟩) (Nat.le_refl _) _).mono (by omega))⟩
          · subst hk0
            have pc := (cell_of_row wr (wo.heap.size + 1) 3 _ _ _ HPTR.out).trans (show _ = some (Value.pointer (some ⟨w1.heap.size, 5, none⟩)) from rfl)
            by_cases he : er = 0
            · subst he
              have HS := Lib.hid (hsucc rfl)
              clear hfail hsucc
              go_wp2_with (first | (go_at_call 28; refine (HRD.out _).mono ?_; rintro e w2 ⟨rfl, hb2⟩; have hrow2 := (hb2.block w1.heap.size hlx).trans hrow; have hoth2 := (hb2.block wo.heap.size hlo).trans hout; have hz02 := (hb2.block w.heap.size (by omega)).trans hz0; have hz12 := (hb2.block (w.heap.size + 1) (by omega)).trans hz1; have hp2 := (hb2.block (wo.heap.size + 1) hlp).trans HPTR.out; have x0 := (cell_of_row w2 w1.heap.size 5 _ _ _ hrow2).trans (show _ = some (Value.int .i64 0) from rfl); have y0 := frozen_of_row w2 w1.heap.size 5 _ _ hrow2; have hst := heap_setCell_same w2 w1.heap.size 5 _ _ (.int .i64 (nm q 3 : Nat)) hrow2; have hsto := (heap_setCell_other w2 ⟨w1.heap.size, 5, none⟩ wo.heap.size (.int .i64 (nm q 3 : Nat)) (by simp; omega)).trans hoth2; have hst0 := (heap_setCell_other w2 ⟨w1.heap.size, 5, none⟩ w.heap.size (.int .i64 (nm q 3 : Nat)) (by simp; omega)).trans hz02; have hstp := (heap_setCell_other w2 ⟨w1.heap.size, 5, none⟩ (wo.heap.size + 1) (.int .i64 (nm q 3 : Nat)) (by simp; omega)).trans hp2; have HST := Lib.hid hst; have HSTO := Lib.hid hsto; have HST0 := Lib.hid hst0; have HSTP := Lib.hid hstp; obtain ⟨c0, c1, c2, c3, c4, c5, c6⟩ := zcells hz12; obtain ⟨d0, d1, d2, d3, d4, d5, d6⟩ := zcells hz02; obtain ⟨f0, f1, f2, f3, f4, f5, f6⟩ := fro7 hz02; obtain ⟨s0, s1, s2, s3, s4, s5, s6⟩ := zself hst0; have hbw2 := hbr.trans (hb2.mono (by omega)); clear hrow2 hz02 hz12 hp2 hst hst0 hstp hsto hoth2))
              go_roundw
              case rel => exact ⟨4, by omega, by go_num, rfl, HS.out, HST.out, HSTO.out, HSTP.out, hbw2.setCell (p := ⟨w1.heap.size, 5, none⟩) (Nat.le_refl _) _⟩
              case measure => simp [intOf]
            · have hF := inPost_no I (hfail he) HE.out
              have HF := Lib.hid hF
              have he0 := errv_pos he
              clear hfail hsucc hF he
              go_wp2_with (first | (go_at_call 28; refine (HRD.out _).mono ?_; rintro e w2 ⟨rfl, hb2⟩; have hrow2 := (hb2.block w1.heap.size hlx).trans hrow; have hoth2 := (hb2.block wo.heap.size hlo).trans hout; have hz02 := (hb2.block w.heap.size (by omega)).trans hz0; have hz12 := (hb2.block (w.heap.size + 1) (by omega)).trans hz1; have hp2 := (hb2.block (wo.heap.size + 1) hlp).trans HPTR.out; have x0 := (cell_of_row w2 w1.heap.size 5 _ _ _ hrow2).trans (show _ = some (Value.int .i64 0) from rfl); have y0 := frozen_of_row w2 w1.heap.size 5 _ _ hrow2; have hst := heap_setCell_same w2 w1.heap.size 5 _ _ (.int .i64 (nm q 3 : Nat)) hrow2; have hsto := (heap_setCell_other w2 ⟨w1.heap.size, 5, none⟩ wo.heap.size (.int .i64 (nm q 3 : Nat)) (by simp; omega)).trans hoth2; have hst0 := (heap_setCell_other w2 ⟨w1.heap.size, 5, none⟩ w.heap.size (.int .i64 (nm q 3 : Nat)) (by simp; omega)).trans hz02; have hstp := (heap_setCell_other w2 ⟨w1.heap.size, 5, none⟩ (wo.heap.size + 1) (.int .i64 (nm q 3 : Nat)) (by simp; omega)).trans hp2; have HST := Lib.hid hst; have HSTO := Lib.hid hsto; have HST0 := Lib.hid hst0; have HSTP := Lib.hid hstp; obtain ⟨c0, c1, c2, c3, c4, c5, c6⟩ := zcells hz12; obtain ⟨d0, d1, d2, d3, d4, d5, d6⟩ := zcells hz02; obtain ⟨f0, f1, f2, f3, f4, f5, f6⟩ := fro7 hz02; obtain ⟨s0, s1, s2, s3, s4, s5, s6⟩ := zself hst0; have hbw2 := hbr.trans (hb2.mono (by omega)); clear hrow2 hz02 hz12 hp2 hst hst0 hstp hsto hoth2))
              refine bodyPost_ret (results_ct rfl _ _ w.heap.size _ _ _ _ rfl HST0.out Tryd.underlying25 rfl (by kernel_rfl)) rfl ?_
              exact ⟨HF.out, hbw1.trans ((hbw2.setCell (p := ⟨w1.heap.size, 5, none⟩) (Nat.le_refl _) _).mono (by omega))⟩
          · subst hk0
            have pc := (cell_of_row wr (wo.heap.size + 1) 4 _ _ _ HPTR.out).trans (show _ = some (Value.pointer (some ⟨wo.heap.size, 0, none⟩)) from rfl)
            by_cases he : er = 0
            · subst he
              have HS := Lib.hid (hsucc rfl)
              clear hfail hsucc
              go_wp2_with (first | (go_at_call 28; refine (HRD.out _).mono ?_; rintro e w2 ⟨rfl, hb2⟩; have hrow2 := (hb2.block wo.heap.size hlo).trans hout; have hoth2 := (hb2.block w1.heap.size hlx).trans hrow; have hz02 := (hb2.block w.heap.size (by omega)).trans hz0; have hz12 := (hb2.block (w.heap.size + 1) (by omega)).trans hz1; have hp2 := (hb2.block (wo.heap.size + 1) hlp).trans HPTR.out; have x0 := (cell_of_row w2 wo.heap.size 0 _ _ _ hrow2).trans (show _ = some (Value.int .i64 0) from rfl); have y0 := frozen_of_row w2 wo.heap.size 0 _ _ hrow2; have hst := heap_setCell_same w2 wo.heap.size 0 _ _ (.int .i64 (nm q 4 : Nat)) hrow2; have hsto := (heap_setCell_other w2 ⟨wo.heap.size, 0, none⟩ w1.heap.size (.int .i64 (nm q 4 : Nat)) (by simp; omega)).trans hoth2; have hst0 := (heap_setCell_other w2 ⟨wo.heap.size, 0, none⟩ w.heap.size (.int .i64 (nm q 4 : Nat)) (by simp; omega)).trans hz02; have hstp := (heap_setCell_other w2 ⟨wo.heap.size, 0, none⟩ (wo.heap.size + 1) (.int .i64 (nm q 4 : Nat)) (by simp)).trans hp2; have HST := Lib.hid hst; have HSTO := Lib.hid hsto; have HST0 := Lib.hid hst0; have HSTP := Lib.hid hstp; obtain ⟨c0, c1, c2, c3, c4, c5, c6⟩ := zcells hz12; obtain ⟨d0, d1, d2, d3, d4, d5, d6⟩ := zcells hz02; obtain ⟨f0, f1, f2, f3, f4, f5, f6⟩ := fro7 hz02; obtain ⟨s0, s1, s2, s3, s4, s5, s6⟩ := zself hst0; have hbw2 := hbr.trans (hb2.mono (by omega)); clear hrow2 hz02 hz12 hp2 hst hst0 hstp hsto hoth2))
              go_roundw
              case rel => exact ⟨5, by omega, by go_num, rfl, HS.out, HSTO.out, HST.out, HSTP.out, hbw2.setCell (p := ⟨wo.heap.size, 0, none⟩) (Nat.le_of_lt hxo) _⟩
              case measure => simp [intOf]
            · have hF := inPost_no I (hfail he) HE.out
              have HF := Lib.hid hF
              have he0 := errv_pos he
              clear hfail hsucc hF he
              go_wp2_with (first | (go_at_call 28; refine (HRD.out _).mono ?_; rintro e w2 ⟨rfl, hb2⟩; have hrow2 := (hb2.block wo.heap.size hlo).trans hout; have hoth2 := (hb2.block w1.heap.size hlx).trans hrow; have hz02 := (hb2.block w.heap.size (by omega)).trans hz0; have hz12 := (hb2.block (w.heap.size + 1) (by omega)).trans hz1; have hp2 := (hb2.block (wo.heap.size + 1) hlp).trans HPTR.out; have x0 := (cell_of_row w2 wo.heap.size 0 _ _ _ hrow2).trans (show _ = some (Value.int .i64 0) from rfl); have y0 := frozen_of_row w2 wo.heap.size 0 _ _ hrow2; have hst := heap_setCell_same w2 wo.heap.size 0 _ _ (.int .i64 (nm q 4 : Nat)) hrow2; have hsto := (heap_setCell_other w2 ⟨wo.heap.size, 0, none⟩ w1.heap.size (.int .i64 (nm q 4 : Nat)) (by simp; omega)).trans hoth2; have hst0 := (heap_setCell_other w2 ⟨wo.heap.size, 0, none⟩ w.heap.size (.int .i64 (nm q 4 : Nat)) (by simp; omega)).trans hz02; have hstp := (heap_setCell_other w2 ⟨wo.heap.size, 0, none⟩ (wo.heap.size + 1) (.int .i64 (nm q 4 : Nat)) (by simp)).trans hp2; have HST := Lib.hid hst; have HSTO := Lib.hid hsto; have HST0 := Lib.hid hst0; have HSTP := Lib.hid hstp; obtain ⟨c0, c1, c2, c3, c4, c5, c6⟩ := zcells hz12; obtain ⟨d0, d1, d2, d3, d4, d5, d6⟩ := zcells hz02; obtain ⟨f0, f1, f2, f3, f4, f5, f6⟩ := fro7 hz02; obtain ⟨s0, s1, s2, s3, s4, s5, s6⟩ := zself hst0; have hbw2 := hbr.trans (hb2.mono (by omega)); clear hrow2 hz02 hz12 hp2 hst hst0 hstp hsto hoth2))
              refine bodyPost_ret (results_ct rfl _ _ w.heap.size _ _ _ _ rfl HST0.out Tryd.underlying25 rfl (by kernel_rfl)) rfl ?_
              exact ⟨HF.out, hbw1.trans ((hbw2.setCell (p := ⟨wo.heap.size, 0, none⟩) (Nat.le_of_lt hxo) _).mono (by omega))⟩
        · obtain rfl : k = 5 := by omega
          have hend3 := HEND2.out hok
          have hx : instV (instN a b q) = .agg #[.string (bs a), .string (bs b), .int .i64 (nm q 0 : Nat), .int .i64 (nm q 1 : Nat), .int .i64 (nm q 2 : Nat), .int .i64 (nm q 3 : Nat), .bool (nm q 4 == 1)] := by unfold instN; rfl
          have hbq : ((nm q 4 : Int) == 1) = (nm q 4 == 1) := by
            cases hh : (nm q 4 == 1) with
            | true => rw [beq_iff_eq] at hh ⊢; omega
            | false => rw [beq_eq_false_iff_ne] at hh ⊢; omega
          have hid : (instN a b q).id = a := by unfold instN; rfl
          have hdf : (instN a b q).dfn = b := by unfold instN; rfl
          have hof := fun W h => of_any (instN a b q) W (by rw [hid]; omega) (by rw [hdf]; omega) h
          have hval := fun W h => value_any (instN a b q) W h
          have h4 := nm_le q 4
          have hst : (wr.setCell ⟨w1.heap.size, 6, none⟩ (.bool (nm q 4 == 1))).heap[w1.heap.size]? = some (.cells #[.string (bs a), .string (bs b), .int .i64 (nm q 0 : Nat), .int .i64 (nm q 1 : Nat), .int .i64 (nm q 2 : Nat), .int .i64 (nm q 3 : Nat), .bool (nm q 4 == 1)] 25 (0, 0)) := heap_setCell_same wr w1.heap.size 6 _ _ (.bool (nm q 4 == 1)) hrow
          have hst0 := (heap_setCell_other wr ⟨w1.heap.size, 6, none⟩ w.heap.size (.bool (nm q 4 == 1)) (by simp; omega)).trans hz0
          have hst1 := (heap_setCell_other wr ⟨w1.heap.size, 6, none⟩ (w.heap.size + 1) (.bool (nm q 4 == 1)) (by simp; omega)).trans hz1
          have xo := (cell_of_row wr wo.heap.size 0 _ _ _ hout).trans (show _ = some (Value.int .i64 (nm q 4 : Nat)) from rfl)
          have y6 := frozen_of_row wr w1.heap.size 6 _ _ hrow
          have z6 := (cell_of_row wr w1.heap.size 6 _ _ _ hrow).trans (show _ = some (Value.bool false) from rfl)
          have hbW := hbr.setCell (p := ⟨w1.heap.size, 6, none⟩) (Nat.le_refl _) (.bool (nm q 4 == 1))
          generalize instN a b q = x at hend3 hx hof hval
          rw [hx] at hof hval
          have HX := Lib.hid hx
          have HOF := Lib.hid hof
          have HVAL := Lib.hid hval
          have HE3 := Lib.hid hend3
          have HST := Lib.hid hst
          have HST0 := Lib.hid hst0
          have HST1 := Lib.hid hst1
          clear hx hof hval hend3 hst hst0 hst1 hrow hout hok HPTR hid hdf
          generalize nm q 0 = n0 at *
          generalize nm q 1 = n1 at *
          generalize nm q 2 = n2 at *
          generalize nm q 3 = n3 at *
          generalize nm q 4 = n4 at *
          generalize (n4 == 1) = bq at *
          go_upto_region 22 with fail
          obtain ⟨W, hW⟩ : ∃ W, W = wr.setCell ⟨w1.heap.size, 6, none⟩ (.bool bq) := ⟨_, rfl⟩
          rw [← hW]
          rw [← hW] at HST HST0 HST1 hbW
          clear hW xo y6 z6
          have hbo : Below w.heap.size w W := hbw1.trans (hbW.mono (by omega))
          have HGW := Lib.hid (HG.out.below hbo)
          obtain ⟨x0, x1, x2, x3, x4, x5, x6⟩ := cells7 HST.out
          have hl5 : w.heap.size < W.heap.size := (Array.getElem?_eq_some_iff.1 HST0.out).1
          have hl6 : w.heap.size + 1 < W.heap.size := (Array.getElem?_eq_some_iff.1 HST1.out).1
          have hl7 : w1.heap.size < W.heap.size := (Array.getElem?_eq_some_iff.1 HST.out).1
          have hof := HOF.out W HGW.out
          have hofb : ∀ b, okI x = b → ofB x = if b = true then (0, rowsI x) else (1, []) := fun b h => by rw [← h]; rfl
          have e1 : errv 1 = .iface 68 (.int .i64 1) := errv_pos (by omega)
          cases hok : okI x with
          | false =>
            have hI : Hid (I = (3, noI)) := HE3.out.trans (if_neg (by rw [hok]; simp))
            have hF := inPost_no I hI.out HE.out
            have HF := Lib.hid hF
            have hof2 := hof.mono (fun e w' ⟨⟨v6, he, _⟩, hb⟩ => (⟨⟨v6, by rw [he, hofb _ hok, if_neg (by simp)]; exact congrArg (fun z => Ending.returned (.tuple #[v6, z])) e1⟩, hb⟩ : (∃ v6, e = Ending.returned (.tuple #[v6, .iface 68 (.int .i64 1)])) ∧ Below W.heap.size W w'))
            have HO2 := Lib.hid hof2
            clear hof hofb e1 hok hI hF hof2 HOF
            go_wp2_with (first | (go_at_call 22; refine HO2.out.mono ?_; rintro e w6 ⟨⟨v6, rfl⟩, hb6⟩; have hz06 := (hb6.block w.heap.size hl5).trans HST0.out; have hz16 := (hb6.block (w.heap.size + 1) hl6).trans HST1.out; obtain ⟨c0, c1, c2, c3, c4, c5, c6⟩ := zcells hz16; obtain ⟨d0, d1, d2, d3, d4, d5, d6⟩ := zcells hz06; obtain ⟨f0, f1, f2, f3, f4, f5, f6⟩ := fro7 hz06; obtain ⟨s0, s1, s2, s3, s4, s5, s6⟩ := zself hz06; have HZ6 := Lib.hid hz06; have hbw6 := hbo.trans (hb6.mono (by omega)); clear hz06 hz16))
            refine bodyPost_ret (results_ct rfl _ _ w.heap.size _ _ _ _ rfl HZ6.out Tryd.underlying25 rfl (by kernel_rfl)) rfl ?_
            exact ⟨HF.out, hbw6⟩
          | true =>
            have hof2 := hof.mono (fun e w' ⟨⟨v6, he, _⟩, hb⟩ => (⟨⟨v6, by rw [he, hofb _ hok, if_pos rfl]; rfl⟩, hb⟩ : (∃ v6, e = Ending.returned (.tuple #[v6, .nilIface])) ∧ Below W.heap.size W w'))
            have HO2 := Lib.hid hof2
            have hv2 := fun W => HVAL.out W hok
            have HV2 := Lib.hid hv2
            by_cases hiv : instB x = v
            · have hI : Hid (I = (0, x)) := HE3.out.trans (if_pos ⟨hok, hiv⟩)
              have hne : (instB x == v) = true := by simpa using hiv
              clear hof hofb e1 hok hof2 HOF hv2 HVAL hiv
              go_wp2_with (first
                | (go_at_call 22; refine HO2.out.mono ?_; rintro e w6 ⟨⟨v6, rfl⟩, hb6⟩; have hx6 := (hb6.block w1.heap.size hl7).trans HST.out; obtain ⟨y0, y1, y2, y3, y4, y5, y6⟩ := cells7 hx6; have hbw6 := hbo.trans (hb6.mono (by omega)); have HX6 := Lib.hid hx6; clear hx6 x0 x1 x2 x3 x4 x5 x6)
                | (go_at_call 30; refine (HV2.out w6).mono ?_; rintro e w7 ⟨rfl, hb7⟩; have hb67 := below_tr hb6 hb7; have hx7 := (hb67.block w1.heap.size hl7).trans HST.out; obtain ⟨a0, a1, a2, a3, a4, a5, a6⟩ := cells7 hx7; have hz07 := (hb67.block w.heap.size hl5).trans HST0.out; obtain ⟨d0, d1, d2, d3, d4, d5, d6⟩ := zcells hz07; obtain ⟨f0, f1, f2, f3, f4, f5, f6⟩ := fro7 hz07; have HZ7 := Lib.hid hz07; have hbw7 := hbo.trans (hb67.mono (by omega)); clear hx7 hz07 y0 y1 y2 y3 y4 y5 y6))
              refine bodyPost_ret (results_ct rfl _ _ w.heap.size _ _ _ _ rfl (store7 HZ7.out _ _ _ _ _ _ _) Tryd.underlying25 rfl (by kernel_rfl)) rfl ?_
              refine ⟨?_, ((((((hbw7.setCell (p := ⟨w.heap.size, 0, none⟩) (Nat.le_refl _) _).setCell (p := ⟨w.heap.size, 1, none⟩) (Nat.le_refl _) _).setCell (p := ⟨w.heap.size, 2, none⟩) (Nat.le_refl _) _).setCell (p := ⟨w.heap.size, 3, none⟩) (Nat.le_refl _) _).setCell (p := ⟨w.heap.size, 4, none⟩) (Nat.le_refl _) _).setCell (p := ⟨w.heap.size, 5, none⟩) (Nat.le_refl _) _).setCell (p := ⟨w.heap.size, 6, none⟩) (Nat.le_refl _) _⟩
              unfold InPost
              rw [hI.out, HX.out]
              rfl
            · have hI : Hid (I = (3, noI)) := HE3.out.trans (if_neg (by rintro ⟨_, h⟩; exact hiv h))
              have hF := inPost_no I hI.out HE.out
              have HF := Lib.hid hF
              have hne : (instB x == v) = false := by simpa using hiv
              clear hof hofb e1 hok hI hF hof2 HOF hv2 HVAL hiv
              go_wp2_with (first
                | (go_at_call 22; refine HO2.out.mono ?_; rintro e w6 ⟨⟨v6, rfl⟩, hb6⟩; have hx6 := (hb6.block w1.heap.size hl7).trans HST.out; obtain ⟨y0, y1, y2, y3, y4, y5, y6⟩ := cells7 hx6; have hbw6 := hbo.trans (hb6.mono (by omega)); clear hx6 x0 x1 x2 x3 x4 x5 x6)
                | (go_at_call 30; refine (HV2.out w6).mono ?_; rintro e w7 ⟨rfl, hb7⟩; have hb67 := below_tr hb6 hb7; have hz07 := (hb67.block w.heap.size hl5).trans HST0.out; have hz17 := (hb67.block (w.heap.size + 1) hl6).trans HST1.out; obtain ⟨c0, c1, c2, c3, c4, c5, c6⟩ := zcells hz17; obtain ⟨d0, d1, d2, d3, d4, d5, d6⟩ := zcells hz07; obtain ⟨f0, f1, f2, f3, f4, f5, f6⟩ := fro7 hz07; obtain ⟨s0, s1, s2, s3, s4, s5, s6⟩ := zself hz07; have HZ7 := Lib.hid hz07; have hbw7 := hbo.trans (hb67.mono (by omega)); clear hz07 hz17 y0 y1 y2 y3 y4 y5 y6))
              refine bodyPost_ret (results_ct rfl _ _ w.heap.size _ _ _ _ rfl HZ7.out Tryd.underlying25 rfl (by kernel_rfl)) rfl ?_
              exact ⟨HF.out, hbw7⟩

theorem inst_any (v : Bs) (w : World) (hl : v.length ≤ 9223372036854775807) (hg : Glob w) :
    Calls Tryd.prog 12 #[.string (bs v)] w fun e w' => InPost (instR v) e ∧ Below w.heap.size w w' := by
  by_cases h : (readNum v).1 ≠ 0 ∨ (readNum v).2.1 ≠ 2
  · refine (inst_head v w hl h).mono fun e w' ⟨he, hb⟩ => ⟨?_, hb⟩
    unfold InPost
    rw [he, instR_head h]
    rfl
  · have h0 : (readNum v).1 = 0 := Classical.byContradiction fun e => h (.inl e)
    have h2 : (readNum v).2.1 = 2 := Classical.byContradiction fun e => h (.inr e)
    exact inst_main v w hl h0 h2 hg
end Go.Proofs.YtaecafagmncmiaaDoor
