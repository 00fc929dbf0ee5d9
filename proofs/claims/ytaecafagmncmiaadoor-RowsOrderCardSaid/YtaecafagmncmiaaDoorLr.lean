/-
  The walk of RowsOrder.
-/
import Derived.Test.YtaecafagmncmiaaDoorLa
import Derived.Test.YtaecafagmncmiaaDoorPq
namespace Go.Proofs.YtaecafagmncmiaaDoor
open Go.RowKit Pu

/-- a timer's key -/
theorem key_timer (x : Inst) (W : World) (hg : Glob W) : Calls Tryd.prog 16 #[.string ⟨#[116]⟩, .slice (some ⟨W.heap.size, 0, none⟩) 2 2] (W.alloc (.cells #[.bool false, .int .i64 x.due, .string ⟨#[]⟩, .bool true, .int .i64 0, .string (bs x.id)] 54)) fun e w' =>
    e = .returned (.tuple #[.string (bs (kT x)), errv (keyB (textP [116] :: [numP x.due, textP x.id])).1]) ∧ Below (W.alloc (.cells #[.bool false, .int .i64 x.due, .string ⟨#[]⟩, .bool true, .int .i64 0, .string (bs x.id)] 54)).heap.size (W.alloc (.cells #[.bool false, .int .i64 x.due, .string ⟨#[]⟩, .bool true, .int .i64 0, .string (bs x.id)] 54)) w' :=
  (rkey_any [116] _ 2 [numP x.due, textP x.id] _ (rd_two W false x.due [] true 0 x.id) (hg.below (below_al (Below.refl _ _) _)) (by simp)).mono fun e w' ⟨he, hb⟩ => ⟨by rw [he, ← rowC_keyB 116 _ []]; unfold kT; rfl, hb⟩
theorem build_num (n : Int) (w : World) : (Instr.build 54 #[(1, .int .i64 n)]).run Tryd.prog w = .ok (.agg #[.bool false, .int .i64 n, .string ⟨#[]⟩]) w := by kernel_rfl
theorem build_text (s : ByteArray) (w : World) : (Instr.build 54 #[(0, .bool true), (2, .string s)]).run Tryd.prog w = .ok (.agg #[.bool true, .int .i64 0, .string s]) w := by kernel_rfl

set_option maxRecDepth 100000 in
set_option maxHeartbeats 2000000 in
theorem rowsOrder_zx (x y : Inst) (w : World) (hg : Glob w) (hz : x.due = 0) :
    Calls Tryd.prog 8 #[instV x, instV y] w fun e w' => e = .returned (.bool true) ∧ Below w.heap.size w w' := by
  have HEX := Lib.hid (fun W h => examples_any W h)
  have HG := Lib.hid hg
  have HB0 := Lib.hid (below_al (below_al (Below.refl _ w) (.cells #[.string (bs x.id), .string (bs x.dfn), .int .i64 x.status, .int .i64 x.at_, .int .i64 x.tries, .int .i64 x.due, .bool x.out] 25)) (.cells #[.string (bs y.id), .string (bs y.dfn), .int .i64 y.status, .int .i64 y.at_, .int .i64 y.tries, .int .i64 y.due, .bool y.out] 25))
  have HX0 := Lib.hid (heap_alloc2_old w (.cells #[.string (bs x.id), .string (bs x.dfn), .int .i64 x.status, .int .i64 x.at_, .int .i64 x.tries, .int .i64 x.due, .bool x.out] 25) (.cells #[.string (bs y.id), .string (bs y.dfn), .int .i64 y.status, .int .i64 y.at_, .int .i64 y.tries, .int .i64 y.due, .bool y.out] 25))
  have HY0 := Lib.hid (heap_alloc2_new w (.cells #[.string (bs x.id), .string (bs x.dfn), .int .i64 x.status, .int .i64 x.at_, .int .i64 x.tries, .int .i64 x.due, .bool x.out] 25) (.cells #[.string (bs y.id), .string (bs y.dfn), .int .i64 y.status, .int .i64 y.at_, .int .i64 y.tries, .int .i64 y.due, .bool y.out] 25))
  have hd : (x.due == 0) = true := by simpa using hz
  clear hz hg
  unfold instV
  go_enter Tryd.func8, Tryd.ntmps8
  go_wp2_with (first
    | (go_at_call 11; go_fit (HEX.out _ (HG.out.below HB0.out)); rintro e w1 ⟨rfl, hb1⟩; have hx1 := (hb1.block w.heap.size (by simp; omega)).trans HX0.out; have hy1 := (hb1.block (w.heap.size + 1) (by simp)).trans HY0.out; have hlx1 := (Array.getElem?_eq_some_iff.1 hx1).1; have hly1 := (Array.getElem?_eq_some_iff.1 hy1).1; obtain ⟨c0, c1, c2, c3, c4, c5, c6⟩ := cells7 hx1; obtain ⟨d0, d1, d2, d3, d4, d5, d6⟩ := cells7 hy1; have HX1 := Lib.hid hx1; have HY1 := Lib.hid hy1; have hbw1 := below_tr HB0.out hb1; clear hx1 hy1))
  go_ret
  exact ⟨rfl, hbw1⟩

set_option maxRecDepth 100000 in
set_option maxHeartbeats 2000000 in
theorem rowsOrder_zy (x y : Inst) (w : World) (hg : Glob w) (hz : x.due ≠ 0) (hy : y.due = 0) :
    Calls Tryd.prog 8 #[instV x, instV y] w fun e w' => e = .returned (.bool true) ∧ Below w.heap.size w w' := by
  have HEX := Lib.hid (fun W h => examples_any W h)
  have HG := Lib.hid hg
  have HB0 := Lib.hid (below_al (below_al (Below.refl _ w) (.cells #[.string (bs x.id), .string (bs x.dfn), .int .i64 x.status, .int .i64 x.at_, .int .i64 x.tries, .int .i64 x.due, .bool x.out] 25)) (.cells #[.string (bs y.id), .string (bs y.dfn), .int .i64 y.status, .int .i64 y.at_, .int .i64 y.tries, .int .i64 y.due, .bool y.out] 25))
  have HX0 := Lib.hid (heap_alloc2_old w (.cells #[.string (bs x.id), .string (bs x.dfn), .int .i64 x.status, .int .i64 x.at_, .int .i64 x.tries, .int .i64 x.due, .bool x.out] 25) (.cells #[.string (bs y.id), .string (bs y.dfn), .int .i64 y.status, .int .i64 y.at_, .int .i64 y.tries, .int .i64 y.due, .bool y.out] 25))
  have HY0 := Lib.hid (heap_alloc2_new w (.cells #[.string (bs x.id), .string (bs x.dfn), .int .i64 x.status, .int .i64 x.at_, .int .i64 x.tries, .int .i64 x.due, .bool x.out] 25) (.cells #[.string (bs y.id), .string (bs y.dfn), .int .i64 y.status, .int .i64 y.at_, .int .i64 y.tries, .int .i64 y.due, .bool y.out] 25))
  have hd : (x.due == 0) = false := by simpa using hz
  have hd2 : (y.due == 0) = true := by simpa using hy
  clear hz hy hg
  unfold instV
  go_enter Tryd.func8, Tryd.ntmps8
  go_wp2_with (first
    | (go_at_call 11; go_fit (HEX.out _ (HG.out.below HB0.out)); rintro e w1 ⟨rfl, hb1⟩; have hx1 := (hb1.block w.heap.size (by simp; omega)).trans HX0.out; have hy1 := (hb1.block (w.heap.size + 1) (by simp)).trans HY0.out; have hlx1 := (Array.getElem?_eq_some_iff.1 hx1).1; have hly1 := (Array.getElem?_eq_some_iff.1 hy1).1; obtain ⟨c0, c1, c2, c3, c4, c5, c6⟩ := cells7 hx1; obtain ⟨d0, d1, d2, d3, d4, d5, d6⟩ := cells7 hy1; have HX1 := Lib.hid hx1; have HY1 := Lib.hid hy1; have hbw1 := below_tr HB0.out hb1; clear hx1 hy1))
  go_ret
  exact ⟨rfl, hbw1⟩

set_option maxRecDepth 100000 in
set_option maxHeartbeats 2000000 in
theorem rowsOrder_bb (x y : Inst) (w : World) (hl1 : x.id.length ≤ 9223372036854775807) (hd1 : x.dfn.length ≤ 9223372036854775807) (hl2 : y.id.length ≤ 9223372036854775807) (hd2 : y.dfn.length ≤ 9223372036854775807) (hg : Glob w) (hz : x.due ≠ 0) (hz2 : y.due ≠ 0) (hx : okI x = false) (hy : okI y = false) :
    Calls Tryd.prog 8 #[instV x, instV y] w fun e w' => e = .returned (.bool true) ∧ Below w.heap.size w w' := by
  have HEX := Lib.hid (fun W h => examples_any W h)
  have HG := Lib.hid hg
  have HB0 := Lib.hid (below_al (below_al (Below.refl _ w) (.cells #[.string (bs x.id), .string (bs x.dfn), .int .i64 x.status, .int .i64 x.at_, .int .i64 x.tries, .int .i64 x.due, .bool x.out] 25)) (.cells #[.string (bs y.id), .string (bs y.dfn), .int .i64 y.status, .int .i64 y.at_, .int .i64 y.tries, .int .i64 y.due, .bool y.out] 25))
  have HX0 := Lib.hid (heap_alloc2_old w (.cells #[.string (bs x.id), .string (bs x.dfn), .int .i64 x.status, .int .i64 x.at_, .int .i64 x.tries, .int .i64 x.due, .bool x.out] 25) (.cells #[.string (bs y.id), .string (bs y.dfn), .int .i64 y.status, .int .i64 y.at_, .int .i64 y.tries, .int .i64 y.due, .bool y.out] 25))
  have HY0 := Lib.hid (heap_alloc2_new w (.cells #[.string (bs x.id), .string (bs x.dfn), .int .i64 x.status, .int .i64 x.at_, .int .i64 x.tries, .int .i64 x.due, .bool x.out] 25) (.cells #[.string (bs y.id), .string (bs y.dfn), .int .i64 y.status, .int .i64 y.at_, .int .i64 y.tries, .int .i64 y.due, .bool y.out] 25))
  have hd : (x.due == 0) = false := by simpa using hz
  have hd2' : (y.due == 0) = false := by simpa using hz2
  have HOX := Lib.hid (fun W h => of_poor x W hl1 hd1 hx h)
  have HOY := Lib.hid (fun W h => of_poor y W hl2 hd2 hy h)
  have HKX := Lib.hid (fun W h => key_timer x W h)
  have HKY := Lib.hid (fun W h => key_timer y W h)
  generalize errv (keyB (textP [116] :: [numP x.due, textP x.id])).1 = EX at HKX
  generalize errv (keyB (textP [116] :: [numP y.due, textP y.id])).1 = EY at HKY
  clear hz hz2 hg hx hy
  have hq1 := build_num
  have hq2 := build_text
  unfold instV
  go_enter Tryd.func8, Tryd.ntmps8
  go_wp2_with (first
    | (go_at_call 11; go_fit (HEX.out _ (HG.out.below HB0.out)); rintro e w1 ⟨rfl, hb1⟩; have hx1 := (hb1.block w.heap.size (by simp; omega)).trans HX0.out; have hy1 := (hb1.block (w.heap.size + 1) (by simp)).trans HY0.out; have hlx1 := (Array.getElem?_eq_some_iff.1 hx1).1; have hly1 := (Array.getElem?_eq_some_iff.1 hy1).1; obtain ⟨c0, c1, c2, c3, c4, c5, c6⟩ := cells7 hx1; obtain ⟨d0, d1, d2, d3, d4, d5, d6⟩ := cells7 hy1; have HX1 := Lib.hid hx1; have HY1 := Lib.hid hy1; have hbw1 := below_tr HB0.out hb1; clear hx1 hy1)
    | (go_at_call 16; go_fit (HKX.out w1 (HG.out.below hbw1)); rintro e w2 ⟨rfl, hb2⟩; have hb12 := below_tr (below_al (Below.refl _ w1) _) hb2; have hy2 := (hb12.block (w.heap.size + 1) hly1).trans HY1.out; clear c0 c1 c2 c3 c4 c5 c6 d0 d1 d2 d3 d4 d5 d6; obtain ⟨d0, d1, d2, d3, d4, d5, d6⟩ := cells7 hy2; have hly2 := (Array.getElem?_eq_some_iff.1 hy2).1; have HB12 := Lib.hid hb12; clear hy2 hb2 hb12)
    | (go_at_call 16; go_fit (HKY.out w2 (HG.out.below (below_tr hbw1 HB12.out))); rintro e w3 ⟨rfl, hb3⟩; have hb13 := below_tr HB12.out (below_tr (below_al (Below.refl _ w2) _) hb3); have hx3 := (hb13.block w.heap.size hlx1).trans HX1.out; clear d0 d1 d2 d3 d4 d5 d6; obtain ⟨c0, c1, c2, c3, c4, c5, c6⟩ := cells7 hx3; have hlx3 := (Array.getElem?_eq_some_iff.1 hx3).1; have HB13 := Lib.hid hb13; clear hx3 hb3 hb13)
    | (go_at_call 22; go_fit (HOX.out w3 (HG.out.below (below_tr hbw1 HB13.out))); rintro e w4 ⟨⟨v4, rfl, ho4⟩, hb4⟩; obtain ⟨A4, q4, rfl, hr4⟩ := ho4.rd; have HR4 := Lib.hid hr4; have hb14 := below_tr HB13.out hb4; have hy4 := (hb14.block (w.heap.size + 1) hly1).trans HY1.out; clear c0 c1 c2 c3 c4 c5 c6; obtain ⟨d0, d1, d2, d3, d4, d5, d6⟩ := cells7 hy4; have HB14 := Lib.hid hb14; clear hy4 hb14 ho4 hr4)
    | (go_at_call 22; go_fit (HOY.out w4 (HG.out.below (below_tr hbw1 HB14.out))); rintro e w5 ⟨⟨v5, rfl, ho5⟩, hb5⟩; obtain ⟨A5, q5, rfl, hr5⟩ := ho5.rd; have HR5 := Lib.hid hr5; have HR4b := Lib.hid (HR4.out.below hb5); have hb15 := below_tr HB14.out hb5; have hx5 := (hb15.block w.heap.size hlx1).trans HX1.out; have hy5 := (hb15.block (w.heap.size + 1) hly1).trans HY1.out; clear d0 d1 d2 d3 d4 d5 d6; obtain ⟨c0, c1, c2, c3, c4, c5, c6⟩ := cells7 hx5; obtain ⟨d0, d1, d2, d3, d4, d5, d6⟩ := cells7 hy5; have hbw5 := below_tr hbw1 hb15; clear hx5 hy5 ho5 hr5))
  go_ret
  exact ⟨rfl, hbw5⟩

set_option maxRecDepth 100000 in
set_option maxHeartbeats 2000000 in
theorem rowsOrder_bg (x y : Inst) (w : World) (hl1 : x.id.length ≤ 9223372036854775807) (hd1 : x.dfn.length ≤ 9223372036854775807) (_hl2 : y.id.length ≤ 9223372036854775807) (_hd2 : y.dfn.length ≤ 9223372036854775807) (hg : Glob w) (hz : x.due ≠ 0) (hz2 : y.due ≠ 0) (hx : okI x = false) (hy : okI y = true) :
    Calls Tryd.prog 8 #[instV x, instV y] w fun e w' => e = .returned (.bool true) ∧ Below w.heap.size w w' := by
  have HEX := Lib.hid (fun W h => examples_any W h)
  have HG := Lib.hid hg
  have HB0 := Lib.hid (below_al (below_al (Below.refl _ w) (.cells #[.string (bs x.id), .string (bs x.dfn), .int .i64 x.status, .int .i64 x.at_, .int .i64 x.tries, .int .i64 x.due, .bool x.out] 25)) (.cells #[.string (bs y.id), .string (bs y.dfn), .int .i64 y.status, .int .i64 y.at_, .int .i64 y.tries, .int .i64 y.due, .bool y.out] 25))
  have HX0 := Lib.hid (heap_alloc2_old w (.cells #[.string (bs x.id), .string (bs x.dfn), .int .i64 x.status, .int .i64 x.at_, .int .i64 x.tries, .int .i64 x.due, .bool x.out] 25) (.cells #[.string (bs y.id), .string (bs y.dfn), .int .i64 y.status, .int .i64 y.at_, .int .i64 y.tries, .int .i64 y.due, .bool y.out] 25))
  have HY0 := Lib.hid (heap_alloc2_new w (.cells #[.string (bs x.id), .string (bs x.dfn), .int .i64 x.status, .int .i64 x.at_, .int .i64 x.tries, .int .i64 x.due, .bool x.out] 25) (.cells #[.string (bs y.id), .string (bs y.dfn), .int .i64 y.status, .int .i64 y.at_, .int .i64 y.tries, .int .i64 y.due, .bool y.out] 25))
  have hd : (x.due == 0) = false := by simpa using hz
  have hd2' : (y.due == 0) = false := by simpa using hz2
  have HOX := Lib.hid (fun W h => of_poor x W hl1 hd1 hx h)
  have HOY := Lib.hid (fun W h => of_good y W hy h)
  have HKX := Lib.hid (fun W h => key_timer x W h)
  have HKY := Lib.hid (fun W h => key_timer y W h)
  generalize errv (keyB (textP [116] :: [numP x.due, textP x.id])).1 = EX at HKX
  generalize errv (keyB (textP [116] :: [numP y.due, textP y.id])).1 = EY at HKY
  clear hz hz2 hg hx hy
  have hq1 := build_num
  have hq2 := build_text
  unfold instV
  go_enter Tryd.func8, Tryd.ntmps8
  go_wp2_with (first
    | (go_at_call 11; go_fit (HEX.out _ (HG.out.below HB0.out)); rintro e w1 ⟨rfl, hb1⟩; have hx1 := (hb1.block w.heap.size (by simp; omega)).trans HX0.out; have hy1 := (hb1.block (w.heap.size + 1) (by simp)).trans HY0.out; have hlx1 := (Array.getElem?_eq_some_iff.1 hx1).1; have hly1 := (Array.getElem?_eq_some_iff.1 hy1).1; obtain ⟨c0, c1, c2, c3, c4, c5, c6⟩ := cells7 hx1; obtain ⟨d0, d1, d2, d3, d4, d5, d6⟩ := cells7 hy1; have HX1 := Lib.hid hx1; have HY1 := Lib.hid hy1; have hbw1 := below_tr HB0.out hb1; clear hx1 hy1)
    | (go_at_call 16; go_fit (HKX.out w1 (HG.out.below hbw1)); rintro e w2 ⟨rfl, hb2⟩; have hb12 := below_tr (below_al (Below.refl _ w1) _) hb2; have hy2 := (hb12.block (w.heap.size + 1) hly1).trans HY1.out; clear c0 c1 c2 c3 c4 c5 c6 d0 d1 d2 d3 d4 d5 d6; obtain ⟨d0, d1, d2, d3, d4, d5, d6⟩ := cells7 hy2; have hly2 := (Array.getElem?_eq_some_iff.1 hy2).1; have HB12 := Lib.hid hb12; clear hy2 hb2 hb12)
    | (go_at_call 16; go_fit (HKY.out w2 (HG.out.below (below_tr hbw1 HB12.out))); rintro e w3 ⟨rfl, hb3⟩; have hb13 := below_tr HB12.out (below_tr (below_al (Below.refl _ w2) _) hb3); have hx3 := (hb13.block w.heap.size hlx1).trans HX1.out; clear d0 d1 d2 d3 d4 d5 d6; obtain ⟨c0, c1, c2, c3, c4, c5, c6⟩ := cells7 hx3; have hlx3 := (Array.getElem?_eq_some_iff.1 hx3).1; have HB13 := Lib.hid hb13; clear hx3 hb3 hb13)
    | (go_at_call 22; go_fit (HOX.out w3 (HG.out.below (below_tr hbw1 HB13.out))); rintro e w4 ⟨⟨v4, rfl, ho4⟩, hb4⟩; obtain ⟨A4, q4, rfl, hr4⟩ := ho4.rd; have HR4 := Lib.hid hr4; have hb14 := below_tr HB13.out hb4; have hy4 := (hb14.block (w.heap.size + 1) hly1).trans HY1.out; clear c0 c1 c2 c3 c4 c5 c6; obtain ⟨d0, d1, d2, d3, d4, d5, d6⟩ := cells7 hy4; have HB14 := Lib.hid hb14; clear hy4 hb14 ho4 hr4)
    | (go_at_call 22; go_fit (HOY.out w4 (HG.out.below (below_tr hbw1 HB14.out))); rintro e w5 ⟨⟨v5, rfl, ho5⟩, hb5⟩; obtain ⟨A5, q5, rfl, hr5⟩ := ho5.rd; have HR5 := Lib.hid hr5; have HR4b := Lib.hid (HR4.out.below hb5); have hb15 := below_tr HB14.out hb5; have hx5 := (hb15.block w.heap.size hlx1).trans HX1.out; have hy5 := (hb15.block (w.heap.size + 1) hly1).trans HY1.out; clear d0 d1 d2 d3 d4 d5 d6; obtain ⟨c0, c1, c2, c3, c4, c5, c6⟩ := cells7 hx5; obtain ⟨d0, d1, d2, d3, d4, d5, d6⟩ := cells7 hy5; have hbw5 := below_tr hbw1 hb15; clear hx5 hy5 ho5 hr5))
  go_ret
  exact ⟨rfl, hbw5⟩

set_option maxRecDepth 100000 in
set_option maxHeartbeats 2000000 in
theorem rowsOrder_gb (x y : Inst) (w : World) (_hl1 : x.id.length ≤ 9223372036854775807) (_hd1 : x.dfn.length ≤ 9223372036854775807) (hl2 : y.id.length ≤ 9223372036854775807) (hd2 : y.dfn.length ≤ 9223372036854775807) (hg : Glob w) (hz : x.due ≠ 0) (hz2 : y.due ≠ 0) (hx : okI x = true) (hy : okI y = false) :
    Calls Tryd.prog 8 #[instV x, instV y] w fun e w' => e = .returned (.bool true) ∧ Below w.heap.size w w' := by
  have HEX := Lib.hid (fun W h => examples_any W h)
  have HG := Lib.hid hg
  have HB0 := Lib.hid (below_al (below_al (Below.refl _ w) (.cells #[.string (bs x.id), .string (bs x.dfn), .int .i64 x.status, .int .i64 x.at_, .int .i64 x.tries, .int .i64 x.due, .bool x.out] 25)) (.cells #[.string (bs y.id), .string (bs y.dfn), .int .i64 y.status, .int .i64 y.at_, .int .i64 y.tries, .int .i64 y.due, .bool y.out] 25))
  have HX0 := Lib.hid (heap_alloc2_old w (.cells #[.string (bs x.id), .string (bs x.dfn), .int .i64 x.status, .int .i64 x.at_, .int .i64 x.tries, .int .i64 x.due, .bool x.out] 25) (.cells #[.string (bs y.id), .string (bs y.dfn), .int .i64 y.status, .int .i64 y.at_, .int .i64 y.tries, .int .i64 y.due, .bool y.out] 25))
  have HY0 := Lib.hid (heap_alloc2_new w (.cells #[.string (bs x.id), .string (bs x.dfn), .int .i64 x.status, .int .i64 x.at_, .int .i64 x.tries, .int .i64 x.due, .bool x.out] 25) (.cells #[.string (bs y.id), .string (bs y.dfn), .int .i64 y.status, .int .i64 y.at_, .int .i64 y.tries, .int .i64 y.due, .bool y.out] 25))
  have hd : (x.due == 0) = false := by simpa using hz
  have hd2' : (y.due == 0) = false := by simpa using hz2
  have HOX := Lib.hid (fun W h => of_good x W hx h)
  have HOY := Lib.hid (fun W h => of_poor y W hl2 hd2 hy h)
  have HKX := Lib.hid (fun W h => key_timer x W h)
  have HKY := Lib.hid (fun W h => key_timer y W h)
  generalize errv (keyB (textP [116] :: [numP x.due, textP x.id])).1 = EX at HKX
  generalize errv (keyB (textP [116] :: [numP y.due, textP y.id])).1 = EY at HKY
  clear hz hz2 hg hx hy
  have hq1 := build_num
  have hq2 := build_text
  unfold instV
  go_enter Tryd.func8, Tryd.ntmps8
  go_wp2_with (first
    | (go_at_call 11; go_fit (HEX.out _ (HG.out.below HB0.out)); rintro e w1 ⟨rfl, hb1⟩; have hx1 := (hb1.block w.heap.size (by simp; omega)).trans HX0.out; have hy1 := (hb1.block (w.heap.size + 1) (by simp)).trans HY0.out; have hlx1 := (Array.getElem?_eq_some_iff.1 hx1).1; have hly1 := (Array.getElem?_eq_some_iff.1 hy1).1; obtain ⟨c0, c1, c2, c3, c4, c5, c6⟩ := cells7 hx1; obtain ⟨d0, d1, d2, d3, d4, d5, d6⟩ := cells7 hy1; have HX1 := Lib.hid hx1; have HY1 := Lib.hid hy1; have hbw1 := below_tr HB0.out hb1; clear hx1 hy1)
    | (go_at_call 16; go_fit (HKX.out w1 (HG.out.below hbw1)); rintro e w2 ⟨rfl, hb2⟩; have hb12 := below_tr (below_al (Below.refl _ w1) _) hb2; have hy2 := (hb12.block (w.heap.size + 1) hly1).trans HY1.out; clear c0 c1 c2 c3 c4 c5 c6 d0 d1 d2 d3 d4 d5 d6; obtain ⟨d0, d1, d2, d3, d4, d5, d6⟩ := cells7 hy2; have hly2 := (Array.getElem?_eq_some_iff.1 hy2).1; have HB12 := Lib.hid hb12; clear hy2 hb2 hb12)
    | (go_at_call 16; go_fit (HKY.out w2 (HG.out.below (below_tr hbw1 HB12.out))); rintro e w3 ⟨rfl, hb3⟩; have hb13 := below_tr HB12.out (below_tr (below_al (Below.refl _ w2) _) hb3); have hx3 := (hb13.block w.heap.size hlx1).trans HX1.out; clear d0 d1 d2 d3 d4 d5 d6; obtain ⟨c0, c1, c2, c3, c4, c5, c6⟩ := cells7 hx3; have hlx3 := (Array.getElem?_eq_some_iff.1 hx3).1; have HB13 := Lib.hid hb13; clear hx3 hb3 hb13)
    | (go_at_call 22; go_fit (HOX.out w3 (HG.out.below (below_tr hbw1 HB13.out))); rintro e w4 ⟨⟨v4, rfl, ho4⟩, hb4⟩; obtain ⟨A4, q4, rfl, hr4⟩ := ho4.rd; have HR4 := Lib.hid hr4; have hb14 := below_tr HB13.out hb4; have hy4 := (hb14.block (w.heap.size + 1) hly1).trans HY1.out; clear c0 c1 c2 c3 c4 c5 c6; obtain ⟨d0, d1, d2, d3, d4, d5, d6⟩ := cells7 hy4; have HB14 := Lib.hid hb14; clear hy4 hb14 ho4 hr4)
    | (go_at_call 22; go_fit (HOY.out w4 (HG.out.below (below_tr hbw1 HB14.out))); rintro e w5 ⟨⟨v5, rfl, ho5⟩, hb5⟩; obtain ⟨A5, q5, rfl, hr5⟩ := ho5.rd; have HR5 := Lib.hid hr5; have HR4b := Lib.hid (HR4.out.below hb5); have hb15 := below_tr HB14.out hb5; have hx5 := (hb15.block w.heap.size hlx1).trans HX1.out; have hy5 := (hb15.block (w.heap.size + 1) hly1).trans HY1.out; clear d0 d1 d2 d3 d4 d5 d6; obtain ⟨c0, c1, c2, c3, c4, c5, c6⟩ := cells7 hx5; obtain ⟨d0, d1, d2, d3, d4, d5, d6⟩ := cells7 hy5; have hbw5 := below_tr hbw1 hb15; clear hx5 hy5 ho5 hr5))
  go_ret
  exact ⟨rfl, hbw5⟩

set_option maxRecDepth 100000 in
set_option maxHeartbeats 8000000 in
theorem rowsOrder_gg (x y : Inst) (w : World) (hg : Glob w) (hz : x.due ≠ 0) (hz2 : y.due ≠ 0) (hx : okI x = true) (hy : okI y = true) :
    Calls Tryd.prog 8 #[instV x, instV y] w fun e w' => e = .returned (.bool true) ∧ Below w.heap.size w w' := by
  have HEX := Lib.hid (fun W h => examples_any W h)
  have HG := Lib.hid hg
  have HB0 := Lib.hid (below_al (below_al (Below.refl _ w) (.cells #[.string (bs x.id), .string (bs x.dfn), .int .i64 x.status, .int .i64 x.at_, .int .i64 x.tries, .int .i64 x.due, .bool x.out] 25)) (.cells #[.string (bs y.id), .string (bs y.dfn), .int .i64 y.status, .int .i64 y.at_, .int .i64 y.tries, .int .i64 y.due, .bool y.out] 25))
  have HX0 := Lib.hid (heap_alloc2_old w (.cells #[.string (bs x.id), .string (bs x.dfn), .int .i64 x.status, .int .i64 x.at_, .int .i64 x.tries, .int .i64 x.due, .bool x.out] 25) (.cells #[.string (bs y.id), .string (bs y.dfn), .int .i64 y.status, .int .i64 y.at_, .int .i64 y.tries, .int .i64 y.due, .bool y.out] 25))
  have HY0 := Lib.hid (heap_alloc2_new w (.cells #[.string (bs x.id), .string (bs x.dfn), .int .i64 x.status, .int .i64 x.at_, .int .i64 x.tries, .int .i64 x.due, .bool x.out] 25) (.cells #[.string (bs y.id), .string (bs y.dfn), .int .i64 y.status, .int .i64 y.at_, .int .i64 y.tries, .int .i64 y.due, .bool y.out] 25))
  have hd : (x.due == 0) = false := by simpa using hz
  have hd2' : (y.due == 0) = false := by simpa using hz2
  have HKX : Hid (∀ W, Glob W → Calls Tryd.prog 16 #[.string ⟨#[116]⟩, .slice (some ⟨W.heap.size, 0, none⟩) 2 2] (W.alloc (.cells #[.bool false, .int .i64 x.due, .string ⟨#[]⟩, .bool true, .int .i64 0, .string (bs x.id)] 54)) fun e w' => e = .returned (.tuple #[.string (bs (kT x)), .nilIface]) ∧ Below (W.alloc (.cells #[.bool false, .int .i64 x.due, .string ⟨#[]⟩, .bool true, .int .i64 0, .string (bs x.id)] 54)).heap.size (W.alloc (.cells #[.bool false, .int .i64 x.due, .string ⟨#[]⟩, .bool true, .int .i64 0, .string (bs x.id)] 54)) w') := fun W h => by
    have := key_timer x W h
    rw [key_num hx (by decide) (okI_due hx)] at this
    exact this
  have HKY : Hid (∀ W, Glob W → Calls Tryd.prog 16 #[.string ⟨#[116]⟩, .slice (some ⟨W.heap.size, 0, none⟩) 2 2] (W.alloc (.cells #[.bool false, .int .i64 y.due, .string ⟨#[]⟩, .bool true, .int .i64 0, .string (bs y.id)] 54)) fun e w' => e = .returned (.tuple #[.string (bs (kT y)), .nilIface]) ∧ Below (W.alloc (.cells #[.bool false, .int .i64 y.due, .string ⟨#[]⟩, .bool true, .int .i64 0, .string (bs y.id)] 54)).heap.size (W.alloc (.cells #[.bool false, .int .i64 y.due, .string ⟨#[]⟩, .bool true, .int .i64 0, .string (bs y.id)] 54)) w') := fun W h => by
    have := key_timer y W h
    rw [key_num hy (by decide) (okI_due hy)] at this
    exact this
  have HOX := Lib.hid (fun W h => of_good x W hx h)
  have HOY := Lib.hid (fun W h => of_good y W hy h)
  have HF1 := Lib.hid (fun A c W h => lfind_any A c (rowsI x) (kT x) W h)
  have HF2 := Lib.hid (fun A c W h => lfind_any A c (rowsI y) (kT y) W h)
  have hn1 := findI_has (kT_has hz)
  have hn2 := findI_has (kT_has hz2)
  have hor := kT_order hx hy
  rw [← bytesLess_ltB, ← bytesLess_ltB] at hor
  generalize rowsI x = L1 at HOX HF1 hn1
  generalize rowsI y = L2 at HOY HF2 hn2
  generalize kT x = KX at HKX HF1 hn1 hor
  generalize kT y = KY at HKY HF2 hn2 hor
  generalize findI L1 KX = n1 at HF1 hn1
  generalize findI L2 KY = n2 at HF2 hn2
  clear hz hz2 hg hx hy
  have hq1 := build_num
  have hq2 := build_text
  have hng1 : decide (n1 < 0) = false := by simpa using hn1
  have hng2 : decide (n2 < 0) = false := by simpa using hn2
  by_cases h1 : x.due < y.due
  · have hb : Op.bytesLess KX KY = true := by rw [hor]; simp [h1]
    have hdl : decide (x.due < y.due) = true := by simpa using h1
    clear hor
    unfold instV
    go_enter Tryd.func8, Tryd.ntmps8
    go_wp2_with (first
      | (go_at_call 11; go_fit (HEX.out _ (HG.out.below HB0.out)); rintro e w1 ⟨rfl, hb1⟩; have hx1 := (hb1.block w.heap.size (by simp; omega)).trans HX0.out; have hy1 := (hb1.block (w.heap.size + 1) (by simp)).trans HY0.out; have hlx1 := (Array.getElem?_eq_some_iff.1 hx1).1; have hly1 := (Array.getElem?_eq_some_iff.1 hy1).1; obtain ⟨c0, c1, c2, c3, c4, c5, c6⟩ := cells7 hx1; obtain ⟨d0, d1, d2, d3, d4, d5, d6⟩ := cells7 hy1; have HX1 := Lib.hid hx1; have HY1 := Lib.hid hy1; have hbw1 := below_tr HB0.out hb1; clear hx1 hy1)
      | (go_at_call 16; go_fit (HKX.out w1 (HG.out.below hbw1)); rintro e w2 ⟨rfl, hb2⟩; have hb12 := below_tr (below_al (Below.refl _ w1) _) hb2; have hy2 := (hb12.block (w.heap.size + 1) hly1).trans HY1.out; clear c0 c1 c2 c3 c4 c5 c6 d0 d1 d2 d3 d4 d5 d6; obtain ⟨d0, d1, d2, d3, d4, d5, d6⟩ := cells7 hy2; have hly2 := (Array.getElem?_eq_some_iff.1 hy2).1; have HB12 := Lib.hid hb12; clear hy2 hb2 hb12)
      | (go_at_call 16; go_fit (HKY.out w2 (HG.out.below (below_tr hbw1 HB12.out))); rintro e w3 ⟨rfl, hb3⟩; have hb13 := below_tr HB12.out (below_tr (below_al (Below.refl _ w2) _) hb3); have hx3 := (hb13.block w.heap.size hlx1).trans HX1.out; clear d0 d1 d2 d3 d4 d5 d6; obtain ⟨c0, c1, c2, c3, c4, c5, c6⟩ := cells7 hx3; have hlx3 := (Array.getElem?_eq_some_iff.1 hx3).1; have HB13 := Lib.hid hb13; clear hx3 hb3 hb13)
      | (go_at_call 22; go_fit (HOX.out w3 (HG.out.below (below_tr hbw1 HB13.out))); rintro e w4 ⟨⟨v4, rfl, ho4⟩, hb4⟩; obtain ⟨A4, q4, rfl, hr4⟩ := ho4.rd; have HR4 := Lib.hid hr4; have hb14 := below_tr HB13.out hb4; have hy4 := (hb14.block (w.heap.size + 1) hly1).trans HY1.out; clear c0 c1 c2 c3 c4 c5 c6; obtain ⟨d0, d1, d2, d3, d4, d5, d6⟩ := cells7 hy4; have HB14 := Lib.hid hb14; clear hy4 hb14 ho4 hr4)
      | (go_at_call 22; go_fit (HOY.out w4 (HG.out.below (below_tr hbw1 HB14.out))); rintro e w5 ⟨⟨v5, rfl, ho5⟩, hb5⟩; obtain ⟨A5, q5, rfl, hr5⟩ := ho5.rd; have HR5 := Lib.hid hr5; have HR4b := Lib.hid (HR4.out.below hb5); have hb15 := below_tr HB14.out hb5; have hx5 := (hb15.block w.heap.size hlx1).trans HX1.out; have hy5 := (hb15.block (w.heap.size + 1) hly1).trans HY1.out; clear d0 d1 d2 d3 d4 d5 d6; obtain ⟨c0, c1, c2, c3, c4, c5, c6⟩ := cells7 hx5; obtain ⟨d0, d1, d2, d3, d4, d5, d6⟩ := cells7 hy5; have hbw5 := below_tr hbw1 hb15; clear hx5 hy5 ho5 hr5)
      | (go_at_call 24; go_fit (HF1.out A4 q4 _ HR4b.out); rintro e w6 ⟨rfl, rfl⟩)
      | (go_at_call 24; go_fit (HF2.out A5 q5 _ HR5.out); rintro e w6 ⟨rfl, rfl⟩))
    go_ret
    exact ⟨rfl, hbw5⟩
  · have hdl : decide (x.due < y.due) = false := by simpa using h1
    by_cases h2 : x.due = y.due
    · have hde : (x.due == y.due) = true := by simpa using h2
      have hb : Op.bytesLess KX KY = Op.bytesLess x.id y.id := by rw [hor]; simp [h2]
      cases hv : Op.bytesLess x.id y.id with
      | true =>
        rw [hv] at hb
        clear hor h2
        unfold instV
        go_enter Tryd.func8, Tryd.ntmps8
        go_wp2_with (first
          | (go_at_call 11; go_fit (HEX.out _ (HG.out.below HB0.out)); rintro e w1 ⟨rfl, hb1⟩; have hx1 := (hb1.block w.heap.size (by simp; omega)).trans HX0.out; have hy1 := (hb1.block (w.heap.size + 1) (by simp)).trans HY0.out; have hlx1 := (Array.getElem?_eq_some_iff.1 hx1).1; have hly1 := (Array.getElem?_eq_some_iff.1 hy1).1; obtain ⟨c0, c1, c2, c3, c4, c5, c6⟩ := cells7 hx1; obtain ⟨d0, d1, d2, d3, d4, d5, d6⟩ := cells7 hy1; have HX1 := Lib.hid hx1; have HY1 := Lib.hid hy1; have hbw1 := below_tr HB0.out hb1; clear hx1 hy1)
          | (go_at_call 16; go_fit (HKX.out w1 (HG.out.below hbw1)); rintro e w2 ⟨rfl, hb2⟩; have hb12 := below_tr (below_al (Below.refl _ w1) _) hb2; have hy2 := (hb12.block (w.heap.size + 1) hly1).trans HY1.out; clear c0 c1 c2 c3 c4 c5 c6 d0 d1 d2 d3 d4 d5 d6; obtain ⟨d0, d1, d2, d3, d4, d5, d6⟩ := cells7 hy2; have hly2 := (Array.getElem?_eq_some_iff.1 hy2).1; have HB12 := Lib.hid hb12; clear hy2 hb2 hb12)
          | (go_at_call 16; go_fit (HKY.out w2 (HG.out.below (below_tr hbw1 HB12.out))); rintro e w3 ⟨rfl, hb3⟩; have hb13 := below_tr HB12.out (below_tr (below_al (Below.refl _ w2) _) hb3); have hx3 := (hb13.block w.heap.size hlx1).trans HX1.out; clear d0 d1 d2 d3 d4 d5 d6; obtain ⟨c0, c1, c2, c3, c4, c5, c6⟩ := cells7 hx3; have hlx3 := (Array.getElem?_eq_some_iff.1 hx3).1; have HB13 := Lib.hid hb13; clear hx3 hb3 hb13)
          | (go_at_call 22; go_fit (HOX.out w3 (HG.out.below (below_tr hbw1 HB13.out))); rintro e w4 ⟨⟨v4, rfl, ho4⟩, hb4⟩; obtain ⟨A4, q4, rfl, hr4⟩ := ho4.rd; have HR4 := Lib.hid hr4; have hb14 := below_tr HB13.out hb4; have hy4 := (hb14.block (w.heap.size + 1) hly1).trans HY1.out; clear c0 c1 c2 c3 c4 c5 c6; obtain ⟨d0, d1, d2, d3, d4, d5, d6⟩ := cells7 hy4; have HB14 := Lib.hid hb14; clear hy4 hb14 ho4 hr4)
          | (go_at_call 22; go_fit (HOY.out w4 (HG.out.below (below_tr hbw1 HB14.out))); rintro e w5 ⟨⟨v5, rfl, ho5⟩, hb5⟩; obtain ⟨A5, q5, rfl, hr5⟩ := ho5.rd; have HR5 := Lib.hid hr5; have HR4b := Lib.hid (HR4.out.below hb5); have hb15 := below_tr HB14.out hb5; have hx5 := (hb15.block w.heap.size hlx1).trans HX1.out; have hy5 := (hb15.block (w.heap.size + 1) hly1).trans HY1.out; clear d0 d1 d2 d3 d4 d5 d6; obtain ⟨c0, c1, c2, c3, c4, c5, c6⟩ := cells7 hx5; obtain ⟨d0, d1, d2, d3, d4, d5, d6⟩ := cells7 hy5; have hbw5 := below_tr hbw1 hb15; clear hx5 hy5 ho5 hr5)
          | (go_at_call 24; go_fit (HF1.out A4 q4 _ HR4b.out); rintro e w6 ⟨rfl, rfl⟩)
          | (go_at_call 24; go_fit (HF2.out A5 q5 _ HR5.out); rintro e w6 ⟨rfl, rfl⟩))
        go_ret
        exact ⟨rfl, hbw5⟩
      | false =>
        rw [hv] at hb
        clear hor h2
        unfold instV
        go_enter Tryd.func8, Tryd.ntmps8
        go_wp2_with (first
          | (go_at_call 11; go_fit (HEX.out _ (HG.out.below HB0.out)); rintro e w1 ⟨rfl, hb1⟩; have hx1 := (hb1.block w.heap.size (by simp; omega)).trans HX0.out; have hy1 := (hb1.block (w.heap.size + 1) (by simp)).trans HY0.out; have hlx1 := (Array.getElem?_eq_some_iff.1 hx1).1; have hly1 := (Array.getElem?_eq_some_iff.1 hy1).1; obtain ⟨c0, c1, c2, c3, c4, c5, c6⟩ := cells7 hx1; obtain ⟨d0, d1, d2, d3, d4, d5, d6⟩ := cells7 hy1; have HX1 := Lib.hid hx1; have HY1 := Lib.hid hy1; have hbw1 := below_tr HB0.out hb1; clear hx1 hy1)
          | (go_at_call 16; go_fit (HKX.out w1 (HG.out.below hbw1)); rintro e w2 ⟨rfl, hb2⟩; have hb12 := below_tr (below_al (Below.refl _ w1) _) hb2; have hy2 := (hb12.block (w.heap.size + 1) hly1).trans HY1.out; clear c0 c1 c2 c3 c4 c5 c6 d0 d1 d2 d3 d4 d5 d6; obtain ⟨d0, d1, d2, d3, d4, d5, d6⟩ := cells7 hy2; have hly2 := (Array.getElem?_eq_some_iff.1 hy2).1; have HB12 := Lib.hid hb12; clear hy2 hb2 hb12)
          | (go_at_call 16; go_fit (HKY.out w2 (HG.out.below (below_tr hbw1 HB12.out))); rintro e w3 ⟨rfl, hb3⟩; have hb13 := below_tr HB12.out (below_tr (below_al (Below.refl _ w2) _) hb3); have hx3 := (hb13.block w.heap.size hlx1).trans HX1.out; clear d0 d1 d2 d3 d4 d5 d6; obtain ⟨c0, c1, c2, c3, c4, c5, c6⟩ := cells7 hx3; have hlx3 := (Array.getElem?_eq_some_iff.1 hx3).1; have HB13 := Lib.hid hb13; clear hx3 hb3 hb13)
          | (go_at_call 22; go_fit (HOX.out w3 (HG.out.below (below_tr hbw1 HB13.out))); rintro e w4 ⟨⟨v4, rfl, ho4⟩, hb4⟩; obtain ⟨A4, q4, rfl, hr4⟩ := ho4.rd; have HR4 := Lib.hid hr4; have hb14 := below_tr HB13.out hb4; have hy4 := (hb14.block (w.heap.size + 1) hly1).trans HY1.out; clear c0 c1 c2 c3 c4 c5 c6; obtain ⟨d0, d1, d2, d3, d4, d5, d6⟩ := cells7 hy4; have HB14 := Lib.hid hb14; clear hy4 hb14 ho4 hr4)
          | (go_at_call 22; go_fit (HOY.out w4 (HG.out.below (below_tr hbw1 HB14.out))); rintro e w5 ⟨⟨v5, rfl, ho5⟩, hb5⟩; obtain ⟨A5, q5, rfl, hr5⟩ := ho5.rd; have HR5 := Lib.hid hr5; have HR4b := Lib.hid (HR4.out.below hb5); have hb15 := below_tr HB14.out hb5; have hx5 := (hb15.block w.heap.size hlx1).trans HX1.out; have hy5 := (hb15.block (w.heap.size + 1) hly1).trans HY1.out; clear d0 d1 d2 d3 d4 d5 d6; obtain ⟨c0, c1, c2, c3, c4, c5, c6⟩ := cells7 hx5; obtain ⟨d0, d1, d2, d3, d4, d5, d6⟩ := cells7 hy5; have hbw5 := below_tr hbw1 hb15; clear hx5 hy5 ho5 hr5)
          | (go_at_call 24; go_fit (HF1.out A4 q4 _ HR4b.out); rintro e w6 ⟨rfl, rfl⟩)
          | (go_at_call 24; go_fit (HF2.out A5 q5 _ HR5.out); rintro e w6 ⟨rfl, rfl⟩))
        go_ret
        exact ⟨rfl, hbw5⟩
    · have hde : (x.due == y.due) = false := by simpa using h2
      have hb : Op.bytesLess KX KY = false := by rw [hor]; simp [h1, h2]
      clear hor h2
      unfold instV
      go_enter Tryd.func8, Tryd.ntmps8
      go_wp2_with (first
        | (go_at_call 11; go_fit (HEX.out _ (HG.out.below HB0.out)); rintro e w1 ⟨rfl, hb1⟩; have hx1 := (hb1.block w.heap.size (by simp; omega)).trans HX0.out; have hy1 := (hb1.block (w.heap.size + 1) (by simp)).trans HY0.out; have hlx1 := (Array.getElem?_eq_some_iff.1 hx1).1; have hly1 := (Array.getElem?_eq_some_iff.1 hy1).1; obtain ⟨c0, c1, c2, c3, c4, c5, c6⟩ := cells7 hx1; obtain ⟨d0, d1, d2, d3, d4, d5, d6⟩ := cells7 hy1; have HX1 := Lib.hid hx1; have HY1 := Lib.hid hy1; have hbw1 := below_tr HB0.out hb1; clear hx1 hy1)
        | (go_at_call 16; go_fit (HKX.out w1 (HG.out.below hbw1)); rintro e w2 ⟨rfl, hb2⟩; have hb12 := below_tr (below_al (Below.refl _ w1) _) hb2; have hy2 := (hb12.block (w.heap.size + 1) hly1).trans HY1.out; clear c0 c1 c2 c3 c4 c5 c6 d0 d1 d2 d3 d4 d5 d6; obtain ⟨d0, d1, d2, d3, d4, d5, d6⟩ := cells7 hy2; have hly2 := (Array.getElem?_eq_some_iff.1 hy2).1; have HB12 := Lib.hid hb12; clear hy2 hb2 hb12)
        | (go_at_call 16; go_fit (HKY.out w2 (HG.out.below (below_tr hbw1 HB12.out))); rintro e w3 ⟨rfl, hb3⟩; have hb13 := below_tr HB12.out (below_tr (below_al (Below.refl _ w2) _) hb3); have hx3 := (hb13.block w.heap.size hlx1).trans HX1.out; clear d0 d1 d2 d3 d4 d5 d6; obtain ⟨c0, c1, c2, c3, c4, c5, c6⟩ := cells7 hx3; have hlx3 := (Array.getElem?_eq_some_iff.1 hx3).1; have HB13 := Lib.hid hb13; clear hx3 hb3 hb13)
        | (go_at_call 22; go_fit (HOX.out w3 (HG.out.below (below_tr hbw1 HB13.out))); rintro e w4 ⟨⟨v4, rfl, ho4⟩, hb4⟩; obtain ⟨A4, q4, rfl, hr4⟩ := ho4.rd; have HR4 := Lib.hid hr4; have hb14 := below_tr HB13.out hb4; have hy4 := (hb14.block (w.heap.size + 1) hly1).trans HY1.out; clear c0 c1 c2 c3 c4 c5 c6; obtain ⟨d0, d1, d2, d3, d4, d5, d6⟩ := cells7 hy4; have HB14 := Lib.hid hb14; clear hy4 hb14 ho4 hr4)
        | (go_at_call 22; go_fit (HOY.out w4 (HG.out.below (below_tr hbw1 HB14.out))); rintro e w5 ⟨⟨v5, rfl, ho5⟩, hb5⟩; obtain ⟨A5, q5, rfl, hr5⟩ := ho5.rd; have HR5 := Lib.hid hr5; have HR4b := Lib.hid (HR4.out.below hb5); have hb15 := below_tr HB14.out hb5; have hx5 := (hb15.block w.heap.size hlx1).trans HX1.out; have hy5 := (hb15.block (w.heap.size + 1) hly1).trans HY1.out; clear d0 d1 d2 d3 d4 d5 d6; obtain ⟨c0, c1, c2, c3, c4, c5, c6⟩ := cells7 hx5; obtain ⟨d0, d1, d2, d3, d4, d5, d6⟩ := cells7 hy5; have hbw5 := below_tr hbw1 hb15; clear hx5 hy5 ho5 hr5)
        | (go_at_call 24; go_fit (HF1.out A4 q4 _ HR4b.out); rintro e w6 ⟨rfl, rfl⟩)
        | (go_at_call 24; go_fit (HF2.out A5 q5 _ HR5.out); rintro e w6 ⟨rfl, rfl⟩))
      go_ret
      exact ⟨rfl, hbw5⟩

theorem rowsOrder_walk (x y : Inst) (w : World) (hl1 : x.id.length ≤ 9223372036854775807) (hd1 : x.dfn.length ≤ 9223372036854775807) (hl2 : y.id.length ≤ 9223372036854775807) (hd2 : y.dfn.length ≤ 9223372036854775807) (hg : Glob w) :
    Calls Tryd.prog 8 #[instV x, instV y] w fun e w' => e = .returned (.bool true) ∧ Below w.heap.size w w' := by
  by_cases hz : x.due = 0
  · exact rowsOrder_zx x y w hg hz
  · by_cases hz2 : y.due = 0
    · exact rowsOrder_zy x y w hg hz hz2
    · cases hx : okI x <;> cases hy : okI y
      · exact rowsOrder_bb x y w hl1 hd1 hl2 hd2 hg hz hz2 hx hy
      · exact rowsOrder_bg x y w hl1 hd1 hl2 hd2 hg hz hz2 hx hy
      · exact rowsOrder_gb x y w hl1 hd1 hl2 hd2 hg hz hz2 hx hy
      · exact rowsOrder_gg x y w hg hz hz2 hx hy
end Go.Proofs.YtaecafagmncmiaaDoor
