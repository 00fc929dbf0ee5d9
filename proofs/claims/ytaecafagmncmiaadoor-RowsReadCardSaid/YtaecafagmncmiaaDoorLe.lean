/-
  The walk of RowsRead.
-/
import Derived.Deep.QuietTactic
import Derived.BigQuiet
import Derived.Test.YtaecafagmncmiaaDoorEa
import Derived.Test.YtaecafagmncmiaaDoorQi
import Derived.Test.YtaecafagmncmiaaDoorQy
import Derived.Test.YtaecafagmncmiaaDoorLv
namespace Go.Proofs.YtaecafagmncmiaaDoor
open Go.RowKit Pu

theorem e3v : errv 3 = .iface 68 (.int .i64 3) := errv_pos (by omega)
theorem is3_any (w : World) : Calls Tryd.prog 18 #[.iface 68 (.int .i64 3), .int .i64 3] w fun e w' => e = .returned (.bool true) ∧ w = w' := by
  have := is_any 3 3 w
  rw [e3v] at this
  exact this
theorem isK_any (k : Nat) (w : World) : Calls Tryd.prog 18 #[errv k, .int .i64 (k : Nat)] w fun e w' => e = .returned (.bool true) ∧ w = w' := by
  have := is_any k k w
  rw [decide_eq_true rfl] at this
  exact this
/-- the instance of a text, or none -/
theorem inst_cases' (v : Bs) : (∃ z, instR v = (0, z)) ∨ instR v = (3, noI) := by
  rcases instR_err v with h | h
  · exact .inl ⟨(instR v).2, by rw [← h]⟩
  · exact .inr h
/-- the id of a text, or none -/
theorem id_cases (key : Bs) : (∃ s, idR key = (0, s)) ∨ idR key = (3, []) := by
  by_cases h1 : (splitB key).1 = 0
  · by_cases h2 : (splitB key).2.length < 2
    · exact .inr (idR_few h2)
    · rw [idR_ok h1 h2]
      obtain ⟨a, ha⟩ : ∃ a, (splitB key).2[0]? = some a := ⟨_, List.getElem?_eq_getElem (by omega)⟩
      obtain ⟨b, hb⟩ : ∃ b, (splitB key).2[(splitB key).2.length - 1]? = some b := ⟨_, List.getElem?_eq_getElem (by omega)⟩
      rw [idL_at ha hb]
      split
      · exact .inl ⟨_, rfl⟩
      · exact .inr rfl
  · exact .inr (idR_err h1)

set_option maxRecDepth 100000 in
set_option maxHeartbeats 4000000 in
theorem rowsRead_gg (v key kind : Bs) (A : Option Addr) (c : Nat) (ps : List Part) (w : World) (hl1 : v.length ≤ 9223372036854775807) (hl2 : key.length ≤ 9223372036854775807) (hr : Rd w 3 A ps.length (ps.flatMap parC)) (hn : (1 + ps.length) * 32 ≤ 140737488355328) (hg : Glob w) (z : Inst) (hz : instR v = (0, z)) (s : Bs) (hi : idR key = (0, s)) :
    Calls Tryd.prog 3 #[.string (bs v), .string (bs key), .string (bs kind), .slice A ps.length c] w fun e w' => e = .returned (.bool true) ∧ Below w.heap.size w w' := by
  have HEX := Lib.hid (fun W h => examples_any W h)
  have HG := Lib.hid hg
  have HR := Lib.hid hr
  have HI : Hid (∀ W, Glob W → Calls Tryd.prog 12 #[.string (bs v)] W fun e w' => e = .returned (.tuple #[.agg #[.string (bs z.id), .string (bs z.dfn), .int .i64 z.status, .int .i64 z.at_, .int .i64 z.tries, .int .i64 z.due, .bool z.out], .nilIface]) ∧ Below W.heap.size W w') := fun W h =>
    (inst_any v W hl1 h).mono fun e w' ⟨he, hb⟩ => by
      unfold InPost at he
      rw [hz] at he
      refine ⟨?_, hb⟩
      rw [he]
      first | rfl | (simp only [e3v]; rfl)
  have HQI : Hid (∀ W, Calls Tryd.prog 13 #[.string (bs v)] W fun e w' => e = .returned (.tuple #[.agg #[.string (bs z.id), .string (bs z.dfn), .int .i64 z.status, .int .i64 z.at_, .int .i64 z.tries, .int .i64 z.due, .bool z.out], .bool true]) ∧ Below W.heap.size W w') := fun W =>
    (qinst_any v W hl1).mono fun e w' ⟨he, hb⟩ => by
      unfold QiPost at he
      rw [hz] at he
      exact ⟨he, hb⟩
  have HD : Hid (∀ W, Calls Tryd.prog 14 #[.string (bs key)] W fun e w' => e = .returned (.tuple #[.string (bs s), .nilIface]) ∧ Below W.heap.size W w') := fun W =>
    (rid_any key W hl2).mono fun e w' ⟨he, hb⟩ => by
      rw [hi] at he
      refine ⟨?_, hb⟩
      rw [he]
      first | rfl | (simp only [e3v])
  have HQD : Hid (∀ W, Calls Tryd.prog 15 #[.string (bs key)] W fun e w' => e = .returned (.tuple #[.string (bs s), .bool true]) ∧ Below W.heap.size W w') := fun W =>
    (qid_any key W hl2).mono fun e w' ⟨he, hb⟩ => by
      rw [hi] at he
      exact ⟨he, hb⟩
  have HK := Lib.hid (fun W (h : Rd W 3 A ps.length (ps.flatMap parC)) hg => rkey_big kind A c ps W h hg hn)
  have HQK := Lib.hid (fun W (h : Rd W 3 A ps.length (ps.flatMap parC)) => qkeyR_any kind A c ps W h hn)
  have HIS := Lib.hid (fun w => isK_any (keyB (textP kind :: ps)).1 w)
  have HI3 := Lib.hid is3_any
  have heq := eqI z z
  simp only [decide_true] at heq
  have hgd : ∀ (op : BinOp) (a b : Operand) (xs ys : Array Value) (w : World), (eqGuard op 25 a b (.agg xs) (.agg ys)).run Tryd.prog w = .ok () w := fun op a b xs ys w => run_eqGuard_agg w op 25 a b xs ys (by kernel_rfl)
  generalize errv (keyB (textP kind :: ps)).1 = E at HK HIS
  generalize keyB (textP kind :: ps) = K at HK HQK HIS
  obtain ⟨er, K⟩ := K
  have hkk : (K == K) = true := beq_self_eq_true K
  have hss : (s == s) = true := beq_self_eq_true s
  clear hz hi hr hg hn hl1 hl2
  go_enter Tryd.func3, Tryd.ntmps3
  go_wp2_with (first
    | (go_at_call 11; go_fit (HEX.out _ HG.out); rintro e w1 ⟨rfl, hb1⟩)
    | (go_at_call 12; go_fit (HI.out w1 (HG.out.below hb1)); rintro e w2 ⟨rfl, hb2⟩; have hbw2 := below_al (below_tr hb1 hb2) (.cells #[.string (bs z.id), .string (bs z.dfn), .int .i64 z.status, .int .i64 z.at_, .int .i64 z.tries, .int .i64 z.due, .bool z.out] 25); have HX2 := Lib.hid (heap_alloc_new w2 (.cells #[.string (bs z.id), .string (bs z.dfn), .int .i64 z.status, .int .i64 z.at_, .int .i64 z.tries, .int .i64 z.due, .bool z.out] 25)))
    | (go_at_call 13; go_fit (HQI.out _); rintro e w3 ⟨rfl, hb3⟩; have HX3 := Lib.hid ((hb3.block w2.heap.size (by simp)).trans HX2.out); have hlx3 := (Array.getElem?_eq_some_iff.1 HX3.out).1; have hbw3 := below_al (below_tr hbw2 hb3) (.cells #[.string (bs z.id), .string (bs z.dfn), .int .i64 z.status, .int .i64 z.at_, .int .i64 z.tries, .int .i64 z.due, .bool z.out] 25); have HY3 := Lib.hid (heap_alloc_new w3 (.cells #[.string (bs z.id), .string (bs z.dfn), .int .i64 z.status, .int .i64 z.at_, .int .i64 z.tries, .int .i64 z.due, .bool z.out] 25)); have HX4 := Lib.hid (((below_al (Below.refl _ w3) (.cells #[.string (bs z.id), .string (bs z.dfn), .int .i64 z.status, .int .i64 z.at_, .int .i64 z.tries, .int .i64 z.due, .bool z.out] 25)).block w2.heap.size hlx3).trans HX3.out))
    | (go_at_call 14; go_fit (HD.out _); rintro e w4 ⟨rfl, hb4⟩; have hbw4 := below_tr hbw3 hb4)
    | (go_at_call 15; go_fit (HQD.out w4); rintro e w5 ⟨rfl, hb5⟩; have hbw5 := below_tr hbw4 hb5; have hbc5 := below_tr hb4 hb5)
    | (go_at_call 16; go_fit (HK.out w5 (HR.out.below hbw5) (HG.out.below hbw5)); rintro e w6 ⟨rfl, hb6⟩; have hbw6 := below_tr hbw5 hb6; have hbc6 := below_tr hbc5 hb6)
    | (go_at_call 17; go_fit (HQK.out w6 (HR.out.below hbw6)); rintro e w7 ⟨rfl, hb7⟩; have hbw7 := below_tr hbw6 hb7; have hbc7 := below_tr hbc6 hb7; have HX7 := Lib.hid ((hbc7.block w2.heap.size (by simp; omega)).trans HX4.out); have HY7 := Lib.hid ((hbc7.block w3.heap.size (by simp)).trans HY3.out); obtain ⟨c0, c1, c2, c3, c4, c5, c6⟩ := cells7 HX7.out; obtain ⟨d0, d1, d2, d3, d4, d5, d6⟩ := cells7 HY7.out; clear hlx3)
    | (go_at_call 18; go_fit (HI3.out w7); rintro e w8 ⟨rfl, rfl⟩)
    | (go_at_call 18; go_fit (HIS.out w7); rintro e w8 ⟨rfl, rfl⟩))
  go_ret
  exact ⟨rfl, hbw7⟩
set_option maxRecDepth 100000 in
set_option maxHeartbeats 4000000 in
theorem rowsRead_gb (v key kind : Bs) (A : Option Addr) (c : Nat) (ps : List Part) (w : World) (hl1 : v.length ≤ 9223372036854775807) (hl2 : key.length ≤ 9223372036854775807) (hr : Rd w 3 A ps.length (ps.flatMap parC)) (hn : (1 + ps.length) * 32 ≤ 140737488355328) (hg : Glob w) (z : Inst) (hz : instR v = (0, z)) (s : Bs) (hi : idR key = (3, s)) :
    Calls Tryd.prog 3 #[.string (bs v), .string (bs key), .string (bs kind), .slice A ps.length c] w fun e w' => e = .returned (.bool true) ∧ Below w.heap.size w w' := by
  have HEX := Lib.hid (fun W h => examples_any W h)
  have HG := Lib.hid hg
  have HR := Lib.hid hr
  have HI : Hid (∀ W, Glob W → Calls Tryd.prog 12 #[.string (bs v)] W fun e w' => e = .returned (.tuple #[.agg #[.string (bs z.id), .string (bs z.dfn), .int .i64 z.status, .int .i64 z.at_, .int .i64 z.tries, .int .i64 z.due, .bool z.out], .nilIface]) ∧ Below W.heap.size W w') := fun W h =>
    (inst_any v W hl1 h).mono fun e w' ⟨he, hb⟩ => by
      unfold InPost at he
      rw [hz] at he
      refine ⟨?_, hb⟩
      rw [he]
      first | rfl | (simp only [e3v]; rfl)
  have HQI : Hid (∀ W, Calls Tryd.prog 13 #[.string (bs v)] W fun e w' => e = .returned (.tuple #[.agg #[.string (bs z.id), .string (bs z.dfn), .int .i64 z.status, .int .i64 z.at_, .int .i64 z.tries, .int .i64 z.due, .bool z.out], .bool true]) ∧ Below W.heap.size W w') := fun W =>
    (qinst_any v W hl1).mono fun e w' ⟨he, hb⟩ => by
      unfold QiPost at he
      rw [hz] at he
      exact ⟨he, hb⟩
  have HD : Hid (∀ W, Calls Tryd.prog 14 #[.string (bs key)] W fun e w' => e = .returned (.tuple #[.string (bs s), .iface 68 (.int .i64 3)]) ∧ Below W.heap.size W w') := fun W =>
    (rid_any key W hl2).mono fun e w' ⟨he, hb⟩ => by
      rw [hi] at he
      refine ⟨?_, hb⟩
      rw [he]
      first | rfl | (simp only [e3v])
  have HQD : Hid (∀ W, Calls Tryd.prog 15 #[.string (bs key)] W fun e w' => e = .returned (.tuple #[.string (bs s), .bool false]) ∧ Below W.heap.size W w') := fun W =>
    (qid_any key W hl2).mono fun e w' ⟨he, hb⟩ => by
      rw [hi] at he
      exact ⟨he, hb⟩
  have HK := Lib.hid (fun W (h : Rd W 3 A ps.length (ps.flatMap parC)) hg => rkey_big kind A c ps W h hg hn)
  have HQK := Lib.hid (fun W (h : Rd W 3 A ps.length (ps.flatMap parC)) => qkeyR_any kind A c ps W h hn)
  have HIS := Lib.hid (fun w => isK_any (keyB (textP kind :: ps)).1 w)
  have HI3 := Lib.hid is3_any
  have heq := eqI z z
  simp only [decide_true] at heq
  have hgd : ∀ (op : BinOp) (a b : Operand) (xs ys : Array Value) (w : World), (eqGuard op 25 a b (.agg xs) (.agg ys)).run Tryd.prog w = .ok () w := fun op a b xs ys w => run_eqGuard_agg w op 25 a b xs ys (by kernel_rfl)
  generalize errv (keyB (textP kind :: ps)).1 = E at HK HIS
  generalize keyB (textP kind :: ps) = K at HK HQK HIS
  obtain ⟨er, K⟩ := K
  have hkk : (K == K) = true := beq_self_eq_true K
  have hss : (s == s) = true := beq_self_eq_true s
  clear hz hi hr hg hn hl1 hl2
  go_enter Tryd.func3, Tryd.ntmps3
  go_wp2_with (first
    | (go_at_call 11; go_fit (HEX.out _ HG.out); rintro e w1 ⟨rfl, hb1⟩)
    | (go_at_call 12; go_fit (HI.out w1 (HG.out.below hb1)); rintro e w2 ⟨rfl, hb2⟩; have hbw2 := below_al (below_tr hb1 hb2) (.cells #[.string (bs z.id), .string (bs z.dfn), .int .i64 z.status, .int .i64 z.at_, .int .i64 z.tries, .int .i64 z.due, .bool z.out] 25); have HX2 := Lib.hid (heap_alloc_new w2 (.cells #[.string (bs z.id), .string (bs z.dfn), .int .i64 z.status, .int .i64 z.at_, .int .i64 z.tries, .int .i64 z.due, .bool z.out] 25)))
    | (go_at_call 13; go_fit (HQI.out _); rintro e w3 ⟨rfl, hb3⟩; have HX3 := Lib.hid ((hb3.block w2.heap.size (by simp)).trans HX2.out); have hlx3 := (Array.getElem?_eq_some_iff.1 HX3.out).1; have hbw3 := below_al (below_tr hbw2 hb3) (.cells #[.string (bs z.id), .string (bs z.dfn), .int .i64 z.status, .int .i64 z.at_, .int .i64 z.tries, .int .i64 z.due, .bool z.out] 25); have HY3 := Lib.hid (heap_alloc_new w3 (.cells #[.string (bs z.id), .string (bs z.dfn), .int .i64 z.status, .int .i64 z.at_, .int .i64 z.tries, .int .i64 z.due, .bool z.out] 25)); have HX4 := Lib.hid (((below_al (Below.refl _ w3) (.cells #[.string (bs z.id), .string (bs z.dfn), .int .i64 z.status, .int .i64 z.at_, .int .i64 z.tries, .int .i64 z.due, .bool z.out] 25)).block w2.heap.size hlx3).trans HX3.out))
    | (go_at_call 14; go_fit (HD.out _); rintro e w4 ⟨rfl, hb4⟩; have hbw4 := below_tr hbw3 hb4)
    | (go_at_call 15; go_fit (HQD.out w4); rintro e w5 ⟨rfl, hb5⟩; have hbw5 := below_tr hbw4 hb5; have hbc5 := below_tr hb4 hb5)
    | (go_at_call 16; go_fit (HK.out w5 (HR.out.below hbw5) (HG.out.below hbw5)); rintro e w6 ⟨rfl, hb6⟩; have hbw6 := below_tr hbw5 hb6; have hbc6 := below_tr hbc5 hb6)
    | (go_at_call 17; go_fit (HQK.out w6 (HR.out.below hbw6)); rintro e w7 ⟨rfl, hb7⟩; have hbw7 := below_tr hbw6 hb7; have hbc7 := below_tr hbc6 hb7; have HX7 := Lib.hid ((hbc7.block w2.heap.size (by simp; omega)).trans HX4.out); have HY7 := Lib.hid ((hbc7.block w3.heap.size (by simp)).trans HY3.out); obtain ⟨c0, c1, c2, c3, c4, c5, c6⟩ := cells7 HX7.out; obtain ⟨d0, d1, d2, d3, d4, d5, d6⟩ := cells7 HY7.out; clear hlx3)
    | (go_at_call 18; go_fit (HI3.out w7); rintro e w8 ⟨rfl, rfl⟩)
    | (go_at_call 18; go_fit (HIS.out w7); rintro e w8 ⟨rfl, rfl⟩))
  go_ret
  exact ⟨rfl, hbw7⟩
set_option maxRecDepth 100000 in
set_option maxHeartbeats 4000000 in
theorem rowsRead_bg (v key kind : Bs) (A : Option Addr) (c : Nat) (ps : List Part) (w : World) (hl1 : v.length ≤ 9223372036854775807) (hl2 : key.length ≤ 9223372036854775807) (hr : Rd w 3 A ps.length (ps.flatMap parC)) (hn : (1 + ps.length) * 32 ≤ 140737488355328) (hg : Glob w) (z : Inst) (hz : instR v = (3, z)) (s : Bs) (hi : idR key = (0, s)) :
    Calls Tryd.prog 3 #[.string (bs v), .string (bs key), .string (bs kind), .slice A ps.length c] w fun e w' => e = .returned (.bool true) ∧ Below w.heap.size w w' := by
  have HEX := Lib.hid (fun W h => examples_any W h)
  have HG := Lib.hid hg
  have HR := Lib.hid hr
  have HI : Hid (∀ W, Glob W → Calls Tryd.prog 12 #[.string (bs v)] W fun e w' => e = .returned (.tuple #[.agg #[.string (bs z.id), .string (bs z.dfn), .int .i64 z.status, .int .i64 z.at_, .int .i64 z.tries, .int .i64 z.due, .bool z.out], .iface 68 (.int .i64 3)]) ∧ Below W.heap.size W w') := fun W h =>
    (inst_any v W hl1 h).mono fun e w' ⟨he, hb⟩ => by
      unfold InPost at he
      rw [hz] at he
      refine ⟨?_, hb⟩
      rw [he]
      first | rfl | (simp only [e3v]; rfl)
  have HQI : Hid (∀ W, Calls Tryd.prog 13 #[.string (bs v)] W fun e w' => e = .returned (.tuple #[.agg #[.string (bs z.id), .string (bs z.dfn), .int .i64 z.status, .int .i64 z.at_, .int .i64 z.tries, .int .i64 z.due, .bool z.out], .bool false]) ∧ Below W.heap.size W w') := fun W =>
    (qinst_any v W hl1).mono fun e w' ⟨he, hb⟩ => by
      unfold QiPost at he
      rw [hz] at he
      exact ⟨he, hb⟩
  have HD : Hid (∀ W, Calls Tryd.prog 14 #[.string (bs key)] W fun e w' => e = .returned (.tuple #[.string (bs s), .nilIface]) ∧ Below W.heap.size W w') := fun W =>
    (rid_any key W hl2).mono fun e w' ⟨he, hb⟩ => by
      rw [hi] at he
      refine ⟨?_, hb⟩
      rw [he]
      first | rfl | (simp only [e3v])
  have HQD : Hid (∀ W, Calls Tryd.prog 15 #[.string (bs key)] W fun e w' => e = .returned (.tuple #[.string (bs s), .bool true]) ∧ Below W.heap.size W w') := fun W =>
    (qid_any key W hl2).mono fun e w' ⟨he, hb⟩ => by
      rw [hi] at he
      exact ⟨he, hb⟩
  have HK := Lib.hid (fun W (h : Rd W 3 A ps.length (ps.flatMap parC)) hg => rkey_big kind A c ps W h hg hn)
  have HQK := Lib.hid (fun W (h : Rd W 3 A ps.length (ps.flatMap parC)) => qkeyR_any kind A c ps W h hn)
  have HIS := Lib.hid (fun w => isK_any (keyB (textP kind :: ps)).1 w)
  have HI3 := Lib.hid is3_any
  have heq := eqI z z
  simp only [decide_true] at heq
  have hgd : ∀ (op : BinOp) (a b : Operand) (xs ys : Array Value) (w : World), (eqGuard op 25 a b (.agg xs) (.agg ys)).run Tryd.prog w = .ok () w := fun op a b xs ys w => run_eqGuard_agg w op 25 a b xs ys (by kernel_rfl)
  generalize errv (keyB (textP kind :: ps)).1 = E at HK HIS
  generalize keyB (textP kind :: ps) = K at HK HQK HIS
  obtain ⟨er, K⟩ := K
  have hkk : (K == K) = true := beq_self_eq_true K
  have hss : (s == s) = true := beq_self_eq_true s
  clear hz hi hr hg hn hl1 hl2
  go_enter Tryd.func3, Tryd.ntmps3
  go_wp2_with (first
    | (go_at_call 11; go_fit (HEX.out _ HG.out); rintro e w1 ⟨rfl, hb1⟩)
    | (go_at_call 12; go_fit (HI.out w1 (HG.out.below hb1)); rintro e w2 ⟨rfl, hb2⟩; have hbw2 := below_al (below_tr hb1 hb2) (.cells #[.string (bs z.id), .string (bs z.dfn), .int .i64 z.status, .int .i64 z.at_, .int .i64 z.tries, .int .i64 z.due, .bool z.out] 25); have HX2 := Lib.hid (heap_alloc_new w2 (.cells #[.string (bs z.id), .string (bs z.dfn), .int .i64 z.status, .int .i64 z.at_, .int .i64 z.tries, .int .i64 z.due, .bool z.out] 25)))
    | (go_at_call 13; go_fit (HQI.out _); rintro e w3 ⟨rfl, hb3⟩; have HX3 := Lib.hid ((hb3.block w2.heap.size (by simp)).trans HX2.out); have hlx3 := (Array.getElem?_eq_some_iff.1 HX3.out).1; have hbw3 := below_al (below_tr hbw2 hb3) (.cells #[.string (bs z.id), .string (bs z.dfn), .int .i64 z.status, .int .i64 z.at_, .int .i64 z.tries, .int .i64 z.due, .bool z.out] 25); have HY3 := Lib.hid (heap_alloc_new w3 (.cells #[.string (bs z.id), .string (bs z.dfn), .int .i64 z.status, .int .i64 z.at_, .int .i64 z.tries, .int .i64 z.due, .bool z.out] 25)); have HX4 := Lib.hid (((below_al (Below.refl _ w3) (.cells #[.string (bs z.id), .string (bs z.dfn), .int .i64 z.status, .int .i64 z.at_, .int .i64 z.tries, .int .i64 z.due, .bool z.out] 25)).block w2.heap.size hlx3).trans HX3.out))
    | (go_at_call 14; go_fit (HD.out _); rintro e w4 ⟨rfl, hb4⟩; have hbw4 := below_tr hbw3 hb4)
    | (go_at_call 15; go_fit (HQD.out w4); rintro e w5 ⟨rfl, hb5⟩; have hbw5 := below_tr hbw4 hb5; have hbc5 := below_tr hb4 hb5)
    | (go_at_call 16; go_fit (HK.out w5 (HR.out.below hbw5) (HG.out.below hbw5)); rintro e w6 ⟨rfl, hb6⟩; have hbw6 := below_tr hbw5 hb6; have hbc6 := below_tr hbc5 hb6)
    | (go_at_call 17; go_fit (HQK.out w6 (HR.out.below hbw6)); rintro e w7 ⟨rfl, hb7⟩; have hbw7 := below_tr hbw6 hb7; have hbc7 := below_tr hbc6 hb7; have HX7 := Lib.hid ((hbc7.block w2.heap.size (by simp; omega)).trans HX4.out); have HY7 := Lib.hid ((hbc7.block w3.heap.size (by simp)).trans HY3.out); obtain ⟨c0, c1, c2, c3, c4, c5, c6⟩ := cells7 HX7.out; obtain ⟨d0, d1, d2, d3, d4, d5, d6⟩ := cells7 HY7.out; clear hlx3)
    | (go_at_call 18; go_fit (HI3.out w7); rintro e w8 ⟨rfl, rfl⟩)
    | (go_at_call 18; go_fit (HIS.out w7); rintro e w8 ⟨rfl, rfl⟩))
  go_ret
  exact ⟨rfl, hbw7⟩
set_option maxRecDepth 100000 in
set_option maxHeartbeats 4000000 in
theorem rowsRead_bb (v key kind : Bs) (A : Option Addr) (c : Nat) (ps : List Part) (w : World) (hl1 : v.length ≤ 9223372036854775807) (hl2 : key.length ≤ 9223372036854775807) (hr : Rd w 3 A ps.length (ps.flatMap parC)) (hn : (1 + ps.length) * 32 ≤ 140737488355328) (hg : Glob w) (z : Inst) (hz : instR v = (3, z)) (s : Bs) (hi : idR key = (3, s)) :
    Calls Tryd.prog 3 #[.string (bs v), .string (bs key), .string (bs kind), .slice A ps.length c] w fun e w' => e = .returned (.bool true) ∧ Below w.heap.size w w' := by
  have HEX := Lib.hid (fun W h => examples_any W h)
  have HG := Lib.hid hg
  have HR := Lib.hid hr
  have HI : Hid (∀ W, Glob W → Calls Tryd.prog 12 #[.string (bs v)] W fun e w' => e = .returned (.tuple #[.agg #[.string (bs z.id), .string (bs z.dfn), .int .i64 z.status, .int .i64 z.at_, .int .i64 z.tries, .int .i64 z.due, .bool z.out], .iface 68 (.int .i64 3)]) ∧ Below W.heap.size W w') := fun W h =>
    (inst_any v W hl1 h).mono fun e w' ⟨he, hb⟩ => by
      unfold InPost at he
      rw [hz] at he
      refine ⟨?_, hb⟩
      rw [he]
      first | rfl | (simp only [e3v]; rfl)
  have HQI : Hid (∀ W, Calls Tryd.prog 13 #[.string (bs v)] W fun e w' => e = .returned (.tuple #[.agg #[.string (bs z.id), .string (bs z.dfn), .int .i64 z.status, .int .i64 z.at_, .int .i64 z.tries, .int .i64 z.due, .bool z.out], .bool false]) ∧ Below W.heap.size W w') := fun W =>
    (qinst_any v W hl1).mono fun e w' ⟨he, hb⟩ => by
      unfold QiPost at he
      rw [hz] at he
      exact ⟨he, hb⟩
  have HD : Hid (∀ W, Calls Tryd.prog 14 #[.string (bs key)] W fun e w' => e = .returned (.tuple #[.string (bs s), .iface 68 (.int .i64 3)]) ∧ Below W.heap.size W w') := fun W =>
    (rid_any key W hl2).mono fun e w' ⟨he, hb⟩ => by
      rw [hi] at he
      refine ⟨?_, hb⟩
      rw [he]
      first | rfl | (simp only [e3v])
  have HQD : Hid (∀ W, Calls Tryd.prog 15 #[.string (bs key)] W fun e w' => e = .returned (.tuple #[.string (bs s), .bool false]) ∧ Below W.heap.size W w') := fun W =>
    (qid_any key W hl2).mono fun e w' ⟨he, hb⟩ => by
      rw [hi] at he
      exact ⟨he, hb⟩
  have HK := Lib.hid (fun W (h : Rd W 3 A ps.length (ps.flatMap parC)) hg => rkey_big kind A c ps W h hg hn)
  have HQK := Lib.hid (fun W (h : Rd W 3 A ps.length (ps.flatMap parC)) => qkeyR_any kind A c ps W h hn)
  have HIS := Lib.hid (fun w => isK_any (keyB (textP kind :: ps)).1 w)
  have HI3 := Lib.hid is3_any
  have heq := eqI z z
  simp only [decide_true] at heq
  have hgd : ∀ (op : BinOp) (a b : Operand) (xs ys : Array Value) (w : World), (eqGuard op 25 a b (.agg xs) (.agg ys)).run Tryd.prog w = .ok () w := fun op a b xs ys w => run_eqGuard_agg w op 25 a b xs ys (by kernel_rfl)
  generalize errv (keyB (textP kind :: ps)).1 = E at HK HIS
  generalize keyB (textP kind :: ps) = K at HK HQK HIS
  obtain ⟨er, K⟩ := K
  have hkk : (K == K) = true := beq_self_eq_true K
  have hss : (s == s) = true := beq_self_eq_true s
  clear hz hi hr hg hn hl1 hl2
  go_enter Tryd.func3, Tryd.ntmps3
  go_wp2_with (first
    | (go_at_call 11; go_fit (HEX.out _ HG.out); rintro e w1 ⟨rfl, hb1⟩)
    | (go_at_call 12; go_fit (HI.out w1 (HG.out.below hb1)); rintro e w2 ⟨rfl, hb2⟩; have hbw2 := below_al (below_tr hb1 hb2) (.cells #[.string (bs z.id), .string (bs z.dfn), .int .i64 z.status, .int .i64 z.at_, .int .i64 z.tries, .int .i64 z.due, .bool z.out] 25); have HX2 := Lib.hid (heap_alloc_new w2 (.cells #[.string (bs z.id), .string (bs z.dfn), .int .i64 z.status, .int .i64 z.at_, .int .i64 z.tries, .int .i64 z.due, .bool z.out] 25)))
    | (go_at_call 13; go_fit (HQI.out _); rintro e w3 ⟨rfl, hb3⟩; have HX3 := Lib.hid ((hb3.block w2.heap.size (by simp)).trans HX2.out); have hlx3 := (Array.getElem?_eq_some_iff.1 HX3.out).1; have hbw3 := below_al (below_tr hbw2 hb3) (.cells #[.string (bs z.id), .string (bs z.dfn), .int .i64 z.status, .int .i64 z.at_, .int .i64 z.tries, .int .i64 z.due, .bool z.out] 25); have HY3 := Lib.hid (heap_alloc_new w3 (.cells #[.string (bs z.id), .string (bs z.dfn), .int .i64 z.status, .int .i64 z.at_, .int .i64 z.tries, .int .i64 z.due, .bool z.out] 25)); have HX4 := Lib.hid (((below_al (Below.refl _ w3) (.cells #[.string (bs z.id), .string (bs z.dfn), .int .i64 z.status, .int .i64 z.at_, .int .i64 z.tries, .int .i64 z.due, .bool z.out] 25)).block w2.heap.size hlx3).trans HX3.out))
    | (go_at_call 14; go_fit (HD.out _); rintro e w4 ⟨rfl, hb4⟩; have hbw4 := below_tr hbw3 hb4)
    | (go_at_call 15; go_fit (HQD.out w4); rintro e w5 ⟨rfl, hb5⟩; have hbw5 := below_tr hbw4 hb5; have hbc5 := below_tr hb4 hb5)
    | (go_at_call 16; go_fit (HK.out w5 (HR.out.below hbw5) (HG.out.below hbw5)); rintro e w6 ⟨rfl, hb6⟩; have hbw6 := below_tr hbw5 hb6; have hbc6 := below_tr hbc5 hb6)
    | (go_at_call 17; go_fit (HQK.out w6 (HR.out.below hbw6)); rintro e w7 ⟨rfl, hb7⟩; have hbw7 := below_tr hbw6 hb7; have hbc7 := below_tr hbc6 hb7; have HX7 := Lib.hid ((hbc7.block w2.heap.size (by simp; omega)).trans HX4.out); have HY7 := Lib.hid ((hbc7.block w3.heap.size (by simp)).trans HY3.out); obtain ⟨c0, c1, c2, c3, c4, c5, c6⟩ := cells7 HX7.out; obtain ⟨d0, d1, d2, d3, d4, d5, d6⟩ := cells7 HY7.out; clear hlx3)
    | (go_at_call 18; go_fit (HI3.out w7); rintro e w8 ⟨rfl, rfl⟩)
    | (go_at_call 18; go_fit (HIS.out w7); rintro e w8 ⟨rfl, rfl⟩))
  go_ret
  exact ⟨rfl, hbw7⟩
theorem rowsRead_walk (v key kind : Bs) (A : Option Addr) (c : Nat) (ps : List Part) (w : World) (hl1 : v.length ≤ 9223372036854775807) (hl2 : key.length ≤ 9223372036854775807) (hr : Rd w 3 A ps.length (ps.flatMap parC)) (hn : (1 + ps.length) * 32 ≤ 140737488355328) (hg : Glob w) :
    Calls Tryd.prog 3 #[.string (bs v), .string (bs key), .string (bs kind), .slice A ps.length c] w fun e w' => e = .returned (.bool true) ∧ Below w.heap.size w w' := by
  rcases inst_cases' v with ⟨z, hz⟩ | hz <;> rcases id_cases key with ⟨s, hi⟩ | hi
  · exact rowsRead_gg v key kind A c ps w hl1 hl2 hr hn hg z hz s hi
  · exact rowsRead_gb v key kind A c ps w hl1 hl2 hr hn hg z hz [] hi
  · exact rowsRead_bg v key kind A c ps w hl1 hl2 hr hn hg noI hz s hi
  · exact rowsRead_bb v key kind A c ps w hl1 hl2 hr hn hg noI hz [] hi
end Go.Proofs.YtaecafagmncmiaaDoor
