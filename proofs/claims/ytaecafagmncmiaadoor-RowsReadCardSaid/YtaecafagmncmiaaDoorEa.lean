/-
  The walk of examples.
-/
import Derived.Test.YtaecafagmncmiaaDoorEx
import Derived.Test.YtaecafagmncmiaaDoorPm
namespace Go.Proofs.YtaecafagmncmiaaDoor
open Go.RowKit Pu

set_option maxRecDepth 100000 in
set_option maxHeartbeats 2000000 in
theorem examples_any (w : World) (hg : Glob w) : Calls Tryd.prog 11 #[] w fun e w' => e = .returned (.bool true) ∧ Below w.heap.size w w' := by
  have hq : ∀ w, (Instr.build 25 #[(0, .string ⟨#[97]⟩), (1, .string ⟨#[112]⟩), (2, .int .i64 3), (3, .int .i64 2)]).run Tryd.prog w = .ok (.agg #[.string ⟨#[97]⟩, .string ⟨#[112]⟩, .int .i64 3, .int .i64 2, .int .i64 0, .int .i64 0, .bool false]) w := fun _ => by kernel_rfl
  have hr0 : (rowsI exI)[0]? = some (rowC 100 [textP [112], textP [97]] []) := by rw [exI_rows]; rfl
  have hr2 : (rowsI exI)[2]? = some (rowC 115 [textP [97]] (instB exI)) := by rw [exI_rows]; rfl
  have hl3 : (rowsI exI).length = 3 := by rw [exI_rows]; rfl
  have hid : idR (rowC 100 [textP [112], textP [97]] []).key = (0, [97]) := idR_def exI_ok (by decide) _
  have hln := (instTo_len exI_ok 5 (by omega))
  rw [show instTo exI 5 = instB exI from by unfold instB; rfl] at hln
  have hkl : (rowC 100 [textP [112], textP [97]] []).key.length ≤ 80 := by unfold rowC; exact keyB_len _
  have hv0 := rowC_value 100 [textP [112], textP [97]] []
  have hv2 := rowC_value 115 [textP [97]] (instB exI)
  have hd0 := rowC_drop 100 [textP [112], textP [97]] []
  have hd2 := rowC_drop 115 [textP [97]] (instB exI)
  have hmx : ∀ x ∈ rowsI exI, x.key.length ≤ 9223372036854775807 ∧ x.value.length ≤ 9223372036854775807 := by
    intro x hx
    rw [exI_rows] at hx
    simp only [List.mem_cons, List.not_mem_nil, or_false] at hx
    have h8 : ∀ ps, (keyB ps).2.length ≤ 80 := keyB_len
    rcases hx with rfl | rfl | rfl
    · exact ⟨by unfold rowC; have := h8 (textP [100] :: [textP [112], textP [97]]); simp only at this ⊢; omega, by rw [rowC_value]; simp⟩
    · exact ⟨by unfold rowC; have := h8 (textP [105] :: [numP 3, textP [97]]); simp only at this ⊢; omega, by rw [rowC_value]; simp⟩
    · exact ⟨by unfold rowC; have := h8 (textP [115] :: [textP [97]]); simp only at this ⊢; omega, by rw [rowC_value]; omega⟩
  have hof : ∀ W, Glob W → Calls Tryd.prog 22 #[.agg #[.string ⟨#[97]⟩, .string ⟨#[112]⟩, .int .i64 3, .int .i64 2, .int .i64 0, .int .i64 0, .bool false]] W fun e w' => (∃ v, e = .returned (.tuple #[v, .nilIface]) ∧ Ow w' W.heap.size 49 3 v 3 ((rowsI exI).flatMap chgC)) ∧ Below W.heap.size W w' := fun W h =>
    (of_any exI W (by simp [exI]) (by simp [exI]) h).mono fun e w' ⟨⟨v, he, ho⟩, hb⟩ => by
      rw [ofB, if_pos exI_ok] at he ho
      refine ⟨⟨v, he, ?_⟩, hb⟩
      simp only [hl3] at ho
      exact ho
  have hin1 : ∀ W, Glob W → Calls Tryd.prog 12 #[.string (bs (instB exI))] W fun e w' => e = .returned (.tuple #[.agg #[.string ⟨#[97]⟩, .string ⟨#[112]⟩, .int .i64 3, .int .i64 2, .int .i64 0, .int .i64 0, .bool false], .nilIface]) ∧ Below W.heap.size W w' := fun W h =>
    (inst_any (instB exI) W (by omega) h).mono fun e w' ⟨he, hb⟩ => ⟨by rw [he, instR_instB exI_ok]; rfl, hb⟩
  have e3 : errv 3 = .iface 68 (.int .i64 3) := errv_pos (by omega)
  have hin2 : ∀ W, Glob W → Calls Tryd.prog 12 #[.string ⟨#[]⟩] W fun e w' => e = .returned (.tuple #[.agg #[.string ⟨#[]⟩, .string ⟨#[]⟩, .int .i64 0, .int .i64 0, .int .i64 0, .int .i64 0, .bool false], .iface 68 (.int .i64 3)]) ∧ Below W.heap.size W w' := fun W h =>
    (inst_any [] W (by simp) h).mono fun e w' ⟨he, hb⟩ => ⟨by rw [he, instR_nil, e3]; rfl, hb⟩
  have hdi : ∀ A c W, Rd W 3 A 3 ((rowsI exI).flatMap chgC) → Calls Tryd.prog 19 #[.slice none 0 0, .slice A 3 c] W fun e w' => (∃ v, e = .returned (.tuple #[v, .nilIface]) ∧ Ow w' W.heap.size 49 3 v 3 ((rowsI exI).flatMap chgC)) ∧ Below W.heap.size W w' := fun A c W h => by
    have := diff_any none A 0 c [] (rowsI exI) W (Rd.nil _ _ _) (by rw [hl3]; exact h) (by simp) hmx (by rw [hl3]; simp)
    rw [hl3] at this
    refine this.mono fun e w' ⟨⟨v, he, ho⟩, hb⟩ => ?_
    rw [diffB_nil exI_ok] at he ho
    simp only [hl3] at ho
    exact ⟨⟨v, he, ho⟩, hb⟩
  have hrid : ∀ W, Calls Tryd.prog 14 #[.string (bs (rowC 100 [textP [112], textP [97]] []).key)] W fun e w' => e = .returned (.tuple #[.string ⟨#[97]⟩, .nilIface]) ∧ Below W.heap.size W w' := fun W =>
    (rid_any _ W (by omega)).mono fun e w' ⟨he, hb⟩ => ⟨by rw [he, hid]; rfl, hb⟩
  have hch : ∀ A1 c1 A2 c2 W, Rd W 3 A1 3 ((rowsI exI).flatMap chgC) → Rd W 3 A2 3 ((rowsI exI).flatMap chgC) → Calls Tryd.prog 21 #[.slice A1 3 c1, .slice A2 3 c2] W fun e w' => e = .returned (.bool true) ∧ Below W.heap.size W w' := fun A1 c1 A2 c2 W h1 h2 => by
    have := changes_any A1 A2 c1 c2 (rowsI exI) (rowsI exI) W (by rw [hl3]; exact h1) (by rw [hl3]; exact h2)
    rw [hl3] at this
    simpa using this
  have his : ∀ W, Calls Tryd.prog 18 #[.iface 68 (.int .i64 3), .int .i64 3] W fun e w' => e = .returned (.bool true) ∧ W = w' := fun W => by
    have := is_any 3 3 W
    rw [e3] at this
    exact this
  have HOF := Lib.hid hof
  have HIN1 := Lib.hid hin1
  have HIN2 := Lib.hid hin2
  have HDI := Lib.hid hdi
  have HRID := Lib.hid hrid
  have HCH := Lib.hid hch
  have HIS := Lib.hid his
  have HG := Lib.hid hg
  have HR0 := Lib.hid hr0
  have HR2 := Lib.hid hr2
  have HV0 := Lib.hid hv0
  have HV2 := Lib.hid hv2
  have HD0 := Lib.hid hd0
  have HD2 := Lib.hid hd2
  generalize rowsI exI = L at HOF HDI HCH HR0 HR2
  generalize instB exI = V at HIN1 HR2 HV2 HD2
  generalize rowC 100 [textP [112], textP [97]] [] = D at HRID HR0 HV0 HD0
  generalize rowC 115 [textP [97]] V = S at HR2 HV2 HD2
  clear hr0 hr2 hl3 hid hln hkl hv0 hv2 hd0 hd2 hmx hof hin1 hin2 hdi hrid hch his hg e3
  have heq := eqI exI exI
  simp only [decide_true] at heq
  change ∀ w, (Op.equalIn 10000 25 (.agg #[.string ⟨#[97]⟩, .string ⟨#[112]⟩, .int .i64 3, .int .i64 2, .int .i64 0, .int .i64 0, .bool false]) (.agg #[.string ⟨#[97]⟩, .string ⟨#[112]⟩, .int .i64 3, .int .i64 2, .int .i64 0, .int .i64 0, .bool false])).run Tryd.prog w = .ok true w at heq
  have hgd : ∀ (op : BinOp) (x y : Operand) (xs ys : Array Value) (w : World), (eqGuard op 25 x y (.agg xs) (.agg ys)).run Tryd.prog w = .ok () w := fun op x y xs ys w => run_eqGuard_agg w op 25 x y xs ys (by kernel_rfl)
  go_enter Tryd.func11, Tryd.ntmps11
  go_wp2_with (first
    | (go_at_call 22; go_fit (HOF.out _ (HG.out.below (below_al (Below.refl _ _) _))); rintro e w1 ⟨⟨v1, rfl, ho1⟩, hb1⟩; obtain ⟨A1, c1, rfl, hr1⟩ := ho1.rd; obtain ⟨g, off, rfl, hgl, hc0, hc1, hc2⟩ := hr1.three chgC chgC_len HR2.out (u0 := .string (bs S.key)) (u1 := .bool S.drop) (u2 := .string (bs S.value)) rfl; rw [HV2.out] at hc2; have hbw1 := below_tr (below_al (Below.refl w.heap.size w) _) hb1; have HX1 := Lib.hid ((hb1.block w.heap.size (by simp)).trans (heap_alloc_new w _)); have hl1 : w.heap.size < w1.heap.size := (Array.getElem?_eq_some_iff.1 HX1.out).1; have HRR := Lib.hid hr1; clear hr1 ho1)
    | (go_at_call 12; go_fit (HIN1.out w1 (HG.out.below hbw1)); rintro e w2 ⟨rfl, hb2⟩; have HRS := Lib.hid ((HRR.out.below hb2).below (below_al (Below.refl _ w2) (.cells #[.string ⟨#[97]⟩, .string ⟨#[112]⟩, .int .i64 3, .int .i64 2, .int .i64 0, .int .i64 0, .bool false] 25))); have hbw2 := below_al (below_tr hbw1 hb2) (.cells #[.string ⟨#[97]⟩, .string ⟨#[112]⟩, .int .i64 3, .int .i64 2, .int .i64 0, .int .i64 0, .bool false] 25); have hl2 := hb2.size; clear hc0 hc1 hc2)
    | (go_at_call 19; go_fit (HDI.out _ c1 _ HRS.out); rintro e w3 ⟨⟨v3, rfl, ho3⟩, hb3⟩; obtain ⟨A3, c3, rfl, hr3⟩ := ho3.rd; have HM3 := Lib.hid hr3; have hrs3 := HRS.out.below hb3; obtain ⟨g', off', hA, hgl3, d0, d1, d2⟩ := hrs3.three chgC chgC_len HR0.out (u0 := .string (bs D.key)) (u1 := .bool D.drop) (u2 := .string (bs D.value)) rfl; cases hA; rw [Nat.zero_mul, Nat.add_zero] at d0 d1 d2; rw [HV0.out] at d2; have HRS3 := Lib.hid hrs3; have HY3 := Lib.hid ((hb3.block w2.heap.size (by simp)).trans (heap_alloc_new w2 _)); have HX3 := Lib.hid ((hb3.block w.heap.size (by simp; omega)).trans ((heap_alloc_old w2 _ (by omega)).trans ((hb2.block w.heap.size hl1).trans HX1.out))); have hbw3 := below_tr hbw2 hb3; have HD2c := Lib.hid d2; clear hr3 ho3 hrs3 d1 d2)
    | (go_at_call 14; go_fit (HRID.out _); rintro e w4 ⟨rfl, hb4⟩; clear d0)
    | (go_at_call 21; go_fit (HCH.out _ _ _ _ _ (HM3.out.below hb4) (HRS3.out.below hb4)); rintro e w5 ⟨rfl, hb5⟩; have hb35 := below_tr hb4 hb5; have hbw5 := below_tr hbw3 hb35)
    | (go_at_call 12; go_fit (HIN2.out w5 (HG.out.below hbw5)); rintro e w6 ⟨rfl, hb6⟩; have hb36 := below_tr hb35 hb6; have hly : w2.heap.size < w3.heap.size := (Array.getElem?_eq_some_iff.1 HY3.out).1; have hlx : w.heap.size < w3.heap.size := (Array.getElem?_eq_some_iff.1 HX3.out).1; have hyy := (hb36.block w2.heap.size hly).trans HY3.out; have hxx := (hb36.block w.heap.size hlx).trans HX3.out; obtain ⟨y0, y1, y2, y3, y4, y5, y6⟩ := cells7 hyy; obtain ⟨x0, x1, x2, x3, x4, x5, x6⟩ := cells7 hxx; clear hyy hxx; have d2 := (hb36.cell (p := ⟨g, off + 2, none⟩) hgl3).trans HD2c.out; have hz6 := hb36.size; have hg6 := Nat.lt_of_lt_of_le hgl3 hz6; have hy6 := Nat.lt_of_lt_of_le hly hz6; have hx6 := Nat.lt_of_lt_of_le hlx hz6; have hbw6 := below_al (below_tr hbw5 hb6) (.cells #[.string ⟨#[]⟩, .string ⟨#[]⟩, .int .i64 0, .int .i64 0, .int .i64 0, .int .i64 0, .bool false] 25))
    | (go_at_call 18; go_fit (HIS.out _); rintro e w7 ⟨rfl, rfl⟩))
  go_ret
  exact ⟨rfl, hbw6⟩
end Go.Proofs.YtaecafagmncmiaaDoor
