/-
  RowsBack answers true for every instance and every text, and leaves its arguments as they were; the card ties the two listed library tables to the program's text. (No further condition.)
-/
import Derived.Test.YtaecafagmncmiaaDoorCards
import Derived.Test.YtaecafagmncmiaaDoorTie
import Derived.Test.YtaecafagmncmiaaDoorCb
import Derived.Test.YtaecafagmncmiaaDoorLb
namespace Go.Proofs.YtaecafagmncmiaaDoor
open Go.RowKit Go.ChangeShapes Go.WideShapes Go.ChangeAt Go.Deep Go.Joins Pu

set_option maxRecDepth 100000 in
theorem rowsBack_contract (H : Type) (enc : TypeId × Value → H) (W : World) (base : Nat) (args : Array Value) (ds gs : List (DataW H)) (before : List MemPlace)
    (hval : ∀ (j : Nat) t v, Tryd.f5.params[j]? = some t → args[j]? = some v → Value.okWide Tryd.prog W .any base t v)
    (hW : DataW.Whole enc Tryd.prog Tryd.f5.params.toList Rows.rowsBackSpec.vars false W args.toList ds gs before) (hsz : (DataW.weightsEach Tryd.prog (Tryd.f5.params.toList ++ []) (ds ++ gs)).all (· ≤ reachBytes) = true) (hsh : W.ShapedOpen Tryd.prog) :
    Calls Tryd.prog 5 args W fun e W' => ∃ v, e = .returned v ∧ Rows.rowsBackSpec.post enc Tryd.prog Tryd.f5 false true false false W args v W' := by
  have hW' := hW
  obtain ⟨p, q, hA0, hV, rfl, hfz, hnd⟩ := hW
  have hA : DataW.TrodAll enc Tryd.prog W 0 (fun _ => true) true Tryd.f5.params.toList args.toList ds p := hA0
  rw [Tryd.params5] at hA hval hsz
  obtain ⟨v0, vs0, d0, ds0, p0, q0, hargs, rfl, rfl, h0, r0⟩ := trodAll_cons hA
  obtain ⟨v1, vs1, d1, ds1, p1, q1, rfl, rfl, rfl, h1, r1⟩ := trodAll_cons r0
  obtain ⟨rfl, rfl, rfl⟩ := trodAll_nil r1
  obtain rfl : args = #[v0, v1] := by cases args; simp_all
  obtain ⟨rfl, rfl⟩ := trodVars_none hV
  obtain ⟨x0, rfl, hl0, hd0⟩ := open_inst (hval 0 25 v0 rfl rfl) h0
  obtain ⟨s1, rfl, hl1⟩ := open_str (hval 1 9 v1 rfl rfl) h1
  refine (rowsBack_walk x0 s1 W hl0 hd0 hl1 (glob_of hsh)).mono fun e W' ⟨he, hb⟩ => ?_
  subst he
  exact ⟨_, rfl, law_post (tb := 4) lawLaid rfl (by
    rw [Tryd.params5]; intro t ht; simp at ht
    rcases ht with rfl | rfl <;> exact ⟨by kernel_rfl, by decide +kernel⟩) (by kernel_rfl) Tryd.underlying4 hW' rfl rfl rfl hb⟩

/-- the witness's arguments -/
def rowsBackArgs : Array Value := #[(.agg #[.string ⟨#[]⟩, .string ⟨#[]⟩, .int .i64 0, .int .i64 0, .int .i64 0, .int .i64 0, .bool false] : Value), (.string ⟨#[]⟩ : Value)]
set_option maxRecDepth 100000 in
theorem rowsBack_laid (os : Os) : laidMet Tryd.prog Rows.rowsBackRow.laid ((laidW os rowsBackArgs).forCall (fun _ _ => 0) ⟨#[], rowsBackArgs, []⟩).memory :=
  laidMet_of_run' 8 (by kernel_rfl) (by kernel_rfl)
theorem rowsBack_reads (os : Os) {H : Type} (enc : TypeId × Value → H) : ∃ places, DataW.whole enc Tryd.prog ((laidW os rowsBackArgs).forCall (fun _ _ => 0) ⟨#[], rowsBackArgs, []⟩).memory Tryd.f5.params.toList Rows.rowsBackSpec.vars false rowsBackArgs.toList 8 = some ([.agg [.lit (.string []), .lit (.string []), .lit (.int .i64 0), .lit (.int .i64 0), .lit (.int .i64 0), .lit (.int .i64 0), .lit (.bool false)], .lit (.string [])], [], places) :=
  ⟨[], by kernel_rfl⟩
set_option maxRecDepth 100000 in
theorem rowsBack_lifted (os : Os) (started : os.Started) (H : Type) (enc : TypeId × Value → H) (F : Stop.Interp) :
    ReturnsInHanded {} Tryd.checked os 5 .any ((OpenSpec.ofChange Rows.rowsBackSpec).preRow enc Tryd.prog Tryd.f5 Rows.rowsBackRow.domain false Rows.rowsBackRow.laid) (((OpenSpec.ofChange Rows.rowsBackSpec).at F).post enc Tryd.prog Tryd.f5 false true false false) := by
  obtain ⟨places, hx⟩ := rowsBack_reads os enc
  refine returnsInHanded_of_row (C := Tryd.checked) (s := OpenSpec.ofChange Rows.rowsBackSpec) lawOwn started (by kernel_rfl) Tryd.func5
    (witness_row_at (enc := enc) (C := Tryd.checked) false (laidW os rowsBackArgs) rowsBackArgs rfl (by kernel_rfl) (by kernel_rfl) (by kernel_rfl)
      (OpenSpec.preRow_of_cond 8 hx (by kernel_rfl) (fun k hk => by cases hk) (by kernel_rfl) (rowsBack_laid os))) ?_
  intro W base args ds gs before hval hW _ _ hsz _ hsh _
  exact rowsBack_contract H enc W base args ds gs before hval hW hsz hsh
theorem rowsBack_said : Rows.RowsBackSaid :=
  OpenClaim.holds_of_cond 5 Tryd.f5 rfl rfl rfl rfl rfl rfl rfl ⟨rfl, rfl, rfl, rfl, rfl⟩ rfl rfl rfl rfl rfl (by kernel_rfl) Tryd.func5 (by kernel_rfl)
    (of_decide_eq_true (by kernel_rfl)) (by unfold Func.isWrapper; first | (rw [if_pos (by decide +kernel)]; kernel_rfl) | (rw [if_neg (by decide +kernel)]; exact ⟨rfl, rfl⟩))
    (fun os started H enc _ F => by rw [OpenClaim.pre_eq_preRow]; exact rowsBack_lifted os started H enc F)
theorem rowsBack_plain (f : FuncId) (fn : Func) (hf : Tryd.pinned.checked.prog.funcNamed "palinode/palinodelaw20.RowsBack" = some f) (hfn : Tryd.pinned.checked.prog.funcs[f]? = some fn) :
    true = Tryd.pinned.checked.prog.looks [] ∧ ∀ (j : Nat) t, fn.params[j]? = some t → Tryd.pinned.checked.prog.wantsStandIn t = false := by
  obtain rfl : f = 5 := Option.some.inj ((show Tryd.prog.funcNamed "palinode/palinodelaw20.RowsBack" = some 5 by kernel_rfl).symm.trans hf) |>.symm
  obtain rfl : fn = Tryd.f5 := (Option.some.inj (Tryd.func5.symm.trans hfn)).symm
  refine ⟨by kernel_rfl, fun j t ht => ?_⟩
  rw [Tryd.params5] at ht
  have := Array.mem_of_getElem? ht
  simp at this
  rcases this with rfl | rfl
  · exact (show Tryd.prog.wantsStandIn 25 = false by kernel_rfl)
  · exact (show Tryd.prog.wantsStandIn 9 = false by kernel_rfl)
theorem rowsBack_card : Rows.RowsBackCardSaid :=
  Claim7.holds_tied_plain_at .later [] _ _ _ _ rowsBack_said (fun _ h => by cases h) (by kernel_rfl) (fun _ h => by cases h) rowsBack_row_tie rfl ⟨rfl, rfl⟩ (by kernel_rfl) rfl rowsBack_plain (by kernel_rfl)
end Go.Proofs.YtaecafagmncmiaaDoor
