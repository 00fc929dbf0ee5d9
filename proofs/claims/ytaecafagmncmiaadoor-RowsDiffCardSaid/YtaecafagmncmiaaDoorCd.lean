/-
  RowsDiff answers true for every two lists of rows, and leaves its arguments as they were; the card ties the two listed library tables to the program's text. (No further condition.)
-/
import Derived.Test.YtaecafagmncmiaaDoorCards
import Derived.Test.YtaecafagmncmiaaDoorTie
import Derived.Test.YtaecafagmncmiaaDoorCb
import Derived.Test.YtaecafagmncmiaaDoorLd
namespace Go.Proofs.YtaecafagmncmiaaDoor
open Go.RowKit Go.ChangeShapes Go.WideShapes Go.ChangeAt Go.Deep Go.Joins Pu

set_option maxRecDepth 100000 in
theorem rowsDiff_contract (H : Type) (enc : TypeId × Value → H) (W : World) (base : Nat) (args : Array Value) (ds gs : List (DataW H)) (before : List MemPlace)
    (hval : ∀ (j : Nat) t v, Tryd.f4.params[j]? = some t → args[j]? = some v → Value.okWide Tryd.prog W .any base t v)
    (hW : DataW.Whole enc Tryd.prog Tryd.f4.params.toList Rows.rowsDiffSpec.vars false W args.toList ds gs before) (hsz : (DataW.weightsEach Tryd.prog (Tryd.f4.params.toList ++ []) (ds ++ gs)).all (· ≤ reachBytes) = true) (hsh : W.ShapedOpen Tryd.prog) :
    Calls Tryd.prog 4 args W fun e W' => ∃ v, e = .returned v ∧ Rows.rowsDiffSpec.post enc Tryd.prog Tryd.f4 false true false false W args v W' := by
  have hW' := hW
  obtain ⟨p, q, hA0, hV, rfl, hfz, hnd⟩ := hW
  have hA : DataW.TrodAll enc Tryd.prog W 0 (fun _ => true) true Tryd.f4.params.toList args.toList ds p := hA0
  rw [Tryd.params4] at hA hval hsz
  obtain ⟨v0, vs0, d0, ds0, p0, q0, hargs, rfl, rfl, h0, r0⟩ := trodAll_cons hA
  obtain ⟨v1, vs1, d1, ds1, p1, q1, rfl, rfl, rfl, h1, r1⟩ := trodAll_cons r0
  obtain ⟨rfl, rfl, rfl⟩ := trodAll_nil r1
  obtain rfl : args = #[v0, v1] := by cases args; simp_all
  obtain ⟨rfl, rfl⟩ := trodVars_none hV
  obtain ⟨A0, c0, l0, rfl, hlc0, hcm0, hr0, hl0⟩ := open_chgs (hval 0 41 v0 rfl rfl) h0
  obtain ⟨A1, c1, l1, rfl, hlc1, hcm1, hr1, hl1⟩ := open_chgs (hval 1 41 v1 rfl rfl) h1
  refine (rowsDiff_walk A0 A1 c0 c1 l0 l1 W hr0 hr1 hlc0 hlc1 hcm0 hcm1 hl0 hl1 (glob_of hsh)).mono fun e W' ⟨he, hb⟩ => ?_
  subst he
  exact ⟨_, rfl, law_post (tb := 4) lawLaid rfl (by
    rw [Tryd.params4]; intro t ht; simp at ht
    subst ht <;> exact ⟨by kernel_rfl, by decide +kernel⟩) (by kernel_rfl) Tryd.underlying4 hW' rfl rfl rfl hb⟩

/-- the witness's arguments -/
def rowsDiffArgs : Array Value := #[(.slice none 0 0 : Value), (.slice none 0 0 : Value)]
set_option maxRecDepth 100000 in
theorem rowsDiff_laid (os : Os) : laidMet Tryd.prog Rows.rowsDiffRow.laid ((laidW os rowsDiffArgs).forCall (fun _ _ => 0) ⟨#[], rowsDiffArgs, []⟩).memory :=
  laidMet_of_run' 8 (by kernel_rfl) (by kernel_rfl)
theorem rowsDiff_reads (os : Os) {H : Type} (enc : TypeId × Value → H) : ∃ places, DataW.whole enc Tryd.prog ((laidW os rowsDiffArgs).forCall (fun _ _ => 0) ⟨#[], rowsDiffArgs, []⟩).memory Tryd.f4.params.toList Rows.rowsDiffSpec.vars false rowsDiffArgs.toList 8 = some ([.nil, .nil], [], places) :=
  ⟨[], by kernel_rfl⟩
set_option maxRecDepth 100000 in
theorem rowsDiff_lifted (os : Os) (started : os.Started) (H : Type) (enc : TypeId × Value → H) (F : Stop.Interp) :
    ReturnsInHanded {} Tryd.checked os 4 .any ((OpenSpec.ofChange Rows.rowsDiffSpec).preRow enc Tryd.prog Tryd.f4 Rows.rowsDiffRow.domain false Rows.rowsDiffRow.laid) (((OpenSpec.ofChange Rows.rowsDiffSpec).at F).post enc Tryd.prog Tryd.f4 false true false false) := by
  obtain ⟨places, hx⟩ := rowsDiff_reads os enc
  refine returnsInHanded_of_row (C := Tryd.checked) (s := OpenSpec.ofChange Rows.rowsDiffSpec) lawOwn started (by kernel_rfl) Tryd.func4
    (witness_row_at (enc := enc) (C := Tryd.checked) false (laidW os rowsDiffArgs) rowsDiffArgs rfl (by kernel_rfl) (by kernel_rfl) (by kernel_rfl)
      (OpenSpec.preRow_of_cond 8 hx (by kernel_rfl) (fun k hk => by cases hk) (by kernel_rfl) (rowsDiff_laid os))) ?_
  intro W base args ds gs before hval hW _ _ hsz _ hsh _
  exact rowsDiff_contract H enc W base args ds gs before hval hW hsz hsh
theorem rowsDiff_said : Rows.RowsDiffSaid :=
  OpenClaim.holds_of_cond 4 Tryd.f4 rfl rfl rfl rfl rfl rfl rfl ⟨rfl, rfl, rfl, rfl, rfl⟩ rfl rfl rfl rfl rfl (by kernel_rfl) Tryd.func4 (by kernel_rfl)
    (of_decide_eq_true (by kernel_rfl)) (by unfold Func.isWrapper; first | (rw [if_pos (by decide +kernel)]; kernel_rfl) | (rw [if_neg (by decide +kernel)]; exact ⟨rfl, rfl⟩))
    (fun os started H enc _ F => by rw [OpenClaim.pre_eq_preRow]; exact rowsDiff_lifted os started H enc F)
theorem rowsDiff_plain (f : FuncId) (fn : Func) (hf : Tryd.pinned.checked.prog.funcNamed "palinode/palinodelaw20.RowsDiff" = some f) (hfn : Tryd.pinned.checked.prog.funcs[f]? = some fn) :
    true = Tryd.pinned.checked.prog.looks [] ∧ ∀ (j : Nat) t, fn.params[j]? = some t → Tryd.pinned.checked.prog.wantsStandIn t = false := by
  obtain rfl : f = 4 := Option.some.inj ((show Tryd.prog.funcNamed "palinode/palinodelaw20.RowsDiff" = some 4 by kernel_rfl).symm.trans hf) |>.symm
  obtain rfl : fn = Tryd.f4 := (Option.some.inj (Tryd.func4.symm.trans hfn)).symm
  refine ⟨by kernel_rfl, fun j t ht => ?_⟩
  rw [Tryd.params4] at ht
  have := Array.mem_of_getElem? ht
  simp at this
  subst this
  first | exact (show Tryd.prog.wantsStandIn 41 = false by kernel_rfl)
theorem rowsDiff_card : Rows.RowsDiffCardSaid :=
  Claim7.holds_tied_plain_at .later [] _ _ _ _ rowsDiff_said (fun _ h => by cases h) (by kernel_rfl) (fun _ h => by cases h) rowsDiff_row_tie rfl ⟨rfl, rfl⟩ (by kernel_rfl) rfl rowsDiff_plain (by kernel_rfl)
end Go.Proofs.YtaecafagmncmiaaDoor
