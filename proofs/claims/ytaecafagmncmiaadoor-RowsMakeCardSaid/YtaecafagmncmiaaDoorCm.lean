/-
  RowsMake answers true for every two lists of rows, and leaves its arguments as they were; the card ties the two listed library tables to the program's text. (No further condition.)
-/
import Derived.Test.YtaecafagmncmiaaDoorCards
import Derived.Test.YtaecafagmncmiaaDoorTie
import Derived.Test.YtaecafagmncmiaaDoorCb
import Derived.Test.YtaecafagmncmiaaDoorLm
namespace Go.Proofs.YtaecafagmncmiaaDoor
open Go.RowKit Go.ChangeShapes Go.WideShapes Go.ChangeAt Go.Deep Go.Joins Pu

set_option maxRecDepth 100000 in
theorem rowsMake_contract (H : Type) (enc : TypeId × Value → H) (W : World) (base : Nat) (args : Array Value) (ds gs : List (DataW H)) (before : List MemPlace)
    (hval : ∀ (j : Nat) t v, Tryd.f7.params[j]? = some t → args[j]? = some v → Value.okWide Tryd.prog W .any base t v)
    (hW : DataW.Whole enc Tryd.prog Tryd.f7.params.toList Rows.rowsMakeSpec.vars false W args.toList ds gs before) (hsz : (DataW.weightsEach Tryd.prog (Tryd.f7.params.toList ++ []) (ds ++ gs)).all (· ≤ reachBytes) = true) (hsh : W.ShapedOpen Tryd.prog) :
    Calls Tryd.prog 7 args W fun e W' => ∃ v, e = .returned v ∧ Rows.rowsMakeSpec.post enc Tryd.prog Tryd.f7 false true false false W args v W' := by
  have hW' := hW
  obtain ⟨p, q, hA0, hV, rfl, hfz, hnd⟩ := hW
  have hA : DataW.TrodAll enc Tryd.prog W 0 (fun _ => true) true Tryd.f7.params.toList args.toList ds p := hA0
  rw [Tryd.params7] at hA hval hsz
  obtain ⟨v0, vs0, d0, ds0, p0, q0, hargs, rfl, rfl, h0, r0⟩ := trodAll_cons hA
  obtain ⟨v1, vs1, d1, ds1, p1, q1, rfl, rfl, rfl, h1, r1⟩ := trodAll_cons r0
  obtain ⟨rfl, rfl, rfl⟩ := trodAll_nil r1
  obtain rfl : args = #[v0, v1] := by cases args; simp_all
  obtain ⟨rfl, rfl⟩ := trodVars_none hV
  obtain ⟨A0, c0, l0, rfl, hlc0, hcm0, hr0, hl0⟩ := open_chgs (hval 0 41 v0 rfl rfl) h0
  obtain ⟨A1, c1, l1, rfl, hlc1, hcm1, hr1, hl1⟩ := open_chgs (hval 1 41 v1 rfl rfl) h1
  refine (rowsMake_walk A0 A1 c0 c1 l0 l1 W hr0 hr1 hlc0 hlc1 hcm0 hcm1 hl0 hl1 (glob_of hsh)).mono fun e W' ⟨he, hb⟩ => ?_
  subst he
  exact ⟨_, rfl, law_post (tb := 4) lawLaid rfl (by
    rw [Tryd.params7]; intro t ht; simp at ht
    subst ht <;> exact ⟨by kernel_rfl, by decide +kernel⟩) (by kernel_rfl) Tryd.underlying4 hW' rfl rfl rfl hb⟩

/-- the witness's arguments -/
def rowsMakeArgs : Array Value := #[(.slice none 0 0 : Value), (.slice none 0 0 : Value)]
set_option maxRecDepth 100000 in
theorem rowsMake_laid (os : Os) : laidMet Tryd.prog Rows.rowsMakeRow.laid ((laidW os rowsMakeArgs).forCall (fun _ _ => 0) ⟨#[], rowsMakeArgs, []⟩).memory :=
  laidMet_of_run' 8 (by kernel_rfl) (by kernel_rfl)
theorem rowsMake_reads (os : Os) {H : Type} (enc : TypeId × Value → H) : ∃ places, DataW.whole enc Tryd.prog ((laidW os rowsMakeArgs).forCall (fun _ _ => 0) ⟨#[], rowsMakeArgs, []⟩).memory Tryd.f7.params.toList Rows.rowsMakeSpec.vars false rowsMakeArgs.toList 8 = some ([.nil, .nil], [], places) :=
  ⟨[], by kernel_rfl⟩
set_option maxRecDepth 100000 in
theorem rowsMake_lifted (os : Os) (started : os.Started) (H : Type) (enc : TypeId × Value → H) (F : Stop.Interp) :
    ReturnsInHanded {} Tryd.checked os 7 .any ((OpenSpec.ofChange Rows.rowsMakeSpec).preRow enc Tryd.prog Tryd.f7 Rows.rowsMakeRow.domain false Rows.rowsMakeRow.laid) (((OpenSpec.ofChange Rows.rowsMakeSpec).at F).post enc Tryd.prog Tryd.f7 false true false false) := by
  obtain ⟨places, hx⟩ := rowsMake_reads os enc
  refine returnsInHanded_of_row (C := Tryd.checked) (s := OpenSpec.ofChange Rows.rowsMakeSpec) lawOwn started (by kernel_rfl) Tryd.func7
    (witness_row_at (enc := enc) (C := Tryd.checked) false (laidW os rowsMakeArgs) rowsMakeArgs rfl (by kernel_rfl) (by kernel_rfl) (by kernel_rfl)
      (OpenSpec.preRow_of_cond 8 hx (by kernel_rfl) (fun k hk => by cases hk) (by kernel_rfl) (rowsMake_laid os))) ?_
  intro W base args ds gs before hval hW _ _ hsz _ hsh _
  exact rowsMake_contract H enc W base args ds gs before hval hW hsz hsh
theorem rowsMake_said : Rows.RowsMakeSaid :=
  OpenClaim.holds_of_cond 7 Tryd.f7 rfl rfl rfl rfl rfl rfl rfl ⟨rfl, rfl, rfl, rfl, rfl⟩ rfl rfl rfl rfl rfl (by kernel_rfl) Tryd.func7 (by kernel_rfl)
    (of_decide_eq_true (by kernel_rfl)) (by unfold Func.isWrapper; first | (rw [if_pos (by decide +kernel)]; kernel_rfl) | (rw [if_neg (by decide +kernel)]; exact ⟨rfl, rfl⟩))
    (fun os started H enc _ F => by rw [OpenClaim.pre_eq_preRow]; exact rowsMake_lifted os started H enc F)
theorem rowsMake_plain (f : FuncId) (fn : Func) (hf : Tryd.pinned.checked.prog.funcNamed "palinode/palinodelaw20.RowsMake" = some f) (hfn : Tryd.pinned.checked.prog.funcs[f]? = some fn) :
    true = Tryd.pinned.checked.prog.looks [] ∧ ∀ (j : Nat) t, fn.params[j]? = some t → Tryd.pinned.checked.prog.wantsStandIn t = false := by
  obtain rfl : f = 7 := Option.some.inj ((show Tryd.prog.funcNamed "palinode/palinodelaw20.RowsMake" = some 7 by kernel_rfl).symm.trans hf) |>.symm
  obtain rfl : fn = Tryd.f7 := (Option.some.inj (Tryd.func7.symm.trans hfn)).symm
  refine ⟨by kernel_rfl, fun j t ht => ?_⟩
  rw [Tryd.params7] at ht
  have := Array.mem_of_getElem? ht
  simp at this
  subst this
  first | exact (show Tryd.prog.wantsStandIn 41 = false by kernel_rfl)
theorem rowsMake_card : Rows.RowsMakeCardSaid :=
  Claim7.holds_tied_plain_at .later [] _ _ _ _ rowsMake_said (fun _ h => by cases h) (by kernel_rfl) (fun _ h => by cases h) rowsMake_row_tie rfl ⟨rfl, rfl⟩ (by kernel_rfl) rfl rowsMake_plain (by kernel_rfl)
end Go.Proofs.YtaecafagmncmiaaDoor
