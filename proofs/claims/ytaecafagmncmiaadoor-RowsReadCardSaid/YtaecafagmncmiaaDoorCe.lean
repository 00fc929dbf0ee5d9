/-
  RowsRead answers true for every two texts, every kind and every list of parts, and leaves its arguments as they were; the card ties the two listed library tables to the program's text. (No further condition.)
-/
import Derived.Test.YtaecafagmncmiaaDoorCards
import Derived.Test.YtaecafagmncmiaaDoorTie
import Derived.Test.YtaecafagmncmiaaDoorCb
import Derived.Test.YtaecafagmncmiaaDoorLv
import Derived.Test.YtaecafagmncmiaaDoorLe
namespace Go.Proofs.YtaecafagmncmiaaDoor
open Go.RowKit Go.ChangeShapes Go.WideShapes Go.ChangeAt Go.Deep Go.Joins Pu

set_option maxRecDepth 100000 in
theorem rowsRead_contract (H : Type) (enc : TypeId × Value → H) (W : World) (base : Nat) (args : Array Value) (ds gs : List (DataW H)) (before : List MemPlace)
    (hval : ∀ (j : Nat) t v, Tryd.f3.params[j]? = some t → args[j]? = some v → Value.okWide Tryd.prog W .any base t v)
    (hW : DataW.Whole enc Tryd.prog Tryd.f3.params.toList Rows.rowsReadSpec.vars false W args.toList ds gs before) (hsz : (DataW.weightsEach Tryd.prog (Tryd.f3.params.toList ++ []) (ds ++ gs)).all (· ≤ reachBytes) = true) (hsh : W.ShapedOpen Tryd.prog) :
    Calls Tryd.prog 3 args W fun e W' => ∃ v, e = .returned v ∧ Rows.rowsReadSpec.post enc Tryd.prog Tryd.f3 false true false false W args v W' := by
  have hW' := hW
  obtain ⟨p, q, hA0, hV, rfl, hfz, hnd⟩ := hW
  have hA : DataW.TrodAll enc Tryd.prog W 0 (fun _ => true) true Tryd.f3.params.toList args.toList ds p := hA0
  rw [Tryd.params3] at hA hval hsz
  obtain ⟨v0, vs0, d0, ds0, p0, q0, hargs, rfl, rfl, h0, r0⟩ := trodAll_cons hA
  obtain ⟨v1, vs1, d1, ds1, p1, q1, rfl, rfl, rfl, h1, r1⟩ := trodAll_cons r0
  obtain ⟨v2, vs2, d2, ds2, p2, q2, rfl, rfl, rfl, h2, r2⟩ := trodAll_cons r1
  obtain ⟨v3, vs3, d3, ds3, p3, q3, rfl, rfl, rfl, h3, r3⟩ := trodAll_cons r2
  obtain ⟨rfl, rfl, rfl⟩ := trodAll_nil r3
  obtain rfl : args = #[v0, v1, v2, v3] := by cases args; simp_all
  obtain ⟨rfl, rfl⟩ := trodVars_none hV
  obtain ⟨s0, rfl, hl0⟩ := open_str (hval 0 9 v0 rfl rfl) h0
  obtain ⟨s1, rfl, hl1⟩ := open_str (hval 1 9 v1 rfl rfl) h1
  obtain ⟨s2, rfl, hl2⟩ := open_str (hval 2 9 v2 rfl rfl) h2
  obtain ⟨A3, c3, l3, rfl, hlc3, hcm3, hr3, hwt3⟩ := open_parts (hval 3 22 v3 rfl rfl) h3
  refine (rowsRead_walk s0 s1 s2 A3 c3 l3 W hl0 hl1 hr3 (parts_fit hsz 3 rfl rfl hwt3) (glob_of hsh)).mono fun e W' ⟨he, hb⟩ => ?_
  subst he
  exact ⟨_, rfl, law_post (tb := 4) lawLaid rfl (by
    rw [Tryd.params3]; intro t ht; simp at ht
    rcases ht with rfl | rfl <;> exact ⟨by kernel_rfl, by decide +kernel⟩) (by kernel_rfl) Tryd.underlying4 hW' rfl rfl rfl hb⟩

/-- the witness's arguments -/
def rowsReadArgs : Array Value := #[(.string ⟨#[]⟩ : Value), (.string ⟨#[]⟩ : Value), (.string ⟨#[]⟩ : Value), (.slice none 0 0 : Value)]
set_option maxRecDepth 100000 in
theorem rowsRead_laid (os : Os) : laidMet Tryd.prog Rows.rowsReadRow.laid ((laidW os rowsReadArgs).forCall (fun _ _ => 0) ⟨#[], rowsReadArgs, []⟩).memory :=
  laidMet_of_run' 8 (by kernel_rfl) (by kernel_rfl)
theorem rowsRead_reads (os : Os) {H : Type} (enc : TypeId × Value → H) : ∃ places, DataW.whole enc Tryd.prog ((laidW os rowsReadArgs).forCall (fun _ _ => 0) ⟨#[], rowsReadArgs, []⟩).memory Tryd.f3.params.toList Rows.rowsReadSpec.vars false rowsReadArgs.toList 8 = some ([.lit (.string []), .lit (.string []), .lit (.string []), .nil], [], places) :=
  ⟨[], by kernel_rfl⟩
set_option maxRecDepth 100000 in
theorem rowsRead_lifted (os : Os) (started : os.Started) (H : Type) (enc : TypeId × Value → H) (F : Stop.Interp) :
    ReturnsInHanded {} Tryd.checked os 3 .any ((OpenSpec.ofChange Rows.rowsReadSpec).preRow enc Tryd.prog Tryd.f3 Rows.rowsReadRow.domain false Rows.rowsReadRow.laid) (((OpenSpec.ofChange Rows.rowsReadSpec).at F).post enc Tryd.prog Tryd.f3 false true false false) := by
  obtain ⟨places, hx⟩ := rowsRead_reads os enc
  refine returnsInHanded_of_row (C := Tryd.checked) (s := OpenSpec.ofChange Rows.rowsReadSpec) lawOwn started (by kernel_rfl) Tryd.func3
    (witness_row_at (enc := enc) (C := Tryd.checked) false (laidW os rowsReadArgs) rowsReadArgs rfl (by kernel_rfl) (by kernel_rfl) (by kernel_rfl)
      (OpenSpec.preRow_of_cond 8 hx (by kernel_rfl) (fun k hk => by cases hk) (by kernel_rfl) (rowsRead_laid os))) ?_
  intro W base args ds gs before hval hW _ _ hsz _ hsh _
  exact rowsRead_contract H enc W base args ds gs before hval hW hsz hsh
theorem rowsRead_said : Rows.RowsReadSaid :=
  OpenClaim.holds_of_cond 3 Tryd.f3 rfl rfl rfl rfl rfl rfl rfl ⟨rfl, rfl, rfl, rfl, rfl⟩ rfl rfl rfl rfl rfl (by kernel_rfl) Tryd.func3 (by kernel_rfl)
    (of_decide_eq_true (by kernel_rfl)) (by unfold Func.isWrapper; first | (rw [if_pos (by decide +kernel)]; kernel_rfl) | (rw [if_neg (by decide +kernel)]; exact ⟨rfl, rfl⟩))
    (fun os started H enc _ F => by rw [OpenClaim.pre_eq_preRow]; exact rowsRead_lifted os started H enc F)
theorem rowsRead_plain (f : FuncId) (fn : Func) (hf : Tryd.pinned.checked.prog.funcNamed "palinode/palinodelaw20.RowsRead" = some f) (hfn : Tryd.pinned.checked.prog.funcs[f]? = some fn) :
    true = Tryd.pinned.checked.prog.looks [] ∧ ∀ (j : Nat) t, fn.params[j]? = some t → Tryd.pinned.checked.prog.wantsStandIn t = false := by
  obtain rfl : f = 3 := Option.some.inj ((show Tryd.prog.funcNamed "palinode/palinodelaw20.RowsRead" = some 3 by kernel_rfl).symm.trans hf) |>.symm
  obtain rfl : fn = Tryd.f3 := (Option.some.inj (Tryd.func3.symm.trans hfn)).symm
  refine ⟨by kernel_rfl, fun j t ht => ?_⟩
  rw [Tryd.params3] at ht
  have := Array.mem_of_getElem? ht
  simp at this
  rcases this with rfl | rfl
  · exact (show Tryd.prog.wantsStandIn 9 = false by kernel_rfl)
  · exact (show Tryd.prog.wantsStandIn 22 = false by kernel_rfl)
theorem rowsRead_card : Rows.RowsReadCardSaid :=
  Claim7.holds_tied_plain_at .later [] _ _ _ _ rowsRead_said (fun _ h => by cases h) (by kernel_rfl) (fun _ h => by cases h) rowsRead_row_tie rfl ⟨rfl, rfl⟩ (by kernel_rfl) rfl rowsRead_plain (by kernel_rfl)
end Go.Proofs.YtaecafagmncmiaaDoor
