/-
  The walk of order.Split.
-/
import Derived.Test.YtaecafagmncmiaaDoorPx
namespace Go.Proofs.YtaecafagmncmiaaDoor
open Go.RowKit Pu

/-- a list of parts of the call's own, beside an error -/
def SpPost (base : Nat) (errof : Nat → Value) (S : Nat × List Part) (e : Ending) (w : World) : Prop :=
  ∃ v, e = .returned (.tuple #[v, errof S.1]) ∧ Ow w base 54 3 v S.2.length (S.2.flatMap parC)
theorem snoc_parC (acc : List Part) (q : Part) : acc.flatMap parC ++ (#[Value.bool q.text, .int .i64 q.n, .string (bs q.s)] : Array Value).toList = (acc ++ [q]).flatMap parC := by simp [parC]

set_option maxRecDepth 100000 in
set_option maxHeartbeats 2000000 in
theorem split_any (l : Bs) (w : World) (hl : l.length ≤ 9223372036854775807) :
    Calls Tryd.prog 35 #[.string (bs l)] w fun e w' => SpPost w.heap.size errv (splitB l) e w' ∧ Below w.heap.size w w' := by
  by_cases hlong : 80 < l.length
  · have hS : splitB l = (5, []) := by unfold splitB; rw [if_pos hlong]
    have HF : Hid (SpPost w.heap.size errv (splitB l) (.returned (.tuple #[.slice none 0 0, .iface 68 (.int .i64 5)])) w) := by rw [hS]; exact ⟨_, rfl, Ow.nil _ _ _ _⟩
    clear hS
    go_enter Tryd.func35, Tryd.ntmps35
    go_wp2
    go_ret2
    exact ⟨HF.out, Below.refl _ _⟩
  · have hS : splitB l = splitF (l.length + 1) [] l := by unfold splitB; rw [if_neg hlong]
    rw [hS]
    generalize hSS : splitF (l.length + 1) [] l = S
    have HSS := Lib.hid hSS
    have hl80 : l.length ≤ 80 := by omega
    clear hS hSS hlong hl
    go_enter Tryd.func35, Tryd.ntmps35
    go_wp2
    go_loopw [0, 4] (fun k v wr => ∃ (f : Nat) (acc : List Part) (m : Bs), k = .string (bs m) ∧ m.length < f ∧ acc.length + m.length ≤ 80 ∧ splitF f acc m = S ∧ Ow wr w.heap.size 54 3 v acc.length (acc.flatMap parC) ∧ Below w.heap.size w wr) (fun k _ _ => (match k with | .string s => s.size | _ => 0))
    case atStart => exact ⟨l.length + 1, [], l, rfl, by omega, by simpa using hl80, HSS.out, Ow.nil _ _ _ _, Below.refl _ _⟩
    case round =>
      obtain ⟨f, acc, m, rfl, hf, hal, hsp, how, hbw⟩ := hrel
      obtain ⟨A4, c4, rfl, _⟩ := how.rd
      have HO := Lib.hid how
      have HSP := Lib.hid hsp
      clear how hsp
      cases m with
      | nil =>
        have hS0 : S = (0, acc) := by rw [← HSP.out]; exact splitF_nil f acc
        have HS0 := Lib.hid hS0
        clear hS0
        go_wp2
        go_ret2
        exact ⟨⟨_, by rw [HS0.out]; rfl, by rw [HS0.out]; exact HO.out⟩, hbw⟩
      | cons c r =>
        have hne : c :: r ≠ [] := by simp
        have hrest := partR_rest c r
        have hpart := part_any (c :: r)
        obtain ⟨f, rfl⟩ : ∃ f', f = f' + 1 := ⟨f - 1, by omega⟩
        by_cases he : (partR (c :: r)).1 = 0
        · have hgo := splitF_go (f := f) (acc := acc) hne he
          rw [HSP.out] at hgo
          rcases hpr : partR (c :: r) with ⟨er, q, t⟩
          rw [hpr] at hrest hpart he hgo
          simp only at hrest hpart he hgo
          subst he
          have HP := Lib.hid hpart
          have HG := Lib.hid hgo
          have hlt : t.length < r.length + 1 := by omega
          have hal2 : acc.length + t.length + 1 ≤ 80 := by simp at hal; omega
          have hft : t.length < f := by simp at hf; omega
          simp only [List.length_cons] at hal
          have e0 : errv 0 = .nilIface := rfl
          clear hpart hgo hpr hf hne
          go_wp2_with (first
            | (go_at_call 62; refine (HP.out _ (by simp) (by simp; omega)).mono ?_; rintro e w1 ⟨⟨q', hq', rfl⟩, hb1⟩; have HQ := Lib.hid (hq' rfl); clear hq'; have hbw1 := below_tr hbw hb1)
            | (at_builtin; refine wpList_lits tPart rfl _ _ rfl w.heap.size (.slice A4 acc.length c4) acc.length 1 _ (acc.flatMap parC) #[.bool q'.text, .int .i64 q'.n, .string (bs q'.s)] rfl rfl (by simp) ((HO.out.below hb1).alloc _) rfl (by simp [Value.oneCell']) (by omega) (by omega) (below_al hbw1 _).size ?_; intro v2 w2 ho2 hg2 hw2 hb2))
          go_roundw
          case rel => exact ⟨f, acc ++ [q'], t, rfl, hft, by simp; omega, by rw [HQ.out]; exact HG.out.symm, (ho2.cast (by simp) (snoc_parC acc q')), (below_al hbw1 _).trans hb2⟩
          case measure => simp [bs_size]; omega
        · have herr := splitF_err (f := f) (acc := acc) hne he
          rw [HSP.out] at herr
          rcases hpr : partR (c :: r) with ⟨er, q, t⟩
          rw [hpr] at hrest hpart he herr
          simp only at hrest hpart he herr
          have HP := Lib.hid hpart
          have HE := Lib.hid herr
          have e0 := errv_pos he
          simp only [List.length_cons] at hal
          clear hpart herr hpr hf hne he
          go_wp2_with (first
            | (go_at_call 62; refine (HP.out _ (by simp) (by simp; omega)).mono ?_; rintro e w1 ⟨⟨q', hq', rfl⟩, hb1⟩; clear hq'; have hbw1 := below_tr hbw hb1))
          go_ret2
          exact ⟨⟨_, by rw [HE.out, e0]; rfl, by rw [HE.out]; exact Ow.nil _ _ _ _⟩, below_al hbw1 _⟩
end Go.Proofs.YtaecafagmncmiaaDoor
