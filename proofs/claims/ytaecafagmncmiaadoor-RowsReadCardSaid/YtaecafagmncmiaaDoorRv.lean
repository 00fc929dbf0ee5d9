/-
  The walks of rows.text, rows.number, rows.fields, rows.value, rows.Key.
-/
import Derived.Test.YtaecafagmncmiaaDoorQk
import Derived.Test.YtaecafagmncmiaaDoorPu6
namespace Go.Proofs.YtaecafagmncmiaaDoor
open Go.RowKit Pu

theorem tInt : ElT Tryd.prog 80 3 (.int .i64 0) 1 8 := ⟨Tryd.underlying80, by kernel_rfl, rfl, by decide⟩
theorem tChg : ElT Tryd.prog 41 49 (.agg #[.string ⟨#[]⟩, .bool false, .string ⟨#[]⟩]) 3 40 := ⟨Tryd.underlying41, by kernel_rfl, rfl, by decide⟩

theorem results_c {P : Program} {fn : Func} {p : Tmp} {ty : TypeId} (h : fn.results = #[.cell p ty]) (tmps : Array Value) (w : World) (g : Nat) (t' : TypeId) (cs : Array Value) (fr : Nat × Nat) (d : TypeDesc)
    (hp : tmps.getD p undef = .pointer (some ⟨g, 0, none⟩)) (hg : w.heap[g]? = some (.cells cs t' fr))
    (hu : P.underlying ty = some d) (hd : (match d with | .struct _ | .array _ _ => true | _ => false) = true) (hi : (P.info? ty).map (·.size) = some cs.size) :
    (results fn tmps).run P w = .ok (.agg cs) w := by
  have hp' : tmps[p]?.getD undef = .pointer (some ⟨g, 0, none⟩) := by simpa using hp
  simp [results, h, hp', asAddr, run_loadVar_row w g t' ty cs fr d hg hu hd hi]

def partV (p : Part) : Value := .agg #[.bool p.text, .int .i64 p.n, .string (bs p.s)]
def instV (x : Inst) : Value := .agg #[.string (bs x.id), .string (bs x.dfn), .int .i64 x.status, .int .i64 x.at_, .int .i64 x.tries, .int .i64 x.due, .bool x.out]
def chgC (c : Chg) : List Value := [.string (bs c.key), .bool c.drop, .string (bs c.value)]
def ints (l : List Int) : List Value := l.map fun n => .int .i64 n
theorem chgC_len (c : Chg) : (chgC c).length = 3 := rfl
theorem chgC_one (c : Chg) : ∀ u ∈ chgC c, u.oneCell' = true := by
  intro u hu
  simp [chgC] at hu
  rcases hu with rfl | rfl | rfl <;> rfl

set_option maxRecDepth 100000 in
set_option maxHeartbeats 1000000 in
theorem rtext_any (s : Bs) (w : World) : Calls Tryd.prog 40 #[.string (bs s)] w fun e w' => e = .returned (.agg #[.bool true, .int .i64 0, .string (bs s)]) ∧ Below w.heap.size w w' := by
  have hq : ∀ w, (Instr.build 54 #[(0, .bool true), (2, .string (bs s))]).run Tryd.prog w = .ok (.agg #[.bool true, .int .i64 0, .string (bs s)]) w := fun _ => by kernel_rfl
  go_enter Tryd.func40, Tryd.ntmps40
  go_wp2
  refine bodyPost_ret (results_c rfl _ _ w.heap.size _ _ _ _ rfl (heap_alloc_new w _) Tryd.underlying54 rfl (by kernel_rfl)) rfl ?_
  exact ⟨rfl, below_al (Below.refl _ _) _⟩
set_option maxRecDepth 100000 in
set_option maxHeartbeats 1000000 in
theorem rnumber_any (n : Int) (w : World) : Calls Tryd.prog 51 #[.int .i64 n] w fun e w' => e = .returned (.agg #[.bool false, .int .i64 n, .string ⟨#[]⟩]) ∧ Below w.heap.size w w' := by
  have hq : ∀ w, (Instr.build 54 #[(1, .int .i64 n)]).run Tryd.prog w = .ok (.agg #[.bool false, .int .i64 n, .string ⟨#[]⟩]) w := fun _ => by kernel_rfl
  go_enter Tryd.func51, Tryd.ntmps51
  go_wp2
  refine bodyPost_ret (results_c rfl _ _ w.heap.size _ _ _ _ rfl (heap_alloc_new w _) Tryd.underlying54 rfl (by kernel_rfl)) rfl ?_
  exact ⟨rfl, below_al (Below.refl _ _) _⟩

def FiPost (base : Nat) (x : Inst) (e : Ending) (w : World) : Prop := ∃ v, e = .returned v ∧ Ow w base 3 1 v 5 (ints (fieldsI x))
theorem fieldsI_out {x : Inst} {b : Bool} (h : x.out = b) : ints (fieldsI x) = [.int .i64 x.status, .int .i64 x.at_, .int .i64 x.tries, .int .i64 x.due, .int .i64 (if b then 1 else 0)] := by
  unfold fieldsI; rw [h]; rfl

set_option maxRecDepth 100000 in
set_option maxHeartbeats 1000000 in
theorem fields_any (x : Inst) (w : World) : Calls Tryd.prog 49 #[instV x] w fun e w' => FiPost w.heap.size x e w' ∧ Below w.heap.size w w' := by
  unfold instV
  cases ho : x.out with
  | true =>
    have hf := fieldsI_out ho
    have HF := Lib.hid hf
    clear hf ho
    go_enter Tryd.func49, Tryd.ntmps49
    go_wp2
    go_ret
    refine ⟨⟨_, rfl, ?_⟩, below_al (below_al (Below.refl _ _) _) _⟩
    have := Ow.lit (base := w.heap.size) (e := 3) (size := 1) (w.alloc (.cells #[.string (bs x.id), .string (bs x.dfn), .int .i64 x.status, .int .i64 x.at_, .int .i64 x.tries, .int .i64 x.due, .bool true] 25)) #[.int .i64 x.status, .int .i64 x.at_, .int .i64 x.tries, .int .i64 x.due, .int .i64 1] 5 (by simp) (by simp [maxLen]) rfl
    rw [HF.out]
    simpa using this
  | false =>
    have hf := fieldsI_out ho
    have HF := Lib.hid hf
    clear hf ho
    go_enter Tryd.func49, Tryd.ntmps49
    go_wp2
    go_ret
    refine ⟨⟨_, rfl, ?_⟩, below_al (below_al (Below.refl _ _) _) _⟩
    have := Ow.lit (base := w.heap.size) (e := 3) (size := 1) (w.alloc (.cells #[.string (bs x.id), .string (bs x.dfn), .int .i64 x.status, .int .i64 x.at_, .int .i64 x.tries, .int .i64 x.due, .bool false] 25)) #[.int .i64 x.status, .int .i64 x.at_, .int .i64 x.tries, .int .i64 x.due, .int .i64 0] 5 (by simp) (by simp [maxLen]) rfl
    rw [HF.out]
    simpa using this

theorem inst_cells {W : World} {g : Nat} {t : TypeId} {fr : Nat × Nat} {x : Inst} (h : W.heap[g]? = some (.cells #[.string (bs x.id), .string (bs x.dfn), .int .i64 x.status, .int .i64 x.at_, .int .i64 x.tries, .int .i64 x.due, .bool x.out] t fr)) :
    W.cell? ⟨g, 0, none⟩ = some (.string (bs x.id)) ∧ W.cell? ⟨g, 1, none⟩ = some (.string (bs x.dfn)) ∧ W.cell? ⟨g, 2, none⟩ = some (.int .i64 x.status) ∧ W.cell? ⟨g, 3, none⟩ = some (.int .i64 x.at_) ∧ W.cell? ⟨g, 4, none⟩ = some (.int .i64 x.tries) ∧ W.cell? ⟨g, 5, none⟩ = some (.int .i64 x.due) ∧ W.cell? ⟨g, 6, none⟩ = some (.bool x.out) :=
  ⟨cell_of_row W g 0 _ _ _ h, cell_of_row W g 1 _ _ _ h, cell_of_row W g 2 _ _ _ h, cell_of_row W g 3 _ _ _ h, cell_of_row W g 4 _ _ _ h, cell_of_row W g 5 _ _ _ h, cell_of_row W g 6 _ _ _ h⟩
theorem ints_at {l : List Int} {j : Nat} {n : Int} (h : l[j]? = some n) : (ints l)[j]? = some (.int .i64 n) := by simp [ints, h]

set_option maxRecDepth 100000 in
set_option maxHeartbeats 1000000 in
theorem value_any (x : Inst) (w : World) (hok : okI x = true) : Calls Tryd.prog 30 #[instV x] w fun e w' => e = .returned (.string (bs (instB x))) ∧ Below w.heap.size w w' := by
  have hna := nameB_len (okI_names hok).1
  have hnd := nameB_len (okI_names hok).2
  have hrow := fun c => row_any (some ⟨w.heap.size + 1, 0, none⟩) c [x.id, x.dfn] ((w.alloc (.cells #[.string (bs x.id), .string (bs x.dfn), .int .i64 x.status, .int .i64 x.at_, .int .i64 x.tries, .int .i64 x.due, .bool x.out] 25)).alloc (.cells #[.string (bs x.id), .string (bs x.dfn)] 9)) (by
    have := Rd.lit (size := 1) (w.alloc (.cells #[.string (bs x.id), .string (bs x.dfn), .int .i64 x.status, .int .i64 x.at_, .int .i64 x.tries, .int .i64 x.due, .bool x.out] 25)) #[.string (bs x.id), .string (bs x.dfn)] 9 2 rfl (by simp [maxLen])
    simpa [strs] using this) (by simp) (by intro s hs; simp at hs; rcases hs with rfl | rfl <;> omega) (by have := rowB_two hna.2 hnd.2; omega)
  change ∀ c, Calls _ _ #[.slice _ 2 c] _ _ at hrow
  have HROW := Lib.hid hrow
  have hfld := fields_any x
  unfold instV at hfld
  have HFLD := Lib.hid hfld
  have HOK := Lib.hid hok
  have h5 : instB x = instTo x 5 := by unfold instB; rfl
  rw [h5]
  have HB0 := Lib.hid (below_al (Below.refl _ w) (.cells #[.string (bs x.id), .string (bs x.dfn), .int .i64 x.status, .int .i64 x.at_, .int .i64 x.tries, .int .i64 x.due, .bool x.out] 25))
  have HBX := Lib.hid (heap_alloc_new w (.cells #[.string (bs x.id), .string (bs x.dfn), .int .i64 x.status, .int .i64 x.at_, .int .i64 x.tries, .int .i64 x.due, .bool x.out] 25))
  have h0 := instTo_zero x
  have hrl := instTo_len hok 0 (by omega)
  rw [h0] at hrl
  have HT0 := Lib.hid h0
  generalize rowB [x.id, x.dfn] = R at hrl HT0 HROW
  have hsz1 : (w.alloc (.cells #[.string (bs x.id), .string (bs x.dfn), .int .i64 x.status, .int .i64 x.at_, .int .i64 x.tries, .int .i64 x.due, .bool x.out] 25)).heap.size = w.heap.size + 1 := by simp
  clear hok hrow hfld h5 h0 hna hnd
  unfold instV
  go_enter Tryd.func30, Tryd.ntmps30
  go_wp2_with (first
    | (go_at_call 58; refine (HROW.out _).mono ?_; rintro e w1 ⟨rfl, hb1⟩; have hx1 := (hb1.block w.heap.size (by simp; omega)).trans ((heap_alloc2_old w _ _).trans rfl); obtain ⟨c0, c1, c2, c3, c4, c5, c6⟩ := inst_cells hx1; have hbw1 := below_tr (below_al (HB0.out) _) hb1; have HX1 := Lib.hid hx1; clear hx1)
    | (go_at_call 49; refine (HFLD.out _).mono ?_; rintro e w2 ⟨⟨v2, rfl, ho2⟩, hb2⟩; obtain ⟨A2, k2, rfl, hr2⟩ := ho2.rd; have hbw2 := below_tr hbw1 hb2; have HR2 := Lib.hid hr2; clear hr2 ho2 c0 c1 c2 c3 c4 c5 c6))
  go_loopw [3, 21] (fun s i wr => ∃ j : Nat, j ≤ 5 ∧ i = .int .i64 j ∧ s = .string (bs (instTo x j)) ∧ Below w2.heap.size w2 wr) (fun _ i _ => 5 - (intOf i).toNat)
  case atStart => exact ⟨0, by omega, rfl, by rw [HT0.out], Below.refl _ _⟩
  case round =>
    obtain ⟨j, hj, rfl, rfl, hbr⟩ := hrel
    by_cases hlt : j < 5
    · obtain ⟨n, hn⟩ : ∃ n, (fieldsI x)[j]? = some n := ⟨_, List.getElem?_eq_getElem (by rw [fieldsI_len]; omega)⟩
      have hrng := okI_at HOK.out hn
      have hsucc := instTo_succ hn
      have hln := instTo_len HOK.out j hj
      obtain ⟨b, off, rfl, hb, hcell⟩ := (HR2.out.below hbr).at_ hlt
      have hc := hcell j _ (ints_at hn)
      obtain ⟨m, rfl⟩ := Int.eq_ofNat_of_zero_le hrng.1
      rw [Int.toNat_natCast] at hsucc
      have hnum := fun w => num_any m w (by unfold maxN; omega)
      have hnl := num_short hrng
      rw [Int.toNat_natCast] at hnl
      have hcat := bs_app (instTo x j) (num m)
      have HSUCC := Lib.hid hsucc
      have HNUM := Lib.hid hnum
      have hm := hrng.2
      have e0 : errv 0 = .nilIface := rfl
      clear hcell hn hsucc hnum hrng
      go_wp2_with (first
        | (go_at_call 59; refine (HNUM.out _).mono ?_; rintro e w3 ⟨rfl, hb3⟩; have hbr3 := below_tr hbr hb3))
      go_roundw
      case rel => exact ⟨j + 1, by omega, by go_num, by rw [HSUCC.out], hbr3⟩
      case measure => simp [intOf]; omega
    · obtain rfl : j = 5 := by omega
      go_wp2
      go_ret
      exact ⟨rfl, below_tr hbw2 hbr⟩

set_option maxRecDepth 100000 in
set_option maxHeartbeats 1000000 in
theorem rkey_any (kind : Bs) (A : Option Addr) (c : Nat) (ps : List Part) (w : World) (hr : Rd w 3 A ps.length (ps.flatMap parC)) (hg : Glob w) (hn : ps.length ≤ 1099511627776) :
    Calls Tryd.prog 16 #[.string (bs kind), .slice A ps.length c] w fun e w' => e = .returned (.tuple #[.string (bs (keyB (textP kind :: ps)).2), errv (keyB (textP kind :: ps)).1]) ∧ Below w.heap.size w w' := by
  have hkey := fun A c W => key_any A c (textP kind :: ps) W
  simp only [List.length_cons] at hkey
  have HKEY := Lib.hid hkey
  have HR := Lib.hid hr
  have HG := Lib.hid hg
  have hcells : (#[Value.bool true, .int .i64 0, .string (bs kind)] : Array Value).toList ++ ps.flatMap parC = (textP kind :: ps).flatMap parC := by simp [parC, textP]
  have HC := Lib.hid hcells
  generalize keyB (textP kind :: ps) = S at HKEY ⊢
  clear hkey hr hg hcells
  go_enter Tryd.func16, Tryd.ntmps16
  go_wp2_with (first
    | (go_at_call 40; refine (rtext_any kind _).mono ?_; rintro e w1 ⟨rfl, hb1⟩; have HL := Lib.hid (Ow.lit (base := w.heap.size) (e := 54) (size := 3) w1 #[.bool true, .int .i64 0, .string (bs kind)] 1 hb1.size (by simp [maxLen]) rfl); have hb2 := below_al hb1 (.cells #[.bool true, .int .i64 0, .string (bs kind)] 54))
    | (refine wpList_pushes tPart rfl _ _ rfl w.heap.size (.slice (some ⟨w1.heap.size, 0, none⟩) 1 1) 1 _ A ps.length c (ps.flatMap parC) rfl rfl HL.out (HR.out.below hb2) (parCs_one _) (by omega) (by omega) hb2.size ?_; intro v4 w4 ho4 hg4 hw4 hb4; have ho5 := ho4.cast (Nat.add_comm 1 ps.length) HC.out; obtain ⟨A5, c5, rfl, hr5⟩ := ho5.rd; have HR5 := Lib.hid hr5; have hbw4 := hb2.trans hb4; clear ho4 hr5)
    | (go_at_call 39; refine (HKEY.out A5 c5 _ HR5.out (HG.out.below hbw4)).mono ?_; rintro e w6 ⟨rfl, hb6⟩))
  go_ret2
  exact ⟨rfl, below_tr hbw4 hb6⟩
end Go.Proofs.YtaecafagmncmiaaDoor
