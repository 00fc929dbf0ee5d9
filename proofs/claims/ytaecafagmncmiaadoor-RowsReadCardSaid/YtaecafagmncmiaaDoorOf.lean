/-
  The walk of rows.Of.
-/
import Derived.Test.YtaecafagmncmiaaDoorRc
import Derived.Test.YtaecafagmncmiaaDoorPu8
import Derived.Deep.CutRange
import Derived.Deep.DeepFit
import Derived.Deep.RegionWith
namespace Go.Proofs.YtaecafagmncmiaaDoor
open Go.RowKit Pu

def ofB (x : Inst) : Nat × List Chg := if okI x = true then (0, rowsI x) else (1, [])
/-- a list of rows of the call's own, beside an error -/
def ChPost (base : Nat) (S : Nat × List Chg) (e : Ending) (w : World) : Prop :=
  ∃ v, e = .returned (.tuple #[v, errv S.1]) ∧ Ow w base 49 3 v S.2.length (S.2.flatMap chgC)
theorem okI_cases (x : Inst) : okI x = (nameB x.id && nameB x.dfn && !(fieldsI x).any badN) := by unfold okI; rfl

set_option maxRecDepth 100000 in
set_option maxHeartbeats 2000000 in
theorem of_bad (x : Inst) (w : World) (hl1 : x.id.length ≤ 9223372036854775807) (hl2 : x.dfn.length ≤ 9223372036854775807) (hbad : okI x = false) :
    Calls Tryd.prog 22 #[instV x] w fun e w' => ChPost w.heap.size (1, []) e w' ∧ Below w.heap.size w w' := by
  rw [okI_cases] at hbad
  have hn1 := fun w => name_any x.id w hl1
  have hn2 := fun w => name_any x.dfn w hl2
  have HF := Lib.hid (fields_any x)
  have e1 : errv 1 = .iface 68 (.int .i64 1) := errv_pos (by omega)
  have HE := Lib.hid e1
  have HBX := Lib.hid (heap_alloc_new w (.cells #[.string (bs x.id), .string (bs x.dfn), .int .i64 x.status, .int .i64 x.at_, .int .i64 x.tries, .int .i64 x.due, .bool x.out] 25))
  have HB0 := Lib.hid (below_al (Below.refl _ w) (.cells #[.string (bs x.id), .string (bs x.dfn), .int .i64 x.status, .int .i64 x.at_, .int .i64 x.tries, .int .i64 x.due, .bool x.out] 25))
  have hlt : w.heap.size < (w.alloc (.cells #[.string (bs x.id), .string (bs x.dfn), .int .i64 x.status, .int .i64 x.at_, .int .i64 x.tries, .int .i64 x.due, .bool x.out] 25)).heap.size := by simp
  unfold instV at HF ⊢
  clear e1 hl1 hl2
  cases h1 : nameB x.id with
  | false =>
    rw [h1] at hn1
    have HN1 := Lib.hid hn1
    clear hbad h1 hn1 hn2
    go_enter Tryd.func22, Tryd.ntmps22
    go_wp2_with (first | (go_at_call 36; go_fit (HN1.out _); rintro e w1 ⟨rfl, hb1⟩))
    go_ret2
    exact ⟨⟨_, by rw [HE.out]; rfl, Ow.nil _ _ _ _⟩, below_tr HB0.out hb1⟩
  | true =>
    rw [h1] at hn1 hbad
    have HN1 := Lib.hid hn1
    cases h2 : nameB x.dfn with
    | false =>
      rw [h2] at hn2
      have HN2 := Lib.hid hn2
      clear hbad h1 hn1 hn2 h2
      go_enter Tryd.func22, Tryd.ntmps22
      go_wp2_with (first | (go_at_call 36; go_fit (HN1.out _); rintro e w1 ⟨rfl, hb1⟩; obtain ⟨c0, c1, c2, c3, c4, c5, c6⟩ := inst_cells ((hb1.block w.heap.size hlt).trans HBX.out); have hbw1 := below_tr HB0.out hb1) | (go_at_call 36; go_fit (HN2.out _); rintro e w2 ⟨rfl, hb2⟩))
      go_ret2
      exact ⟨⟨_, by rw [HE.out]; rfl, Ow.nil _ _ _ _⟩, below_tr hbw1 hb2⟩
    | true =>
      rw [h2] at hn2 hbad
      have hany : (fieldsI x).any badN = true := by simpa using hbad
      have HN2 := Lib.hid hn2
      have hcf := fun A c W h => contf_any A c (fieldsI x) W h
      rw [hany] at hcf
      simp only [fieldsI_len] at hcf
      have HC := Lib.hid hcf
      clear hbad h1 hn1 hn2 h2 hany hcf
      go_enter Tryd.func22, Tryd.ntmps22
      go_wp2_with (first
        | (go_at_call 36; go_fit (HN1.out _); rintro e w1 ⟨rfl, hb1⟩; obtain ⟨c0, c1, c2, c3, c4, c5, c6⟩ := inst_cells ((hb1.block w.heap.size hlt).trans HBX.out); have hbw1 := below_tr HB0.out hb1)
        | (go_at_call 36; go_fit (HN2.out _); rintro e w2 ⟨rfl, hb2⟩; obtain ⟨d0, d1, d2, d3, d4, d5, d6⟩ := inst_cells ((hb2.block w.heap.size (Nat.lt_of_lt_of_le hlt hb1.size)).trans ((hb1.block w.heap.size hlt).trans HBX.out)); have hbw2 := below_tr hbw1 hb2)
        | (go_at_call 49; refine (HF.out _).mono ?_; rintro e w3 ⟨⟨v3, rfl, ho3⟩, hb3⟩; obtain ⟨A3, k3, rfl, hr3⟩ := ho3.rd; have hbw3 := below_tr hbw2 hb3; have HR3 := Lib.hid hr3; clear hr3 ho3)
        | (go_at_call 48; refine (HC.out A3 k3 _ HR3.out).mono ?_; rintro e w4 ⟨rfl, rfl⟩))
      go_ret2
      exact ⟨⟨_, by rw [HE.out]; rfl, Ow.nil _ _ _ _⟩, hbw3⟩

structure OfEnv (x : Inst) (b0 d o : Nat) (wb : World) : Prop where
  box : wb.heap[b0]? = some (.cells #[.string (bs x.id), .string (bs x.dfn), .int .i64 x.status, .int .i64 x.at_, .int .i64 x.tries, .int .i64 x.due, .bool x.out] 25)
  idr : wb.heap[d]? = some (.cells #[.bool true, .int .i64 0, .string (bs x.id)] 54)
  glob : Glob wb
  ne0 : b0 ≠ o
  ned : d ≠ o
  neg : 0 ≠ o
  lto : o < wb.heap.size
/-- the world between the rows -/
structure OfSt (o : Nat) (wb W : World) (acc : List Chg) : Prop where
  out : OutAt W wb.heap.size o acc
  bes : Beside wb.heap.size o wb W
theorem OfSt.drew {o : Nat} {wb W : World} {acc : List Chg} (h : OfSt o wb W acc) : OfSt o wb W.drew acc := ⟨h.out, h.bes.os, h.bes.tape, h.bes.output, h.bes.size, h.bes.block⟩
theorem OfSt.below {o : Nat} {wb W W' : World} {acc : List Chg} (h : OfSt o wb W acc) (hb : Below W.heap.size W W') : OfSt o wb W' acc := ⟨h.out.below hb rfl, h.bes.trans (Beside.of_below hb h.bes.size)⟩
theorem OfSt.alloc {o : Nat} {wb W : World} {acc : List Chg} (h : OfSt o wb W acc) (ob : Obj) : OfSt o wb (W.alloc ob) acc := h.below (below_al (Below.refl _ _) _)
theorem OfSt.box {x : Inst} {b0 d o : Nat} {wb W : World} {acc : List Chg} (E : OfEnv x b0 d o wb) (h : OfSt o wb W acc) : W.heap[b0]? = some (.cells #[.string (bs x.id), .string (bs x.dfn), .int .i64 x.status, .int .i64 x.at_, .int .i64 x.tries, .int .i64 x.due, .bool x.out] 25) := (h.bes.block b0 (Array.getElem?_eq_some_iff.1 E.box).1 E.ne0).trans E.box
theorem OfSt.idr {x : Inst} {b0 d o : Nat} {wb W : World} {acc : List Chg} (E : OfEnv x b0 d o wb) (h : OfSt o wb W acc) : W.cell? ⟨d, 0, none⟩ = some (.bool true) ∧ W.cell? ⟨d, 1, none⟩ = some (.int .i64 0) ∧ W.cell? ⟨d, 2, none⟩ = some (.string (bs x.id)) := by
  have hd := (h.bes.block d (Array.getElem?_eq_some_iff.1 E.idr).1 E.ned).trans E.idr
  exact ⟨cell_of_row W d 0 _ _ _ hd, cell_of_row W d 1 _ _ _ hd, cell_of_row W d 2 _ _ _ hd⟩
theorem OfSt.glob {x : Inst} {b0 d o : Nat} {wb W : World} {acc : List Chg} (E : OfEnv x b0 d o wb) (h : OfSt o wb W acc) : Glob W := by
  obtain ⟨m, hm⟩ := E.glob
  refine ⟨m, ?_⟩
  have hlt := World.block_lt_of_cell? wb _ hm
  have := h.bes.block _ hlt E.neg
  unfold World.cell? at hm ⊢
  rw [this]; exact hm
theorem OfSt.row {x : Inst} {b0 d o : Nat} {wb W : World} {acc : List Chg} (E : OfEnv x b0 d o wb) (h : OfSt o wb W acc) (kind : UInt8) (value : Bs) (A : Option Addr) (c : Nat) (ps : List Part) (hr : Rd W 3 A ps.length (ps.flatMap parC)) (hn : ps.length ≤ 10) (ha : acc.length ≤ 1000) :
    Calls Tryd.prog 50 #[.string (bs [kind]), .string (bs value), .slice A ps.length c, .pointer (some ⟨o, 0, none⟩)] W fun e w' => e = .returned (.tuple #[]) ∧ OfSt o wb w' (acc ++ [rowC kind ps value]) := by
  refine (row_closure [kind] value A c ps acc wb.heap.size o W hr (h.glob E) hn ha h.out E.lto h.bes.size).mono ?_
  rintro e w' ⟨h1, h2, h3⟩
  refine ⟨h1, ?_, h.bes.trans h3⟩
  unfold rowC
  exact h2
theorem rd_id (W : World) (s : Bs) : Rd (W.alloc (.cells #[.bool true, .int .i64 0, .string (bs s)] 54)) 3 (some ⟨W.heap.size, 0, none⟩) 1 ([textP s].flatMap parC) := Rd.lit (size := 3) W #[.bool true, .int .i64 0, .string (bs s)] 54 1 rfl (by simp [maxLen])
theorem rd_two (W : World) (b1 : Bool) (n1 : Int) (s1 : Bs) (b2 : Bool) (n2 : Int) (s2 : Bs) : Rd (W.alloc (.cells #[.bool b1, .int .i64 n1, .string (bs s1), .bool b2, .int .i64 n2, .string (bs s2)] 54)) 3 (some ⟨W.heap.size, 0, none⟩) 2 ([(⟨b1, n1, s1⟩ : Part), ⟨b2, n2, s2⟩].flatMap parC) := Rd.lit (size := 3) W #[.bool b1, .int .i64 n1, .string (bs s1), .bool b2, .int .i64 n2, .string (bs s2)] 54 2 rfl (by simp [maxLen])
theorem rd_one (W : World) (p : Part) : Rd (W.alloc (.cells #[.bool p.text, .int .i64 p.n, .string (bs p.s)] 54)) 3 (some ⟨W.heap.size, 0, none⟩) 1 ([p].flatMap parC) := Rd.lit (size := 3) W #[.bool p.text, .int .i64 p.n, .string (bs p.s)] 54 1 rfl (by simp [maxLen])

set_option maxRecDepth 100000 in
set_option maxHeartbeats 2000000 in
theorem of_ok (x : Inst) (w : World) (hl1 : x.id.length ≤ 9223372036854775807) (hl2 : x.dfn.length ≤ 9223372036854775807) (hok : okI x = true) (hg : Glob w) :
    Calls Tryd.prog 22 #[instV x] w fun e w' => ChPost w.heap.size (0, rowsI x) e w' ∧ Below w.heap.size w w' := by
  have hnm := okI_names hok
  have hn1 := fun w => name_any x.id w hl1
  have hn2 := fun w => name_any x.dfn w hl2
  rw [hnm.1] at hn1
  rw [hnm.2] at hn2
  have hany : (fieldsI x).any badN = false := by rw [okI_cases] at hok; simp [hnm] at hok; simpa using hok
  have hcf := fun A c W h => contf_any A c (fieldsI x) W h
  rw [hany] at hcf
  simp only [fieldsI_len] at hcf
  have HC := Lib.hid hcf
  have HN1 := Lib.hid hn1
  have HN2 := Lib.hid hn2
  have HF := Lib.hid (fields_any x)
  have HV := Lib.hid (fun W => value_any x W hok)
  have HBX := Lib.hid (heap_alloc_new w (.cells #[.string (bs x.id), .string (bs x.dfn), .int .i64 x.status, .int .i64 x.at_, .int .i64 x.tries, .int .i64 x.due, .bool x.out] 25))
  have HB0 := Lib.hid (below_al (Below.refl _ w) (.cells #[.string (bs x.id), .string (bs x.dfn), .int .i64 x.status, .int .i64 x.at_, .int .i64 x.tries, .int .i64 x.due, .bool x.out] 25))
  have hlt : w.heap.size < (w.alloc (.cells #[.string (bs x.id), .string (bs x.dfn), .int .i64 x.status, .int .i64 x.at_, .int .i64 x.tries, .int .i64 x.due, .bool x.out] 25)).heap.size := by simp
  have hmf : ∀ (fn : Fn) (first cap : Array Value) (w : World), (Instr.makeFunc fn first cap).run Tryd.prog w = .ok (.func fn first cap) w := fun _ _ _ _ => rfl
  unfold instV at HF HV ⊢
  clear hnm hn1 hn2 hany hcf hl1 hl2
  go_enter Tryd.func22, Tryd.ntmps22
  go_upto_region 7 with (first
    | (go_at_call 36; go_fit (HN1.out _); rintro e w1 ⟨rfl, hb1⟩; obtain ⟨c0, c1, c2, c3, c4, c5, c6⟩ := inst_cells ((hb1.block w.heap.size hlt).trans HBX.out); have hbw1 := below_tr HB0.out hb1)
    | (go_at_call 36; go_fit (HN2.out _); rintro e w2 ⟨rfl, hb2⟩; have hx2 := (hb2.block w.heap.size (Nat.lt_of_lt_of_le hlt hb1.size)).trans ((hb1.block w.heap.size hlt).trans HBX.out); clear c0 c1 c2 c3 c4 c5 c6; obtain ⟨c0, c1, c2, c3, c4, c5, c6⟩ := inst_cells hx2; have hbw2 := below_tr hbw1 hb2; have HX2 := Lib.hid hx2; clear hx2; have hlt2 : w.heap.size < w2.heap.size := Nat.lt_of_lt_of_le hlt (Nat.le_trans hb1.size hb2.size))
    | (go_at_call 49; refine (HF.out _).mono ?_; rintro e w3 ⟨⟨v3, rfl, ho3⟩, hb3⟩; obtain ⟨A3, k3, rfl, hr3⟩ := ho3.rd; have hbw3 := below_tr hbw2 hb3; have HR3 := Lib.hid hr3; have hx3 := (hb3.block w.heap.size hlt2).trans HX2.out; clear hr3 ho3 c0 c1 c2 c3 c4 c5 c6; obtain ⟨c0, c1, c2, c3, c4, c5, c6⟩ := inst_cells hx3; have HX3 := Lib.hid hx3; clear hx3; have hlt3 : w.heap.size < w3.heap.size := Nat.lt_of_lt_of_le hlt2 hb3.size)
    | (go_at_call 48; refine (HC.out A3 k3 _ HR3.out).mono ?_; rintro e w4 ⟨rfl, rfl⟩)
    | (go_at_call 40; refine (rtext_any _ _).mono ?_; rintro e w5 ⟨rfl, hb5⟩))
  have hlo : w3.heap.size < w5.heap.size := Nat.lt_of_lt_of_le (by simp) hb5.size
  have hwb : Below w.heap.size w (w5.alloc (.cells #[.bool true, .int .i64 0, .string (bs x.id)] 54)) := below_al (below_tr (below_al hbw3 _) hb5) _
  have hE : OfEnv x w.heap.size w5.heap.size w3.heap.size (w5.alloc (.cells #[.bool true, .int .i64 0, .string (bs x.id)] 54)) := by
    refine ⟨?_, heap_alloc_new _ _, hg.below hwb, by omega, by omega, ?_, by simp; omega⟩
    · rw [heap_alloc_old _ _ (by omega)]
      exact (hb5.block w.heap.size (by simp; omega)).trans ((heap_alloc_old _ _ hlt3).trans HX3.out)
    · obtain ⟨m, hm⟩ := hg
      have := World.block_lt_of_cell? w _ hm
      simp at this ⊢
      omega
  have hS : OfSt w3.heap.size (w5.alloc (.cells #[.bool true, .int .i64 0, .string (bs x.id)] 54)) (w5.alloc (.cells #[.bool true, .int .i64 0, .string (bs x.id)] 54)) [] := by
    refine ⟨⟨_, ?_, Ow.nil _ _ _ _⟩, Beside.refl _ _ _⟩
    rw [heap_alloc_old _ _ hlo]
    exact (hb5.block w3.heap.size (by simp)).trans (heap_alloc_new _ _)
  have ho1 : w.heap.size ≤ w3.heap.size := by omega
  clear HN1 HN2 HF HC HBX HB0 hlt hb1 hb2 hb3 hb5 hbw1 hbw2 hbw3 HX2 HX3 hlt2 hlt3 HR3 hg
  generalize w5.alloc (.cells #[.bool true, .int .i64 0, .string (bs x.id)] 54) = wb at hwb hE hS ⊢
  generalize w3.heap.size = o at hE hS ho1 ⊢
  generalize w5.heap.size = d at hE ⊢
  clear c0 c1 c2 c3 c4 c5 c6
  have HR1 : Hid (∀ W A c, OfSt o wb W [] → Rd W 3 A 1 ([textP x.id].flatMap parC) → Calls Tryd.prog 50 #[.string ⟨#[115]⟩, .string (bs (instB x)), .slice A 1 c, .pointer (some ⟨o, 0, none⟩)] W fun e w' => e = .returned (.tuple #[]) ∧ OfSt o wb w' ([] ++ [rowC 115 [textP x.id] (instB x)])) :=
    fun W A c hs hr => OfSt.row hE hs 115 (instB x) A c [textP x.id] hr (by simp) (by simp)
  have hsid := fun W => rd_id W x.id
  have HID := Lib.hid hsid
  have hbox := fun W (acc : List Chg) (h : OfSt o wb W acc) => inst_cells (h.box hE)
  have hidr := fun W (acc : List Chg) (h : OfSt o wb W acc) => h.idr hE
  have HBOX := Lib.hid hbox
  have HIDR := Lib.hid hidr
  have HS := Lib.hid hS
  clear hsid hbox hidr hS
  have HK2 : Hid (∀ W A c, OfSt o wb W ([] ++ [rowC 115 [textP x.id] (instB x)]) → Rd W 3 A 2 ([numP x.status, textP x.id].flatMap parC) → Calls Tryd.prog 50 #[.string ⟨#[105]⟩, .string ⟨#[]⟩, .slice A 2 c, .pointer (some ⟨o, 0, none⟩)] W fun e w' => e = .returned (.tuple #[]) ∧ OfSt o wb w' ([] ++ [rowC 115 [textP x.id] (instB x)] ++ [rowC 105 [numP x.status, textP x.id] []])) :=
    fun W A c hs hr => OfSt.row hE hs 105 [] A c [numP x.status, textP x.id] hr (by simp) (by simp)
  have HK3 : Hid (∀ W A c, OfSt o wb W ([] ++ [rowC 115 [textP x.id] (instB x)] ++ [rowC 105 [numP x.status, textP x.id] []]) → Rd W 3 A 2 ([textP x.dfn, textP x.id].flatMap parC) → Calls Tryd.prog 50 #[.string ⟨#[100]⟩, .string ⟨#[]⟩, .slice A 2 c, .pointer (some ⟨o, 0, none⟩)] W fun e w' => e = .returned (.tuple #[]) ∧ OfSt o wb w' ([] ++ [rowC 115 [textP x.id] (instB x)] ++ [rowC 105 [numP x.status, textP x.id] []] ++ [rowC 100 [textP x.dfn, textP x.id] []])) :=
    fun W A c hs hr => OfSt.row hE hs 100 [] A c [textP x.dfn, textP x.id] hr (by simp) (by simp)
  have HK4 : Hid (∀ W A c acc, acc.length ≤ 900 → OfSt o wb W acc → Rd W 3 A 1 ([textP x.id].flatMap parC) → Calls Tryd.prog 50 #[.string ⟨#[111]⟩, .string ⟨#[]⟩, .slice A 1 c, .pointer (some ⟨o, 0, none⟩)] W fun e w' => e = .returned (.tuple #[]) ∧ OfSt o wb w' (acc ++ [rowC 111 [textP x.id] []])) :=
    fun W A c acc ha hs hr => OfSt.row hE hs 111 [] A c [textP x.id] hr (by simp) (by omega)
  have HK5 : Hid (∀ W A c acc, acc.length ≤ 900 → OfSt o wb W acc → Rd W 3 A 2 ([numP x.due, textP x.id].flatMap parC) → Calls Tryd.prog 50 #[.string ⟨#[116]⟩, .string ⟨#[]⟩, .slice A 2 c, .pointer (some ⟨o, 0, none⟩)] W fun e w' => e = .returned (.tuple #[]) ∧ OfSt o wb w' (acc ++ [rowC 116 [numP x.due, textP x.id] []])) :=
    fun W A c acc ha hs hr => OfSt.row hE hs 116 [] A c [numP x.due, textP x.id] hr (by simp) (by omega)
  have HHK2 := Lib.hid (fun W => rd_two W false x.status [] true 0 x.id)
  have HHK3 := Lib.hid (fun W => rd_two W true 0 x.dfn true 0 x.id)
  have HHK5 := Lib.hid (fun W => rd_two W false x.due [] true 0 x.id)
  have hmade : madeI x = [] ++ [rowC 115 [textP x.id] (instB x)] ++ [rowC 105 [numP x.status, textP x.id] []] ++ [rowC 100 [textP x.dfn, textP x.id] []] ++ (if x.out then [rowC 111 [textP x.id] []] else []) ++ (if x.due != 0 then [rowC 116 [numP x.due, textP x.id] []] else []) := by unfold madeI; rfl
  have HMADE := Lib.hid hmade
  clear hmade
  generalize instB x = V at HV HR1 HK2 HK3 HMADE ⊢
  generalize rowC 115 [textP x.id] V = R1 at HR1 HK2 HK3 HMADE
  generalize rowC 105 [numP x.status, textP x.id] [] = R2 at HK2 HK3 HMADE
  generalize rowC 100 [textP x.dfn, textP x.id] [] = R3 at HK3 HMADE
  generalize rowC 111 [textP x.id] [] = R4 at HK4 HMADE
  generalize rowC 116 [numP x.due, textP x.id] [] = R5 at HK5 HMADE
  generalize [textP x.id].flatMap parC = IDC at HR1 HID HK4
  have hl0 : w.heap.size < wb.heap.size := (Array.getElem?_eq_some_iff.1 hE.box).1
  have hl1 : d < wb.heap.size := (Array.getElem?_eq_some_iff.1 hE.idr).1
  go_cut [] from 29 to 34 (fun wc => OfSt o wb wc ([] ++ [R1]))
  case first =>
    obtain ⟨c0, c1, c2, c3, c4, c5, c6⟩ := HBOX.out _ _ HS.out
    obtain ⟨p0, p1, p2⟩ := HIDR.out _ _ HS.out
    go_region_with (first
      | (go_at_call 30; go_fit (HV.out _); rintro e u1 ⟨rfl, hv1⟩; have g1 : OfSt o wb u1 [] := (by first | exact HS.out.drew.below hv1 | exact (HS.out.drew.alloc _).below hv1); obtain ⟨q0, q1, q2⟩ := HIDR.out _ _ g1; have hl2 := Nat.lt_of_lt_of_le hl1 g1.bes.size;  obtain ⟨b0, b1, b2, b3, b4, b5, b6⟩ := HBOX.out _ _ g1; (try have hrd := Lib.hid (Rd.below (A := some ⟨wb.heap.size, 0, none⟩) (size := 3) (n := 1) (xs := IDC) (by exact HID.out wb) hv1)); have G1 := Lib.hid g1; clear g1)
      | (go_at_call 50; first | (go_fit (HR1.out _ _ 1 (G1.out.alloc _) (HID.out u1)); rintro e u2 ⟨rfl, g2⟩) | (go_fit (HR1.out _ _ 1 G1.out hrd.out); rintro e u2 ⟨rfl, g2⟩)))
    all_goals (go_wp2_with fail; go_meet; exact g2)
  obtain ⟨W1, hW1⟩ : ∃ W, W = wc := ⟨_, rfl⟩
  rw [← hW1] at hcut ⊢
  clear hW1
  have HS1 : Hid (OfSt o wb W1 ([] ++ [R1])) := hcut
  have hm1 := Nat.lt_of_lt_of_le hl1 hcut.bes.size
  have hz1 := Nat.lt_of_lt_of_le hl0 hcut.bes.size
  clear hcut
  go_upto_region 8 with fail
  go_cut [] from 35 to 41 (fun wc => OfSt o wb wc ([] ++ [R1] ++ [R2]))
  case first =>
    obtain ⟨c0, c1, c2, c3, c4, c5, c6⟩ := HBOX.out _ _ HS1.out
    obtain ⟨p0, p1, p2⟩ := HIDR.out _ _ HS1.out
    go_region_with (first
      | (go_at_call 51; go_fit (rnumber_any x.status _); rintro e u1 ⟨rfl, hv1⟩; have g1 : OfSt o wb u1 ([] ++ [R1]) := (by exact HS1.out.drew.below hv1); obtain ⟨q0, q1, q2⟩ := HIDR.out _ _ g1; have hl4 := Nat.lt_of_lt_of_le hl1 g1.bes.size; have G1 := Lib.hid g1; clear g1)
      | (go_at_call 50; go_fit (HK2.out _ _ 2 (G1.out.alloc _) (HHK2.out u1)); rintro e u2 ⟨rfl, g2⟩))
    all_goals (go_wp2_with fail; go_meet; exact g2)
  obtain ⟨W2, hW2⟩ : ∃ W, W = wc := ⟨_, rfl⟩
  rw [← hW2] at hcut ⊢
  clear hW2
  have HS2 : Hid (OfSt o wb W2 ([] ++ [R1] ++ [R2])) := hcut
  have hm2 := Nat.lt_of_lt_of_le hl1 hcut.bes.size
  have hz2 := Nat.lt_of_lt_of_le hl0 hcut.bes.size
  clear hcut
  go_upto_region 9 with fail
  go_cut [] from 42 to 48 (fun wc => OfSt o wb wc ([] ++ [R1] ++ [R2] ++ [R3]))
  case first =>
    obtain ⟨c0, c1, c2, c3, c4, c5, c6⟩ := HBOX.out _ _ HS2.out
    obtain ⟨p0, p1, p2⟩ := HIDR.out _ _ HS2.out
    go_region_with (first
      | (go_at_call 40; go_fit (rtext_any x.dfn _); rintro e u1 ⟨rfl, hv1⟩; have g1 : OfSt o wb u1 ([] ++ [R1] ++ [R2]) := (by exact HS2.out.drew.below hv1); obtain ⟨q0, q1, q2⟩ := HIDR.out _ _ g1; have hl4 := Nat.lt_of_lt_of_le hl1 g1.bes.size; have G1 := Lib.hid g1; clear g1)
      | (go_at_call 50; go_fit (HK3.out _ _ 2 (G1.out.alloc _) (HHK3.out u1)); rintro e u2 ⟨rfl, g2⟩))
    all_goals (go_wp2_with fail; go_meet; exact g2)
  obtain ⟨W3, hW3⟩ : ∃ W, W = wc := ⟨_, rfl⟩
  rw [← hW3] at hcut ⊢
  clear hW3
  have HS3 : Hid (OfSt o wb W3 ([] ++ [R1] ++ [R2] ++ [R3])) := hcut
  have hm3 := Nat.lt_of_lt_of_le hl1 hcut.bes.size
  have hz3 := Nat.lt_of_lt_of_le hl0 hcut.bes.size
  clear hcut
  have ha3 : ([] ++ [R1] ++ [R2] ++ [R3]).length ≤ 900 := by simp
  have hb3 : ([] ++ [R1] ++ [R2] ++ [R3] ++ (if x.out then [R4] else [])).length ≤ 900 := by cases x.out <;> simp
  have HA3 := Lib.hid ha3
  have HB3 := Lib.hid hb3
  clear ha3 hb3
  obtain ⟨xo, hxo⟩ : ∃ b, b = x.out := ⟨_, rfl⟩
  obtain ⟨xd, hxd⟩ : ∃ b, b = (x.due != 0) := ⟨_, rfl⟩
  have hifo : ([] ++ [R1] ++ [R2] ++ [R3] ++ (if x.out then [R4] else [])) = if xo then [] ++ [R1] ++ [R2] ++ [R3] ++ [R4] else [] ++ [R1] ++ [R2] ++ [R3] := by rw [hxo]; cases x.out <;> simp
  have HIFO := Lib.hid hifo
  have hifd : ([] ++ [R1] ++ [R2] ++ [R3] ++ (if x.out then [R4] else []) ++ (if x.due != 0 then [R5] else [])) = if xd then [] ++ [R1] ++ [R2] ++ [R3] ++ (if x.out then [R4] else []) ++ [R5] else [] ++ [R1] ++ [R2] ++ [R3] ++ (if x.out then [R4] else []) := by rw [hxd]; by_cases h : x.due = 0 <;> simp [h]
  have HIFD := Lib.hid hifd
  clear hifo hifd
  generalize [] ++ [R1] ++ [R2] ++ [R3] ++ (if x.out then [R4] else []) ++ (if x.due != 0 then [R5] else []) = B5 at HIFD HMADE
  generalize [] ++ [R1] ++ [R2] ++ [R3] ++ (if x.out then [R4] else []) = B4 at HIFO HIFD HB3
  generalize [] ++ [R1] ++ [R2] ++ [R3] = B3 at HIFO HA3 HS3
  obtain ⟨c0, c1, c2, c3, c4, c5, c6⟩ := HBOX.out _ _ HS3.out
  obtain ⟨p0, p1, p2⟩ := HIDR.out _ _ HS3.out
  rw [← hxo] at c6
  clear hxo
  go_upto_if 50 with fail
  go_cut [] from 49 to 54 (fun wc => OfSt o wb wc B4)
  case first =>
    cases xo with
    | true =>
      have h4 : B4 = B3 ++ [R4] := HIFO.out
      have H4 := Lib.hid h4
      clear h4 HIFO
      go_wp2_with (first | (go_at_call 50; go_fit (HK4.out _ _ 1 B3 HA3.out (HS3.out.alloc _) (HID.out W3)); rintro e u2 ⟨rfl, g2⟩))
      go_meet
      rw [H4.out]
      exact g2
    | false =>
      have h4 : B4 = B3 := HIFO.out
      have H4 := Lib.hid h4
      clear h4 HIFO
      go_wp2_with fail
      go_meet
      rw [H4.out]
      exact HS3.out
  clear c0 c1 c2 c3 c4 c5 c6 p0 p1 p2 HIFO HS3 HA3
  obtain ⟨W4, hW4⟩ : ∃ W, W = wc := ⟨_, rfl⟩
  rw [← hW4] at hcut ⊢
  clear hW4
  have HS4 : Hid (OfSt o wb W4 B4) := hcut
  have hm4 := Nat.lt_of_lt_of_le hl1 hcut.bes.size
  have hz4 := Nat.lt_of_lt_of_le hl0 hcut.bes.size
  clear hcut
  obtain ⟨c0, c1, c2, c3, c4, c5, c6⟩ := HBOX.out _ _ HS4.out
  obtain ⟨p0, p1, p2⟩ := HIDR.out _ _ HS4.out
  go_upto_if 57 with fail
  rw [← hxd]
  go_cut [] from 55 to 64 (fun wc => OfSt o wb wc B5)
  case first =>
    clear hxd
    cases xd with
    | true =>
      have h5 : B5 = B4 ++ [R5] := HIFD.out
      have H5 := Lib.hid h5
      clear h5 HIFD
      go_wp2_with fail
      go_region_with (first
        | (go_at_call 51; go_fit (rnumber_any x.due _); rintro e u1 ⟨rfl, hv1⟩; have g1 : OfSt o wb u1 B4 := (by exact HS4.out.drew.below hv1); obtain ⟨q0, q1, q2⟩ := HIDR.out _ _ g1; have hl4 := Nat.lt_of_lt_of_le hl1 g1.bes.size; have G1 := Lib.hid g1; clear g1)
        | (go_at_call 50; go_fit (HK5.out _ _ 2 B4 HB3.out (G1.out.alloc _) (HHK5.out u1)); rintro e u2 ⟨rfl, g2⟩))
      all_goals (go_wp2_with fail; go_meet; rw [H5.out]; exact g2)
    | false =>
      have h5 : B5 = B4 := HIFD.out
      have H5 := Lib.hid h5
      clear h5 HIFD
      go_wp2_with fail
      go_meet
      rw [H5.out]
      exact HS4.out
  clear c0 c1 c2 c3 c4 c5 c6 p0 p1 p2 HIFD HS4 HB3
  obtain ⟨W5, hW5⟩ : ∃ W, W = wc := ⟨_, rfl⟩
  rw [← hW5] at hcut ⊢
  clear hW5 hxd
  have HS5 : Hid (OfSt o wb W5 B5) := hcut
  obtain ⟨v5, hv5, ho5⟩ := hcut.out
  have cv := (cell_of_row W5 o 0 _ _ _ hv5).trans (show _ = some v5 from rfl)
  clear hcut
  rw [← HMADE.out] at ho5
  have hml : (madeI x).length ≤ 1099511627776 := by unfold madeI; cases x.out <;> by_cases h : x.due = 0 <;> simp [h]
  have hsort := rsorted_any v5 wb.heap.size (madeI x) (rowsI x) W5 ho5 (rowsI_sorted hok) (made_perm x) hml
  obtain ⟨A5, k5, rfl, _⟩ := ho5.rd
  have HSORT := Lib.hid hsort
  clear hsort hv5 ho5 hml
  go_wp2_with (first | (go_at_call 43; refine HSORT.out.mono ?_; rintro e w6 ⟨⟨v6, rfl, ho6⟩, hb6⟩))
  go_ret2
  refine ⟨⟨v6, rfl, ho6.mono hwb.size⟩, ?_⟩
  exact hwb.trans ((HS5.out.bes.trans (Beside.of_below hb6 (Nat.le_refl _))).below hwb.size ho1)

theorem of_any (x : Inst) (w : World) (hl1 : x.id.length ≤ 9223372036854775807) (hl2 : x.dfn.length ≤ 9223372036854775807) (hg : Glob w) :
    Calls Tryd.prog 22 #[instV x] w fun e w' => ChPost w.heap.size (ofB x) e w' ∧ Below w.heap.size w w' := by
  cases h : okI x with
  | true => rw [ofB, if_pos h]; exact of_ok x w hl1 hl2 h hg
  | false => rw [ofB, if_neg (by simp [h])]; exact of_bad x w hl1 hl2 h
end Go.Proofs.YtaecafagmncmiaaDoor
