/-
  The walk of RowsOut.
-/
import Derived.Deep.QuietTactic
import Derived.BigQuiet
import Derived.Test.YtaecafagmncmiaaDoorEa
import Derived.Test.YtaecafagmncmiaaDoorPo
namespace Go.Proofs.YtaecafagmncmiaaDoor
open Go.RowKit Pu

theorem quiet_left {P : Program} {f : FuncId} {args : Array Value} {w : World} {n : Nat} {v : Value}
    (h : Calls P f args (w.drewN n) fun e w' => e = .returned v ∧ w.drewN n = w') : Calls P f args (w.drewN n) fun e w'' => e = .returned v ∧ ∃ m, w'' = w.drewN m :=
  h.mono fun _ _ ⟨he, hm⟩ => ⟨he, n, hm.symm⟩
theorem cells3 {W : World} {g : Nat} {t : TypeId} {fr : Nat × Nat} {v0 v1 v2 : Value} (h : W.heap[g]? = some (.cells #[v0, v1, v2] t fr)) : W.cell? ⟨g, 0, none⟩ = some v0 ∧ W.cell? ⟨g, 1, none⟩ = some v1 ∧ W.cell? ⟨g, 2, none⟩ = some v2 :=
  ⟨cell_of_row W g 0 _ _ _ h, cell_of_row W g 1 _ _ _ h, cell_of_row W g 2 _ _ _ h⟩
theorem Rd.drewN {w : World} {size n : Nat} {A : Option Addr} {xs : List Value} (h : Rd w size A n xs) (k : Nat) : Rd (w.drewN k) size A n xs := h
theorem rdp (W : World) (p : Part) : Rd (W.alloc (.cells #[.bool p.text, .int .i64 p.n, .string (bs p.s)] 54)) 3 (some ⟨W.heap.size, 0, none⟩) 1 ([p].flatMap parC) := rd_one W p
theorem rdpp (W : World) (p q : Part) : Rd (W.alloc (.cells #[.bool p.text, .int .i64 p.n, .string (bs p.s), .bool q.text, .int .i64 q.n, .string (bs q.s)] 54)) 3 (some ⟨W.heap.size, 0, none⟩) 2 ([p, q].flatMap parC) := rd_two W p.text p.n p.s q.text q.n q.s

set_option maxRecDepth 100000 in
set_option maxHeartbeats 2000000 in
theorem rowsOut_walk (x : Inst) (w : World) (hl1 : x.id.length ≤ 9223372036854775807) (hl2 : x.dfn.length ≤ 9223372036854775807) (hg : Glob w) :
    Calls Tryd.prog 9 #[instV x] w fun e w' => e = .returned (.bool true) ∧ Below w.heap.size w w' := by
  have hex := fun W h => examples_any W h
  have hof := fun W h => of_any x W hl1 hl2 h
  have hoB : ofB x = if okI x = true then (0, rowsI x) else (1, []) := rfl
  have e1 : errv 1 = .iface 68 (.int .i64 1) := errv_pos (by omega)
  have HEX := Lib.hid hex
  have HG := Lib.hid hg
  have HB0 := Lib.hid (below_al (Below.refl _ w) (.cells #[.string (bs x.id), .string (bs x.dfn), .int .i64 x.status, .int .i64 x.at_, .int .i64 x.tries, .int .i64 x.due, .bool x.out] 25))
  have HX0 := Lib.hid (heap_alloc_new w (.cells #[.string (bs x.id), .string (bs x.dfn), .int .i64 x.status, .int .i64 x.at_, .int .i64 x.tries, .int .i64 x.due, .bool x.out] 25))
  unfold instV at hof
  cases hok : okI x with
  | false =>
    rw [hok, if_neg (by simp)] at hoB
    have hof2 : ∀ W, Glob W → Calls Tryd.prog 22 #[.agg #[.string (bs x.id), .string (bs x.dfn), .int .i64 x.status, .int .i64 x.at_, .int .i64 x.tries, .int .i64 x.due, .bool x.out]] W fun e w' => (∃ v, e = .returned (.tuple #[v, .iface 68 (.int .i64 1)]) ∧ Ow w' W.heap.size 49 3 v 0 []) ∧ Below W.heap.size W w' := fun W h =>
      (hof W h).mono fun e w' ⟨⟨v, he, ho⟩, hb⟩ => by
        rw [hoB] at he ho
        exact ⟨⟨v, by rw [he, ← e1], ho⟩, hb⟩
    have HOF := Lib.hid hof2
    clear hex hg hof hoB e1 hok hof2
    unfold instV
    go_enter Tryd.func9, Tryd.ntmps9
    go_wp2_with (first
      | (go_at_call 11; go_fit (HEX.out _ (HG.out.below HB0.out)); rintro e w1 ⟨rfl, hb1⟩; have hx1 := (hb1.block w.heap.size (by simp)).trans HX0.out; obtain ⟨c0, c1, c2, c3, c4, c5, c6⟩ := cells7 hx1; have hbw1 := below_tr HB0.out hb1; clear hx1)
      | (go_at_call 22; go_fit (HOF.out w1 (HG.out.below hbw1)); rintro e w2 ⟨⟨v2, rfl, ho2⟩, hb2⟩; obtain ⟨A2, k2, rfl, _⟩ := ho2.rd; have hbw2 := below_tr hbw1 hb2))
    go_ret
    exact ⟨rfl, hbw2⟩
  | true =>
    rw [hok, if_pos rfl] at hoB
    have hof2 : ∀ W, Glob W → Calls Tryd.prog 22 #[.agg #[.string (bs x.id), .string (bs x.dfn), .int .i64 x.status, .int .i64 x.at_, .int .i64 x.tries, .int .i64 x.due, .bool x.out]] W fun e w' => (∃ v, e = .returned (.tuple #[v, .nilIface]) ∧ Ow w' W.heap.size 49 3 v (rowsI x).length ((rowsI x).flatMap chgC)) ∧ Below W.heap.size W w' := fun W h =>
      (hof W h).mono fun e w' ⟨⟨v, he, ho⟩, hb⟩ => by
        rw [hoB] at he ho
        exact ⟨⟨v, he, ho⟩, hb⟩
    have hk1 : ∀ W g, W.heap.size = g → Glob W → Calls Tryd.prog 16 #[.string ⟨#[111]⟩, .slice (some ⟨g, 0, none⟩) 1 1] (W.alloc (.cells #[.bool true, .int .i64 0, .string (bs x.id)] 54)) fun e w' => e = .returned (.tuple #[.string (bs (kO x)), .nilIface]) ∧ Below (W.alloc (.cells #[.bool true, .int .i64 0, .string (bs x.id)] 54)).heap.size (W.alloc (.cells #[.bool true, .int .i64 0, .string (bs x.id)] 54)) w' := fun W g hg h => by
      subst hg
      exact (rkey_any [111] _ 1 [textP x.id] _ (rdp W (textP x.id)) (h.below (below_al (Below.refl _ _) _)) (by simp)).mono fun e w' ⟨he, hb⟩ => ⟨by rw [he, key_one hok (by decide), ← rowC_keyB 111 _ []]; unfold kO; rfl, hb⟩
    have hk2 : ∀ W, Glob W → Calls Tryd.prog 16 #[.string ⟨#[105]⟩, .slice (some ⟨W.heap.size, 0, none⟩) 2 2] (W.alloc (.cells #[.bool false, .int .i64 x.status, .string ⟨#[]⟩, .bool true, .int .i64 0, .string (bs x.id)] 54)) fun e w' => e = .returned (.tuple #[.string (bs (kI x)), .nilIface]) ∧ Below (W.alloc (.cells #[.bool false, .int .i64 x.status, .string ⟨#[]⟩, .bool true, .int .i64 0, .string (bs x.id)] 54)).heap.size (W.alloc (.cells #[.bool false, .int .i64 x.status, .string ⟨#[]⟩, .bool true, .int .i64 0, .string (bs x.id)] 54)) w' := fun W h =>
      (rkey_any [105] _ 2 [numP x.status, textP x.id] _ (rdpp W (numP x.status) (textP x.id)) (h.below (below_al (Below.refl _ _) _)) (by simp)).mono fun e w' ⟨he, hb⟩ => ⟨by rw [he, key_num hok (by decide) (okI_status hok), ← rowC_keyB 105 _ []]; unfold kI; rfl, hb⟩
    have hk3 : ∀ W, Glob W → Calls Tryd.prog 16 #[.string ⟨#[100]⟩, .slice (some ⟨W.heap.size, 0, none⟩) 2 2] (W.alloc (.cells #[.bool true, .int .i64 0, .string (bs x.dfn), .bool true, .int .i64 0, .string (bs x.id)] 54)) fun e w' => e = .returned (.tuple #[.string (bs (kD x)), .nilIface]) ∧ Below (W.alloc (.cells #[.bool true, .int .i64 0, .string (bs x.dfn), .bool true, .int .i64 0, .string (bs x.id)] 54)).heap.size (W.alloc (.cells #[.bool true, .int .i64 0, .string (bs x.dfn), .bool true, .int .i64 0, .string (bs x.id)] 54)) w' := fun W h =>
      (rkey_any [100] _ 2 [textP x.dfn, textP x.id] _ (rdpp W (textP x.dfn) (textP x.id)) (h.below (below_al (Below.refl _ _) _)) (by simp)).mono fun e w' ⟨he, hb⟩ => ⟨by rw [he, key_def hok (by decide), ← rowC_keyB 100 _ []]; unfold kD; rfl, hb⟩
    have hk4 : ∀ W, Glob W → Calls Tryd.prog 16 #[.string ⟨#[115]⟩, .slice (some ⟨W.heap.size, 0, none⟩) 1 1] (W.alloc (.cells #[.bool true, .int .i64 0, .string (bs x.id)] 54)) fun e w' => e = .returned (.tuple #[.string (bs (kS x)), .nilIface]) ∧ Below (W.alloc (.cells #[.bool true, .int .i64 0, .string (bs x.id)] 54)).heap.size (W.alloc (.cells #[.bool true, .int .i64 0, .string (bs x.id)] 54)) w' := fun W h =>
      (rkey_any [115] _ 1 [textP x.id] _ (rdp W (textP x.id)) (h.below (below_al (Below.refl _ _) _)) (by simp)).mono fun e w' ⟨he, hb⟩ => ⟨by rw [he, key_one hok (by decide), ← rowC_keyB 115 _ []]; unfold kS; rfl, hb⟩
    have HOF := Lib.hid hof2
    have HK1 := Lib.hid hk1
    have HK2 := Lib.hid hk2
    have HK3 := Lib.hid hk3
    have HK4 := Lib.hid hk4
    have hfind := fun A c k W h => lfind_any A c (rowsI x) k W h
    have HFI := Lib.hid hfind
    have hlen := rowsI_len x
    have f1 := kO_has hok
    have g1 := findI_ge (rowsI x) (kO x)
    have g2 := findI_has (kI_has x)
    have g3 := findI_has (kD_has x)
    have g4 := findI_has (kS_has x)
    rw [f1] at g1
    have hq1 : ∀ w, (Instr.build 54 #[(0, .bool true), (2, .string (bs x.id))]).run Tryd.prog w = .ok (.agg #[.bool true, .int .i64 0, .string (bs x.id)]) w := fun _ => by kernel_rfl
    have hq2 : ∀ w, (Instr.build 54 #[(0, .bool true), (2, .string (bs x.dfn))]).run Tryd.prog w = .ok (.agg #[.bool true, .int .i64 0, .string (bs x.dfn)]) w := fun _ => by kernel_rfl
    have hq3 : ∀ w, (Instr.build 54 #[(1, .int .i64 x.status)]).run Tryd.prog w = .ok (.agg #[.bool false, .int .i64 x.status, .string ⟨#[]⟩]) w := fun _ => by kernel_rfl
    have HG1 := Lib.hid g1
    have HG2 := Lib.hid g2
    have HG3 := Lib.hid g3
    have HG4 := Lib.hid g4
    have hdo : Hid (x.due = 0 ∨ x.due ≠ 0) := Classical.em _
    generalize rowsI x = L at HOF HFI hlen HG1 HG2 HG3 HG4
    generalize kO x = KO at HK1 HG1
    generalize kI x = KI at HK2 HG2
    generalize kD x = KD at HK3 HG3
    generalize kS x = KS at HK4 HG4
    have hf : ∀ n, L.length = n → ∀ A c k W, Rd W 3 A n (L.flatMap chgC) → Calls Tryd.prog 24 #[.slice A n c, .string (bs k)] W fun e w' => e = .returned (.int .i64 (findI L k)) ∧ W = w' := fun n hn A c k W h => by
      subst hn; exact HFI.out A c k W h
    have HF := Lib.hid hf
    clear hex hg hof hoB e1 hof2 hk1 hk2 hk3 hk4 hfind f1 g1 g2 g3 g4 hf HFI
    rcases hdo.out with hd | hd
    · have hd2 : (x.due == 0) = true := by simpa using hd
      cases ho : x.out with
      | true =>
        rw [ho, if_pos hd] at hlen
        rw [ho] at HG1
        clear hd
        change L.length = 4 at hlen
        have HLEN : Hid (L.length = 4) := hlen
        have HF1 := Lib.hid (fun A c => HF.out 4 hlen A c KO)
        have HF2 := Lib.hid (fun A c => HF.out 4 hlen A c KI)
        have HF3 := Lib.hid (fun A c => HF.out 4 hlen A c KD)
        have HF4 := Lib.hid (fun A c => HF.out 4 hlen A c KS)
        obtain ⟨n1, hn1⟩ : ∃ n, n = findI L KO := ⟨_, rfl⟩
        obtain ⟨n2, hn2⟩ : ∃ n, n = findI L KI := ⟨_, rfl⟩
        obtain ⟨n3, hn3⟩ : ∃ n, n = findI L KD := ⟨_, rfl⟩
        obtain ⟨n4, hn4⟩ : ∃ n, n = findI L KS := ⟨_, rfl⟩
        rw [← hn1] at HF1 HG1
        rw [← hn2] at HF2 HG2
        rw [← hn3] at HF3 HG3
        rw [← hn4] at HF4 HG4
        have g1 := HG1.out
        have g2 := HG2.out
        have g3 := HG3.out
        have g4 := HG4.out
        have d2 : decide (0 ≤ n2) = true := by simpa using g2
        have d3 : decide (0 ≤ n3) = true := by simpa using g3
        have d4 : decide (0 ≤ n4) = true := by simpa using g4
        clear HG1 HG2 HG3 HG4 hn1 hn2 hn3 hn4 hlen HF hdo hok
        unfold instV
        rw [ho]
        rw [ho] at HOF HB0 HX0
        clear ho
        go_enter Tryd.func9, Tryd.ntmps9
        go_wp2_with (first
          | (go_at_call 11; go_fit (HEX.out _ (HG.out.below HB0.out)); rintro e w1 ⟨rfl, hb1⟩; have hx1 := (hb1.block w.heap.size (by simp)).trans HX0.out; obtain ⟨c0, c1, c2, c3, c4, c5, c6⟩ := cells7 hx1; have hbw1 := below_tr HB0.out hb1; have HX1 := Lib.hid hx1; have hlx1 := (Array.getElem?_eq_some_iff.1 hx1).1; clear hx1)
          | (go_at_call 22; go_fit (HOF.out w1 (HG.out.below hbw1)); rintro e w2 ⟨⟨v2, rfl, ho2⟩, hb2⟩; rw [HLEN.out] at ho2; obtain ⟨A2, k2, rfl, hr2⟩ := ho2.rd; have hbw2 := below_tr hbw1 hb2; have hx2 := (hb2.block w.heap.size hlx1).trans HX1.out; clear c0 c1 c2 c3 c4 c5 c6; obtain ⟨c0, c1, c2, c3, c4, c5, c6⟩ := cells7 hx2; have hlx2 := (Array.getElem?_eq_some_iff.1 hx2).1; have HXP := Lib.hid ((heap_alloc_old w2 (.cells #[.bool true, .int .i64 0, .string (bs x.id)] 54) hlx2).trans hx2); have HPP := Lib.hid (heap_alloc_new w2 (.cells #[.bool true, .int .i64 0, .string (bs x.id)] 54)); have HBP := Lib.hid (below_al hbw2 (.cells #[.bool true, .int .i64 0, .string (bs x.id)] 54)); have HR := Lib.hid (hr2.below (below_al (Below.refl _ w2) (.cells #[.bool true, .int .i64 0, .string (bs x.id)] 54))); have hlxp : w.heap.size < (w2.alloc (.cells #[.bool true, .int .i64 0, .string (bs x.id)] 54)).heap.size := (by simp; omega); have hlpp : w2.heap.size < (w2.alloc (.cells #[.bool true, .int .i64 0, .string (bs x.id)] 54)).heap.size := (by simp); have HLX := Lib.hid hlxp; have HLP := Lib.hid hlpp; clear hx2 ho2 hr2 hlxp hlpp)
          | (go_at_call 16; go_fit (HK1.out (w2.alloc (.cells #[.bool true, .int .i64 0, .string (bs x.id)] 54)) (w2.heap.size + 1) (by simp) (HG.out.below HBP.out)); rintro e w3 ⟨rfl, hb3⟩; have hbk := below_tr (below_al (Below.refl _ _) _) hb3; have hx3 := (hbk.block w.heap.size HLX.out).trans HXP.out; have hp3 := (hbk.block w2.heap.size HLP.out).trans HPP.out; clear c0 c1 c2 c3 c4 c5 c6; obtain ⟨c0, c1, c2, c3, c4, c5, c6⟩ := cells7 hx3; obtain ⟨p0, p1, p2⟩ := cells3 hp3; have hl3x := (Array.getElem?_eq_some_iff.1 hx3).1; have hl3p := (Array.getElem?_eq_some_iff.1 hp3).1; have HBK3 := Lib.hid hbk; clear hx3 hp3 hb3 hbk)
          | (go_at_call 16; go_fit (HK2.out _ (HG.out.below (below_tr HBP.out HBK3.out))); rintro e w4 ⟨rfl, hb4⟩; have hbk := below_tr HBK3.out (below_tr (below_al (Below.refl _ _) _) hb4); have hx3 := (hbk.block w.heap.size HLX.out).trans HXP.out; have hp3 := (hbk.block w2.heap.size HLP.out).trans HPP.out; clear c0 c1 c2 c3 c4 c5 c6 p0 p1 p2; obtain ⟨c0, c1, c2, c3, c4, c5, c6⟩ := cells7 hx3; obtain ⟨p0, p1, p2⟩ := cells3 hp3; have hl4x := (Array.getElem?_eq_some_iff.1 hx3).1; have hl4p := (Array.getElem?_eq_some_iff.1 hp3).1; have HBK4 := Lib.hid hbk; clear hx3 hp3 hb4 hbk)
          | (go_at_call 16; go_fit (HK3.out _ (HG.out.below (below_tr HBP.out HBK4.out))); rintro e w5 ⟨rfl, hb5⟩; have hbk := below_tr HBK4.out (below_tr (below_al (Below.refl _ _) _) hb5); have hx3 := (hbk.block w.heap.size HLX.out).trans HXP.out; have hp3 := (hbk.block w2.heap.size HLP.out).trans HPP.out; clear c0 c1 c2 c3 c4 c5 c6 p0 p1 p2; obtain ⟨c0, c1, c2, c3, c4, c5, c6⟩ := cells7 hx3; obtain ⟨p0, p1, p2⟩ := cells3 hp3; have hl5x := (Array.getElem?_eq_some_iff.1 hx3).1; have hl5p := (Array.getElem?_eq_some_iff.1 hp3).1; have HBK5 := Lib.hid hbk; clear hx3 hp3 hb5 hbk)
          | (go_at_call 16; go_fit (HK4.out _ (HG.out.below (below_tr HBP.out HBK5.out))); rintro e w6 ⟨rfl, hb6⟩; have hbk := below_tr HBK5.out (below_tr (below_al (Below.refl _ _) _) hb6); have hx3 := (hbk.block w.heap.size HLX.out).trans HXP.out; clear c0 c1 c2 c3 c4 c5 c6 p0 p1 p2; obtain ⟨c0, c1, c2, c3, c4, c5, c6⟩ := cells7 hx3; have hbw6 := below_tr HBP.out hbk; have HR6 := Lib.hid (HR.out.below hbk); clear hx3 hb6 hbk))
        go_quiet ((first
          | (go_at_call 24; with_reducible exact quiet_left (HF1.out A2 k2 _ (HR6.out.drewN _)))
          | (go_at_call 24; with_reducible exact quiet_left (HF2.out A2 k2 _ (HR6.out.drewN _)))
          | (go_at_call 24; with_reducible exact quiet_left (HF3.out A2 k2 _ (HR6.out.drewN _)))
          | (go_at_call 24; with_reducible exact quiet_left (HF4.out A2 k2 _ (HR6.out.drewN _)))))
        go_wp2
        go_ret
        exact ⟨rfl, below_n hbw6 _⟩
      | false =>
        rw [ho, if_pos hd] at hlen
        rw [ho] at HG1
        clear hd
        change L.length = 3 at hlen
        have HLEN : Hid (L.length = 3) := hlen
        have HF1 := Lib.hid (fun A c => HF.out 3 hlen A c KO)
        have HF2 := Lib.hid (fun A c => HF.out 3 hlen A c KI)
        have HF3 := Lib.hid (fun A c => HF.out 3 hlen A c KD)
        have HF4 := Lib.hid (fun A c => HF.out 3 hlen A c KS)
        obtain ⟨n1, hn1⟩ : ∃ n, n = findI L KO := ⟨_, rfl⟩
        obtain ⟨n2, hn2⟩ : ∃ n, n = findI L KI := ⟨_, rfl⟩
        obtain ⟨n3, hn3⟩ : ∃ n, n = findI L KD := ⟨_, rfl⟩
        obtain ⟨n4, hn4⟩ : ∃ n, n = findI L KS := ⟨_, rfl⟩
        rw [← hn1] at HF1 HG1
        rw [← hn2] at HF2 HG2
        rw [← hn3] at HF3 HG3
        rw [← hn4] at HF4 HG4
        have g1 := HG1.out
        have g2 := HG2.out
        have g3 := HG3.out
        have g4 := HG4.out
        have d2 : decide (0 ≤ n2) = true := by simpa using g2
        have d3 : decide (0 ≤ n3) = true := by simpa using g3
        have d4 : decide (0 ≤ n4) = true := by simpa using g4
        clear HG1 HG2 HG3 HG4 hn1 hn2 hn3 hn4 hlen HF hdo hok
        unfold instV
        rw [ho]
        rw [ho] at HOF HB0 HX0
        clear ho
        go_enter Tryd.func9, Tryd.ntmps9
        go_wp2_with (first
          | (go_at_call 11; go_fit (HEX.out _ (HG.out.below HB0.out)); rintro e w1 ⟨rfl, hb1⟩; have hx1 := (hb1.block w.heap.size (by simp)).trans HX0.out; obtain ⟨c0, c1, c2, c3, c4, c5, c6⟩ := cells7 hx1; have hbw1 := below_tr HB0.out hb1; have HX1 := Lib.hid hx1; have hlx1 := (Array.getElem?_eq_some_iff.1 hx1).1; clear hx1)
          | (go_at_call 22; go_fit (HOF.out w1 (HG.out.below hbw1)); rintro e w2 ⟨⟨v2, rfl, ho2⟩, hb2⟩; rw [HLEN.out] at ho2; obtain ⟨A2, k2, rfl, hr2⟩ := ho2.rd; have hbw2 := below_tr hbw1 hb2; have hx2 := (hb2.block w.heap.size hlx1).trans HX1.out; clear c0 c1 c2 c3 c4 c5 c6; obtain ⟨c0, c1, c2, c3, c4, c5, c6⟩ := cells7 hx2; have hlx2 := (Array.getElem?_eq_some_iff.1 hx2).1; have HXP := Lib.hid ((heap_alloc_old w2 (.cells #[.bool true, .int .i64 0, .string (bs x.id)] 54) hlx2).trans hx2); have HPP := Lib.hid (heap_alloc_new w2 (.cells #[.bool true, .int .i64 0, .string (bs x.id)] 54)); have HBP := Lib.hid (below_al hbw2 (.cells #[.bool true, .int .i64 0, .string (bs x.id)] 54)); have HR := Lib.hid (hr2.below (below_al (Below.refl _ w2) (.cells #[.bool true, .int .i64 0, .string (bs x.id)] 54))); have hlxp : w.heap.size < (w2.alloc (.cells #[.bool true, .int .i64 0, .string (bs x.id)] 54)).heap.size := (by simp; omega); have hlpp : w2.heap.size < (w2.alloc (.cells #[.bool true, .int .i64 0, .string (bs x.id)] 54)).heap.size := (by simp); have HLX := Lib.hid hlxp; have HLP := Lib.hid hlpp; clear hx2 ho2 hr2 hlxp hlpp)
          | (go_at_call 16; go_fit (HK1.out (w2.alloc (.cells #[.bool true, .int .i64 0, .string (bs x.id)] 54)) (w2.heap.size + 1) (by simp) (HG.out.below HBP.out)); rintro e w3 ⟨rfl, hb3⟩; have hbk := below_tr (below_al (Below.refl _ _) _) hb3; have hx3 := (hbk.block w.heap.size HLX.out).trans HXP.out; have hp3 := (hbk.block w2.heap.size HLP.out).trans HPP.out; clear c0 c1 c2 c3 c4 c5 c6; obtain ⟨c0, c1, c2, c3, c4, c5, c6⟩ := cells7 hx3; obtain ⟨p0, p1, p2⟩ := cells3 hp3; have hl3x := (Array.getElem?_eq_some_iff.1 hx3).1; have hl3p := (Array.getElem?_eq_some_iff.1 hp3).1; have HBK3 := Lib.hid hbk; clear hx3 hp3 hb3 hbk)
          | (go_at_call 16; go_fit (HK2.out _ (HG.out.below (below_tr HBP.out HBK3.out))); rintro e w4 ⟨rfl, hb4⟩; have hbk := below_tr HBK3.out (below_tr (below_al (Below.refl _ _) _) hb4); have hx3 := (hbk.block w.heap.size HLX.out).trans HXP.out; have hp3 := (hbk.block w2.heap.size HLP.out).trans HPP.out; clear c0 c1 c2 c3 c4 c5 c6 p0 p1 p2; obtain ⟨c0, c1, c2, c3, c4, c5, c6⟩ := cells7 hx3; obtain ⟨p0, p1, p2⟩ := cells3 hp3; have hl4x := (Array.getElem?_eq_some_iff.1 hx3).1; have hl4p := (Array.getElem?_eq_some_iff.1 hp3).1; have HBK4 := Lib.hid hbk; clear hx3 hp3 hb4 hbk)
          | (go_at_call 16; go_fit (HK3.out _ (HG.out.below (below_tr HBP.out HBK4.out))); rintro e w5 ⟨rfl, hb5⟩; have hbk := below_tr HBK4.out (below_tr (below_al (Below.refl _ _) _) hb5); have hx3 := (hbk.block w.heap.size HLX.out).trans HXP.out; have hp3 := (hbk.block w2.heap.size HLP.out).trans HPP.out; clear c0 c1 c2 c3 c4 c5 c6 p0 p1 p2; obtain ⟨c0, c1, c2, c3, c4, c5, c6⟩ := cells7 hx3; obtain ⟨p0, p1, p2⟩ := cells3 hp3; have hl5x := (Array.getElem?_eq_some_iff.1 hx3).1; have hl5p := (Array.getElem?_eq_some_iff.1 hp3).1; have HBK5 := Lib.hid hbk; clear hx3 hp3 hb5 hbk)
          | (go_at_call 16; go_fit (HK4.out _ (HG.out.below (below_tr HBP.out HBK5.out))); rintro e w6 ⟨rfl, hb6⟩; have hbk := below_tr HBK5.out (below_tr (below_al (Below.refl _ _) _) hb6); have hx3 := (hbk.block w.heap.size HLX.out).trans HXP.out; clear c0 c1 c2 c3 c4 c5 c6 p0 p1 p2; obtain ⟨c0, c1, c2, c3, c4, c5, c6⟩ := cells7 hx3; have hbw6 := below_tr HBP.out hbk; have HR6 := Lib.hid (HR.out.below hbk); clear hx3 hb6 hbk))
        go_quiet ((first
          | (go_at_call 24; with_reducible exact quiet_left (HF1.out A2 k2 _ (HR6.out.drewN _)))
          | (go_at_call 24; with_reducible exact quiet_left (HF2.out A2 k2 _ (HR6.out.drewN _)))
          | (go_at_call 24; with_reducible exact quiet_left (HF3.out A2 k2 _ (HR6.out.drewN _)))
          | (go_at_call 24; with_reducible exact quiet_left (HF4.out A2 k2 _ (HR6.out.drewN _)))))
        go_wp2
        go_ret
        exact ⟨rfl, below_n hbw6 _⟩
    · have hd2 : (x.due == 0) = false := by simpa using hd
      cases ho : x.out with
      | true =>
        rw [ho, if_neg hd] at hlen
        rw [ho] at HG1
        clear hd
        change L.length = 5 at hlen
        have HLEN : Hid (L.length = 5) := hlen
        have HF1 := Lib.hid (fun A c => HF.out 5 hlen A c KO)
        have HF2 := Lib.hid (fun A c => HF.out 5 hlen A c KI)
        have HF3 := Lib.hid (fun A c => HF.out 5 hlen A c KD)
        have HF4 := Lib.hid (fun A c => HF.out 5 hlen A c KS)
        obtain ⟨n1, hn1⟩ : ∃ n, n = findI L KO := ⟨_, rfl⟩
        obtain ⟨n2, hn2⟩ : ∃ n, n = findI L KI := ⟨_, rfl⟩
        obtain ⟨n3, hn3⟩ : ∃ n, n = findI L KD := ⟨_, rfl⟩
        obtain ⟨n4, hn4⟩ : ∃ n, n = findI L KS := ⟨_, rfl⟩
        rw [← hn1] at HF1 HG1
        rw [← hn2] at HF2 HG2
        rw [← hn3] at HF3 HG3
        rw [← hn4] at HF4 HG4
        have g1 := HG1.out
        have g2 := HG2.out
        have g3 := HG3.out
        have g4 := HG4.out
        have d2 : decide (0 ≤ n2) = true := by simpa using g2
        have d3 : decide (0 ≤ n3) = true := by simpa using g3
        have d4 : decide (0 ≤ n4) = true := by simpa using g4
        clear HG1 HG2 HG3 HG4 hn1 hn2 hn3 hn4 hlen HF hdo hok
        unfold instV
        rw [ho]
        rw [ho] at HOF HB0 HX0
        clear ho
        go_enter Tryd.func9, Tryd.ntmps9
        go_wp2_with (first
          | (go_at_call 11; go_fit (HEX.out _ (HG.out.below HB0.out)); rintro e w1 ⟨rfl, hb1⟩; have hx1 := (hb1.block w.heap.size (by simp)).trans HX0.out; obtain ⟨c0, c1, c2, c3, c4, c5, c6⟩ := cells7 hx1; have hbw1 := below_tr HB0.out hb1; have HX1 := Lib.hid hx1; have hlx1 := (Array.getElem?_eq_some_iff.1 hx1).1; clear hx1)
          | (go_at_call 22; go_fit (HOF.out w1 (HG.out.below hbw1)); rintro e w2 ⟨⟨v2, rfl, ho2⟩, hb2⟩; rw [HLEN.out] at ho2; obtain ⟨A2, k2, rfl, hr2⟩ := ho2.rd; have hbw2 := below_tr hbw1 hb2; have hx2 := (hb2.block w.heap.size hlx1).trans HX1.out; clear c0 c1 c2 c3 c4 c5 c6; obtain ⟨c0, c1, c2, c3, c4, c5, c6⟩ := cells7 hx2; have hlx2 := (Array.getElem?_eq_some_iff.1 hx2).1; have HXP := Lib.hid ((heap_alloc_old w2 (.cells #[.bool true, .int .i64 0, .string (bs x.id)] 54) hlx2).trans hx2); have HPP := Lib.hid (heap_alloc_new w2 (.cells #[.bool true, .int .i64 0, .string (bs x.id)] 54)); have HBP := Lib.hid (below_al hbw2 (.cells #[.bool true, .int .i64 0, .string (bs x.id)] 54)); have HR := Lib.hid (hr2.below (below_al (Below.refl _ w2) (.cells #[.bool true, .int .i64 0, .string (bs x.id)] 54))); have hlxp : w.heap.size < (w2.alloc (.cells #[.bool true, .int .i64 0, .string (bs x.id)] 54)).heap.size := (by simp; omega); have hlpp : w2.heap.size < (w2.alloc (.cells #[.bool true, .int .i64 0, .string (bs x.id)] 54)).heap.size := (by simp); have HLX := Lib.hid hlxp; have HLP := Lib.hid hlpp; clear hx2 ho2 hr2 hlxp hlpp)
          | (go_at_call 16; go_fit (HK1.out (w2.alloc (.cells #[.bool true, .int .i64 0, .string (bs x.id)] 54)) (w2.heap.size + 1) (by simp) (HG.out.below HBP.out)); rintro e w3 ⟨rfl, hb3⟩; have hbk := below_tr (below_al (Below.refl _ _) _) hb3; have hx3 := (hbk.block w.heap.size HLX.out).trans HXP.out; have hp3 := (hbk.block w2.heap.size HLP.out).trans HPP.out; clear c0 c1 c2 c3 c4 c5 c6; obtain ⟨c0, c1, c2, c3, c4, c5, c6⟩ := cells7 hx3; obtain ⟨p0, p1, p2⟩ := cells3 hp3; have hl3x := (Array.getElem?_eq_some_iff.1 hx3).1; have hl3p := (Array.getElem?_eq_some_iff.1 hp3).1; have HBK3 := Lib.hid hbk; clear hx3 hp3 hb3 hbk)
          | (go_at_call 16; go_fit (HK2.out _ (HG.out.below (below_tr HBP.out HBK3.out))); rintro e w4 ⟨rfl, hb4⟩; have hbk := below_tr HBK3.out (below_tr (below_al (Below.refl _ _) _) hb4); have hx3 := (hbk.block w.heap.size HLX.out).trans HXP.out; have hp3 := (hbk.block w2.heap.size HLP.out).trans HPP.out; clear c0 c1 c2 c3 c4 c5 c6 p0 p1 p2; obtain ⟨c0, c1, c2, c3, c4, c5, c6⟩ := cells7 hx3; obtain ⟨p0, p1, p2⟩ := cells3 hp3; have hl4x := (Array.getElem?_eq_some_iff.1 hx3).1; have hl4p := (Array.getElem?_eq_some_iff.1 hp3).1; have HBK4 := Lib.hid hbk; clear hx3 hp3 hb4 hbk)
          | (go_at_call 16; go_fit (HK3.out _ (HG.out.below (below_tr HBP.out HBK4.out))); rintro e w5 ⟨rfl, hb5⟩; have hbk := below_tr HBK4.out (below_tr (below_al (Below.refl _ _) _) hb5); have hx3 := (hbk.block w.heap.size HLX.out).trans HXP.out; have hp3 := (hbk.block w2.heap.size HLP.out).trans HPP.out; clear c0 c1 c2 c3 c4 c5 c6 p0 p1 p2; obtain ⟨c0, c1, c2, c3, c4, c5, c6⟩ := cells7 hx3; obtain ⟨p0, p1, p2⟩ := cells3 hp3; have hl5x := (Array.getElem?_eq_some_iff.1 hx3).1; have hl5p := (Array.getElem?_eq_some_iff.1 hp3).1; have HBK5 := Lib.hid hbk; clear hx3 hp3 hb5 hbk)
          | (go_at_call 16; go_fit (HK4.out _ (HG.out.below (below_tr HBP.out HBK5.out))); rintro e w6 ⟨rfl, hb6⟩; have hbk := below_tr HBK5.out (below_tr (below_al (Below.refl _ _) _) hb6); have hx3 := (hbk.block w.heap.size HLX.out).trans HXP.out; clear c0 c1 c2 c3 c4 c5 c6 p0 p1 p2; obtain ⟨c0, c1, c2, c3, c4, c5, c6⟩ := cells7 hx3; have hbw6 := below_tr HBP.out hbk; have HR6 := Lib.hid (HR.out.below hbk); clear hx3 hb6 hbk))
        go_quiet ((first
          | (go_at_call 24; with_reducible exact quiet_left (HF1.out A2 k2 _ (HR6.out.drewN _)))
          | (go_at_call 24; with_reducible exact quiet_left (HF2.out A2 k2 _ (HR6.out.drewN _)))
          | (go_at_call 24; with_reducible exact quiet_left (HF3.out A2 k2 _ (HR6.out.drewN _)))
          | (go_at_call 24; with_reducible exact quiet_left (HF4.out A2 k2 _ (HR6.out.drewN _)))))
        go_wp2
        go_ret
        exact ⟨rfl, below_n hbw6 _⟩
      | false =>
        rw [ho, if_neg hd] at hlen
        rw [ho] at HG1
        clear hd
        change L.length = 4 at hlen
        have HLEN : Hid (L.length = 4) := hlen
        have HF1 := Lib.hid (fun A c => HF.out 4 hlen A c KO)
        have HF2 := Lib.hid (fun A c => HF.out 4 hlen A c KI)
        have HF3 := Lib.hid (fun A c => HF.out 4 hlen A c KD)
        have HF4 := Lib.hid (fun A c => HF.out 4 hlen A c KS)
        obtain ⟨n1, hn1⟩ : ∃ n, n = findI L KO := ⟨_, rfl⟩
        obtain ⟨n2, hn2⟩ : ∃ n, n = findI L KI := ⟨_, rfl⟩
        obtain ⟨n3, hn3⟩ : ∃ n, n = findI L KD := ⟨_, rfl⟩
        obtain ⟨n4, hn4⟩ : ∃ n, n = findI L KS := ⟨_, rfl⟩
        rw [← hn1] at HF1 HG1
        rw [← hn2] at HF2 HG2
        rw [← hn3] at HF3 HG3
        rw [← hn4] at HF4 HG4
        have g1 := HG1.out
        have g2 := HG2.out
        have g3 := HG3.out
        have g4 := HG4.out
        have d2 : decide (0 ≤ n2) = true := by simpa using g2
        have d3 : decide (0 ≤ n3) = true := by simpa using g3
        have d4 : decide (0 ≤ n4) = true := by simpa using g4
        clear HG1 HG2 HG3 HG4 hn1 hn2 hn3 hn4 hlen HF hdo hok
        unfold instV
        rw [ho]
        rw [ho] at HOF HB0 HX0
        clear ho
        go_enter Tryd.func9, Tryd.ntmps9
        go_wp2_with (first
          | (go_at_call 11; go_fit (HEX.out _ (HG.out.below HB0.out)); rintro e w1 ⟨rfl, hb1⟩; have hx1 := (hb1.block w.heap.size (by simp)).trans HX0.out; obtain ⟨c0, c1, c2, c3, c4, c5, c6⟩ := cells7 hx1; have hbw1 := below_tr HB0.out hb1; have HX1 := Lib.hid hx1; have hlx1 := (Array.getElem?_eq_some_iff.1 hx1).1; clear hx1)
          | (go_at_call 22; go_fit (HOF.out w1 (HG.out.below hbw1)); rintro e w2 ⟨⟨v2, rfl, ho2⟩, hb2⟩; rw [HLEN.out] at ho2; obtain ⟨A2, k2, rfl, hr2⟩ := ho2.rd; have hbw2 := below_tr hbw1 hb2; have hx2 := (hb2.block w.heap.size hlx1).trans HX1.out; clear c0 c1 c2 c3 c4 c5 c6; obtain ⟨c0, c1, c2, c3, c4, c5, c6⟩ := cells7 hx2; have hlx2 := (Array.getElem?_eq_some_iff.1 hx2).1; have HXP := Lib.hid ((heap_alloc_old w2 (.cells #[.bool true, .int .i64 0, .string (bs x.id)] 54) hlx2).trans hx2); have HPP := Lib.hid (heap_alloc_new w2 (.cells #[.bool true, .int .i64 0, .string (bs x.id)] 54)); have HBP := Lib.hid (below_al hbw2 (.cells #[.bool true, .int .i64 0, .string (bs x.id)] 54)); have HR := Lib.hid (hr2.below (below_al (Below.refl _ w2) (.cells #[.bool true, .int .i64 0, .string (bs x.id)] 54))); have hlxp : w.heap.size < (w2.alloc (.cells #[.bool true, .int .i64 0, .string (bs x.id)] 54)).heap.size := (by simp; omega); have hlpp : w2.heap.size < (w2.alloc (.cells #[.bool true, .int .i64 0, .string (bs x.id)] 54)).heap.size := (by simp); have HLX := Lib.hid hlxp; have HLP := Lib.hid hlpp; clear hx2 ho2 hr2 hlxp hlpp)
          | (go_at_call 16; go_fit (HK1.out (w2.alloc (.cells #[.bool true, .int .i64 0, .string (bs x.id)] 54)) (w2.heap.size + 1) (by simp) (HG.out.below HBP.out)); rintro e w3 ⟨rfl, hb3⟩; have hbk := below_tr (below_al (Below.refl _ _) _) hb3; have hx3 := (hbk.block w.heap.size HLX.out).trans HXP.out; have hp3 := (hbk.block w2.heap.size HLP.out).trans HPP.out; clear c0 c1 c2 c3 c4 c5 c6; obtain ⟨c0, c1, c2, c3, c4, c5, c6⟩ := cells7 hx3; obtain ⟨p0, p1, p2⟩ := cells3 hp3; have hl3x := (Array.getElem?_eq_some_iff.1 hx3).1; have hl3p := (Array.getElem?_eq_some_iff.1 hp3).1; have HBK3 := Lib.hid hbk; clear hx3 hp3 hb3 hbk)
          | (go_at_call 16; go_fit (HK2.out _ (HG.out.below (below_tr HBP.out HBK3.out))); rintro e w4 ⟨rfl, hb4⟩; have hbk := below_tr HBK3.out (below_tr (below_al (Below.refl _ _) _) hb4); have hx3 := (hbk.block w.heap.size HLX.out).trans HXP.out; have hp3 := (hbk.block w2.heap.size HLP.out).trans HPP.out; clear c0 c1 c2 c3 c4 c5 c6 p0 p1 p2; obtain ⟨c0, c1, c2, c3, c4, c5, c6⟩ := cells7 hx3; obtain ⟨p0, p1, p2⟩ := cells3 hp3; have hl4x := (Array.getElem?_eq_some_iff.1 hx3).1; have hl4p := (Array.getElem?_eq_some_iff.1 hp3).1; have HBK4 := Lib.hid hbk; clear hx3 hp3 hb4 hbk)
          | (go_at_call 16; go_fit (HK3.out _ (HG.out.below (below_tr HBP.out HBK4.out))); rintro e w5 ⟨rfl, hb5⟩; have hbk := below_tr HBK4.out (below_tr (below_al (Below.refl _ _) _) hb5); have hx3 := (hbk.block w.heap.size HLX.out).trans HXP.out; have hp3 := (hbk.block w2.heap.size HLP.out).trans HPP.out; clear c0 c1 c2 c3 c4 c5 c6 p0 p1 p2; obtain ⟨c0, c1, c2, c3, c4, c5, c6⟩ := cells7 hx3; obtain ⟨p0, p1, p2⟩ := cells3 hp3; have hl5x := (Array.getElem?_eq_some_iff.1 hx3).1; have hl5p := (Array.getElem?_eq_some_iff.1 hp3).1; have HBK5 := Lib.hid hbk; clear hx3 hp3 hb5 hbk)
          | (go_at_call 16; go_fit (HK4.out _ (HG.out.below (below_tr HBP.out HBK5.out))); rintro e w6 ⟨rfl, hb6⟩; have hbk := below_tr HBK5.out (below_tr (below_al (Below.refl _ _) _) hb6); have hx3 := (hbk.block w.heap.size HLX.out).trans HXP.out; clear c0 c1 c2 c3 c4 c5 c6 p0 p1 p2; obtain ⟨c0, c1, c2, c3, c4, c5, c6⟩ := cells7 hx3; have hbw6 := below_tr HBP.out hbk; have HR6 := Lib.hid (HR.out.below hbk); clear hx3 hb6 hbk))
        go_quiet ((first
          | (go_at_call 24; with_reducible exact quiet_left (HF1.out A2 k2 _ (HR6.out.drewN _)))
          | (go_at_call 24; with_reducible exact quiet_left (HF2.out A2 k2 _ (HR6.out.drewN _)))
          | (go_at_call 24; with_reducible exact quiet_left (HF3.out A2 k2 _ (HR6.out.drewN _)))
          | (go_at_call 24; with_reducible exact quiet_left (HF4.out A2 k2 _ (HR6.out.drewN _)))))
        go_wp2
        go_ret
        exact ⟨rfl, below_n hbw6 _⟩
end Go.Proofs.YtaecafagmncmiaaDoor
