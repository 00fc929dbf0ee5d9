/-
  The walk of rows.Diff.
-/
import Derived.Test.YtaecafagmncmiaaDoorSe
import Derived.Test.YtaecafagmncmiaaDoorOf
namespace Go.Proofs.YtaecafagmncmiaaDoor
open Go.RowKit Go.WideMaps Pu

/-- block r is an iterator over block b, a map of rows by their keys -/
def RangeOf (w : World) (b r n : Nat) (l : List Chg) (left : Bs → Bool) (cnt : Nat) : Prop :=
  ∃ (D : DataW Unit) (left' : Lit → Bool), w.ranges Tryd.prog 9 (plainElem Tryd.prog 9) b r n D left' cnt ∧ Maps.IsMap D ∧ (∀ k, Maps.has D (.string k) = hasK l k) ∧ (∀ k zd, D.atKey (.string k) zd = match valK l k with | some v => .lit (.string v) | none => zd) ∧ ∀ k, left' (.string k) = left k
theorem RangeOf.map {w : World} {b r n cnt : Nat} {l : List Chg} {left : Bs → Bool} (h : RangeOf w b r n l left cnt) : MapOf w b n l := by
  obtain ⟨D, left', h1, h2, h3, h4, _⟩ := h
  exact ⟨D, h1.owns, h2, h3, h4⟩
theorem RangeOf.kept {w w' : World} {b r n cnt : Nat} {l : List Chg} {left : Bs → Bool} {row : Option Nat} (h : RangeOf w b r n l left cnt) (hg : w.grownBy w' row) (hb : some b ≠ row) (hr : some r ≠ row) : RangeOf w' b r n l left cnt := by
  obtain ⟨D, left', h1, h2⟩ := h
  exact ⟨D, left', h1.kept hg hb hr, h2⟩
theorem RangeOf.left_eq {w : World} {b r n cnt : Nat} {l : List Chg} {left : Bs → Bool} (h : RangeOf w b r n l left cnt) : w.rangeLeft b r = cnt := by
  obtain ⟨D, left', h1, _⟩ := h
  exact h1.left_eq
theorem RangeOf.lt {w : World} {b r n cnt : Nat} {l : List Chg} {left : Bs → Bool} (h : RangeOf w b r n l left cnt) : r < w.heap.size := by
  obtain ⟨D, left', h1, _⟩ := h
  exact h1.lt
theorem keyOf_string_inv {key : Value} {kl : Lit} (h : keyOf Tryd.prog 9 key = some kl) : ∃ x : Bs, key = .string (bs x) ∧ kl = .string x := by
  cases key <;> simp [keyOf, Tryd.underlying9, mapKey] at h
  rename_i s
  exact ⟨s.data.toList, by simp [bs], h.2.symm⟩

section
variable (w : World) {ops : Array Oper} {rest : List Oper} {o : Oper} {a : Act} {Q : Exit → Act → World → Prop}
theorem wpList_range_map (hg : o.guard = none) (m : Operand) (hop : o.op = Op.range 90 m) (b n : Nat) (l : List Chg)
    (hm : a.eval m = .map (some b)) (h : MapOf w b n l)
    (hK : ∀ w' cnt, RangeOf w' b w.heap.size n l (hasK l) cnt → w.grownBy w' none → w'.heap.size = w.heap.size + 1 → wpList Tryd.prog ops Q rest (a.put o.dst (.pointer (some ⟨w.heap.size, 0, none⟩))) w') :
    wpList Tryd.prog ops Q (o :: rest) a w := by
  obtain ⟨D, h1, h2, h3, h4⟩ := h
  exact wpList_range_own w hg m _ hop 9 9 kStr Tryd.underlying90 _ b n D hm h1 fun w' r1 r2 r3 => hK w' _ ⟨D, _, r1, h2, h3, h4, h3⟩ r2 r3
theorem wpList_next_map (hg : o.guard = none) (it : Operand) (hop : o.op = Op.next it false) (b r n : Nat) (l : List Chg) (left : Bs → Bool) (cnt : Nat)
    (hit : a.eval it = .pointer (some ⟨r, 0, none⟩)) (h : RangeOf w b r n l left cnt)
    (hDone : (∀ k, left k = false) → wpList Tryd.prog ops Q rest (a.put o.dst (.tuple #[.bool false])) w)
    (hMore : ∀ (k v : Bs) (left2 : Bs → Bool) (w' : World) (cnt' : Nat), valK l k = some v → left k = true → (∀ z, left2 z = (left z && !(z == k))) → RangeOf w' b r n l left2 cnt' → cnt' < cnt →
      w.grownBy w' (some r) → w'.heap.size = w.heap.size → (Instr.entry (.pointer (some ⟨r, 0, none⟩))).run Tryd.prog w' = .ok (.tuple #[.string (bs k), .string (bs v)]) w' → wpList Tryd.prog ops Q rest (a.put o.dst (.tuple #[.bool true, .string (bs k), .string (bs v)])) w') :
    wpList Tryd.prog ops Q (o :: rest) a w := by
  obtain ⟨D, left', h1, h2, h3, h4, h5⟩ := h
  refine wpList_next_ranges w hg it hop 9 kStr (plainElem Tryd.prog 9) (fun s : Bs => Value.string (bs s)) (fun s : Bs => Value.string (bs s)) (fun key kl hk => by obtain ⟨x, rfl, _⟩ := keyOf_string_inv hk; exact ⟨x, rfl⟩)
    (fun v y hv => by obtain ⟨s, rfl, _⟩ := plainElem_string_inv Tryd.underlying9 hv; exact ⟨s.data.toList, by simp [bs]⟩) b r n D left' cnt hit h1 (fun _ hl => hDone fun k => by rw [← h5]; exact hl _) ?_
  intro k v kl y w' cnt' hkey hleft hval hat hrg hlt hgr hsz hen
  obtain ⟨x, hx, rfl⟩ := keyOf_string_inv hkey
  have hxk : k = x := by
    have := Value.string.inj hx
    exact bs_inj.1 this
  subst hxk
  obtain ⟨s, hs, hy, _⟩ := plainElem_string_inv Tryd.underlying9 hval
  have hsv : s = bs v := (Value.string.inj hs).symm
  have hy1 : y.1 = .lit (.string v) := by rw [hy, hsv, bs_data]
  have hv2 : valK l k = some v := by
    have e1 := hat .nil
    rw [hy1, h4] at e1
    cases hvk : valK l k with
    | none => rw [hvk] at e1; cases e1
    | some u => rw [hvk] at e1; cases e1; rfl
  exact hMore k v (fun z => left z && !(z == k)) w' cnt' hv2 (by rw [← h5]; exact hleft) (fun _ => rfl) ⟨D, _, hrg, h2, h3, h4, fun z => by rw [h5]; rfl⟩ hlt hgr hsz hen
theorem wpList_lookup_map (hg : o.guard = none) (m x : Operand) (hop : o.op = Op.lookup 90 m x true) (b n : Nat) (l : List Chg) (k : Bs) (hk : k.length ≤ 9223372036854775807)
    (hm : a.eval m = .map (some b)) (h : MapOf w b n l) (hx : a.eval x = .string (bs k))
    (hK : wpList Tryd.prog ops Q rest (a.put o.dst (.tuple #[.string (bs ((valK l k).getD [])), .bool (hasK l k)])) w) : wpList Tryd.prog ops Q (o :: rest) a w := by
  obtain ⟨D, h1, h2, h3, h4⟩ := h
  refine wpList_lookup_own_ok w hg m x _ hop 9 9 kStr Tryd.underlying90 _ (zeroStr _) (.lit (.string [])) [] (plain_str [] (by simp)) b n D hm h1 _ _ hx (key_str k hk) fun v ps hv => ?_
  rw [h4] at hv
  obtain ⟨s, rfl, hs, _⟩ := plainElem_string_inv Tryd.underlying9 hv
  have e1 := congrArg Prod.fst hs
  have e2 : s = bs ((valK l k).getD []) := by
    cases hvk : valK l k with
    | none => rw [hvk] at e1; simp only [DataW.lit.injEq, Lit.string.injEq] at e1; rw [Option.getD_none, e1]; simp [bs]
    | some u => rw [hvk] at e1; simp only [DataW.lit.injEq, Lit.string.injEq] at e1; rw [Option.getD_some, e1]; simp [bs]
  rw [e2, h3]
  exact hK
end

theorem ne5 {v v' : Value} {n r : Nat} (h : v'.ownBlock = v.ownBlock ∨ ∃ k, v'.ownBlock = some k ∧ n ≤ k) (hv : v.ownBlock ≠ some r) (hr : r < n) : v'.ownBlock ≠ some r := by
  intro e
  rcases h with h | ⟨k, h, hk⟩
  · exact hv (by rw [← h]; exact e)
  · rw [h] at e; cases e; omega
theorem seen_yes (A : Option Addr) (c : Nat) (l : List Chg) (w : World) (hr : Rd w 3 A l.length (l.flatMap chgC)) (hs : ∀ x ∈ l, x.key.length ≤ 9223372036854775807 ∧ x.value.length ≤ 9223372036854775807) (h : rowsB l = true) :
    Calls Tryd.prog 42 #[.slice A l.length c] w fun e w' => (∃ b, e = .returned (.tuple #[.map (some b), .bool true]) ∧ w.heap.size ≤ b ∧ MapOf w' b l.length l) ∧ Below w.heap.size w w' :=
  (seen_any A c l w hr hs).mono fun e w' ⟨h1, h2⟩ => ⟨by unfold SeenPost at h1; rw [if_pos h] at h1; exact h1, h2⟩
theorem seen_no (A : Option Addr) (c : Nat) (l : List Chg) (w : World) (hr : Rd w 3 A l.length (l.flatMap chgC)) (hs : ∀ x ∈ l, x.key.length ≤ 9223372036854775807 ∧ x.value.length ≤ 9223372036854775807) (h : rowsB l = false) :
    Calls Tryd.prog 42 #[.slice A l.length c] w fun e w' => e = .returned (.tuple #[.map none, .bool false]) ∧ Below w.heap.size w w' :=
  (seen_any A c l w hr hs).mono fun e w' ⟨h1, h2⟩ => ⟨by unfold SeenPost at h1; rw [if_neg (by simp [h])] at h1; exact h1, h2⟩

set_option maxRecDepth 100000 in
set_option maxHeartbeats 1000000 in
theorem diff_no (A1 A2 : Option Addr) (c1 c2 : Nat) (old now : List Chg) (w : World) (hr1 : Rd w 3 A1 old.length (old.flatMap chgC)) (hr2 : Rd w 3 A2 now.length (now.flatMap chgC))
    (hs1 : ∀ x ∈ old, x.key.length ≤ 9223372036854775807 ∧ x.value.length ≤ 9223372036854775807) (hs2 : ∀ x ∈ now, x.key.length ≤ 9223372036854775807 ∧ x.value.length ≤ 9223372036854775807) (h : rowsB old = false ∨ rowsB now = false) :
    Calls Tryd.prog 19 #[.slice A1 old.length c1, .slice A2 now.length c2] w fun e w' => ChPost w.heap.size (diffB old now) e w' ∧ Below w.heap.size w w' := by
  have e1 : errv 1 = .iface 68 (.int .i64 1) := errv_pos (by omega)
  have HE := Lib.hid e1
  have HD := Lib.hid (diffB_no h)
  have HR1 := Lib.hid hr1
  have HR2 := Lib.hid hr2
  have HS1 := Lib.hid hs1
  have HS2 := Lib.hid hs2
  have fin : ∀ w', Below w.heap.size w w' → ChPost w.heap.size (diffB old now) (.returned (.tuple #[.slice none 0 0, .iface 68 (.int .i64 1)])) w' := fun w' _ => by
    rw [HD.out]; exact ⟨_, by rw [← HE.out], Ow.nil _ _ _ _⟩
  have FIN := Lib.hid fin
  clear e1 hr1 hr2 hs1 hs2 fin
  cases h1 : rowsB old with
  | false =>
    have H1 := Lib.hid h1
    clear h h1
    cases h2 : rowsB now with
    | false =>
      have H2 := Lib.hid h2
      clear h2
      go_enter Tryd.func19, Tryd.ntmps19
      go_wp2_with (first
        | (go_at_call 42; go_fit (seen_no A1 c1 old w HR1.out HS1.out H1.out); rintro e w1 ⟨rfl, hb1⟩)
        | (go_at_call 42; go_fit (seen_no A2 c2 now _ (HR2.out.below hb1) HS2.out H2.out); rintro e w2 ⟨rfl, hb2⟩; have hbw := below_tr hb1 hb2))
      go_ret2
      exact ⟨FIN.out _ hbw, hbw⟩
    | true =>
      have H2 := Lib.hid h2
      clear h2
      go_enter Tryd.func19, Tryd.ntmps19
      go_wp2_with (first
        | (go_at_call 42; go_fit (seen_no A1 c1 old w HR1.out HS1.out H1.out); rintro e w1 ⟨rfl, hb1⟩)
        | (go_at_call 42; go_fit (seen_yes A2 c2 now _ (HR2.out.below hb1) HS2.out H2.out); rintro e w2 ⟨⟨b2, rfl, _, _⟩, hb2⟩; have hbw := below_tr hb1 hb2))
      go_ret2
      exact ⟨FIN.out _ hbw, hbw⟩
  | true =>
    have h2 : rowsB now = false := by rcases h with h | h; · rw [h1] at h; cases h
                                      · exact h
    have H1 := Lib.hid h1
    have H2 := Lib.hid h2
    clear h h1 h2
    go_enter Tryd.func19, Tryd.ntmps19
    go_wp2_with (first
      | (go_at_call 42; go_fit (seen_yes A1 c1 old w HR1.out HS1.out H1.out); rintro e w1 ⟨⟨b1, rfl, _, _⟩, hb1⟩)
      | (go_at_call 42; go_fit (seen_no A2 c2 now _ (HR2.out.below hb1) HS2.out H2.out); rintro e w2 ⟨rfl, hb2⟩; have hbw := below_tr hb1 hb2))
    go_ret2
    exact ⟨FIN.out _ hbw, hbw⟩

set_option maxRecDepth 100000 in
set_option maxHeartbeats 2000000 in
theorem diff_ok (A1 A2 : Option Addr) (c1 c2 : Nat) (old now : List Chg) (w : World) (hr1 : Rd w 3 A1 old.length (old.flatMap chgC)) (hr2 : Rd w 3 A2 now.length (now.flatMap chgC))
    (hs1 : ∀ x ∈ old, x.key.length ≤ 9223372036854775807 ∧ x.value.length ≤ 9223372036854775807) (hs2 : ∀ x ∈ now, x.key.length ≤ 9223372036854775807 ∧ x.value.length ≤ 9223372036854775807) (h1 : rowsB old = true) (h2 : rowsB now = true) (hn : old.length + now.length ≤ 1000000) :
    Calls Tryd.prog 19 #[.slice A1 old.length c1, .slice A2 now.length c2] w fun e w' => ChPost w.heap.size (diffB old now) e w' ∧ Below w.heap.size w w' := by
  have e0 : errv 0 = .nilIface := rfl
  have HE := Lib.hid e0
  have HD := Lib.hid (diffB_ok h1 h2)
  have HR1 := Lib.hid hr1
  have HR2 := Lib.hid hr2
  have HS1 := Lib.hid hs1
  have HS2 := Lib.hid hs2
  have H1 := Lib.hid h1
  have H2 := Lib.hid h2
  clear e0 hr1 hr2 hs1 hs2 h1 h2
  go_enter Tryd.func19, Tryd.ntmps19
  go_wp2_with (first
    | (go_at_call 42; go_fit (seen_yes A1 c1 old w HR1.out HS1.out H1.out); rintro e w1 ⟨⟨b1, rfl, hlb1, hm1⟩, hb1⟩)
    | (go_at_call 42; go_fit (seen_yes A2 c2 now _ (HR2.out.below hb1) HS2.out H2.out); rintro e w2 ⟨⟨b2, rfl, hlb2, hm2⟩, hb2⟩; have hbw := below_tr hb1 hb2; have hlt1 := hm1.lt; have hm1 := hm1.below hb2; have HM1 := Lib.hid hm1; have HM2 := Lib.hid hm2; have hlt2 := hm2.lt; clear hm1 hm2)
    | (at_range; refine wpList_range_map _ rfl _ rfl b1 old.length old rfl HM1.out ?_; intro w3 cnt0 hrg0 hg0 hz0; have HM2b := Lib.hid (HM2.out.kept hg0 (by simp)); have HRG0 := Lib.hid hrg0; have hbw3 := below_g hbw hg0; clear hrg0 hg0))
  go_frame
  go_loopw [10] (fun v wr => ∃ (left : Bs → Bool) (cnt : Nat) (acc : List Chg), RangeOf wr b1 w2.heap.size old.length old left cnt ∧ MapOf wr b2 now.length now ∧ Ow wr (w2.heap.size + 1) 49 3 v acc.length (acc.flatMap chgC) ∧ acc.Perm (partL old (delP now) gone left) ∧ Below w.heap.size w wr) (fun _ wr => wr.rangeLeft b1 w2.heap.size)
  case atStart => exact ⟨_, _, [], HRG0.out, HM2b.out, Ow.nil _ _ _ _, by rw [partL_all (fun _ => rfl)], hbw3⟩
  case round =>
    obtain ⟨left, cnt, acc, hrg, hmap2, how, hperm, hbr⟩ := hrel
    have HRG := Lib.hid hrg
    have HMAP2 := Lib.hid hmap2
    have HPERM := Lib.hid hperm
    have hal : acc.length ≤ old.length := by rw [hperm.length_eq]; exact partL_len
    obtain ⟨A3, c3, rfl, _⟩ := how.rd
    have HOW := Lib.hid how
    have HBR := Lib.hid hbr
    clear hrg hmap2 hperm how hbr
    go_wp2_with (first
      | (at_next; refine wpList_next_map _ rfl _ rfl b1 w2.heap.size old.length old left cnt rfl HRG.out ?_ ?_))
    · intro hleft
      have hpd : acc.Perm (dels old now) := by
        have h7 := HPERM.out
        rw [partL_none hleft] at h7
        unfold dels; exact h7
      have HPD := Lib.hid hpd
      have HM1c := Lib.hid HRG.out.map
      have hltr := HRG.out.lt
      obtain ⟨wo, rfl⟩ : ∃ W, W = wr := ⟨_, rfl⟩
      clear hpd hleft HPERM
      go_wp2_with (first
        | (at_range; refine wpList_range_map _ rfl _ rfl b2 now.length now rfl HMAP2.out ?_; intro w5 cnt5 hrg5 hg5 hz5; have HM15 := Lib.hid (HM1c.out.kept hg5 (by simp)); have HRG5 := Lib.hid hrg5; have HO5 := Lib.hid (HOW.out.kept hg5 (Classical.em _)); have hbr5 := HBR.out.grown hg5 HBR.out.size (by simp); clear hrg5 hg5))
      go_frame
      go_loopw [10] (fun v wx => ∃ (left : Bs → Bool) (cnt : Nat) (acc : List Chg), RangeOf wx b2 wo.heap.size now.length now left cnt ∧ MapOf wx b1 old.length old ∧ Ow wx (w2.heap.size + 1) 49 3 v acc.length (acc.flatMap chgC) ∧ v.ownBlock ≠ some wo.heap.size ∧ acc.Perm (dels old now ++ partL now (addP old) id left) ∧ Below w.heap.size w wx) (fun _ wx => wx.rangeLeft b2 wo.heap.size)
      case atStart => exact ⟨_, _, acc, HRG5.out, HM15.out, HO5.out, fun e => by have := (HOW.out.lt _ e).2; omega, by rw [partL_all (fun _ => rfl), List.append_nil]; exact HPD.out, hbr5⟩
      case round =>
        obtain ⟨left', cnt', acc', hrg', hmap1', how', hne', hperm', hbx⟩ := hrel
        have HRG' := Lib.hid hrg'
        have HMAP1' := Lib.hid hmap1'
        have HPERM' := Lib.hid hperm'
        have hal' : acc'.length ≤ old.length + now.length := by
          have h7 := hperm'.length_eq
          rw [List.length_append] at h7
          have h8 := dels_len old now
          have h9 := partL_len (l := now) (P := addP old) (f := id) (left := left')
          omega
        obtain ⟨A5, c5, rfl, _⟩ := how'.rd
        have HOW' := Lib.hid how'
        have HNE' := Lib.hid hne'
        have HBX := Lib.hid hbx
        clear hrg' hmap1' hperm' how' hne' hbx
        go_wp2_with (first
          | (at_next; refine wpList_next_map _ rfl _ rfl b2 wo.heap.size now.length now left' cnt' rfl HRG'.out ?_ ?_))
        · intro hleft'
          have hpd : acc'.Perm (diffL old now) := by
            have h7 := HPERM'.out
            rw [partL_none hleft'] at h7
            refine h7.trans ?_
            have h8 := diffL_perm (rowsB_apart H1.out) (rowsB_apart H2.out)
            unfold adds at h8
            simpa using h8
          have hsort := rsorted_any (.slice A5 acc'.length c5) (w2.heap.size + 1) acc' (diffL old now) wr HOW'.out (diffL_sorted (rowsB_apart H1.out) (rowsB_apart H2.out)) hpd (by omega)
          have HSORT := Lib.hid hsort
          clear hsort hpd hleft' HPERM'
          go_wp2_with (first | (go_at_call 43; refine HSORT.out.mono ?_; rintro e w6 ⟨⟨v6, rfl, ho6⟩, hb6⟩))
          go_ret2
          rw [HD.out]
          exact ⟨⟨v6, rfl, ho6.mono (by have := hbw.size; omega)⟩, HBX.out.trans (hb6.mono (by have := hbw.size; omega))⟩
        · intro k val left2 w4 cnt4 hv hl hl2 hrg4 hlt hg4 hz4 hen
          obtain ⟨c, hc, rfl, rfl⟩ := valK_some hv
          obtain ⟨hklen, hvlen⟩ := HS2.out c hc
          have hdrop := rowsB_drop H2.out hc
          have hstep := partL_step (P := addP old) (f := id) hl hl2 (rowsB_apart H2.out) hc
          have HM4 := Lib.hid (HMAP1'.out.kept hg4 (by intro e; cases e; omega))
          have HO4 := Lib.hid (HOW'.out.kept hg4 (.inr HNE'.out))
          have hbr4 := HBX.out.grown hg4 HBX.out.size (fun j hj => by cases hj; have := HBR.out.size; omega)
          have HRG4 := Lib.hid hrg4
          have hdp : addP old c = decide (valK old c.key ≠ some c.value) := by unfold addP; rfl
          rw [hdp] at hstep
          have HSTEP := Lib.hid hstep
          have hsz4 : w2.heap.size + 1 ≤ w4.heap.size := by have := HRG4.out.lt; omega
          have hcc : Hid ((#[Value.string (bs c.key), .bool false, .string (bs c.value)] : Array Value).toList = chgC c) := by
            unfold chgC; rw [hdrop]; rfl
          clear hv hl hl2 hrg4 hg4 hstep hdp hc hdrop hz4
          have hob : ∀ k, (Value.slice A5 acc'.length c5).ownBlock = some k → w2.heap.size + 1 ≤ k ∧ k ≠ wo.heap.size := fun k hk => ⟨(HOW'.out.lt k hk).1, fun e => HNE'.out (by rw [hk, e])⟩
          have HOB := Lib.hid hob
          clear hob
          have hno : valK old c.key = some c.value → acc'.Perm (dels old now ++ partL now (addP old) id left2) := fun h => by
            have h7 := HSTEP.out
            rw [h] at h7
            simp only [ne_eq, not_true_eq_false, decide_false, Bool.false_eq_true, if_false, List.append_nil] at h7
            exact HPERM'.out.trans (h7.symm.append_left _)
          have hyes : valK old c.key ≠ some c.value → (acc' ++ [c]).Perm (dels old now ++ partL now (addP old) id left2) := fun h => by
            have h7 := HSTEP.out
            rw [if_pos (by simpa using h)] at h7
            have h8 := (HPERM'.out.append_right [c]).trans (by rw [List.append_assoc])
            exact h8.trans (h7.symm.append_left _)
          have HNO := Lib.hid hno
          have HYES := Lib.hid hyes
          clear hno hyes HSTEP
          cases hvk : valK old c.key with
          | none =>
            have HH := Lib.hid (valK_none.1 hvk)
            have HV : Hid ((valK old c.key).getD [] = []) := by unfold Hid; rw [hvk]; rfl
            have HP := Lib.hid (HYES.out (by rw [hvk]; simp))
            clear hvk HYES HNO
            go_wp2_with (first
              | (at_lookup; refine wpList_lookup_map _ rfl _ _ rfl b1 old.length old c.key hklen rfl HM4.out rfl ?_; rw [HH.out, HV.out])
              | (refine wpList_push tChg rfl (.tmp 74) (.tmp 78) rfl (w2.heap.size + 1) (.slice A5 acc'.length c5) acc'.length _ #[.string (bs c.key), .bool false, .string (bs c.value)] rfl rfl HO4.out rfl (by rw [hcc.out]; exact chgC_one c) (by omega) (by omega) hsz4 ?_; intro v5 w5 ho5 hg5 hd5 hb5; have HRG5 := Lib.hid (HRG4.out.kept hg5 (by intro e; have := (HOB.out _ e.symm).1; omega) (by intro e; exact (HOB.out _ e.symm).2 rfl)); have HM5 := Lib.hid (HM4.out.kept hg5 (by intro e; have := (HOB.out _ e.symm).1; omega)); have hbr5 := hbr4.trans (hb5.mono (by have := hbw.size; omega)); have HNE5 : Hid (v5.ownBlock ≠ some wo.heap.size) := (by intro e; exact ne5 hd5 HNE'.out HRG4.out.lt e); have HO5 := Lib.hid ho5; clear ho5 hg5 hd5 hb5))
            go_roundw
            case rel => exact ⟨left2, cnt4, acc' ++ [c], HRG5.out, HM5.out, HO5.out.cast (by simp) (by rw [hcc.out]; simp), HNE5.out, HP.out, hbr5⟩
            case measure => rw [HRG5.out.left_eq, HRG'.out.left_eq]; exact hlt
          | some u =>
            have HH : Hid (hasK old c.key = true) := by
              unfold Hid
              cases h : hasK old c.key
              · rw [valK_none.2 h] at hvk; cases hvk
              · rfl
            have HV : Hid ((valK old c.key).getD [] = u) := by unfold Hid; rw [hvk]; rfl
            by_cases huv : u = c.value
            · have HP := Lib.hid (HNO.out (by rw [hvk, huv]))
              subst huv
              clear hvk HYES HNO
              go_wp2_with (first | (at_lookup; refine wpList_lookup_map _ rfl _ _ rfl b1 old.length old c.key hklen rfl HM4.out rfl ?_; rw [HH.out, HV.out]))
              go_roundw
              case rel => exact ⟨left2, cnt4, acc', HRG4.out, HM4.out, HO4.out, HNE'.out, HP.out, hbr4⟩
              case measure => rw [HRG4.out.left_eq, HRG'.out.left_eq]; exact hlt
            · have HP := Lib.hid (HYES.out (by rw [hvk]; intro e; cases e; exact huv rfl))
              have hne : (u == c.value) = false := by simpa using huv
              have hne2 : (u != c.value) = true := by simpa using huv
              clear hvk HYES HNO huv
              go_wp2_with (first
                | (at_lookup; refine wpList_lookup_map _ rfl _ _ rfl b1 old.length old c.key hklen rfl HM4.out rfl ?_; rw [HH.out, HV.out])
                | (refine wpList_push tChg rfl (.tmp 74) (.tmp 78) rfl (w2.heap.size + 1) (.slice A5 acc'.length c5) acc'.length _ #[.string (bs c.key), .bool false, .string (bs c.value)] rfl rfl HO4.out rfl (by rw [hcc.out]; exact chgC_one c) (by omega) (by omega) hsz4 ?_; intro v5 w5 ho5 hg5 hd5 hb5; have HRG5 := Lib.hid (HRG4.out.kept hg5 (by intro e; have := (HOB.out _ e.symm).1; omega) (by intro e; exact (HOB.out _ e.symm).2 rfl)); have HM5 := Lib.hid (HM4.out.kept hg5 (by intro e; have := (HOB.out _ e.symm).1; omega)); have hbr5 := hbr4.trans (hb5.mono (by have := hbw.size; omega)); have HNE5 : Hid (v5.ownBlock ≠ some wo.heap.size) := (by intro e; exact ne5 hd5 HNE'.out HRG4.out.lt e); have HO5 := Lib.hid ho5; clear ho5 hg5 hd5 hb5))
              go_roundw
              case rel => exact ⟨left2, cnt4, acc' ++ [c], HRG5.out, HM5.out, HO5.out.cast (by simp) (by rw [hcc.out]; simp), HNE5.out, HP.out, hbr5⟩
              case measure => rw [HRG5.out.left_eq, HRG'.out.left_eq]; exact hlt
    · intro k val left2 w4 cnt4 hv hl hl2 hrg4 hlt hg4 hz4 hen
      obtain ⟨c, hc, rfl, _⟩ := valK_some hv
      have hklen := (HS1.out c hc).1
      have hstep := partL_step (P := delP now) (f := gone) hl hl2 (rowsB_apart H1.out) hc
      have HM4 := Lib.hid (HMAP2.out.kept hg4 (by intro e; cases e; omega))
      have HO4 := Lib.hid (HOW.out.kept hg4 (by
        by_cases hq : (Value.slice A3 acc.length c3).ownBlock = some w2.heap.size
        · have := (HOW.out.lt _ hq).1; omega
        · exact .inr hq))
      have hbr4 := HBR.out.grown hg4 HBR.out.size (fun j hj => by cases hj; have := hbw.size; omega)
      have HRG4 := Lib.hid hrg4
      have hdp : delP now c = !hasK now c.key := by unfold delP; rfl
      rw [hdp] at hstep
      have HSTEP := Lib.hid hstep
      clear hv hl hl2 hrg4 hg4 hstep hdp hc hz4
      cases hh : hasK now c.key with
      | true =>
        have HH := Lib.hid hh
        clear hh
        go_wp2_with (first | (at_lookup; refine wpList_lookup_map _ rfl _ _ rfl b2 now.length now c.key hklen rfl HM4.out rfl ?_; rw [HH.out]))
        go_roundw
        case rel => exact ⟨left2, cnt4, acc, HRG4.out, HM4.out, HO4.out, HPERM.out.trans (by have := HSTEP.out; rw [HH.out] at this; simpa using this.symm), hbr4⟩
        case measure => rw [HRG4.out.left_eq, HRG.out.left_eq]; exact hlt
      | false =>
        have HH := Lib.hid hh
        clear hh
        have hsz4 : w2.heap.size + 1 ≤ w4.heap.size := by have := HRG4.out.lt; omega
        go_wp2_with (first
          | (at_lookup; refine wpList_lookup_map _ rfl _ _ rfl b2 now.length now c.key hklen rfl HM4.out rfl ?_; rw [HH.out])
          | (refine wpList_push tChg rfl (.tmp 49) (.tmp 52) rfl (w2.heap.size + 1) (.slice A3 acc.length c3) acc.length _ #[.string (bs c.key), .bool true, .string ⟨#[]⟩] rfl rfl HO4.out rfl (chgC_one (gone c)) (by omega) (by omega) hsz4 ?_; intro v5 w5 ho5 hg5 hd5 hb5))
        have hob : ∀ k, (Value.slice A3 acc.length c3).ownBlock = some k → w2.heap.size + 1 ≤ k := fun k hk => (HOW.out.lt k hk).1
        have HRG5 := Lib.hid (HRG4.out.kept hg5 (by intro e; have := hob _ e.symm; omega) (by intro e; have := hob _ e.symm; omega))
        have HM5 := Lib.hid (HM4.out.kept hg5 (by intro e; have := hob _ e.symm; omega))
        have hbr5 := hbr4.trans (hb5.mono (by have := hbw.size; omega))
        have HO5 := Lib.hid ho5
        clear ho5 hg5 hd5 hb5 hob
        go_roundw
        case rel => exact ⟨left2, cnt4, acc ++ [gone c], HRG5.out, HM5.out, HO5.out.cast (by simp) (by simp [chgC, gone]; rfl), by
          have h7 := HSTEP.out
          rw [HH.out] at h7
          exact (HPERM.out.append_right _).trans (by simpa using h7.symm), hbr5⟩
        case measure => rw [HRG5.out.left_eq, HRG.out.left_eq]; exact hlt

theorem diff_any (A1 A2 : Option Addr) (c1 c2 : Nat) (old now : List Chg) (w : World) (hr1 : Rd w 3 A1 old.length (old.flatMap chgC)) (hr2 : Rd w 3 A2 now.length (now.flatMap chgC))
    (hs1 : ∀ x ∈ old, x.key.length ≤ 9223372036854775807 ∧ x.value.length ≤ 9223372036854775807) (hs2 : ∀ x ∈ now, x.key.length ≤ 9223372036854775807 ∧ x.value.length ≤ 9223372036854775807) (hn : old.length + now.length ≤ 1000000) :
    Calls Tryd.prog 19 #[.slice A1 old.length c1, .slice A2 now.length c2] w fun e w' => ChPost w.heap.size (diffB old now) e w' ∧ Below w.heap.size w w' := by
  cases h1 : rowsB old with
  | false => exact diff_no A1 A2 c1 c2 old now w hr1 hr2 hs1 hs2 (.inl h1)
  | true =>
    cases h2 : rowsB now with
    | false => exact diff_no A1 A2 c1 c2 old now w hr1 hr2 hs1 hs2 (.inr h2)
    | true => exact diff_ok A1 A2 c1 c2 old now w hr1 hr2 hs1 hs2 h1 h2 hn
end Go.Proofs.YtaecafagmncmiaaDoor
