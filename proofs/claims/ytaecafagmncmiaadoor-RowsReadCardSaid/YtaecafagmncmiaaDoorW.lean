/-
  Words for memory, over whatever program: a slice that is read, a slice of the call's own, elements appended, bytes as a string.
-/
import Derived.Below
import Derived.Laws.OwnMore
import Derived.Laws.BytesArg
import Derived.Deep.AppendLies
import Derived.Deep.Draws
import Derived.Lib.ConvBytes
import Derived.WalkKit
import Derived.WalkSpells
import Derived.WalkLawsBesides
import Derived.Lib.Hide
import Derived.Test.YtaecafagmncmiaaDoorPu
namespace Go.Proofs.YtaecafagmncmiaaDoor
open Go.RowKit Pu

/-- a slice's type and its element's row -/
structure ElT (P : Program) (t e : TypeId) (z : Value) (size bytes : Nat) : Prop where
  ht : P.underlying t = some (.slice e)
  hi : (P.info? e).map (fun i => (i.zero, i.size, i.bytes)) = some (some z, size, bytes)
  hz : z.cells.size = size
  hs : 0 < size

theorem below_n {w W : World} (h : Below w.heap.size w W) (k : Nat) : Below w.heap.size w (W.drewN k) := ⟨h.os, h.tape, h.output, h.size, h.block⟩
theorem below_al {w W : World} (h : Below w.heap.size w W) (o : Obj) : Below w.heap.size w (W.alloc o) := h.alloc h.size o
theorem below_tr {w a b : World} (h : Below w.heap.size w a) (k : Below a.heap.size a b) : Below w.heap.size w b := h.trans (k.mono h.size)
theorem addr_add (b off j : Nat) : (⟨b, off, none⟩ : Addr).add j = ⟨b, off + j, none⟩ := by unfold Addr.add; split <;> simp_all

/-- '.slice A n c' reads as the cells xs, size cells an element -/
def Rd (w : World) (size : Nat) (A : Option Addr) (n : Nat) (xs : List Value) : Prop :=
  xs.length = n * size ∧ n ≤ maxLen ∧ (0 < n → ∃ b off, A = some ⟨b, off, none⟩ ∧ b < w.heap.size ∧ ∀ j u, xs[j]? = some u → w.cell? ⟨b, off + j, none⟩ = some u)

section
variable {w w' : World} {size n : Nat} {A : Option Addr} {xs : List Value}
theorem Rd.nil (w : World) (size : Nat) (A : Option Addr) : Rd w size A 0 [] := ⟨by simp, by simp [maxLen], fun h => absurd h (by omega)⟩
theorem Rd.keep (h : Rd w size A n xs) (hz : w.heap.size ≤ w'.heap.size) (hk : ∀ b off (_v : Value), A = some ⟨b, off, none⟩ → ∀ j, w.cell? ⟨b, off + j, none⟩ = some _v → w'.cell? ⟨b, off + j, none⟩ = some _v) : Rd w' size A n xs :=
  ⟨h.1, h.2.1, fun hn => by
    obtain ⟨b, off, e, hlt, hc⟩ := h.2.2 hn
    exact ⟨b, off, e, Nat.lt_of_lt_of_le hlt hz, fun j u hu => hk b off u e j (hc j u hu)⟩⟩
theorem Rd.below (h : Rd w size A n xs) (hb : Below w.heap.size w w') : Rd w' size A n xs :=
  h.keep hb.size fun b off _ _ j hc => (hb.cell (p := ⟨b, off + j, none⟩) (World.block_lt_of_cell? w _ hc)).trans hc
theorem Rd.len (h : Rd w size A n xs) : xs.length = n * size := h.1
theorem Rd.max (h : Rd w size A n xs) : n ≤ 9223372036854775807 := by have := h.2.1; unfold maxLen at this; omega
/-- an element's cells -/
theorem Rd.at_ (h : Rd w size A n xs) {k : Nat} (hk : k < n) : ∃ b off, A = some ⟨b, off, none⟩ ∧ b < w.heap.size ∧ ∀ j u, xs[j]? = some u → w.cell? ⟨b, off + j, none⟩ = some u := h.2.2 (by omega)
theorem Rd.lit (w : World) (cs : Array Value) (e : TypeId) (size n : Nat) (h : cs.size = n * size) (hm : n ≤ maxLen) :
    Rd (w.alloc (.cells cs e)) size (some ⟨w.heap.size, 0, none⟩) n cs.toList :=
  ⟨by simpa using h, hm, fun _ => ⟨w.heap.size, 0, rfl, by simp, fun j u hu => by
    rw [World.cell?_alloc_at _ _ _ _ rfl]; simpa using hu⟩⟩
end

/-- A slice of the call's own: it lies from block base on, may be written, and reads as xs. -/
def Ow (w : World) (base : Nat) (e : TypeId) (size : Nat) (v : Value) (n : Nat) (xs : List Value) : Prop :=
  xs.length = n * size ∧
  ((v = .slice none 0 0 ∧ n = 0) ∨
   ∃ g off cap cur fr, v = .slice (some ⟨g, off, none⟩) n cap ∧ base ≤ g ∧ w.heap[g]? = some (.cells cur e fr) ∧ (∀ j, off ≤ j → j < off + cap * size → ¬ (fr.1 ≤ j ∧ j < fr.2)) ∧
     n ≤ cap ∧ cap ≤ maxLen ∧ off + cap * size ≤ cur.size ∧ ∀ j u, xs[j]? = some u → cur[off + j]? = some u)

section
variable {w w' : World} {base size n : Nat} {e : TypeId} {v : Value} {xs : List Value}
theorem Ow.nil (w : World) (base : Nat) (e : TypeId) (size : Nat) : Ow w base e size (.slice none 0 0) 0 [] := ⟨by simp, .inl ⟨rfl, rfl⟩⟩
theorem Ow.mono {base' : Nat} (h : Ow w base e size v n xs) (hb : base' ≤ base) : Ow w base' e size v n xs := by
  refine ⟨h.1, ?_⟩
  rcases h.2 with h0 | ⟨g, off, cap, cur, fr, hv, hg, r⟩
  · exact .inl h0
  · exact .inr ⟨g, off, cap, cur, fr, hv, by omega, r⟩
theorem Ow.lt (h : Ow w base e size v n xs) : ∀ k, v.ownBlock = some k → base ≤ k ∧ k < w.heap.size := by
  intro k hk
  rcases h.2 with ⟨rfl, _⟩ | ⟨g, off, cap, cur, fr, rfl, hb, hg, _⟩
  · simp [Value.ownBlock] at hk
  · simp [Value.ownBlock] at hk
    subst hk
    exact ⟨hb, (Array.getElem?_eq_some_iff.1 hg).1⟩
theorem Ow.kept {row : Option Nat} (h : Ow w base e size v n xs) (hg : w.grownBy w' row) (hne : v.ownBlock = none ∨ v.ownBlock ≠ row) : Ow w' base e size v n xs := by
  refine ⟨h.1, ?_⟩
  rcases h.2 with hn | ⟨g, off, cap, cur, fr, rfl, hb, hgg, rest⟩
  · exact .inl hn
  · refine .inr ⟨g, off, cap, cur, fr, rfl, hb, ?_, rest⟩
    rw [hg.block g (Array.getElem?_eq_some_iff.1 hgg).1 (by simpa [Value.ownBlock] using hne)]
    exact hgg
theorem Ow.below (h : Ow w base e size v n xs) (hb : Below w.heap.size w w') : Ow w' base e size v n xs :=
  h.kept (row := none) ⟨hb.os, hb.tape, hb.output, hb.size, fun i hi _ => hb.block i hi⟩ (by cases v.ownBlock <;> simp)
theorem Ow.alloc (h : Ow w base e size v n xs) (o : Obj) : Ow (w.alloc o) base e size v n xs :=
  h.kept (World.grownBy_alloc w o none) (by cases hv : v.ownBlock <;> simp)
theorem Ow.drewN (h : Ow w base e size v n xs) (k : Nat) : Ow (w.drewN k) base e size v n xs := h
theorem Ow.max (h : Ow w base e size v n xs) : n ≤ maxLen := by
  rcases h.2 with ⟨_, h0⟩ | ⟨g, off, cap, cur, fr, hv, hg, _, _, h1, h2, _⟩
  · simp [maxLen, h0]
  · omega
theorem Ow.lit (w : World) (cs : Array Value) (n : Nat) (hb : base ≤ w.heap.size) (hm : n ≤ maxLen) (hs : cs.size = n * size) :
    Ow (w.alloc (.cells cs e)) base e size (.slice (some ⟨w.heap.size, 0, none⟩) n n) n cs.toList :=
  ⟨by simpa using hs, .inr ⟨w.heap.size, 0, n, cs, (0, 0), rfl, hb, heap_alloc_new w _, fun j _ _ => by simp, Nat.le_refl _, hm, by omega, fun j u hu => by simpa using hu⟩⟩
theorem Ow.rd (h : Ow w base e size v n xs) : ∃ A c, v = .slice A n c ∧ Rd w size A n xs := by
  rcases h.2 with ⟨rfl, h0⟩ | ⟨g, off, cap, cur, fr, rfl, hb, hh, hf, hn, hm, hc, hx⟩
  · subst h0
    have : xs = [] := List.eq_nil_of_length_eq_zero (by simpa using h.1)
    subst this
    exact ⟨none, 0, rfl, Rd.nil _ _ _⟩
  · exact ⟨_, cap, rfl, h.1, by omega, fun _ => ⟨g, off, rfl, (Array.getElem?_eq_some_iff.1 hh).1, fun j u hu => (cell_of_row w g (off + j) cur e fr hh).trans (hx j u hu)⟩⟩
end

theorem run_storeCells_fr {P : Program} (g o : Nat) (t : TypeId) (fr : Nat × Nat) : ∀ (vs : List Value) (i : Nat) (cur : Array Value) (w : World), w.heap[g]? = some (.cells cur t fr) → o + i + vs.length ≤ cur.size → (∀ v ∈ vs, v.oneCell' = true) →
    (∀ j, o + i ≤ j → j < o + i + vs.length → ¬ (fr.1 ≤ j ∧ j < fr.2)) →
    (storeCells ⟨g, o, none⟩ vs i).run P w = .ok () (w.setRow g (cur.toList.take (o + i) ++ vs ++ cur.toList.drop (o + i + vs.length)).toArray)
  | [], i, cur, w, hg, _, _, _ => by
    simp only [storeCells, List.append_nil, List.length_nil, Nat.add_zero, List.take_append_drop, Array.toArray_toList]
    rw [setRow_self w g cur t fr hg]
    rfl
  | v :: rest, i, cur, w, hg, hl, h1, hfr => by
    have hi : o + i < cur.size := by simp at hl; omega
    have hcell : w.cell? ⟨g, o + i, none⟩ = some cur[o + i] := by simp [World.cell?, hg, hi]
    have hfro : w.frozen? ⟨g, o + i, none⟩ = false := by
      have := hfr (o + i) (Nat.le_refl _) (by simp)
      simp only [World.frozen?, hg]
      rw [Bool.and_eq_false_iff, decide_eq_false_iff_not, decide_eq_false_iff_not]
      omega
    have hst : (store ((⟨g, o, none⟩ : Addr).add i) v).run P w = .ok () (w.setRow g (cur.setIfInBounds (o + i) v)) := by
      rw [addr_add, run_store P w _ v _ (h1 v (by simp)), hcell]
      simp [hfro, setCell_eq_setRow w g (o + i) cur t fr v hg]
    have ih := run_storeCells_fr (P := P) g o t fr rest (i + 1) (cur.setIfInBounds (o + i) v) (w.setRow g (cur.setIfInBounds (o + i) v)) (setRow_heap w g cur _ t _ hg) (by simp at hl ⊢; omega) (fun x hx => h1 x (by simp [hx]))
      (fun j h1 h2 => hfr j (by omega) (by simp; omega))
    simp only [storeCells, Sem.run_bind, hst, Result.andThen_ok, ih, setRow_setRow]
    congr 3
    have e := list_seg_step cur.toList (o + i) v rest (by simp at hl ⊢; omega)
    simpa [Array.toList_setIfInBounds, Nat.add_assoc] using e

/-- append of whatever source -/
theorem run_append_ow {P : Program} {w : World} {t u ty e : TypeId} {z : Value} {size bytes base n m : Nat} {v x : Value} {xs news : List Value} (hT : ElT P t e z size bytes)
    (hu : P.underlying u = some .string ∨ ∃ d, P.underlying u = some (.slice d)) (hown : Ow w base e size v n xs)
    (hlen : ∀ W, (Builtin.lenOf x).run P W = .ok m W) (hl : news.length = m * size) (hf : ∀ W : World, W.heap = w.heap → (Builtin.firstCells size m x).run P W = .ok news.toArray W) (h1 : ∀ u ∈ news, u.oneCell' = true)
    (h63 : n + m ≤ maxLen) (hbytes : (n + m) * bytes ≤ 140737488355328) (hbase : base ≤ w.heap.size) :
    ∃ v' w', (Builtin.append_ #[t, u] ty #[v, x]).run P w = .ok v' w' ∧ Ow w' base e size v' (n + m) (xs ++ news) ∧ w.grownBy w' v.ownBlock ∧ (v'.ownBlock = v.ownBlock ∨ v'.ownBlock = some w.heap.size) := by
  obtain ⟨i, hi, hz, hsize, hby⟩ := info_parts hT.hi
  have hzs := hT.hz
  have hsz := hT.hs
  subst hsize
  subst hby
  have hsmall : n + m ≤ 9223372036854775807 := by simp only [maxLen] at h63; omega
  have hlen' : (xs ++ news).length = (n + m) * i.size := by rw [List.length_append, hown.1, hl, Nat.add_mul]
  have grown : ∀ (old : Nat), old < n + m → ∀ (row : Option Nat),
      Ow (w.drew.alloc (.cells (xs.toArray ++ news.toArray ++ Builtin.zeroCells z.cells (grownCap w (n + m) old e - (n + m))) e)) base e i.size
        (.slice (some ⟨w.heap.size, 0, none⟩) (n + m) (grownCap w (n + m) old e)) (n + m) (xs ++ news) ∧
      w.grownBy (w.drew.alloc (.cells (xs.toArray ++ news.toArray ++ Builtin.zeroCells z.cells (grownCap w (n + m) old e - (n + m))) e)) row := by
    intro old ho row
    have hge := grownCap_ge w (n + m) old e
    have hcm : grownCap w (n + m) old e ≤ maxLen := grownCap_le_maxLen w (n + m) old e h63
    refine ⟨⟨hlen', .inr ⟨w.heap.size, 0, _, _, (0, 0), rfl, hbase, heap_alloc_new w.drew _, fun j _ _ => by simp, hge, hcm, ?_, ?_⟩⟩, ⟨rfl, rfl, rfl, by simp, fun k hk _ => Below.heap_alloc w.drew _ _ hk⟩⟩
    · simp only [Array.size_append, List.size_toArray, size_zeroCells, hzs, hown.1, hl, ← Nat.add_mul]
      rw [Nat.zero_add]
      refine Nat.mul_le_mul_right _ ?_
      omega
    · intro j u hj
      have hlt : j < (xs ++ news).length := (List.getElem?_eq_some_iff.1 hj).1
      rw [Nat.zero_add, Array.getElem?_append_left (by simpa using hlt)]
      simpa using hj
  rcases hown.2 with ⟨rfl, rfl⟩ | ⟨g, off, cap, cur, fr, rfl, hbg, hg, hfz, hnc, hcm, hcs, hx⟩
  · have hx0 : xs = [] := List.eq_nil_of_length_eq_zero (by simpa using hown.1)
    subst hx0
    by_cases hm : m = 0
    · subst hm
      have hn : news = [] := List.eq_nil_of_length_eq_zero (by simpa using hl)
      subst hn
      refine ⟨.slice none 0 0, w, ?_, Ow.nil w base e i.size, World.grownBy.refl w _, .inl rfl⟩
      have hfw := hf w rfl
      rcases hu with hu | ⟨d, hu⟩ <;> simp [Builtin.append_, run_underlying hT.ht, run_underlying hu, sizeOf, typeInfo, hi, hlen, hfw]
    · have hgr := grown 0 (by omega) none
      simp only [Nat.zero_add, List.nil_append, Array.empty_append] at hgr ⊢
      refine ⟨_, _, ?_, hgr.1, ⟨hgr.2.os, hgr.2.tape, hgr.2.output, hgr.2.size, fun k hk _ => hgr.2.block k hk (by simp)⟩, .inr rfl⟩
      have h48' : ¬ (281474976710656 < Builtin.nextslicecap m 0 * i.bytes) := by
        rw [nextslicecap_zero (by omega)]; have hb := hbytes; simp only [Nat.zero_add] at hb; omega
      have h63' : ¬ (9223372036854775807 < (m : Int)) := by omega
      have hfd := hf w.drew rfl
      rcases hu with hu | ⟨d, hu⟩ <;> simp [Builtin.append_, run_underlying hT.ht, run_underlying hu, sizeOf, typeInfo, zeroValue, hi, hz, hlen, hm, h63', h48', Question.forced, run_firstCells_none, hfd, newRow, grownCap]
  · by_cases hroom : n + m ≤ cap
    · have hmul : (n + m) * i.size ≤ cap * i.size := Nat.mul_le_mul_right _ hroom
      have hsplit : (n + m) * i.size = n * i.size + news.length := by rw [hl, Nat.add_mul]
      have hst := run_storeCells_fr (P := P) g (off + n * i.size) e fr news 0 cur w hg (by omega) h1 (fun j h1 h2 => hfz j (by omega) (by omega))
      simp only [Nat.add_zero] at hst
      have hfw := hf w rfl
      have hrun : (Builtin.append_ #[t, u] ty #[.slice (some ⟨g, off, none⟩) n cap, x]).run P w = .ok (.slice (some ⟨g, off, none⟩) (n + m) cap) (w.setRow g (cur.toList.take (off + n * i.size) ++ news ++ cur.toList.drop (off + n * i.size + news.length)).toArray) := by
        rcases hu with hu | ⟨d, hu⟩ <;> simp [Builtin.append_, run_underlying hT.ht, run_underlying hu, sizeOf, typeInfo, hi, hlen, hroom, hfw, addr_add, hst]
      refine ⟨.slice (some ⟨g, off, none⟩) (n + m) cap, _, hrun, ⟨hlen', .inr ⟨g, off, cap, _, fr, rfl, hbg, setRow_heap w g cur _ e _ hg, hfz, hroom, hcm, ?_, ?_⟩⟩,
        ⟨rfl, rfl, rfl, by simp, fun k _ hk => setRow_other w g k _ (fun e => hk (by simp [Value.ownBlock, e]))⟩, .inl rfl⟩
      · simp only [List.size_toArray, List.length_append, List.length_take, List.length_drop, Array.length_toList]
        omega
      · intro j u hj
        have hlt : j < (xs ++ news).length := (List.getElem?_eq_some_iff.1 hj).1
        rw [List.getElem?_toArray]
        rcases Nat.lt_or_ge j xs.length with hjx | hjx
        · rw [List.getElem?_append_left hjx] at hj
          have hxl := hown.1
          rw [List.append_assoc, List.getElem?_append_left (by simp; omega), List.getElem?_take, if_pos (by omega)]
          simpa using hx j u hj
        · rw [List.getElem?_append_right hjx] at hj
          have hxl := hown.1
          rw [List.getElem?_append_left (by simp; omega), List.getElem?_append_right (by simp; omega)]
          have : off + j - (List.take (off + n * i.size) cur.toList).length = j - xs.length := by simp; omega
          rw [this]; exact hj
    · have holds : ∀ j u, xs[j]? = some u → w.cell? ((⟨g, off, none⟩ : Addr).add j) = some u := fun j u hj => by
        rw [addr_add, cell_of_row w g _ cur e fr hg]; exact hx j u hj
      have hgr := grown cap (by omega) none
      refine ⟨_, _, ?_, hgr.1, ⟨hgr.2.os, hgr.2.tape, hgr.2.output, hgr.2.size, fun k hk _ => hgr.2.block k hk (by simp)⟩, .inr rfl⟩
      have h63' : ¬ (9223372036854775807 < ((n : Int) + (m : Int))) := by omega
      have h48' : ¬ (281474976710656 < Builtin.nextslicecap (n + m) cap * i.bytes) := by have := growslice_fits (need := n + m) (old := cap) (by omega) hbytes; omega
      have hfd := hf w.drew rfl
      have hfo := run_firstCells_some (P := P) w.drew i.size n ⟨g, off, none⟩ n cap xs hown.1 (by simpa using holds)
      rcases hu with hu | ⟨d, hu⟩ <;> (simp [Builtin.append_, run_underlying hT.ht, run_underlying hu, sizeOf, typeInfo, zeroValue, hi, hz, hlen, hroom, h63', h48', Question.forced, hfd, hfo, newRow, grownCap]; congr 2; apply Array.ext'; simp [List.append_assoc])

section
variable {P : Program} {ops : Array Oper} {rest : List Oper} {o : Oper} {a : Act} {Q : Exit → Act → World → Prop} {W : World}

theorem wp_app {K : Act → World → Prop} {t u e : TypeId} {z : Value} {size bytes : Nat} (hT : ElT P t e z size bytes) (s x : Operand)
    (ho : o.op = .call { callee := .builtin .append, args := #[s, x], argTypes := #[t, u] }) (hu : P.underlying u = some .string ∨ ∃ d, P.underlying u = some (.slice d))
    (base : Nat) (v X : Value) (n m : Nat) (xs news : List Value) (hs : a.eval s = v) (hx : a.eval x = X) (hown : Ow W base e size v n xs)
    (hlen : ∀ W, (Builtin.lenOf X).run P W = .ok m W) (hl : news.length = m * size) (hf : ∀ W' : World, W'.heap = W.heap → (Builtin.firstCells size m X).run P W' = .ok news.toArray W') (h1 : ∀ u ∈ news, u.oneCell' = true)
    (hbytes : (n + m) * bytes ≤ 140737488355328) (hb0 : 0 < bytes) (hbase : base ≤ W.heap.size)
    (h : ∀ v' w', Ow w' base e size v' (n + m) (xs ++ news) → W.grownBy w' v.ownBlock → (v'.ownBlock = v.ownBlock ∨ v'.ownBlock = some W.heap.size) → Below base W w' → K (a.put o.dst v') w') : o.wp P a W K Q := by
  have hmax : n + m ≤ maxLen := by
    have : n + m ≤ (n + m) * bytes := Nat.le_mul_of_pos_right _ hb0
    unfold maxLen; omega
  obtain ⟨v', w', hrun, h2, h3, h4⟩ := run_append_ow (P := P) (ty := o.type) hT hu hown hlen hl hf h1 hmax hbytes hbase
  unfold Oper.wp execOp
  simp only [ho, resolve, invoke, builtin, Sem.run_bind, Sem.run_pure, Result.andThen_ok, List.map_toArray, List.map_cons, List.map_nil, hs, hx, hrun]
  exact h v' w' h2 h3 h4 ((Below.refl base W).grown h3 hbase fun k hk => (hown.lt k hk).1)

/-- append(v, x), where x was laid just now: '.cells news' is the last block -/
theorem wpList_push {t e : TypeId} {z : Value} {size bytes : Nat} (hT : ElT P t e z size bytes) (hgd : o.guard = none) (s x : Operand)
    (ho : o.op = .call { callee := .builtin .append, args := #[s, x], argTypes := #[t, t] })
    (base : Nat) (v : Value) (n : Nat) (xs : List Value) (news : Array Value) (hs : a.eval s = v) (hx : a.eval x = .slice (some ⟨W.heap.size, 0, none⟩) 1 1)
    (hown : Ow W base e size v n xs) (hl : news.size = size) (h1 : ∀ u ∈ news.toList, u.oneCell' = true)
    (hbytes : (n + 1) * bytes ≤ 140737488355328) (hb0 : 0 < bytes) (hbase : base ≤ W.heap.size)
    (h : ∀ v' w', Ow w' base e size v' (n + 1) (xs ++ news.toList) → W.grownBy w' v.ownBlock → (v'.ownBlock = v.ownBlock ∨ ∃ k, v'.ownBlock = some k ∧ W.heap.size ≤ k) → Below base W w' → wpList P ops Q rest (a.put o.dst v') w') :
    wpList P ops Q (o :: rest) a (W.alloc (.cells news e)) := by
  refine wpList_plain hgd fun K hK => wp_app hT s x ho (.inr ⟨e, hT.ht⟩) base v _ n 1 xs news.toList hs hx (hown.alloc _) (fun _ => rfl) (by simpa using hl) ?_ h1 hbytes hb0 (by simp; omega) ?_
  · intro W' hW
    refine run_firstCells_some W' size 1 ⟨W.heap.size, 0, none⟩ 1 1 news.toList (by simpa using hl) fun j u hu => ?_
    rw [addr_add, Nat.zero_add, cell_of_row W' W.heap.size j news e (0, 0) (by rw [hW]; exact heap_alloc_new W _)]
    simpa using hu
  · intro v' w' h2 h3 h4 h5
    have hal := World.grownBy_alloc W (.cells news e) v.ownBlock
    refine hK _ _ (h v' w' h2 ⟨h3.os.trans hal.os, h3.tape.trans hal.tape, h3.output.trans hal.output, Nat.le_trans hal.size h3.size, fun k hk hne => (h3.block k (by simp; omega) hne).trans (hal.block k hk hne)⟩ ?_ ?_)
    · rcases h4 with h4 | h4
      · exact .inl h4
      · exact .inr ⟨_, h4, by simp⟩
    · exact ((Below.refl base W).alloc hbase _).trans h5

/-- append(v, x...), x another slice that reads as news -/
theorem wpList_pushes {t e : TypeId} {z : Value} {size bytes : Nat} (hT : ElT P t e z size bytes) (hgd : o.guard = none) (s x : Operand)
    (ho : o.op = .call { callee := .builtin .append, args := #[s, x], argTypes := #[t, t] })
    (base : Nat) (v : Value) (n : Nat) (xs : List Value) (A : Option Addr) (m c : Nat) (news : List Value) (hs : a.eval s = v) (hx : a.eval x = .slice A m c)
    (hown : Ow W base e size v n xs) (hr : Rd W size A m news) (h1 : ∀ u ∈ news, u.oneCell' = true)
    (hbytes : (n + m) * bytes ≤ 140737488355328) (hb0 : 0 < bytes) (hbase : base ≤ W.heap.size)
    (h : ∀ v' w', Ow w' base e size v' (n + m) (xs ++ news) → W.grownBy w' v.ownBlock → (v'.ownBlock = v.ownBlock ∨ v'.ownBlock = some W.heap.size) → Below base W w' → wpList P ops Q rest (a.put o.dst v') w') :
    wpList P ops Q (o :: rest) a W := by
  refine wpList_plain hgd fun K hK => wp_app hT s x ho (.inr ⟨e, hT.ht⟩) base v _ n m xs news hs hx hown (fun _ => rfl) hr.1 ?_ h1 hbytes hb0 hbase fun v' w' h2 h3 h4 h5 => hK _ _ (h v' w' h2 h3 h4 h5)
  intro W' hW
  rcases Nat.eq_zero_or_pos m with h0 | h0
  · subst h0
    have hn : news = [] := List.eq_nil_of_length_eq_zero (by simpa using hr.1)
    subst hn
    cases A with
    | none => exact run_firstCells_none W' size 0 0 c
    | some ad => exact run_firstCells_some W' size 0 ad 0 c [] (by simp) (by simp)
  · obtain ⟨b, off, rfl, _, hc⟩ := hr.2.2 h0
    refine run_firstCells_some W' size m _ m c news hr.1 fun j u hu => ?_
    rw [addr_add]
    have := hc j u hu
    simpa [World.cell?, hW] using this

/-- bytes as cells -/
def u8s (l : Bs) : List Value := l.map fun c => .int .u8 (c.toNat : Int)
theorem u8s_length (l : Bs) : (u8s l).length = l.length := by simp [u8s]
theorem u8s_append (l r : Bs) : u8s (l ++ r) = u8s l ++ u8s r := by simp [u8s]
theorem u8s_one (l : Bs) : ∀ u ∈ u8s l, u.oneCell' = true := by
  intro u hu
  obtain ⟨c, _, rfl⟩ := List.mem_map.1 hu
  rfl
/-- a string of bytes -/
def bs (l : Bs) : ByteArray := ⟨l.toArray⟩
theorem bs_size (l : Bs) : (bs l).size = l.length := by simp [bs, ByteArray.size]
theorem bs_data (l : Bs) : (bs l).data.toList = l := by simp [bs]
theorem bs_toList (l : Bs) : (bs l).toList = l := by rw [bs, ByteArray.toList_mk]
theorem eq_bs (s : ByteArray) : s = bs s.toList := by rw [ByteArray.toList_eq]; rfl
theorem toList_size (s : ByteArray) : s.toList.length = s.size := by rw [ByteArray.toList_eq]; rfl
theorem bs_inj {l r : Bs} : bs l = bs r ↔ l = r := ⟨fun h => by rw [← bs_toList l, h, bs_toList], fun h => by rw [h]⟩
theorem bs_app (l r : Bs) : bs l ++ bs r = bs (l ++ r) := ByteArray.mk_append_mk l r
theorem bs_extract (l : Bs) (i j : Nat) : (bs l).extract i j = bs ((l.drop i).take (j - i)) := ByteArray.extract_mk l i j
theorem bs_from (l : Bs) (i : Nat) : (bs l).extract i l.length = bs (l.drop i) := by
  rw [bs_extract, List.take_of_length_le (by simp)]
theorem str_of_u8s (l : Bs) : strOfNums (l.map fun c => (c.toNat : Int)) = bs l := by
  have e : (fun n : Int => UInt8.ofNat n.toNat) ∘ (fun c : UInt8 => (c.toNat : Int)) = id := by funext c; simp
  unfold strOfNums bs
  rw [List.map_map, e, List.map_id]

/-- append(v, s...), s a string -/
theorem wpList_pushstr {t u e : TypeId} {z : Value} (hT : ElT P t e z 1 1) (hgd : o.guard = none) (s x : Operand)
    (ho : o.op = .call { callee := .builtin .append, args := #[s, x], argTypes := #[t, u] }) (hu : P.underlying u = some .string)
    (base : Nat) (v : Value) (n : Nat) (xs : List Value) (S : ByteArray) (hs : a.eval s = v) (hx : a.eval x = .string S)
    (hown : Ow W base e 1 v n xs) (hbytes : n + S.size ≤ 140737488355328) (hbase : base ≤ W.heap.size)
    (h : ∀ v' w', Ow w' base e 1 v' (n + S.size) (xs ++ u8s S.toList) → W.grownBy w' v.ownBlock → (v'.ownBlock = v.ownBlock ∨ v'.ownBlock = some W.heap.size) → Below base W w' → wpList P ops Q rest (a.put o.dst v') w') :
    wpList P ops Q (o :: rest) a W := by
  refine wpList_plain hgd fun K hK => wp_app hT s x ho (.inl hu) base v _ n S.size xs (u8s S.toList) hs hx hown (fun _ => rfl) (by rw [u8s_length, toList_size]; omega) ?_ (u8s_one _) (by omega) (by omega) hbase fun v' w' h2 h3 h4 h5 => hK _ _ (h v' w' h2 h3 h4 h5)
  intro W' _
  have e : (S.extract 0 S.size).data.map (fun b => Value.int .u8 (b.toNat : Int)) = (u8s S.toList).toArray := by
    obtain ⟨l, rfl⟩ : ∃ l, S = bs l := ⟨_, eq_bs S⟩
    rw [bs_size, bs_from, bs_toList]
    simp [bs, u8s]
  show Result.ok _ W' = _
  rw [← e]

theorem rd_str {w : World} {src dst e : TypeId} {n c : Nat} {A : Option Addr} {l : Bs} (hs : P.underlying src = some (.slice e)) (he : P.underlying e = some (.int .u8)) (hd : P.underlying dst = some .string)
    (h : Rd w 1 A n (u8s l)) : (convert src dst (.slice A n c)).run P w = .ok (.string (bs l)) w := by
  have hl : l.length = n := by have := h.1; rw [u8s_length] at this; omega
  rcases Nat.eq_zero_or_pos n with h0 | h0
  · subst h0
    have : l = [] := List.eq_nil_of_length_eq_zero hl
    subst this
    cases A with
    | none => exact run_convert_bytes_nil w src e hs he 0 c dst hd
    | some ad =>
      rw [run_convert_bytes_string w src dst e _ 0 c hs he hd, run_bytesToString w ad 0 c [] (run_loadCells_list (P := P) w ad [] (by simp))]
      rfl
  · obtain ⟨b, off, rfl, _, hc⟩ := h.2.2 h0
    rw [← str_of_u8s]
    exact run_convert_bytes_arg w src e hs he b off n c _ (by simpa using hl) (fun i hi => hc i _ (by simp [u8s, List.getElem?_eq_getElem (show i < l.length by omega), List.getD_eq_getElem?_getD])) dst hd
theorem ow_str {w : World} {base n : Nat} {src dst e e' : TypeId} {v : Value} {l : Bs} (hs : P.underlying src = some (.slice e)) (he : P.underlying e = some (.int .u8)) (hd : P.underlying dst = some .string)
    (h : Ow w base e' 1 v n (u8s l)) : (convert src dst v).run P w = .ok (.string (bs l)) w := by
  obtain ⟨A, c, rfl, hr⟩ := h.rd
  exact rd_str hs he hd hr
end
end Go.Proofs.YtaecafagmncmiaaDoor
