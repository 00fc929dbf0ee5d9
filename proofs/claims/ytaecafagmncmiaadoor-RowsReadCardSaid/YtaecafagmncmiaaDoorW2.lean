/-
  Words for memory, the second part: a string's bytes in a new block, bytes at the head of a block.
-/
import Derived.Test.YtaecafagmncmiaaDoorW
namespace Go.Proofs.YtaecafagmncmiaaDoor
open Go.RowKit Pu

/-- bytes that lie at the head of a block, as a string -/
theorem conv_cells {P : Program} {w : World} {g n c : Nat} {src dst e : TypeId} (hs : P.underlying src = some (.slice e)) (he : P.underlying e = some (.int .u8)) (hd : P.underlying dst = some .string)
    (l : Bs) (hl : l.length = n) (h : ∀ j u, (u8s l)[j]? = some u → w.cell? ⟨g, j, none⟩ = some u) : (convert src dst (.slice (some ⟨g, 0, none⟩) n c)).run P w = .ok (.string (bs l)) w := by
  rw [← str_of_u8s]
  refine run_convert_bytes_arg w src e hs he g 0 n c _ (by simpa using hl) (fun i hi => ?_) dst hd
  have := h i (.int .u8 ((l.map fun c => (c.toNat : Int)).getD i 0)) (by simp [u8s, List.getElem?_eq_getElem (show i < l.length by omega), List.getD_eq_getElem?_getD])
  simpa using this

section
variable {P : Program} {ops : Array Oper} {rest : List Oper} {o : Oper} {a : Act} {Q : Exit → Act → World → Prop} {W : World}
theorem bytesCells_size (e : TypeId) (S : ByteArray) : (Lib.bytesCells W e S).size = grownCap W S.size 0 e := by
  have h1 := grownCap_ge W S.size 0 e
  have h2 : (Lib.bytesCells W e S).size = S.size + (grownCap W S.size 0 e - S.size) := by
    unfold Lib.bytesCells; rw [Array.size_append, Array.size_map, Array.size_replicate]; rfl
  omega
theorem run_bytes {src dst e : TypeId} (hs : P.underlying src = some .string) (hd : P.underlying dst = some (.slice e)) (he : P.underlying e = some (.int .u8)) (S : ByteArray) (hS : S.size ≤ maxLen) :
    ∃ g c w', (convert src dst (.string S)).run P W = .ok (.slice (some ⟨g, 0, none⟩) S.size c) w' ∧ g = W.heap.size ∧ W.grownBy w' none ∧ ∀ base, base ≤ W.heap.size → Ow w' base e 1 (.slice (some ⟨g, 0, none⟩) S.size c) S.size (u8s S.toList) := by
  have hsz := bytesCells_size (W := W) e S
  refine ⟨_, _, _, Lib.run_convert_string_bytes W src dst e S hs hd he, rfl, ⟨rfl, rfl, rfl, by rw [Lib.bytesWorld_size]; omega, fun k hk _ => Lib.bytesWorld_at_old W e S k hk⟩, fun base hb => ⟨by rw [u8s_length, toList_size]; omega, .inr ⟨W.heap.size, 0, _, _, _, rfl, hb, Lib.bytesWorld_at_new W e S, ?_, grownCap_ge _ _ _ _, grownCap_le_maxLen W S.size 0 e hS, ?_, ?_⟩⟩⟩
  · intro j _ hj
    rw [hsz]; simp only; omega
  · omega
  · intro j u hj
    have hlt : j < (u8s S.toList).length := (List.getElem?_eq_some_iff.1 hj).1
    rw [u8s_length, toList_size] at hlt
    rw [Nat.zero_add, Lib.bytesCells, Array.getElem?_append_left (by rw [Array.size_map]; exact hlt)]
    rw [ByteArray.toList_eq] at hj
    simpa [u8s] using hj
/-- []byte(s) -/
theorem wpList_bytes {src dst e : TypeId} (hgd : o.guard = none) (x : Operand) (ho : o.op = .convert src dst x) (hs : P.underlying src = some .string) (hd : P.underlying dst = some (.slice e)) (he : P.underlying e = some (.int .u8))
    (S : ByteArray) (hx : a.eval x = .string S) (hS : S.size ≤ maxLen)
    (h : ∀ c w', W.grownBy w' none → (∀ base, base ≤ W.heap.size → Ow w' base e 1 (.slice (some ⟨W.heap.size, 0, none⟩) S.size c) S.size (u8s S.toList)) → wpList P ops Q rest (a.put o.dst (.slice (some ⟨W.heap.size, 0, none⟩) S.size c)) w') :
    wpList P ops Q (o :: rest) a W := by
  obtain ⟨g, c, w', hrun, rfl, hg, how⟩ := run_bytes (P := P) (W := W) hs hd he S hS
  refine wpList_plain hgd fun K hK => ?_
  unfold Oper.wp execOp
  simp only [ho, Sem.run_bind, Sem.run_pure, Result.andThen_ok, hx, hrun]
  exact hK _ _ (h c w' hg how)
end
section
variable {P : Program} {ops : Array Oper} {rest : List Oper} {o : Oper} {a : Act} {Q : Exit → Act → World → Prop} {W : World}
/-- append(v, x1, .., xm): '.cells news' is the last block -/
theorem wpList_lits {t e : TypeId} {z : Value} {size bytes : Nat} (hT : ElT P t e z size bytes) (hgd : o.guard = none) (s x : Operand)
    (ho : o.op = .call { callee := .builtin .append, args := #[s, x], argTypes := #[t, t] })
    (base : Nat) (v : Value) (n m g : Nat) (xs : List Value) (news : Array Value) (hs : a.eval s = v) (hx : a.eval x = .slice (some ⟨g, 0, none⟩) m m) (hgz : g = W.heap.size)
    (hown : Ow W base e size v n xs) (hl : news.size = m * size) (h1 : ∀ u ∈ news.toList, u.oneCell' = true)
    (hbytes : (n + m) * bytes ≤ 140737488355328) (hb0 : 0 < bytes) (hbase : base ≤ W.heap.size)
    (h : ∀ v' w', Ow w' base e size v' (n + m) (xs ++ news.toList) → W.grownBy w' v.ownBlock → (v'.ownBlock = v.ownBlock ∨ ∃ k, v'.ownBlock = some k ∧ W.heap.size ≤ k) → Below base W w' → wpList P ops Q rest (a.put o.dst v') w') :
    wpList P ops Q (o :: rest) a (W.alloc (.cells news e)) := by
  subst hgz
  refine wpList_plain hgd fun K hK => wp_app hT s x ho (.inr ⟨e, hT.ht⟩) base v _ n m xs news.toList hs hx (hown.alloc _) (fun _ => rfl) (by simpa using hl) ?_ h1 hbytes hb0 (by simp; omega) ?_
  · intro W' hW
    refine run_firstCells_some W' size m ⟨W.heap.size, 0, none⟩ m m news.toList (by simpa using hl) fun j u hu => ?_
    rw [addr_add, Nat.zero_add, cell_of_row W' W.heap.size j news e (0, 0) (by rw [hW]; exact heap_alloc_new W _)]
    simpa using hu
  · intro v' w' h2 h3 h4 h5
    have hal := World.grownBy_alloc W (.cells news e) v.ownBlock
    refine hK _ _ (h v' w' h2 ⟨h3.os.trans hal.os, h3.tape.trans hal.tape, h3.output.trans hal.output, Nat.le_trans hal.size h3.size, fun k hk hne => (h3.block k (by simp; omega) hne).trans (hal.block k hk hne)⟩ ?_ ?_)
    · rcases h4 with h4 | h4
      · exact .inl h4
      · exact .inr ⟨_, h4, by simp⟩
    · exact ((Below.refl base W).alloc hbase _).trans h5
end
theorem below_g {w W w' : World} (h : Below w.heap.size w W) (hg : W.grownBy w' none) : Below w.heap.size w w' := h.grown hg h.size (by simp)
attribute [go_sem] bs_toList bs_size
@[go_sem] theorem bs_at (l : Bs) (i : Nat) (h : i < (bs l).size) : (bs l)[i]'h = l[i]'(by rw [bs_size] at h; exact h) := rfl
end Go.Proofs.YtaecafagmncmiaaDoor
