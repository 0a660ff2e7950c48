import Derived.Test.YtgbnhngaeefmkaaFl13
import Derived.Test.YtgbnhngaeefmkaaSortM

/-! Flows: the row of pointers while it is sorted. -/
namespace Go.Proofs.Ytgbnhngaeefmkaa
set_option linter.unusedVariables false
set_option linter.unusedSimpArgs false
open Go.RowKit Go.Shelf Go.Lib

/-- the row at block g (from offset o on) reads as the names l; the memo; what else there was stands -/
structure SG (F : List En) (rk bl : ByteArray → Nat) (W0 W : World) (m g o : Nat) (w' : World) (l : List En) : Prop where
  low : Below W0.heap.size W0 w'
  memo : Memo F rk bl w' m
  os : w'.os = W.os
  tape : w'.tape = W.tape
  output : w'.output = W.output
  size : W.heap.size ≤ w'.heap.size
  block : ∀ k, k < W.heap.size → k ≠ m → k ≠ g → w'.heap[k]? = W.heap[k]?
  row : ∃ cur, w'.heap[g]? = some (.cells cur 75 (0, 0)) ∧ o + l.length ≤ cur.size ∧ ∀ i x, l[i]? = some x → cur[o + i]? = some (ptr (bl x.nm))

section
variable {F : List En} {rk bl : ByteArray → Nat} {W0 W : World} {m g o : Nat} {w' : World} {l : List En}

theorem SG.cell (h : SG F rk bl W0 W m g o w' l) {i : Nat} {x : En} (hx : l[i]? = some x) : w'.cell? ⟨g, o + i, none⟩ = some (.pointer (some ⟨bl x.nm, 0, none⟩)) := by
  obtain ⟨cur, h1, _, h2⟩ := h.row
  exact cell_blk h1 (h2 i x hx)
theorem SG.frz (h : SG F rk bl W0 W m g o w' l) (i : Nat) : w'.frozen? ⟨g, i, none⟩ = false := by
  obtain ⟨cur, h1, _⟩ := h.row
  exact frz_blk h1

/-- a comparison -/
theorem SG.srt (h : SG F rk bl W0 W m g o w' l) (hg : g ≠ m) {w2 : World} (h2 : Srt F rk bl W0 w' m w2) : SG F rk bl W0 W m g o w2 l := by
  obtain ⟨cur, h1, h3, h4⟩ := h.row
  exact ⟨h2.low, h2.memo, h2.only.os.trans h.os, h2.only.tape.trans h.tape, h2.only.output.trans h.output, Nat.le_trans h.size h2.only.size, fun k hk n1 n2 => (h2.only.block k (Nat.lt_of_lt_of_le hk h.size) n1).trans (h.block k hk n1 n2), ⟨cur, (h2.only.block g (lt_of_blk h1) hg).trans h1, h3, h4⟩⟩

theorem SG.drew (h : SG F rk bl W0 W m g o w' l) : SG F rk bl W0 W m g o w'.drew l := by
  obtain ⟨L, hL, h1, h2⟩ := h.memo
  exact ⟨h.low.drew, ⟨L, hL.kept rfl, h1, h2⟩, h.os, h.tape, h.output, h.size, h.block, h.row⟩

/-- one element written -/
theorem SG.set (h : SG F rk bl W0 W m g o w' l) (hg : g ≠ m) (hg0 : W0.heap.size ≤ g) {i : Nat} (hi : i < l.length) (x : En) : SG F rk bl W0 W m g o (w'.setCell ⟨g, o + i, none⟩ (.pointer (some ⟨bl x.nm, 0, none⟩))) (l.set i x) := by
  obtain ⟨cur, h1, h3, h4⟩ := h.row
  obtain ⟨L, hL, q1, q2⟩ := h.memo
  have hk : ∀ k, k ≠ g → (w'.setCell ⟨g, o + i, none⟩ (.pointer (some ⟨bl x.nm, 0, none⟩))).heap[k]? = w'.heap[k]? := fun k hk => Below.heap_setCell w' ⟨g, o + i, none⟩ _ k hk
  refine ⟨h.low.setCell (p := ⟨g, o + i, none⟩) hg0 _, ⟨L, hL.kept (hk m (fun e => hg e.symm)), q1, q2⟩, h.os, h.tape, h.output, by simpa using h.size, fun k hk' n1 n2 => (hk k n2).trans (h.block k hk' n1 n2), ⟨_, heap_setC h1 _, by simpa using h3, fun j y hy => ?_⟩⟩
  rw [List.getElem?_set] at hy
  by_cases e : i = j
  · subst e
    rw [if_pos rfl, if_pos hi] at hy
    cases hy
    rw [Array.getElem?_setIfInBounds_self]
    rw [if_pos (by omega)]; rfl
  · rw [if_neg e] at hy
    rw [Array.getElem?_setIfInBounds_ne (by omega)]
    exact h4 j y hy
end

end Go.Proofs.Ytgbnhngaeefmkaa
