import Derived.Test.YtgbnhngaeefmkaaRange
import Derived.Test.YtgbnhngaeefmkaaRow

/-! A box that holds a row of the call's own. -/
namespace Go.Proofs.Ytgbnhngaeefmkaa
set_option linter.unusedVariables false
open Go.RowKit

theorem ownsRow_blk {w w' : World} {base e size n : Nat} {v : Value} {xs : List Value} (h : w.ownsRow base e size v n xs) (hb : ∀ g, v.ownBlock = some g → g < w.heap.size → w'.heap[g]? = w.heap[g]?) : w'.ownsRow base e size v n xs := by
  obtain ⟨h1, h | ⟨g, cap, cur, rfl, h2, h3, h4⟩⟩ := h
  · exact ⟨h1, .inl h⟩
  · exact ⟨h1, .inr ⟨g, cap, cur, rfl, h2, (hb g rfl (Array.getElem?_eq_some_iff.1 h3).1).trans h3, h4⟩⟩
theorem Boxed.blk {w w' : World} {B t : Nat} {v : Value} (h : Boxed w B t v) (hb : w'.heap[B]? = w.heap[B]?) : Boxed w' B t v := hb.trans h
theorem owns_ltK {w : World} {base e size n : Nat} {v : Value} {xs : List Value} (h : w.ownsRow base e size v n xs) (g : Nat) (hg : v.ownBlock = some g) : base ≤ g ∧ g < w.heap.size := by
  obtain ⟨h1, h | ⟨g', cap, cur, rfl, h2, h3, h4⟩⟩ := h
  · rw [h.1] at hg; simp [Value.ownBlock] at hg
  · simp [Value.ownBlock] at hg; subst hg
    exact ⟨h2, (Array.getElem?_eq_some_iff.1 h3).1⟩

/-- a box that holds a row of the call's own -/
structure BoxRow (w W : World) (B t e size n : Nat) (v : Value) (xs : List Value) (O : Nat → Prop) : Prop where
  own : ∀ k, O k ↔ k = B ∨ v.ownBlock = some k
  box : Boxed W B t v
  row : W.ownsRow w.heap.size e size v n xs
  bel : Below w.heap.size w W
  bas : w.heap.size ≤ B

theorem BoxRow.chg {w A A' : World} {B t e size n : Nat} {v : Value} {xs : List Value} {O C : Nat → Prop} (h : BoxRow w A B t e size n v xs O) (hc : Chg C A A') (hC : ∀ k, C k → w.heap.size ≤ k ∧ ¬ O k) : BoxRow w A' B t e size n v xs O :=
  ⟨h.own, Boxed.blk h.box (hc.block B h.box.lt (fun c => (hC B c).2 ((h.own B).2 (.inl rfl)))), ownsRow_blk h.row (fun g hg hl => hc.block g hl (fun c => (hC g c).2 ((h.own g).2 (.inr hg)))),
    h.bel.trans (hc.below h.bel.size (fun k hk => (hC k hk).1)), h.bas⟩

/-- 'out = append(out, ..)' -/
theorem BoxRow.appended {w W w1 : World} {B t e size n m : Nat} {v v' : Value} {xs ys : List Value} {tmp : Obj} {O : Nat → Prop} (h : BoxRow w W B t e size n v xs O) (hte : t ≠ e)
    (hown' : w1.ownsRow w.heap.size e size v' m ys) (hgrow : (W.alloc tmp).grownBy w1 v.ownBlock) (hloc : v'.ownBlock = v.ownBlock ∨ v'.ownBlock = some (W.alloc tmp).heap.size) :
    Boxed w1 B t v ∧ ∃ O', BoxRow w (w1.setCell ⟨B, 0, none⟩ v') B t e size m v' ys O' ∧ Chg O W (w1.setCell ⟨B, 0, none⟩ v') ∧ ∀ k, O' k → O k ∨ W.heap.size ≤ k := by
  have hv1 : Boxed w1 B t v := (h.box.alloc tmp).kept hgrow (h.box.not_row hte h.row)
  have hB : B < W.heap.size := h.box.lt
  have hg : Chg O W w1 := (Chg.alloc O W tmp).trans (Chg.grown hgrow (fun k e => .inl ((h.own k).2 (.inr e))))
  have hs : Chg O W (w1.setCell ⟨B, 0, none⟩ v') := hg.trans (Chg.grown (grownBy_setCell' w1 B v') (fun k e => by cases e; exact .inl ((h.own B).2 (.inl rfl))))
  refine ⟨hv1, fun k => k = B ∨ v'.ownBlock = some k, ⟨fun k => Iff.rfl, hv1.set v', hown'.kept (grownBy_setCell' w1 B v') (.inr (hv1.not_row hte hown').symm), ?_, h.bas⟩, hs, fun k hk => ?_⟩
  · refine h.bel.trans (hs.below h.bel.size (fun k hk => ?_))
    rcases (h.own k).1 hk with rfl | hk
    · exact h.bas
    · exact (owns_ltK h.row k hk).1
  · rcases hk with rfl | hk
    · exact .inl ((h.own k).2 (.inl rfl))
    · rcases hloc with e | e
      · exact .inl ((h.own k).2 (.inr (by rw [← e]; exact hk)))
      · rw [e] at hk; simp at hk; exact .inr (by omega)

end Go.Proofs.Ytgbnhngaeefmkaa
