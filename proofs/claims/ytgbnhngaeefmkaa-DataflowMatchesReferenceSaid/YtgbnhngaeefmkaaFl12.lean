import Derived.Test.YtgbnhngaeefmkaaFl11
import Derived.Test.YtgbnhngaeefmkaaShelf
import Derived.Deep.RegionHeld3

/-! Flows: cmp.Or at two integers; the order of stale names. -/
namespace Go.Proofs.Ytgbnhngaeefmkaa
set_option linter.unusedVariables false
set_option linter.unusedSimpArgs false
open Go.RowKit Go.Shelf Go.Lib

def orZ (x y : Int) : Int := if x = 0 then y else x

set_option maxHeartbeats 400000 in
theorem or_any (x y : Int) (g : Nat) (w : World) (c0 : w.cell? ⟨g, 0, none⟩ = some (.int .i64 x)) (c1 : w.cell? ⟨g, 1, none⟩ = some (.int .i64 y)) :
    Calls Try.prog 50 #[.slice (some ⟨g, 0, none⟩) 2 2] w fun e w' => e = .returned (.int .i64 (orZ x y)) ∧ w = w' := by
  by_cases h1 : x = 0
  · have hp : orZ x y = y := by unfold orZ; rw [if_pos h1]
    have HP := Lib.hid hp
    have hx : (x != 0) = false := by simp [h1]
    clear hp h1
    by_cases h2 : y = 0
    · have hy : (y != 0) = false := by simp [h2]
      have HY := Lib.hid h2
      clear h2
      go_enter Try.func50, Try.ntmps50
      go_wp2
      refine wp_loop_rounds 3 ?_
      rw [rounds_succ]
      go_wp2
      rw [rounds_succ]
      go_wp2
      rw [rounds_succ]
      go_wp2
      go_ret
      exact ⟨by rw [HP.out, HY.out]; rfl, rfl⟩
    · have hy : (y != 0) = true := by rw [bne_iff_ne]; exact h2
      clear h2
      go_enter Try.func50, Try.ntmps50
      go_wp2
      refine wp_loop_rounds 2 ?_
      rw [rounds_succ]
      go_wp2
      rw [rounds_succ]
      go_wp2
      go_ret
      exact ⟨by rw [HP.out]; rfl, rfl⟩
  · have hp : orZ x y = x := by unfold orZ; rw [if_neg h1]
    have HP := Lib.hid hp
    have hx : (x != 0) = true := by rw [bne_iff_ne]; exact h1
    clear hp h1
    go_enter Try.func50, Try.ntmps50
    go_wp2
    refine wp_loop_rounds 1 ?_
    rw [rounds_succ]
    go_wp2
    go_ret
    exact ⟨by rw [HP.out]; rfl, rfl⟩


/-- only block m of the old ones turns -/
structure OnlyM (m : Nat) (X Y : World) : Prop where
  os : Y.os = X.os
  tape : Y.tape = X.tape
  output : Y.output = X.output
  size : X.heap.size ≤ Y.heap.size
  block : ∀ k, k < X.heap.size → k ≠ m → Y.heap[k]? = X.heap[k]?
theorem OnlyM.refl (m : Nat) (X : World) : OnlyM m X X := ⟨rfl, rfl, rfl, Nat.le_refl _, fun _ _ _ => rfl⟩
theorem OnlyM.trans {m : Nat} {X Y Z : World} (h : OnlyM m X Y) (h2 : OnlyM m Y Z) : OnlyM m X Z :=
  ⟨h2.os.trans h.os, h2.tape.trans h.tape, h2.output.trans h.output, Nat.le_trans h.size h2.size, fun k hk hn => (h2.block k (Nat.lt_of_lt_of_le hk h.size) hn).trans (h.block k hk hn)⟩
theorem OnlyM.grown {m : Nat} {X Y : World} (g : X.grownBy Y (some m)) : OnlyM m X Y := ⟨g.os, g.tape, g.output, g.size, fun k hk hn => g.block k hk (fun e => hn (by cases e; rfl))⟩
theorem OnlyM.of_below {m : Nat} {X Y : World} (g : Below X.heap.size X Y) : OnlyM m X Y := ⟨g.os, g.tape, g.output, g.size, fun k hk _ => g.block k hk⟩

/-- the state of a sort: the flow's blocks, the memo -/
structure Srt (F : List En) (rk bl : ByteArray → Nat) (W0 W : World) (m : Nat) (w' : World) : Prop where
  low : Below W0.heap.size W0 w'
  memo : Memo F rk bl w' m
  only : OnlyM m W w'

theorem Srt.drew {F : List En} {rk bl : ByteArray → Nat} {W0 W : World} {m : Nat} {w' : World} (h : Srt F rk bl W0 W m w') : Srt F rk bl W0 W m w'.drew := by
  obtain ⟨L, hL, h1, h2⟩ := h.memo
  exact ⟨h.low.drew, ⟨L, hL.kept rfl, h1, h2⟩, ⟨h.only.os, h.only.tape, h.only.output, h.only.size, h.only.block⟩⟩
theorem Srt.alloc {F : List En} {rk bl : ByteArray → Nat} {W0 W : World} {m : Nat} {w' : World} (h : Srt F rk bl W0 W m w') (o : Obj) : Srt F rk bl W0 W m (w'.alloc o) := by
  obtain ⟨L, hL, h1, h2⟩ := h.memo
  exact ⟨h.low.alloc h.low.size o, ⟨L, hL.kept (Below.heap_alloc _ _ _ hL.lt), h1, h2⟩, h.only.trans (OnlyM.of_below ((Below.refl _ _).alloc (Nat.le_refl _) o))⟩

/-- the order of stale names -/
def cmpE (F : List En) (rk : ByteArray → Nat) (x y : ByteArray) : Int := orZ (Lib.compareInt (dp F rk x) (dp F rk y)) (cmpB x y)

end Go.Proofs.Ytgbnhngaeefmkaa
