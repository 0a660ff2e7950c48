/-
  Contracts of cmp.Or at two integers, and of the order of quotas.
-/
import Derived.Test.YtbkmcncakpmgkaaShelf
import Derived.Test.YtbkmcncakpmgkaaShelfS
import Derived.Test.YtbkmcncakpmgkaaAmtC
import Derived.Deep.RegionHeld3
import Derived.Sort.Grow
import Derived.StillTailTactics
namespace Go.Proofs.Ytbkmcncakpmgkaa
set_option linter.unusedVariables false
open Go.ChangeShapes Go.WideShapes Go.ChangeAt Go.RowKit
open Go.Sort (grow grow_grow alloc_eq_grow)
open Go.Shelf Go.Lib

def orZ (x y : Int) : Int := if x = 0 then y else x

set_option maxHeartbeats 400000 in
theorem or_any (x y : Int) (g : Nat) (w : World) (c0 : w.cell? ⟨g, 0, none⟩ = some (.int .i64 x)) (c1 : w.cell? ⟨g, 1, none⟩ = some (.int .i64 y)) :
    Calls Try.prog 39 #[.slice (some ⟨g, 0, none⟩) 2 2] w fun e w' => e = .returned (.int .i64 (orZ x y)) ∧ w = w' := by
  by_cases h1 : x = 0
  · have hp : orZ x y = y := by unfold orZ; rw [if_pos h1]
    have HP := Lib.hid hp
    have hx : (x != 0) = false := by simp [h1]
    clear hp h1
    by_cases h2 : y = 0
    · have hy : (y != 0) = false := by simp [h2]
      have HY := Lib.hid h2
      clear h2
      go_enter Try.func39, Try.ntmps39
      go_wp2
      refine wp_loop_rounds 3 ?_
      rw [rounds_succ]
      go_wp2
      rw [rounds_succ]
      go_wp2
      rw [rounds_succ]
      go_wp2
      go_ret
      exact ⟨by rw [HP.out, HY.out]; rfl, rfl⟩
    · have hy : (y != 0) = true := by rw [bne_iff_ne]; exact h2
      clear h2
      go_enter Try.func39, Try.ntmps39
      go_wp2
      refine wp_loop_rounds 2 ?_
      rw [rounds_succ]
      go_wp2
      rw [rounds_succ]
      go_wp2
      go_ret
      exact ⟨by rw [HP.out]; rfl, rfl⟩
  · have hp : orZ x y = x := by unfold orZ; rw [if_neg h1]
    have HP := Lib.hid hp
    have hx : (x != 0) = true := by rw [bne_iff_ne]; exact h1
    clear hp h1
    go_enter Try.func39, Try.ntmps39
    go_wp2
    refine wp_loop_rounds 1 ?_
    rw [rounds_succ]
    go_wp2
    go_ret
    exact ⟨by rw [HP.out]; rfl, rfl⟩

theorem grow3 (W : World) (A B C : Obj) : (((W.alloc A).alloc B).alloc C).drew = grow (W.drewN 1) #[A, B, C] := by
  rw [alloc_eq_grow, alloc_eq_grow, alloc_eq_grow, grow_grow, grow_grow]; rfl

def beforeZ (x y : Int × Int) : Int := orZ (Lib.compareInt y.2 x.2) (Lib.compareInt x.1 y.1)

set_option maxHeartbeats 1000000 in
theorem before_any (i r j s : Int) (W : World) : Calls Try.prog 46 #[.agg #[.int .i64 i, .int .i64 r], .agg #[.int .i64 j, .int .i64 s]] W fun e w' => e = .returned (.int .i64 (orZ (Lib.compareInt s r) (Lib.compareInt i j))) ∧ ∃ q os', w' = grow (W.drewN q) os' := by
  go_enter Try.func46, Try.ntmps46
  go_wp2_with fail
  go_region_held3 (fun w' => w'.cell? ⟨W.heap.size, 0, none⟩ = some (.int .i64 i) ∧ w'.cell? ⟨W.heap.size, 1, none⟩ = some (.int .i64 r) ∧ w'.cell? ⟨W.heap.size + 1, 0, none⟩ = some (.int .i64 j) ∧ w'.cell? ⟨W.heap.size + 1, 1, none⟩ = some (.int .i64 s)) (first | go_keep)
    (first | (go_at_call 40; refine (Try.cmp_Compare_int _ _ _).mono ?_; rintro e w' ⟨rfl, rfl⟩) | (go_at_call 39; refine (or_any (Lib.compareInt s r) (Lib.compareInt i j) _ _ ?_ ?_).mono ?_; (simp [World.cell?_alloc_at]); (simp [World.cell?_alloc_at]); rintro e w' ⟨rfl, rfl⟩))
  go_wp2
  go_ret
  exact ⟨rfl, 1, _, grow3 W _ _ _⟩

theorem ltBefore (x y : Int × Int) : ltOf beforeZ x y = decide (y.2 < x.2 ∨ (x.2 = y.2 ∧ x.1 < y.1)) := by
  unfold ltOf beforeZ orZ Lib.compareInt
  rw [Bool.eq_iff_iff]
  simp only [decide_eq_true_eq]
  split
  · split at * <;> (try split at *) <;> omega
  · split at * <;> (try split at *) <;> omega

theorem swoBefore : Go.Sort.SWO (ltOf beforeZ) where
  irrefl x := by rw [ltBefore]; simp
  trans x y z h1 h2 := by rw [ltBefore] at *; simp at *; omega
  ntrans x y z h1 h2 := by rw [ltBefore] at *; simp at *; omega

theorem totBefore (x y : Int × Int) (h1 : ltOf beforeZ x y = false) (h2 : ltOf beforeZ y x = false) : x = y := by
  rw [ltBefore] at *; simp at *
  exact Prod.ext (by omega) (by omega)

def encQ (x : Int × Int) : List Value := [.int .i64 x.1, .int .i64 x.2]

theorem cmpLaysQ (blk off size : Nat) (w : World) : CmpLays Try.prog 46 #[] encQ 2 beforeZ blk off size w :=
  fun _ _ _ _ x y => before_any x.1 x.2 y.1 y.2 _

/-- the quotas in their order -/
def sortQ (d : List (Int × Int)) : List (Int × Int) := d.mergeSort fun x y => !(ltOf beforeZ) y x

theorem sort_any (blk off cap : Nat) (d : List (Int × Int)) (w : World) (hH : Go.Sort.HoldsK encQ 2 w blk off d.toArray) (hblk : blk < w.heap.size) (hsz : d.length < 4611686018427387904) :
    Calls Try.prog 47 #[.slice (some ⟨blk, off, none⟩) d.length cap, .func (.func 46) #[] #[]] w fun e w' =>
      e = .returned (.tuple #[]) ∧ ∃ n os, w' = sortWorldK encQ 2 w blk off n (sortQ d).toArray os := by
  have eg : ∀ args w, (callFunc 46 args).run Try.prog w = .ok (.enter 46 args) w := enters_of Try.func46 (by kernel_rfl) rfl
  exact AnyQ.slices_SortFunc_total Try.sortQ 2 Try.isAgg88 Try.sizeOf88 encQ (fun _ => rfl) (fun x v hv => by simp [encQ] at hv; rcases hv with rfl | rfl <;> rfl) beforeZ swoBefore 46 #[] blk off cap d.toArray w eg (cmpLaysQ blk off _ w) hH hblk hsz totBefore

end Go.Proofs.Ytbkmcncakpmgkaa
