/-
  Held: what slots and world hold in the midst of its loop's body.
-/
import Derived.Test.YtbkmcncakpmgkaaMrg
namespace Go.Proofs.Ytbkmcncakpmgkaa
set_option linter.unusedVariables false
open Go.ChangeShapes Go.WideShapes Go.ChangeAt Go.RowKit Go.Shelf Go.Maps Go.Sort

attribute [local go_sem] Oper.semAt_some

theorem held_snoc (r : Int) (l : List Us) (u : Us) : heldS r (l ++ [u]) = hStep r (heldS r l) u := by
  unfold heldS; rw [List.foldl_append]; rfl
theorem held_cnt' (r : Int) (l : List Us) (p : Int × Int) : (cntL l).foldl (hStep r) p = l.foldl (hStep r) p := by
  induction l generalizing p with
  | nil => rfl
  | cons u t ih =>
    unfold cntL at ih ⊢
    by_cases h : countsB u = true
    · rw [List.filter_cons_of_pos h, List.foldl_cons, List.foldl_cons, ih]
    · rw [List.filter_cons_of_neg h, List.foldl_cons, ih]
      congr 1
      unfold hStep; rw [if_neg (fun q => h q.1)]
theorem held_cnt (r : Int) (l : List Us) : heldS r (cntL l) = heldS r l := held_cnt' r l _
theorem held_bd' (r : Int) (l : List Us) : 0 ≤ (heldS r l).1 ∧ (heldS r l).1 ≤ 1000000000 * l.length ∧ 0 ≤ (heldS r l).2 ∧ (heldS r l).2 ≤ 1000000000 * l.length := by
  have := held_bd r l l.length (Nat.le_refl _)
  rwa [List.take_length] at this

/-- what the slots hold -/
structure TH (a : Act) (B8 B9 Bu : Nat) (x y uv uh : Int) (b0 b1 b2 b3 b4 b5 b6 b7 : Bool) : Prop where
  sz : a.tmps.size = 45
  t8 : a.eval (.tmp 8) = .pointer (some ⟨B8, 0, none⟩)
  t9 : a.eval (.tmp 9) = .pointer (some ⟨B9, 0, none⟩)
  t10 : a.eval (.tmp 10) = .pointer (some ⟨Bu, 0, none⟩)
  f0 : b0 = true → a.eval (.tmp 21) = .int .i64 x
  f1 : b1 = true → a.eval (.tmp 22) = .pointer (some ⟨Bu, 2, none⟩)
  f2 : b2 = true → a.eval (.tmp 23) = .int .i64 uv
  f3 : b3 = true → a.eval (.tmp 24) = .int .i64 (x + uv)
  f4 : b4 = true → a.eval (.tmp 25) = .int .i64 y
  f5 : b5 = true → a.eval (.tmp 26) = .pointer (some ⟨Bu, 3, none⟩)
  f6 : b6 = true → a.eval (.tmp 27) = .int .i64 uh
  f7 : b7 = true → a.eval (.tmp 28) = .int .i64 (y + uh)

section
variable {a : Act} {B8 B9 Bu : Nat} {x y uv uh : Int} {b0 b1 b2 b3 b4 b5 b6 b7 : Bool}
theorem TH.p0 (h : TH a B8 B9 Bu x y uv uh b0 b1 b2 b3 b4 b5 b6 b7) : TH (a.put (some 21) (.int .i64 x)) B8 B9 Bu x y uv uh true b1 b2 b3 b4 b5 b6 b7 := by
  constructor <;> (try intro hb) <;> first | (rw [put_size]; exact h.sz) | exact put_same _ _ _ (by rw [h.sz]; omega) | (rw [put_ne _ _ _ _ (by omega)]; first | exact h.t8 | exact h.t9 | exact h.t10 | exact h.f1 hb | exact h.f2 hb | exact h.f3 hb | exact h.f4 hb | exact h.f5 hb | exact h.f6 hb | exact h.f7 hb)
theorem TH.p1 (h : TH a B8 B9 Bu x y uv uh b0 b1 b2 b3 b4 b5 b6 b7) : TH (a.put (some 22) (.pointer (some ⟨Bu, 2, none⟩))) B8 B9 Bu x y uv uh b0 true b2 b3 b4 b5 b6 b7 := by
  constructor <;> (try intro hb) <;> first | (rw [put_size]; exact h.sz) | exact put_same _ _ _ (by rw [h.sz]; omega) | (rw [put_ne _ _ _ _ (by omega)]; first | exact h.t8 | exact h.t9 | exact h.t10 | exact h.f0 hb | exact h.f2 hb | exact h.f3 hb | exact h.f4 hb | exact h.f5 hb | exact h.f6 hb | exact h.f7 hb)
theorem TH.p2 (h : TH a B8 B9 Bu x y uv uh b0 b1 b2 b3 b4 b5 b6 b7) : TH (a.put (some 23) (.int .i64 uv)) B8 B9 Bu x y uv uh b0 b1 true b3 b4 b5 b6 b7 := by
  constructor <;> (try intro hb) <;> first | (rw [put_size]; exact h.sz) | exact put_same _ _ _ (by rw [h.sz]; omega) | (rw [put_ne _ _ _ _ (by omega)]; first | exact h.t8 | exact h.t9 | exact h.t10 | exact h.f0 hb | exact h.f1 hb | exact h.f3 hb | exact h.f4 hb | exact h.f5 hb | exact h.f6 hb | exact h.f7 hb)
theorem TH.p3 (h : TH a B8 B9 Bu x y uv uh b0 b1 b2 b3 b4 b5 b6 b7) : TH (a.put (some 24) (.int .i64 (x + uv))) B8 B9 Bu x y uv uh b0 b1 b2 true b4 b5 b6 b7 := by
  constructor <;> (try intro hb) <;> first | (rw [put_size]; exact h.sz) | exact put_same _ _ _ (by rw [h.sz]; omega) | (rw [put_ne _ _ _ _ (by omega)]; first | exact h.t8 | exact h.t9 | exact h.t10 | exact h.f0 hb | exact h.f1 hb | exact h.f2 hb | exact h.f4 hb | exact h.f5 hb | exact h.f6 hb | exact h.f7 hb)
theorem TH.p4 (h : TH a B8 B9 Bu x y uv uh b0 b1 b2 b3 b4 b5 b6 b7) : TH (a.put (some 25) (.int .i64 y)) B8 B9 Bu x y uv uh b0 b1 b2 b3 true b5 b6 b7 := by
  constructor <;> (try intro hb) <;> first | (rw [put_size]; exact h.sz) | exact put_same _ _ _ (by rw [h.sz]; omega) | (rw [put_ne _ _ _ _ (by omega)]; first | exact h.t8 | exact h.t9 | exact h.t10 | exact h.f0 hb | exact h.f1 hb | exact h.f2 hb | exact h.f3 hb | exact h.f5 hb | exact h.f6 hb | exact h.f7 hb)
theorem TH.p5 (h : TH a B8 B9 Bu x y uv uh b0 b1 b2 b3 b4 b5 b6 b7) : TH (a.put (some 26) (.pointer (some ⟨Bu, 3, none⟩))) B8 B9 Bu x y uv uh b0 b1 b2 b3 b4 true b6 b7 := by
  constructor <;> (try intro hb) <;> first | (rw [put_size]; exact h.sz) | exact put_same _ _ _ (by rw [h.sz]; omega) | (rw [put_ne _ _ _ _ (by omega)]; first | exact h.t8 | exact h.t9 | exact h.t10 | exact h.f0 hb | exact h.f1 hb | exact h.f2 hb | exact h.f3 hb | exact h.f4 hb | exact h.f6 hb | exact h.f7 hb)
theorem TH.p6 (h : TH a B8 B9 Bu x y uv uh b0 b1 b2 b3 b4 b5 b6 b7) : TH (a.put (some 27) (.int .i64 uh)) B8 B9 Bu x y uv uh b0 b1 b2 b3 b4 b5 true b7 := by
  constructor <;> (try intro hb) <;> first | (rw [put_size]; exact h.sz) | exact put_same _ _ _ (by rw [h.sz]; omega) | (rw [put_ne _ _ _ _ (by omega)]; first | exact h.t8 | exact h.t9 | exact h.t10 | exact h.f0 hb | exact h.f1 hb | exact h.f2 hb | exact h.f3 hb | exact h.f4 hb | exact h.f5 hb | exact h.f7 hb)
theorem TH.p7 (h : TH a B8 B9 Bu x y uv uh b0 b1 b2 b3 b4 b5 b6 b7) : TH (a.put (some 28) (.int .i64 (y + uh))) B8 B9 Bu x y uv uh b0 b1 b2 b3 b4 b5 b6 true := by
  constructor <;> (try intro hb) <;> first | (rw [put_size]; exact h.sz) | exact put_same _ _ _ (by rw [h.sz]; omega) | (rw [put_ne _ _ _ _ (by omega)]; first | exact h.t8 | exact h.t9 | exact h.t10 | exact h.f0 hb | exact h.f1 hb | exact h.f2 hb | exact h.f3 hb | exact h.f4 hb | exact h.f5 hb | exact h.f6 hb)
end

/-- what the world holds -/
structure WH (V w : World) (B8 B9 Bu : Nat) (x y ua ur uv uh : Int) (b8 b9 : Bool) : Prop where
  x1 : Boxed w B8 3 (.int .i64 (if b8 = true then x + uv else x))
  x2 : Boxed w B9 3 (.int .i64 (if b9 = true then y + uh else y))
  u : w.heap[Bu]? = some (.cells #[.int .i64 ua, .int .i64 ur, .int .i64 uv, .int .i64 uh] 42 (0, 0))
  chg : Chg (fun k => k = B8 ∨ k = B9) V w

theorem WH.s8 {V w : World} {B8 B9 Bu : Nat} {x y ua ur uv uh : Int} {b8 b9 : Bool} (h : WH V w B8 B9 Bu x y ua ur uv uh b8 b9) (h1 : B8 ≠ B9) (h2 : Bu ≠ B8) : WH V (w.setCell ⟨B8, 0, none⟩ (.int .i64 (x + uv))) B8 B9 Bu x y ua ur uv uh true b9 :=
  ⟨h.x1.set _, h.x2.other h1.symm _, (Below.heap_setCell _ _ _ _ h2).trans h.u, h.chg.trans (Chg.grown (grownBy_setCell' w B8 _) (fun k e => by cases e; exact .inl (.inl rfl)))⟩
theorem WH.s9 {V w : World} {B8 B9 Bu : Nat} {x y ua ur uv uh : Int} {b8 b9 : Bool} (h : WH V w B8 B9 Bu x y ua ur uv uh b8 b9) (h1 : B8 ≠ B9) (h2 : Bu ≠ B9) : WH V (w.setCell ⟨B9, 0, none⟩ (.int .i64 (y + uh))) B8 B9 Bu x y ua ur uv uh b8 true :=
  ⟨h.x1.other h1 _, h.x2.set _, (Below.heap_setCell _ _ _ _ h2).trans h.u, h.chg.trans (Chg.grown (grownBy_setCell' w B9 _) (fun k e => by cases e; exact .inl (.inr rfl)))⟩

end Go.Proofs.Ytbkmcncakpmgkaa
