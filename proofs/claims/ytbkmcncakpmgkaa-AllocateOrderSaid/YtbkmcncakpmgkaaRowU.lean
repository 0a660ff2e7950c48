import Derived.Test.YtbkmcncakpmgkaaKA
import Derived.Laws.OwnMore
import Derived.Deep.MidRow
import Derived.ArgAppend

/-! Rows of structs of the call's own: an element written, a lower base, the insertion of a usage. -/
namespace Go.Proofs.Ytbkmcncakpmgkaa
set_option linter.unusedVariables false
open Go.ChangeShapes Go.WideShapes Go.ChangeAt Go.RowKit

theorem owns_base {w : World} {B B' e k n : Nat} {v : Value} {xs : List Value} (h : w.ownsRow B e k v n xs) (hB : B' ≤ B) : w.ownsRow B' e k v n xs := by
  obtain ⟨h0, h | ⟨g, cap, cur, hv, hb, hr⟩⟩ := h
  · exact ⟨h0, .inl h⟩
  · exact ⟨h0, .inr ⟨g, cap, cur, hv, Nat.le_trans hB hb, hr⟩⟩

theorem set4 (x0 x1 x2 x3 : Value) (rest : List Value) (n : Nat) (v : Value) : (x0 :: x1 :: x2 :: x3 :: rest).set (n + 4) v = x0 :: x1 :: x2 :: x3 :: rest.set n v := rfl
theorem set2 (x0 x1 : Value) (rest : List Value) (n : Nat) (v : Value) : (x0 :: x1 :: rest).set (n + 2) v = x0 :: x1 :: rest.set n v := rfl

theorem flat_setU : ∀ (l : List Us) (i : Nat) (y : Us), i < l.length →
    ((((l.flatMap encU).set (i * 4) (.int .i64 y.acc)).set (i * 4 + 1) (.int .i64 y.rcd)).set (i * 4 + 2) (.int .i64 y.val)).set (i * 4 + 3) (.int .i64 y.held) = (l.set i y).flatMap encU
  | [], i, y, h => by simp at h
  | x :: r, 0, y, h => by simp [encU]
  | x :: r, i + 1, y, h => by
    have ih := flat_setU r i y (by simpa using h)
    rw [List.set_cons_succ, List.flatMap_cons, List.flatMap_cons, ← ih]
    show ((((Value.int .i64 x.acc :: Value.int .i64 x.rcd :: Value.int .i64 x.val :: Value.int .i64 x.held :: r.flatMap encU).set _ _).set _ _).set _ _).set _ _ = _
    have e : ∀ j, (i + 1) * 4 + j = (i * 4 + j) + 4 := fun j => by omega
    have e0 : (i + 1) * 4 = i * 4 + 4 := by omega
    rw [e 1, e 2, e 3, e0, set4, set4, set4, set4]
    rfl

theorem flat_setS : ∀ (l : List (Int × Int)) (i : Nat) (y : Int × Int), i < l.length →
    ((l.flatMap encS).set (i * 2) (.int .i64 y.1)).set (i * 2 + 1) (.int .i64 y.2) = (l.set i y).flatMap encS
  | [], i, y, h => by simp at h
  | x :: r, 0, y, h => by simp [encS]
  | x :: r, i + 1, y, h => by
    have ih := flat_setS r i y (by simpa using h)
    rw [List.set_cons_succ, List.flatMap_cons, List.flatMap_cons, ← ih]
    show ((Value.int .i64 x.1 :: Value.int .i64 x.2 :: r.flatMap encS).set _ _).set _ _ = _
    have e : ∀ j, (i + 1) * 2 + j = (i * 2 + j) + 2 := fun j => by omega
    have e0 : (i + 1) * 2 = i * 2 + 2 := by omega
    rw [e 1, e0, set2, set2]
    rfl

theorem getU : ∀ (l : List Us) (i : Nat) (h : i < l.length), (l.flatMap encU)[i * 4]? = some (.int .i64 l[i].acc) ∧ (l.flatMap encU)[i * 4 + 1]? = some (.int .i64 l[i].rcd) ∧ (l.flatMap encU)[i * 4 + 2]? = some (.int .i64 l[i].val) ∧ (l.flatMap encU)[i * 4 + 3]? = some (.int .i64 l[i].held) := fun l i h => by
  have g : ∀ (j : Nat) (v : Value), (encU l[i])[j]? = some v → (l.flatMap encU)[i * 4 + j]? = some v := fun j v hv => flat_get encU_len l i l[i] j v (List.getElem?_eq_getElem h) hv
  exact ⟨g 0 _ rfl, g 1 _ rfl, g 2 _ rfl, g 3 _ rfl⟩

theorem set_same {l : List Value} {i : Nat} {v : Value} (h : l[i]? = some v) : l.set i v = l := by
  obtain ⟨hi, h⟩ := List.getElem?_eq_some_iff.1 h
  rw [← h]; exact List.set_getElem_self hi

/-- one cell of an element written -/
theorem flat_val (l : List Us) (i : Nat) (h : i < l.length) (v : Int) : (l.flatMap encU).set (i * 4 + 2) (.int .i64 v) = (l.set i ⟨l[i].acc, l[i].rcd, v, l[i].held⟩).flatMap encU := by
  obtain ⟨g0, g1, _, g3⟩ := getU l i h
  have := flat_setU l i ⟨l[i].acc, l[i].rcd, v, l[i].held⟩ h
  rw [← this]
  dsimp only
  rw [set_same g0, set_same g1, set_same (l := (l.flatMap encU).set (i * 4 + 2) _) (i := i * 4 + 3)]
  rw [List.getElem?_set_ne (by omega)]; exact g3
theorem flat_held (l : List Us) (i : Nat) (h : i < l.length) (v : Int) : (l.flatMap encU).set (i * 4 + 3) (.int .i64 v) = (l.set i ⟨l[i].acc, l[i].rcd, l[i].val, v⟩).flatMap encU := by
  obtain ⟨g0, g1, g2, _⟩ := getU l i h
  have := flat_setU l i ⟨l[i].acc, l[i].rcd, l[i].val, v⟩ h
  rw [← this]
  dsimp only
  rw [set_same g0, set_same g1, set_same g2]

/-- a whole element written -/
theorem owns_setU {w : World} {B e g cap n : Nat} {l : List Us} (h : w.ownsRow B e 4 (.slice (some ⟨g, 0, none⟩) n cap) n (l.flatMap encU)) (i : Nat) (hi : i < l.length) (y : Us) :
    (w.setCells g (i * 4) (encU y)).ownsRow B e 4 (.slice (some ⟨g, 0, none⟩) n cap) n ((l.set i y).flatMap encU) := by
  rw [← flat_setU l i y hi]
  exact ((((h.stored (i * 4) (.int .i64 y.acc)).1.stored (i * 4 + 1) (.int .i64 y.rcd)).1.stored (i * 4 + 2) (.int .i64 y.val)).1.stored (i * 4 + 3) (.int .i64 y.held)).1
theorem owns_setS {w : World} {B e g cap n : Nat} {l : List (Int × Int)} (h : w.ownsRow B e 2 (.slice (some ⟨g, 0, none⟩) n cap) n (l.flatMap encS)) (i : Nat) (hi : i < l.length) (y : Int × Int) :
    (w.setCells g (i * 2) (encS y)).ownsRow B e 2 (.slice (some ⟨g, 0, none⟩) n cap) n ((l.set i y).flatMap encS) := by
  rw [← flat_setS l i y hi]
  exact ((h.stored (i * 2) (.int .i64 y.1)).1.stored (i * 2 + 1) (.int .i64 y.2)).1

theorem below_setCells {B : Nat} {w w' : World} (h : Below B w w') {g : Nat} (hg : B ≤ g) : ∀ (o : Nat) (vs : List Value), Below B w (w'.setCells g o vs)
  | o, [] => h
  | o, v :: r => below_setCells (h.setCell (p := ⟨g, o, none⟩) hg v) hg (o + 1) r

theorem there_of_owns {w : World} {B e k g cap n : Nat} {xs : List Value} (h : w.ownsRow B e k (.slice (some ⟨g, 0, none⟩) n cap) n xs) (o m : Nat) (hm : o + m ≤ n * k) : w.there g o m := fun j hj => by
  refine ⟨?_, h.frozenAt _⟩
  rw [h.cellAt (o + j) (by omega)]
  rw [List.getElem?_eq_getElem (by rw [h.1]; omega)]; rfl

theorem block_setCells {w : World} {g j : Nat} (hne : j ≠ g) : ∀ (o : Nat) (vs : List Value), (w.setCells g o vs).heap[j]? = w.heap[j]?
  | o, [] => rfl
  | o, v :: r => by
    show (World.setCells (w.setCell ⟨g, o, none⟩ v) g (o + 1) r).heap[j]? = _
    rw [block_setCells hne (o + 1) r]
    exact Below.heap_setCell w ⟨g, o, none⟩ v j (fun h => hne h)

end Go.Proofs.Ytbkmcncakpmgkaa
