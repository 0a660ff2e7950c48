/-
  Swaps inside a list keep every sum; splitting a usage keeps every weight.
-/
import Derived.Test.YtbkmcncakpmgkaaAlA
namespace Go.Proofs.Ytbkmcncakpmgkaa
set_option linter.unusedVariables false
open Go.ChangeShapes Go.WideShapes Go.ChangeAt Go.RowKit

def Alike {α : Type} (a b : List α) : Prop := ∀ f : α → Int, (a.map f).sum = (b.map f).sum

theorem sum_set {α : Type} (f : α → Int) : ∀ (l : List α) (i : Nat) (x : α) (h : i < l.length), ((l.set i x).map f).sum = (l.map f).sum - f l[i] + f x
  | [], i, x, h => by simp at h
  | a :: t, 0, x, h => by simp; omega
  | a :: t, i + 1, x, h => by
    have ih := sum_set f t i x (by simpa using h)
    simp only [List.set_cons_succ, List.map_cons, List.sum_cons, List.getElem_cons_succ]
    omega

/-- l[0], l[a] = l[a], l[0] -/
def swapL {α : Type} (l : List α) (a : Nat) (h0 : 0 < l.length) (ha : a < l.length) : List α := (l.set 0 l[a]).set a l[0]

theorem swap_len {α : Type} (l : List α) (a : Nat) (h0 : 0 < l.length) (ha : a < l.length) : (swapL l a h0 ha).length = l.length := by simp [swapL]

theorem swap_alike {α : Type} (l : List α) (a : Nat) (h0 : 0 < l.length) (ha : a < l.length) : Alike (swapL l a h0 ha) l := by
  intro f
  unfold swapL
  rw [sum_set f _ a _ (by simpa using ha), sum_set f _ 0 _ h0]
  have e : (l.set 0 l[a])[a]'(by simpa using ha) = l[a] := by
    rw [List.getElem_set]; split
    · rfl
    · rfl
  rw [e]; omega

theorem swap_mem {α : Type} (l : List α) (a : Nat) (h0 : 0 < l.length) (ha : a < l.length) : ∀ x ∈ swapL l a h0 ha, x ∈ l := by
  intro x hx
  unfold swapL at hx
  rcases List.mem_or_eq_of_mem_set hx with hx | rfl
  · rcases List.mem_or_eq_of_mem_set hx with hx | rfl
    · exact hx
    · exact List.getElem_mem _
  · exact List.getElem_mem _

theorem Alike.trans {α : Type} {a b c : List α} (h1 : Alike a b) (h2 : Alike b c) : Alike a c := fun f => (h1 f).trans (h2 f)
theorem Alike.weq {a b : List Us} (h : Alike a b) : WEq a b := fun all acc x => h _

theorem user_alike (us : List Us) (hus : us.length ≤ 60) {a b : List (Int × Int)} (h : Alike a b) : tidyL (userA us a).1 = tidyL (userA us b).1 ∧ (userA us a).2 = (userA us b).2 := by
  obtain ⟨a1, a2, a3⟩ := user_get us a a.length (Nat.le_refl _)
  obtain ⟨b1, b2, b3⟩ := user_get us b b.length (Nat.le_refl _)
  have ab := (user_bd us hus a a.length (Nat.le_refl _)).1
  have bb := (user_bd us hus b b.length (Nat.le_refl _)).1
  rw [List.take_length] at a1 a2 a3 b1 b2 b3 ab bb
  refine ⟨asc_ext (a1.filter _) (b1.filter _) (fun s hs => of_decide_eq_true (List.mem_filter.1 hs).2) (fun s hs => of_decide_eq_true (List.mem_filter.1 hs).2) (fun x => ?_), ?_⟩
  · rw [getL_tidy x ab a1, getL_tidy x bb b1, a2, b2]; exact h _
  · rw [a3, b3]; exact h _

/-- the usage k parted in two -/
def partL (l : List Us) (k : Nat) (h : k < l.length) : List Us :=
  l.set k ⟨l[k].acc, l[k].rcd, l[k].val - l[k].val / 2, l[k].held - l[k].held / 3⟩ ++ [⟨l[k].acc, l[k].rcd, l[k].val / 2, l[k].held / 3⟩]

theorem part_small {l : List Us} (hs : SmallU l) (k : Nat) (h : k < l.length) : SmallU (partL l k h) := by
  intro u hu
  have hk := hs l[k] (List.getElem_mem _)
  unfold partL at hu
  rcases List.mem_append.1 hu with hu | hu
  · rcases List.mem_or_eq_of_mem_set hu with hu | rfl
    · exact hs u hu
    · dsimp only; omega
  · simp at hu; subst hu; dsimp only; omega

theorem part_weq {l : List Us} (k : Nat) (h : k < l.length) : WEq (partL l k h) l := by
  intro all acc x
  unfold wsum partL
  rw [List.map_append, List.sum_append, sum_set _ _ _ _ h]
  simp only [List.map_cons, List.map_nil, List.sum_cons, List.sum_nil]
  unfold wf1
  dsimp only
  split <;> omega

theorem i64s_of {l : List Int} (h : ∀ x ∈ l, -9223372036854775808 ≤ x ∧ x ≤ 9223372036854775807) : I64s l := fun i => by
  by_cases hi : i < l.length
  · exact h _ (getD_mem hi)
  · have : l.getD i 0 = 0 := by simp [List.getElem?_eq_none (Nat.le_of_not_lt hi)]
    omega

/-- it is nil; or it leads to a row of 'cap' cells, the numbers 'zs' (the first 'len' are its elements, the rest its spare room), each fitting its kind. -/
def IsRow (k : IntKind) (w : World) (a : Option Addr) (len cap : Nat) (zs : List Int) : Prop :=
  (a = none ∧ len = 0 ∧ cap = 0 ∧ zs = []) ∨
  ∃ x, a = some x ∧ len ≤ cap ∧ cap ≤ maxLen ∧ zs.length = cap ∧ (∀ i, i < zs.length → w.cell? (x.add i) = some (.int k (zs.getD i 0))) ∧ ∀ n ∈ zs, (Lit.int k n).wf = true

theorem wfb {n : Int} (h : (Lit.int .i64 n).wf = true) : -9223372036854775808 ≤ n ∧ n ≤ 9223372036854775807 := bounds_i64 h

theorem IsRow.row {w : World} {a : Option Addr} {len cap : Nat} {zs : List Int} (h : IsRow .i64 w a len cap zs) :
    ∃ l : List Int, l.length = len ∧ len ≤ cap ∧ len ≤ 9223372036854775807 ∧ (a = none → cap = 0) ∧ Row w a l ∧ I64s l := by
  rcases h with ⟨rfl, rfl, rfl, rfl⟩ | ⟨x, rfl, h1, h2, h3, h4, h5⟩
  · exact ⟨[], rfl, Nat.le_refl _, by omega, fun _ => rfl, Row.nil _ _, i64s_of (by simp)⟩
  · refine ⟨zs.take len, by rw [List.length_take]; omega, h1, by unfold maxLen at h2; omega, (fun h => by cases h), ?_, i64s_of fun y hy => wfb (h5 y (List.mem_of_mem_take hy))⟩
    intro i hi
    rw [List.length_take] at hi
    obtain ⟨b, off, rfl, hc⟩ := ints_at h4 (by omega)
    have c := hc i (by omega)
    have hb := World.block_lt_of_cell? _ _ c
    refine ⟨b, off, rfl, hb, ?_⟩
    rw [c]
    simp only [List.getD_eq_getElem?_getD, List.getElem?_take_of_lt (show i < len by omega)]


end Go.Proofs.Ytbkmcncakpmgkaa
