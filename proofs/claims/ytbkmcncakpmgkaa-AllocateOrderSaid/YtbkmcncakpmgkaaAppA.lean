import Derived.Test.YtbkmcncakpmgkaaBefore
import Derived.Test.YtbkmcncakpmgkaaAmtB
import Derived.Test.YtbkmcncakpmgkaaMath
import Derived.OwnWalk
import Derived.Test.YtbkmcncakpmgkaaAmtC
import Derived.Laws.AppendOwnNone
import Derived.WalkLawsBesides
import Derived.WalkSpells

/-! What Apportion's loops keep: two rows of the call's own, the parts and the quotas; and the plain numbers of its loops. -/
namespace Go.Proofs.Ytbkmcncakpmgkaa
set_option linter.unusedVariables false
open Go.ChangeShapes Go.WideShapes Go.ChangeAt Go.RowKit
open Go.Sort (grow HoldsK)

theorem Try.info3 : (Try.prog.info? 3).map (fun i => (i.zero, i.size, i.bytes)) = some (some (.int .i64 0), 1, 8) := by kernel_rfl
theorem Try.info88 : (Try.prog.info? 88).map (fun i => (i.zero, i.size, i.bytes)) = some (some (.agg #[.int .i64 0, .int .i64 0]), 2, 16) := by kernel_rfl

/-- the cell holds v, and may be written -/
def CellZ (w : World) (b o : Nat) (v : Int) : Prop := w.cell? ⟨b, o, none⟩ = some (.int .i64 v) ∧ w.frozen? ⟨b, o, none⟩ = false

structure Two (w wr : World) (P Q n : Nat) (f : Nat → Int) (g : Nat → Int × Int) : Prop where
  below : Below P w wr
  pq : P < Q
  lt : Q < wr.heap.size
  ps : ∀ i, i < n → CellZ wr P i (f i)
  qs : ∀ i, i < n → CellZ wr Q (i * 2) (g i).1 ∧ CellZ wr Q (i * 2 + 1) (g i).2

theorem CellZ.later {w w' : World} {b o : Nat} {v : Int} (h : CellZ w b o v) (hb : Below w.heap.size w w') (hs : b < w.heap.size) : CellZ w' b o v :=
  ⟨by rw [hb.cell (p := ⟨b, o, none⟩) hs]; exact h.1, by rw [hb.frozen (p := ⟨b, o, none⟩) hs]; exact h.2⟩

theorem CellZ.set {w : World} {b o b' o' : Nat} {v : Int} {u : Int} (h : CellZ w b o v) : CellZ (w.setCell ⟨b', o', none⟩ (.int .i64 u)) b o (if b' = b ∧ o' = o then u else v) := by
  refine ⟨?_, by rw [World.frozen?_setCell]; exact h.2⟩
  by_cases e : b' = b ∧ o' = o
  · obtain ⟨rfl, rfl⟩ := e
    rw [if_pos ⟨rfl, rfl⟩, World.cell?_setCell_same _ _ _ (u := .int .i64 v) h.1]
  · rw [if_neg e, World.cell?_setCell_other _ _ _ _ (by intro h; simp only [Addr.mk.injEq, and_true] at h; exact e h)]; exact h.1

theorem Two.later {w wr w' : World} {P Q n : Nat} {f : Nat → Int} {g : Nat → Int × Int} (h : Two w wr P Q n f g) (hb : Below wr.heap.size wr w') : Two w w' P Q n f g :=
  ⟨bch h.below hb (by have := h.pq; have := h.lt; omega), h.pq, Nat.lt_of_lt_of_le h.lt hb.size,
    fun i hi => (h.ps i hi).later hb (by have := h.pq; have := h.lt; omega), fun i hi => ⟨(h.qs i hi).1.later hb h.lt, (h.qs i hi).2.later hb h.lt⟩⟩

theorem size_setCell (w : World) (a : Addr) (v : Value) : (w.setCell a v).heap.size = w.heap.size := by simp

theorem Two.setP {w wr : World} {P Q n : Nat} {f f' : Nat → Int} {g : Nat → Int × Int} (h : Two w wr P Q n f g) (k : Nat) (u : Int) (hf : ∀ i, i < n → f' i = if k = i then u else f i) :
    Two w (wr.setCell ⟨P, k, none⟩ (.int .i64 u)) P Q n f' g := by
  have pq := h.pq
  refine ⟨h.below.setCell (p := ⟨P, k, none⟩) (Nat.le_refl _) _, h.pq, by rw [size_setCell]; exact h.lt, fun i hi => ?_, fun i hi => ⟨?_, ?_⟩⟩
  · have := (h.ps i hi).set (b' := P) (o' := k) (u := u)
    rw [hf i hi]; simpa using this
  · have := (h.qs i hi).1.set (b' := P) (o' := k) (u := u)
    rw [if_neg (by omega)] at this; exact this
  · have := (h.qs i hi).2.set (b' := P) (o' := k) (u := u)
    rw [if_neg (by omega)] at this; exact this

theorem Two.setQ {w wr : World} {P Q n : Nat} {f : Nat → Int} {g g' : Nat → Int × Int} (h : Two w wr P Q n f g) (k : Nat) (u v : Int) (hg : ∀ i, i < n → g' i = if k = i then (u, v) else g i) :
    Two w ((wr.setCell ⟨Q, k * 2, none⟩ (.int .i64 u)).setCell ⟨Q, k * 2 + 1, none⟩ (.int .i64 v)) P Q n f g' := by
  have pq := h.pq
  refine ⟨(h.below.setCell (p := ⟨Q, k * 2, none⟩) (Nat.le_of_lt pq) _).setCell (p := ⟨Q, k * 2 + 1, none⟩) (Nat.le_of_lt pq) _, h.pq, by rw [size_setCell, size_setCell]; exact h.lt, fun i hi => ?_, fun i hi => ⟨?_, ?_⟩⟩
  · have := ((h.ps i hi).set (b' := Q) (o' := k * 2) (u := u)).set (b' := Q) (o' := k * 2 + 1) (u := v)
    rw [if_neg (by omega), if_neg (by omega)] at this; exact this
  · have := ((h.qs i hi).1.set (b' := Q) (o' := k * 2) (u := u)).set (b' := Q) (o' := k * 2 + 1) (u := v)
    rw [if_neg (by omega)] at this
    rw [hg i hi]
    by_cases e : k = i
    · subst e; rw [if_pos rfl]; simpa using this
    · rw [if_neg e]; rw [if_neg (by omega)] at this; exact this
  · have := ((h.qs i hi).2.set (b' := Q) (o' := k * 2) (u := u)).set (b' := Q) (o' := k * 2 + 1) (u := v)
    rw [hg i hi]
    by_cases e : k = i
    · subst e; rw [if_pos rfl]; simpa using this
    · rw [if_neg e]; rw [if_neg (by omega), if_neg (by omega)] at this; exact this

theorem Two.congr {w wr : World} {P Q n : Nat} {f f' : Nat → Int} {g g' : Nat → Int × Int} (h : Two w wr P Q n f g) (hf : ∀ i, i < n → f' i = f i) (hg : ∀ i, i < n → g' i = g i) : Two w wr P Q n f' g' :=
  ⟨h.below, h.pq, h.lt, fun i hi => by rw [hf i hi]; exact h.ps i hi, fun i hi => by rw [hg i hi]; exact h.qs i hi⟩

/-- both rows as they are made -/
theorem Two.made {w w1 w2 : World} {n : Nat} (o1 : w1.ownsRow w.heap.size 3 1 (.slice (some ⟨w.heap.size, 0, none⟩) n n) n (madeCells (Value.int .i64 0).cells (n * 1)).toList) (g1 : w.grownBy w1 none)
    (o2 : w2.ownsRow w1.heap.size 88 2 (.slice (some ⟨w1.heap.size, 0, none⟩) n n) n (madeCells (Value.agg #[.int .i64 0, .int .i64 0]).cells (n * 2)).toList) (g2 : w1.grownBy w2 none) :
    Two w w2 w.heap.size w1.heap.size n (fun _ => 0) (fun _ => (0, 0)) := by
  obtain ⟨_, h1 | ⟨p, cap, cur, e1, _, b1, _, _, s1, t1⟩⟩ := o1
  · simp at h1
  obtain ⟨_, h2 | ⟨q, cap', cur', e2, _, b2, _, _, s2, t2⟩⟩ := o2
  · simp at h2
  simp only [Value.slice.injEq, Option.some.injEq, Addr.mk.injEq, and_true, true_and] at e1 e2
  obtain ⟨rfl, rfl⟩ := e1
  obtain ⟨rfl, rfl⟩ := e2
  have lt1 : w.heap.size < w1.heap.size := by
    rcases Nat.lt_or_ge w.heap.size w1.heap.size with h | h
    · exact h
    · rw [Array.getElem?_eq_none h] at b1; cases b1
  have lt2 : w1.heap.size < w2.heap.size := by
    rcases Nat.lt_or_ge w1.heap.size w2.heap.size with h | h
    · exact h
    · rw [Array.getElem?_eq_none h] at b2; cases b2
  have b1' : w2.heap[w.heap.size]? = some (.cells cur 3 (0, 0)) := by rw [g2.block _ lt1 (by simp)]; exact b1
  rw [List.take_of_length_le (by simp [s1])] at t1
  rw [List.take_of_length_le (by simp [s2])] at t2
  have c1 : ∀ i, i < n → cur[i]? = some (.int .i64 0) := fun i hi => by
    rw [← Array.getElem?_toList, t1, Array.getElem?_toList]
    simp [madeCells, hi, Nat.mod_one, Value.cells]
  have c2 : ∀ i, i < n * 2 → cur'[i]? = some (.int .i64 0) := fun i hi => by
    rw [← Array.getElem?_toList, t2, Array.getElem?_toList]
    have : i % 2 = 0 ∨ i % 2 = 1 := by omega
    rcases this with h | h <;> simp [madeCells, hi, h, Value.cells]
  refine ⟨((Below.refl _ _).grown g1 (Nat.le_refl _) (by simp)).grown g2 (Nat.le_of_lt lt1) (by simp), lt1, lt2, fun i hi => ⟨?_, ?_⟩, fun i hi => ⟨⟨?_, ?_⟩, ⟨?_, ?_⟩⟩⟩
  · simp [World.cell?, b1', c1 i hi]
  · simp [World.frozen?, b1']
  · simp [World.cell?, b2, c2 (i * 2) (by omega)]
  · simp [World.frozen?, b2]
  · simp [World.cell?, b2, c2 (i * 2 + 1) (by omega)]
  · simp [World.frozen?, b2]

/-- the quotas as the sort takes them -/
theorem Two.holds {w wr : World} {P Q n : Nat} {f : Nat → Int} {g : Nat → Int × Int} (h : Two w wr P Q n f g) (d : List (Int × Int)) (hd : d.length = n) (hg : ∀ i (hi : i < d.length), g i = d[i]) : HoldsK encQ 2 wr Q 0 d.toArray := by
  intro j hj
  rw [Go.Sort.size_flatK] at hj
  rw [Go.Sort.get_flatK _ _ _ _ hj]
  have hj' : j / 2 < d.length := by simp at hj; omega
  have hq := h.qs (j / 2) (by omega)
  rw [hg _ hj'] at hq
  have e : d.toArray[j / 2]! = d[j / 2] := by simp [hj']
  rw [e]
  have : j % 2 = 0 ∨ j % 2 = 1 := by omega
  rcases this with h2 | h2
  · have ej : 0 + j = j / 2 * 2 := by omega
    rw [h2, ej]
    exact hq.1
  · have ej : 0 + j = j / 2 * 2 + 1 := by omega
    rw [h2, ej]
    exact hq.2

theorem heap_sortWorldK (enc : Int × Int → List Value) (k : Nat) (w : World) (blk off m : Nat) (d : Array (Int × Int)) (os : Array Obj) {b : Nat} (hb : b < w.heap.size) (hne : b ≠ blk) : (sortWorldK enc k w blk off m d os).heap[b]? = w.heap[b]? := by
  unfold sortWorldK
  rw [Go.Sort.heap_grow_old _ _ (by unfold Go.Sort.putRowK; rw [Go.Sort.size_putRow]; exact hb)]
  unfold Go.Sort.putRowK Go.Sort.putRow Go.Sort.mapBlock
  simp only [Array.getElem?_modify]
  rw [if_neg (fun h => hne h.symm)]
  rfl

/-- behind the sort -/
theorem Two.sorted {w wr : World} {P Q n : Nat} {f : Nat → Int} {g g' : Nat → Int × Int} (h : Two w wr P Q n f g) (d d' : List (Int × Int)) (hd : d.length = n) (hd' : d'.length = n) (hg : ∀ i (hi : i < d.length), g i = d[i])
    (hg' : ∀ i (hi : i < d'.length), g' i = d'[i]) (m : Nat) (os : Array Obj) : Two w (sortWorldK encQ 2 wr Q 0 m d'.toArray os) P Q n f g' := by
  have hH := h.holds d hd hg
  have hH' := holdsK_sortWorldK_c encQ 2 wr Q 0 d.toArray d'.toArray m os hH h.lt (by simp [hd, hd'])
  have hsz := size_sortWorldK_c encQ 2 wr Q 0 m d'.toArray os
  have pq := h.pq
  have lt := h.lt
  have hb : ∀ b, b < Q → (sortWorldK encQ 2 wr Q 0 m d'.toArray os).heap[b]? = wr.heap[b]? := fun b hb => heap_sortWorldK encQ 2 wr Q 0 m d'.toArray os (by omega) (by omega)
  refine ⟨h.below.trans ⟨rfl, rfl, rfl, hsz, fun k hk => hb k (by omega)⟩, pq, Nat.lt_of_lt_of_le lt hsz, fun i hi => ⟨?_, ?_⟩, fun i hi => ?_⟩
  · rw [World.cell?_of_block (w := wr) (hb P pq)]; exact (h.ps i hi).1
  · rw [World.frozen?_of_block (w := wr) (hb P pq)]; exact (h.ps i hi).2
  · have i' : i < d'.length := by omega
    have e : d'.toArray[i]! = d'[i] := by simp [i']
    have c0 := hH'.cell (i := i) (c := 0) (by simpa using i') (by omega)
    have c1 := hH'.cell (i := i) (c := 1) (by simpa using i') (by omega)
    rw [e] at c0 c1
    rw [hg' i i']
    rw [Nat.zero_add] at c0 c1
    exact ⟨c0, c1⟩

/-- the quotas, by index -/
def quotas (r : List Int) : List (Int × Int) := (List.range r.length).map fun (i : Nat) => ((i : Int), r.getD i 0)
theorem quotas_length (r : List Int) : (quotas r).length = r.length := by simp [quotas]
theorem quotas_get (r : List Int) (i : Nat) (hi : i < (quotas r).length) : (quotas r)[i] = ((i : Int), r.getD i 0) := by simp [quotas]

theorem sortQ_quotas (r : List Int) : sortQ (quotas r) = (App.ord r).map fun (i : Nat) => ((i : Int), r.getD i 0) := by
  unfold sortQ quotas App.ord
  rw [List.map_mergeSort]
  intro a _ b _
  rw [ltBefore]
  unfold App.less
  congr 1
  rw [Bool.eq_iff_iff]
  simp only [Bool.or_eq_true, Bool.and_eq_true, decide_eq_true_eq]
  omega

theorem sortQ_length (r : List Int) : (sortQ (quotas r)).length = r.length := by rw [sortQ_quotas, List.length_map, App.ord_length]
theorem sortQ_get (r : List Int) (i : Nat) (hi : i < (sortQ (quotas r)).length) : (sortQ (quotas r))[i] = (((((App.ord r).getD i 0 : Nat)) : Int), r.getD ((App.ord r).getD i 0) 0) := by
  have h1 : i < (App.ord r).length := by rw [App.ord_length]; rw [sortQ_length] at hi; exact hi
  have : (App.ord r).getD i 0 = (App.ord r)[i] := by simp [h1]
  rw [this]
  simp only [sortQ_quotas, List.getElem_map]

theorem ord_rank (r : List Int) (k : Nat) (hk : k < r.length) : App.rank r ((App.ord r).getD k 0) = k ∧ (App.ord r).getD k 0 < r.length := by
  have h1 : k < (App.ord r).length := by rw [App.ord_length]; exact hk
  have : (App.ord r).getD k 0 = (App.ord r)[k] := by simp [h1]
  rw [this]
  exact ⟨App.rank_ord r k h1, App.ord_lt r k h1⟩

end Go.Proofs.Ytbkmcncakpmgkaa

/-! The contract of amount.Apportion: the parts by largest remainders, or nothing. -/
namespace Go.Proofs.Ytbkmcncakpmgkaa
set_option linter.unusedVariables false
open Go.ChangeShapes Go.WideShapes Go.ChangeAt Go.RowKit

theorem ov_quo (T y U : Nat) (hy : y ≤ U) (hU : 1 ≤ U) (hT : T ≤ 1000000000000000) : ovQ (T * y) U = T * y / U ∧ ovR (T * y) U = T * y % U := by
  have h1 : T * y / U ≤ T * U / U := Nat.div_le_div_right (Nat.mul_le_mul_left _ hy)
  rw [Nat.mul_div_cancel _ (by omega)] at h1
  have h2 : T * y / U ≤ 4611686018427387903 := by omega
  unfold ovQ ovR
  rw [if_pos h2, if_pos h2]; exact ⟨rfl, rfl⟩

theorem getD_le_sum {l : List Int} (h : ∀ x ∈ l, 0 ≤ x) (k : Nat) : 0 ≤ l.getD k 0 ∧ l.getD k 0 ≤ l.sum := by
  have hs := sum_nonneg l h
  by_cases hk : k < l.length
  · have h1 := take_sum_le l (k + 1) h
    rw [take_sum_succ l k hk] at h1
    have h2 := sum_nonneg (l.take k) fun x hx => h x (List.mem_of_mem_take hx)
    have h3 := h _ (getD_mem hk)
    omega
  · have : l.getD k 0 = 0 := by simp [List.getElem?_eq_none (Nat.le_of_not_lt hk)]
    omega

theorem quo_nonneg {t : Int} {l : List Int} (h : App.Ok t l) : ∀ x ∈ App.quo t l, 0 ≤ x := by
  intro x hx
  simp only [App.quo, List.mem_map] at hx
  obtain ⟨w, hw, rfl⟩ := hx
  exact Int.ediv_nonneg (Int.mul_nonneg h.t0 (h.pos w hw)) (by have := h.sum1; omega)

/-- what is left behind k rounds -/
def LoopA (t : Int) (l : List Int) (k : Nat) (z : Int) : Prop := z = t - ((App.quo t l).take k).sum
theorem LoopA.start (t : Int) (l : List Int) : LoopA t l 0 t := by unfold LoopA; simp
theorem LoopA.bd {t z : Int} {l : List Int} {k : Nat} (h : LoopA t l k z) (ok : App.Ok t l) : 0 ≤ z ∧ z ≤ t := by
  unfold LoopA at h
  have h1 := take_sum_le (App.quo t l) k (quo_nonneg ok)
  have h2 := sum_nonneg ((App.quo t l).take k) fun x hx => quo_nonneg ok x (List.mem_of_mem_take hx)
  have h3 := (App.left_eq ok).1
  omega
theorem LoopA.next {t z : Int} {l : List Int} {k : Nat} (h : LoopA t l k z) (hk : k < l.length) : LoopA t l (k + 1) (z - (App.quo t l).getD k 0) := by
  unfold LoopA at *
  rw [take_sum_succ _ _ (by rw [App.quo_length]; exact hk)]; omega
theorem LoopA.last {t z : Int} {l : List Int} {k : Nat} (h : LoopA t l k z) (hk : l.length ≤ k) (ok : App.Ok t l) : z = (App.left t l : Nat) := by
  unfold LoopA at h
  rw [List.take_of_length_le (by rw [App.quo_length]; exact hk)] at h
  rw [h, (App.left_eq ok).1]

/-- Apportion's two results -/
def apB (t : Int) (l : List Int) : Bool := okS 1000000000000000 l && decide (0 < l.sum) && decide (0 ≤ t) && decide (t ≤ 1000000000000000)
def apV (t : Int) (l : List Int) : List Int := if apB t l = true then App.app t l else []

theorem apB_iff {t : Int} {l : List Int} : apB t l = true ↔ App.Ok t l ∧ l.sum ≤ 1000000000000000 ∧ t ≤ 1000000000000000 := by
  unfold apB
  simp only [Bool.and_eq_true, decide_eq_true_eq, okS_iff]
  exact ⟨fun ⟨⟨⟨⟨a, b⟩, c⟩, d⟩, e⟩ => ⟨⟨d, a, by omega⟩, b, e⟩, fun ⟨⟨d, a, c⟩, b, e⟩ => ⟨⟨⟨⟨a, b⟩, by omega⟩, d⟩, e⟩⟩

/-- the result of an Apportion: a slice that reads as l, in new memory -/
def Parts (w : World) (l : List Int) (b : Bool) (e : Ending) (w' : World) : Prop :=
  ∃ (ao : Option Addr) (cap : Nat), e = .returned (.tuple #[.slice ao l.length cap, .bool b]) ∧ ((ao = none → cap = 0) ∧ l.length ≤ cap) ∧ Row w' ao l ∧ Below w.heap.size w w'

def fA (t : Int) (l : List Int) (k i : Nat) : Int := if i < k then (App.quo t l).getD i 0 else 0
def gA (t : Int) (l : List Int) (k i : Nat) : Int × Int := if i < k then ((i : Int), (App.rem t l).getD i 0) else (0, 0)
def fB (t : Int) (l : List Int) (k i : Nat) : Int := (App.bump (App.quo t l) (App.rem t l) k).getD i 0
def gB (t : Int) (l : List Int) (i : Nat) : Int × Int := ((((App.ord (App.rem t l)).getD i 0 : Nat) : Int), (App.rem t l).getD ((App.ord (App.rem t l)).getD i 0) 0)

theorem fA_next (t : Int) (l : List Int) (k i : Nat) : fA t l (k + 1) i = if k = i then (App.quo t l).getD k 0 else fA t l k i := by
  unfold fA
  by_cases h : k = i
  · subst h; rw [if_pos rfl, if_pos (by omega)]
  · rw [if_neg h]
    by_cases h2 : i < k
    · rw [if_pos h2, if_pos (by omega)]
    · rw [if_neg h2, if_neg (by omega)]
theorem gA_next (t : Int) (l : List Int) (k i : Nat) : gA t l (k + 1) i = if k = i then ((k : Int), (App.rem t l).getD k 0) else gA t l k i := by
  unfold gA
  by_cases h : k = i
  · subst h; rw [if_pos rfl, if_pos (by omega)]
  · rw [if_neg h]
    by_cases h2 : i < k
    · rw [if_pos h2, if_pos (by omega)]
    · rw [if_neg h2, if_neg (by omega)]

theorem set_getD (a : List Int) (k i : Nat) (v : Int) (hk : k < a.length) : (a.set k v).getD i 0 = if k = i then v else a.getD i 0 := by
  rw [List.getD_eq_getElem?_getD, List.getD_eq_getElem?_getD]
  by_cases h : k = i
  · subst h; rw [if_pos rfl, List.getElem?_set_self hk]; rfl
  · rw [if_neg h, List.getElem?_set_ne h]

theorem fB_next (t : Int) (l : List Int) (k i : Nat) (hk : k < l.length) : fB t l (k + 1) i = if (App.ord (App.rem t l)).getD k 0 = i then fB t l k ((App.ord (App.rem t l)).getD k 0) + 1 else fB t l k i := by
  have h := ord_rank (App.rem t l) k (by rw [App.rem_length]; exact hk)
  have hq : (App.quo t l).length = (App.rem t l).length := by rw [App.quo_length, App.rem_length]
  unfold fB
  rw [← App.bump_succ hq h.2 h.1]
  exact set_getD _ _ _ _ (by rw [App.bump_length, hq]; exact h.2)

theorem fB_bd {t : Int} {l : List Int} (ok : App.Ok t l) (k i : Nat) : 0 ≤ fB t l k i ∧ fB t l k i ≤ t + 1 := by
  unfold fB
  have hq := getD_le_sum (quo_nonneg ok) i
  have hs := (App.left_eq ok).1
  by_cases h : i < (App.quo t l).length
  · rw [App.bump_getD h]; split <;> omega
  · have : (App.bump (App.quo t l) (App.rem t l) k).getD i 0 = 0 := by
      rw [List.getD_eq_getElem?_getD, List.getElem?_eq_none (by rw [App.bump_length]; omega)]; rfl
    have := ok.t0
    omega

end Go.Proofs.Ytbkmcncakpmgkaa

/-! The contract of amount.Apportion: the parts by largest remainders, or nothing. -/
namespace Go.Proofs.Ytbkmcncakpmgkaa
set_option linter.unusedVariables false
open Go.ChangeShapes Go.WideShapes Go.ChangeAt Go.RowKit

theorem walk_round1 {w wr w4 w5 : World} {P Q n k : Nat} {t : Int} {l : List Int} (hT : Two w wr P Q n (fA t l k) (gA t l k)) (hb4 : Below wr.heap.size wr w4) (hb5 : Below w4.heap.size w4 w5) (hk : k < n) (q r : Int)
    (hq : (App.quo t l).getD k 0 = q) (hr : (App.rem t l).getD k 0 = r) :
    (∃ v, w5.cell? ⟨P, k, none⟩ = some v) ∧ w5.frozen? ⟨P, k, none⟩ = false ∧
    (∃ v, (w5.setCell ⟨P, k, none⟩ (.int .i64 q)).cell? ⟨Q, k * 2, none⟩ = some v) ∧ (w5.setCell ⟨P, k, none⟩ (.int .i64 q)).frozen? ⟨Q, k * 2, none⟩ = false ∧
    (∃ v, ((w5.setCell ⟨P, k, none⟩ (.int .i64 q)).setCell ⟨Q, k * 2, none⟩ (.int .i64 k)).cell? ⟨Q, k * 2 + 1, none⟩ = some v) ∧ ((w5.setCell ⟨P, k, none⟩ (.int .i64 q)).setCell ⟨Q, k * 2, none⟩ (.int .i64 k)).frozen? ⟨Q, k * 2 + 1, none⟩ = false ∧
    Two w (((w5.setCell ⟨P, k, none⟩ (.int .i64 q)).setCell ⟨Q, k * 2, none⟩ (.int .i64 k)).setCell ⟨Q, k * 2 + 1, none⟩ (.int .i64 r)) P Q n (fA t l (k + 1)) (gA t l (k + 1)) := by
  have h5 := (hT.later hb4).later hb5
  have hp := h5.setP (f' := fA t l (k + 1)) k q (fun i hi => by rw [fA_next, hq])
  have hpq := hp.setQ (g' := gA t l (k + 1)) k k r (fun i hi => by rw [gA_next, hr])
  have c1 := h5.ps k hk
  have c2 := (hp.qs k hk).1
  have c3 := ((hp.qs k hk).2.set (b' := Q) (o' := k * 2) (u := k))
  exact ⟨⟨_, c1.1⟩, c1.2, ⟨_, c2.1⟩, c2.2, ⟨_, c3.1⟩, c3.2, hpq⟩

theorem fin_parts {w wr : World} {P Q n k m : Nat} {t : Int} {l a : List Int} {g : Nat → Int × Int} (hT : Two w wr P Q n (fB t l k) g) (hk : k = m) (ha : a.length = n) (hf : ∀ i, i < n → fB t l m i = a.getD i 0) (hP : w.heap.size = P) :
    Parts w a true (.returned (.tuple #[.slice (some ⟨P, 0, none⟩) n n, .bool true])) wr := by
  subst hk
  refine ⟨some ⟨P, 0, none⟩, n, by rw [ha], ⟨(fun h => by cases h), by omega⟩, ?_, by rw [hP]; exact hT.below⟩
  intro i hi
  rw [ha] at hi
  have c := (hT.ps i hi).1
  rw [hf i hi] at c
  exact ⟨P, 0, rfl, by have := hT.pq; have := hT.lt; omega, by rw [Nat.zero_add]; exact c⟩

set_option maxHeartbeats 2000000 in
set_option maxRecDepth 100000 in
theorem app_yes (T U : Nat) (ao : Option Addr) (cap n : Nat) (l : List Int) (w : World) (hn : n ≤ 1000000) (hl : l.length = n) (hr : Row w ao l) (ok : App.Ok T l) (t1 : T ≤ 1000000000000000) (hU : l.sum = (U : Int)) (s0 : 1 ≤ U) (s1 : U ≤ 1000000000000000)
    (hs : ∀ w, Row w ao l → Calls Try.prog 43 #[.slice ao n cap] w fun e w' => e = .returned (.tuple #[.int .i64 U, .bool true]) ∧ w = w') :
    Calls Try.prog 35 #[.int .i64 T, .slice ao n cap] w (Parts w (App.app T l) true) := by
  have hd1 : decide ((U : Int) < 1) = false := decide_eq_false (by omega)
  have hd2 : decide ((1000000000000000 : Int) < U) = false := decide_eq_false (by omega)
  have hd3 : decide ((T : Int) < 0) = false := decide_eq_false (by omega)
  have hd4 : decide ((1000000000000000 : Int) < T) = false := decide_eq_false (by omega)
  have HS := Lib.hid hs
  have HR := Lib.hid hr
  have HL := Lib.hid hl
  have HU := Lib.hid hU
  have OK := Lib.hid ok
  clear hs hr hl hU ok
  obtain ⟨i0, hi, hz0, hz1, hz2⟩ := info_parts Try.info3
  obtain ⟨i1, hj, hy0, hy1, hy2⟩ := info_parts Try.info88
  go_enter Try.func35, Try.ntmps35
  go_wp2_with fail
  refine (HS.out _ HR.out).mono ?_
  rintro e w' ⟨rfl, rfl⟩
  go_wp2_with (first | (at_make; refine wpList_make_full _ rfl (.tmp 43) (.tmp 43) 34 rfl w.heap.size 3 i0 (.int .i64 0) 1 Try.underlying34 hi hz0 hz1 .i64 .i64 n n n rfl rfl rfl rfl (by rw [hz2]; omega) (by unfold maxLen; omega) (Nat.le_refl _) ?_; intro w1 own1 gr1) | (at_make; refine wpList_make_full _ rfl (.tmp 46) (.tmp 46) 80 rfl w1.heap.size 88 i1 (.agg #[.int .i64 0, .int .i64 0]) 2 Try.underlying80 hj hy0 hy1 .i64 .i64 n n n rfl rfl rfl rfl (by rw [hy2]; omega) (by unfold maxLen; omega) (Nat.le_refl _) ?_; intro w2 own2 gr2))
  have ht := (Two.made own1 gr1 own2 gr2).congr (f' := fA T l 0) (g' := gA T l 0) (fun i _ => by simp [fA]) (fun i _ => by simp [gA])
  have HT := Lib.hid ht
  have HP := Lib.hid (Nat.le_refl w.heap.size)
  clear own1 own2 gr1 gr2 ht hi hz0 hz1 hz2 hj hy0 hy1 hy2
  obtain ⟨P, hP⟩ : ∃ P, w.heap.size = P := ⟨_, rfl⟩
  obtain ⟨Q, hQ⟩ : ∃ Q, w1.heap.size = Q := ⟨_, rfl⟩
  rw [hP, hQ] at HT
  rw [hP, hQ]
  have HPE := Lib.hid hP
  clear hP hQ HP
  go_loopw [10, 51] (fun v i wr => ∃ (k : Nat) (z : Int), k ≤ n ∧ Two w wr P Q n (fA T l k) (gA T l k) ∧ LoopA T l k z ∧ 0 ≤ z ∧ z ≤ T ∧ i = .int .i64 k ∧ v = .int .i64 z) (fun _ i _ => n - (intOf i).toNat)
  case atStart => exact ⟨0, T, Nat.zero_le _, HT.out, LoopA.start T l, by omega, Int.le_refl _, rfl, rfl⟩
  case round =>
    obtain ⟨k, z, hk, hT, hz, z0, z1, rfl, rfl⟩ := hrel
    by_cases hlt : k < n
    · obtain ⟨b, off, rfl, hb, hc⟩ := HR.out k (by rw [HL.out]; exact hlt)
      have hx := getD_le_sum OK.out.pos k
      obtain ⟨y, hy⟩ := Int.eq_ofNat_of_zero_le hx.1
      rw [HU.out, hy] at hx
      rw [hy] at hc
      have hc' : wr.cell? ⟨b, off + k, none⟩ = some (.int .i64 y) := by rw [hT.below.cell (p := ⟨b, off + k, none⟩) (by rw [← HPE.out]; exact hb)]; exact hc
      have hy1 : y ≤ U := by omega
      obtain ⟨e1, e2⟩ := ov_quo T y U hy1 s0 t1
      have eq1 : (App.quo T l).getD k 0 = ((ovQ (T * y) U : Nat) : Int) := by
        rw [App.quo_getD (by rw [HL.out]; exact hlt), hy, HU.out, e1, Int.natCast_ediv, Int.natCast_mul]
      have eq2 : (App.rem T l).getD k 0 = ((ovR (T * y) U : Nat) : Int) := by
        rw [App.rem_getD (by rw [HL.out]; exact hlt), hy, HU.out, e2, Int.natCast_emod, Int.natCast_mul]
      have hz' := hz.next (by rw [HL.out]; exact hlt)
      have hzb := hz'.bd OK.out
      rw [eq1] at hzb hz'
      have HP1 := Lib.hid (product_any T y)
      have HO1 := Lib.hid (over_product T y U)
      have HE1 := Lib.hid eq1
      have HE2 := Lib.hid eq2
      have HTT := Lib.hid hT
      clear eq1 eq2 e1 e2 hy hx hc hT hz
      obtain ⟨qz, hqz⟩ : ∃ q, ovQ (T * y) U = q := ⟨_, rfl⟩
      obtain ⟨rz, hrz⟩ : ∃ q, ovR (T * y) U = q := ⟨_, rfl⟩
      rw [hqz] at HE1 hzb hz' HO1
      rw [hrz] at HE2 HO1
      clear hqz hrz
      generalize ovB (T * y) U = ob at *
      generalize hiW (T * y) = hi at *
      generalize loW (T * y) = lo at *
      go_wp2_with fail
      refine (HP1.out _ (by omega) (by omega)).mono ?_
      rintro e w4 ⟨rfl, hb4⟩
      go_wp2_with fail
      refine (HO1.out _ (by omega) (by omega) (by omega) (by omega)).mono ?_
      rintro e w5 ⟨rfl, hb5⟩
      obtain ⟨⟨v1, c1⟩, f1, ⟨v2, c2⟩, f2, ⟨v3, c3⟩, f3, hN⟩ := walk_round1 HTT.out hb4 hb5 hlt qz rz HE1.out HE2.out
      have HN := Lib.hid hN
      clear hN hb4 hb5
      go_wp2
      go_roundw
      case rel => exact ⟨k + 1, _, by omega, HN.out, hz', by omega, by omega, by go_num, rfl⟩
      case measure => simp [intOf]; omega
    · have ez : z = ((App.left T l : Nat) : Int) := hz.last (by rw [HL.out]; omega) OK.out
      have hle : App.left T l ≤ n := by have := App.left_le OK.out; rw [HL.out] at this; exact this
      have hT2 : Two w wr P Q n (fB T l 0) (gA T l n) := by
        refine hT.congr (fun i hi => ?_) (fun i hi => ?_)
        · unfold fB fA; rw [App.bump_zero, if_pos (by omega)]
        · unfold gA; rw [if_pos hi, if_pos (by omega)]
      have hrl : (App.rem T l).length = n := by rw [App.rem_length, HL.out]
      have hgq : ∀ i (h : i < (quotas (App.rem T l)).length), gA T l n i = (quotas (App.rem T l))[i] := fun i h => by
        rw [quotas_get]; unfold gA; rw [if_pos (by rw [quotas_length, hrl] at h; exact h)]
      have hgs : ∀ i (h : i < (sortQ (quotas (App.rem T l))).length), gB T l i = (sortQ (quotas (App.rem T l)))[i] := fun i h => by
        rw [sortQ_get]; rfl
      have hso := sort_any Q 0 n (quotas (App.rem T l)) wr (hT2.holds _ (by rw [quotas_length, hrl]) hgq) hT.lt (by rw [quotas_length, hrl]; omega)
      rw [quotas_length, hrl] at hso
      have hsd := fun m os => hT2.sorted (quotas (App.rem T l)) (sortQ (quotas (App.rem T l))) (by rw [quotas_length, hrl]) (by rw [sortQ_length, hrl]) hgq hgs m os
      have hbb := fun k i => fB_bd OK.out k i
      have hnx := fun k i (h : k < n) => fB_next T l k i (by rw [HL.out]; exact h)
      have hid := fun k (h : k < n) => (ord_rank (App.rem T l) k (by rw [hrl]; exact h)).2
      rw [hrl] at hid
      have HSO := Lib.hid hso
      have HSD := Lib.hid hsd
      have HBB := Lib.hid hbb
      have HNX := Lib.hid hnx
      have HID := Lib.hid hid
      have HFIN := Lib.hid (show ∀ i, i < n → fB T l (App.left T l) i = (App.app T l).getD i 0 from fun i _ => rfl)
      have HAL := Lib.hid (show (App.app T l).length = n by rw [App.app_length, HL.out])
      clear hso hsd hbb hnx hid hgq hgs hrl hT2 hT hz
      generalize App.left T l = m at *
      subst ez
      go_wp2_with fail
      refine HSO.out.mono ?_
      rintro e w3 ⟨rfl, nd, os, rfl⟩
      obtain ⟨w3, hw3⟩ : ∃ w3, sortWorldK encQ 2 wr Q 0 nd (sortQ (quotas (App.rem T l))).toArray os = w3 := ⟨_, rfl⟩
      have HT3 := Lib.hid (HSD.out nd os)
      rw [hw3] at HT3
      rw [hw3]
      clear hw3 HSO HSD
      go_wp2_with fail
      go_loopw [86] (fun i wr => ∃ k : Nat, k ≤ m ∧ Two w wr P Q n (fB T l k) (gB T l) ∧ i = .int .i64 k) (fun i _ => m - (intOf i).toNat)
      case atStart => exact ⟨0, Nat.zero_le _, HT3.out, rfl⟩
      case round =>
        obtain ⟨k2, hk2, hT, rfl⟩ := hrel
        by_cases hlt2 : k2 < m
        · have hid := HID.out k2 (by omega)
          have hnx := fun i => HNX.out k2 i (by omega)
          obtain ⟨j, hj⟩ : ∃ j, (App.ord (App.rem T l)).getD k2 0 = j := ⟨_, rfl⟩
          have hcq := hT.qs k2 (by omega)
          unfold gB at hcq
          rw [hj] at hcq hid hnx
          obtain ⟨rr, hrr⟩ : ∃ rr, (App.rem T l).getD j 0 = rr := ⟨_, rfl⟩
          rw [hrr] at hcq
          have hcp := hT.ps j hid
          have hbb := HBB.out k2 j
          obtain ⟨v, hv⟩ : ∃ v, fB T l k2 j = v := ⟨_, rfl⟩
          rw [hv] at hcp hbb
          have c1 := hcq.1.1
          have c2 := hcq.2.1
          have c3 := hcp.1
          have f3 := hcp.2
          have lP : P < wr.heap.size := by have := hT.pq; have := hT.lt; omega
          have lQ := hT.lt
          have hN : ∀ o, Two w ((wr.setCell ⟨P, j, none⟩ (.int .i64 (v + 1))).alloc o) P Q n (fB T l (k2 + 1)) (gB T l) := fun o =>
            (hT.setP j (v + 1) (fun i _ => by rw [hnx i, hv])).later ((Below.refl _ _).alloc (Nat.le_refl _) o)
          have HN := Lib.hid hN
          clear hN hT hcq hcp hnx hj hrr hv
          go_wp2
          go_roundw
          case rel => exact ⟨k2 + 1, by omega, HN.out _, by go_num⟩
          case measure => simp [intOf]; omega
        · have ek : k2 = m := by omega
          have HTL := Lib.hid hT
          have HEK := Lib.hid ek
          clear hT ek
          go_wp2
          go_ret2
          exact fin_parts HTL.out HEK.out HAL.out HFIN.out HPE.out

theorem fin_none (w : World) : Parts w [] false (.returned (.tuple #[.slice none 0 0, .bool false])) w := ⟨none, 0, rfl, ⟨fun _ => rfl, Nat.le_refl _⟩, Row.nil _ _, Below.refl _ _⟩

set_option maxHeartbeats 400000 in
theorem app_no (t S : Int) (sb : Bool) (ao : Option Addr) (cap n : Nat) (w : World) (h : sb = false ∨ S < 1 ∨ 1000000000000000 < S ∨ t < 0 ∨ 1000000000000000 < t)
    (hs : Calls Try.prog 43 #[.slice ao n cap] w fun e w' => e = .returned (.tuple #[.int .i64 S, .bool sb]) ∧ w = w') :
    Calls Try.prog 35 #[.int .i64 t, .slice ao n cap] w (Parts w [] false) := by
  have HS := Lib.hid hs
  clear hs
  rcases sb with _ | _
  · clear h
    go_enter Try.func35, Try.ntmps35
    go_wp2_with fail
    refine HS.out.mono ?_
    rintro e w' ⟨rfl, rfl⟩
    go_wp2_with fail
    go_ret2
    exact fin_none _
  · by_cases h1 : S < 1
    · clear h
      go_enter Try.func35, Try.ntmps35
      go_wp2_with fail
      refine HS.out.mono ?_
      rintro e w' ⟨rfl, rfl⟩
      go_wp2_with fail
      go_ret2
      exact fin_none _
    by_cases h2 : 1000000000000000 < S
    · clear h
      go_enter Try.func35, Try.ntmps35
      go_wp2_with fail
      refine HS.out.mono ?_
      rintro e w' ⟨rfl, rfl⟩
      go_wp2_with fail
      go_ret2
      exact fin_none _
    by_cases h3 : t < 0
    · clear h
      go_enter Try.func35, Try.ntmps35
      go_wp2_with fail
      refine HS.out.mono ?_
      rintro e w' ⟨rfl, rfl⟩
      go_wp2_with fail
      go_ret2
      exact fin_none _
    have h4 : 1000000000000000 < t := by
      rcases h with h | h
      · cases h
      · omega
    clear h
    go_enter Try.func35, Try.ntmps35
    go_wp2_with fail
    refine HS.out.mono ?_
    rintro e w' ⟨rfl, rfl⟩
    go_wp2_with fail
    go_ret2
    exact fin_none _

theorem okS_mono {M N : Int} {l : List Int} (h : okS M l = true) (hm : M ≤ N) : okS N l = true := by
  rw [okS_iff] at *; exact ⟨h.1, by omega⟩

/-- amount.Apportion -/
theorem apportion_any (t : Int) (ao : Option Addr) (cap n : Nat) (l : List Int) (w : World) (hn : n ≤ 1000000) (hl : l.length = n) (hr : Row w ao l) (h64 : I64s l) :
    Calls Try.prog 35 #[.int .i64 t, .slice ao n cap] w (Parts w (apV t l) (apB t l)) := by
  subst hl
  have hs := fun w hr => sum_any ao cap l w (by omega) hr h64
  by_cases h : apB t l = true
  · obtain ⟨ok, h1, h2⟩ := apB_iff.1 h
    have e : okS 4611686018427387903 l = true := okS_iff.2 ⟨ok.pos, by omega⟩
    obtain ⟨e1, e2⟩ := sum_yes e
    rw [e1, e2] at hs
    unfold apV
    rw [if_pos h, h]
    have o1 := ok.sum1
    have o2 := ok.t0
    obtain ⟨T, rfl⟩ := Int.eq_ofNat_of_zero_le o2
    obtain ⟨U, hU⟩ := Int.eq_ofNat_of_zero_le (show 0 ≤ l.sum by omega)
    rw [hU] at hs
    exact app_yes T U ao cap l.length l w hn rfl hr ok (by omega) hU (by omega) (by omega) (fun w h => hs w h)
  · have hb : apB t l = false := by simpa using h
    unfold apV
    rw [if_neg h, hb]
    refine app_no t (sumV l) (sumB l) ao cap l.length w ?_ (hs w hr)
    rcases hq : sumB l with _ | _
    · exact .inl rfl
    · right
      have hq' : okS 4611686018427387903 l = true := hq
      obtain ⟨_, e2⟩ := sum_yes hq'
      rw [e2]
      by_cases c : 1 ≤ l.sum ∧ l.sum ≤ 1000000000000000 ∧ 0 ≤ t ∧ t ≤ 1000000000000000
      · exact absurd (apB_iff.2 ⟨⟨c.2.2.1, (okS_iff.1 hq').1, c.1⟩, c.2.1, c.2.2.2⟩) h
      · omega

end Go.Proofs.Ytbkmcncakpmgkaa

/-! Contracts of the laws' helpers cut and weights: what each returns, in new memory. -/
namespace Go.Proofs.Ytbkmcncakpmgkaa
set_option linter.unusedVariables false
open Go.ChangeShapes Go.WideShapes Go.ChangeAt Go.RowKit

/-- the result: a slice that reads as l -/
def Slc (w : World) (l : List Int) (e : Ending) (w' : World) : Prop :=
  ∃ (ao : Option Addr) (cap : Nat), e = .returned (.slice ao l.length cap) ∧ ((ao = none → cap = 0) ∧ l.length ≤ cap) ∧ Row w' ao l ∧ Below w.heap.size w w'

def ints (l : List Int) : List Value := l.map (Value.int .i64)

theorem ints_one (l : List Int) : ∀ u ∈ ints l, u.oneCell' = true := by
  intro u hu
  simp only [ints, List.mem_map] at hu
  obtain ⟨z, _, rfl⟩ := hu
  rfl

/-- the cells of a slice, as append asks for them -/
theorem Row.news {w : World} {ad : Addr} {l : List Int} (h : Row w (some ad) l) : ∀ j u, (ints l)[j]? = some u → w.cell? (ad.add j) = some u := by
  intro j u hu
  have hj : j < l.length := by
    rcases Nat.lt_or_ge j l.length with h1 | h1
    · exact h1
    · rw [ints, List.getElem?_eq_none (by simpa using h1)] at hu; cases hu
  obtain ⟨b, off, e, _, hc⟩ := h j hj
  simp only [Option.some.injEq] at e
  subst e
  simp only [ints, List.getElem?_map, List.getElem?_eq_getElem hj, Option.map_some, Option.some.injEq] at hu
  subst hu
  have e : (Addr.add ⟨b, off, none⟩ j) = ⟨b, off + j, none⟩ := by unfold Addr.add; split <;> simp_all
  rw [e, hc]; simp [hj]

theorem Row.take {w : World} {ao : Option Addr} {l : List Int} (h : Row w ao l) (m : Nat) : Row w ao (l.take m) := by
  intro i hi
  rw [List.length_take] at hi
  obtain ⟨b, off, e, h1, hc⟩ := h i (by omega)
  refine ⟨b, off, e, h1, ?_⟩
  rw [hc]
  simp only [List.getD_eq_getElem?_getD, List.getElem?_take_of_lt (show i < m by omega)]

theorem Row.alloc {w : World} {ao : Option Addr} {l : List Int} (h : Row w ao l) (o : Obj) : Row (w.alloc o) ao l := h.later ((Below.refl _ _).alloc (Nat.le_refl _) o)

/-- what is owned reads as a list -/
theorem row_of_owns {w : World} {base e n : Nat} {v : Value} {l : List Int} (h : w.ownsRow base e 1 v n (ints l)) : ∃ ao cap, v = .slice ao l.length cap ∧ ((ao = none → cap = 0) ∧ l.length ≤ cap) ∧ Row w ao l := by
  obtain ⟨hlen, h | ⟨g, cap, cur, hv, _, hb, hcap, _, _, ht⟩⟩ := h
  · obtain ⟨rfl, rfl⟩ := h
    have : l = [] := by simp [ints] at hlen; exact hlen
    subst this
    exact ⟨none, 0, rfl, ⟨fun _ => rfl, Nat.le_refl _⟩, Row.nil _ _⟩
  · have hn : l.length = n := by simp [ints] at hlen; exact hlen
    refine ⟨some ⟨g, 0, none⟩, cap, by rw [hv, hn], ⟨(fun h => by cases h), by omega⟩, fun i hi => ⟨g, 0, rfl, ?_, ?_⟩⟩
    · rcases Nat.lt_or_ge g w.heap.size with h | h
      · exact h
      · rw [Array.getElem?_eq_none h] at hb; cases hb
    · rw [Nat.zero_add]
      have : cur[i]? = some (.int .i64 (l.getD i 0)) := by
        rw [← Array.getElem?_toList]
        have h1 : (cur.toList.take (n * 1))[i]? = (ints l)[i]? := by rw [ht]
        rw [List.getElem?_take_of_lt (by omega)] at h1
        rw [h1]; simp [ints, hi]
      simp [World.cell?, hb, this]

theorem owns_empty (w : World) (e : TypeId) : (w.alloc (.cells #[] e)).ownsRow w.heap.size e 1 (.slice (some ⟨w.heap.size, 0, none⟩) 0 0) 0 (ints []) :=
  ⟨by simp [ints], .inr ⟨w.heap.size, 0, #[], rfl, Nat.le_refl _, heap_alloc_new w _, Nat.le_refl _, by unfold maxLen; omega, by simp, by simp [ints]⟩⟩

theorem fin_slc {w w1 : World} {v : Value} {n e : Nat} {l : List Int} (ho : w1.ownsRow w.heap.size e 1 v n (ints l)) (hb : Below w.heap.size w w1) : Slc w l (.returned v) w1 := by
  obtain ⟨ao, cap, rfl, h1, h2⟩ := row_of_owns ho
  exact ⟨ao, cap, rfl, h1, h2, hb⟩

/-- one weight -/
def wgt (i : Nat) (x : Int) : Int := if i % 2 = 0 then pickZ x 10000000000001 % 100 else pickZ x 10000000000001

def wts (l : List Int) : List Int := (List.range (min l.length 40)).map fun i => wgt i (l.getD i 0)

theorem wgt_bd (i : Nat) (x : Int) : 0 ≤ wgt i x ∧ wgt i x ≤ 10000000000000 := by
  have h1 := pickZ_lo x 10000000000001 (by omega)
  have h2 := pickZ_hi x 10000000000001 (by omega)
  unfold wgt; split <;> omega

theorem wts_length (l : List Int) : (wts l).length = min l.length 40 := by simp [wts]
theorem wts_bd (l : List Int) : ∀ x ∈ wts l, 0 ≤ x ∧ x ≤ 10000000000000 := by
  intro x hx
  simp only [wts, List.mem_map] at hx
  obtain ⟨i, _, rfl⟩ := hx
  exact wgt_bd _ _

theorem wts_take (l : List Int) (k : Nat) (hk : k < min l.length 40) : (wts l).take (k + 1) = (wts l).take k ++ [wgt k (l.getD k 0)] := by
  have h : k < (wts l).length := by rw [wts_length]; exact hk
  rw [List.take_succ_eq_append_getElem h]
  simp [wts]

theorem ints_append (a b : List Int) : ints (a ++ b) = ints a ++ ints b := by simp [ints]

theorem rel_weights {w wr w1 : World} {l : List Int} {k : Nat} {x : Int} {v v' : Value} (hk : k < min l.length 40) (hb : Below w.heap.size w wr) (hx : wgt k (l.getD k 0) = x)
    (ho : w1.ownsRow w.heap.size 3 1 v' ((wts l).take k |>.length |> (· + 1)) (ints ((wts l).take k) ++ [.int .i64 x])) (o : Obj) (gr : (wr.alloc o).grownBy w1 v.ownBlock) (hv : wr.ownsRow w.heap.size 3 1 v ((wts l).take k).length (ints ((wts l).take k))) :
    w1.ownsRow w.heap.size 3 1 v' ((wts l).take (k + 1)).length (ints ((wts l).take (k + 1))) ∧ Below w.heap.size w w1 := by
  rw [wts_take l k hk, ints_append, hx]
  refine ⟨by simpa [ints] using ho, (hb.alloc hb.size o).grown gr (by have := hb.size; simp; omega) ?_⟩
  intro j hj
  obtain ⟨_, h | ⟨g, cap, cur, rfl, h1, _⟩⟩ := hv
  · rw [h.1] at hj; simp [Value.ownBlock] at hj
  · simp [Value.ownBlock] at hj; omega

end Go.Proofs.Ytbkmcncakpmgkaa
