/-
  What Apportion's loops keep: two rows of the call's own, the parts and the quotas; and the plain numbers of its loops.
-/
import Derived.Test.YtbefbodihfijbaaBefore
import Derived.Test.YtbefbodihfijbaaAmtB
import Derived.Test.YtbefbodihfijbaaAppMath
import Derived.OwnWalk
namespace Go.Proofs.Ytbefbodihfijbaa
set_option linter.unusedVariables false
open Go.ChangeShapes Go.WideShapes Go.ChangeAt Go.RowKit
open Go.Sort (grow HoldsK)

theorem Try.info3 : (Try.prog.info? 3).map (fun i => (i.zero, i.size, i.bytes)) = some (some (.int .i64 0), 1, 8) := by kernel_rfl
theorem Try.info53 : (Try.prog.info? 53).map (fun i => (i.zero, i.size, i.bytes)) = some (some (.agg #[.int .i64 0, .int .i64 0]), 2, 16) := by kernel_rfl

/-- the cell holds v, and may be written -/
def CellZ (w : World) (b o : Nat) (v : Int) : Prop := w.cell? ⟨b, o, none⟩ = some (.int .i64 v) ∧ w.frozen? ⟨b, o, none⟩ = false

structure Two (w wr : World) (P Q n : Nat) (f : Nat → Int) (g : Nat → Int × Int) : Prop where
  below : Below P w wr
  pq : P < Q
  lt : Q < wr.heap.size
  ps : ∀ i, i < n → CellZ wr P i (f i)
  qs : ∀ i, i < n → CellZ wr Q (i * 2) (g i).1 ∧ CellZ wr Q (i * 2 + 1) (g i).2

theorem CellZ.later {w w' : World} {b o : Nat} {v : Int} (h : CellZ w b o v) (hb : Below w.heap.size w w') (hs : b < w.heap.size) : CellZ w' b o v :=
  ⟨by rw [hb.cell (p := ⟨b, o, none⟩) hs]; exact h.1, by rw [hb.frozen (p := ⟨b, o, none⟩) hs]; exact h.2⟩

theorem CellZ.set {w : World} {b o b' o' : Nat} {v : Int} {u : Int} (h : CellZ w b o v) : CellZ (w.setCell ⟨b', o', none⟩ (.int .i64 u)) b o (if b' = b ∧ o' = o then u else v) := by
  refine ⟨?_, by rw [World.frozen?_setCell]; exact h.2⟩
  by_cases e : b' = b ∧ o' = o
  · obtain ⟨rfl, rfl⟩ := e
    rw [if_pos ⟨rfl, rfl⟩, World.cell?_setCell_same _ _ _ (u := .int .i64 v) h.1]
  · rw [if_neg e, World.cell?_setCell_other _ _ _ _ (by intro h; simp only [Addr.mk.injEq, and_true] at h; exact e h)]; exact h.1

theorem Two.later {w wr w' : World} {P Q n : Nat} {f : Nat → Int} {g : Nat → Int × Int} (h : Two w wr P Q n f g) (hb : Below wr.heap.size wr w') : Two w w' P Q n f g :=
  ⟨bch h.below hb (by have := h.pq; have := h.lt; omega), h.pq, Nat.lt_of_lt_of_le h.lt hb.size,
    fun i hi => (h.ps i hi).later hb (by have := h.pq; have := h.lt; omega), fun i hi => ⟨(h.qs i hi).1.later hb h.lt, (h.qs i hi).2.later hb h.lt⟩⟩

theorem size_setCell (w : World) (a : Addr) (v : Value) : (w.setCell a v).heap.size = w.heap.size := by simp

theorem Two.setP {w wr : World} {P Q n : Nat} {f f' : Nat → Int} {g : Nat → Int × Int} (h : Two w wr P Q n f g) (k : Nat) (u : Int) (hf : ∀ i, i < n → f' i = if k = i then u else f i) :
    Two w (wr.setCell ⟨P, k, none⟩ (.int .i64 u)) P Q n f' g := by
  have pq := h.pq
  refine ⟨h.below.setCell (p := ⟨P, k, none⟩) (Nat.le_refl _) _, h.pq, by rw [size_setCell]; exact h.lt, fun i hi => ?_, fun i hi => ⟨?_, ?_⟩⟩
  · have := (h.ps i hi).set (b' := P) (o' := k) (u := u)
    rw [hf i hi]; simpa using this
  · have := (h.qs i hi).1.set (b' := P) (o' := k) (u := u)
    rw [if_neg (by omega)] at this; exact this
  · have := (h.qs i hi).2.set (b' := P) (o' := k) (u := u)
    rw [if_neg (by omega)] at this; exact this

theorem Two.setQ {w wr : World} {P Q n : Nat} {f : Nat → Int} {g g' : Nat → Int × Int} (h : Two w wr P Q n f g) (k : Nat) (u v : Int) (hg : ∀ i, i < n → g' i = if k = i then (u, v) else g i) :
    Two w ((wr.setCell ⟨Q, k * 2, none⟩ (.int .i64 u)).setCell ⟨Q, k * 2 + 1, none⟩ (.int .i64 v)) P Q n f g' := by
  have pq := h.pq
  refine ⟨(h.below.setCell (p := ⟨Q, k * 2, none⟩) (Nat.le_of_lt pq) _).setCell (p := ⟨Q, k * 2 + 1, none⟩) (Nat.le_of_lt pq) _, h.pq, by rw [size_setCell, size_setCell]; exact h.lt, fun i hi => ?_, fun i hi => ⟨?_, ?_⟩⟩
  · have := ((h.ps i hi).set (b' := Q) (o' := k * 2) (u := u)).set (b' := Q) (o' := k * 2 + 1) (u := v)
    rw [if_neg (by omega), if_neg (by omega)] at this; exact this
  · have := ((h.qs i hi).1.set (b' := Q) (o' := k * 2) (u := u)).set (b' := Q) (o' := k * 2 + 1) (u := v)
    rw [if_neg (by omega)] at this
    rw [hg i hi]
    by_cases e : k = i
    · subst e; rw [if_pos rfl]; simpa using this
    · rw [if_neg e]; rw [if_neg (by omega)] at this; exact this
  · have := ((h.qs i hi).2.set (b' := Q) (o' := k * 2) (u := u)).set (b' := Q) (o' := k * 2 + 1) (u := v)
    rw [hg i hi]
    by_cases e : k = i
    · subst e; rw [if_pos rfl]; simpa using this
    · rw [if_neg e]; rw [if_neg (by omega), if_neg (by omega)] at this; exact this

theorem Two.congr {w wr : World} {P Q n : Nat} {f f' : Nat → Int} {g g' : Nat → Int × Int} (h : Two w wr P Q n f g) (hf : ∀ i, i < n → f' i = f i) (hg : ∀ i, i < n → g' i = g i) : Two w wr P Q n f' g' :=
  ⟨h.below, h.pq, h.lt, fun i hi => by rw [hf i hi]; exact h.ps i hi, fun i hi => by rw [hg i hi]; exact h.qs i hi⟩

/-- both rows as they are made -/
theorem Two.made {w w1 w2 : World} {n : Nat} (o1 : w1.ownsRow w.heap.size 3 1 (.slice (some ⟨w.heap.size, 0, none⟩) n n) n (madeCells (Value.int .i64 0).cells (n * 1)).toList) (g1 : w.grownBy w1 none)
    (o2 : w2.ownsRow w1.heap.size 53 2 (.slice (some ⟨w1.heap.size, 0, none⟩) n n) n (madeCells (Value.agg #[.int .i64 0, .int .i64 0]).cells (n * 2)).toList) (g2 : w1.grownBy w2 none) :
    Two w w2 w.heap.size w1.heap.size n (fun _ => 0) (fun _ => (0, 0)) := by
  obtain ⟨_, h1 | ⟨p, cap, cur, e1, _, b1, _, _, s1, t1⟩⟩ := o1
  · simp at h1
  obtain ⟨_, h2 | ⟨q, cap', cur', e2, _, b2, _, _, s2, t2⟩⟩ := o2
  · simp at h2
  simp only [Value.slice.injEq, Option.some.injEq, Addr.mk.injEq, and_true, true_and] at e1 e2
  obtain ⟨rfl, rfl⟩ := e1
  obtain ⟨rfl, rfl⟩ := e2
  have lt1 : w.heap.size < w1.heap.size := by
    rcases Nat.lt_or_ge w.heap.size w1.heap.size with h | h
    · exact h
    · rw [Array.getElem?_eq_none h] at b1; cases b1
  have lt2 : w1.heap.size < w2.heap.size := by
    rcases Nat.lt_or_ge w1.heap.size w2.heap.size with h | h
    · exact h
    · rw [Array.getElem?_eq_none h] at b2; cases b2
  have b1' : w2.heap[w.heap.size]? = some (.cells cur 3 (0, 0)) := by rw [g2.block _ lt1 (by simp)]; exact b1
  rw [List.take_of_length_le (by simp [s1])] at t1
  rw [List.take_of_length_le (by simp [s2])] at t2
  have c1 : ∀ i, i < n → cur[i]? = some (.int .i64 0) := fun i hi => by
    rw [← Array.getElem?_toList, t1, Array.getElem?_toList]
    simp [madeCells, hi, Nat.mod_one, Value.cells]
  have c2 : ∀ i, i < n * 2 → cur'[i]? = some (.int .i64 0) := fun i hi => by
    rw [← Array.getElem?_toList, t2, Array.getElem?_toList]
    have : i % 2 = 0 ∨ i % 2 = 1 := by omega
    rcases this with h | h <;> simp [madeCells, hi, h, Value.cells]
  refine ⟨((Below.refl _ _).grown g1 (Nat.le_refl _) (by simp)).grown g2 (Nat.le_of_lt lt1) (by simp), lt1, lt2, fun i hi => ⟨?_, ?_⟩, fun i hi => ⟨⟨?_, ?_⟩, ⟨?_, ?_⟩⟩⟩
  · simp [World.cell?, b1', c1 i hi]
  · simp [World.frozen?, b1']
  · simp [World.cell?, b2, c2 (i * 2) (by omega)]
  · simp [World.frozen?, b2]
  · simp [World.cell?, b2, c2 (i * 2 + 1) (by omega)]
  · simp [World.frozen?, b2]

/-- the quotas as the sort takes them -/
theorem Two.holds {w wr : World} {P Q n : Nat} {f : Nat → Int} {g : Nat → Int × Int} (h : Two w wr P Q n f g) (d : List (Int × Int)) (hd : d.length = n) (hg : ∀ i (hi : i < d.length), g i = d[i]) : HoldsK encQ 2 wr Q 0 d.toArray := by
  intro j hj
  rw [Go.Sort.size_flatK] at hj
  rw [Go.Sort.get_flatK _ _ _ _ hj]
  have hj' : j / 2 < d.length := by simp at hj; omega
  have hq := h.qs (j / 2) (by omega)
  rw [hg _ hj'] at hq
  have e : d.toArray[j / 2]! = d[j / 2] := by simp [hj']
  rw [e]
  have : j % 2 = 0 ∨ j % 2 = 1 := by omega
  rcases this with h2 | h2
  · have ej : 0 + j = j / 2 * 2 := by omega
    rw [h2, ej]
    exact hq.1
  · have ej : 0 + j = j / 2 * 2 + 1 := by omega
    rw [h2, ej]
    exact hq.2

theorem heap_sortWorldK (enc : Int × Int → List Value) (k : Nat) (w : World) (blk off m : Nat) (d : Array (Int × Int)) (os : Array Obj) {b : Nat} (hb : b < w.heap.size) (hne : b ≠ blk) : (sortWorldK enc k w blk off m d os).heap[b]? = w.heap[b]? := by
  unfold sortWorldK
  rw [Go.Sort.heap_grow_old _ _ (by unfold Go.Sort.putRowK; rw [Go.Sort.size_putRow]; exact hb)]
  unfold Go.Sort.putRowK Go.Sort.putRow Go.Sort.mapBlock
  simp only [Array.getElem?_modify]
  rw [if_neg (fun h => hne h.symm)]
  rfl

/-- behind the sort -/
theorem Two.sorted {w wr : World} {P Q n : Nat} {f : Nat → Int} {g g' : Nat → Int × Int} (h : Two w wr P Q n f g) (d d' : List (Int × Int)) (hd : d.length = n) (hd' : d'.length = n) (hg : ∀ i (hi : i < d.length), g i = d[i])
    (hg' : ∀ i (hi : i < d'.length), g' i = d'[i]) (m : Nat) (os : Array Obj) : Two w (sortWorldK encQ 2 wr Q 0 m d'.toArray os) P Q n f g' := by
  have hH := h.holds d hd hg
  have hH' := holdsK_sortWorldK_c encQ 2 wr Q 0 d.toArray d'.toArray m os hH h.lt (by simp [hd, hd'])
  have hsz := size_sortWorldK_c encQ 2 wr Q 0 m d'.toArray os
  have pq := h.pq
  have lt := h.lt
  have hb : ∀ b, b < Q → (sortWorldK encQ 2 wr Q 0 m d'.toArray os).heap[b]? = wr.heap[b]? := fun b hb => heap_sortWorldK encQ 2 wr Q 0 m d'.toArray os (by omega) (by omega)
  refine ⟨h.below.trans ⟨rfl, rfl, rfl, hsz, fun k hk => hb k (by omega)⟩, pq, Nat.lt_of_lt_of_le lt hsz, fun i hi => ⟨?_, ?_⟩, fun i hi => ?_⟩
  · rw [World.cell?_of_block (w := wr) (hb P pq)]; exact (h.ps i hi).1
  · rw [World.frozen?_of_block (w := wr) (hb P pq)]; exact (h.ps i hi).2
  · have i' : i < d'.length := by omega
    have e : d'.toArray[i]! = d'[i] := by simp [i']
    have c0 := hH'.cell (i := i) (c := 0) (by simpa using i') (by omega)
    have c1 := hH'.cell (i := i) (c := 1) (by simpa using i') (by omega)
    rw [e] at c0 c1
    rw [hg' i i']
    rw [Nat.zero_add] at c0 c1
    exact ⟨c0, c1⟩

/-- the quotas, by index -/
def quotas (r : List Int) : List (Int × Int) := (List.range r.length).map fun (i : Nat) => ((i : Int), r.getD i 0)
theorem quotas_length (r : List Int) : (quotas r).length = r.length := by simp [quotas]
theorem quotas_get (r : List Int) (i : Nat) (hi : i < (quotas r).length) : (quotas r)[i] = ((i : Int), r.getD i 0) := by simp [quotas]

theorem sortQ_quotas (r : List Int) : sortQ (quotas r) = (App.ord r).map fun (i : Nat) => ((i : Int), r.getD i 0) := by
  unfold sortQ quotas App.ord
  rw [List.map_mergeSort]
  intro a _ b _
  rw [ltBefore]
  unfold App.less
  congr 1
  rw [Bool.eq_iff_iff]
  simp only [Bool.or_eq_true, Bool.and_eq_true, decide_eq_true_eq]
  omega

theorem sortQ_length (r : List Int) : (sortQ (quotas r)).length = r.length := by rw [sortQ_quotas, List.length_map, App.ord_length]
theorem sortQ_get (r : List Int) (i : Nat) (hi : i < (sortQ (quotas r)).length) : (sortQ (quotas r))[i] = (((((App.ord r).getD i 0 : Nat)) : Int), r.getD ((App.ord r).getD i 0) 0) := by
  have h1 : i < (App.ord r).length := by rw [App.ord_length]; rw [sortQ_length] at hi; exact hi
  have : (App.ord r).getD i 0 = (App.ord r)[i] := by simp [h1]
  rw [this]
  simp only [sortQ_quotas, List.getElem_map]

theorem ord_rank (r : List Int) (k : Nat) (hk : k < r.length) : App.rank r ((App.ord r).getD k 0) = k ∧ (App.ord r).getD k 0 < r.length := by
  have h1 : k < (App.ord r).length := by rw [App.ord_length]; exact hk
  have : (App.ord r).getD k 0 = (App.ord r)[k] := by simp [h1]
  rw [this]
  exact ⟨App.rank_ord r k h1, App.ord_lt r k h1⟩

end Go.Proofs.Ytbefbodihfijbaa
