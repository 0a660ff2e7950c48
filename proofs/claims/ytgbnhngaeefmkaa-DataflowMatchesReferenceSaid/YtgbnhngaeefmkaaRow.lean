import Derived.Test.YtgbnhngaeefmkaaFl8
import Derived.OwnWalk
import Derived.Laws.AppendOwnNone
import Derived.Maps.AppendAt
import Derived.WalkLawsBesides
import Derived.WalkSpells

/-! Slices of strings: what is owned reads as such; the shape of a result. -/
namespace Go.Proofs.Ytgbnhngaeefmkaa
set_option linter.unusedVariables false
set_option linter.unusedSimpArgs false
open Go.RowKit

/-- the slice at ao reads as l, k cells an element -/
def RowK {α : Type} (k : Nat) (enc : α → List Value) (w : World) (ao : Option Addr) (l : List α) : Prop :=
  ∀ i x, l[i]? = some x → ∃ b off, ao = some ⟨b, off, none⟩ ∧ b < w.heap.size ∧ ∀ j v, (enc x)[j]? = some v → w.cell? ⟨b, off + i * k + j, none⟩ = some v

theorem RowK.nil {α : Type} (k : Nat) (enc : α → List Value) (w : World) (ao : Option Addr) : RowK k enc w ao [] := fun i x h => by simp at h

theorem RowK.later {α : Type} {k : Nat} {enc : α → List Value} {w w' : World} {ao : Option Addr} {l : List α} (h : RowK k enc w ao l) (hb : Below w.heap.size w w') : RowK k enc w' ao l := fun i x hx => by
  obtain ⟨b, off, e, h1, h2⟩ := h i x hx
  exact ⟨b, off, e, Nat.lt_of_lt_of_le h1 hb.size, fun j v hv => by rw [hb.cell (p := ⟨b, off + i * k + j, none⟩) h1]; exact h2 j v hv⟩

theorem RowK.alloc {α : Type} {k : Nat} {enc : α → List Value} {w : World} {ao : Option Addr} {l : List α} (h : RowK k enc w ao l) (o : Obj) : RowK k enc (w.alloc o) ao l := h.later ((Below.refl _ _).alloc (Nat.le_refl _) o)

/-- the flat list of the cells, element by element -/
theorem flat_get {α : Type} {k : Nat} {enc : α → List Value} (hk : ∀ x, (enc x).length = k) : ∀ (l : List α) (i : Nat) (x : α) (j : Nat) (v : Value), l[i]? = some x → (enc x)[j]? = some v → (l.flatMap enc)[i * k + j]? = some v
  | [], i, x, j, v, h, _ => by simp at h
  | y :: r, 0, x, j, v, h, hv => by
    simp at h; subst h
    have hj : j < (enc y).length := (List.getElem?_eq_some_iff.1 hv).1
    rw [List.flatMap_cons, Nat.zero_mul, Nat.zero_add, List.getElem?_append_left hj]; exact hv
  | y :: r, i + 1, x, j, v, h, hv => by
    have e : (i + 1) * k + j = (enc y).length + (i * k + j) := by rw [hk y, Nat.succ_mul]; omega
    rw [List.flatMap_cons, e, List.getElem?_append_right (by omega), Nat.add_sub_cancel_left]
    exact flat_get hk r i x j v (by simpa using h) hv

theorem flat_length {α : Type} {k : Nat} {enc : α → List Value} (hk : ∀ x, (enc x).length = k) (l : List α) : (l.flatMap enc).length = l.length * k := by
  induction l with
  | nil => simp
  | cons a r ih => rw [List.flatMap_cons, List.length_append, ih, hk a, List.length_cons, Nat.succ_mul]; omega

theorem flat_snoc {α : Type} (enc : α → List Value) (l : List α) (x : α) : (l ++ [x]).flatMap enc = l.flatMap enc ++ enc x := by simp

/-- what is owned reads as a row -/
theorem rowK_of_owns {α : Type} {k : Nat} {enc : α → List Value} (hk : ∀ x, (enc x).length = k) (hk0 : 0 < k) {w : World} {base e n : Nat} {v : Value} {l : List α} (h : w.ownsRow base e k v n (l.flatMap enc)) :
    ∃ ao cap, v = .slice ao l.length cap ∧ ((ao = none → cap = 0) ∧ l.length ≤ cap) ∧ RowK k enc w ao l := by
  obtain ⟨hlen, h | ⟨g, cap, cur, hv, _, hb, hcap, _, _, ht⟩⟩ := h
  · obtain ⟨rfl, rfl⟩ := h
    rw [flat_length hk] at hlen
    have : l = [] := by
      rcases l with _ | ⟨a, r⟩
      · rfl
      · simp [Nat.succ_mul] at hlen; omega
    subst this
    exact ⟨none, 0, rfl, ⟨fun _ => rfl, Nat.le_refl _⟩, RowK.nil _ _ _ _⟩
  · rw [flat_length hk] at hlen
    have hn : l.length = n := Nat.eq_of_mul_eq_mul_right hk0 hlen
    refine ⟨some ⟨g, 0, none⟩, cap, by rw [hv, hn], ⟨(fun h => by cases h), by omega⟩, fun i x hx => ⟨g, 0, rfl, ?_, fun j v hv => ?_⟩⟩
    · rcases Nat.lt_or_ge g w.heap.size with h | h
      · exact h
      · rw [Array.getElem?_eq_none h] at hb; cases hb
    · rw [Nat.zero_add]
      have h1 := flat_get hk l i x j v hx hv
      rw [← ht] at h1
      have h2 : i * k + j < n * k := by
        have := (List.getElem?_eq_some_iff.1 h1).1
        rw [List.length_take] at this; omega
      rw [List.getElem?_take_of_lt h2, Array.getElem?_toList] at h1
      simp [World.cell?, hb, h1]

/-- the result: a slice that reads as l -/
def SlcK {α : Type} (k : Nat) (enc : α → List Value) (w : World) (l : List α) (e : Ending) (w' : World) : Prop :=
  ∃ (ao : Option Addr) (cap : Nat), e = .returned (.slice ao l.length cap) ∧ ((ao = none → cap = 0) ∧ l.length ≤ cap) ∧ RowK k enc w' ao l ∧ Below w.heap.size w w'

/-- the cells of a new block, as append asks for them -/
theorem cells_new (W : World) (cs : List Value) (t : TypeId) : ∀ j u, cs[j]? = some u → (W.alloc (.cells cs.toArray t)).cell? ((⟨W.heap.size, 0, none⟩ : Addr).add j) = some u := by
  intro j u hu
  have e : (Addr.add ⟨W.heap.size, 0, none⟩ j) = ⟨W.heap.size, j, none⟩ := by unfold Addr.add; split <;> simp_all
  rw [e]
  unfold World.cell?
  rw [show (⟨W.heap.size, j, none⟩ : Addr).block = W.heap.size from rfl, heap_alloc_new W]
  simpa using hu

theorem cells_at (W : World) (cs : List Value) (t : TypeId) (a : Nat) (ha : W.heap.size = a) : ∀ j u, cs[j]? = some u → (W.alloc (.cells cs.toArray t)).cell? ((⟨a, 0, none⟩ : Addr).add j) = some u := by
  subst ha; exact cells_new W cs t

theorem owns_ne {w : World} {base e k n : Nat} {v : Value} {xs : List Value} (h : w.ownsRow base e k v n xs) (g : Nat) (hg : w.heap.size ≤ g) : v.ownBlock ≠ some g := by
  obtain ⟨_, h | ⟨g', cap, cur, rfl, h1, hb, _⟩⟩ := h
  · rw [h.1]; simp [Value.ownBlock]
  · have := (Array.getElem?_eq_some_iff.1 hb).1
    simp [Value.ownBlock]; omega

/-- a cell behind an append onto another row -/
theorem keep_cell {X w1 : World} {v : Value} {g o : Nat} {u : Value} (gr : X.grownBy w1 v.ownBlock) (hc : X.cell? ⟨g, o, none⟩ = some u) (hne : v.ownBlock ≠ some g) : w1.cell? ⟨g, o, none⟩ = some u := by
  have hl := World.block_lt_of_cell? _ _ hc
  rw [World.cell?_of_block (w := X) (gr.block g hl (fun h => hne h.symm))]; exact hc

theorem cell_box (W : World) (cs : Array Value) (t : TypeId) (o : Nat) (u : Value) (hu : cs[o]? = some u) (a : Nat) (ha : W.heap.size = a) : (W.alloc (.cells cs t)).cell? ⟨a, o, none⟩ = some u := by
  subst ha
  unfold World.cell?
  rw [show (⟨W.heap.size, o, none⟩ : Addr).block = W.heap.size from rfl, heap_alloc_new W]
  simpa using hu

theorem cell_up {W : World} {g o : Nat} {u : Value} (h : W.cell? ⟨g, o, none⟩ = some u) (ob : Obj) : (W.alloc ob).cell? ⟨g, o, none⟩ = some u := by
  rw [World.cell?_of_block (w := W) (Below.heap_alloc W ob g (World.block_lt_of_cell? _ _ h))]; exact h

/-- a step of an append onto the call's own row -/
theorem grown_own {B : Nat} {w X w1 : World} {e k : Nat} {v : Value} {n : Nat} {xs : List Value} (hX : Below B w X) (hB : B ≤ w.heap.size) (ho : X.ownsRow B e k v n xs) (gr : X.grownBy w1 v.ownBlock) : Below B w w1 :=
  hX.grown gr (Nat.le_trans hB hX.size) (fun j hj => by
    obtain ⟨_, h | ⟨g, cap, cur, rfl, h1, _⟩⟩ := ho
    · rw [h.1] at hj; simp [Value.ownBlock] at hj
    · simp [Value.ownBlock] at hj; omega)

theorem flat_of {α : Type} {k : Nat} {enc : α → List Value} (hk : ∀ x, (enc x).length = k) (hk0 : 0 < k) : ∀ (l : List α) (j : Nat) (u : Value), (l.flatMap enc)[j]? = some u → ∃ i x r, l[i]? = some x ∧ (enc x)[r]? = some u ∧ j = i * k + r
  | [], j, u, h => by simp at h
  | y :: t, j, u, h => by
    rw [List.flatMap_cons] at h
    rcases Nat.lt_or_ge j k with hj | hj
    · rw [List.getElem?_append_left (by rw [hk]; exact hj)] at h
      exact ⟨0, y, j, rfl, h, by omega⟩
    · rw [List.getElem?_append_right (by rw [hk]; exact hj), hk] at h
      obtain ⟨i, x, r, h1, h2, h3⟩ := flat_of hk hk0 t _ u h
      exact ⟨i + 1, x, r, by simpa using h1, h2, by rw [Nat.succ_mul]; omega⟩

theorem RowK.news {α : Type} {k : Nat} {enc : α → List Value} (hk : ∀ x, (enc x).length = k) (hk0 : 0 < k) {w : World} {ad : Addr} {l : List α} (h : RowK k enc w (some ad) l) : ∀ j u, (l.flatMap enc)[j]? = some u → w.cell? (ad.add j) = some u := by
  intro j u hu
  obtain ⟨i, x, r, h1, h2, rfl⟩ := flat_of hk hk0 l j u hu
  obtain ⟨b, off, e, _, hc⟩ := h i x h1
  simp only [Option.some.injEq] at e
  subst e
  have e : (Addr.add ⟨b, off, none⟩ (i * k + r)) = ⟨b, off + i * k + r, none⟩ := by unfold Addr.add; split <;> simp_all [Nat.add_assoc]
  rw [e]; exact hc r u h2

theorem flat_one {α : Type} {enc : α → List Value} (h : ∀ x, ∀ u ∈ enc x, u.oneCell' = true) (l : List α) : ∀ u ∈ l.flatMap enc, u.oneCell' = true := by
  intro u hu
  rw [List.mem_flatMap] at hu
  obtain ⟨x, _, hx⟩ := hu
  exact h x u hx

theorem owns_emptyK {α : Type} (enc : α → List Value) (k : Nat) (w : World) (e : TypeId) : (w.alloc (.cells #[] e)).ownsRow w.heap.size e k (.slice (some ⟨w.heap.size, 0, none⟩) 0 0) 0 (([] : List α).flatMap enc) :=
  ⟨by simp, .inr ⟨w.heap.size, 0, #[], rfl, Nat.le_refl _, heap_alloc_new w _, Nat.le_refl _, by unfold maxLen; omega, by simp, by simp⟩⟩

/-- append of a whole slice, nil or not, onto the call's own row -/
theorem wpList_append_row {α : Type} {P : Program} {w : World} {ops : Array Oper} {rest : List Oper} {o : Oper} {a : Act} {Q : Exit → Act → World → Prop} (hgd : o.guard = none) (s x : Operand) (t : TypeId)
    (ho : o.op = .call { callee := .builtin .append, args := #[s, x], argTypes := #[t, t] })
    (base : Nat) (e : TypeId) (i : TypeInfo) (z : Value) (size bytes : Nat) (ht : P.underlying t = some (.slice e)) (hi : P.info? e = some i) (hz : i.zero = some z)
    (hsize : i.size = size) (hby : i.bytes = bytes) (hzs : z.cells.size = size) (hsz : 0 < size)
    (v : Value) (n : Nat) (xs : List Value) (hs : a.eval s = v) (hown : w.ownsRow base e size v n xs)
    (enc : α → List Value) (hk : ∀ x, (enc x).length = size) (h1 : ∀ x, ∀ u ∈ enc x, u.oneCell' = true) (bo : Option Addr) (m c : Nat) (l : List α) (hx : a.eval x = .slice bo m c) (hl : l.length = m) (hc : (bo = none → c = 0) ∧ m ≤ c) (hrow : RowK size enc w bo l)
    (h63 : n + m ≤ maxLen) (hbytes : (n + m) * bytes ≤ 140737488355328) (hbase : base ≤ w.heap.size)
    (h : ∀ v' w', w'.ownsRow base e size v' (n + m) (xs ++ l.flatMap enc) → w.grownBy w' v.ownBlock → wpList P ops Q rest (a.put o.dst v') w') : wpList P ops Q (o :: rest) a w := by
  rcases bo with _ | ad
  · obtain rfl := hc.1 rfl
    obtain rfl : m = 0 := by omega
    obtain rfl : l = [] := List.eq_nil_of_length_eq_zero hl
    exact wpList_append_own_none hgd s x t ho base e i size ht hi v n xs hs hown hx (h v w (by simpa using hown) (World.grownBy.refl _ _))
  · exact wpList_append_own w hgd s x t ho base e i z size bytes ht hi hz hsize hby hzs hsz v n xs hs hown ad m c (l.flatMap enc) hx (by rw [flat_length hk, hl]) (hrow.news hk hsz) (flat_one h1 l) h63 hbytes hbase (fun v' w' h2 h3 _ => h v' w' h2 h3)


def encT (s : ByteArray) : List Value := [.string s]
theorem encT_len (x : ByteArray) : (encT x).length = 1 := rfl
theorem encT_one (x : ByteArray) : ∀ u ∈ encT x, u.oneCell' = true := by intro u hu; simp [encT] at hu; subst hu; rfl
theorem Try.infoStr : (Try.prog.info? 9).map (fun i => (i.zero, i.size, i.bytes)) = some (some (.string (ByteArray.mk #[])), 1, 16) := by kernel_rfl

/-- the cell of a string -/
theorem RowK.str {w : World} {ao : Option Addr} {l : List ByteArray} (h : RowK 1 encT w ao l) {i : Nat} (hi : i < l.length) : ∃ b off, ao = some ⟨b, off, none⟩ ∧ b < w.heap.size ∧ w.cell? ⟨b, off + i, none⟩ = some (.string l[i]) := by
  obtain ⟨b, off, e, h1, h2⟩ := h i l[i] (List.getElem?_eq_getElem hi)
  exact ⟨b, off, e, h1, by simpa using h2 0 _ rfl⟩

theorem fin_T {w w1 : World} {v : Value} {n e : Nat} {l : List ByteArray} (ho : w1.ownsRow w.heap.size e 1 v n (l.flatMap encT)) (hb : Below w.heap.size w w1) : SlcK 1 encT w l (.returned v) w1 := by
  obtain ⟨ao, cap, rfl, h1, h2⟩ := rowK_of_owns encT_len (by decide) ho
  exact ⟨ao, cap, rfl, h1, h2, hb⟩

end Go.Proofs.Ytgbnhngaeefmkaa
