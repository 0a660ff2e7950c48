/-
  The contract of the reference's Apportion: the same parts as the program's.
-/
import Derived.Test.YtbefbodihfijbaaAppWalk
import Derived.Test.YtbefbodihfijbaaRefB
import Derived.Test.YtbefbodihfijbaaCut
import Derived.Maps.AppendAt
namespace Go.Proofs.Ytbefbodihfijbaa
set_option linter.unusedVariables false
open Go.ChangeShapes Go.WideShapes Go.ChangeAt Go.RowKit

/-- two rows of the call's own, apart from each other -/
structure Duo (w wr : World) (v8 v9 : Value) (p r : List Int) : Prop where
  o8 : wr.ownsRow w.heap.size 3 1 v8 p.length (ints p)
  o9 : wr.ownsRow w.heap.size 3 1 v9 r.length (ints r)
  ap : ∀ g, v8.ownBlock = some g → v9.ownBlock ≠ some g
  below : Below w.heap.size w wr

theorem owns_lt {w : World} {base e n g : Nat} {v : Value} {xs : List Value} (h : w.ownsRow base e 1 v n xs) (hg : v.ownBlock = some g) : base ≤ g ∧ g < w.heap.size := by
  obtain ⟨_, h | ⟨g', cap, cur, rfl, hb, hh, _⟩⟩ := h
  · rw [h.1] at hg; simp [Value.ownBlock] at hg
  · simp [Value.ownBlock] at hg
    subst hg
    refine ⟨hb, ?_⟩
    rcases Nat.lt_or_ge g' w.heap.size with h | h
    · exact h
    · rw [Array.getElem?_eq_none h] at hh; cases hh

theorem Duo.start (w : World) : Duo w w (.slice none 0 0) (.slice none 0 0) [] [] :=
  ⟨World.ownsRow_nil _ _ _ _, World.ownsRow_nil _ _ _ _, fun g h => by simp [Value.ownBlock] at h, Below.refl _ _⟩

theorem Duo.push8 {w wr w1 : World} {v8 v9 v' : Value} {p r : List Int} {x : Int} {o : Obj} (h : Duo w wr v8 v9 p r) (ho : w1.ownsRow w.heap.size 3 1 v' (p.length + 1) (ints p ++ [.int .i64 x]))
    (gr : (wr.alloc o).grownBy w1 v8.ownBlock) (ha : v'.ownBlock = v8.ownBlock ∨ v'.ownBlock = some (wr.alloc o).heap.size) : Duo w w1 v' v9 (p ++ [x]) r := by
  have hs := h.below.size
  refine ⟨by simpa [ints] using ho, (h.o9.alloc o).kept gr ?_, ?_, (h.below.alloc hs o).grown gr (by simp; omega) (fun k hk => (owns_lt h.o8 hk).1)⟩
  · rcases h9 : v9.ownBlock with _ | g
    · exact .inl rfl
    · right
      intro e
      exact h.ap g e.symm h9
  · intro g hg h9
    rcases ha with e | e
    · rw [e] at hg; exact h.ap g hg h9
    · rw [e] at hg
      simp at hg
      have := (owns_lt h.o9 h9).2
      omega

theorem Duo.push9 {w wr w1 : World} {v8 v9 v' : Value} {p r : List Int} {x : Int} {o : Obj} (h : Duo w wr v8 v9 p r) (ho : w1.ownsRow w.heap.size 3 1 v' (r.length + 1) (ints r ++ [.int .i64 x]))
    (gr : (wr.alloc o).grownBy w1 v9.ownBlock) (ha : v'.ownBlock = v9.ownBlock ∨ v'.ownBlock = some (wr.alloc o).heap.size) : Duo w w1 v8 v' p (r ++ [x]) := by
  have hs := h.below.size
  refine ⟨(h.o8.alloc o).kept gr ?_, by simpa [ints] using ho, ?_, (h.below.alloc hs o).grown gr (by simp; omega) (fun k hk => (owns_lt h.o9 hk).1)⟩
  · rcases h8 : v8.ownBlock with _ | g
    · exact .inl rfl
    · right
      intro e
      exact h.ap g h8 e.symm
  · intro g hg h9
    rcases ha with e | e
    · rw [e] at h9; exact h.ap g hg h9
    · rw [e] at h9
      simp at h9
      have := (owns_lt h.o8 hg).2
      omega

/-- the two rows by their cells -/
structure Duos (w wr : World) (P Q n : Nat) (f g : Nat → Int) : Prop where
  below : Below w.heap.size w wr
  ne : P ≠ Q
  lo : w.heap.size ≤ P
  lo' : w.heap.size ≤ Q
  lt : P < wr.heap.size
  lt' : Q < wr.heap.size
  ps : ∀ i, i < n → CellZ wr P i (f i)
  qs : ∀ i, i < n → CellZ wr Q i (g i)

theorem cells_of_owns {w : World} {base n g cap : Nat} {l : List Int} (h : w.ownsRow base 3 1 (.slice (some ⟨g, 0, none⟩) n cap) n (ints l)) : ∀ i, i < n → CellZ w g i (l.getD i 0) := by
  obtain ⟨hlen, h | ⟨g', cap', cur, hv, _, hb, _, _, _, ht⟩⟩ := h
  · simp at h
  · simp only [Value.slice.injEq, Option.some.injEq, Addr.mk.injEq, and_true, true_and] at hv
    obtain ⟨rfl, rfl⟩ := hv
    intro i hi
    have hn : l.length = n := by simp [ints] at hlen; exact hlen
    have : cur[i]? = some (.int .i64 (l.getD i 0)) := by
      rw [← Array.getElem?_toList]
      have h1 : (cur.toList.take (n * 1))[i]? = (ints l)[i]? := by rw [ht]
      rw [List.getElem?_take_of_lt (by omega)] at h1
      rw [h1]; simp [ints, hn, hi]
    exact ⟨by simp [World.cell?, hb, this], by simp [World.frozen?, hb]⟩

theorem shape_of_owns {w : World} {base n : Nat} {v : Value} {xs : List Value} (h : w.ownsRow base 3 1 v n xs) (hn : 1 ≤ n) : ∃ g cap, v = .slice (some ⟨g, 0, none⟩) n cap ∧ n ≤ cap := by
  obtain ⟨_, h | ⟨g, cap, cur, rfl, _, _, hc, _⟩⟩ := h
  · omega
  · exact ⟨g, cap, rfl, hc⟩

theorem Duo.duos {w wr : World} {P Q n cap cap' : Nat} {p r : List Int} (h : Duo w wr (.slice (some ⟨P, 0, none⟩) n cap) (.slice (some ⟨Q, 0, none⟩) n cap') p r) (hp : p.length = n) (hr : r.length = n) :
    Duos w wr P Q n (fun i => p.getD i 0) (fun i => r.getD i 0) := by
  have h8 := h.o8
  have h9 := h.o9
  rw [hp] at h8
  rw [hr] at h9
  have l8 := owns_lt h8 (g := P) rfl
  have l9 := owns_lt h9 (g := Q) rfl
  exact ⟨h.below, fun e => h.ap P rfl (by rw [e]; rfl), l8.1, l9.1, l8.2, l9.2, cells_of_owns h8, cells_of_owns h9⟩

theorem Duos.drewN {w wr : World} {P Q n : Nat} {f g : Nat → Int} (h : Duos w wr P Q n f g) (d : Nat) : Duos w (wr.drewN d) P Q n f g :=
  ⟨below_drewN h.below d, h.ne, h.lo, h.lo', h.lt, h.lt', h.ps, h.qs⟩

theorem Duos.setP {w wr : World} {P Q n : Nat} {f f' g : Nat → Int} (h : Duos w wr P Q n f g) (k : Nat) (u : Int) (hf : ∀ i, i < n → f' i = if k = i then u else f i) : Duos w (wr.setCell ⟨P, k, none⟩ (.int .i64 u)) P Q n f' g := by
  have ne := h.ne
  refine ⟨h.below.setCell (p := ⟨P, k, none⟩) h.lo _, h.ne, h.lo, h.lo', by rw [size_setCell]; exact h.lt, by rw [size_setCell]; exact h.lt', fun i hi => ?_, fun i hi => ?_⟩
  · have := (h.ps i hi).set (b' := P) (o' := k) (u := u)
    rw [hf i hi]; simpa using this
  · have := (h.qs i hi).set (b' := P) (o' := k) (u := u)
    rw [if_neg (by omega)] at this; exact this
theorem Duos.setQ {w wr : World} {P Q n : Nat} {f g g' : Nat → Int} (h : Duos w wr P Q n f g) (k : Nat) (u : Int) (hg : ∀ i, i < n → g' i = if k = i then u else g i) : Duos w (wr.setCell ⟨Q, k, none⟩ (.int .i64 u)) P Q n f g' := by
  have ne := h.ne
  refine ⟨h.below.setCell (p := ⟨Q, k, none⟩) h.lo' _, h.ne, h.lo, h.lo', by rw [size_setCell]; exact h.lt, by rw [size_setCell]; exact h.lt', fun i hi => ?_, fun i hi => ?_⟩
  · have := (h.ps i hi).set (b' := Q) (o' := k) (u := u)
    rw [if_neg (by omega)] at this; exact this
  · have := (h.qs i hi).set (b' := Q) (o' := k) (u := u)
    rw [hg i hi]; simpa using this

theorem hide_next {r : List Int} {k b i : Nat} (hb : b < r.length) (hr : App.rank r b = k) : (App.hide r (k + 1)).getD i 0 = if b = i then -1 else (App.hide r k).getD i 0 := by
  rw [← App.hide_succ hb hr]
  exact set_getD _ _ _ _ (by rw [App.hide_length]; exact hb)

theorem bump_next {q r : List Int} {k b i : Nat} (hl : q.length = r.length) (hb : b < r.length) (hr : App.rank r b = k) : (App.bump q r (k + 1)).getD i 0 = if b = i then (App.bump q r k).getD b 0 + 1 else (App.bump q r k).getD i 0 := by
  rw [← App.bump_succ hl hb hr]
  exact set_getD _ _ _ _ (by rw [App.bump_length, hl]; exact hb)

end Go.Proofs.Ytbefbodihfijbaa
