/-
  The body of divide's first loop: two rows that grow side by side, in whatever order.
-/
import Derived.Test.YtbkmcncakpmgkaaAsc
namespace Go.Proofs.Ytbkmcncakpmgkaa
set_option linter.unusedVariables false
open Go.ChangeShapes Go.WideShapes Go.ChangeAt Go.RowKit Go.Shelf Go.Maps Go.Sort

theorem put_same (a : Act) (d : Nat) (v : Value) (h : d < a.tmps.size) : (a.put (some d) v).eval (.tmp d) = v := by
  simp [Act.put, Act.eval, h]
theorem put_ne (a : Act) (d j : Nat) (v : Value) (h : d ≠ j) : (a.put (some d) v).eval (.tmp j) = a.eval (.tmp j) := by
  simp [Act.put, Act.eval, h]
theorem put_size (a : Act) (d : Nat) (v : Value) : (a.put (some d) v).tmps.size = a.tmps.size := by simp [Act.put]

/-- one operation of a drawn region, in a round -/
theorem stepR {l n : Nat} {P : Program} {ops : Array Oper} {Q : Exit → Act → World → Prop} {i : Nat} {o : Oper} {K : Act → World → Prop} {a : Act} {w w' : World} {v : Value} (ho : ops[i]? = some o) (hg : o.guard = none) (hd : ∀ c, o.op ≠ .defer c)
    (hr : (execOp a.eval o).run P w = .ok (.value v) w') (hk : K (a.put o.dst v) w') : wpOpIn (Fence.wide.inRound l) n P ops Q i K a w := by
  unfold wpOpIn
  rw [ho]
  dsimp only
  rw [if_pos (by simp [Region.wanted, hg])]
  refine ⟨fun _ _ => trivial, ?_⟩
  rw [show (Fence.wide.inRound l).round = some l from rfl, Oper.semAt_some _ _ _ hd, hr]
  exact hk

/-- one operation that gives nothing -/
theorem stepS {l n : Nat} {P : Program} {ops : Array Oper} {Q : Exit → Act → World → Prop} {i : Nat} {o : Oper} {K : Act → World → Prop} {a : Act} {w w' : World} (ho : ops[i]? = some o) (hg : o.guard = none) (hd : ∀ c, o.op ≠ .defer c)
    (hr : (execOp a.eval o).run P w = .ok .skip w') (hk : K (a.put o.dst undef) w') : wpOpIn (Fence.wide.inRound l) n P ops Q i K a w := by
  unfold wpOpIn
  rw [ho]
  dsimp only
  rw [if_pos (by simp [Region.wanted, hg])]
  refine ⟨fun _ _ => trivial, ?_⟩
  rw [show (Fence.wide.inRound l).round = some l from rfl, Oper.semAt_some _ _ _ hd, hr]
  exact hk

/-- what the slots hold -/
structure TV (a : Act) (B1 B2 : Nat) (r y : Int) (v1 v2 u1 u2 : Value) (g2 g6 : Nat) (b0 b1 b2 b3 b4 b5 b6 b7 : Bool) : Prop where
  sz : a.tmps.size = 50
  t7 : a.eval (.tmp 7) = .pointer (some ⟨B1, 0, none⟩)
  t8 : a.eval (.tmp 8) = .pointer (some ⟨B2, 0, none⟩)
  t9 : a.eval (.tmp 9) = .int .i64 r
  t10 : a.eval (.tmp 10) = .int .i64 y
  f0 : b0 = true → a.eval (.tmp 19) = v1
  f1 : b1 = true → a.eval (.tmp 20) = .int .i64 r
  f2 : b2 = true → a.eval (.tmp 21) = .slice (some ⟨g2, 0, none⟩) 1 1
  f3 : b3 = true → a.eval (.tmp 22) = u1
  f4 : b4 = true → a.eval (.tmp 23) = v2
  f5 : b5 = true → a.eval (.tmp 24) = .int .i64 y
  f6 : b6 = true → a.eval (.tmp 25) = .slice (some ⟨g6, 0, none⟩) 1 1
  f7 : b7 = true → a.eval (.tmp 26) = u2

section
variable {a : Act} {B1 B2 : Nat} {r y : Int} {v1 v2 u1 u2 : Value} {g2 g6 : Nat} {b0 b1 b2 b3 b4 b5 b6 b7 : Bool}
theorem TV.p0 (h : TV a B1 B2 r y v1 v2 u1 u2 g2 g6 b0 b1 b2 b3 b4 b5 b6 b7) : TV (a.put (some 19) v1) B1 B2 r y v1 v2 u1 u2 g2 g6 true b1 b2 b3 b4 b5 b6 b7 := by
  constructor <;> (try intro hb) <;> first | (rw [put_size]; exact h.sz) | exact put_same _ _ _ (by rw [h.sz]; omega) | (rw [put_ne _ _ _ _ (by omega)]; first | exact h.t7 | exact h.t8 | exact h.t9 | exact h.t10 | exact h.f1 hb | exact h.f2 hb | exact h.f3 hb | exact h.f4 hb | exact h.f5 hb | exact h.f6 hb | exact h.f7 hb)
theorem TV.p1 (h : TV a B1 B2 r y v1 v2 u1 u2 g2 g6 b0 b1 b2 b3 b4 b5 b6 b7) : TV (a.put (some 20) (.int .i64 r)) B1 B2 r y v1 v2 u1 u2 g2 g6 b0 true b2 b3 b4 b5 b6 b7 := by
  constructor <;> (try intro hb) <;> first | (rw [put_size]; exact h.sz) | exact put_same _ _ _ (by rw [h.sz]; omega) | (rw [put_ne _ _ _ _ (by omega)]; first | exact h.t7 | exact h.t8 | exact h.t9 | exact h.t10 | exact h.f0 hb | exact h.f2 hb | exact h.f3 hb | exact h.f4 hb | exact h.f5 hb | exact h.f6 hb | exact h.f7 hb)
theorem TV.p2 (h : TV a B1 B2 r y v1 v2 u1 u2 g2 g6 b0 b1 b2 b3 b4 b5 b6 b7) (g : Nat) : TV (a.put (some 21) (.slice (some ⟨g, 0, none⟩) 1 1)) B1 B2 r y v1 v2 u1 u2 g g6 b0 b1 true b3 b4 b5 b6 b7 := by
  constructor <;> (try intro hb) <;> first | (rw [put_size]; exact h.sz) | exact put_same _ _ _ (by rw [h.sz]; omega) | (rw [put_ne _ _ _ _ (by omega)]; first | exact h.t7 | exact h.t8 | exact h.t9 | exact h.t10 | exact h.f0 hb | exact h.f1 hb | exact h.f3 hb | exact h.f4 hb | exact h.f5 hb | exact h.f6 hb | exact h.f7 hb)
theorem TV.p3 (h : TV a B1 B2 r y v1 v2 u1 u2 g2 g6 b0 b1 b2 b3 b4 b5 b6 b7) (u : Value) : TV (a.put (some 22) u) B1 B2 r y v1 v2 u u2 g2 g6 b0 b1 b2 true b4 b5 b6 b7 := by
  constructor <;> (try intro hb) <;> first | (rw [put_size]; exact h.sz) | exact put_same _ _ _ (by rw [h.sz]; omega) | (rw [put_ne _ _ _ _ (by omega)]; first | exact h.t7 | exact h.t8 | exact h.t9 | exact h.t10 | exact h.f0 hb | exact h.f1 hb | exact h.f2 hb | exact h.f4 hb | exact h.f5 hb | exact h.f6 hb | exact h.f7 hb)
theorem TV.p4 (h : TV a B1 B2 r y v1 v2 u1 u2 g2 g6 b0 b1 b2 b3 b4 b5 b6 b7) : TV (a.put (some 23) v2) B1 B2 r y v1 v2 u1 u2 g2 g6 b0 b1 b2 b3 true b5 b6 b7 := by
  constructor <;> (try intro hb) <;> first | (rw [put_size]; exact h.sz) | exact put_same _ _ _ (by rw [h.sz]; omega) | (rw [put_ne _ _ _ _ (by omega)]; first | exact h.t7 | exact h.t8 | exact h.t9 | exact h.t10 | exact h.f0 hb | exact h.f1 hb | exact h.f2 hb | exact h.f3 hb | exact h.f5 hb | exact h.f6 hb | exact h.f7 hb)
theorem TV.p5 (h : TV a B1 B2 r y v1 v2 u1 u2 g2 g6 b0 b1 b2 b3 b4 b5 b6 b7) : TV (a.put (some 24) (.int .i64 y)) B1 B2 r y v1 v2 u1 u2 g2 g6 b0 b1 b2 b3 b4 true b6 b7 := by
  constructor <;> (try intro hb) <;> first | (rw [put_size]; exact h.sz) | exact put_same _ _ _ (by rw [h.sz]; omega) | (rw [put_ne _ _ _ _ (by omega)]; first | exact h.t7 | exact h.t8 | exact h.t9 | exact h.t10 | exact h.f0 hb | exact h.f1 hb | exact h.f2 hb | exact h.f3 hb | exact h.f4 hb | exact h.f6 hb | exact h.f7 hb)
theorem TV.p6 (h : TV a B1 B2 r y v1 v2 u1 u2 g2 g6 b0 b1 b2 b3 b4 b5 b6 b7) (g : Nat) : TV (a.put (some 25) (.slice (some ⟨g, 0, none⟩) 1 1)) B1 B2 r y v1 v2 u1 u2 g2 g b0 b1 b2 b3 b4 b5 true b7 := by
  constructor <;> (try intro hb) <;> first | (rw [put_size]; exact h.sz) | exact put_same _ _ _ (by rw [h.sz]; omega) | (rw [put_ne _ _ _ _ (by omega)]; first | exact h.t7 | exact h.t8 | exact h.t9 | exact h.t10 | exact h.f0 hb | exact h.f1 hb | exact h.f2 hb | exact h.f3 hb | exact h.f4 hb | exact h.f5 hb | exact h.f7 hb)
theorem TV.p7 (h : TV a B1 B2 r y v1 v2 u1 u2 g2 g6 b0 b1 b2 b3 b4 b5 b6 b7) (u : Value) : TV (a.put (some 26) u) B1 B2 r y v1 v2 u1 u g2 g6 b0 b1 b2 b3 b4 b5 b6 true := by
  constructor <;> (try intro hb) <;> first | (rw [put_size]; exact h.sz) | exact put_same _ _ _ (by rw [h.sz]; omega) | (rw [put_ne _ _ _ _ (by omega)]; first | exact h.t7 | exact h.t8 | exact h.t9 | exact h.t10 | exact h.f0 hb | exact h.f1 hb | exact h.f2 hb | exact h.f3 hb | exact h.f4 hb | exact h.f5 hb | exact h.f6 hb)
theorem TV.pn (h : TV a B1 B2 r y v1 v2 u1 u2 g2 g6 b0 b1 b2 b3 b4 b5 b6 b7) (v : Value) : TV (a.put none v) B1 B2 r y v1 v2 u1 u2 g2 g6 b0 b1 b2 b3 b4 b5 b6 b7 := h
end

/-- two boxes with rows of the call's own -/
structure TwoR (w W : World) (B1 B2 : Nat) (v1 v2 : Value) (xs ys : List Int) (O : Nat → Prop) : Prop where
  own : ∀ k, O k ↔ k = B1 ∨ k = B2 ∨ v1.ownBlock = some k ∨ v2.ownBlock = some k
  box1 : Boxed W B1 34 v1
  box2 : Boxed W B2 34 v2
  row1 : W.ownsRow w.heap.size 3 1 v1 xs.length (ints xs)
  row2 : W.ownsRow w.heap.size 3 1 v2 ys.length (ints ys)
  ne : ∀ g, v1.ownBlock = some g → v2.ownBlock ≠ some g
  bne : B1 ≠ B2
  bel : Below w.heap.size w W
  bas1 : w.heap.size ≤ B1
  bas2 : w.heap.size ≤ B2

theorem TwoR.chg {w A A' : World} {B1 B2 : Nat} {v1 v2 : Value} {xs ys : List Int} {O C : Nat → Prop} (h : TwoR w A B1 B2 v1 v2 xs ys O) (hc : Chg C A A') (hC : ∀ k, C k → w.heap.size ≤ k ∧ ¬ O k) : TwoR w A' B1 B2 v1 v2 xs ys O :=
  ⟨h.own, Boxed.blk h.box1 (hc.block B1 h.box1.lt (fun c => (hC B1 c).2 ((h.own B1).2 (.inl rfl)))), Boxed.blk h.box2 (hc.block B2 h.box2.lt (fun c => (hC B2 c).2 ((h.own B2).2 (.inr (.inl rfl))))),
    ownsRow_blk h.row1 (fun g hg hl => hc.block g hl (fun c => (hC g c).2 ((h.own g).2 (.inr (.inr (.inl hg)))))), ownsRow_blk h.row2 (fun g hg hl => hc.block g hl (fun c => (hC g c).2 ((h.own g).2 (.inr (.inr (.inr hg)))))),
    h.ne, h.bne, h.bel.trans (hc.below h.bel.size (fun k hk => (hC k hk).1)), h.bas1, h.bas2⟩

/-- what the world holds in the midst of the region -/
structure WV (z : Nat) (V w : World) (B1 B2 : Nat) (r y : Int) (v1 v2 u1 u2 : Value) (xs ys : List Int) (O : Nat → Prop) (g2 g6 : Nat) (b2 b3 b6 b7 b8 b9 : Bool) : Prop where
  chg : Chg O V w
  r1 : w.ownsRow z 3 1 u1 (if b3 = true then xs ++ [r] else xs).length (ints (if b3 = true then xs ++ [r] else xs))
  r2 : w.ownsRow z 3 1 u2 (if b7 = true then ys ++ [y] else ys).length (ints (if b7 = true then ys ++ [y] else ys))
  l1 : ∀ g, u1.ownBlock = some g → v1.ownBlock = some g ∨ V.heap.size ≤ g
  l2 : ∀ g, u2.ownBlock = some g → v2.ownBlock = some g ∨ V.heap.size ≤ g
  ne : ∀ g, u1.ownBlock = some g → u2.ownBlock ≠ some g
  n3 : b3 = false → u1 = v1
  n7 : b7 = false → u2 = v2
  x1 : Boxed w B1 34 (if b8 = true then u1 else v1)
  x2 : Boxed w B2 34 (if b9 = true then u2 else v2)
  c2 : b2 = true → b3 = false → V.heap.size ≤ g2 ∧ w.cell? ⟨g2, 0, none⟩ = some (.int .i64 r)
  c6 : b6 = true → b7 = false → V.heap.size ≤ g6 ∧ w.cell? ⟨g6, 0, none⟩ = some (.int .i64 y)

theorem ints_snoc (xs : List Int) (x : Int) : ints (xs ++ [x]) = ints xs ++ [.int .i64 x] := by simp [ints]

section
variable {w V W : World} {B1 B2 : Nat} {r y : Int} {v1 v2 u1 u2 : Value} {xs ys : List Int} {O : Nat → Prop} {g2 g6 : Nat} {b2 b3 b6 b7 b8 b9 : Bool}

theorem WV.start (h : TwoR w V B1 B2 v1 v2 xs ys O) (g2 g6 : Nat) : WV w.heap.size V V.drew B1 B2 r y v1 v2 v1 v2 xs ys O g2 g6 false false false false false false :=
  ⟨Chg.drew _ _, h.row1, h.row2, fun g hg => .inl hg, fun g hg => .inl hg, h.ne, fun _ => rfl, fun _ => rfl, h.box1, h.box2, (fun h => by cases h), (fun h => by cases h)⟩

theorem WV.alloc {z : Nat} (h : WV z V W B1 B2 r y v1 v2 u1 u2 xs ys O g2 g6 b2 b3 b6 b7 b8 b9) (o : Obj) : WV z V (W.alloc o) B1 B2 r y v1 v2 u1 u2 xs ys O g2 g6 b2 b3 b6 b7 b8 b9 :=
  ⟨h.chg.trans (Chg.alloc _ _ _), h.r1.alloc _, h.r2.alloc _, h.l1, h.l2, h.ne, h.n3, h.n7, h.x1.alloc _, h.x2.alloc _, fun a b => ⟨(h.c2 a b).1, cell_up (h.c2 a b).2 _⟩, fun a b => ⟨(h.c6 a b).1, cell_up (h.c6 a b).2 _⟩⟩

theorem WV.s2 {z : Nat} (h : WV z V W B1 B2 r y v1 v2 u1 u2 xs ys O g2 g6 b2 b3 b6 b7 b8 b9) (t : TypeId) : WV z V (W.alloc (.cells #[.int .i64 r] t)) B1 B2 r y v1 v2 u1 u2 xs ys O W.heap.size g6 true b3 b6 b7 b8 b9 :=
  have h' := h.alloc (.cells #[.int .i64 r] t)
  ⟨h'.chg, h'.r1, h'.r2, h'.l1, h'.l2, h'.ne, h'.n3, h'.n7, h'.x1, h'.x2, fun _ _ => ⟨h.chg.size, cell_box W _ t 0 _ rfl _ rfl⟩, h'.c6⟩
theorem WV.s6 {z : Nat} (h : WV z V W B1 B2 r y v1 v2 u1 u2 xs ys O g2 g6 b2 b3 b6 b7 b8 b9) (t : TypeId) : WV z V (W.alloc (.cells #[.int .i64 y] t)) B1 B2 r y v1 v2 u1 u2 xs ys O g2 W.heap.size b2 b3 true b7 b8 b9 :=
  have h' := h.alloc (.cells #[.int .i64 y] t)
  ⟨h'.chg, h'.r1, h'.r2, h'.l1, h'.l2, h'.ne, h'.n3, h'.n7, h'.x1, h'.x2, h'.c2, fun _ _ => ⟨h.chg.size, cell_box W _ t 0 _ rfl _ rfl⟩⟩

theorem owned_lt (H : TwoR w V B1 B2 v1 v2 xs ys O) (k : Nat) (hk : O k) : k < V.heap.size := by
  rcases (H.own k).1 hk with rfl | rfl | h | h
  · exact H.box1.lt
  · exact H.box2.lt
  · exact (owns_ltK H.row1 k h).2
  · exact (owns_ltK H.row2 k h).2

/-- the first append -/
theorem WV.s3 (H : TwoR w V B1 B2 v1 v2 xs ys O) (h : WV w.heap.size V W B1 B2 r y v1 v2 u1 u2 xs ys O g2 g6 true false b6 b7 false false) {u' : Value} {W' : World}
    (hown : W'.ownsRow w.heap.size 3 1 u' (xs.length + 1) (ints xs ++ [.int .i64 r])) (hg : W.grownBy W' v1.ownBlock) (hloc : u'.ownBlock = v1.ownBlock ∨ u'.ownBlock = some W.heap.size) :
    WV w.heap.size V W' B1 B2 r y v1 v2 u' u2 xs ys O g2 g6 true true b6 b7 false false := by
  have e := h.n3 rfl
  subst e
  have hc : Chg O V W' := h.chg.trans (Chg.grown hg (fun k e => .inl ((H.own k).2 (.inr (.inr (.inl e))))))
  have hlt : ∀ g, u1.ownBlock = some g → g < V.heap.size := fun g hg => (owns_ltK H.row1 g hg).2
  have hvs := h.chg.size
  have hne2 : ∀ g, u1.ownBlock = some g → u2.ownBlock ≠ some g := h.ne
  refine ⟨hc, ?_, ?_, ?_, h.l2, ?_, (fun h => by cases h), h.n7, ?_, ?_, (fun _ h => by cases h), ?_⟩
  · rw [if_pos rfl, ints_snoc, List.length_append]; exact hown
  · exact ownsRow_blk h.r2 (fun g hg' hl => hg.block g hl (fun e => hne2 g e.symm hg'))
  · intro g hu
    rcases hloc with e | e
    · exact .inl (by rw [← e]; exact hu)
    · rw [e] at hu; simp at hu; exact .inr (by omega)
  · intro g hu hu2
    rcases hloc with e | e
    · rw [e] at hu; exact hne2 g hu hu2
    · rw [e] at hu; simp at hu
      have := (owns_ltK h.r2 g hu2).2
      omega
  · exact h.x1.kept hg (h.x1.not_row (by decide) h.r1)
  · exact h.x2.kept hg (h.x2.not_row (by decide) h.r1)
  · intro hb hb7
    obtain ⟨h1, h2⟩ := h.c6 hb hb7
    exact ⟨h1, by rw [World.cell?_of_block (w := W) (hg.block g6 (World.block_lt_of_cell? _ _ h2) (fun e => by have := hlt g6 e.symm; omega))]; exact h2⟩

/-- the second append -/
theorem WV.s7 (H : TwoR w V B1 B2 v1 v2 xs ys O) (h : WV w.heap.size V W B1 B2 r y v1 v2 u1 u2 xs ys O g2 g6 b2 true true false false false) {u' : Value} {W' : World}
    (hown : W'.ownsRow w.heap.size 3 1 u' (ys.length + 1) (ints ys ++ [.int .i64 y])) (hg : W.grownBy W' v2.ownBlock) (hloc : u'.ownBlock = v2.ownBlock ∨ u'.ownBlock = some W.heap.size) :
    WV w.heap.size V W' B1 B2 r y v1 v2 u1 u' xs ys O g2 g6 b2 true true true false false := by
  have e := h.n7 rfl
  subst e
  have hc : Chg O V W' := h.chg.trans (Chg.grown hg (fun k e => .inl ((H.own k).2 (.inr (.inr (.inr e))))))
  have hvs := h.chg.size
  refine ⟨hc, ?_, ?_, h.l1, ?_, ?_, h.n3, (fun h => by cases h), ?_, ?_, (fun _ h => by cases h), (fun _ h => by cases h)⟩
  · exact ownsRow_blk h.r1 (fun g hg' hl => hg.block g hl (fun e => h.ne g hg' e.symm))
  · rw [if_pos rfl, ints_snoc, List.length_append]; exact hown
  · intro g hu
    rcases hloc with e | e
    · exact .inl (by rw [← e]; exact hu)
    · rw [e] at hu; simp at hu; exact .inr (by omega)
  · intro g hu hu2
    rcases hloc with e | e
    · rw [e] at hu2; exact h.ne g hu hu2
    · rw [e] at hu2; simp at hu2
      have := (owns_ltK h.r1 g hu).2
      omega
  · exact h.x1.kept hg (h.x1.not_row (by decide) h.r2)
  · exact h.x2.kept hg (h.x2.not_row (by decide) h.r2)

theorem WV.s8 (H : TwoR w V B1 B2 v1 v2 xs ys O) (h : WV w.heap.size V W B1 B2 r y v1 v2 u1 u2 xs ys O g2 g6 b2 true b6 true false false) :
    WV w.heap.size V (W.setCell ⟨B1, 0, none⟩ u1) B1 B2 r y v1 v2 u1 u2 xs ys O g2 g6 b2 true b6 true true false :=
  ⟨h.chg.trans (Chg.grown (grownBy_setCell' W B1 u1) (fun k e => by cases e; exact .inl ((H.own B1).2 (.inl rfl)))), h.r1.kept (grownBy_setCell' W B1 u1) (.inr (h.x1.not_row (by decide) h.r1).symm), h.r2.kept (grownBy_setCell' W B1 u1) (.inr (h.x1.not_row (by decide) h.r2).symm),
    h.l1, h.l2, h.ne, h.n3, h.n7, h.x1.set u1, h.x2.other H.bne.symm u1, (fun _ h => by cases h), (fun _ h => by cases h)⟩
theorem WV.s9 (H : TwoR w V B1 B2 v1 v2 xs ys O) (h : WV w.heap.size V W B1 B2 r y v1 v2 u1 u2 xs ys O g2 g6 b2 true b6 true true false) :
    WV w.heap.size V (W.setCell ⟨B2, 0, none⟩ u2) B1 B2 r y v1 v2 u1 u2 xs ys O g2 g6 b2 true b6 true true true :=
  ⟨h.chg.trans (Chg.grown (grownBy_setCell' W B2 u2) (fun k e => by cases e; exact .inl ((H.own B2).2 (.inr (.inl rfl))))), h.r1.kept (grownBy_setCell' W B2 u2) (.inr (h.x2.not_row (by decide) h.r1).symm), h.r2.kept (grownBy_setCell' W B2 u2) (.inr (h.x2.not_row (by decide) h.r2).symm),
    h.l1, h.l2, h.ne, h.n3, h.n7, h.x1.other H.bne u2, h.x2.set u2, (fun _ h => by cases h), (fun _ h => by cases h)⟩

theorem WV.fin (H : TwoR w V B1 B2 v1 v2 xs ys O) (h : WV w.heap.size V W B1 B2 r y v1 v2 u1 u2 xs ys O g2 g6 b2 true b6 true true true) :
    ∃ O', (∃ u1 u2, TwoR w W B1 B2 u1 u2 (xs ++ [r]) (ys ++ [y]) O') ∧ Chg O V W ∧ ∀ k, O' k → O k ∨ V.heap.size ≤ k := by
  refine ⟨fun k => k = B1 ∨ k = B2 ∨ u1.ownBlock = some k ∨ u2.ownBlock = some k, ⟨u1, u2, fun k => Iff.rfl, h.x1, h.x2, h.r1, h.r2, h.ne, H.bne, ?_, H.bas1, H.bas2⟩, h.chg, fun k hk => ?_⟩
  · refine H.bel.trans (h.chg.below H.bel.size (fun k hk => ?_))
    rcases (H.own k).1 hk with rfl | rfl | h | h
    · exact H.bas1
    · exact H.bas2
    · exact (owns_ltK H.row1 k h).1
    · exact (owns_ltK H.row2 k h).1
  · rcases hk with rfl | rfl | hk | hk
    · exact .inl ((H.own k).2 (.inl rfl))
    · exact .inl ((H.own k).2 (.inr (.inl rfl)))
    · rcases h.l1 k hk with h | h
      · exact .inl ((H.own k).2 (.inr (.inr (.inl h))))
      · exact .inr h
    · rcases h.l2 k hk with h | h
      · exact .inl ((H.own k).2 (.inr (.inr (.inr h))))
      · exact .inr h
end

end Go.Proofs.Ytbkmcncakpmgkaa
