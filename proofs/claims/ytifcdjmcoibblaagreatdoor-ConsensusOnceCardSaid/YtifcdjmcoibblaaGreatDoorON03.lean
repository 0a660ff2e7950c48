/-
  ONCE: what stands in memory. ONCE: the calls of one node beside a net for notes.
-/
import Derived.Test.YtifcdjmcoibblaaGreatDoorON01
import Derived.Test.YtifcdjmcoibblaaGreatDoorON02
import Derived.StillTailTactics
import Derived.Test.YtifcdjmcoibblaaGreatDoorG36
import Derived.Test.YtifcdjmcoibblaaGreatDoorG35

/-! ONCE: what stands in memory. -/
namespace Go.Proofs.YtifcdjmcoibblaaGreatDoor
set_option linter.unusedVariables false
set_option linter.unusedSimpArgs false
set_option linter.unusedSectionVars false
open Go.RowKit

/-- an Op that came in -/
structure OpR where
  kd : Int
  a : Int
  b : Int
  c : Int
  d : Int
  x0 : Int
  x1 : Int
  x2 : Int
  x3 : Int
  x4 : Int
  x5 : Int
  xd : ByteArray
  xa : Option Addr
  xn : Nat
  xc : Nat
def OpR.cells (o : OpR) : List Value := [.int .i64 o.kd, .int .i64 o.a, .int .i64 o.b, .int .i64 o.c, .int .i64 o.d, .int .i64 o.x0, .int .i64 o.x1, .int .i64 o.x2, .int .i64 o.x3, .int .i64 o.x4, .int .i64 o.x5, .string o.xd, .slice o.xa o.xn o.xc]
def I64r (z : Int) : Prop := -9223372036854775808 ≤ z ∧ z ≤ 9223372036854775807
structure OpR.Ok (o : OpR) : Prop where
  kd : I64r o.kd
  a : I64r o.a
  b : I64r o.b
  c : I64r o.c
  d : I64r o.d
/-- a row of Ops in blocks below b -/
def OpsAt (w : World) (b : Nat) (ao : Option Addr) (os : List OpR) : Prop := ∀ (j : Nat) o, os[j]? = some o → o.Ok ∧ ∃ g off, ao = some ⟨g, off, none⟩ ∧ g < b ∧ ∀ (k : Nat) (u : Value), o.cells[k]? = some u → w.cell? ⟨g, off + j * 13 + k, none⟩ = some u
theorem OpsAt.later {w w' : World} {b : Nat} {ao : Option Addr} {os : List OpR} (h : OpsAt w b ao os) (hb : Below b w w') : OpsAt w' b ao os := fun j o ho => by
  obtain ⟨h0, g, off, e, hg, hc⟩ := h j o ho
  exact ⟨h0, g, off, e, hg, fun k u hu => by rw [World.cell?_of_block (w := w) (hb.block g hg)]; exact hc k u hu⟩

/-- one node and a net for notes beside it -/
structure OnW (base : Nat) (w1 : World) (x : Nat) (s : StB) (Rx : Nat → Nat → Prop) (W : World) (nb : Nat) (n : Int) (cv : Value) (cs : List CastB) (br : Bool) : Prop where
  flk : Flk GA base w1 [x] [s] Rx W
  nbA : Asd [x].length Rx W nb
  nbL : base ≤ nb
  row : W.heap[nb]? = some (.cells (netRow n 0 0 0 (.slice none 0 0) (.slice none 0 0) (.slice none 0 0) cv br) 50 (0, 0))
  cst : CastsAt W cv cs
  cvA : ∀ g, cv.ownBlock = some g → Asd [x].length Rx W g ∧ base ≤ g

section
variable {base : Nat} {w1 W W' : World} {x nb : Nat} {s s' : StB} {Rx Rx' : Nat → Nat → Prop} {n : Int} {cv : Value} {cs : List CastB} {br : Bool}
theorem OnW.sail (h : OnW base w1 x s Rx W nb n cv cs br) (hs : Sail GA base W [x] Rx W' [s'] Rx') : OnW base w1 x s' Rx' W' nb n cv cs br :=
  ⟨h.flk.sail hs, hs.asd h.nbA, h.nbL, (hs.blk h.nbA).trans h.row, h.cst.kept (fun g cur _ hg => hs.blk (h.cvA g hg).1), fun g hg => ⟨hs.asd (h.cvA g hg).1, (h.cvA g hg).2⟩⟩
theorem OnW.later (h : OnW base w1 x s Rx W nb n cv cs br) (hb : Below W.heap.size W W') : OnW base w1 x s Rx W' nb n cv cs br :=
  ⟨h.flk.later hb, h.nbA.later hb.size, h.nbL, (hb.block nb h.nbA.1).trans h.row, h.cst.kept (fun g cur _ hg => hb.block g (h.cvA g hg).1.1), fun g hg => ⟨(h.cvA g hg).1.later hb.size, (h.cvA g hg).2⟩⟩
theorem OnW.noted (h : OnW base w1 x s Rx W nb n cv cs br) {r : Bool × List CastB} (hd : Noted W nb n 0 0 0 (.slice none 0 0) (.slice none 0 0) (.slice none 0 0) cv r W') : ∃ cv', OnW base w1 x s Rx W' nb n cv' r.2 r.1 ∧ Chg (fun k => k = nb ∨ cv.ownBlock = some k) W W' := by
  obtain ⟨⟨cv', e1, e2, e3⟩, hc⟩ := hd
  have hk : ∀ k, AllR [x].length Rx k → W'.heap[k]? = W.heap[k]? := fun k hk => hc.block k (h.flk.net.lt hk) (fun e => by
    rcases e with e | e
    · exact h.nbA.2 (e ▸ hk)
    · exact (h.cvA k e).1.2 hk)
  have hbe : Below base W W' := hc.below h.flk.size (fun k e => by
    rcases e with e | e
    · rw [e]; exact h.nbL
    · exact (h.cvA k e).2)
  refine ⟨cv', ⟨⟨h.flk.net.kept hk hc.size, h.flk.bel.trans hbe, h.flk.pos, h.flk.le, h.flk.glob⟩, h.nbA.later hc.size, h.nbL, e1, e2, fun g hg => ?_⟩, hc⟩
  rcases e3 g hg with q | q
  · exact ⟨(h.cvA g q).1.later hc.size, (h.cvA g q).2⟩
  · refine ⟨⟨?_, fun hr => ?_⟩, Nat.le_trans h.flk.size q⟩
    · rcases e2.2 with ⟨e, _⟩ | ⟨g2, c2, cur, e, _, hg2, _⟩
      · rw [e] at hg; simp [Value.ownBlock] at hg
      · rw [e] at hg
        have : g2 = g := by simpa [Value.ownBlock] using hg
        exact this ▸ (Array.getElem?_eq_some_iff.1 hg2).1
    · have := h.flk.net.lt hr; omega
end

end Go.Proofs.YtifcdjmcoibblaaGreatDoor

/-! ONCE: the calls of one node beside a net for notes. -/
namespace Go.Proofs.YtifcdjmcoibblaaGreatDoor
set_option linter.unusedVariables false
set_option linter.unusedSimpArgs false
set_option linter.unusedSectionVars false
open Go.RowKit

/-- one node, a net for notes; blocks A beside them -/
def OnY (base : Nat) (w1 : World) (x nb : Nat) (n : Int) (s : StB) (cs : List CastB) (br : Bool) (A : Nat → Prop) (W : World) : Prop :=
  ∃ Rx cv, OnW base w1 x s Rx W nb n cv cs br ∧ ∀ k, A k → Asd [x].length Rx W k ∧ base ≤ k ∧ k ≠ nb ∧ cv.ownBlock ≠ some k
/-- the blocks A are as they were -/
def KeepA (A : Nat → Prop) (W W' : World) : Prop := W.heap.size ≤ W'.heap.size ∧ ∀ k, A k → W'.heap[k]? = W.heap[k]?

theorem KeepA.refl (A : Nat → Prop) (W : World) : KeepA A W W := ⟨Nat.le_refl _, fun _ _ => rfl⟩
theorem KeepA.trans {A B : Nat → Prop} {W W' W'' : World} (h : KeepA A W W') (h2 : KeepA B W' W'') (hs : ∀ k, A k → B k) : KeepA A W W'' := ⟨Nat.le_trans h.1 h2.1, fun k hk => (h2.2 k (hs k hk)).trans (h.2 k hk)⟩

section
variable {base : Nat} {w1 W W' : World} {x nb : Nat} {n : Int} {s s' : StB} {cs : List CastB} {br : Bool} {A B : Nat → Prop}
theorem OnY.less (h : OnY base w1 x nb n s cs br A W) (hs : ∀ k, B k → A k) : OnY base w1 x nb n s cs br B W := by
  obtain ⟨Rx, cv, h1, h2⟩ := h
  exact ⟨Rx, cv, h1, fun k hk => h2 k (hs k hk)⟩
theorem OnY.lt (h : OnY base w1 x nb n s cs br A W) {k : Nat} (hk : A k) : k < W.heap.size := by
  obtain ⟨Rx, cv, h1, h2⟩ := h
  exact (h2 k hk).1.1
theorem OnY.below (h : OnY base w1 x nb n s cs br A W) : Below base w1 W := by
  obtain ⟨Rx, cv, h1, _⟩ := h
  exact h1.flk.bel
theorem OnY.size (h : OnY base w1 x nb n s cs br A W) : base ≤ W.heap.size := by
  obtain ⟨Rx, cv, h1, _⟩ := h
  exact h1.flk.size
theorem OnY.gl (h : OnY base w1 x nb n s cs br A W) : Glob W := by
  obtain ⟨Rx, cv, h1, _⟩ := h
  exact h1.flk.gl
theorem OnY.fit (h : OnY base w1 x nb n s cs br A W) : Fit GA s := by
  obtain ⟨Rx, cv, h1, _⟩ := h
  exact h1.flk.net.idx (i := 0) (x := x) (s := s) rfl rfl
theorem OnY.keepB (h : OnY base w1 x nb n s cs br A W) (hb : Below W.heap.size W W') : KeepA A W W' := ⟨hb.size, fun k hk => hb.block k (h.lt hk)⟩
theorem OnY.later (h : OnY base w1 x nb n s cs br A W) (hb : Below W.heap.size W W') : OnY base w1 x nb n s cs br A W' := by
  obtain ⟨Rx, cv, h1, h2⟩ := h
  exact ⟨Rx, cv, h1.later hb, fun k hk => ⟨(h2 k hk).1.later hb.size, (h2 k hk).2⟩⟩
/-- what was made since is beside -/
theorem OnY.grow (h : OnY base w1 x nb n s cs br A W) (hb : Below W.heap.size W W') : OnY base w1 x nb n s cs br (fun k => A k ∨ New W W' k) W' := by
  obtain ⟨Rx, cv, h1, h2⟩ := h
  refine ⟨Rx, cv, h1.later hb, fun k hk => ?_⟩
  rcases hk with hk | hk
  · exact ⟨(h2 k hk).1.later hb.size, (h2 k hk).2⟩
  · have hz := hk.1
    refine ⟨Asd.fresh h1.flk.net hk, Nat.le_trans h1.flk.size hz, fun e => ?_, fun e => ?_⟩
    · have := h1.nbA.1; omega
    · have := (h1.cvA k e).1.1; omega
/-- a store into a block beside -/
theorem OnY.set (h : OnY base w1 x nb n s cs br A W) {b : Nat} (hb : A b) (i : Nat) (v : Value) : OnY base w1 x nb n s cs br A (W.setCell ⟨b, i, none⟩ v) ∧ ∀ k, k ≠ b → (W.setCell ⟨b, i, none⟩ v).heap[k]? = W.heap[k]? := by
  have ho : ∀ k, k ≠ b → (W.setCell ⟨b, i, none⟩ v).heap[k]? = W.heap[k]? := fun k hk => Below.heap_setCell _ ⟨b, i, none⟩ _ k hk
  refine ⟨?_, ho⟩
  obtain ⟨Rx, cv, h1, h2⟩ := h
  have hA := h2 b hb
  have hz : (W.setCell ⟨b, i, none⟩ v).heap.size = W.heap.size := by simp [World.setCell]
  refine ⟨Rx, cv, ⟨⟨h1.flk.net.kept (fun k hk => ho k (fun e => hA.1.2 (e ▸ hk))) (by omega), h1.flk.bel.setCell hA.2.1 _, h1.flk.pos, h1.flk.le, h1.flk.glob⟩, h1.nbA.later (by omega), h1.nbL, ?_, ?_, fun g hg => ⟨(h1.cvA g hg).1.later (by omega), (h1.cvA g hg).2⟩⟩, fun k hk => ⟨(h2 k hk).1.later (by omega), (h2 k hk).2⟩⟩
  · rw [ho nb (fun e => hA.2.2.1 e.symm)]; exact h1.row
  · exact h1.cst.kept (fun g cur _ hg => ho g (fun e => hA.2.2.2 (e ▸ hg)))
theorem OnY.sail {Rx : Nat → Nat → Prop} {cv : Value} (h : OnW base w1 x s Rx W nb n cv cs br) (h2 : ∀ k, A k → Asd [x].length Rx W k ∧ base ≤ k ∧ k ≠ nb ∧ cv.ownBlock ≠ some k) {Rx' : Nat → Nat → Prop} (hs : Sail GA base W [x] Rx W' [s'] Rx') :
    OnY base w1 x nb n s' cs br A W' ∧ KeepA A W W' :=
  ⟨⟨Rx', cv, h.sail hs, fun k hk => ⟨hs.asd (h2 k hk).1, (h2 k hk).2⟩⟩, hs.chg.size, fun k hk => hs.blk (h2 k hk).1⟩

theorem z_round (h : OnY base w1 x nb n s cs br A W) : Calls Tryz.prog 23 #[pv x] W fun e w' => e = .returned (.int .i64 s.round) ∧ w' = W := by
  obtain ⟨Rx, cv, h1, h2⟩ := h
  exact nround (i := 0) h1.flk.net rfl rfl
theorem z_height (h : OnY base w1 x nb n s cs br A W) : Calls Tryz.prog 24 #[pv x] W fun e w' => e = .returned (.int .i64 s.height) ∧ w' = W := by
  obtain ⟨Rx, cv, h1, h2⟩ := h
  exact nheight (i := 0) h1.flk.net rfl rfl
theorem z_dec (h : OnY base w1 x nb n s cs br A W) : Calls Tryz.prog 21 #[pv x, .int .i64 0] W fun e w' => (∃ u, e = .returned (.tuple #[u, .bool (s.isDec 0)]) ∧ ∀ v, getA 0 s.decs = some v → LRow (New W w') w' u v.list) ∧ Below W.heap.size W w' := by
  obtain ⟨Rx, cv, h1, h2⟩ := h
  refine (ndecided (i := 0) GA.gf h1.flk.net rfl rfl 0).mono ?_
  rintro e w' ⟨hd, hb⟩
  refine ⟨?_, hb⟩
  unfold DecE at hd
  have e0 : s.isDec 0 = (getA 0 s.decs).isSome := rfl
  rw [e0]
  rcases hg : getA 0 s.decs with _ | v
  · rw [hg] at hd
    exact ⟨_, hd, fun v hv => by cases hv⟩
  · rw [hg] at hd
    obtain ⟨u, e1, e2⟩ := hd
    exact ⟨u, e1, fun v' hv => by cases hv; exact e2⟩
theorem z_tick (h : OnY base w1 x nb n s cs br A W) (hT : s.ticks ≤ 1000000000000) : Calls Tryz.prog 18 #[pv x] W fun e w' => ∃ v A', e = .returned v ∧ (∀ k, A k → A' k) ∧ OnY base w1 x nb n s.tick.1 cs br A' w' ∧ KeepA A W w' ∧ OutR (fun k => ¬ A' k) W w' v s.tick.2 := by
  obtain ⟨Rx, cv, h1, h2⟩ := h
  refine (ntick (i := 0) GA.gf h1.flk.net h1.flk.size rfl rfl hT).mono ?_
  rintro e w' ⟨v, Rs', rfl, hs, ho⟩
  obtain ⟨h3, h4⟩ := OnY.sail h1 h2 hs
  refine ⟨v, fun k => A k ∨ NewZ (AllR [x].length Rs') W w' k, rfl, fun k hk => .inl hk, ?_, h4, ho.other (fun k hk k1 k2 => ?_)⟩
  · refine ⟨Rs', cv, h1.sail hs, fun k hk => ?_⟩
    rcases hk with hk | hk
    · exact ⟨hs.asd (h2 k hk).1, (h2 k hk).2⟩
    · have hz := hk.1.1
      refine ⟨⟨hk.1.2, hk.2⟩, Nat.le_trans h1.flk.size hz, fun e => ?_, fun e => ?_⟩
      · have := h1.nbA.1; omega
      · have := (h1.cvA k e).1.1; omega
  · exact Classical.byContradiction fun q => hk (.inr ⟨⟨k1, k2⟩, q⟩)
theorem z_accept (h : OnY base w1 x nb n s cs br A W) (d : ByteArray) : Calls Tryz.prog 25 #[pv x, .string d] W fun e w' => e = .returned (.tuple #[]) ∧ OnY base w1 x nb n (s.accept d) cs br A w' ∧ KeepA A W w' := by
  obtain ⟨Rx, cv, h1, h2⟩ := h
  refine (naccept (i := 0) h1.flk.net h1.flk.size rfl rfl d).mono ?_
  rintro e w' ⟨rfl, Rs', hs⟩
  exact ⟨rfl, OnY.sail h1 h2 hs⟩
theorem z_begin (h : OnY base w1 x nb n s cs br A W) {R0 : Nat → Prop} {v : Value} {l : List ByteArray} (hr : LRow R0 W v l) (h0 : ∀ k, R0 k → k < W.heap.size) (hl : l.length ≤ 60) (hv : GA (digV l) l) :
    Calls Tryz.prog 16 #[pv x, .int .i64 0, v] W fun e w' => (∃ u, e = .returned u) ∧ OnY base w1 x nb n (s.begin 0 (ascS l) (digV l) l).1 cs br A w' ∧ KeepA A W w' := by
  obtain ⟨Rx, cv, h1, h2⟩ := h
  refine (nbegin (i := 0) GA.gf h1.flk.net h1.flk.size rfl rfl hr h0 hl h1.flk.gl (fun _ => hv) 0).mono ?_
  rintro e w' ⟨rfl, Rs', hs⟩
  exact ⟨⟨_, rfl⟩, OnY.sail h1 h2 hs⟩
theorem z_recv (h : OnY base w1 x nb n s cs br A W) {R0 : Nat → Prop} {v : Value} {m : MsgB} (hm : MsgV R0 W v m) (h0 : ∀ k, R0 k → k < W.heap.size) (hl : m.list.length ≤ 60) (hv : validB m = true → m.kind = 3 → GA m.dig m.list) :
    Calls Tryz.prog 20 #[pv x, v] W fun e w' => e = .returned (.tuple #[]) ∧ OnY base w1 x nb n (s.receive m (validB m)) cs br A w' ∧ KeepA A W w' := by
  obtain ⟨Rx, cv, h1, h2⟩ := h
  refine (nrecv (i := 0) GA.gf h1.flk.net h1.flk.size rfl rfl hm h0 hl h1.flk.gl hv).mono ?_
  rintro e w' ⟨rfl, Rs', hs⟩
  exact ⟨rfl, OnY.sail h1 h2 hs⟩
theorem z_note (h : OnY base w1 x nb n s cs br A W) (m : MsgB) (ao : Option Addr) (cap : Nat) (hl : cs.length ≤ 1000000000) :
    Calls Tryz.prog 28 #[pv nb, .agg (encM m (.slice ao m.list.length cap))] W fun e w' => e = .returned (.tuple #[]) ∧ OnY base w1 x nb n s (noteC false br cs m).2 (noteC false br cs m).1 A w' ∧ KeepA A W w' := by
  obtain ⟨Rx, cv, h1, h2⟩ := h
  refine (note_any h1.row h1.cst hl (fun W' hb => decided_none ((hb.block nb h1.nbA.1).trans h1.row) m.height)).mono ?_
  rintro e w' ⟨rfl, hd⟩
  obtain ⟨cv', h3, hc⟩ := h1.noted hd
  have hk : ∀ k, A k → w'.heap[k]? = W.heap[k]? := fun k hk => hc.block k (h2 k hk).1.1 (fun e => by
    rcases e with e | e
    · exact (h2 k hk).2.2.1 e
    · exact (h2 k hk).2.2.2 e)
  refine ⟨rfl, ⟨Rx, cv', h3, fun k hk => ⟨(h2 k hk).1.later hc.size, (h2 k hk).2.1, (h2 k hk).2.2.1, fun e => ?_⟩⟩, hc.size, hk⟩
  have q := h3.cst
  obtain ⟨⟨cv2, e1, e2, e3⟩, _⟩ := hd
  have e4 : cv2 = cv' := by
    have := h3.row
    rw [e1] at this
    injection this with this
    injection this with this _ _
    have : (netRow n 0 0 0 (.slice none 0 0) (.slice none 0 0) (.slice none 0 0) cv2 (noteC false br cs m).1)[7]? = (netRow n 0 0 0 (.slice none 0 0) (.slice none 0 0) (.slice none 0 0) cv' (noteC false br cs m).1)[7]? := by rw [this]
    simpa [netRow] using this
  subst e4
  rcases e3 k e with q2 | q2
  · exact (h2 k hk).2.2.2 q2
  · have := (h2 k hk).1.1; omega
end

section
variable {D L : Type} [DecidableEq D] [Dg D] [DecidableEq L] [Inhabited L]
theorem noteGo_mono (over : Bool) (m : Msg D L) : ∀ (cs : List (Cast D)), (noteGo over m true cs).1 = true
  | [] => rfl
  | c :: cs => by
    unfold noteGo
    split
    · exact noteGo_mono over m cs
    · simp only [Bool.true_or]
      split
      · rfl
      · exact noteGo_mono over m cs
theorem noteC_mono (over : Bool) (cs : List (Cast D)) (m : Msg D L) : (noteC over true cs m).1 = true := by
  unfold noteC
  split
  · rfl
  · exact noteGo_mono over m cs
theorem noteC_len (over b : Bool) (cs : List (Cast D)) (m : Msg D L) : (noteC over b cs m).2.length ≤ cs.length + 1 := by
  unfold noteC
  split
  · simp
  · simp only
    split
    · simp
    · simp
theorem noteL_mono (over : Bool) : ∀ (ms : List (Msg D L)) (cs : List (Cast D)), (noteL over (true, cs) ms).1 = true
  | [], _ => rfl
  | m :: ms, cs => by
    unfold noteL
    split
    · exact noteL_mono over ms cs
    · have : noteC over true cs m = (true, (noteC over true cs m).2) := Prod.ext (noteC_mono over cs m) rfl
      rw [this]
      exact noteL_mono over ms _
theorem noteL_len (over : Bool) : ∀ (ms : List (Msg D L)) (x : Bool × List (Cast D)), (noteL over x ms).2.length ≤ x.2.length + ms.length
  | [], x => by simp [noteL]
  | m :: ms, x => by
    unfold noteL
    refine Nat.le_trans (noteL_len over ms _) ?_
    split
    · simp
    · have := noteC_len over x.1 x.2 m
      simp; omega
theorem noteL_append (over : Bool) : ∀ (ms ns : List (Msg D L)) (x : Bool × List (Cast D)), noteL over x (ms ++ ns) = noteL over (noteL over x ms) ns
  | [], _, _ => rfl
  | m :: ms, ns, x => by
    show noteL over _ (ms ++ ns) = _
    rw [noteL_append over ms ns]
    rfl
end

theorem tick_lenO {s : StB} (hf : Fit GA s) : s.tick.2.length ≤ 4000 := by
  have ha : s.answers.length ≤ 728 := by
    rw [answers_at]
    have h1 := flat_len hf.qi.q (sortI (s.ques.map (·.1)))
    have h2 := hf.qi.q.len
    rw [sortI_len, List.length_map] at h1
    omega
  by_cases hd : s.isDec s.height = true
  · rw [tick_done hd]; show s.answers.length ≤ _; omega
  · rw [tick_open (by simpa using hd)]
    show (s.answers ++ _).length ≤ _
    rw [List.length_append]
    have h1 := sends_len s.tk2 (s.tk2.mine.drop s.tkFrom)
    have h2 := (tk2_inv hf.ok.inv).num.n7
    have h3 := (tk2_inv hf.ok.inv).mine_len
    have h4 : (s.tk2.mine.drop s.tkFrom).length ≤ 400 := by rw [List.length_drop]; omega
    have h5 : s.tk2.n.toNat * (s.tk2.mine.drop s.tkFrom).length ≤ 7 * 400 := Nat.mul_le_mul (by omega) h4
    omega

end Go.Proofs.YtifcdjmcoibblaaGreatDoor
