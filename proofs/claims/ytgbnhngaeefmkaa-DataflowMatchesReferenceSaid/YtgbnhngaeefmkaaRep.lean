import Derived.Test.YtgbnhngaeefmkaaFlowM
import Derived.Test.YtgbnhngaeefmkaaRaw
import Derived.Test.YtgbnhngaeefmkaaProg

/-! A flow in memory: which blocks bear it. -/
namespace Go.Proofs.Ytgbnhngaeefmkaa
set_option linter.unusedVariables false
set_option linter.unusedSimpArgs false
open Go.RowKit

def ptr (b : Nat) : Value := .pointer (some ⟨b, 0, none⟩)

def entC (e : En) (sl : Value) (rb : Nat) : Obj := .cells #[.string e.nm, .string e.val, .bool e.node, .bool e.stale, sl, .map (some rb)] 80 (0, 0)

/-- the slice v reads as the pointers ps -/
def RowP (W : World) (v : Value) (ps : List Nat) : Prop :=
  ∃ ao cap, v = .slice ao ps.length cap ∧ ((ao = none → cap = 0) ∧ ps.length ≤ cap) ∧
    (ps = [] ∨ ∃ g o cur fr, ao = some ⟨g, o, none⟩ ∧ W.heap[g]? = some (.cells cur 75 fr) ∧ ∀ i p, ps[i]? = some p → cur[o + i]? = some (ptr p))

structure Rep (B : Nat) (W : World) (f M : Nat) (bl rb : ByteArray → Nat) (sl : ByteArray → Value) (F : List En) : Prop where
  flow : W.heap[f]? = some (.cells #[.map (some M)] 74 (0, 0))
  names : ∃ L, RawMap W M L ∧ L.Perm (F.map fun e => (.string e.nm, ptr (bl e.nm)))
  ent : ∀ e ∈ F, W.heap[bl e.nm]? = some (entC e (sl e.nm) (rb e.nm))
  row : ∀ e ∈ F, RowP W (sl e.nm) (e.rds.map bl)
  rdr : ∀ e ∈ F, ∃ L, RawMap W (rb e.nm) L ∧ L.Perm ((F.filter (hasR · e.nm)).map fun x => (ptr (bl x.nm), .bool true))
  injB : ∀ a ∈ F, ∀ b ∈ F, bl a.nm = bl b.nm → a.nm = b.nm
  injR : ∀ a ∈ F, ∀ b ∈ F, rb a.nm = rb b.nm → a.nm = b.nm
  rbM : ∀ e ∈ F, rb e.nm ≠ M
  baseM : B ≤ M
  baseB : ∀ e ∈ F, B ≤ bl e.nm
  baseR : ∀ e ∈ F, B ≤ rb e.nm
  srt : SortedF F

/-- a block that a flow of this call may turn -/
def Mine (B : Nat) (X : World) (k : Nat) : Prop := B ≤ k ∧ ((∃ es c, X.heap[k]? = some (.map es c)) ∨ ∃ cs fr, X.heap[k]? = some (.cells cs 80 fr))

/-- Y is X but for new blocks and blocks of flows -/
structure Mv (B : Nat) (X Y : World) : Prop where
  os : Y.os = X.os
  tape : Y.tape = X.tape
  output : Y.output = X.output
  size : X.heap.size ≤ Y.heap.size
  block : ∀ k, k < X.heap.size → ¬ Mine B X k → Y.heap[k]? = X.heap[k]?

theorem Mv.refl (B : Nat) (X : World) : Mv B X X := ⟨rfl, rfl, rfl, Nat.le_refl _, fun _ _ _ => rfl⟩
theorem Mv.trans {B : Nat} {X Y Z : World} (h : Mv B X Y) (h2 : Mv B Y Z) : Mv B X Z :=
  ⟨h2.os.trans h.os, h2.tape.trans h.tape, h2.output.trans h.output, Nat.le_trans h.size h2.size, fun k hk hn => by
    have e := h.block k hk hn
    refine (h2.block k (Nat.lt_of_lt_of_le hk h.size) (fun c => hn ⟨c.1, ?_⟩)).trans e
    rw [← e]; exact c.2⟩
theorem Mv.of_below {B : Nat} {X Y : World} (h : Below X.heap.size X Y) : Mv B X Y := ⟨h.os, h.tape, h.output, h.size, fun k hk _ => h.block k hk⟩
theorem Mv.below {B : Nat} {X Y : World} (h : Mv B X Y) (hB : B ≤ X.heap.size) : Below B X Y := ⟨h.os, h.tape, h.output, h.size, fun k hk => h.block k (by omega) (fun c => by have := c.1; omega)⟩
theorem Mv.drew {B : Nat} {X Y : World} (h : Mv B X Y) : Mv B X Y.drew := ⟨h.os, h.tape, h.output, h.size, h.block⟩
theorem Mv.put {B : Nat} {X Y : World} (h : Mv B X Y) {k : Nat} (o : Obj) (hk : Mine B Y k ∨ X.heap.size ≤ k) : Mv B X (Y.putObj k o) :=
  ⟨h.os, h.tape, h.output, by rw [World.putObj_size]; exact h.size, fun j hj hn => by
    have e := h.block j hj hn
    rw [World.putObj_heap_other (fun e1 => by
      subst e1
      rcases hk with hk | hk
      · exact hn ⟨hk.1, by rw [← e]; exact hk.2⟩
      · omega)]
    exact e⟩
theorem Mv.grown {B : Nat} {X Y Z : World} (h : Mv B X Y) {r : Nat} (g : Y.grownBy Z (some r)) (hr : Mine B Y r ∨ X.heap.size ≤ r) : Mv B X Z :=
  ⟨g.os.trans h.os, g.tape.trans h.tape, g.output.trans h.output, Nat.le_trans h.size g.size, fun j hj hn => by
    have e := h.block j hj hn
    rw [g.block j (Nat.lt_of_lt_of_le hj h.size) (fun e1 => by
      cases e1
      rcases hr with hk | hk
      · exact hn ⟨hk.1, by rw [← e]; exact hk.2⟩
      · omega)]
    exact e⟩

/-! look-ups in a list of entries -/
theorem getV_mem {x v : Value} : ∀ {L : List (Value × Value)}, (L.map (·.1)).Nodup → (getV x L = some v ↔ (x, v) ∈ L)
  | [], _ => by simp [getV]
  | p :: L, hn => by
    rw [List.map_cons, List.nodup_cons] at hn
    unfold getV
    split
    · rename_i h
      subst h
      constructor
      · intro e; cases e; simp
      · intro e
        rcases List.mem_cons.1 e with e | e
        · rw [← e]
        · exact absurd (List.mem_map.2 ⟨_, e, rfl⟩) hn.1
    · rename_i h
      rw [getV_mem hn.2]
      constructor
      · intro e; exact List.mem_cons_of_mem _ e
      · intro e
        rcases List.mem_cons.1 e with e | e
        · rw [← e] at h; exact absurd rfl h
        · exact e

theorem getV_perm {x : Value} {L L' : List (Value × Value)} (h : L.Perm L') (hn : (L'.map (·.1)).Nodup) : getV x L = getV x L' := by
  have hn2 : (L.map (·.1)).Nodup := (h.map _).nodup_iff.2 hn
  rcases h1 : getV x L' with _ | v
  · rcases h2 : getV x L with _ | v
    · rfl
    · have := (getV_mem hn).2 (h.mem_iff.1 ((getV_mem hn2).1 h2))
      rw [h1] at this; cases this
  · exact (getV_mem hn2).2 (h.mem_iff.2 ((getV_mem hn).1 h1))

theorem str_inj {a b : ByteArray} (h : Value.string a = Value.string b) : a = b := by injection h
theorem ptr_inj {a b : Nat} (h : ptr a = ptr b) : a = b := by unfold ptr at h; injection h with h; injection h with h; injection h

theorem pw_ne {F : List En} (h : SortedF F) : F.Pairwise (fun a b => a.nm ≠ b.nm) := h.imp (fun hlt e => by rw [e] at hlt; exact ltB_irr _ hlt)

theorem names_nodup {F : List En} (h : SortedF F) (bl : ByteArray → Nat) : ((F.map fun e => ((.string e.nm, ptr (bl e.nm)) : Value × Value)).map (·.1)).Nodup := by
  rw [List.map_map]
  exact List.pairwise_map.2 ((pw_ne h).imp (fun h e => h (str_inj e)))

theorem getV_names {F : List En} (h : SortedF F) (bl : ByteArray → Nat) (n : ByteArray) : getV (.string n) (F.map fun e => (.string e.nm, ptr (bl e.nm))) = (atF F n).map (fun e => ptr (bl e.nm)) := by
  rcases hf : atF F n with _ | e
  · rcases h2 : getV (.string n) (F.map fun e => (.string e.nm, ptr (bl e.nm))) with _ | v
    · exact h2
    · obtain ⟨e, he, hv⟩ := List.mem_map.1 ((getV_mem (names_nodup h bl)).1 h2)
      injection hv with h3 _
      exact absurd (str_inj h3) (atF_none hf e he)
  · obtain ⟨h1, h2⟩ := atF_some hf
    exact (getV_mem (names_nodup h bl)).2 (List.mem_map.2 ⟨e, h1, by subst h2; rfl⟩)

theorem zeroP (w : World) : (zeroValue 75).run Try.prog w = .ok (.pointer none) w := by kernel_rfl
theorem zeroB (w : World) : (zeroValue 4).run Try.prog w = .ok (.bool false) w := by kernel_rfl

theorem keyN : RawKey Try.prog 9 goodS := rawString Try.underlying9

theorem goodN {F : List En} {bl : ByteArray → Nat} {L : List (Value × Value)} {w : World} (h : L.Perm (F.map fun e => (.string e.nm, ptr (bl e.nm)))) : KeysGood goodS w L := fun p hp => by
  obtain ⟨e, _, rfl⟩ := List.mem_map.1 (h.mem_iff.1 hp)
  exact ⟨e.nm, rfl⟩

theorem Rep.look {B : Nat} {W : World} {f M : Nat} {bl rb : ByteArray → Nat} {sl : ByteArray → Value} {F : List En} (h : Rep B W f M bl rb sl F) (n : ByteArray) (ok : Bool) :
    (Instr.lookup 72 (.map (some M)) (.string n) ok).run Try.prog W = .ok (match atF F n with
      | some e => if ok then .tuple #[ptr (bl n), .bool true] else ptr (bl n)
      | none => if ok then .tuple #[.pointer none, .bool false] else .pointer none) W := by
  obtain ⟨L, hL, hp⟩ := h.names
  rw [hL.lookup keyN Try.underlying72 (goodN hp) ⟨n, rfl⟩ (zeroP W) ok, getV_perm hp (names_nodup h.srt bl), getV_names h.srt bl n]
  rcases hf : atF F n with _ | e
  · rfl
  · obtain ⟨_, h2⟩ := atF_some hf
    subst h2; rfl

end Go.Proofs.Ytgbnhngaeefmkaa
