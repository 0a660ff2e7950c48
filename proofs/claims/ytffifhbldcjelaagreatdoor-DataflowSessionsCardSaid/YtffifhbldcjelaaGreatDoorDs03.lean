/-
  A flow in memory: which blocks bear it. Flows: room, Len, Value. Flows: New, add.
-/
import Derived.Test.YtffifhbldcjelaaGreatDoorDs01
import Derived.Test.YtffifhbldcjelaaGreatDoorDs02
import Derived.Test.YtffifhbldcjelaaGreatDoorProg
import Derived.Laws.OwnMore
import Derived.WalkLawsBesides
import Derived.WalkSpells

/-! A flow in memory: which blocks bear it. -/
namespace Go.Proofs.YtffifhbldcjelaaGreatDoor
set_option linter.unusedVariables false
set_option linter.unusedSimpArgs false
open Go.RowKit

def ptr (b : Nat) : Value := .pointer (some ⟨b, 0, none⟩)

def entC (e : En) (sl : Value) (rb : Nat) : Obj := .cells #[.string e.nm, .string e.val, .bool e.node, .bool e.stale, sl, .map (some rb)] 58 (0, 0)

/-- the slice v reads as the pointers ps -/
def RowP (W : World) (v : Value) (ps : List Nat) : Prop :=
  ∃ ao cap, v = .slice ao ps.length cap ∧ ((ao = none → cap = 0) ∧ ps.length ≤ cap) ∧
    (ps = [] ∨ ∃ g o cur fr, ao = some ⟨g, o, none⟩ ∧ W.heap[g]? = some (.cells cur 53 fr) ∧ ∀ i p, ps[i]? = some p → cur[o + i]? = some (ptr p))

structure Rep (B : Nat) (W : World) (f M : Nat) (bl rb : ByteArray → Nat) (sl : ByteArray → Value) (F : List En) : Prop where
  flow : W.heap[f]? = some (.cells #[.map (some M)] 52 (0, 0))
  names : ∃ L, RawMap W M L ∧ L.Perm (F.map fun e => (.string e.nm, ptr (bl e.nm)))
  ent : ∀ e ∈ F, W.heap[bl e.nm]? = some (entC e (sl e.nm) (rb e.nm))
  row : ∀ e ∈ F, RowP W (sl e.nm) (e.rds.map bl)
  rdr : ∀ e ∈ F, ∃ L, RawMap W (rb e.nm) L ∧ L.Perm ((F.filter (hasR · e.nm)).map fun x => (ptr (bl x.nm), .bool true))
  injB : ∀ a ∈ F, ∀ b ∈ F, bl a.nm = bl b.nm → a.nm = b.nm
  injR : ∀ a ∈ F, ∀ b ∈ F, rb a.nm = rb b.nm → a.nm = b.nm
  rbM : ∀ e ∈ F, rb e.nm ≠ M
  baseM : B ≤ M
  baseB : ∀ e ∈ F, B ≤ bl e.nm
  baseR : ∀ e ∈ F, B ≤ rb e.nm
  srt : SortedF F

/-- a block that a flow of this call may turn -/
def Mine (B : Nat) (X : World) (k : Nat) : Prop := B ≤ k ∧ ((∃ es c, X.heap[k]? = some (.map es c)) ∨ ∃ cs fr, X.heap[k]? = some (.cells cs 58 fr))

/-- Y is X but for new blocks and blocks of flows -/
structure Mv (B : Nat) (X Y : World) : Prop where
  os : Y.os = X.os
  tape : Y.tape = X.tape
  output : Y.output = X.output
  size : X.heap.size ≤ Y.heap.size
  block : ∀ k, k < X.heap.size → ¬ Mine B X k → Y.heap[k]? = X.heap[k]?

theorem Mv.refl (B : Nat) (X : World) : Mv B X X := ⟨rfl, rfl, rfl, Nat.le_refl _, fun _ _ _ => rfl⟩
theorem Mv.trans {B : Nat} {X Y Z : World} (h : Mv B X Y) (h2 : Mv B Y Z) : Mv B X Z :=
  ⟨h2.os.trans h.os, h2.tape.trans h.tape, h2.output.trans h.output, Nat.le_trans h.size h2.size, fun k hk hn => by
    have e := h.block k hk hn
    refine (h2.block k (Nat.lt_of_lt_of_le hk h.size) (fun c => hn ⟨c.1, ?_⟩)).trans e
    rw [← e]; exact c.2⟩
theorem Mv.of_below {B : Nat} {X Y : World} (h : Below X.heap.size X Y) : Mv B X Y := ⟨h.os, h.tape, h.output, h.size, fun k hk _ => h.block k hk⟩
theorem Mv.below {B : Nat} {X Y : World} (h : Mv B X Y) (hB : B ≤ X.heap.size) : Below B X Y := ⟨h.os, h.tape, h.output, h.size, fun k hk => h.block k (by omega) (fun c => by have := c.1; omega)⟩
theorem Mv.drew {B : Nat} {X Y : World} (h : Mv B X Y) : Mv B X Y.drew := ⟨h.os, h.tape, h.output, h.size, h.block⟩
theorem Mv.put {B : Nat} {X Y : World} (h : Mv B X Y) {k : Nat} (o : Obj) (hk : Mine B Y k ∨ X.heap.size ≤ k) : Mv B X (Y.putObj k o) :=
  ⟨h.os, h.tape, h.output, by rw [World.putObj_size]; exact h.size, fun j hj hn => by
    have e := h.block j hj hn
    rw [World.putObj_heap_other (fun e1 => by
      subst e1
      rcases hk with hk | hk
      · exact hn ⟨hk.1, by rw [← e]; exact hk.2⟩
      · omega)]
    exact e⟩
theorem Mv.grown {B : Nat} {X Y Z : World} (h : Mv B X Y) {r : Nat} (g : Y.grownBy Z (some r)) (hr : Mine B Y r ∨ X.heap.size ≤ r) : Mv B X Z :=
  ⟨g.os.trans h.os, g.tape.trans h.tape, g.output.trans h.output, Nat.le_trans h.size g.size, fun j hj hn => by
    have e := h.block j hj hn
    rw [g.block j (Nat.lt_of_lt_of_le hj h.size) (fun e1 => by
      cases e1
      rcases hr with hk | hk
      · exact hn ⟨hk.1, by rw [← e]; exact hk.2⟩
      · omega)]
    exact e⟩

/-! look-ups in a list of entries -/
theorem getV_mem {x v : Value} : ∀ {L : List (Value × Value)}, (L.map (·.1)).Nodup → (getV x L = some v ↔ (x, v) ∈ L)
  | [], _ => by simp [getV]
  | p :: L, hn => by
    rw [List.map_cons, List.nodup_cons] at hn
    unfold getV
    split
    · rename_i h
      subst h
      constructor
      · intro e; cases e; simp
      · intro e
        rcases List.mem_cons.1 e with e | e
        · rw [← e]
        · exact absurd (List.mem_map.2 ⟨_, e, rfl⟩) hn.1
    · rename_i h
      rw [getV_mem hn.2]
      constructor
      · intro e; exact List.mem_cons_of_mem _ e
      · intro e
        rcases List.mem_cons.1 e with e | e
        · rw [← e] at h; exact absurd rfl h
        · exact e

theorem getV_perm {x : Value} {L L' : List (Value × Value)} (h : L.Perm L') (hn : (L'.map (·.1)).Nodup) : getV x L = getV x L' := by
  have hn2 : (L.map (·.1)).Nodup := (h.map _).nodup_iff.2 hn
  rcases h1 : getV x L' with _ | v
  · rcases h2 : getV x L with _ | v
    · rfl
    · have := (getV_mem hn).2 (h.mem_iff.1 ((getV_mem hn2).1 h2))
      rw [h1] at this; cases this
  · exact (getV_mem hn2).2 (h.mem_iff.2 ((getV_mem hn).1 h1))

theorem str_inj {a b : ByteArray} (h : Value.string a = Value.string b) : a = b := by injection h
theorem ptr_inj {a b : Nat} (h : ptr a = ptr b) : a = b := by unfold ptr at h; injection h with h; injection h with h; injection h

theorem pw_ne {F : List En} (h : SortedF F) : F.Pairwise (fun a b => a.nm ≠ b.nm) := h.imp (fun hlt e => by rw [e] at hlt; exact ltB_irr _ hlt)

theorem names_nodup {F : List En} (h : SortedF F) (bl : ByteArray → Nat) : ((F.map fun e => ((.string e.nm, ptr (bl e.nm)) : Value × Value)).map (·.1)).Nodup := by
  rw [List.map_map]
  exact List.pairwise_map.2 ((pw_ne h).imp (fun h e => h (str_inj e)))

theorem getV_names {F : List En} (h : SortedF F) (bl : ByteArray → Nat) (n : ByteArray) : getV (.string n) (F.map fun e => (.string e.nm, ptr (bl e.nm))) = (atF F n).map (fun e => ptr (bl e.nm)) := by
  rcases hf : atF F n with _ | e
  · rcases h2 : getV (.string n) (F.map fun e => (.string e.nm, ptr (bl e.nm))) with _ | v
    · exact h2
    · obtain ⟨e, he, hv⟩ := List.mem_map.1 ((getV_mem (names_nodup h bl)).1 h2)
      injection hv with h3 _
      exact absurd (str_inj h3) (atF_none hf e he)
  · obtain ⟨h1, h2⟩ := atF_some hf
    exact (getV_mem (names_nodup h bl)).2 (List.mem_map.2 ⟨e, h1, by subst h2; rfl⟩)

theorem zeroP (w : World) : (zeroValue 53).run Tryz.prog w = .ok (.pointer none) w := by kernel_rfl
theorem zeroB (w : World) : (zeroValue 4).run Tryz.prog w = .ok (.bool false) w := by kernel_rfl

theorem keyN : RawKey Tryz.prog 9 goodS := rawString Tryz.underlying9

theorem goodN {F : List En} {bl : ByteArray → Nat} {L : List (Value × Value)} {w : World} (h : L.Perm (F.map fun e => (.string e.nm, ptr (bl e.nm)))) : KeysGood goodS w L := fun p hp => by
  obtain ⟨e, _, rfl⟩ := List.mem_map.1 (h.mem_iff.1 hp)
  exact ⟨e.nm, rfl⟩

theorem Rep.look {B : Nat} {W : World} {f M : Nat} {bl rb : ByteArray → Nat} {sl : ByteArray → Value} {F : List En} (h : Rep B W f M bl rb sl F) (n : ByteArray) (ok : Bool) :
    (Instr.lookup 50 (.map (some M)) (.string n) ok).run Tryz.prog W = .ok (match atF F n with
      | some e => if ok then .tuple #[ptr (bl n), .bool true] else ptr (bl n)
      | none => if ok then .tuple #[.pointer none, .bool false] else .pointer none) W := by
  obtain ⟨L, hL, hp⟩ := h.names
  rw [hL.lookup keyN Tryz.underlying50 (goodN hp) ⟨n, rfl⟩ (zeroP W) ok, getV_perm hp (names_nodup h.srt bl), getV_names h.srt bl n]
  rcases hf : atF F n with _ | e
  · rfl
  · obtain ⟨_, h2⟩ := atF_some hf
    subst h2; rfl

end Go.Proofs.YtffifhbldcjelaaGreatDoor

/-! Flows: room, Len, Value. -/
namespace Go.Proofs.YtffifhbldcjelaaGreatDoor
set_option linter.unusedVariables false
set_option linter.unusedSimpArgs false
open Go.RowKit

section
variable {B : Nat} {W : World} {f M : Nat} {bl rb : ByteArray → Nat} {sl : ByteArray → Value} {F : List En}

theorem cell_blk {W : World} {b o : Nat} {cs : Array Value} {t : TypeId} {fr : Nat × Nat} {v : Value} (h : W.heap[b]? = some (.cells cs t fr)) (hv : cs[o]? = some v) : W.cell? ⟨b, o, none⟩ = some v := by simp [World.cell?, h, hv]
theorem frz_blk {W : World} {b o : Nat} {cs : Array Value} {t : TypeId} (h : W.heap[b]? = some (.cells cs t (0, 0))) : W.frozen? ⟨b, o, none⟩ = false := by simp [World.frozen?, h]

theorem Rep.cellM (h : Rep B W f M bl rb sl F) : W.cell? ⟨f, 0, none⟩ = some (.map (some M)) := cell_blk h.flow rfl

/-- the cells of a name -/
structure Cells (W : World) (b : Nat) (e : En) (s : Value) (r : Nat) : Prop where
  c0 : W.cell? ⟨b, 0, none⟩ = some (.string e.nm)
  c1 : W.cell? ⟨b, 1, none⟩ = some (.string e.val)
  c2 : W.cell? ⟨b, 2, none⟩ = some (.bool e.node)
  c3 : W.cell? ⟨b, 3, none⟩ = some (.bool e.stale)
  c4 : W.cell? ⟨b, 4, none⟩ = some s
  c5 : W.cell? ⟨b, 5, none⟩ = some (.map (some r))
  fz : ∀ o, W.frozen? ⟨b, o, none⟩ = false

theorem cells_ent {b : Nat} {e : En} {s : Value} {r : Nat} (h : W.heap[b]? = some (entC e s r)) : Cells W b e s r :=
  ⟨cell_blk h rfl, cell_blk h rfl, cell_blk h rfl, cell_blk h rfl, cell_blk h rfl, cell_blk h rfl, fun o => frz_blk h⟩

theorem Rep.cells (h : Rep B W f M bl rb sl F) {n : ByteArray} {e : En} (he : atF F n = some e) : Cells W (bl n) e (sl n) (rb n) := by
  obtain ⟨h1, h2⟩ := atF_some he
  have := h.ent e h1
  rw [h2] at this
  exact cells_ent this

theorem Rep.size (h : Rep B W f M bl rb sl F) : ∃ L, RawMap W M L ∧ L.length = F.length := by
  obtain ⟨L, hL, hp⟩ := h.names
  exact ⟨L, hL, by rw [hp.length_eq]; simp⟩

theorem Rep.look_hit (h : Rep B W f M bl rb sl F) {n : ByteArray} {e : En} (he : atF F n = some e) (ok : Bool) : (Instr.lookup 50 (.map (some M)) (.string n) ok).run Tryz.prog W = .ok (if ok then .tuple #[.pointer (some ⟨bl n, 0, none⟩), .bool true] else .pointer (some ⟨bl n, 0, none⟩)) W := by
  rw [h.look n ok, he]; rfl
theorem Rep.look_miss (h : Rep B W f M bl rb sl F) {n : ByteArray} (he : atF F n = none) (ok : Bool) : (Instr.lookup 50 (.map (some M)) (.string n) ok).run Tryz.prog W = .ok (if ok then .tuple #[.pointer none, .bool false] else .pointer none) W := by
  rw [h.look n ok, he]

set_option maxRecDepth 100000 in
theorem room_any (h : Rep B W f M bl rb sl F) (hF : F.length ≤ 1000) : Calls Tryz.prog 19 #[.pointer (some ⟨f, 0, none⟩)] W fun e w' => e = .returned (.bool true) ∧ W = w' := by
  obtain ⟨L, hM, hsz⟩ := h.size
  have hc := h.cellM
  obtain ⟨s, hse⟩ : ∃ s, L.length = s := ⟨_, rfl⟩
  have hs : s ≤ 1000 := by omega
  have HM := Lib.hid hM
  have HE := Lib.hid hse
  have HS := Lib.hid (hse.symm.trans hsz)
  clear hM hse
  have hd : decide ((s : Int) < 20000) = true := by simp; omega
  clear hsz h
  go_enter Tryz.func19, Tryz.ntmps19
  go_wp2_with (refine wpList_len_raw _ rfl (.tmp 6) 50 (by rfl) 9 53 Tryz.underlying50 M L (by rfl) HM.out ?_; rw [HE.out])
  go_ret
  exact ⟨rfl, rfl⟩

set_option maxRecDepth 100000 in
theorem len_any (h : Rep B W f M bl rb sl F) (hF : F.length ≤ 1000000) : Calls Tryz.prog 16 #[.pointer (some ⟨f, 0, none⟩)] W fun e w' => e = .returned (.int .i64 F.length) ∧ W = w' := by
  obtain ⟨L, hM, hsz⟩ := h.size
  have hc := h.cellM
  obtain ⟨s, hse⟩ : ∃ s, L.length = s := ⟨_, rfl⟩
  have hs : s ≤ 1000000 := by omega
  have HM := Lib.hid hM
  have HE := Lib.hid hse
  have HS := Lib.hid (hse.symm.trans hsz)
  clear hM hse
  clear hsz h
  go_enter Tryz.func16, Tryz.ntmps16
  go_wp2_with (refine wpList_len_raw _ rfl (.tmp 8) 50 (by rfl) 9 53 Tryz.underlying50 M L (by rfl) HM.out ?_; rw [HE.out])
  go_ret
  rw [← HS.out]
  exact ⟨rfl, rfl⟩

def valF (F : List En) (n : ByteArray) : ByteArray × Bool :=
  match atF F n with
  | some e => if e.stale = true then (ByteArray.mk #[], false) else (e.val, true)
  | none => (ByteArray.mk #[], false)

theorem value_any (h : Rep B W f M bl rb sl F) (n : ByteArray) : Calls Tryz.prog 13 #[.pointer (some ⟨f, 0, none⟩), .string n] W fun e w' => e = .returned (.tuple #[.string (valF F n).1, .bool (valF F n).2]) ∧ W = w' := by
  have hc := h.cellM
  rcases he : atF F n with _ | e
  · have hl := h.look_miss he true
    have HV := Lib.hid (show valF F n = (ByteArray.mk #[], false) by unfold valF; rw [he])
    clear he h
    go_enter Tryz.func13, Tryz.ntmps13
    go_wp2
    go_ret2
    rw [HV.out]
    exact ⟨rfl, rfl⟩
  · have hl := h.look_hit he true
    obtain ⟨c0, c1, c2, c3, c4, c5, _⟩ := h.cells he
    rcases hs : e.stale with _ | _
    · have HV := Lib.hid (show valF F n = (e.val, true) by unfold valF; rw [he]; simp [hs])
      rw [hs] at c3
      clear he h hs
      go_enter Tryz.func13, Tryz.ntmps13
      go_wp2
      go_ret2
      rw [HV.out]
      exact ⟨rfl, rfl⟩
    · have HV := Lib.hid (show valF F n = (ByteArray.mk #[], false) by unfold valF; rw [he]; simp [hs])
      rw [hs] at c3
      clear he h hs
      go_enter Tryz.func13, Tryz.ntmps13
      go_wp2
      go_ret2
      rw [HV.out]
      exact ⟨rfl, rfl⟩

end
end Go.Proofs.YtffifhbldcjelaaGreatDoor

/-! Flows: New, add. -/
namespace Go.Proofs.YtffifhbldcjelaaGreatDoor
set_option linter.unusedVariables false
set_option linter.unusedSimpArgs false
open Go.RowKit

theorem insF_perm (x : En) : ∀ (F : List En), (insF x F).Perm (x :: F)
  | [] => List.Perm.refl _
  | e :: r => by
    unfold insF
    split
    · exact List.Perm.refl _
    · exact ((insF_perm x r).cons e).trans (List.Perm.swap x e r)

theorem putV_new {k v : Value} : ∀ {L : List (Value × Value)}, (∀ p ∈ L, p.1 ≠ k) → putV k v L = L ++ [(k, v)]
  | [], _ => rfl
  | p :: L, h => by
    have h1 := h p (by simp)
    unfold putV
    rw [if_neg h1, putV_new (fun q hq => h q (by simp [hq]))]; rfl

theorem RowP.kept {W W' : World} {v : Value} {ps : List Nat} (h : RowP W v ps) (hk : ∀ (g : Nat) (cur : Array Value) (fr : Nat × Nat), W.heap[g]? = some (Obj.cells cur 53 fr) → W'.heap[g]? = W.heap[g]?) : RowP W' v ps := by
  obtain ⟨ao, cap, h1, h2, h3⟩ := h
  refine ⟨ao, cap, h1, h2, ?_⟩
  rcases h3 with h3 | ⟨g, o, cur, fr, h4, h5, h6⟩
  · exact .inl h3
  · exact .inr ⟨g, o, cur, fr, h4, (hk g cur fr h5).trans h5, h6⟩

theorem RowP.nil (W : World) : RowP W (.slice none 0 0) [] := ⟨none, 0, rfl, ⟨fun _ => rfl, Nat.le_refl _⟩, .inl rfl⟩

section
variable {B : Nat} {W : World} {f M : Nat} {bl rb : ByteArray → Nat} {sl : ByteArray → Value} {F : List En}

theorem lt_of_blk {W : World} {b : Nat} {o : Obj} (h : W.heap[b]? = some o) : b < W.heap.size := (Array.getElem?_eq_some_iff.1 h).1

theorem Rep.ltM (h : Rep B W f M bl rb sl F) : M < W.heap.size := by obtain ⟨L, hL, _⟩ := h.names; exact hL.lt
theorem Rep.ltB (h : Rep B W f M bl rb sl F) {e : En} (he : e ∈ F) : bl e.nm < W.heap.size := lt_of_blk (h.ent e he)
theorem Rep.ltR (h : Rep B W f M bl rb sl F) {e : En} (he : e ∈ F) : rb e.nm < W.heap.size := by obtain ⟨L, hL, _⟩ := h.rdr e he; exact hL.lt
theorem Rep.ltF (h : Rep B W f M bl rb sl F) : f < W.heap.size := lt_of_blk h.flow
theorem Rep.mapM (h : Rep B W f M bl rb sl F) : ∃ es c, W.heap[M]? = some (.map es c) := by obtain ⟨L, ⟨es, c, h1, _⟩, _⟩ := h.names; exact ⟨es, c, h1⟩
theorem Rep.mapR (h : Rep B W f M bl rb sl F) {e : En} (he : e ∈ F) : ∃ es c, W.heap[rb e.nm]? = some (.map es c) := by obtain ⟨L, ⟨es, c, h1, _⟩, _⟩ := h.rdr e he; exact ⟨es, c, h1⟩
theorem Rep.neM (h : Rep B W f M bl rb sl F) {g : Nat} {cur : Array Value} {t : TypeId} {fr : Nat × Nat} (hg : W.heap[g]? = some (.cells cur t fr)) : g ≠ M := fun e => by
  obtain ⟨es, c, h1⟩ := h.mapM
  rw [e, h1] at hg; cases hg
theorem Rep.neR (h : Rep B W f M bl rb sl F) {e : En} (he : e ∈ F) {g : Nat} {cur : Array Value} {t : TypeId} {fr : Nat × Nat} (hg : W.heap[g]? = some (.cells cur t fr)) : g ≠ rb e.nm := fun e' => by
  obtain ⟨es, c, h1⟩ := h.mapR he
  rw [e', h1] at hg; cases hg
theorem Rep.mineM (h : Rep B W f M bl rb sl F) : Mine B W M := ⟨h.baseM, .inl h.mapM⟩
theorem Rep.mineR (h : Rep B W f M bl rb sl F) {e : En} (he : e ∈ F) : Mine B W (rb e.nm) := ⟨h.baseR e he, .inl (h.mapR he)⟩
theorem Rep.mineB (h : Rep B W f M bl rb sl F) {e : En} (he : e ∈ F) : Mine B W (bl e.nm) := ⟨h.baseB e he, .inr ⟨_, _, h.ent e he⟩⟩

/-- nothing of the flow has turned -/
theorem Rep.kept {W' : World} (h : Rep B W f M bl rb sl F) (hk : ∀ k, k < W.heap.size → W'.heap[k]? = W.heap[k]?) : Rep B W' f M bl rb sl F := by
  obtain ⟨L, hL, hp⟩ := h.names
  refine ⟨(hk f h.ltF).trans h.flow, ⟨L, hL.kept (hk M hL.lt), hp⟩, fun e he => (hk _ (h.ltB he)).trans (h.ent e he), fun e he => (h.row e he).kept (fun g cur fr hg => hk g (lt_of_blk hg)), fun e he => ?_, h.injB, h.injR, h.rbM, h.baseM, h.baseB, h.baseR, h.srt⟩
  obtain ⟨L', hL', hp'⟩ := h.rdr e he
  exact ⟨L', hL'.kept (hk _ hL'.lt), hp'⟩
theorem Rep.later {W' : World} (h : Rep B W f M bl rb sl F) (hb : Below W.heap.size W W') : Rep B W' f M bl rb sl F := h.kept (fun k hk => hb.block k hk)
end

def NewP (W : World) (e : Ending) (w' : World) : Prop := ∃ f M, e = .returned (.pointer (some ⟨f, 0, none⟩)) ∧ Rep W.heap.size w' f M (fun _ => 0) (fun _ => 0) (fun _ => .slice none 0 0) [] ∧ Below W.heap.size W w' ∧ W.heap.size ≤ f

set_option maxRecDepth 100000 in
theorem new_any (W : World) : Calls Tryz.prog 5 #[] W (NewP W) := by
  have hmm := @run_makeMap Tryz.prog
  have BE := Lib.hid (((Below.refl W.heap.size W).alloc (Nat.le_refl _) (.map #[] 0)).alloc (by simp) (.cells #[.map (some W.heap.size)] 52 (0, 0)))
  have R0 := Lib.hid (show Rep W.heap.size ((W.alloc (.map #[] 0)).alloc (.cells #[.map (some W.heap.size)] 52 (0, 0))) (W.heap.size + 1) W.heap.size (fun _ => 0) (fun _ => 0) (fun _ => .slice none 0 0) [] from by
    refine ⟨?_, ⟨[], (RawMap.made W).kept (Below.heap_alloc _ _ _ (by simp)), List.Perm.refl _⟩, ?_, ?_, ?_, ?_, ?_, ?_, Nat.le_refl _, ?_, ?_, List.Pairwise.nil⟩
    · have := World.alloc_heap_new (W.alloc (.map #[] 0)) (.cells #[.map (some W.heap.size)] 52 (0, 0))
      rw [World.size_alloc] at this; exact this
    all_goals (intro e he; cases he))
  go_enter Tryz.func5, Tryz.ntmps5
  go_wp2
  go_ret
  exact ⟨_, _, rfl, R0.out, BE.out, by omega⟩

/-- the new name's words -/
def upB (bl : ByteArray → Nat) (n : ByteArray) (b : Nat) : ByteArray → Nat := fun k => if k = n then b else bl k
def upV (sl : ByteArray → Value) (n : ByteArray) (v : Value) : ByteArray → Value := fun k => if k = n then v else sl k
theorem upB_same (bl : ByteArray → Nat) (n : ByteArray) (b : Nat) : upB bl n b n = b := by simp [upB]
theorem upB_other {bl : ByteArray → Nat} {n k : ByteArray} {b : Nat} (h : k ≠ n) : upB bl n b k = bl k := by simp [upB, h]
theorem upV_same (sl : ByteArray → Value) (n : ByteArray) (b : Value) : upV sl n b n = b := by simp [upV]
theorem upV_other {sl : ByteArray → Value} {n k : ByteArray} {b : Value} (h : k ≠ n) : upV sl n b k = sl k := by simp [upV, h]

section
variable {B : Nat} {W : World} {f M : Nat} {bl rb : ByteArray → Nat} {sl : ByteArray → Value} {F : List En}

theorem Rep.added {W' : World} (h : Rep B W f M bl rb sl F) (hB : B ≤ W.heap.size) {n : ByteArray} (hn : atF F n = none) (hr : ∀ e ∈ F, n ∉ e.rds) (x : En) (hx : x.nm = n) (hxr : x.rds = [])
    (hk : ∀ k, k < W.heap.size → k ≠ M → W'.heap[k]? = W.heap[k]?) (hM : ∀ L, RawMap W M L → (∀ p ∈ L, p.1 ≠ .string n) → RawMap W' M (L ++ [(.string n, ptr (W.heap.size + 1))])) (h0 : RawMap W' W.heap.size []) (h1 : W'.heap[W.heap.size + 1]? = some (entC x (.slice none 0 0) W.heap.size)) :
    Rep B W' f M (upB bl n (W.heap.size + 1)) (upB rb n W.heap.size) (upV sl n (.slice none 0 0)) (insF x F) := by
  have hne : ∀ e ∈ F, e.nm ≠ n := atF_none hn
  have hmap : ∀ e ∈ F, e.rds.map (upB bl n (W.heap.size + 1)) = e.rds.map bl := fun e he => List.map_congr_left (fun r hr' => upB_other (fun e1 => hr e he (e1 ▸ hr')))
  obtain ⟨L, hL, hp⟩ := h.names
  have hkeys : ∀ p ∈ L, p.1 ≠ .string n := fun p hp' e => by
    obtain ⟨e', he', rfl⟩ := List.mem_map.1 (hp.mem_iff.1 hp')
    exact hne e' he' (str_inj e)
  have eqF : F.map (fun e => ((.string e.nm, ptr (upB bl n (W.heap.size + 1) e.nm)) : Value × Value)) = F.map fun e => (.string e.nm, ptr (bl e.nm)) := List.map_congr_left (fun e he => by rw [upB_other (hne e he)])
  refine ⟨(hk f h.ltF (h.neM h.flow)).trans h.flow, ⟨_, hM L hL hkeys, ?_⟩, fun e he => ?_, fun e he => ?_, fun e he => ?_, fun a ha b hb e => ?_, fun a ha b hb e => ?_, fun e he => ?_, h.baseM, fun e he => ?_, fun e he => ?_, insF_sorted h.srt (by rw [hx]; exact hne)⟩
  · refine List.Perm.trans ?_ ((insF_perm x F).map _).symm
    rw [List.map_cons, hx, upB_same, eqF]
    exact (List.perm_append_comm).trans (List.Perm.cons _ hp)
  · rcases mem_insF.1 he with rfl | he
    · rw [hx, upB_same, upB_same, upV_same]; exact h1
    · rw [upB_other (hne e he), upB_other (hne e he), upV_other (hne e he), hk _ (h.ltB he) (h.neM (h.ent e he))]; exact h.ent e he
  · rcases mem_insF.1 he with rfl | he
    · rw [hx, upV_same, hxr]; exact RowP.nil _
    · rw [upV_other (hne e he), hmap e he]
      exact (h.row e he).kept (fun g cur fr hg => hk g (lt_of_blk hg) (h.neM hg))
  · have hf0 : ∀ m : ByteArray, ((insF x F).filter (hasR · m)).Perm (F.filter (hasR · m)) := fun m => by
      refine ((insF_perm x F).filter _).trans ?_
      rw [List.filter_cons]
      simp [hasR, hxr]
    rcases mem_insF.1 he with rfl | he
    · rw [hx, upB_same]
      refine ⟨[], h0, ?_⟩
      have e0 : F.filter (hasR · n) = [] := List.filter_eq_nil_iff.2 (fun y hy hh => hr y hy (hasR_iff.1 hh))
      have := (hf0 n).map (fun x => ((ptr (upB bl n (W.heap.size + 1) x.nm), .bool true) : Value × Value))
      rw [e0] at this
      exact this.symm
    · rw [upB_other (hne e he)]
      obtain ⟨L', hL', hp'⟩ := h.rdr e he
      refine ⟨L', hL'.kept (hk _ hL'.lt (h.rbM e he)), hp'.trans ?_⟩
      refine List.Perm.trans ?_ (((hf0 e.nm).map _).symm)
      have e2 : (F.filter (hasR · e.nm)).map (fun x => ((ptr (upB bl n (W.heap.size + 1) x.nm), .bool true) : Value × Value)) = (F.filter (hasR · e.nm)).map fun x => (ptr (bl x.nm), .bool true) := List.map_congr_left (fun y hy => by rw [upB_other (hne y (List.mem_filter.1 hy).1)])
      rw [e2]
  · rcases mem_insF.1 ha with ea | ha' <;> rcases mem_insF.1 hb with eb | hb'
    · rw [ea, eb]
    · rw [ea, hx, upB_same, upB_other (hne b hb')] at e; have := h.ltB hb'; omega
    · rw [eb, hx, upB_same, upB_other (hne a ha')] at e; have := h.ltB ha'; omega
    · rw [upB_other (hne a ha'), upB_other (hne b hb')] at e; exact h.injB a ha' b hb' e
  · rcases mem_insF.1 ha with ea | ha' <;> rcases mem_insF.1 hb with eb | hb'
    · rw [ea, eb]
    · rw [ea, hx, upB_same, upB_other (hne b hb')] at e; have := h.ltR hb'; omega
    · rw [eb, hx, upB_same, upB_other (hne a ha')] at e; have := h.ltR ha'; omega
    · rw [upB_other (hne a ha'), upB_other (hne b hb')] at e; exact h.injR a ha' b hb' e
  · rcases mem_insF.1 he with rfl | he
    · rw [hx, upB_same]; have := h.ltM; omega
    · rw [upB_other (hne e he)]; exact h.rbM e he
  · rcases mem_insF.1 he with rfl | he
    · rw [hx, upB_same]; omega
    · rw [upB_other (hne e he)]; exact h.baseB e he
  · rcases mem_insF.1 he with rfl | he
    · rw [hx, upB_same]; exact hB
    · rw [upB_other (hne e he)]; exact h.baseR e he

/-- what add leaves -/
def AddP (B : Nat) (W : World) (f M : Nat) (bl rb : ByteArray → Nat) (sl : ByteArray → Value) (F : List En) (n v : ByteArray) (e : Ending) (w' : World) : Prop :=
  e = .returned (.pointer (some ⟨W.heap.size + 1, 0, none⟩)) ∧ Rep B w' f M (upB bl n (W.heap.size + 1)) (upB rb n W.heap.size) (upV sl n (.slice none 0 0)) (insF ⟨n, v, false, false, []⟩ F) ∧ Mv B W w' ∧ w'.heap.size = W.heap.size + 2

set_option maxRecDepth 100000 in
set_option maxHeartbeats 1000000 in
theorem add_any (h : Rep B W f M bl rb sl F) (hB : B ≤ W.heap.size) (n v : ByteArray) (hn : atF F n = none) (hr : ∀ e ∈ F, n ∉ e.rds) :
    Calls Tryz.prog 21 #[.pointer (some ⟨f, 0, none⟩), .string n, .string v] W (AddP B W f M bl rb sl F n v) := by
  have hmm := @run_makeMap Tryz.prog
  obtain ⟨L, hL, hp⟩ := h.names
  obtain ⟨W2, hW2⟩ : ∃ W2 : World, W2 = (W.alloc (.map #[] 0)).alloc (.cells #[.string n, .string v, .bool false, .bool false, .slice none 0 0, .map (some W.heap.size)] 58 (0, 0)) := ⟨_, rfl⟩
  have hs2 : W2.heap.size = W.heap.size + 2 := by rw [hW2]; simp
  have hk2 : ∀ k, k < W.heap.size → W2.heap[k]? = W.heap[k]? := fun k hk => by rw [hW2, Below.heap_alloc _ _ _ (by rw [World.size_alloc]; omega), Below.heap_alloc _ _ _ hk]
  have hL2 : RawMap W2 M L := hL.kept (hk2 M hL.lt)
  have hm2 : RawMap W2 W.heap.size [] := by rw [hW2]; exact (RawMap.made W).kept (Below.heap_alloc _ _ _ (by simp))
  have he2 : W2.heap[W.heap.size + 1]? = some (entC ⟨n, v, false, false, []⟩ (.slice none 0 0) W.heap.size) := by
    rw [hW2]; have := World.alloc_heap_new (W.alloc (.map #[] 0)) (.cells #[.string n, .string v, .bool false, .bool false, .slice none 0 0, .map (some W.heap.size)] 58 (0, 0)); rw [World.size_alloc] at this; exact this
  have hlt : M < W.heap.size := hL.lt
  have FIN := Lib.hid (show ∀ ob, RawMap (W2.putObj M ob) M (putV (.string n) (ptr (W.heap.size + 1)) L) → AddP B W f M bl rb sl F n v (.returned (.pointer (some ⟨W.heap.size + 1, 0, none⟩))) (W2.putObj M ob) from fun ob hob => by
    refine ⟨rfl, h.added hB hn hr _ rfl rfl (fun k hk hne => by rw [World.putObj_heap_other hne]; exact hk2 k hk) (fun L' hL' hkeys => ?_) (hm2.kept (World.putObj_heap_other (by omega))) (by rw [World.putObj_heap_other (by omega)]; exact he2), ?_, by rw [World.putObj_size]; exact hs2⟩
    · have eL : L' = L := by
        obtain ⟨es, c, q1, q2, _⟩ := hL'
        obtain ⟨es', c', q1', q2', _⟩ := hL
        rw [q1] at q1'; cases q1'
        rw [← q2, ← q2']
      subst eL
      rw [putV_new hkeys] at hob; exact hob
    · refine Mv.put ⟨by rw [hW2]; rfl, by rw [hW2]; rfl, by rw [hW2]; rfl, by omega, fun k hk _ => hk2 k hk⟩ ob (.inl ⟨h.baseM, .inl ?_⟩)
      obtain ⟨es, c, q⟩ := h.mapM
      exact ⟨es, c, (hk2 M hlt).trans q⟩)
  have HL2 := Lib.hid hL2
  have HG := Lib.hid (goodN (w := W2) hp)
  have hc : ((W.alloc (.map #[] 0)).alloc (.cells #[.string n, .string v, .bool false, .bool false, .slice none 0 0, .map (some W.heap.size)] 58 (0, 0))).cell? ⟨f, 0, none⟩ = some (.map (some M)) := by rw [← hW2, World.cell?_of_block (w := W) (hk2 f h.ltF)]; exact h.cellM
  have HW2 := Lib.hid hW2
  clear hL hp hL2 hm2 he2 hk2 hs2 h hn hr hW2 hlt
  go_enter Tryz.func21, Tryz.ntmps21
  go_wp2_with (rw [← HW2.out]; refine wpList_mapUpdate_raw _ rfl (.tmp 16) (.tmp 17) (.tmp 18) 50 (by rfl) 9 53 Tryz.underlying50 keyN M L (by rfl) HL2.out HG.out (.string n) (.pointer (some ⟨W.heap.size + 1, 0, none⟩)) (by rfl) (by rfl) ⟨n, rfl⟩ ?_; intro ob hob; have HOB := Lib.hid hob; clear hob)
  go_ret
  exact FIN.out ob HOB.out
end

end Go.Proofs.YtffifhbldcjelaaGreatDoor
