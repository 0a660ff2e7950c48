import Derived.Test.YtgbnhngaeefmkaaRep
import Derived.Laws.OwnMore
import Derived.WalkLawsBesides
import Derived.WalkSpells

/-! Flows: room, Len, Value. -/
namespace Go.Proofs.Ytgbnhngaeefmkaa
set_option linter.unusedVariables false
set_option linter.unusedSimpArgs false
open Go.RowKit

section
variable {B : Nat} {W : World} {f M : Nat} {bl rb : ByteArray → Nat} {sl : ByteArray → Value} {F : List En}

theorem cell_blk {W : World} {b o : Nat} {cs : Array Value} {t : TypeId} {fr : Nat × Nat} {v : Value} (h : W.heap[b]? = some (.cells cs t fr)) (hv : cs[o]? = some v) : W.cell? ⟨b, o, none⟩ = some v := by simp [World.cell?, h, hv]
theorem frz_blk {W : World} {b o : Nat} {cs : Array Value} {t : TypeId} (h : W.heap[b]? = some (.cells cs t (0, 0))) : W.frozen? ⟨b, o, none⟩ = false := by simp [World.frozen?, h]

theorem Rep.cellM (h : Rep B W f M bl rb sl F) : W.cell? ⟨f, 0, none⟩ = some (.map (some M)) := cell_blk h.flow rfl

/-- the cells of a name -/
structure Cells (W : World) (b : Nat) (e : En) (s : Value) (r : Nat) : Prop where
  c0 : W.cell? ⟨b, 0, none⟩ = some (.string e.nm)
  c1 : W.cell? ⟨b, 1, none⟩ = some (.string e.val)
  c2 : W.cell? ⟨b, 2, none⟩ = some (.bool e.node)
  c3 : W.cell? ⟨b, 3, none⟩ = some (.bool e.stale)
  c4 : W.cell? ⟨b, 4, none⟩ = some s
  c5 : W.cell? ⟨b, 5, none⟩ = some (.map (some r))
  fz : ∀ o, W.frozen? ⟨b, o, none⟩ = false

theorem cells_ent {b : Nat} {e : En} {s : Value} {r : Nat} (h : W.heap[b]? = some (entC e s r)) : Cells W b e s r :=
  ⟨cell_blk h rfl, cell_blk h rfl, cell_blk h rfl, cell_blk h rfl, cell_blk h rfl, cell_blk h rfl, fun o => frz_blk h⟩

theorem Rep.cells (h : Rep B W f M bl rb sl F) {n : ByteArray} {e : En} (he : atF F n = some e) : Cells W (bl n) e (sl n) (rb n) := by
  obtain ⟨h1, h2⟩ := atF_some he
  have := h.ent e h1
  rw [h2] at this
  exact cells_ent this

theorem Rep.size (h : Rep B W f M bl rb sl F) : ∃ L, RawMap W M L ∧ L.length = F.length := by
  obtain ⟨L, hL, hp⟩ := h.names
  exact ⟨L, hL, by rw [hp.length_eq]; simp⟩

theorem Rep.look_hit (h : Rep B W f M bl rb sl F) {n : ByteArray} {e : En} (he : atF F n = some e) (ok : Bool) : (Instr.lookup 72 (.map (some M)) (.string n) ok).run Try.prog W = .ok (if ok then .tuple #[.pointer (some ⟨bl n, 0, none⟩), .bool true] else .pointer (some ⟨bl n, 0, none⟩)) W := by
  rw [h.look n ok, he]; rfl
theorem Rep.look_miss (h : Rep B W f M bl rb sl F) {n : ByteArray} (he : atF F n = none) (ok : Bool) : (Instr.lookup 72 (.map (some M)) (.string n) ok).run Try.prog W = .ok (if ok then .tuple #[.pointer none, .bool false] else .pointer none) W := by
  rw [h.look n ok, he]

set_option maxRecDepth 100000 in
theorem room_any (h : Rep B W f M bl rb sl F) (hF : F.length ≤ 1000) : Calls Try.prog 35 #[.pointer (some ⟨f, 0, none⟩)] W fun e w' => e = .returned (.bool true) ∧ W = w' := by
  obtain ⟨L, hM, hsz⟩ := h.size
  have hc := h.cellM
  obtain ⟨s, hse⟩ : ∃ s, L.length = s := ⟨_, rfl⟩
  have hs : s ≤ 1000 := by omega
  have HM := Lib.hid hM
  have HE := Lib.hid hse
  have HS := Lib.hid (hse.symm.trans hsz)
  clear hM hse
  have hd : decide ((s : Int) < 20000) = true := by simp; omega
  clear hsz h
  go_enter Try.func35, Try.ntmps35
  go_wp2_with (refine wpList_len_raw _ rfl (.tmp 6) 72 (by rfl) 9 75 Try.underlying72 M L (by rfl) HM.out ?_; rw [HE.out])
  go_ret
  exact ⟨rfl, rfl⟩

set_option maxRecDepth 100000 in
theorem len_any (h : Rep B W f M bl rb sl F) (hF : F.length ≤ 1000000) : Calls Try.prog 19 #[.pointer (some ⟨f, 0, none⟩)] W fun e w' => e = .returned (.int .i64 F.length) ∧ W = w' := by
  obtain ⟨L, hM, hsz⟩ := h.size
  have hc := h.cellM
  obtain ⟨s, hse⟩ : ∃ s, L.length = s := ⟨_, rfl⟩
  have hs : s ≤ 1000000 := by omega
  have HM := Lib.hid hM
  have HE := Lib.hid hse
  have HS := Lib.hid (hse.symm.trans hsz)
  clear hM hse
  clear hsz h
  go_enter Try.func19, Try.ntmps19
  go_wp2_with (refine wpList_len_raw _ rfl (.tmp 8) 72 (by rfl) 9 75 Try.underlying72 M L (by rfl) HM.out ?_; rw [HE.out])
  go_ret
  rw [← HS.out]
  exact ⟨rfl, rfl⟩

def valF (F : List En) (n : ByteArray) : ByteArray × Bool :=
  match atF F n with
  | some e => if e.stale = true then (ByteArray.mk #[], false) else (e.val, true)
  | none => (ByteArray.mk #[], false)

theorem value_any (h : Rep B W f M bl rb sl F) (n : ByteArray) : Calls Try.prog 23 #[.pointer (some ⟨f, 0, none⟩), .string n] W fun e w' => e = .returned (.tuple #[.string (valF F n).1, .bool (valF F n).2]) ∧ W = w' := by
  have hc := h.cellM
  rcases he : atF F n with _ | e
  · have hl := h.look_miss he true
    have HV := Lib.hid (show valF F n = (ByteArray.mk #[], false) by unfold valF; rw [he])
    clear he h
    go_enter Try.func23, Try.ntmps23
    go_wp2
    go_ret2
    rw [HV.out]
    exact ⟨rfl, rfl⟩
  · have hl := h.look_hit he true
    obtain ⟨c0, c1, c2, c3, c4, c5, _⟩ := h.cells he
    rcases hs : e.stale with _ | _
    · have HV := Lib.hid (show valF F n = (e.val, true) by unfold valF; rw [he]; simp [hs])
      rw [hs] at c3
      clear he h hs
      go_enter Try.func23, Try.ntmps23
      go_wp2
      go_ret2
      rw [HV.out]
      exact ⟨rfl, rfl⟩
    · have HV := Lib.hid (show valF F n = (ByteArray.mk #[], false) by unfold valF; rw [he]; simp [hs])
      rw [hs] at c3
      clear he h hs
      go_enter Try.func23, Try.ntmps23
      go_wp2
      go_ret2
      rw [HV.out]
      exact ⟨rfl, rfl⟩

end
end Go.Proofs.Ytgbnhngaeefmkaa
