import Derived.Test.YtgbnhngaeefmkaaFl5

/-! Flows: read. -/
namespace Go.Proofs.Ytgbnhngaeefmkaa
set_option linter.unusedVariables false
set_option linter.unusedSimpArgs false
open Go.RowKit

def memB (l : List ByteArray) (m : ByteArray) : Bool := l.any fun r => decide (r = m)
theorem memB_iff {l : List ByteArray} {m : ByteArray} : memB l m = true ↔ m ∈ l := by unfold memB; simp
theorem memB_nil (m : ByteArray) : memB [] m = false := rfl
theorem memB_take {l : List ByteArray} {k : Nat} (h : k < l.length) (m : ByteArray) : memB (l.take (k + 1)) m = (memB (l.take k) m || decide (l[k] = m)) := by
  unfold memB
  rw [List.take_succ_eq_append_getElem h, List.any_append]
  simp

theorem RowP.mv {B : Nat} {W W' : World} {v : Value} {ps : List Nat} (h : RowP W v ps) (hm : Mv B W W') : RowP W' v ps :=
  h.kept (fun g cur fr hg => hm.block g (lt_of_blk hg) (fun c => by
    rcases c.2 with ⟨es, c', q⟩ | ⟨cs, fr', q⟩
    · rw [hg] at q; cases q
    · rw [hg] at q; cases q))

theorem RowP.at {W : World} {ao : Option Addr} {len cap : Nat} {ps : List Nat} (h : RowP W (.slice ao len cap) ps) {i p : Nat} (hi : ps[i]? = some p) : ∃ b off, ao = some ⟨b, off, none⟩ ∧ W.cell? ⟨b, off + i, none⟩ = some (.pointer (some ⟨p, 0, none⟩)) := by
  obtain ⟨ao', cap', h1, _, h3⟩ := h
  cases h1
  rcases h3 with h3 | ⟨g, o, cur, fr, h4, h5, h6⟩
  · rw [h3] at hi; simp at hi
  · exact ⟨g, o, h4, cell_blk h5 (h6 i p hi)⟩

section
variable {B : Nat} {W : World} {f M : Nat} {bl rb : ByteArray → Nat} {sl : ByteArray → Value} {F : List En} {Q : ByteArray → En → Bool}

theorem RepQ.cells (h : RepQ B W f M bl rb sl F Q) {e : En} (he : e ∈ F) : Cells W (bl e.nm) e (sl e.nm) (rb e.nm) := cells_ent (h.ent e he)

/-- the slice of reads is set -/
theorem RepQ.fin (h : RepQ B W f M bl rb sl F Q) {e : En} (he : e ∈ F) {n : ByteArray} (hn : e.nm = n) {lv : Value} {rs : List ByteArray} (hrow : RowP W lv (rs.map bl)) (hq : ∀ m x, Q m x = if x.nm = n then memB rs m else hasR x m) :
    Rep B (W.setCell ⟨bl n, 4, none⟩ lv) f M bl rb (upV sl n lv) (updF F n fun x => { x with rds := rs }) ∧ Mv B W (W.setCell ⟨bl n, 4, none⟩ lv) := by
  subst hn
  have hb := h.ent e he
  have hk : ∀ k, k ≠ bl e.nm → (W.setCell ⟨bl e.nm, 4, none⟩ lv).heap[k]? = W.heap[k]? := fun k hk => Below.heap_setCell W ⟨bl e.nm, 4, none⟩ lv k hk
  have hcell : ∀ {k : Nat} {cs : Array Value} {t : TypeId} {fr : Nat × Nat}, W.heap[k]? = some (.cells cs t fr) → t ≠ 80 → k ≠ bl e.nm := fun hkk ht e1 => by
    rw [e1, hb] at hkk
    unfold entC at hkk
    cases hkk; exact ht rfl
  have hmap : ∀ {k : Nat} {es : Array MapEntry} {c : Nat}, W.heap[k]? = some (.map es c) → k ≠ bl e.nm := fun hkk e1 => by rw [e1, hb] at hkk; cases hkk
  have hnm : ∀ x : En, (if x.nm = e.nm then { x with rds := rs } else x : En).nm = x.nm := fun x => by split <;> rfl
  have hin : ∀ {y : En}, y ∈ updF F e.nm (fun x => { x with rds := rs }) → ∃ x ∈ F, y = (if x.nm = e.nm then { x with rds := rs } else x : En) := fun hy => by
    obtain ⟨x, hx, rfl⟩ := List.mem_map.1 hy; exact ⟨x, hx, rfl⟩
  have hR : ∀ (m : ByteArray), ((updF F e.nm fun x => { x with rds := rs }).filter (hasR · m)) = (F.filter (Q m)).map (fun x => if x.nm = e.nm then { x with rds := rs } else x) := fun m => by
    unfold updF
    rw [List.filter_map]
    congr 1
    refine List.filter_congr fun x hx => ?_
    show hasR (if x.nm = e.nm then { x with rds := rs } else x) m = Q m x
    rw [hq m x]
    by_cases hxe : x.nm = e.nm
    · rw [if_pos hxe, if_pos hxe]; rfl
    · rw [if_neg hxe, if_neg hxe]
  obtain ⟨L, hL, hp⟩ := h.names
  obtain ⟨es0, c0, hm0⟩ : ∃ es c, W.heap[M]? = some (.map es c) := by obtain ⟨es, c, q, _⟩ := hL; exact ⟨es, c, q⟩
  refine ⟨⟨(hk f (hcell h.flow (by decide))).trans h.flow, ⟨L, hL.kept (hk M (hmap hm0)), ?_⟩, fun y hy => ?_, fun y hy => ?_, fun y hy => ?_, fun a ha b hb' e1 => ?_, fun a ha b hb' e1 => ?_, fun y hy => ?_, h.baseM, fun y hy => ?_, fun y hy => ?_, ?_⟩, ?_⟩
  · unfold updF
    rw [List.map_map]
    rw [List.map_congr_left (g := fun x => ((.string x.nm, ptr (bl x.nm)) : Value × Value)) (fun x hx => by show (Value.string (if x.nm = e.nm then { x with rds := rs } else x : En).nm, _) = _; rw [hnm])]
    exact hp
  · obtain ⟨x, hx, rfl⟩ := hin hy
    rw [hnm]
    by_cases hxe : x.nm = e.nm
    · obtain rfl := h.srt.inj x hx e he hxe
      rw [if_pos rfl, upV_same, heap_setC hb]; rfl
    · rw [if_neg hxe, upV_other hxe, hk _ (fun e1 => hxe (h.injB x hx e he e1))]; exact h.ent x hx
  · obtain ⟨x, hx, rfl⟩ := hin hy
    rw [hnm]
    have hkr : ∀ (g : Nat) (cur : Array Value) (fr : Nat × Nat), W.heap[g]? = some (Obj.cells cur 75 fr) → (W.setCell ⟨bl e.nm, 4, none⟩ lv).heap[g]? = W.heap[g]? := fun g cur fr hg => hk g (hcell hg (by decide))
    by_cases hxe : x.nm = e.nm
    · rw [if_pos hxe, hxe, upV_same]; exact hrow.kept hkr
    · rw [if_neg hxe, upV_other hxe]; exact (h.row x hx).kept hkr
  · obtain ⟨x, hx, rfl⟩ := hin hy
    rw [hnm]
    obtain ⟨L', hL', hp'⟩ := h.rdr x hx
    obtain ⟨es1, c1, hm1⟩ := h.mapR hx
    refine ⟨L', hL'.kept (hk _ (hmap hm1)), ?_⟩
    rw [hR, List.map_map]
    rw [List.map_congr_left (g := fun x => ((ptr (bl x.nm), .bool true) : Value × Value)) (fun x hx => by show (ptr (bl (if x.nm = e.nm then { x with rds := rs } else x : En).nm), _) = _; rw [hnm])]
    exact hp'
  · obtain ⟨x, hx, rfl⟩ := hin ha
    obtain ⟨y, hy, rfl⟩ := hin hb'
    rw [hnm, hnm] at e1 ⊢; exact h.injB x hx y hy e1
  · obtain ⟨x, hx, rfl⟩ := hin ha
    obtain ⟨y, hy, rfl⟩ := hin hb'
    rw [hnm, hnm] at e1 ⊢; exact h.injR x hx y hy e1
  · obtain ⟨x, hx, rfl⟩ := hin hy; rw [hnm]; exact h.rbM x hx
  · obtain ⟨x, hx, rfl⟩ := hin hy; rw [hnm]; exact h.baseB x hx
  · obtain ⟨x, hx, rfl⟩ := hin hy; rw [hnm]; exact h.baseR x hx
  · unfold SortedF updF
    refine List.pairwise_map.2 (h.srt.imp (fun {a b} hlt => ?_))
    rw [hnm, hnm]; exact hlt
  · refine ⟨rfl, rfl, rfl, by simp, fun k hk' hnm' => hk k (fun e1 => hnm' ?_)⟩
    rw [e1]; exact ⟨h.baseB e he, .inr ⟨_, _, hb⟩⟩

/-- the first loop: k reads are struck -/
def Q1 (n : ByteArray) (old : List ByteArray) (k : Nat) : ByteArray → En → Bool := fun m x => hasR x m && !(decide (x.nm = n) && memB (old.take k) m)
/-- the second loop: k reads are laid -/
def Q2 (n : ByteArray) (new : List ByteArray) (k : Nat) : ByteArray → En → Bool := fun m x => if x.nm = n then memB (new.take k) m else hasR x m

theorem q1_zero (n : ByteArray) (old : List ByteArray) (m : ByteArray) (x : En) : Q1 n old 0 m x = hasR x m := by simp [Q1, memB]

theorem q1_end {e : En} {n : ByteArray} (hs : SortedF F) (he : e ∈ F) (hn : e.nm = n) (new : List ByteArray) (m : ByteArray) {x : En} (hx : x ∈ F) : Q1 n e.rds e.rds.length m x = Q2 n new 0 m x := by
  unfold Q1 Q2
  rw [List.take_length, List.take_zero]
  by_cases h : x.nm = n
  · obtain rfl := hs.inj x hx e he (h.trans hn.symm)
    rw [if_pos h]
    simp only [h, decide_true, Bool.true_and, memB_nil]
    show (memB x.rds m && !memB x.rds m) = false
    simp
  · rw [if_neg h]; simp [h]

end
end Go.Proofs.Ytgbnhngaeefmkaa
