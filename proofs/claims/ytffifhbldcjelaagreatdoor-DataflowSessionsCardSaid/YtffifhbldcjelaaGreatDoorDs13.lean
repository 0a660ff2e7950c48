/-
  Flows: cmp.Or at two integers; the order of stale names. Flows: the comparator of Stale. Insertion into a sorted list, as the code goes: from the end. Flows: the row of pointers while it is sorted. Flows: insertion sort of at most twelve names. Flows: insertion sort, walked.
-/
import Derived.Test.YtffifhbldcjelaaGreatDoorDs07
import Derived.Test.YtffifhbldcjelaaGreatDoorShelf
import Derived.Deep.RegionHeld3
import Derived.WalkKit
import Derived.RegionTactic
import Derived.BigRegion

/-! Flows: cmp.Or at two integers; the order of stale names. -/
namespace Go.Proofs.YtffifhbldcjelaaGreatDoor
set_option linter.unusedVariables false
set_option linter.unusedSimpArgs false
open Go.RowKit Go.Shelf Go.Lib

def orZ (x y : Int) : Int := if x = 0 then y else x

set_option maxHeartbeats 400000 in
theorem or_any (x y : Int) (g : Nat) (w : World) (c0 : w.cell? ⟨g, 0, none⟩ = some (.int .i64 x)) (c1 : w.cell? ⟨g, 1, none⟩ = some (.int .i64 y)) :
    Calls Tryz.prog 34 #[.slice (some ⟨g, 0, none⟩) 2 2] w fun e w' => e = .returned (.int .i64 (orZ x y)) ∧ w = w' := by
  by_cases h1 : x = 0
  · have hp : orZ x y = y := by unfold orZ; rw [if_pos h1]
    have HP := Lib.hid hp
    have hx : (x != 0) = false := by simp [h1]
    clear hp h1
    by_cases h2 : y = 0
    · have hy : (y != 0) = false := by simp [h2]
      have HY := Lib.hid h2
      clear h2
      go_enter Tryz.func34, Tryz.ntmps34
      go_wp2
      refine wp_loop_rounds 3 ?_
      rw [rounds_succ]
      go_wp2
      rw [rounds_succ]
      go_wp2
      rw [rounds_succ]
      go_wp2
      go_ret
      exact ⟨by rw [HP.out, HY.out]; rfl, rfl⟩
    · have hy : (y != 0) = true := by rw [bne_iff_ne]; exact h2
      clear h2
      go_enter Tryz.func34, Tryz.ntmps34
      go_wp2
      refine wp_loop_rounds 2 ?_
      rw [rounds_succ]
      go_wp2
      rw [rounds_succ]
      go_wp2
      go_ret
      exact ⟨by rw [HP.out]; rfl, rfl⟩
  · have hp : orZ x y = x := by unfold orZ; rw [if_neg h1]
    have HP := Lib.hid hp
    have hx : (x != 0) = true := by rw [bne_iff_ne]; exact h1
    clear hp h1
    go_enter Tryz.func34, Tryz.ntmps34
    go_wp2
    refine wp_loop_rounds 1 ?_
    rw [rounds_succ]
    go_wp2
    go_ret
    exact ⟨by rw [HP.out]; rfl, rfl⟩


/-- only block m of the old ones turns -/
structure OnlyM (m : Nat) (X Y : World) : Prop where
  os : Y.os = X.os
  tape : Y.tape = X.tape
  output : Y.output = X.output
  size : X.heap.size ≤ Y.heap.size
  block : ∀ k, k < X.heap.size → k ≠ m → Y.heap[k]? = X.heap[k]?
theorem OnlyM.refl (m : Nat) (X : World) : OnlyM m X X := ⟨rfl, rfl, rfl, Nat.le_refl _, fun _ _ _ => rfl⟩
theorem OnlyM.trans {m : Nat} {X Y Z : World} (h : OnlyM m X Y) (h2 : OnlyM m Y Z) : OnlyM m X Z :=
  ⟨h2.os.trans h.os, h2.tape.trans h.tape, h2.output.trans h.output, Nat.le_trans h.size h2.size, fun k hk hn => (h2.block k (Nat.lt_of_lt_of_le hk h.size) hn).trans (h.block k hk hn)⟩
theorem OnlyM.grown {m : Nat} {X Y : World} (g : X.grownBy Y (some m)) : OnlyM m X Y := ⟨g.os, g.tape, g.output, g.size, fun k hk hn => g.block k hk (fun e => hn (by cases e; rfl))⟩
theorem OnlyM.of_below {m : Nat} {X Y : World} (g : Below X.heap.size X Y) : OnlyM m X Y := ⟨g.os, g.tape, g.output, g.size, fun k hk _ => g.block k hk⟩

/-- the state of a sort: the flow's blocks, the memo -/
structure Srt (F : List En) (rk bl : ByteArray → Nat) (W0 W : World) (m : Nat) (w' : World) : Prop where
  low : Below W0.heap.size W0 w'
  memo : Memo F rk bl w' m
  only : OnlyM m W w'

theorem Srt.drew {F : List En} {rk bl : ByteArray → Nat} {W0 W : World} {m : Nat} {w' : World} (h : Srt F rk bl W0 W m w') : Srt F rk bl W0 W m w'.drew := by
  obtain ⟨L, hL, h1, h2⟩ := h.memo
  exact ⟨h.low.drew, ⟨L, hL.kept rfl, h1, h2⟩, ⟨h.only.os, h.only.tape, h.only.output, h.only.size, h.only.block⟩⟩
theorem Srt.alloc {F : List En} {rk bl : ByteArray → Nat} {W0 W : World} {m : Nat} {w' : World} (h : Srt F rk bl W0 W m w') (o : Obj) : Srt F rk bl W0 W m (w'.alloc o) := by
  obtain ⟨L, hL, h1, h2⟩ := h.memo
  exact ⟨h.low.alloc h.low.size o, ⟨L, hL.kept (Below.heap_alloc _ _ _ hL.lt), h1, h2⟩, h.only.trans (OnlyM.of_below ((Below.refl _ _).alloc (Nat.le_refl _) o))⟩

/-- the order of stale names -/
def cmpE (F : List En) (rk : ByteArray → Nat) (x y : ByteArray) : Int := orZ (Lib.compareInt (dp F rk x) (dp F rk y)) (cmpB x y)

end Go.Proofs.YtffifhbldcjelaaGreatDoor

/-! Flows: the comparator of Stale. -/
namespace Go.Proofs.YtffifhbldcjelaaGreatDoor
set_option linter.unusedVariables false
set_option linter.unusedSimpArgs false
open Go.RowKit Go.Shelf Go.Lib

section
variable {B : Nat} {W0 : World} {f M : Nat} {bl rb : ByteArray → Nat} {sl : ByteArray → Value} {F : List En} {rk : ByteArray → Nat}

set_option maxRecDepth 100000 in
set_option maxHeartbeats 4000000 in
theorem cmp_any (h : Rep B W0 f M bl rb sl F) (hC : Closed F) (hK : Ranked F rk) (hR : ∀ e ∈ F, e.rds.length ≤ 1000) (hk : ∀ e ∈ F, rk e.nm ≤ 1000) (m : Nat) (hm0 : W0.heap.size ≤ m) (bx : Nat) (hbm : bx ≠ m)
    (x y : En) (hx : x ∈ F) (hy : y ∈ F) (W : World) (hb : Below W0.heap.size W0 W) (hM : Memo F rk bl W m) (hc : W.cell? ⟨bx, 0, none⟩ = some (.func (.func 31) #[.map (some m)] #[])) :
    Calls Tryz.prog 33 #[.pointer (some ⟨bl x.nm, 0, none⟩), .pointer (some ⟨bl y.nm, 0, none⟩), .pointer (some ⟨bx, 0, none⟩)] W fun e' w' => e' = .returned (.int .i64 (cmpE F rk x.nm y.nm)) ∧ Srt F rk bl W0 W m w' := by
  have hax := atF_mem h.srt hx
  have hay := atF_mem h.srt hy
  have OFX := Lib.hid (show ∀ w', Srt F rk bl W0 W m w' → Calls Tryz.prog 31 #[.map (some m), .pointer (some ⟨bl x.nm, 0, none⟩)] w' fun e' w2 => e' = .returned (.int .i64 (dp F rk x.nm)) ∧ Srt F rk bl W0 W m w2 from fun w' hs => (of_any h hC hK hR hk m hm0 _ x.nm x w' (Nat.lt_succ_self _) hax hs.low hs.memo).mono fun e' w2 ⟨q1, q2, q3, q4⟩ => ⟨q1, q2, q3, hs.only.trans (OnlyM.grown q4)⟩)
  have OFY := Lib.hid (show ∀ w', Srt F rk bl W0 W m w' → Calls Tryz.prog 31 #[.map (some m), .pointer (some ⟨bl y.nm, 0, none⟩)] w' fun e' w2 => e' = .returned (.int .i64 (dp F rk y.nm)) ∧ Srt F rk bl W0 W m w2 from fun w' hs => (of_any h hC hK hR hk m hm0 _ y.nm y w' (Nat.lt_succ_self _) hay hs.low hs.memo).mono fun e' w2 ⟨q1, q2, q3, q4⟩ => ⟨q1, q2, q3, hs.only.trans (OnlyM.grown q4)⟩)
  have hcx := (cells_ent (h.ent x hx)).c0
  have hcy := (cells_ent (h.ent y hy)).c0
  have hlx := h.ltB hx
  have hly := h.ltB hy
  have hlb := World.block_lt_of_cell? _ _ hc
  have KEEP := Lib.hid (show ∀ w', Srt F rk bl W0 W m w' → w'.cell? ⟨bx, 0, none⟩ = some (.func (.func 31) #[.map (some m)] #[]) ∧ w'.cell? ⟨bl x.nm, 0, none⟩ = some (.string x.nm) ∧ w'.cell? ⟨bl y.nm, 0, none⟩ = some (.string y.nm) ∧ Srt F rk bl W0 W m w' from fun w' hs => ⟨by rw [World.cell?_of_block (w := W) (hs.only.block bx hlb hbm)]; exact hc, by rw [hs.low.cell (p := ⟨bl x.nm, 0, none⟩) hlx]; exact hcx, by rw [hs.low.cell (p := ⟨bl y.nm, 0, none⟩) hly]; exact hcy, hs⟩)
  have S0 := Lib.hid (show Srt F rk bl W0 W m W from ⟨hb, hM, OnlyM.refl _ _⟩)
  have eg : ∀ args w, (callFunc 31 args).run Tryz.prog w = .ok (.enter 31 args) w := enters_of Tryz.func31 (by kernel_rfl) rfl
  have hwx : W.cell? ⟨bl x.nm, 0, none⟩ = some (.string x.nm) := (KEEP.out W S0.out).2.1
  have hwy : W.cell? ⟨bl y.nm, 0, none⟩ = some (.string y.nm) := (KEEP.out W S0.out).2.2.1
  have CE := Lib.hid (show cmpE F rk x.nm y.nm = orZ (Lib.compareInt (dp F rk x.nm) (dp F rk y.nm)) (cmpB x.nm y.nm) from rfl)
  rw [CE.out]
  obtain ⟨bX, hbX⟩ : ∃ bX, bl x.nm = bX := ⟨_, rfl⟩
  obtain ⟨bY, hbY⟩ : ∃ bY, bl y.nm = bY := ⟨_, rfl⟩
  obtain ⟨dX, hdX⟩ : ∃ dX, dp F rk x.nm = dX := ⟨_, rfl⟩
  obtain ⟨dY, hdY⟩ : ∃ dY, dp F rk y.nm = dY := ⟨_, rfl⟩
  obtain ⟨nX, hnX⟩ : ∃ nX, x.nm = nX := ⟨_, rfl⟩
  obtain ⟨nY, hnY⟩ : ∃ nY, y.nm = nY := ⟨_, rfl⟩
  rw [hdX, hbX] at OFX
  rw [hdY, hbY] at OFY
  rw [hbX, hbY, hnX, hnY] at KEEP
  rw [hbX, hnX] at hwx
  rw [hbY, hnY] at hwy
  rw [hbX, hbY, hdX, hdY, hnX, hnY]
  clear h hC hK hR hk hx hy hb hM hax hay hcx hcy hlx hly hlb hbX hbY hdX hdY hnX hnY CE
  go_enter Tryz.func33, Tryz.ntmps33
  go_wp2_with fail
  go_region_held3 (fun w' => w'.cell? ⟨bx, 0, none⟩ = some (.func (.func 31) #[.map (some m)] #[]) ∧ w'.cell? ⟨bX, 0, none⟩ = some (.string nX) ∧ w'.cell? ⟨bY, 0, none⟩ = some (.string nY) ∧ Srt F rk bl W0 W m w')
    (first | (exact KEEP.out _ S0.out.drew) | (exact KEEP.out _ E2) | (go_split_ands; exact KEEP.out _ (by assumption)) | (go_split_ands; exact KEEP.out _ (Srt.alloc (by assumption) _)) | (go_split_ands; exact ⟨by assumption, by assumption, by assumption, by assumption⟩))
    (first
      | (go_at_call 31; (with_reducible refine (OFX.out _ ?_).mono ?_); (go_split_ands; assumption); rintro e w5 ⟨rfl, E2⟩)
      | (go_at_call 31; (with_reducible refine (OFY.out _ ?_).mono ?_); (go_split_ands; assumption); rintro e w5 ⟨rfl, E2⟩)
      | (go_at_call 35; refine (Tryz.cmp_Compare_int _ _ _).mono ?_; rintro e w' ⟨rfl, rfl⟩)
      | (go_at_call 36; refine (cmpS_any _ _ _).mono ?_; rintro e w' ⟨rfl, rfl⟩)
      | (go_at_call 34; refine (or_any (Lib.compareInt dX dY) (cmpB nX nY) _ _ ?_ ?_).mono ?_; (simp [World.cell?_alloc_at]); (simp [World.cell?_alloc_at]); rintro e w' ⟨rfl, rfl⟩))
  go_wp2
  go_ret
  exact ⟨rfl, Srt.alloc E2 _⟩
end

end Go.Proofs.YtffifhbldcjelaaGreatDoor

/-! Insertion into a sorted list, as the code goes: from the end. -/
namespace Go.Proofs.YtffifhbldcjelaaGreatDoor
set_option linter.unusedVariables false

def insAt {α : Type} (s : List α) (x : α) (j : Nat) : List α := s.take j ++ x :: s.drop j

theorem insAt_len {α : Type} (s : List α) (x : α) (j : Nat) : (insAt s x j).length = s.length + 1 := by simp [insAt]; omega
theorem insAt_at {α : Type} (s : List α) (x : α) (j : Nat) (h : j ≤ s.length) : (insAt s x j)[j]? = some x := by
  unfold insAt
  rw [List.getElem?_append_right (by simp; omega)]
  simp [Nat.min_eq_left h]
theorem insAt_before {α : Type} (s : List α) (x : α) (j : Nat) (h : j + 1 ≤ s.length) : (insAt s x (j + 1))[j]? = s[j]? := by
  unfold insAt
  rw [List.getElem?_append_left (by simp; omega), List.getElem?_take_of_lt (by omega)]

/-- the swap of j and j + 1 brings x one place down -/
theorem insAt_swap {α : Type} (s : List α) (x y : α) (j : Nat) (h : j < s.length) (hy : s[j] = y) : ((insAt s x (j + 1)).set (j + 1) y).set j x = insAt s x j := by
  unfold insAt
  have e1 : s.take (j + 1) = s.take j ++ [y] := by rw [List.take_succ_eq_append_getElem h, hy]
  have e2 : s.drop j = y :: s.drop (j + 1) := by rw [List.drop_eq_getElem_cons h, hy]
  have hl : (s.take j).length = j := by simp; omega
  rw [e1, e2, List.append_assoc, List.set_append_right _ _ (by omega), hl]
  simp only [Nat.add_sub_cancel_left, List.cons_append, List.nil_append, List.set_cons_succ, List.set_cons_zero]
  rw [List.set_append_right _ _ (by omega), hl, Nat.sub_self, List.set_cons_zero]

theorem insAt_perm {α : Type} (s : List α) (x : α) (j : Nat) : (insAt s x j).Perm (x :: s) := by
  unfold insAt
  exact (List.perm_middle).trans (List.Perm.cons x (by rw [List.take_append_drop]))

/-- the place is found: sorted -/
theorem insAt_sorted {α : Type} {lt : α → α → Prop} (htr : ∀ a b c, lt a b → lt b c → lt a c) {s : List α} {x : α} {j : Nat} (hs : s.Pairwise lt) (h1 : ∀ y ∈ s.take j, lt y x) (h2 : ∀ y ∈ s.drop j, lt x y) : (insAt s x j).Pairwise lt := by
  unfold insAt
  rw [List.pairwise_append]
  refine ⟨hs.sublist (List.take_sublist _ _), List.pairwise_cons.2 ⟨h2, hs.sublist (List.drop_sublist _ _)⟩, fun a ha b hb => ?_⟩
  rcases List.mem_cons.1 hb with rfl | hb
  · exact h1 a ha
  · exact htr a x b (h1 a ha) (h2 b hb)

/-- all before the last one that is less are less -/
theorem take_lt {α : Type} {lt : α → α → Prop} (htr : ∀ a b c, lt a b → lt b c → lt a c) {s : List α} {x : α} {j : Nat} (hj : j < s.length) (hs : s.Pairwise lt) (h : lt s[j] x) : ∀ y ∈ s.take (j + 1), lt y x := by
  intro y hy
  obtain ⟨i, hi, rfl⟩ := List.mem_iff_getElem.1 hy
  rw [List.length_take] at hi
  rw [List.getElem_take]
  rcases Nat.lt_or_ge i j with q | q
  · exact htr _ _ _ (List.pairwise_iff_getElem.1 hs i j (by omega) hj q) h
  · have : i = j := by omega
    subst this; exact h

end Go.Proofs.YtffifhbldcjelaaGreatDoor

/-! Flows: the row of pointers while it is sorted. -/
namespace Go.Proofs.YtffifhbldcjelaaGreatDoor
set_option linter.unusedVariables false
set_option linter.unusedSimpArgs false
open Go.RowKit Go.Shelf Go.Lib

/-- the row at block g (from offset o on) reads as the names l; the memo; what else there was stands -/
structure SG (F : List En) (rk bl : ByteArray → Nat) (W0 W : World) (m g o : Nat) (w' : World) (l : List En) : Prop where
  low : Below W0.heap.size W0 w'
  memo : Memo F rk bl w' m
  os : w'.os = W.os
  tape : w'.tape = W.tape
  output : w'.output = W.output
  size : W.heap.size ≤ w'.heap.size
  block : ∀ k, k < W.heap.size → k ≠ m → k ≠ g → w'.heap[k]? = W.heap[k]?
  row : ∃ cur, w'.heap[g]? = some (.cells cur 53 (0, 0)) ∧ o + l.length ≤ cur.size ∧ ∀ i x, l[i]? = some x → cur[o + i]? = some (ptr (bl x.nm))

section
variable {F : List En} {rk bl : ByteArray → Nat} {W0 W : World} {m g o : Nat} {w' : World} {l : List En}

theorem SG.cell (h : SG F rk bl W0 W m g o w' l) {i : Nat} {x : En} (hx : l[i]? = some x) : w'.cell? ⟨g, o + i, none⟩ = some (.pointer (some ⟨bl x.nm, 0, none⟩)) := by
  obtain ⟨cur, h1, _, h2⟩ := h.row
  exact cell_blk h1 (h2 i x hx)
theorem SG.frz (h : SG F rk bl W0 W m g o w' l) (i : Nat) : w'.frozen? ⟨g, i, none⟩ = false := by
  obtain ⟨cur, h1, _⟩ := h.row
  exact frz_blk h1

/-- a comparison -/
theorem SG.srt (h : SG F rk bl W0 W m g o w' l) (hg : g ≠ m) {w2 : World} (h2 : Srt F rk bl W0 w' m w2) : SG F rk bl W0 W m g o w2 l := by
  obtain ⟨cur, h1, h3, h4⟩ := h.row
  exact ⟨h2.low, h2.memo, h2.only.os.trans h.os, h2.only.tape.trans h.tape, h2.only.output.trans h.output, Nat.le_trans h.size h2.only.size, fun k hk n1 n2 => (h2.only.block k (Nat.lt_of_lt_of_le hk h.size) n1).trans (h.block k hk n1 n2), ⟨cur, (h2.only.block g (lt_of_blk h1) hg).trans h1, h3, h4⟩⟩

theorem SG.drew (h : SG F rk bl W0 W m g o w' l) : SG F rk bl W0 W m g o w'.drew l := by
  obtain ⟨L, hL, h1, h2⟩ := h.memo
  exact ⟨h.low.drew, ⟨L, hL.kept rfl, h1, h2⟩, h.os, h.tape, h.output, h.size, h.block, h.row⟩

/-- one element written -/
theorem SG.set (h : SG F rk bl W0 W m g o w' l) (hg : g ≠ m) (hg0 : W0.heap.size ≤ g) {i : Nat} (hi : i < l.length) (x : En) : SG F rk bl W0 W m g o (w'.setCell ⟨g, o + i, none⟩ (.pointer (some ⟨bl x.nm, 0, none⟩))) (l.set i x) := by
  obtain ⟨cur, h1, h3, h4⟩ := h.row
  obtain ⟨L, hL, q1, q2⟩ := h.memo
  have hk : ∀ k, k ≠ g → (w'.setCell ⟨g, o + i, none⟩ (.pointer (some ⟨bl x.nm, 0, none⟩))).heap[k]? = w'.heap[k]? := fun k hk => Below.heap_setCell w' ⟨g, o + i, none⟩ _ k hk
  refine ⟨h.low.setCell (p := ⟨g, o + i, none⟩) hg0 _, ⟨L, hL.kept (hk m (fun e => hg e.symm)), q1, q2⟩, h.os, h.tape, h.output, by simpa using h.size, fun k hk' n1 n2 => (hk k n2).trans (h.block k hk' n1 n2), ⟨_, heap_setC h1 _, by simpa using h3, fun j y hy => ?_⟩⟩
  rw [List.getElem?_set] at hy
  by_cases e : i = j
  · subst e
    rw [if_pos rfl, if_pos hi] at hy
    cases hy
    rw [Array.getElem?_setIfInBounds_self]
    rw [if_pos (by omega)]; rfl
  · rw [if_neg e] at hy
    rw [Array.getElem?_setIfInBounds_ne (by omega)]
    exact h4 j y hy
end

end Go.Proofs.YtffifhbldcjelaaGreatDoor

/-! Flows: insertion sort of at most twelve names. -/
namespace Go.Proofs.YtffifhbldcjelaaGreatDoor
set_option linter.unusedVariables false
set_option linter.unusedSimpArgs false
open Go.RowKit Go.Shelf Go.Lib

/-- the order of stale names -/
def ltE (F : List En) (rk : ByteArray → Nat) (x y : En) : Prop := cmpE F rk x.nm y.nm < 0

theorem cmpE_iff (F : List En) (rk : ByteArray → Nat) (x y : ByteArray) : cmpE F rk x y < 0 ↔ (dp F rk x < dp F rk y ∨ (dp F rk x = dp F rk y ∧ ltB x y)) := by
  have hc : ∀ a b : Nat, Lib.compareInt a b = if a < b then -1 else if b < a then 1 else 0 := fun a b => by
    unfold Lib.compareInt
    by_cases h1 : a < b
    · rw [if_pos (by omega), if_pos h1]
    · rw [if_neg (by omega), if_neg h1]
      by_cases h2 : b < a
      · rw [if_pos (by omega), if_pos h2]
      · rw [if_neg (by omega), if_neg h2]
  unfold cmpE orZ
  rw [hc]
  rcases Nat.lt_trichotomy (dp F rk x) (dp F rk y) with h | h | h
  · simp [h]
  · rw [h]
    simp only [Nat.lt_irrefl, if_false, if_true, true_and, false_or]
    unfold cmpB
    by_cases h1 : ltB x y
    · simp [h1]
    · simp only [h1, if_false, iff_false]; split <;> omega
  · have h1 : ¬ dp F rk x < dp F rk y := by omega
    have h2 : ¬ dp F rk x = dp F rk y := by omega
    simp [h, h1, h2]

theorem ltE_trans (F : List En) (rk : ByteArray → Nat) (a b c : En) (h1 : ltE F rk a b) (h2 : ltE F rk b c) : ltE F rk a c := by
  unfold ltE at *
  rw [cmpE_iff] at *
  rcases h1 with h1 | ⟨h1, q1⟩ <;> rcases h2 with h2 | ⟨h2, q2⟩
  · exact .inl (by omega)
  · exact .inl (by omega)
  · exact .inl (by omega)
  · exact .inr ⟨by omega, ltB_trans q1 q2⟩
theorem ltE_tot (F : List En) (rk : ByteArray → Nat) {a b : En} (hne : a.nm ≠ b.nm) (h : ¬ ltE F rk a b) : ltE F rk b a := by
  unfold ltE at *
  rw [cmpE_iff] at *
  rcases Nat.lt_trichotomy (dp F rk a.nm) (dp F rk b.nm) with q | q | q
  · exact absurd (.inl q) h
  · rcases ltB_tri a.nm b.nm with r | r | r
    · exact absurd (.inr ⟨q, r⟩) h
    · exact absurd r hne
    · exact .inr ⟨q.symm, r⟩
  · exact .inl q

end Go.Proofs.YtffifhbldcjelaaGreatDoor

/-! Flows: insertion sort, walked. -/
namespace Go.Proofs.YtffifhbldcjelaaGreatDoor
set_option linter.unusedVariables false
set_option linter.unusedSimpArgs false
open Go.RowKit Go.Shelf Go.Lib

/-- what a comparison does, on the names of l -/
def CmpOk (F : List En) (rk bl : ByteArray → Nat) (W0 : World) (m bx : Nat) : Prop :=
  ∀ x ∈ F, ∀ y ∈ F, ∀ w', Below W0.heap.size W0 w' → Memo F rk bl w' m → w'.cell? ⟨bx, 0, none⟩ = some (.func (.func 31) #[.map (some m)] #[]) →
    Calls Tryz.prog 33 #[.pointer (some ⟨bl x.nm, 0, none⟩), .pointer (some ⟨bl y.nm, 0, none⟩), .pointer (some ⟨bx, 0, none⟩)] w' fun e w2 => e = .returned (.int .i64 (cmpE F rk x.nm y.nm)) ∧ Srt F rk bl W0 w' m w2

section
variable {F : List En} {rk bl : ByteArray → Nat} {W0 W : World} {m g o bx : Nat}

theorem SG.drewN {w' : World} {l : List En} (h : SG F rk bl W0 W m g o w' l) (n : Nat) : SG F rk bl W0 W m g o (w'.drewN n) l := by
  obtain ⟨L, hL, h1, h2⟩ := h.memo
  exact ⟨⟨h.low.os, h.low.tape, h.low.output, h.low.size, h.low.block⟩, ⟨L, hL.kept rfl, h1, h2⟩, h.os, h.tape, h.output, h.size, h.block, h.row⟩

/-- the outer loop: the first k are sorted -/
structure Out (F : List En) (rk bl : ByteArray → Nat) (W0 W : World) (m g o : Nat) (l0 : List En) (k : Nat) (wr : World) (s : List En) : Prop where
  sg : SG F rk bl W0 W m g o wr (s ++ l0.drop k)
  perm : s.Perm (l0.take k)
  srt : s.Pairwise (ltE F rk)
/-- the inner loop: x stands at j -/
structure Inn (F : List En) (rk bl : ByteArray → Nat) (W0 W : World) (m g o : Nat) (l0 : List En) (k : Nat) (x : En) (s : List En) (j : Nat) (wr : World) : Prop where
  sg : SG F rk bl W0 W m g o wr (insAt s x j ++ l0.drop (k + 1))
  big : ∀ y ∈ s.drop j, ltE F rk x y

theorem Inn.out {l0 : List En} {k : Nat} (hk : k < l0.length) {s : List En} {j : Nat} {wr : World} (h : Inn F rk bl W0 W m g o l0 k l0[k] s j wr) (hp : s.Perm (l0.take k)) (hs : s.Pairwise (ltE F rk)) (h1 : ∀ y ∈ s.take j, ltE F rk y l0[k]) {w2 : World} (h2 : SG F rk bl W0 W m g o w2 (insAt s l0[k] j ++ l0.drop (k + 1))) : Out F rk bl W0 W m g o l0 (k + 1) w2 (insAt s l0[k] j) :=
  ⟨h2, (insAt_perm s l0[k] j).trans (by rw [List.take_succ_eq_append_getElem hk]; exact (hp.cons _).trans (List.perm_append_singleton _ _).symm), insAt_sorted (ltE_trans F rk) hs h1 h.big⟩

set_option maxRecDepth 100000 in
set_option maxHeartbeats 4000000 in
theorem isort_any (hO : CmpOk F rk bl W0 m bx) (l0 : List En) (n cap : Nat) (hn : l0.length = n) (hn12 : n ≤ 12) (hF : ∀ x ∈ l0, x ∈ F) (hnd : l0.Pairwise (fun a b => a.nm ≠ b.nm)) (hgm : g ≠ m) (hg0 : W0.heap.size ≤ g) (hxm : bx ≠ m) (hxg : bx ≠ g)
    (hS : SG F rk bl W0 W m g o W l0) (hc : W.cell? ⟨bx, 0, none⟩ = some (.func (.func 31) #[.map (some m)] #[])) (hn1 : 1 ≤ n) :
    Calls Tryz.prog 84 #[.slice (some ⟨g, o, none⟩) n cap, .int .i64 0, .int .i64 n, .func (.func 33) #[] #[.pointer (some ⟨bx, 0, none⟩)]] W fun e w' => e = .returned (.tuple #[]) ∧ ∃ s, SG F rk bl W0 W m g o w' s ∧ s.Perm l0 ∧ s.Pairwise (ltE F rk) := by
  have eg : ∀ args w, (callFunc 33 args).run Tryz.prog w = .ok (.enter 33 args) w := enters_of Tryz.func33 (by kernel_rfl) rfl
  have HO := Lib.hid hO
  have HL := Lib.hid hn
  have HF := Lib.hid hF
  have HND := Lib.hid hnd
  have HS := Lib.hid hS
  have HCB := Lib.hid (show ∀ w' l, SG F rk bl W0 W m g o w' l → w'.cell? ⟨bx, 0, none⟩ = some (.func (.func 31) #[.map (some m)] #[]) from fun w' l h => by rw [World.cell?_of_block (w := W) (h.block bx (World.block_lt_of_cell? _ _ hc) hxm hxg)]; exact hc)
  have O0 := Lib.hid (show Out F rk bl W0 W m g o l0 1 W (l0.take 1) from ⟨by rw [List.take_append_drop]; exact hS, List.Perm.refl _, by rcases l0 with _ | ⟨a, r⟩ <;> simp⟩)
  clear hO hn hF hnd hS hc
  go_enter Tryz.func84, Tryz.ntmps84
  go_wp2_with fail
  go_loopw [8] (fun i wr => ∃ (k : Nat) (s : List En), 1 ≤ k ∧ k ≤ n ∧ i = .int .i64 k ∧ Out F rk bl W0 W m g o l0 k wr s) (fun i _ => n - (intOf i).toNat)
  case atStart => exact ⟨1, _, by omega, hn1, rfl, O0.out⟩
  case round =>
    obtain ⟨k, s, hk1, hkn, rfl, hout⟩ := hrel
    have OU := Lib.hid hout
    clear hout
    obtain ⟨wo, rfl⟩ : ∃ wo : World, wo = wr := ⟨_, rfl⟩
    by_cases hlt : k < n
    · have hkl : k < l0.length := by rw [HL.out]; exact hlt
      have hsl : s.length = k := by rw [OU.out.perm.length_eq, List.length_take]; omega
      have SL := Lib.hid hsl
      have I0 : Inn F rk bl W0 W m g o l0 k l0[k] s k wo := ⟨by
        have h := OU.out.sg
        rw [List.drop_eq_getElem_cons hkl] at h
        unfold insAt
        rw [List.take_of_length_le (by omega), List.drop_eq_nil_of_le (by omega)]
        simpa using h, fun y hy => by rw [List.drop_eq_nil_of_le (by omega)] at hy; cases hy⟩
      have FO := Lib.hid (fun (j : Nat) (wr : World) (h : Inn F rk bl W0 W m g o l0 k l0[k] s j wr) (h1 : ∀ y ∈ s.take j, ltE F rk y l0[k]) (w2 : World) (h2 : SG F rk bl W0 W m g o w2 (insAt s l0[k] j ++ l0.drop (k + 1))) => h.out hkl OU.out.perm OU.out.srt h1 h2)
      have hxF : l0[k] ∈ F := HF.out _ (List.getElem_mem hkl)
      have hsF : ∀ y ∈ s, y ∈ F ∧ y.nm ≠ l0[k].nm := fun y hy => by
        have hm := OU.out.perm.mem_iff.1 hy
        refine ⟨HF.out _ (List.mem_of_mem_take hm), ?_⟩
        obtain ⟨i, hi, he⟩ := List.mem_iff_getElem.1 hm
        rw [List.length_take] at hi
        rw [List.getElem_take] at he
        rw [← he]
        exact List.pairwise_iff_getElem.1 HND.out i k (by omega) hkl (by omega)
      obtain ⟨x, hx⟩ : ∃ x, l0[k] = x := ⟨_, rfl⟩
      rw [hx] at I0 FO hxF hsF
      have II := Lib.hid I0
      have XF := Lib.hid hxF
      have SF := Lib.hid hsF
      clear hsl I0 hx hkl hxF hsF
      go_wp2_with fail
      go_loopw [9] (fun i wr => ∃ j : Nat, j ≤ k ∧ i = .int .i64 j ∧ Inn F rk bl W0 W m g o l0 k x s j wr) (fun i _ => (intOf i).toNat)
      case atStart => exact ⟨k, Nat.le_refl _, rfl, II.out⟩
      case round =>
        obtain ⟨j, hj, rfl, hin⟩ := hrel
        have IN := Lib.hid hin
        clear hin
        rcases Nat.eq_zero_or_pos j with h0 | h0
        · subst h0
          have FIN := Lib.hid (fun (nq : Nat) => FO.out 0 wr IN.out (by simp) _ (IN.out.sg.drewN nq))
          have d0 : decide ((0 : Int) < 0) = false := by decide
          go_wp2_with fail
          go_quiet (fail)
          go_wp2_with fail
          go_roundw
          case rel => exact ⟨k + 1, _, by omega, by omega, by go_num, FIN.out _⟩
          case measure => simp [intOf]; omega
        · obtain ⟨i, rfl⟩ : ∃ i, j = i + 1 := ⟨j - 1, by omega⟩
          have his : i < s.length := by rw [SL.out]; omega
          obtain ⟨hyF, hyn⟩ := SF.out s[i] (List.getElem_mem his)
          have cx := IN.out.sg.cell (i := i + 1) (x := x) (by rw [List.getElem?_append_left (by rw [insAt_len]; omega)]; exact insAt_at s x (i + 1) his)
          have cy := IN.out.sg.cell (i := i) (x := s[i]) (by rw [List.getElem?_append_left (by rw [insAt_len]; omega), insAt_before s x i his, List.getElem?_eq_getElem his])
          have hsw := insAt_swap s x s[i] i his rfl
          have hdr : ∀ z ∈ s.drop i, z = s[i] ∨ z ∈ s.drop (i + 1) := fun z hz => by
            rw [List.drop_eq_getElem_cons his] at hz
            exact List.mem_cons.1 hz
          have htk := fun h => take_lt (ltE_trans F rk) his OU.out.srt (x := x) h
          obtain ⟨y, hy⟩ : ∃ y, s[i] = y := ⟨_, rfl⟩
          rw [hy] at hyF hyn cy hsw hdr htk
          have CL := Lib.hid (show ∀ w' l, SG F rk bl W0 W m g o w' l → Calls Tryz.prog 33 #[.pointer (some ⟨bl x.nm, 0, none⟩), .pointer (some ⟨bl y.nm, 0, none⟩), .pointer (some ⟨bx, 0, none⟩)] w' fun e w2 => e = .returned (.int .i64 (cmpE F rk x.nm y.nm)) ∧ SG F rk bl W0 W m g o w2 l from fun w' l h => (HO.out x XF.out y hyF w' h.low h.memo (HCB.out w' l h)).mono fun e w2 ⟨q1, q2⟩ => ⟨q1, h.srt hgm q2⟩)
          obtain ⟨ls, hls⟩ : ∃ ls, insAt s x (i + 1) ++ l0.drop (k + 1) = ls := ⟨_, rfl⟩
          have SG0 := Lib.hid (show SG F rk bl W0 W m g o wr ls from by rw [← hls]; exact IN.out.sg)
          have KEEP := Lib.hid (show ∀ w', SG F rk bl W0 W m g o w' ls → w'.cell? ⟨g, o + (i + 1), none⟩ = some (.pointer (some ⟨bl x.nm, 0, none⟩)) ∧ w'.cell? ⟨g, o + i, none⟩ = some (.pointer (some ⟨bl y.nm, 0, none⟩)) ∧ w'.frozen? ⟨g, o + (i + 1), none⟩ = false ∧ w'.frozen? ⟨g, o + i, none⟩ = false ∧ SG F rk bl W0 W m g o w' ls from fun w' h => ⟨h.cell (by rw [← hls, List.getElem?_append_left (by rw [insAt_len]; omega)]; exact insAt_at s x (i + 1) his), h.cell (by rw [← hls, List.getElem?_append_left (by rw [insAt_len]; omega), insAt_before s x i his, List.getElem?_eq_getElem his, hy]), h.frz _, h.frz _, h⟩)
          have NXT := Lib.hid (show ∀ w', SG F rk bl W0 W m g o w' ls → ltE F rk x y → Inn F rk bl W0 W m g o l0 k x s i ((w'.setCell ⟨g, o + (i + 1), none⟩ (.pointer (some ⟨bl y.nm, 0, none⟩))).setCell ⟨g, o + i, none⟩ (.pointer (some ⟨bl x.nm, 0, none⟩))) from fun w' h hlt' => ⟨by
            have hl1 : i + 1 < ls.length := by rw [← hls, List.length_append, insAt_len]; omega
            have h1 := (h.set hgm hg0 hl1 y).set hgm hg0 (i := i) (by rw [List.length_set]; omega) x
            rw [← hls, List.set_append_left _ _ (by rw [insAt_len]; omega), List.set_append_left _ _ (by rw [List.length_set, insAt_len]; omega), hsw] at h1
            exact h1, fun z hz => by
            rcases hdr z hz with q | q
            · rw [q]; exact hlt'
            · exact IN.out.big z q⟩)
          have DONE := Lib.hid (show ∀ w', SG F rk bl W0 W m g o w' ls → ¬ ltE F rk x y → Out F rk bl W0 W m g o l0 (k + 1) w' (insAt s x (i + 1)) from fun w' h hn' => FO.out (i + 1) wr IN.out (htk (ltE_tot F rk (fun e => hyn e.symm) hn')) w' (by rw [hls]; exact h))
          have LT := Lib.hid (show ltE F rk x y ↔ cmpE F rk x.nm y.nm < 0 from Iff.rfl)
          obtain ⟨ce, hce⟩ : ∃ ce, cmpE F rk x.nm y.nm = ce := ⟨_, rfl⟩
          obtain ⟨bX, hbX⟩ : ∃ bX, bl x.nm = bX := ⟨_, rfl⟩
          obtain ⟨bY, hbY⟩ : ∃ bY, bl y.nm = bY := ⟨_, rfl⟩
          rw [hce] at CL LT
          rw [hbX, hbY] at CL KEEP NXT
          have d0 : decide ((0 : Int) < (i : Int) + 1) = true := decide_eq_true (by omega)
          have d1 : (0 : Int) < (i : Int) + 1 := by omega
          have d2 : ((i : Int) + 1) < (n : Int) := by omega
          have d3 : (0 : Int) ≤ (i : Int) := by omega
          have d4 : (i : Int) < (n : Int) := by omega
          have d5 : (0 : Int) ≤ (i : Int) + 1 := by omega
          have d6 : IntKind.i64.wrap ((i : Int) + 1 - 1) = (i : Int) := by rw [IntKind.wrap_i64]; omega
          have d7 : IntKind.i64.wrap (i : Int) = (i : Int) := by rw [IntKind.wrap_i64]; omega
          clear cx cy hsw hdr htk hls hce hbX hbY hy his hyF hyn
          go_wp2_with fail
          go_region_held3 (fun w' => w'.cell? ⟨g, o + (i + 1), none⟩ = some (.pointer (some ⟨bX, 0, none⟩)) ∧ w'.cell? ⟨g, o + i, none⟩ = some (.pointer (some ⟨bY, 0, none⟩)) ∧ w'.frozen? ⟨g, o + (i + 1), none⟩ = false ∧ w'.frozen? ⟨g, o + i, none⟩ = false ∧ SG F rk bl W0 W m g o w' ls)
            (first | (exact KEEP.out _ SG0.out.drew) | (exact KEEP.out _ E2) | (go_split_ands; exact KEEP.out _ (by assumption)))
            (first | (go_at_call 33; (with_reducible refine (CL.out _ ls ?_).mono ?_); (go_split_ands; assumption); rintro e w5 ⟨rfl, E2⟩))
          have E3 := Lib.hid E2
          clear E2
          by_cases hlt0 : ce < 0
          · obtain ⟨k1, k2, k3, k4, _⟩ := KEEP.out w5 E3.out
            have N2 := Lib.hid (NXT.out w5.drew E3.out.drew (LT.out.2 hlt0))
            go_wp2_with fail
            go_region
            go_wp2_with fail
            go_roundw
            case rel => exact ⟨i, by omega, by go_num, N2.out⟩
            case measure => simp [intOf]
          · have FIN := Lib.hid (DONE.out w5 E3.out (fun q => hlt0 (LT.out.1 q)))
            go_wp2_with fail
            go_roundw
            case rel => exact ⟨k + 1, _, by omega, by omega, by go_num, FIN.out⟩
            case measure => simp [intOf]; omega
    · have hkn' : k = n := by omega
      have FIN := Lib.hid (show ∃ s, SG F rk bl W0 W m g o wo s ∧ s.Perm l0 ∧ s.Pairwise (ltE F rk) from by
        have h1 := OU.out.sg
        have h2 := OU.out.perm
        rw [hkn', ← HL.out, List.drop_length, List.append_nil] at h1
        rw [hkn', ← HL.out, List.take_length] at h2
        exact ⟨s, h1, h2, OU.out.srt⟩)
      clear hkn'
      go_wp2_with fail
      go_end0
      exact ⟨rfl, FIN.out⟩
end

end Go.Proofs.YtffifhbldcjelaaGreatDoor
