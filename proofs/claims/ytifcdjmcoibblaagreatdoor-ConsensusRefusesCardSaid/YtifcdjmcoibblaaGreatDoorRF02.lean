/-
  REFUSES: calls on a nil node; what Resume refuses; a message cut short. REFUSES: one node, made since a base; the plain law.
-/
import Derived.Test.YtifcdjmcoibblaaGreatDoorG35
import Derived.Test.YtifcdjmcoibblaaGreatDoorG36
import Derived.Test.YtifcdjmcoibblaaGreatDoorRF01
import Derived.Test.YtifcdjmcoibblaaGreatDoorG04

/-! REFUSES: calls on a nil node; what Resume refuses; a message cut short. -/
namespace Go.Proofs.YtifcdjmcoibblaaGreatDoor
set_option linter.unusedVariables false
set_option linter.unusedSimpArgs false
set_option linter.unusedSectionVars false
open Go.RowKit

/-! a nil node -/
section
variable (w : World)
theorem receive_nil (m : MsgB) (ao : Option Addr) (cap : Nat) : Calls Tryz.prog 20 #[.pointer none, .agg (encM m (.slice ao m.list.length cap))] w fun e w' => e = .returned (.tuple #[]) ∧ Below w.heap.size w w' := by
 have HB := Lib.hid ((Below.refl _ w).alloc (Nat.le_refl _) (.cells (encM m (.slice ao m.list.length cap)) 36))
 unfold encM iv at *
 go_enter Tryz.func20, Tryz.ntmps20
 go_upto_region 1 with (fail)
 go_quiet (fail)
 go_wp2
 refine bodyPost_ret (results_none rfl _ _ _) rfl ?_
 exact ⟨rfl, below_drewN HB.out _⟩
theorem begin_nil (h : Int) (v : Value) : Calls Tryz.prog 16 #[.pointer none, .int .i64 h, v] w fun e w' => e = .returned (.int .i64 1) ∧ w' = w := by
 go_enter Tryz.func16, Tryz.ntmps16
 go_wp2
 go_ret
 exact ⟨rfl, rfl⟩
theorem resume_nil (a b c : Int) (v u : Value) : Calls Tryz.prog 59 #[.pointer none, .int .i64 a, .int .i64 b, .int .i64 c, v, u] w fun e w' => e = .returned (.int .i64 1) ∧ w' = w := by
 go_enter Tryz.func59, Tryz.ntmps59
 go_wp2
 go_ret
 exact ⟨rfl, rfl⟩
theorem keys_nil : Calls Tryz.prog 47 #[.pointer none] w fun e w' => e = .returned (.slice none 0 0) ∧ w' = w := by
 go_enter Tryz.func47, Tryz.ntmps47
 go_wp2
 go_ret
 exact ⟨rfl, rfl⟩
theorem learn_nil (h : Int) (v : Value) : Calls Tryz.prog 36 #[.pointer none, .int .i64 h, v] w fun e w' => e = .returned (.int .i64 1) ∧ w' = w := by
 go_enter Tryz.func36, Tryz.ntmps36
 go_wp2
 go_ret
 exact ⟨rfl, rfl⟩
theorem tick_nil : Calls Tryz.prog 18 #[.pointer none] w fun e w' => e = .returned (.slice none 0 0) ∧ w' = w := by
 go_enter Tryz.func18, Tryz.ntmps18
 go_wp2
 go_ret
 exact ⟨rfl, rfl⟩
theorem asked_nil : Calls Tryz.prog 38 #[.pointer none] w fun e w' => e = .returned (.slice none 0 0) ∧ w' = w := by
 go_enter Tryz.func38, Tryz.ntmps38
 go_wp2
 go_ret
 exact ⟨rfl, rfl⟩

/-- the list of a message, cut to five -/
def cutM (m : MsgB) : MsgB := { m with list := m.list.take 5 }
theorem cut_len (m : MsgB) : (cutM m).list.length = min m.list.length 5 := by unfold cutM; rw [List.length_take, Nat.min_comm]
set_option maxRecDepth 100000 in
theorem short_any (m : MsgB) (ao : Option Addr) (cap : Nat) (hc : (ao = none → cap = 0) ∧ m.list.length ≤ cap) (hl : (m.list.length : Int) ≤ 9223372036854775807) (hcap : (cap : Int) ≤ 9223372036854775807) :
  Calls Tryz.prog 58 #[.agg (encM m (.slice ao m.list.length cap))] w fun e w' => e = .returned (.agg (encM (cutM m) (.slice ao (cutM m).list.length cap))) ∧ Below w.heap.size w w' := by
 obtain ⟨c, hc5⟩ : ∃ c : Nat, c = min m.list.length 5 := ⟨_, rfl⟩
 have HCL := Lib.hid (cut_len m)
 have hmin : min (m.list.length : Int) 5 = (c : Int) := by omega
 have c0 : (0 : Int) ≤ (c : Int) := by omega
 have c1 : (c : Int) ≤ (cap : Int) := by omega
 have HCC := Lib.hid (show c = (cutM m).list.length from by rw [cut_len]; exact hc5)
 have HB := Lib.hid ((Below.refl _ w).alloc (Nat.le_refl _) (.cells (encM m (.slice ao m.list.length cap)) 36))
 have HR := Lib.hid (World.alloc_heap_new w (.cells (encM m (.slice ao m.list.length cap)) 36))
 unfold encM iv at *
 clear hc5
 go_enter Tryz.func58, Tryz.ntmps58
 go_upto_region 1 with (fail)
 go_wp2
 rw [HCC.out]
 refine bodyPost_ret (results_cell_row rfl _ _ (w.heap.size + 1) _ _ _ _ rfl (by rw [show w.heap.size + 1 = (w.alloc _).heap.size from (alloc_sz w _).symm]; exact heap_alloc_new _ _) Tryz.underlying36 rfl (by kernel_rfl)) rfl ⟨rfl, ?_⟩
 exact ((Below.refl _ w).alloc (Nat.le_refl _) _).alloc (by simp) _
end

/-! what Resume refuses -/
section
variable {R R0 : Nat → Prop} {w : World} {x : Nat} {p : Ptr} {s : StB}
set_option maxRecDepth 100000 in
theorem areKeys_none (r : Int) (w : World) : Calls Tryz.prog 107 #[.slice none 0 0, .int .i64 r] w fun e w' => e = .returned (.bool true) ∧ w' = w := by
 go_enter Tryz.func107, Tryz.ntmps107
 go_wp2
 go_loopw [10] (fun iv wr => iv = .int .i64 0 ∧ wr = w) (fun _ _ => 0)
 case atStart => exact ⟨rfl, rfl⟩
 case round =>
  obtain ⟨rfl, rfl⟩ := hrel
  go_wp2
  go_ret
  exact ⟨rfl, rfl⟩
set_option maxRecDepth 100000 in
/-- one key that is not one -/
theorem areKeys_one {W : World} {b : Nat} {r : Int} {d : ByteArray} (h0 : W.cell? ⟨b, 0, none⟩ = some (.int .i64 r)) (h1 : W.cell? ⟨b, 1, none⟩ = some (.string d)) (hr : 0 ≤ r) (hb : 3 ≤ r ∨ d.size ≠ 32) : Calls Tryz.prog 107 #[.slice (some ⟨b, 0, none⟩) 1 1, .int .i64 3] W fun e w' => e = .returned (.bool false) ∧ Below W.heap.size W w' := by
 have HC := Lib.hid (And.intro h0 h1)
 have HB := Lib.hid hb
 have r1 : ¬ r ≤ -1 := by omega
 clear h0 h1 hb
 go_enter Tryz.func107, Tryz.ntmps107
 go_wp2
 go_loopw [10, 5] (fun iv lv wr => iv = .int .i64 0 ∧ lv = .int .i64 (-1) ∧ wr = W) (fun _ _ _ => 0)
 case atStart => exact ⟨rfl, rfl, rfl⟩
 case round =>
  obtain ⟨rfl, rfl, rfl⟩ := hrel
  obtain ⟨k0, k1⟩ := HC.out
  have HBA := Lib.hid ((Below.refl wr.heap.size wr).alloc (Nat.le_refl _) (.cells #[.int .i64 r, .string d] 102))
  by_cases h3 : 3 ≤ r
  ·go_wp2
   go_ret
   exact ⟨rfl, HBA.out⟩
  ·have hs : ¬ d.size = 32 := by rcases HB.out with q | q; exact absurd q h3; exact q
   have s1 : ((d.size : Int) == 32) = false := by rw [beq_eq_false_iff_ne]; omega
   have s2 : ((d.size : Int) != 32) = true := by rw [bne, s1]; rfl
   clear hs
   go_wp2
   go_ret
   exact ⟨rfl, HBA.out⟩
set_option maxRecDepth 100000 in
/-- two keys of one round -/
theorem areKeys_two {W : World} {b : Nat} {d e2 : ByteArray} (h0 : W.cell? ⟨b, 0, none⟩ = some (.int .i64 1)) (h1 : W.cell? ⟨b, 1, none⟩ = some (.string d)) (h2 : W.cell? ⟨b, 2, none⟩ = some (.int .i64 1)) (h3 : W.cell? ⟨b, 3, none⟩ = some (.string e2)) (hd : d.size = 32) : Calls Tryz.prog 107 #[.slice (some ⟨b, 0, none⟩) 2 2, .int .i64 3] W fun e w' => e = .returned (.bool false) ∧ Below W.heap.size W w' := by
 have HC := Lib.hid (And.intro h0 (And.intro h1 (And.intro h2 h3)))
 have s1 : ((d.size : Int) == 32) = true := by rw [hd]; rfl
 have s2 : ((d.size : Int) != 32) = false := by rw [hd]; rfl
 have UP := Lib.hid (show ∀ (A : World) (a : Addr) (u : Value), Below W.heap.size W A → W.cell? a = some u → A.cell? a = some u from fun A a u hA h => by
  rw [World.cell?_of_block (w := W) (hA.block a.block (World.block_lt_of_cell? _ _ h))]; exact h)
 clear h0 h1 h2 h3 hd
 go_enter Tryz.func107, Tryz.ntmps107
 go_wp2
 go_loopw [10, 5] (fun iv lv wr => ((iv = .int .i64 0 ∧ lv = .int .i64 (-1)) ∨ (iv = .int .i64 1 ∧ lv = .int .i64 1)) ∧ Below W.heap.size W wr) (fun iv _ _ => 2 - (intOf iv).toNat)
 case atStart => exact ⟨.inl ⟨rfl, rfl⟩, Below.refl _ _⟩
 case round =>
  obtain ⟨hv, hbw⟩ := hrel
  obtain ⟨q0, q1, q2, q3⟩ := HC.out
  have k0 := UP.out _ _ _ hbw q0
  have k1 := UP.out _ _ _ hbw q1
  have k2 := UP.out _ _ _ hbw q2
  have k3 := UP.out _ _ _ hbw q3
  have HBW := Lib.hid hbw
  clear q0 q1 q2 q3 hbw
  rcases hv with ⟨rfl, rfl⟩ | ⟨rfl, rfl⟩
  ·have HBA := Lib.hid (HBW.out.alloc HBW.out.size (.cells #[.int .i64 1, .string d] 102))
   go_wp2
   go_roundw
   case rel => exact ⟨.inr ⟨rfl, rfl⟩, HBA.out⟩
   case measure => simp [intOf]
  ·have HBA := Lib.hid (HBW.out.alloc HBW.out.size (.cells #[.int .i64 1, .string e2] 102))
   go_wp2
   go_ret
   exact ⟨rfl, HBA.out⟩
theorem asc_none : ascS [] = true := rfl
set_option maxRecDepth 100000 in
theorem resume_c (hG : Glob w) : Calls Tryz.prog 59 #[pv x, .int .i64 0, .int .i64 3, .int .i64 3, .slice none 0 0, .slice none 0 0] w fun e w' => e = .returned (.int .i64 260) ∧ Below w.heap.size w w' := by
 have NV := Lib.hid (newValue_any (LRow.nil (fun k => k < w.heap.size) w) (fun k hk => hk) (by simp) hG 3)
 rw [asc_none] at NV
 unfold pv iv at *
 clear hG
 go_enter Tryz.func59, Tryz.ntmps59
 go_upto_region 4 with (go_at_call 62; (with_reducible refine NV.out.mono ?_); rintro e w1 ⟨u, rfl, hu, hb1⟩; obtain ⟨ua, uc, rfl, _⟩ := id hu; have HB1 := Lib.hid (hb1.alloc hb1.size (.cells #[.int .i64 3, .string (digV []), .slice ua 0 uc] 120)); clear hb1 hu)
 go_wp2_with fail
 go_ret
 exact ⟨rfl, HB1.out⟩

set_option maxRecDepth 100000 in
theorem resume_g (hG : Glob w) : Calls Tryz.prog 59 #[pv x, .int .i64 1200, .int .i64 0, .int .i64 (-1), .slice none 0 0, .slice none 0 0] w fun e w' => e = .returned (.int .i64 260) ∧ Below w.heap.size w w' := by
 have NV := Lib.hid (newValue_any (LRow.nil (fun k => k < w.heap.size) w) (fun k hk => hk) (by simp) hG (-1))
 rw [asc_none] at NV
 unfold pv iv at *
 clear hG
 go_enter Tryz.func59, Tryz.ntmps59
 go_upto_region 4 with (go_at_call 62; (with_reducible refine NV.out.mono ?_); rintro e w1 ⟨u, rfl, hu, hb1⟩; obtain ⟨ua, uc, rfl, _⟩ := id hu; have HB1 := Lib.hid (hb1.alloc hb1.size (.cells #[.int .i64 (-1), .string (digV []), .slice ua 0 uc] 120)); clear hb1 hu)
 go_wp2_with fail
 go_ret
 exact ⟨rfl, HB1.out⟩

set_option maxRecDepth 100000 in
theorem resume_h (hG : Glob w) : Calls Tryz.prog 59 #[pv x, .int .i64 0, .int .i64 100, .int .i64 (-1), .slice none 0 0, .slice none 0 0] w fun e w' => e = .returned (.int .i64 260) ∧ Below w.heap.size w w' := by
 have NV := Lib.hid (newValue_any (LRow.nil (fun k => k < w.heap.size) w) (fun k hk => hk) (by simp) hG (-1))
 rw [asc_none] at NV
 unfold pv iv at *
 clear hG
 go_enter Tryz.func59, Tryz.ntmps59
 go_upto_region 4 with (go_at_call 62; (with_reducible refine NV.out.mono ?_); rintro e w1 ⟨u, rfl, hu, hb1⟩; obtain ⟨ua, uc, rfl, _⟩ := id hu; have HB1 := Lib.hid (hb1.alloc hb1.size (.cells #[.int .i64 (-1), .string (digV []), .slice ua 0 uc] 120)); clear hb1 hu)
 go_wp2_with fail
 go_ret
 exact ⟨rfl, HB1.out⟩

set_option maxRecDepth 100000 in
theorem resume_d {v : Value} {l : List ByteArray} (hr : LRow R0 w v l) (h0 : ∀ k, R0 k → k < w.heap.size) (hl : l.length ≤ 60) (ha : ascS l = true) (h1 : 0 < l.length) (hG : Glob w) : Calls Tryz.prog 59 #[pv x, .int .i64 0, .int .i64 3, .int .i64 (-1), v, .slice none 0 0] w fun e w' => e = .returned (.int .i64 260) ∧ Below w.heap.size w w' := by
 have NV := Lib.hid (newValue_any hr h0 hl hG (-1))
 rw [ha] at NV
 obtain ⟨va, vc, rfl, _⟩ := id hr
 have l1 : (0 : Int) < (l.length : Int) := by omega
 unfold pv iv at *
 clear hG hr h0 hl ha h1
 go_enter Tryz.func59, Tryz.ntmps59
 go_upto_region 4 with (go_at_call 62; (with_reducible refine NV.out.mono ?_); rintro e w1 ⟨u, rfl, hu, hb1⟩; obtain ⟨ua, uc, rfl, _⟩ := id hu; have HB1 := Lib.hid (hb1.alloc hb1.size (.cells #[.int .i64 (-1), .string (digV l), .slice ua l.length uc] 120)); clear hb1 hu)
 go_wp2_with fail
 go_ret
 exact ⟨rfl, HB1.out⟩

set_option maxRecDepth 100000 in
theorem resume_b (h : NodeP R w x p s) (hG : Glob w) (h0 : s.height = 0) (h1 : s.round = 0) (hd : s.isDec 0 = false) : Calls Tryz.prog 59 #[pv x, .int .i64 0, .int .i64 0, .int .i64 (-1), .slice none 0 0, .slice none 0 0] w fun e w' => e = .returned (.int .i64 260) ∧ Below w.heap.size w w' := by
 have NV := Lib.hid (newValue_any (LRow.nil (fun k => k < w.heap.size) w) (fun k hk => hk) (by simp) hG (-1))
 rw [asc_none] at NV
 have IS := Lib.hid (fun W (hW : Below w.heap.size w W) => isDecided_any (h.below hW) 0)
 have KA := Lib.hid (fun W => areKeys_none 0 W)
 have KP := Lib.hid (show ∀ W, Below w.heap.size w W → W.cell? ⟨x, 0, none⟩ = some (.int .i64 0) ∧ W.cell? ⟨x, 1, none⟩ = some (.int .i64 0) from fun W hW => by
  have q0 := (h.below hW).nc.c0
  have q1 := (h.below hW).nc.c1
  rw [h0] at q0
  rw [h1] at q1
  exact ⟨q0, q1⟩)
 rw [hd] at IS
 unfold pv iv at *
 clear hG h h0 h1 hd
 go_enter Tryz.func59, Tryz.ntmps59
 go_upto_region 4 with (go_at_call 62; (with_reducible refine NV.out.mono ?_); rintro e w1 ⟨u, rfl, hu, hb1⟩; obtain ⟨ua, uc, rfl, _⟩ := id hu; have HB1 := Lib.hid (hb1.alloc hb1.size (.cells #[.int .i64 (-1), .string (digV []), .slice ua 0 uc] 120)); clear hb1 hu)
 obtain ⟨w2, hw2⟩ : ∃ w2, w2 = w1.alloc (.cells #[.int .i64 (-1), .string (digV []), .slice ua 0 uc] 120) := ⟨_, rfl⟩
 rw [← hw2] at HB1 ⊢
 clear hw2
 have IS2 := Lib.hid (IS.out _ HB1.out)
 go_wp2_with (first
  | (go_at_call 107; (with_reducible refine (KA.out _).mono ?_); rintro e wq ⟨rfl, hwq⟩; rw [hwq]; clear hwq wq)
  | (go_at_call 63; (with_reducible refine IS2.out.mono ?_); rintro e w3 ⟨rfl, hb3⟩; have HB3 := Lib.hid (HB1.out.trans (hb3.mono HB1.out.size)); obtain ⟨c0, c1⟩ := KP.out _ HB3.out; clear hb3))
 go_ret
 exact ⟨rfl, HB3.out⟩

set_option maxRecDepth 100000 in
theorem resume_k {kv : Value} (hk : ∀ W, Below w.heap.size w W → Calls Tryz.prog 107 #[kv, .int .i64 3] W fun e w' => e = .returned (.bool false) ∧ Below W.heap.size W w') (hG : Glob w) : Calls Tryz.prog 59 #[pv x, .int .i64 0, .int .i64 3, .int .i64 (-1), .slice none 0 0, kv] w fun e w' => e = .returned (.int .i64 260) ∧ Below w.heap.size w w' := by
 have NV := Lib.hid (newValue_any (LRow.nil (fun k => k < w.heap.size) w) (fun k hk => hk) (by simp) hG (-1))
 rw [asc_none] at NV
 have KA := Lib.hid hk
 unfold pv iv at *
 clear hG hk
 go_enter Tryz.func59, Tryz.ntmps59
 go_upto_region 4 with (go_at_call 62; (with_reducible refine NV.out.mono ?_); rintro e w1 ⟨u, rfl, hu, hb1⟩; obtain ⟨ua, uc, rfl, _⟩ := id hu; have HB1 := Lib.hid (hb1.alloc hb1.size (.cells #[.int .i64 (-1), .string (digV []), .slice ua 0 uc] 120)); clear hb1 hu)
 obtain ⟨w2, hw2⟩ : ∃ w2, w2 = w1.alloc (.cells #[.int .i64 (-1), .string (digV []), .slice ua 0 uc] 120) := ⟨_, rfl⟩
 rw [← hw2] at HB1 ⊢
 clear hw2
 have KA2 := Lib.hid (KA.out _ HB1.out)
 go_wp2_with (go_at_call 107; (with_reducible refine KA2.out.mono ?_); rintro e w3 ⟨rfl, hb3⟩; have HB3 := Lib.hid (HB1.out.trans (hb3.mono HB1.out.size)); clear hb3)
 go_ret
 exact ⟨rfl, HB3.out⟩

end

end Go.Proofs.YtifcdjmcoibblaaGreatDoor

/-! REFUSES: one node, made since a base; the plain law. -/
namespace Go.Proofs.YtifcdjmcoibblaaGreatDoor
set_option linter.unusedVariables false
set_option linter.unusedSimpArgs false
set_option linter.unusedSectionVars false
open Go.RowKit

/-! plain -/
section
variable {l : List ByteArray}
/-- a renaming: one list that has a digest -/
def oneD (d : ByteArray) (c : QZ 1) : ByteArray := if c.val = 0 then ByteArray.mk #[] else d
def oneL (l : List ByteArray) (c : QZ 1) : List ByteArray := if c.val = 0 then [] else l
theorem one_ren (d : ByteArray) (h : d.size = 32) (l : List ByteArray) : Ren (oneD d) (oneL l) := by
 have hd : ∃ a t, d.toList = a :: t := by
  rcases e : d.toList with _ | ⟨a, t⟩
  ·have : d.toList.length = 32 := by rw [Lib.toList_data]; exact h
   rw [e] at this; simp at this
  ·exact ⟨a, t, rfl⟩
 obtain ⟨a, t, hat⟩ := hd
 have h0 : (ByteArray.mk #[]).toList = [] := by simp
 have lt : ∀ a b : QZ 1, Op.bytesLess (oneD d a).toList (oneD d b).toList = decide (a.val < b.val) := fun x y => by
  have hx := x.isLt
  have hy := y.isLt
  unfold oneD
  by_cases h1 : x.val = 0
  ·by_cases h2 : y.val = 0
   ·rw [if_pos h1, if_pos h2, bytes_irr, h1, h2]; rfl
   ·rw [if_pos h1, if_neg h2, h0, hat]
    simp [Op.bytesLess]; omega
  ·by_cases h2 : y.val = 0
   ·rw [if_neg h1, if_pos h2, h0, bytes_nil, h2]; rfl
   ·rw [if_neg h1, if_neg h2, bytes_irr]; simp; omega
 refine ⟨fun a b e => ?_, rfl, fun a b => lt a b, rfl⟩
 have a1 := lt a b
 have a2 := lt b a
 rw [e, bytes_irr] at a1
 rw [e, bytes_irr] at a2
 have b1 := of_decide_eq_false a1.symm
 have b2 := of_decide_eq_false a2.symm
 exact Fin.ext (by omega)
/-- the node that has begun -/
def begS (l : List ByteArray) : StB := ((newS 0 4 : StB).begin 0 (ascS l) (digV l) l).1
theorem ren_begin (l : List ByteArray) : (newS 0 4 : StB).begin 0 true (digV l) l = (((newS 0 4 : NS (QZ 1) (QZ 1)).begin 0 true 1 1).1.ren (oneD (digV l)) (oneL l), true) :=
 begin_ren (one_ren (digV l) (digV_size l) l) (newS 0 4 : NS (QZ 1) (QZ 1)) 0 true 1 1
theorem ren_new (l : List ByteArray) : (newS 0 4 : StB) = (newS 0 4 : NS (QZ 1) (QZ 1)).ren (oneD (digV l)) (oneL l) := rfl
theorem beg_ok (l : List ByteArray) : ((newS 0 4 : StB).begin 0 (ascS l) (digV l) l).2 = ascS l := by
 rcases ascS l with _ | _
 ·rw [begin_bad]
 ·rfl
theorem six1 : ((((newS 0 4 : NS (QZ 1) (QZ 1)).begin 0 true 1 1).1).tick).2.length = 6 ∧ (((((newS 0 4 : NS (QZ 1) (QZ 1)).begin 0 true 1 1).1).tick).1.begin 0 true 1 1).2 = false ∧ ((((newS 0 4 : NS (QZ 1) (QZ 1)).begin 0 true 1 1).1).tick).1.own.isNone = false ∧ ((((newS 0 4 : NS (QZ 1) (QZ 1)).begin 0 true 1 1).1).tick).1.height = 0 ∧ ((((newS 0 4 : NS (QZ 1) (QZ 1)).begin 0 true 1 1).1).tick).1.isDec 0 = false := by decide +kernel
theorem none1 : ((newS 0 4 : NS (QZ 1) (QZ 1)).tick).2 = [] ∧ (((newS 0 4 : NS (QZ 1) (QZ 1)).tick).1.begin 0 true 1 1).2 = true ∧ ((newS 0 4 : NS (QZ 1) (QZ 1)).tick).1.own.isNone = true ∧ ((newS 0 4 : NS (QZ 1) (QZ 1)).tick).1.height = 0 ∧ ((newS 0 4 : NS (QZ 1) (QZ 1)).tick).1.isDec 0 = false := by decide +kernel
theorem beg_yes (h : ascS l = true) : begS l = ((newS 0 4 : NS (QZ 1) (QZ 1)).begin 0 true 1 1).1.ren (oneD (digV l)) (oneL l) := by
 unfold begS; rw [h, ren_begin]
theorem beg_no (h : ascS l = false) : begS l = newS 0 4 := by
 unfold begS; rw [h, begin_bad]
theorem tick_out6 (l : List ByteArray) : (begS l).tick.2.length = (if ascS l = true then 6 else 0) := by
 rcases h : ascS l with _ | _
 ·rw [beg_no h, ren_new l, tick_ren (one_ren (digV l) (digV_size l) l), none1.1]; rfl
 ·rw [beg_yes h, tick_ren (one_ren (digV l) (digV_size l) l), List.length_map, six1.1]; rfl
theorem last_begin (l : List ByteArray) : ((begS l).tick.1.begin 0 (ascS []) (digV []) []).2 = !(ascS l) := by
 rcases h : ascS l with _ | _
 ·have e : (begS l).tick.1 = ((newS 0 4 : NS (QZ 1) (QZ 1)).tick).1.ren (oneD (digV l)) (oneL l) := by
   rw [beg_no h, ren_new l, tick_ren (one_ren (digV l) (digV_size l) l)]
  rw [e]
  rw [show ascS [] = true from rfl]
  rw [begin_b (s := ((newS 0 4 : NS (QZ 1) (QZ 1)).tick).1.ren (oneD (digV l)) (oneL l)) (by show (0 : Int) = ((newS 0 4 : NS (QZ 1) (QZ 1)).tick).1.height; rw [none1.2.2.2.1]) (by
   show (((newS 0 4 : NS (QZ 1) (QZ 1)).tick).1.ren (oneD (digV l)) (oneL l)).isDec ((newS 0 4 : NS (QZ 1) (QZ 1)).tick).1.height = false
   rw [isDec_ren, none1.2.2.2.1, none1.2.2.2.2]) (by
   show (((newS 0 4 : NS (QZ 1) (QZ 1)).tick).1.own.map (Val.ren (oneD (digV l)) (oneL l))).isNone = true
   rw [Option.isNone_map]; exact none1.2.2.1)]
  rfl
 ·have e : (begS l).tick.1 = ((((newS 0 4 : NS (QZ 1) (QZ 1)).begin 0 true 1 1).1).tick).1.ren (oneD (digV l)) (oneL l) := by
   rw [beg_yes h, tick_ren (one_ren (digV l) (digV_size l) l)]
  rw [e]
  rw [show ascS [] = true from rfl]
  rw [begin_d (s := ((((newS 0 4 : NS (QZ 1) (QZ 1)).begin 0 true 1 1).1).tick).1.ren (oneD (digV l)) (oneL l)) (by
   rintro ⟨_, _, q⟩
   have : (((((newS 0 4 : NS (QZ 1) (QZ 1)).begin 0 true 1 1).1).tick).1.own.map (Val.ren (oneD (digV l)) (oneL l))).isNone = true := q
   rw [Option.isNone_map, six1.2.2.1] at this; cases this) (by
   rintro ⟨q, _⟩
   have : ((((((newS 0 4 : NS (QZ 1) (QZ 1)).begin 0 true 1 1).1).tick).1.ren (oneD (digV l)) (oneL l))).isDec ((((newS 0 4 : NS (QZ 1) (QZ 1)).begin 0 true 1 1).1).tick).1.height = true := q
   rw [isDec_ren, six1.2.2.2.1, six1.2.2.2.2] at this; cases this)]
  rfl
/-- what is told of lists and their digests: one list -/
def GO (l : List ByteArray) (d : ByteArray) (k : List ByteArray) : Prop := ascS l = true ∧ k = l ∧ d = digV l
theorem GO.gf (hl : l.length ≤ 60) : GFam (GO l) := ⟨⟨fun d a b h1 h2 => h1.2.1.trans h2.2.1.symm, fun d k h => by rw [h.2.1]; exact hl⟩, fun d k h => by rw [h.2.1]; exact ⟨h.1, h.2.2⟩⟩
theorem fit_new (hl : l.length ≤ 60) : Fit (GO l) (newS 0 4 : StB) := Fit.new (by omega) (by omega) (by omega)
theorem fit_beg (hl : l.length ≤ 60) : Fit (GO l) (begS l) := (fit_new hl).begin (GO.gf hl) 0 (fun h => ⟨h, rfl, rfl⟩)
theorem beg_round (l : List ByteArray) : (begS l).round = 0 ∧ (begS l).height = 0 ∧ (begS l).asked = [] ∧ (begS l).props = [] ∧ (begS l).ticks = 0 := by
 rcases h : ascS l with _ | _
 ·rw [beg_no h]; exact ⟨rfl, rfl, rfl, rfl, rfl⟩
 ·unfold begS; rw [h]; exact ⟨rfl, rfl, rfl, rfl, rfl⟩
/-- what the law gives to Receive has no effect -/
theorem new_recv {m : MsgB} (h : m.to ≠ 0 ∨ 4 ≤ m.frm ∨ 0 < m.height ∨ validB m = false) : (newS 0 4 : StB).receive m (validB m) = newS 0 4 := by
 refine rcv_bad ?_
 unfold badM
 show (!(validB m) || !(m.to == 0) || decide (4 ≤ m.frm) || decide (0 < m.height)) = true
 simp
 rcases h with h | h | h | h
 ·exact .inl (.inl (.inr h))
 ·exact .inl (.inr h)
 ·exact .inr h
 ·exact .inl (.inl (.inl h))
theorem new_begin1 : (newS 0 4 : StB).begin 1 (ascS []) (digV []) [] = (newS 0 4, false) := by
 rw [show ascS [] = true from rfl, begin_d]
 ·rintro ⟨q, _⟩
  have : (1 : Int) = 0 := q
  omega
 ·rintro ⟨q, _⟩
  have : (newS 0 4 : StB).isDec 0 = true := q
  cases this
theorem new_learn : (newS 0 4 : StB).learn (-1) (ascS []) (digV []) [] = (newS 0 4, false) := learn_bad (.inr (.inl (by omega)))
end

/-! one node -/
def OneN (base x : Nat) (s : StB) (W : World) : Prop := ∃ R p, NodeP R W x p s ∧ (∀ k, R k → base ≤ k) ∧ base ≤ W.heap.size
section
variable {base x : Nat} {s : StB} {W W' : World}
theorem OneN.size (h : OneN base x s W) : base ≤ W.heap.size := by
 obtain ⟨R, p, _, _, q⟩ := h
 exact q
theorem OneN.later (h : OneN base x s W) (hb : Below W.heap.size W W') : OneN base x s W' := by
 obtain ⟨R, p, h1, h2, h3⟩ := h
 exact ⟨R, p, h1.below hb, h2, Nat.le_trans h3 hb.size⟩
/-- something below turns -/
theorem OneN.under (h : OneN base x s W) (hz : W.heap.size ≤ W'.heap.size) (hk : ∀ k, base ≤ k → k < W.heap.size → W'.heap[k]? = W.heap[k]?) : OneN base x s W' := by
 obtain ⟨R, p, h1, h2, h3⟩ := h
 exact ⟨R, p, h1.later (fun k q => hk k (h2 k q) (h1.lt k q)) hz, h2, Nat.le_trans h3 hz⟩
theorem OneN.turned {R : Nat → Prop} {s' : StB} (h2 : ∀ k, R k → base ≤ k) (h3 : base ≤ W.heap.size) (ht : Turned R W x s' W') : OneN base x s' W' ∧ Below base W W' := by
 obtain ⟨p', R', a, b, c⟩ := ht
 refine ⟨⟨R', p', a, fun k hk => ?_, Nat.le_trans h3 b.size⟩, b.below h3 h2⟩
 rcases c.2 k hk with q | q
 ·exact h2 k q
 ·omega
theorem o_recv {R0 : Nat → Prop} {v : Value} {m : MsgB} (h : OneN base x s W) (hm : MsgV R0 W v m) (h0 : ∀ k, R0 k → k < W.heap.size) (hl : m.list.length ≤ 60) (hG : Glob W) (hI : NumI s) (hol : s.order.length ≤ 1000) (he : s.receive m (validB m) = s) :
  Calls Tryz.prog 20 #[pv x, v] W fun e w' => e = .returned (.tuple #[]) ∧ OneN base x s w' ∧ Below base W w' := by
 obtain ⟨R, p, h1, h2, h3⟩ := h
 refine (receive_any h1 hm h0 hl hG hI hol).mono ?_
 rintro e w' ⟨rfl, ht⟩
 rw [he] at ht
 exact ⟨rfl, OneN.turned h2 h3 ht⟩
theorem o_begin {R0 : Nat → Prop} {v : Value} {l : List ByteArray} (h : OneN base x s W) (hr : LRow R0 W v l) (h0 : ∀ k, R0 k → k < W.heap.size) (hl : l.length ≤ 60) (hG : Glob W) (hI : NumI s) (height : Int) {s' : StB} {b : Bool} (he : s.begin height (ascS l) (digV l) l = (s', b)) :
  Calls Tryz.prog 16 #[pv x, iv height, v] W fun e w' => e = .returned (errE b) ∧ OneN base x s' w' ∧ Below base W w' := by
 obtain ⟨R, p, h1, h2, h3⟩ := h
 refine (begin_any h1 hr h0 hl hG hI height).mono ?_
 rw [he]
 rintro e w' ⟨rfl, ht⟩
 exact ⟨rfl, OneN.turned h2 h3 ht⟩
theorem o_learn {R0 : Nat → Prop} {v : Value} {l : List ByteArray} (h : OneN base x s W) (hr : LRow R0 W v l) (h0 : ∀ k, R0 k → k < W.heap.size) (hl : l.length ≤ 60) (hG : Glob W) (height : Int) {s' : StB} {b : Bool} (he : s.learn height (ascS l) (digV l) l = (s', b)) :
  Calls Tryz.prog 36 #[pv x, iv height, v] W fun e w' => e = .returned (errE b) ∧ OneN base x s' w' ∧ Below base W w' := by
 obtain ⟨R, p, h1, h2, h3⟩ := h
 refine (learn_any h1 hr h0 hl hG height).mono ?_
 rw [he]
 rintro e w' ⟨rfl, ht⟩
 exact ⟨rfl, OneN.turned h2 h3 ht⟩
theorem o_tick {G : ByteArray → List ByteArray → Prop} (h : OneN base x s W) (hf : Fit G s) (gf : GFam G) (hT : s.ticks ≤ 1000000000000) :
  Calls Tryz.prog 18 #[pv x] W fun e w' => (∃ ao cap, e = .returned (.slice ao s.tick.2.length cap)) ∧ OneN base x s.tick.1 w' ∧ Below base W w' := by
 obtain ⟨R, p, h1, h2, h3⟩ := h
 refine (tick_any h1 hf.ok gf.law hf.qi.q hT).mono ?_
 rintro e w' ⟨v, R', rfl, ⟨p', a⟩, b, c, sls, _, ho, _⟩
 refine ⟨?_, OneN.turned h2 h3 ⟨p', R', a, b, c⟩⟩
 obtain ⟨_, ⟨e1, e2⟩ | ⟨g, cap, cur, e1, _⟩⟩ := ho
 ·refine ⟨none, 0, ?_⟩
  rw [e1, e2]
 ·exact ⟨_, cap, by rw [e1]⟩
theorem o_round (h : OneN base x s W) : Calls Tryz.prog 23 #[pv x] W fun e w' => e = .returned (.int .i64 s.round) ∧ w' = W := by
 obtain ⟨R, p, h1, _⟩ := h
 exact round_any h1
theorem o_height (h : OneN base x s W) : Calls Tryz.prog 24 #[pv x] W fun e w' => e = .returned (.int .i64 s.height) ∧ w' = W := by
 obtain ⟨R, p, h1, _⟩ := h
 exact height_any h1
theorem o_asked (h : OneN base x s W) (hp : s.props = []) (ha : s.asked = []) : Calls Tryz.prog 38 #[pv x] W fun e w' => (∃ ao cap, e = .returned (.slice ao 0 cap)) ∧ Below W.heap.size W w' := by
 obtain ⟨R, p, h1, _⟩ := h
 refine (asked_any h1 (by rw [hp]; simp) (by rw [hp]; intro k m hg; cases hg)).mono ?_
 rintro e w' ⟨⟨v, rfl, hr⟩, hb⟩
 refine ⟨?_, hb⟩
 obtain ⟨ao, cap, rfl⟩ := rowL_slice hr
 rw [ha]
 exact ⟨ao, cap, rfl⟩
theorem o_resume_b (h : OneN base x s W) (hG : Glob W) (h0 : s.height = 0) (h1 : s.round = 0) (hd : s.isDec 0 = false) : Calls Tryz.prog 59 #[pv x, .int .i64 0, .int .i64 0, .int .i64 (-1), .slice none 0 0, .slice none 0 0] W fun e w' => e = .returned (.int .i64 260) ∧ Below W.heap.size W w' := by
 obtain ⟨R, p, q, _⟩ := h
 exact resume_b q hG h0 h1 hd
end

end Go.Proofs.YtifcdjmcoibblaaGreatDoor
