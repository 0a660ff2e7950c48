/-
  Facts: their cells; the fields that a kind has. Maps whose keys are integers. fact.Valid.
-/
import Derived.Test.YtffifhbldcjelaaGreatDoorDs06
import Derived.Deep.RegionHeld3
import Derived.Deep.RegionLaw
import Derived.BigQuiet
import Derived.Test.YtffifhbldcjelaaGreatDoorDs07
import Derived.Test.YtffifhbldcjelaaGreatDoorDs09

/-! Facts: their cells; the fields that a kind has. -/
namespace Go.Proofs.YtffifhbldcjelaaGreatDoor
set_option linter.unusedVariables false
set_option linter.unusedSimpArgs false
open Go.RowKit

theorem results_cellF {P : Program} {fn : Func} {a : Tmp} {t : TypeId} {pa : Addr} {cs : List Value} {tmps : Array Value} {w : World} (h : fn.results = #[.cell a t]) (ha : tmps.getD a undef = .pointer (some pa))
    (hta : (isAgg t).run P w = .ok true w) (hsz : (sizeOf t).run P w = .ok cs.length w) (hc : ∀ j v, cs[j]? = some v → w.cell? (pa.add j) = some v) : (results fn tmps).run P w = .ok (.agg cs.toArray) w := by
  have e1 : asAddr (tmps.getD a undef) = pure pa := by rw [ha]; rfl
  unfold results
  rw [h]
  simp only [List.mapM_toArray, List.mapM_cons, List.mapM_nil, e1]
  simp [loadVar, hta, hsz, run_loadCells_list w pa cs hc]

/-- a fact: its seventeen numbers in the order of its fields, and its text -/
structure PF where
  n : Nat → Int
  t : ByteArray
def encP (f : PF) : List Value := [.int .i64 (f.n 0), .int .i64 (f.n 1), .int .i64 (f.n 2), .int .i64 (f.n 3), .int .i64 (f.n 4), .int .i64 (f.n 5), .int .i64 (f.n 6), .int .i64 (f.n 7), .int .i64 (f.n 8), .int .i64 (f.n 9), .int .i64 (f.n 10), .int .i64 (f.n 11), .int .i64 (f.n 12), .int .i64 (f.n 13), .int .i64 (f.n 14), .int .i64 (f.n 15), .int .i64 (f.n 16), .string f.t]
theorem encP_len (f : PF) : (encP f).length = 18 := rfl
/-- a number with its limits -/
structure Fd where
  i : Nat
  lo : Int
  hi : Int
def encFd (b : Nat) (x : Fd) : List Value := [.pointer (some ⟨b, x.i, none⟩), .int .i64 x.lo, .int .i64 x.hi]
theorem encFd_len (b : Nat) (x : Fd) : (encFd b x).length = 3 := rfl

theorem fid_any (a : Addr) (w : World) : Calls Tryz.prog 102 #[.pointer (some a)] w fun e w' => e = .returned (.agg #[.pointer (some a), .int .i64 1, .int .i64 1000000]) ∧ Below w.heap.size w w' := by
  have B1 := Lib.hid ((Below.refl w.heap.size w).alloc (Nat.le_refl _) (.cells #[.pointer (some a), .int .i64 1, .int .i64 1000000] 115))
  have C1 := Lib.hid (cells_at w [.pointer (some a), .int .i64 1, .int .i64 1000000] 115 w.heap.size rfl)
  go_enter Tryz.func102, Tryz.ntmps102
  go_wp2
  exact bodyPost_ret (results_cellF rfl rfl (by kernel_rfl) (by kernel_rfl) C1.out) rfl ⟨rfl, B1.out⟩
theorem fterritory_any (a : Addr) (w : World) : Calls Tryz.prog 103 #[.pointer (some a)] w fun e w' => e = .returned (.agg #[.pointer (some a), .int .i64 0, .int .i64 7]) ∧ Below w.heap.size w w' := by
  have B1 := Lib.hid ((Below.refl w.heap.size w).alloc (Nat.le_refl _) (.cells #[.pointer (some a), .int .i64 0, .int .i64 7] 115))
  have C1 := Lib.hid (cells_at w [.pointer (some a), .int .i64 0, .int .i64 7] 115 w.heap.size rfl)
  go_enter Tryz.func103, Tryz.ntmps103
  go_wp2
  exact bodyPost_ret (results_cellF rfl rfl (by kernel_rfl) (by kernel_rfl) C1.out) rfl ⟨rfl, B1.out⟩
theorem fperiod_any (a : Addr) (w : World) : Calls Tryz.prog 104 #[.pointer (some a)] w fun e w' => e = .returned (.agg #[.pointer (some a), .int .i64 0, .int .i64 1199]) ∧ Below w.heap.size w w' := by
  have B1 := Lib.hid ((Below.refl w.heap.size w).alloc (Nat.le_refl _) (.cells #[.pointer (some a), .int .i64 0, .int .i64 1199] 115))
  have C1 := Lib.hid (cells_at w [.pointer (some a), .int .i64 0, .int .i64 1199] 115 w.heap.size rfl)
  go_enter Tryz.func104, Tryz.ntmps104
  go_wp2
  exact bodyPost_ret (results_cellF rfl rfl (by kernel_rfl) (by kernel_rfl) C1.out) rfl ⟨rfl, B1.out⟩

theorem RowK_flat {α : Type} {k : Nat} {enc : α → List Value} (hk : ∀ x, (enc x).length = k) (w : World) (l : List α) (t : TypeId) : RowK k enc (w.alloc (.cells (l.flatMap enc).toArray t)) (some ⟨w.heap.size, 0, none⟩) l := fun i x hx => by
  refine ⟨w.heap.size, 0, rfl, by simp, fun j v hv => ?_⟩
  rw [Nat.zero_add]
  refine cell_box w _ _ _ _ ?_ _ rfl
  rw [List.getElem?_toArray]
  exact flat_get hk l i x j v hx hv
theorem BelowN {b : Nat} {w w1 w' : World} (h : Below b w w1) (h2 : Below w1.heap.size w1 w') (hb : b ≤ w.heap.size) : Below b w w' := h.trans (h2.mono (Nat.le_trans hb h.size))
theorem BelowA {b : Nat} {w w1 : World} (h : Below b w w1) (hb : b ≤ w.heap.size) (o : Obj) : Below b w (w1.alloc o) := h.alloc (Nat.le_trans hb h.size) o
/-- the fields of a record at block b, in a new row -/
def FieldsE (w : World) (b : Nat) (L : List Fd) (e : Ending) (w' : World) : Prop :=
  ∃ g, e = .returned (.slice (some ⟨g, 0, none⟩) L.length L.length) ∧ w.heap.size ≤ g ∧ RowK 3 (encFd b) w' (some ⟨g, 0, none⟩) L ∧ Below w.heap.size w w'

def playL : List Fd := [⟨1, 1, 1000000⟩, ⟨5, 1, 1000000⟩, ⟨6, 1, 1000000⟩, ⟨7, 1, 1000000⟩, ⟨8, 0, 7⟩, ⟨4, 0, 3155759999⟩, ⟨13, 0, 86400000⟩, ⟨16, 0, 1⟩]
set_option maxRecDepth 100000 in
set_option maxHeartbeats 4000000 in
theorem play_any (b : Nat) (w : World) : Calls Tryz.prog 65 #[.pointer (some ⟨b, 0, none⟩)] w (FieldsE w b playL) := by
  have FIN := Lib.hid (fun (W : World) (h : Below w.heap.size w W) => (show FieldsE w b [⟨1, 1, 1000000⟩, ⟨5, 1, 1000000⟩, ⟨6, 1, 1000000⟩, ⟨7, 1, 1000000⟩, ⟨8, 0, 7⟩, ⟨4, 0, 3155759999⟩, ⟨13, 0, 86400000⟩, ⟨16, 0, 1⟩] (.returned (.slice (some ⟨W.heap.size, 0, none⟩) 8 8)) _ from ⟨W.heap.size, rfl, h.size, RowK_flat (encFd_len b) W [⟨1, 1, 1000000⟩, ⟨5, 1, 1000000⟩, ⟨6, 1, 1000000⟩, ⟨7, 1, 1000000⟩, ⟨8, 0, 7⟩, ⟨4, 0, 3155759999⟩, ⟨13, 0, 86400000⟩, ⟨16, 0, 1⟩] 115, h.alloc h.size _⟩))
  have B0 := Below.refl w.heap.size w
  go_enter Tryz.func65, Tryz.ntmps65
  go_wp2_with fail
  go_region_held3 (fun w' => Below w.heap.size w w')
    (first | (exact B0) | (exact B0.drew) | (exact BelowN (by assumption) hb1 (Nat.le_refl _)) | (exact BelowA (by assumption) (Nat.le_refl _) _) | assumption | (exact Below.drew (by assumption)))
    (first
      | (go_at_call 102; (with_reducible refine (fid_any _ _).mono ?_); rintro e w' ⟨rfl, hb1⟩)
      | (go_at_call 104; (with_reducible refine (fperiod_any _ _).mono ?_); rintro e w' ⟨rfl, hb1⟩)
      | (go_at_call 103; (with_reducible refine (fterritory_any _ _).mono ?_); rintro e w' ⟨rfl, hb1⟩))
  go_wp2_with fail
  go_ret
  refine FIN.out _ ?_
  repeat (first | exact B0.drew | refine BelowN ?_ (by assumption) (Nat.le_refl _))
def markL : List Fd := [⟨6, 1, 1000000⟩, ⟨1, 1, 1000000⟩, ⟨16, 1, 3⟩]
set_option maxRecDepth 100000 in
set_option maxHeartbeats 4000000 in
theorem mark_any (b : Nat) (w : World) : Calls Tryz.prog 67 #[.pointer (some ⟨b, 0, none⟩)] w (FieldsE w b markL) := by
  have FIN := Lib.hid (fun (W : World) (h : Below w.heap.size w W) => (show FieldsE w b [⟨6, 1, 1000000⟩, ⟨1, 1, 1000000⟩, ⟨16, 1, 3⟩] (.returned (.slice (some ⟨W.heap.size, 0, none⟩) 3 3)) _ from ⟨W.heap.size, rfl, h.size, RowK_flat (encFd_len b) W [⟨6, 1, 1000000⟩, ⟨1, 1, 1000000⟩, ⟨16, 1, 3⟩] 115, h.alloc h.size _⟩))
  have B0 := Below.refl w.heap.size w
  go_enter Tryz.func67, Tryz.ntmps67
  go_wp2_with fail
  go_region_held3 (fun w' => Below w.heap.size w w')
    (first | (exact B0) | (exact B0.drew) | (exact BelowN (by assumption) hb1 (Nat.le_refl _)) | (exact BelowA (by assumption) (Nat.le_refl _) _) | assumption | (exact Below.drew (by assumption)))
    (first
      | (go_at_call 102; (with_reducible refine (fid_any _ _).mono ?_); rintro e w' ⟨rfl, hb1⟩)
      | (go_at_call 104; (with_reducible refine (fperiod_any _ _).mono ?_); rintro e w' ⟨rfl, hb1⟩)
      | (go_at_call 103; (with_reducible refine (fterritory_any _ _).mono ?_); rintro e w' ⟨rfl, hb1⟩))
  go_wp2_with fail
  go_ret
  refine FIN.out _ ?_
  repeat (first | exact B0.drew | refine BelowN ?_ (by assumption) (Nat.le_refl _))
def claimL (f : PF) : List Fd := [⟨1, 1, 1000000⟩, ⟨7, 1, 1000000⟩, ⟨9, 1, 1000000⟩, ⟨10, 1, 2⟩, ⟨8, 1, 255⟩, ⟨11, 0, IntKind.i64.wrap (f.n 12 - 1)⟩, ⟨12, 1, 1200⟩, ⟨14, 0, 1000000⟩]
set_option maxRecDepth 100000 in
set_option maxHeartbeats 4000000 in
theorem claim_any (b : Nat) (f : PF) (w : World) (hc : w.cell? ⟨b, 12, none⟩ = some (.int .i64 (f.n 12))) : Calls Tryz.prog 68 #[.pointer (some ⟨b, 0, none⟩)] w (FieldsE w b (claimL f)) := by
  have FIN := Lib.hid (fun (W : World) (h : Below w.heap.size w W) => (show FieldsE w b [⟨1, 1, 1000000⟩, ⟨7, 1, 1000000⟩, ⟨9, 1, 1000000⟩, ⟨10, 1, 2⟩, ⟨8, 1, 255⟩, ⟨11, 0, IntKind.i64.wrap (f.n 12 - 1)⟩, ⟨12, 1, 1200⟩, ⟨14, 0, 1000000⟩] (.returned (.slice (some ⟨W.heap.size, 0, none⟩) 8 8)) _ from ⟨W.heap.size, rfl, h.size, RowK_flat (encFd_len b) W [⟨1, 1, 1000000⟩, ⟨7, 1, 1000000⟩, ⟨9, 1, 1000000⟩, ⟨10, 1, 2⟩, ⟨8, 1, 255⟩, ⟨11, 0, IntKind.i64.wrap (f.n 12 - 1)⟩, ⟨12, 1, 1200⟩, ⟨14, 0, 1000000⟩] 115, h.alloc h.size _⟩))
  have B0 := Below.refl w.heap.size w
  have C0 := Lib.hid (fun (W : World) (h : Below w.heap.size w W) => (show W.cell? ⟨b, 12, none⟩ = some (.int .i64 (f.n 12)) from by rw [h.cell (p := ⟨b, 12, none⟩) (World.block_lt_of_cell? _ _ hc)]; exact hc))
  go_enter Tryz.func68, Tryz.ntmps68
  go_wp2_with fail
  go_region_held3 (fun w' => Below w.heap.size w w' ∧ w'.cell? ⟨b, 12, none⟩ = some (.int .i64 (f.n 12)))
    (first | (exact ⟨B0, hc⟩) | (exact ⟨B0.drew, C0.out _ B0.drew⟩) | (exact ⟨BelowN (And.left (by assumption)) hb1 (Nat.le_refl _), C0.out _ (BelowN (And.left (by assumption)) hb1 (Nat.le_refl _))⟩) | (exact ⟨BelowA (And.left (by assumption)) (Nat.le_refl _) _, C0.out _ (BelowA (And.left (by assumption)) (Nat.le_refl _) _)⟩) | assumption)
    (first
      | (go_at_call 102; (with_reducible refine (fid_any _ _).mono ?_); rintro e w' ⟨rfl, hb1⟩)
      | (go_at_call 104; (with_reducible refine (fperiod_any _ _).mono ?_); rintro e w' ⟨rfl, hb1⟩)
      | (go_at_call 103; (with_reducible refine (fterritory_any _ _).mono ?_); rintro e w' ⟨rfl, hb1⟩))
  go_wp2_with fail
  go_ret
  refine FIN.out _ ?_
  repeat (first | exact B0.drew | refine BelowN ?_ (by assumption) (Nat.le_refl _))
def contractL : List Fd := [⟨9, 1, 1000000⟩, ⟨11, 0, 1199⟩]
set_option maxRecDepth 100000 in
set_option maxHeartbeats 4000000 in
theorem contract_any (b : Nat) (w : World) : Calls Tryz.prog 70 #[.pointer (some ⟨b, 0, none⟩)] w (FieldsE w b contractL) := by
  have FIN := Lib.hid (fun (W : World) (h : Below w.heap.size w W) => (show FieldsE w b [⟨9, 1, 1000000⟩, ⟨11, 0, 1199⟩] (.returned (.slice (some ⟨W.heap.size, 0, none⟩) 2 2)) _ from ⟨W.heap.size, rfl, h.size, RowK_flat (encFd_len b) W [⟨9, 1, 1000000⟩, ⟨11, 0, 1199⟩] 115, h.alloc h.size _⟩))
  have B0 := Below.refl w.heap.size w
  go_enter Tryz.func70, Tryz.ntmps70
  go_wp2_with fail
  go_region_held3 (fun w' => Below w.heap.size w w')
    (first | (exact B0) | (exact B0.drew) | (exact BelowN (by assumption) hb1 (Nat.le_refl _)) | (exact BelowA (by assumption) (Nat.le_refl _) _) | assumption | (exact Below.drew (by assumption)))
    (first
      | (go_at_call 102; (with_reducible refine (fid_any _ _).mono ?_); rintro e w' ⟨rfl, hb1⟩)
      | (go_at_call 104; (with_reducible refine (fperiod_any _ _).mono ?_); rintro e w' ⟨rfl, hb1⟩)
      | (go_at_call 103; (with_reducible refine (fterritory_any _ _).mono ?_); rintro e w' ⟨rfl, hb1⟩))
  go_wp2_with fail
  go_ret
  refine FIN.out _ ?_
  repeat (first | exact B0.drew | refine BelowN ?_ (by assumption) (Nat.le_refl _))
def revenueL : List Fd := [⟨1, 1, 1000000⟩, ⟨3, 0, 1199⟩, ⟨8, 0, 7⟩, ⟨13, 0, 10000000000⟩, ⟨15, 0, 20⟩]
set_option maxRecDepth 100000 in
set_option maxHeartbeats 4000000 in
theorem revenue_any (b : Nat) (w : World) : Calls Tryz.prog 72 #[.pointer (some ⟨b, 0, none⟩)] w (FieldsE w b revenueL) := by
  have FIN := Lib.hid (fun (W : World) (h : Below w.heap.size w W) => (show FieldsE w b [⟨1, 1, 1000000⟩, ⟨3, 0, 1199⟩, ⟨8, 0, 7⟩, ⟨13, 0, 10000000000⟩, ⟨15, 0, 20⟩] (.returned (.slice (some ⟨W.heap.size, 0, none⟩) 5 5)) _ from ⟨W.heap.size, rfl, h.size, RowK_flat (encFd_len b) W [⟨1, 1, 1000000⟩, ⟨3, 0, 1199⟩, ⟨8, 0, 7⟩, ⟨13, 0, 10000000000⟩, ⟨15, 0, 20⟩] 115, h.alloc h.size _⟩))
  have B0 := Below.refl w.heap.size w
  go_enter Tryz.func72, Tryz.ntmps72
  go_wp2_with fail
  go_region_held3 (fun w' => Below w.heap.size w w')
    (first | (exact B0) | (exact B0.drew) | (exact BelowN (by assumption) hb1 (Nat.le_refl _)) | (exact BelowA (by assumption) (Nat.le_refl _) _) | assumption | (exact Below.drew (by assumption)))
    (first
      | (go_at_call 102; (with_reducible refine (fid_any _ _).mono ?_); rintro e w' ⟨rfl, hb1⟩)
      | (go_at_call 104; (with_reducible refine (fperiod_any _ _).mono ?_); rintro e w' ⟨rfl, hb1⟩)
      | (go_at_call 103; (with_reducible refine (fterritory_any _ _).mono ?_); rintro e w' ⟨rfl, hb1⟩))
  go_wp2_with fail
  go_ret
  refine FIN.out _ ?_
  repeat (first | exact B0.drew | refine BelowN ?_ (by assumption) (Nat.le_refl _))
def subscriptionL : List Fd := [⟨5, 1, 1000000⟩, ⟨3, 0, 1199⟩, ⟨8, 0, 7⟩, ⟨13, 0, 1000000000⟩, ⟨15, 0, 20⟩]
set_option maxRecDepth 100000 in
set_option maxHeartbeats 4000000 in
theorem subscription_any (b : Nat) (w : World) : Calls Tryz.prog 73 #[.pointer (some ⟨b, 0, none⟩)] w (FieldsE w b subscriptionL) := by
  have FIN := Lib.hid (fun (W : World) (h : Below w.heap.size w W) => (show FieldsE w b [⟨5, 1, 1000000⟩, ⟨3, 0, 1199⟩, ⟨8, 0, 7⟩, ⟨13, 0, 1000000000⟩, ⟨15, 0, 20⟩] (.returned (.slice (some ⟨W.heap.size, 0, none⟩) 5 5)) _ from ⟨W.heap.size, rfl, h.size, RowK_flat (encFd_len b) W [⟨5, 1, 1000000⟩, ⟨3, 0, 1199⟩, ⟨8, 0, 7⟩, ⟨13, 0, 1000000000⟩, ⟨15, 0, 20⟩] 115, h.alloc h.size _⟩))
  have B0 := Below.refl w.heap.size w
  go_enter Tryz.func73, Tryz.ntmps73
  go_wp2_with fail
  go_region_held3 (fun w' => Below w.heap.size w w')
    (first | (exact B0) | (exact B0.drew) | (exact BelowN (by assumption) hb1 (Nat.le_refl _)) | (exact BelowA (by assumption) (Nat.le_refl _) _) | assumption | (exact Below.drew (by assumption)))
    (first
      | (go_at_call 102; (with_reducible refine (fid_any _ _).mono ?_); rintro e w' ⟨rfl, hb1⟩)
      | (go_at_call 104; (with_reducible refine (fperiod_any _ _).mono ?_); rintro e w' ⟨rfl, hb1⟩)
      | (go_at_call 103; (with_reducible refine (fterritory_any _ _).mono ?_); rintro e w' ⟨rfl, hb1⟩))
  go_wp2_with fail
  go_ret
  refine FIN.out _ ?_
  repeat (first | exact B0.drew | refine BelowN ?_ (by assumption) (Nat.le_refl _))
def rateL : List Fd := [⟨15, 1, 20⟩, ⟨3, 0, 1199⟩, ⟨13, 1, 10000000⟩]
set_option maxRecDepth 100000 in
set_option maxHeartbeats 4000000 in
theorem rate_any (b : Nat) (w : World) : Calls Tryz.prog 75 #[.pointer (some ⟨b, 0, none⟩)] w (FieldsE w b rateL) := by
  have FIN := Lib.hid (fun (W : World) (h : Below w.heap.size w W) => (show FieldsE w b [⟨15, 1, 20⟩, ⟨3, 0, 1199⟩, ⟨13, 1, 10000000⟩] (.returned (.slice (some ⟨W.heap.size, 0, none⟩) 3 3)) _ from ⟨W.heap.size, rfl, h.size, RowK_flat (encFd_len b) W [⟨15, 1, 20⟩, ⟨3, 0, 1199⟩, ⟨13, 1, 10000000⟩] 115, h.alloc h.size _⟩))
  have B0 := Below.refl w.heap.size w
  go_enter Tryz.func75, Tryz.ntmps75
  go_wp2_with fail
  go_region_held3 (fun w' => Below w.heap.size w w')
    (first | (exact B0) | (exact B0.drew) | (exact BelowN (by assumption) hb1 (Nat.le_refl _)) | (exact BelowA (by assumption) (Nat.le_refl _) _) | assumption | (exact Below.drew (by assumption)))
    (first
      | (go_at_call 102; (with_reducible refine (fid_any _ _).mono ?_); rintro e w' ⟨rfl, hb1⟩)
      | (go_at_call 104; (with_reducible refine (fperiod_any _ _).mono ?_); rintro e w' ⟨rfl, hb1⟩)
      | (go_at_call 103; (with_reducible refine (fterritory_any _ _).mono ?_); rintro e w' ⟨rfl, hb1⟩))
  go_wp2_with fail
  go_ret
  refine FIN.out _ ?_
  repeat (first | exact B0.drew | refine BelowN ?_ (by assumption) (Nat.le_refl _))
def advanceL : List Fd := [⟨1, 1, 1000000⟩, ⟨5, 1, 1000⟩, ⟨3, 0, 1199⟩, ⟨13, 0, 100000000000⟩]
set_option maxRecDepth 100000 in
set_option maxHeartbeats 4000000 in
theorem advance_any (b : Nat) (w : World) : Calls Tryz.prog 77 #[.pointer (some ⟨b, 0, none⟩)] w (FieldsE w b advanceL) := by
  have FIN := Lib.hid (fun (W : World) (h : Below w.heap.size w W) => (show FieldsE w b [⟨1, 1, 1000000⟩, ⟨5, 1, 1000⟩, ⟨3, 0, 1199⟩, ⟨13, 0, 100000000000⟩] (.returned (.slice (some ⟨W.heap.size, 0, none⟩) 4 4)) _ from ⟨W.heap.size, rfl, h.size, RowK_flat (encFd_len b) W [⟨1, 1, 1000000⟩, ⟨5, 1, 1000⟩, ⟨3, 0, 1199⟩, ⟨13, 0, 100000000000⟩] 115, h.alloc h.size _⟩))
  have B0 := Below.refl w.heap.size w
  go_enter Tryz.func77, Tryz.ntmps77
  go_wp2_with fail
  go_region_held3 (fun w' => Below w.heap.size w w')
    (first | (exact B0) | (exact B0.drew) | (exact BelowN (by assumption) hb1 (Nat.le_refl _)) | (exact BelowA (by assumption) (Nat.le_refl _) _) | assumption | (exact Below.drew (by assumption)))
    (first
      | (go_at_call 102; (with_reducible refine (fid_any _ _).mono ?_); rintro e w' ⟨rfl, hb1⟩)
      | (go_at_call 104; (with_reducible refine (fperiod_any _ _).mono ?_); rintro e w' ⟨rfl, hb1⟩)
      | (go_at_call 103; (with_reducible refine (fterritory_any _ _).mono ?_); rintro e w' ⟨rfl, hb1⟩))
  go_wp2_with fail
  go_ret
  refine FIN.out _ ?_
  repeat (first | exact B0.drew | refine BelowN ?_ (by assumption) (Nat.le_refl _))
def rulesL : List Fd := [⟨11, 0, 1199⟩]
set_option maxRecDepth 100000 in
set_option maxHeartbeats 4000000 in
theorem rules_any (b : Nat) (w : World) : Calls Tryz.prog 78 #[.pointer (some ⟨b, 0, none⟩)] w (FieldsE w b rulesL) := by
  have FIN := Lib.hid (fun (W : World) (h : Below w.heap.size w W) => (show FieldsE w b [⟨11, 0, 1199⟩] (.returned (.slice (some ⟨W.heap.size, 0, none⟩) 1 1)) _ from ⟨W.heap.size, rfl, h.size, RowK_flat (encFd_len b) W [⟨11, 0, 1199⟩] 115, h.alloc h.size _⟩))
  have B0 := Below.refl w.heap.size w
  go_enter Tryz.func78, Tryz.ntmps78
  go_wp2_with fail
  go_wp2_with (first
      | (go_at_call 102; (with_reducible refine (fid_any _ _).mono ?_); rintro e w' ⟨rfl, hb1⟩)
      | (go_at_call 104; (with_reducible refine (fperiod_any _ _).mono ?_); rintro e w' ⟨rfl, hb1⟩)
      | (go_at_call 103; (with_reducible refine (fterritory_any _ _).mono ?_); rintro e w' ⟨rfl, hb1⟩))
  go_ret
  exact FIN.out _ hb1
def methodL : List Fd := [⟨8, 0, 7⟩, ⟨11, 0, 1199⟩, ⟨16, 1, 2⟩]
set_option maxRecDepth 100000 in
set_option maxHeartbeats 4000000 in
theorem method_any (b : Nat) (w : World) : Calls Tryz.prog 80 #[.pointer (some ⟨b, 0, none⟩)] w (FieldsE w b methodL) := by
  have FIN := Lib.hid (fun (W : World) (h : Below w.heap.size w W) => (show FieldsE w b [⟨8, 0, 7⟩, ⟨11, 0, 1199⟩, ⟨16, 1, 2⟩] (.returned (.slice (some ⟨W.heap.size, 0, none⟩) 3 3)) _ from ⟨W.heap.size, rfl, h.size, RowK_flat (encFd_len b) W [⟨8, 0, 7⟩, ⟨11, 0, 1199⟩, ⟨16, 1, 2⟩] 115, h.alloc h.size _⟩))
  have B0 := Below.refl w.heap.size w
  go_enter Tryz.func80, Tryz.ntmps80
  go_wp2_with fail
  go_region_held3 (fun w' => Below w.heap.size w w')
    (first | (exact B0) | (exact B0.drew) | (exact BelowN (by assumption) hb1 (Nat.le_refl _)) | (exact BelowA (by assumption) (Nat.le_refl _) _) | assumption | (exact Below.drew (by assumption)))
    (first
      | (go_at_call 102; (with_reducible refine (fid_any _ _).mono ?_); rintro e w' ⟨rfl, hb1⟩)
      | (go_at_call 104; (with_reducible refine (fperiod_any _ _).mono ?_); rintro e w' ⟨rfl, hb1⟩)
      | (go_at_call 103; (with_reducible refine (fterritory_any _ _).mono ?_); rintro e w' ⟨rfl, hb1⟩))
  go_wp2_with fail
  go_ret
  refine FIN.out _ ?_
  repeat (first | exact B0.drew | refine BelowN ?_ (by assumption) (Nat.le_refl _))

end Go.Proofs.YtffifhbldcjelaaGreatDoor

/-! Maps whose keys are integers. -/
namespace Go.Proofs.YtffifhbldcjelaaGreatDoor
set_option linter.unusedVariables false
set_option linter.unusedSimpArgs false
open Go.RowKit

def goodI (w : World) (x : Value) : Prop := ∃ n : Int, x = .int .i64 n
theorem findNow_int (x : Int) : ∀ (es : List MapEntry) (i : Nat), (∀ e ∈ es, ∃ n : Int, e.key = .int .i64 n) → Instr.findNow (.int .i64) (.int .i64 x) es i = some (findE (.int .i64 x) es i)
  | [], i, _ => rfl
  | e :: es, i, h => by
    obtain ⟨s, hs⟩ := h e (by simp)
    have ih := findNow_int x es (i + 1) (fun e he => h e (by simp [he]))
    unfold Instr.findNow findE
    rw [hs]
    by_cases hx : x = s
    · subst hx
      simp [Instr.sameNow]
    · have hne : ¬ s = x := fun h => hx h.symm
      have hb : (x == s) = false := by simpa using hx
      simp [Instr.sameNow, hb, hne, ih]

theorem rawInt {P : Program} {K : TypeId} (hK : P.underlying K = some (.int .i64)) : RawKey P K goodI where
  find := fun w x es ⟨s, hs⟩ h => by
    subst hs
    simp [Instr.findKey, run_underlying hK, findNow_int s es 0 h]
  check := fun w em x ⟨s, hs⟩ => by
    subst hs
    show (Instr.checkKey em (9999 + 1) K _).run P w = _
    unfold Instr.checkKey
    simp only [Sem.run_bind, run_underlying hK, Result.andThen]
    rfl
  stays := fun w x ⟨s, hs⟩ => by
    subst hs
    simp [Instr.keyThatStays, Instr.sameBits]

theorem keyI : RawKey Tryz.prog 3 goodI := rawInt Tryz.underlying3
theorem getV_putV_ne {k k' v : Value} (h : k ≠ k') : ∀ (L : List (Value × Value)), getV k (putV k' v L) = getV k L
  | [] => by
    have e : ¬ k' = k := fun q => h q.symm
    simp [putV, getV, e]
  | p :: L => by
    unfold putV
    split
    · rename_i hp
      unfold getV
      rw [if_neg (fun q => h q.symm), hp, if_neg (fun q => h q.symm)]
    · rename_i hp
      unfold getV
      split
      · rfl
      · exact getV_putV_ne h L
/-- block b is a map whose keys are integers; g says what stands where -/
structure MapI (w : World) (b : Nat) (g : Int → Option Value) : Prop where
  ex : ∃ L, RawMap w b L ∧ (∀ p ∈ L, ∃ n : Int, p.1 = .int .i64 n) ∧ ∀ k, getV (.int .i64 k) L = g k
section
variable {w : World} {b : Nat} {g : Int → Option Value}
theorem MapI.kept {w' : World} (h : MapI w b g) (hb : w'.heap[b]? = w.heap[b]?) : MapI w' b g := by
  obtain ⟨L, h1, h2, h3⟩ := h.ex
  exact ⟨L, h1.kept hb, h2, h3⟩
theorem MapI.lt (h : MapI w b g) : b < w.heap.size := by
  obtain ⟨L, h1, _⟩ := h.ex
  exact h1.lt
theorem MapI.later {w' : World} (h : MapI w b g) (hb : Below w.heap.size w w') : MapI w' b g := h.kept (hb.block b h.lt)
theorem MapI.made (w : World) : MapI (w.alloc (.map #[] 0)) w.heap.size (fun _ => none) := ⟨⟨[], RawMap.made w, fun p hp => (by cases hp), fun _ => rfl⟩⟩
theorem MapI.lookup {T E : TypeId} (h : MapI w b g) (hT : Tryz.prog.underlying T = some (.map 3 E)) (k : Int) {z : Value} (hz : (zeroValue E).run Tryz.prog w = .ok z w) (ok : Bool) :
    (Instr.lookup T (.map (some b)) (.int .i64 k) ok).run Tryz.prog w = .ok (if ok then .tuple #[(g k).getD z, .bool (g k).isSome] else (g k).getD z) w := by
  obtain ⟨L, h1, h2, h3⟩ := h.ex
  have := h1.lookup keyI hT (fun p hp => h2 p hp) ⟨k, rfl⟩ hz ok
  rw [h3 k] at this
  exact this
theorem MapI.put (h : MapI w b g) {T E : TypeId} (hT : Tryz.prog.underlying T = some (.map 3 E)) (k : Int) (v : Value) :
    ∃ o, (Instr.mapUpdate T (.map (some b)) (.int .i64 k) v).run Tryz.prog w = .ok () (w.putObj b o) ∧ MapI (w.putObj b o) b (fun j => if j = k then some v else g j) := by
  obtain ⟨L, h1, h2, h3⟩ := h.ex
  obtain ⟨o, hr, hk⟩ := h1.update keyI hT (fun p hp => h2 p hp) ⟨k, rfl⟩ v
  refine ⟨o, hr, ⟨_, hk _ (World.putObj_heap_same h1.lt), fun p hp => ?_, fun j => ?_⟩⟩
  · rcases mem_putV hp with rfl | hp
    · exact ⟨k, rfl⟩
    · exact h2 p hp
  · by_cases e : j = k
    · subst e; rw [getV_putV, if_pos rfl]
    · rw [getV_putV_ne (fun q => e (by injection q)), if_neg e, h3 j]
end
section
variable {w : World} {ops : Array Oper} {rest : List Oper} {o : Oper} {a : Act} {Q : Exit → Act → World → Prop}
theorem wpList_insert_int (hg : o.guard = none) (m x v : Operand) (t : TypeId) (hop : o.op = Op.insert t m x v) {E : TypeId} (ht : Tryz.prog.underlying t = some (.map 3 E)) (b : Nat) {g : Int → Option Value} (hm : a.eval m = .map (some b)) (h : MapI w b g)
    (k : Int) (val : Value) (hx : a.eval x = .int .i64 k) (hv : a.eval v = val)
    (hK : ∀ ob, MapI (w.putObj b ob) b (fun j => if j = k then some val else g j) → wpList Tryz.prog ops Q rest (a.put o.dst undef) (w.putObj b ob)) : wpList Tryz.prog ops Q (o :: rest) a w := by
  refine wpList_plain hg fun K' hK' => ?_
  obtain ⟨ob, hrun, hr⟩ := h.put ht k val
  unfold Oper.wp
  simp [execOp, hop, hm, hx, hv, hrun, Result.andThen]
  exact hK' _ _ (hK ob hr)
theorem wpList_update_int (hg : o.guard = none) (m x v : Operand) (t : TypeId) (hop : o.op = Op.mapUpdate t m x v) {E : TypeId} (ht : Tryz.prog.underlying t = some (.map 3 E)) (b : Nat) {g : Int → Option Value} (hm : a.eval m = .map (some b)) (h : MapI w b g)
    (k : Int) (val : Value) (hx : a.eval x = .int .i64 k) (hv : a.eval v = val)
    (hK : ∀ ob, MapI (w.putObj b ob) b (fun j => if j = k then some val else g j) → wpList Tryz.prog ops Q rest (a.put o.dst undef) (w.putObj b ob)) : wpList Tryz.prog ops Q (o :: rest) a w := by
  refine wpList_plain hg fun K' hK' => ?_
  obtain ⟨ob, hrun, hr⟩ := h.put ht k val
  unfold Oper.wp
  simp [execOp, hop, hm, hx, hv, hrun, Result.andThen]
  exact hK' _ _ (hK ob hr)
end
theorem Below.putNew {B b : Nat} {w w1 : World} (h : Below B w w1) (hb : B ≤ b) (o : Obj) : Below B w (w1.putObj b o) := ⟨h.os, h.tape, h.output, by rw [World.putObj_size]; exact h.size, fun i hi => by rw [World.putObj_heap_other (by omega)]; exact h.block i hi⟩

end Go.Proofs.YtffifhbldcjelaaGreatDoor

/-! fact.Valid. -/
namespace Go.Proofs.YtffifhbldcjelaaGreatDoor
set_option linter.unusedVariables false
set_option linter.unusedSimpArgs false
open Go.RowKit

theorem BelowD {B : Nat} {w w1 : World} (h : Below B w w1) (n : Nat) : Below B w (w1.drewN n) := ⟨h.os, h.tape, h.output, h.size, h.block⟩
def inB (v lo hi : Int) : Bool := decide (lo ≤ v) && decide (v ≤ hi)
theorem within_any (b i : Nat) (lo hi v : Int) (w : World) (hc : w.cell? ⟨b, i, none⟩ = some (.int .i64 v)) :
    Calls Tryz.prog 44 #[.agg #[.pointer (some ⟨b, i, none⟩), .int .i64 lo, .int .i64 hi]] w fun e w' => e = .returned (.bool (inB v lo hi)) ∧ Below w.heap.size w w' := by
  have hlt := World.block_lt_of_cell? _ _ hc
  have c0 := cell_up hc (.cells #[.pointer (some ⟨b, i, none⟩), .int .i64 lo, .int .i64 hi] 115)
  have B1 := Lib.hid ((Below.refl w.heap.size w).alloc (Nat.le_refl _) (.cells #[.pointer (some ⟨b, i, none⟩), .int .i64 lo, .int .i64 hi] 115))
  by_cases h : lo ≤ v
  · have HE := Lib.hid (show inB v lo hi = decide (v ≤ hi) from by unfold inB; rw [decide_eq_true h, Bool.true_and])
    have hd : decide (lo ≤ v) = true := decide_eq_true h
    go_enter Tryz.func44, Tryz.ntmps44
    go_wp2_with fail
    go_quiet (fail)
    go_wp2_with fail
    go_ret
    rw [HE.out]
    exact ⟨rfl, BelowD B1.out _⟩
  · have HE := Lib.hid (show inB v lo hi = false from by unfold inB; rw [decide_eq_false h, Bool.false_and])
    have hd : decide (lo ≤ v) = false := decide_eq_false h
    go_enter Tryz.func44, Tryz.ntmps44
    go_wp2_with fail
    go_quiet (fail)
    go_wp2_with fail
    go_ret
    rw [HE.out]
    exact ⟨rfl, BelowD B1.out _⟩

/-- what a kind of fact has -/
def kindV (k : Int) : Option Value :=
  if k = 10 then some (.agg #[.func (.func 80) #[] #[], .bool false, .func (.func 81) #[] #[]])
  else if k = 9 then some (.agg #[.func (.func 78) #[] #[], .bool true, .func (.func 79) #[] #[]])
  else if k = 8 then some (.agg #[.func (.func 77) #[] #[], .bool false, .func (.func 69) #[] #[]])
  else if k = 7 then some (.agg #[.func (.func 75) #[] #[], .bool false, .func (.func 76) #[] #[]])
  else if k = 6 then some (.agg #[.func (.func 73) #[] #[], .bool false, .func (.func 74) #[] #[]])
  else if k = 5 then some (.agg #[.func (.func 72) #[] #[], .bool false, .func (.func 69) #[] #[]])
  else if k = 4 then some (.agg #[.func (.func 70) #[] #[], .bool true, .func (.func 71) #[] #[]])
  else if k = 3 then some (.agg #[.func (.func 68) #[] #[], .bool false, .func (.func 69) #[] #[]])
  else if k = 2 then some (.agg #[.func (.func 67) #[] #[], .bool false, .func (.func 66) #[] #[]])
  else if k = 1 then some (.agg #[.func (.func 65) #[] #[], .bool false, .func (.func 66) #[] #[]])
  else none

set_option maxRecDepth 100000 in
set_option maxHeartbeats 4000000 in
theorem kinds_any (w : World) : Calls Tryz.prog 43 #[] w fun e w' => ∃ m, e = .returned (.map (some m)) ∧ w.heap.size ≤ m ∧ MapI w' m kindV ∧ Below w.heap.size w w' := by
  have hmm := @run_makeMap Tryz.prog
  have MP := Lib.hid (MapI.made w)
  have BB := Lib.hid ((Below.refl w.heap.size w).alloc (Nat.le_refl _) (.map #[] 0))
  go_enter Tryz.func43, Tryz.ntmps43
  go_wp2_with (refine wpList_insert_int rfl _ _ _ _ rfl Tryz.underlying111 _ rfl MP.out _ _ rfl rfl ?_; intro ob mq; have BB := Lib.hid (Below.putNew BB.out (Nat.le_refl _) ob); have MP := Lib.hid mq; clear mq)
  go_ret
  exact ⟨_, rfl, Nat.le_refl _, MP.out, BB.out⟩

end Go.Proofs.YtffifhbldcjelaaGreatDoor
