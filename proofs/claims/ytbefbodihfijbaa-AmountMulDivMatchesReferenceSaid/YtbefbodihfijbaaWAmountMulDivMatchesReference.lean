/-
  The walk of the law AmountMulDivMatchesReference: it returns true.
-/
import Derived.Test.YtbefbodihfijbaaSane
import Derived.Deep.MidRow
namespace Go.Proofs.Ytbefbodihfijbaa.amountMulDivMatchesReference
set_option linter.unusedVariables false
open Go.ChangeShapes Go.WideShapes Go.ChangeAt Go.RowKit Go.Proofs.Ytbefbodihfijbaa

theorem wfb {n : Int} (h : (Lit.int .i64 n).wf = true) : -9223372036854775808 ≤ n ∧ n ≤ 9223372036854775807 := bounds_i64 h

/-- what the round keeps: the memory of before, the nine numbers at G, and the three numbers at g -/
structure Kp (w0 : World) (G g : Nat) (f : Nat → Int) (x0 x1 : Int) (w : World) : Prop where
  below : Below w0.heap.size w0 w
  lo : w0.heap.size ≤ g
  hi : g < w.heap.size
  hG : G < g
  nine : ∀ j, j < 9 → w.cell? ⟨G, j, none⟩ = some (.int .i64 (f j))
  c0 : w.cell? ⟨g, 0, none⟩ = some (.int .i64 x0)
  c1 : w.cell? ⟨g, 1, none⟩ = some (.int .i64 x1)

theorem Kp.later {w0 w w' : World} {G g : Nat} {f : Nat → Int} {x0 x1 : Int} (h : Kp w0 G g f x0 x1 w) (hb : Below w.heap.size w w') : Kp w0 G g f x0 x1 w' :=
  ⟨bch h.below hb (by have := h.lo; have := h.hi; omega), h.lo, Nat.lt_of_lt_of_le h.hi hb.size, h.hG,
    fun j hj => by rw [hb.cell (p := ⟨G, j, none⟩) (Nat.lt_trans h.hG h.hi)]; exact h.nine j hj,
    by rw [hb.cell (p := ⟨g, 0, none⟩) h.hi]; exact h.c0, by rw [hb.cell (p := ⟨g, 1, none⟩) h.hi]; exact h.c1⟩
theorem Kp.drew {w0 w : World} {G g : Nat} {f : Nat → Int} {x0 x1 : Int} (h : Kp w0 G g f x0 x1 w) : Kp w0 G g f x0 x1 w.drew := h.later (Below.refl _ _).drew

theorem pc_keep {w0 w : World} {G g : Nat} {f : Nat → Int} {x0 x1 : Int} (t s : Int) (h : Kp w0 G g f x0 x1 w) (a1 : -9223372036854775808 ≤ t) (a2 : t ≤ 9223372036854775807) (b1 : -9223372036854775808 ≤ s) (b2 : s ≤ 9223372036854775807) :
    Calls Try.prog 16 #[.int .i64 t, .int .i64 s] w fun e w' => e = .returned (.int .i64 (pctV t s)) ∧ w'.cell? ⟨g, 0, none⟩ = some (.int .i64 x0) ∧ w'.cell? ⟨g, 1, none⟩ = some (.int .i64 x1) ∧ Kp w0 G g f x0 x1 w' :=
  (percent_any t s w a1 a2 b1 b2).mono fun e w' ⟨he, hb⟩ => ⟨he, (h.later hb).c0, (h.later hb).c1, h.later hb⟩

/-- what the loop keeps -/
structure Ninth (w0 : World) (G : Nat) (f : Nat → Int) (w : World) : Prop where
  below : Below w0.heap.size w0 w
  lo : w0.heap.size ≤ G
  hG : G < w.heap.size
  nine : ∀ j, j < 9 → w.cell? ⟨G, j, none⟩ = some (.int .i64 (f j))

theorem kp_start {w0 wr w4 : World} {G : Nat} {f : Nat → Int} (h : Ninth w0 G f wr) (x0 x1 x2 : Int) {t : TypeId}
    (hb : Below (wr.alloc (.cells #[.int .i64 x0, .int .i64 x1, .int .i64 x2] t)).heap.size (wr.alloc (.cells #[.int .i64 x0, .int .i64 x1, .int .i64 x2] t)) w4) :
    Kp w0 G wr.heap.size f x0 x1 w4 ∧ w4.cell? ⟨wr.heap.size, 2, none⟩ = some (.int .i64 x2) := by
  have hs := h.lo
  have hG := h.hG
  have h1 : Kp w0 G wr.heap.size f x0 x1 (wr.alloc (.cells #[.int .i64 x0, .int .i64 x1, .int .i64 x2] t)) :=
    ⟨bch h.below ((Below.refl _ _).alloc (Nat.le_refl _) _) (by omega), by omega, by simp, hG,
      fun j hj => by rw [World.cell?_alloc_past _ _ _ hG]; exact h.nine j hj, by rw [World.cell?_alloc_at _ _ _ _ rfl]; rfl, by rw [World.cell?_alloc_at _ _ _ _ rfl]; rfl⟩
  refine ⟨h1.later hb, ?_⟩
  rw [hb.cell (p := ⟨wr.heap.size, 2, none⟩) (by simp), World.cell?_alloc_at _ _ _ _ rfl]; rfl

theorem Kp.ninth {w0 w : World} {G g : Nat} {f : Nat → Int} {x0 x1 : Int} (h : Kp w0 G g f x0 x1 w) (hl : w0.heap.size ≤ G) : Ninth w0 G f w := ⟨h.below, hl, Nat.lt_trans h.hG h.hi, h.nine⟩

set_option maxHeartbeats 2000000 in
set_option maxRecDepth 100000 in
theorem walk0 (a0 a1 a2 : Int) (f : Nat → Int) (p : Int) (w : World) (hf0 : f 0 = a0) (hf1 : f 1 = a1) (hf2 : f 2 = a2) (hb1 : -9223372036854775808 ≤ a1 ∧ a1 ≤ 9223372036854775807) (hf : ∀ j, -9223372036854775808 ≤ f j ∧ f j ≤ 9223372036854775807)
    (hp : 0 ≤ p ∧ p ≤ 1000002) (P0 : Hid (∀ w, Calls Try.prog 13 #[.int .i64 a1, .int .i64 1000002] w fun e w' => e = .returned (.int .i64 p) ∧ w = w'))
    (Q3 : Hid (∀ w, Calls Try.prog 13 #[.int .i64 a0, .int .i64 4611686018427387903] w fun e w' => e = .returned (.int .i64 (f 3)) ∧ w = w'))
    (Q4 : Hid (∀ w, Calls Try.prog 13 #[.int .i64 a1, .int .i64 4611686018427387903] w fun e w' => e = .returned (.int .i64 (f 4)) ∧ w = w'))
    (x5 x8 : Int) (l5 : 0 ≤ x5) (m5 : x5 ≤ 4611686018427387903) (l8 : 0 ≤ x8) (m8 : x8 ≤ 4611686018427387903) (hf5 : f 5 = 1 + x5) (hf8 : f 8 = 1 + x8)
    (Q5 : Hid (∀ w, Calls Try.prog 13 #[.int .i64 a2, .int .i64 4611686018427387903] w fun e w' => e = .returned (.int .i64 x5) ∧ w = w'))
    (Q6 : Hid (∀ w, Calls Try.prog 13 #[.int .i64 a0, .int .i64 1000000000000001] w fun e w' => e = .returned (.int .i64 (f 6)) ∧ w = w'))
    (Q7 : Hid (∀ w, Calls Try.prog 13 #[.int .i64 a1, .int .i64 1000000000000001] w fun e w' => e = .returned (.int .i64 (f 7)) ∧ w = w'))
    (Q8 : Hid (∀ w, Calls Try.prog 13 #[.int .i64 a2, .int .i64 10000000] w fun e w' => e = .returned (.int .i64 x8) ∧ w = w')) :
    Calls Try.prog 3 #[.int .i64 a0, .int .i64 a1, .int .i64 a2] w fun e w' => e = .returned (.bool true) ∧ Below w.heap.size w w' := by
  have H0 := Lib.hid hf0
  have H1 := Lib.hid hf1
  have H2 := Lib.hid hf2
  have H5 := Lib.hid hf5
  have H8 := Lib.hid hf8
  have HF := Lib.hid hf
  clear hf0 hf1 hf2 hf5 hf8 hf
  go_enter Try.func3, Try.ntmps3
  go_wp2_with fail
  refine (sane_any _).mono ?_
  rintro e w1 ⟨rfl, hbs⟩
  go_wp2_with fail
  refine (Q3.out _).mono ?_
  rintro e w2 ⟨rfl, rfl⟩
  go_wp2_with fail
  refine (Q4.out _).mono ?_
  rintro e w2 ⟨rfl, rfl⟩
  go_wp2_with fail
  refine (Q5.out _).mono ?_
  rintro e w2 ⟨rfl, rfl⟩
  go_wp2_with fail
  refine (Q6.out _).mono ?_
  rintro e w2 ⟨rfl, rfl⟩
  go_wp2_with fail
  refine (Q7.out _).mono ?_
  rintro e w2 ⟨rfl, rfl⟩
  go_wp2_with fail
  refine (Q8.out _).mono ?_
  rintro e w2 ⟨rfl, rfl⟩
  have hst : Ninth w w1.heap.size f (w1.alloc (.cells #[.int .i64 a0, .int .i64 a1, .int .i64 a2, .int .i64 (f 3), .int .i64 (f 4), .int .i64 (1 + x5), .int .i64 (f 6), .int .i64 (f 7), .int .i64 (1 + x8)] 23)) := by
    refine ⟨bch hbs ((Below.refl _ _).alloc (Nat.le_refl _) _) hbs.size, hbs.size, by simp, fun j hj => ?_⟩
    rw [World.cell?_alloc_at _ _ _ _ rfl]
    match j, hj with
    | 0, _ => rw [H0.out]; rfl
    | 1, _ => rw [H1.out]; rfl
    | 2, _ => rw [H2.out]; rfl
    | 3, _ => rfl
    | 4, _ => rfl
    | 5, _ => rw [H5.out]; rfl
    | 6, _ => rfl
    | 7, _ => rfl
    | 8, _ => rw [H8.out]; rfl
  have HST := Lib.hid hst
  clear hst
  go_wp2_with fail
  go_loopw [37] (fun i wr => ∃ k : Nat, k ≤ 3 ∧ Ninth w w1.heap.size f wr ∧ i = .int .i64 k) (fun i _ => 3 - (intOf i).toNat)
  case atStart => exact ⟨0, by omega, HST.out, rfl⟩
  case round =>
    obtain ⟨k, hk, hN, rfl⟩ := hrel
    by_cases hlt : k < 3
    · obtain ⟨x0, hx0⟩ : ∃ x, f (k * 3) = x := ⟨_, rfl⟩
      obtain ⟨x1, hx1⟩ : ∃ x, f (k * 3 + 1) = x := ⟨_, rfl⟩
      obtain ⟨x2, hx2⟩ : ∃ x, f (k * 3 + 2) = x := ⟨_, rfl⟩
      have c0 := hN.nine (k * 3) (by omega)
      have c1 := hN.nine (k * 3 + 1) (by omega)
      have c2 := hN.nine (k * 3 + 2) (by omega)
      have r0 := HF.out (k * 3)
      have r1 := HF.out (k * 3 + 1)
      have r2 := HF.out (k * 3 + 2)
      rw [hx0] at c0 r0
      rw [hx1] at c1 r1
      rw [hx2] at c2 r2
      have c2' : wr.cell? ⟨w1.heap.size, k * 3 + 1 + 1, none⟩ = some (.int .i64 x2) := c2
      have hGl := hN.hG
      have HNN := Lib.hid hN
      have HMD := Lib.hid (fun w => muldiv_any x0 x1 x2 w r0.1 r0.2 r1.1 r1.2 r2.1 r2.2)
      have HRM := Lib.hid (fun w => rmuldiv_any x0 x1 x2 w r0.1 r0.2 r1.1 r1.2 r2.1 r2.2)
      clear hx0 hx1 hx2 hN
      generalize mdV x0 x1 x2 = q at *
      generalize mdB x0 x1 x2 = o at *
      have hq : (q != q) = false := by simp
      have ho : (o != o) = false := by simp
      go_wp2_with fail
      refine (HMD.out _).mono ?_
      rintro e w4 ⟨rfl, hb4⟩
      obtain ⟨hk4, d2⟩ := kp_start HNN.out x0 x1 x2 hb4
      have d0 := hk4.c0
      have d1 := hk4.c1
      have HLO := Lib.hid HNN.out.lo
      clear hb4 c0 c1 c2 c2'
      generalize wr.heap.size = g at *
      go_wp2_with fail
      refine (HRM.out _).mono ?_
      rintro e w5 ⟨rfl, rfl⟩
      have hpp : (pctV x0 x1 != pctV x0 x1) = false := by simp
      have hpq : (pctV x0 p != pctV x0 p) = false := by simp
      go_wp2_with fail
      go_region_held3 (fun w' => w'.cell? ⟨g, 0, none⟩ = some (.int .i64 x0) ∧ w'.cell? ⟨g, 1, none⟩ = some (.int .i64 x1) ∧ Kp w w1.heap.size g f x0 x1 w')
        (first | (exact ⟨e0, e1, ek⟩) | (exact ⟨hk4.drew.c0, hk4.drew.c1, hk4.drew⟩) | (go_split_ands; exact ⟨by assumption, by assumption, by assumption⟩))
        (first | (go_at_call 13; refine (P0.out _).mono ?_; rintro e w6 ⟨rfl, rfl⟩) | (go_at_call 17; refine (rpercent_any _ _ _ (by omega) (by omega) (by omega) (by omega)).mono ?_; rintro e w6 ⟨rfl, rfl⟩) | (go_at_call 16; refine (pc_keep (w0 := w) (G := w1.heap.size) (g := g) (f := f) (x0 := x0) (x1 := x1) _ _ ?_ ?_ ?_ ?_ ?_).mono ?_; (go_split_ands; assumption); omega; omega; omega; omega; rintro e w6 ⟨rfl, e0, e1, ek⟩))
      go_wp2
      go_roundw
      case rel => exact ⟨k + 1, by omega, (Kp.ninth ek HLO.out), by go_num⟩
      case measure => simp [intOf]; omega
    · have HNN := Lib.hid hN
      clear hN
      go_wp2
      go_ret
      exact ⟨rfl, HNN.out.below⟩

def fN (a0 a1 a2 : Int) : Nat → Int
  | 0 => a0
  | 1 => a1
  | 2 => a2
  | 3 => pickZ a0 4611686018427387903
  | 4 => pickZ a1 4611686018427387903
  | 5 => 1 + pickZ a2 4611686018427387903
  | 6 => pickZ a0 1000000000000001
  | 7 => pickZ a1 1000000000000001
  | 8 => 1 + pickZ a2 10000000
  | _ => 0

theorem walk (a0 : Int) (a1 : Int) (a2 : Int) (w0 : (Lit.int .i64 a0).wf = true) (w1 : (Lit.int .i64 a1).wf = true) (w2 : (Lit.int .i64 a2).wf = true) (w : World) :
    Calls Try.prog 3 #[.int .i64 a0, .int .i64 a1, .int .i64 a2] w fun e w' => e = .returned (.bool true) ∧ Below w.heap.size w w' := by
  have b0 := wfb w0
  have b1 := wfb w1
  have b2 := wfb w2
  have pk : ∀ (a n : Int), -9223372036854775808 ≤ a ∧ a ≤ 9223372036854775807 → 1 ≤ n → n ≤ 9223372036854775807 → Hid (∀ w, Calls Try.prog 13 #[.int .i64 a, .int .i64 n] w fun e w' => e = .returned (.int .i64 (pickZ a n)) ∧ w = w') := fun a n ha h1 h2 => Lib.hid (fun w => pick_any a n w ha.1 ha.2 h1 h2)
  have l5 := pickZ_lo a2 4611686018427387903 (by omega)
  have m5 := pickZ_hi a2 4611686018427387903 (by omega)
  have l8 := pickZ_lo a2 10000000 (by omega)
  have m8 := pickZ_hi a2 10000000 (by omega)
  have lp := pickZ_lo a1 1000002 (by omega)
  have mp := pickZ_hi a1 1000002 (by omega)
  refine walk0 a0 a1 a2 (fN a0 a1 a2) (pickZ a1 1000002) w rfl rfl rfl b1 ?_ ⟨lp, by omega⟩ (pk _ _ b1 (by omega) (by omega)) (pk _ _ b0 (by omega) (by omega)) (pk _ _ b1 (by omega) (by omega)) _ _ l5 (by omega) l8 (by omega) rfl rfl
    (pk _ _ b2 (by omega) (by omega)) (pk _ _ b0 (by omega) (by omega)) (pk _ _ b1 (by omega) (by omega)) (pk _ _ b2 (by omega) (by omega))
  intro j
  match j with
  | 0 => exact b0
  | 1 => exact b1
  | 2 => exact b2
  | 3 => have := pickZ_lo a0 4611686018427387903 (by omega); have := pickZ_hi a0 4611686018427387903 (by omega); show _ ≤ pickZ a0 4611686018427387903 ∧ pickZ a0 4611686018427387903 ≤ _; omega
  | 4 => have := pickZ_lo a1 4611686018427387903 (by omega); have := pickZ_hi a1 4611686018427387903 (by omega); show _ ≤ pickZ a1 4611686018427387903 ∧ pickZ a1 4611686018427387903 ≤ _; omega
  | 5 => show _ ≤ 1 + pickZ a2 4611686018427387903 ∧ 1 + pickZ a2 4611686018427387903 ≤ _; omega
  | 6 => have := pickZ_lo a0 1000000000000001 (by omega); have := pickZ_hi a0 1000000000000001 (by omega); show _ ≤ pickZ a0 1000000000000001 ∧ pickZ a0 1000000000000001 ≤ _; omega
  | 7 => have := pickZ_lo a1 1000000000000001 (by omega); have := pickZ_hi a1 1000000000000001 (by omega); show _ ≤ pickZ a1 1000000000000001 ∧ pickZ a1 1000000000000001 ≤ _; omega
  | 8 => show _ ≤ 1 + pickZ a2 10000000 ∧ 1 + pickZ a2 10000000 ≤ _; omega
  | n + 9 => show _ ≤ (0 : Int) ∧ (0 : Int) ≤ _; omega

end Go.Proofs.Ytbefbodihfijbaa.amountMulDivMatchesReference
