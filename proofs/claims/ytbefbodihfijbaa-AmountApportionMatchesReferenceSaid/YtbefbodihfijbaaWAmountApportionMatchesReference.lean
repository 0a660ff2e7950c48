/-
  The walk of the law AmountApportionMatchesReference: it returns true.
-/
import Derived.Test.YtbefbodihfijbaaIsRow
import Derived.Test.YtbefbodihfijbaaRefAppW
namespace Go.Proofs.Ytbefbodihfijbaa.amountApportionMatchesReference
set_option linter.unusedVariables false
open Go.ChangeShapes Go.WideShapes Go.ChangeAt Go.RowKit Go.Proofs.Ytbefbodihfijbaa

/-- what the outer loop keeps -/
structure KA (w : World) (G : Nat) (ts : Nat → Int) (ao : Option Addr) (m : List Int) (wr : World) : Prop where
  below : Below w.heap.size w wr
  lt : G < wr.heap.size
  three : ∀ i, i < 3 → wr.cell? ⟨G, i, none⟩ = some (.int .i64 (ts i))
  row : Row wr ao m

theorem KA.later {w : World} {G : Nat} {ts : Nat → Int} {ao : Option Addr} {m : List Int} {wr w' : World} (h : KA w G ts ao m wr) (hb : Below wr.heap.size wr w') : KA w G ts ao m w' :=
  ⟨bch h.below hb h.below.size, Nat.lt_of_lt_of_le h.lt hb.size, fun i hi => by rw [hb.cell (p := ⟨G, i, none⟩) h.lt]; exact h.three i hi, h.row.later hb⟩

/-- what the inner loop keeps besides -/
structure KB (G2 : Nat) (wr : World) : Prop where
  lt : G2 < wr.heap.size
  els : ∀ j, j < 2 → ∃ (ao : Option Addr) (l : List Int) (cap : Nat), wr.cell? ⟨G2, j, none⟩ = some (.slice ao l.length cap) ∧ Row wr ao l ∧ I64s l ∧ l.length ≤ 40

theorem KB.later {G2 : Nat} {wr w' : World} (h : KB G2 wr) (hb : Below wr.heap.size wr w') : KB G2 w' :=
  ⟨Nat.lt_of_lt_of_le h.lt hb.size, fun j hj => by
    obtain ⟨ao, l, cap, h1, h2, h3⟩ := h.els j hj
    exact ⟨ao, l, cap, by rw [hb.cell (p := ⟨G2, j, none⟩) h.lt]; exact h1, h2.later hb, h3⟩⟩

theorem kb_start {wr : World} {ao1 ao2 : Option Addr} {cap1 cap2 : Nat} {l1 l2 : List Int} {t : TypeId} (r1 : Row wr ao1 l1) (r2 : Row wr ao2 l2) (i1 : I64s l1) (i2 : I64s l2) (n1 : l1.length ≤ 40) (n2 : l2.length ≤ 40) :
    KB wr.heap.size (wr.alloc (.cells #[.slice ao1 l1.length cap1, .slice ao2 l2.length cap2] t)) := by
  have hb : Below wr.heap.size wr (wr.alloc (.cells #[.slice ao1 l1.length cap1, .slice ao2 l2.length cap2] t)) := (Below.refl _ _).alloc (Nat.le_refl _) _
  refine ⟨by simp, fun j hj => ?_⟩
  match j, hj with
  | 0, _ => exact ⟨ao1, l1, cap1, by rw [World.cell?_alloc_at _ _ _ _ rfl]; rfl, r1.later hb, i1, n1⟩
  | 1, _ => exact ⟨ao2, l2, cap2, by rw [World.cell?_alloc_at _ _ _ _ rfl]; rfl, r2.later hb, i2, n2⟩

theorem drewB (w : World) (n : Nat) : Below w.heap.size w (w.drewN n) := below_drewN (Below.refl _ _) n

theorem i64_wts (l : List Int) : I64s (wts l) := i64s_of fun x hx => by have := wts_bd l x hx; omega

set_option maxHeartbeats 4000000 in
set_option maxRecDepth 100000 in
theorem core (a0 t1 t2 ca cb : Int) (a1 : Option Addr) (len1 cap1 : Nat) (m : List Int) (w : World) (n : Nat) (hn : m.length = n) (hn40 : n ≤ 40) (h64 : I64s m)
    (P1 : Hid (∀ w, Calls Try.prog 13 #[.int .i64 a0, .int .i64 1000000000000001] w fun e w' => e = .returned (.int .i64 t1) ∧ w = w'))
    (P2 : Hid (∀ w, Calls Try.prog 13 #[.int .i64 a0, .int .i64 1000] w fun e w' => e = .returned (.int .i64 t2) ∧ w = w'))
    (C1 : Hid (∀ w, Calls Try.prog 23 #[.int .i64 a0] w fun e w' => e = .returned (.tuple #[.int .i64 ca, .int .i64 cb]) ∧ w = w'))
    (C2 : Hid (∀ w, Calls Try.prog 24 #[.int .i64 a0] w fun e w' => e = .returned (.tuple #[.int .i64 ca, .int .i64 cb]) ∧ w = w'))
    (hW : ∀ W, Below w.heap.size w W → Calls Try.prog 18 #[.slice a1 len1 cap1] W (Slc W m)) :
    Calls Try.prog 4 #[.int .i64 a0, .slice a1 len1 cap1] w fun e w' => e = .returned (.bool true) ∧ Below w.heap.size w w' := by
  have HN := Lib.hid hn
  have HW := Lib.hid hW
  have H64 := Lib.hid h64
  have HWL := Lib.hid (show (wts m).length ≤ 40 by rw [wts_length]; omega)
  clear hn hW h64
  go_enter Try.func4, Try.ntmps4
  go_wp2_with fail
  refine (sane_any _).mono ?_
  rintro e w1 ⟨rfl, hb1⟩
  go_wp2_with fail
  refine (HW.out _ hb1).mono ?_
  rintro e w2 ⟨ao, cap, rfl, ⟨hnil2, hcap2⟩, hr2, hb2⟩
  rw [HN.out]
  have hk0 : KA w w2.heap.size (fun i => if i = 0 then a0 else if i = 1 then t1 else t2) ao m (w2.alloc (.cells #[.int .i64 a0, .int .i64 t1, .int .i64 t2] 3)) := by
    have hb := bch hb1 hb2 hb1.size
    have hA : Below w2.heap.size w2 (w2.alloc (.cells #[.int .i64 a0, .int .i64 t1, .int .i64 t2] 3)) := (Below.refl _ _).alloc (Nat.le_refl _) _
    refine ⟨bch hb hA hb.size, by simp, fun i hi => ?_, hr2.later hA⟩
    rw [World.cell?_alloc_at _ _ _ _ rfl]
    match i, hi with
    | 0, _ => rfl
    | 1, _ => rfl
    | 2, _ => rfl
  have HK0 := Lib.hid hk0
  have HS1 := Lib.hid (fun W (h : Row W ao m) => sum_any ao cap m W (by rw [HN.out]; omega) h H64.out)
  have HS2 := Lib.hid (fun W (h : Row W ao m) => rsum_any ao cap m W (by rw [HN.out]; omega) h H64.out)
  have HWT := Lib.hid (fun W (h : Row W ao m) => weights_any ao cap n m W (by omega) HN.out h H64.out)
  rw [HN.out] at HS1 HS2
  clear hk0 hr2 hb1 hb2 hnil2 hcap2
  generalize (fun i => if i = 0 then a0 else if i = 1 then t1 else t2 : Nat → Int) = ts at *
  go_wp2_with fail
  refine (P1.out _).mono ?_
  rintro e w3 ⟨rfl, rfl⟩
  go_wp2_with fail
  refine (P2.out _).mono ?_
  rintro e w3 ⟨rfl, rfl⟩
  go_wp2_with fail
  go_loopw [32] (fun i wr => ∃ k : Nat, k ≤ 3 ∧ KA w w2.heap.size ts ao m wr ∧ i = .int .i64 k) (fun i _ => 3 - (intOf i).toNat)
  case atStart => exact ⟨0, by omega, HK0.out, rfl⟩
  case round =>
    obtain ⟨k, hk, hK, rfl⟩ := hrel
    by_cases hlt : k < 3
    · have c0 := hK.three k hlt
      have hGl := hK.lt
      obtain ⟨t, ht⟩ : ∃ t, ts k = t := ⟨_, rfl⟩
      rw [ht] at c0
      have HK := Lib.hid hK
      clear hK ht HK0
      go_wp2_with fail
      refine (HWT.out _ HK.out.row).mono ?_
      rintro e w4 ⟨ao2, cap2, rfl, _, hr4, hb4⟩
      have hkb := kb_start (t := 29) (cap1 := cap) (cap2 := cap2) (HK.out.row.later hb4) hr4 H64.out (i64_wts m) (by rw [HN.out]; omega) HWL.out
      rw [HN.out] at hkb
      have hka : KA w w2.heap.size ts ao m (w4.alloc (.cells #[.slice ao n cap, .slice ao2 (wts m).length cap2] 29)) := (HK.out.later hb4).later ((Below.refl _ _).alloc (Nat.le_refl _) _)
      have HKA := Lib.hid hka
      have HKB := Lib.hid hkb
      clear hka hkb hr4 hb4 c0 hGl
      go_wp2_with fail
      go_loopw [41] (fun i wr => ∃ j : Nat, j ≤ 2 ∧ KA w w2.heap.size ts ao m wr ∧ KB w4.heap.size wr ∧ i = .int .i64 j) (fun i _ => 2 - (intOf i).toNat)
      case atStart => exact ⟨0, by omega, HKA.out, HKB.out, rfl⟩
      case round =>
        obtain ⟨j, hj, hA, hB, rfl⟩ := hrel
        by_cases hlt2 : j < 2
        · obtain ⟨aoj, lj, capj, c1, r1, i1, n1⟩ := hB.els j hlt2
          have hGl := hB.lt
          obtain ⟨nj, hnj⟩ : ∃ nj, lj.length = nj := ⟨_, rfl⟩
          rw [hnj] at c1 n1
          have HNJ := Lib.hid hnj
          have HA := Lib.hid hA
          have HB := Lib.hid hB
          have HRJ := Lib.hid r1
          have HI1 := Lib.hid i1
          have ht := True.intro
          clear hnj hA hB r1 i1 HKA HKB
          have hoo : ∀ o : Bool, (o != o) = false := fun o => by simp
          go_wp2_with fail
          refine (apportion_any t aoj capj nj lj _ (by omega) HNJ.out HRJ.out HI1.out).mono ?_
          rintro e w5 ⟨ao5, cap5, rfl, _, hr5, hb5⟩
          have HB5 := Lib.hid hb5
          have HR5 := Lib.hid hr5
          clear hr5 hb5
          go_wp2_with fail
          refine (rapportion_any t aoj capj nj lj _ (by omega) HNJ.out (HRJ.out.later HB5.out) HI1.out).mono ?_
          rintro e w6 ⟨ao6, cap6, rfl, _, hr6, hb6⟩
          have HB6 := Lib.hid hb6
          have HR6 := Lib.hid hr6
          clear hr6 hb6
          have HPL := Lib.hid (show (apV t lj).length ≤ 4611686018427387903 by unfold apV; split <;> simp [App.app_length, HNJ.out]; omega)
          have HSM := fun W h1 h2 => same_any ao5 ao6 cap5 cap6 (apV t lj) (apV t lj) _ _ W rfl rfl HPL.out h1 h2
          rw [decide_eq_true (show apV t lj = apV t lj from rfl)] at HSM
          have HSM := Lib.hid HSM
          generalize (apV t lj).length = np at *
          have hob := hoo (apB t lj)
          generalize apB t lj = ob at *
          clear hoo
          go_wp2_with fail
          refine (HSM.out _ (HR5.out.later HB6.out) HR6.out).mono ?_
          rintro e w7 ⟨rfl, n7, rfl⟩
          go_wp2_with fail
          go_roundw
          case rel => exact ⟨j + 1, by omega, ((HA.out.later HB5.out).later HB6.out).later (drewB _ n7), ((HB.out.later HB5.out).later HB6.out).later (drewB _ n7), by go_num⟩
          case measure => simp [intOf]; omega
        · have HA := Lib.hid hA
          clear hA hB HKA HKB
          go_wp2_with fail
          go_roundw
          case rel => exact ⟨k + 1, by omega, HA.out, by go_num⟩
          case measure => simp [intOf]; omega
    · have HK := Lib.hid hK
      clear hK HK0
      have q1 : (ca == ca) = true := by simp
      have q2 : (cb == cb) = true := by simp
      have q3 : (sumV m == sumV m) = true := by simp
      have q4 : (sumB m == sumB m) = true := by simp
      go_wp2_with fail
      refine (C1.out _).mono ?_
      rintro e w4 ⟨rfl, rfl⟩
      go_wp2_with fail
      refine (C2.out _).mono ?_
      rintro e w4 ⟨rfl, rfl⟩
      go_wp2_with fail
      refine (HS1.out _ HK.out.row).mono ?_
      rintro e w4 ⟨rfl, rfl⟩
      go_wp2_with fail
      refine (HS2.out _ HK.out.row).mono ?_
      rintro e w4 ⟨rfl, rfl⟩
      go_wp2_with fail
      go_ret
      exact ⟨rfl, HK.out.below⟩

theorem walk (a0 : Int) (a1 : Option Addr) (len1 cap1 : Nat) (z1 : List Int) (w : World) (w0 : (Lit.int .i64 a0).wf = true) (w1 : IsRow .i64 w a1 len1 cap1 z1) :
    Calls Try.prog 4 #[.int .i64 a0, .slice a1 len1 cap1] w fun e w' => e = .returned (.bool true) ∧ Below w.heap.size w w' := by
  have b0 := wfb w0
  obtain ⟨l, hl, hcap, hn, hnil, hr, h64⟩ := w1.row
  have H64 : I64s (l.take 40) := i64s_of fun x hx => by
    obtain ⟨i, hi, rfl⟩ := List.mem_iff_getElem.1 hx
    have := h64 i
    rw [List.length_take] at hi
    simpa [show i < l.length by omega] using this
  have hW := fun W (hb : Below w.heap.size w W) => cut_any a1 cap1 len1 l W hn hl hcap hnil (hr.later hb)
  have P1 := Lib.hid (fun w => pick_any a0 1000000000000001 w b0.1 b0.2 (by omega) (by omega))
  have P2 := Lib.hid (fun w => pick_any a0 1000 w b0.1 b0.2 (by omega) (by omega))
  by_cases h : a0 < 0
  · exact core a0 _ _ 0 a0 a1 len1 cap1 (l.take 40) w _ rfl (by rw [List.length_take]; omega) H64 P1 P2 (Lib.hid (fun w => cents_neg a0 w h b0.1)) (Lib.hid (fun w => rcents_neg a0 w h b0.1)) hW
  · have C2 := fun w => rcents_pos a0 w (by omega) b0.2
    rw [show a0 / 10000 * 10000 = a0 - a0 % 10000 by omega] at C2
    exact core a0 _ _ _ _ a1 len1 cap1 (l.take 40) w _ rfl (by rw [List.length_take]; omega) H64 P1 P2 (Lib.hid (fun w => cents_pos a0 w (by omega) b0.2)) (Lib.hid C2) hW

end Go.Proofs.Ytbefbodihfijbaa.amountApportionMatchesReference
