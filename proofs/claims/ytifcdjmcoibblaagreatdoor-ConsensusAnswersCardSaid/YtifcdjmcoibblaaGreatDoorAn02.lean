/-
  ConsensusAnswers: the walk. What a law is told of a slice of integers; the walk of ConsensusAnswers in the words of its frame.
-/
import Derived.Test.YtifcdjmcoibblaaGreatDoorAn01
import Derived.StillTailTactics
import Derived.WalkKit
import Derived.ProofKit
import Derived.OpenShut
import Derived.Deep.Slices
import Derived.ChangeArms
import Derived.DataReads
import Derived.ChangeSlices
import Derived.ChangeSame

/-! ConsensusAnswers: the walk. -/
namespace Go.Proofs.YtifcdjmcoibblaaGreatDoor
set_option linter.unusedVariables false
set_option linter.unusedSimpArgs false
open Go.RowKit

/-- a row of ints in blocks below b -/
def IntsAt (w : World) (b : Nat) (ao : Option Addr) (rs : List Int) : Prop := ∀ (j : Nat) z, rs[j]? = some z → ∃ g off, ao = some ⟨g, off, none⟩ ∧ g < b ∧ w.cell? ⟨g, off + j, none⟩ = some (.int .i64 z)
theorem IntsAt.later {w w' : World} {b : Nat} {ao : Option Addr} {rs : List Int} (h : IntsAt w b ao rs) (hb : Below b w w') : IntsAt w' b ao rs := fun j z hz => by
  obtain ⟨g, off, e, hg, hc⟩ := h j z hz
  exact ⟨g, off, e, hg, by rw [World.cell?_of_block (w := w) (hb.block g hg)]; exact hc⟩

/-- what is late: as it was made, or with answers -/
def LateS (n : Int) (d : ByteArray) (l : List ByteArray) (len k : Nat) (s : StB) : Prop := (len = 0 → s = newS (n - 1) n) ∧ (0 < len → LateI n d l k s) ∧ s.ticks = 0

/-- what is answered -/
def ansO (i n : Int) (d : ByteArray) (l : List ByteArray) : Option Int → List MsgB
  | none => []
  | some r => (toldS i n d l : StB).answer (n - 1) (0, r)
theorem told_out {i n : Int} {d : ByteArray} {l : List ByteArray} (o : Option Int) : (quesS i n d l (quesOf n o) : StB).tick = (toldS i n d l, ansO i n d l o) := by
  rw [told_answers]
  rcases o with _ | r <;> rfl

section
variable (n k : Int) (w : World) (ao : Option Addr) (cap : Nat) (rs : List Int)
set_option maxRecDepth 100000 in
set_option maxHeartbeats 8000000 in
theorem answersL_any (hn1 : -9223372036854775808 ≤ n) (hn2 : n ≤ 9223372036854775807) (hk1 : -9223372036854775808 ≤ k) (hk2 : k ≤ 9223372036854775807) (hrs : ∀ z ∈ rs, -9223372036854775808 ≤ z ∧ z ≤ 9223372036854775807) (hlen : rs.length ≤ 9223372036854775807) (hrow : IntsAt w w.heap.size ao rs) (hG : Glob w) :
    Calls Tryz.prog 6 #[.int .i64 n, .int .i64 k, .slice ao rs.length cap] w fun e w' => e = .returned (.bool true) ∧ Below w.heap.size w w' := by
  have HGL := Lib.hid hG
  have SN := Lib.hid (sane_any w hG)
  obtain ⟨N1, hN1, hpn⟩ := pickZ_nat n 4 (by omega)
  obtain ⟨j0, hj0, hpk⟩ := pickZ_nat k 3 (by omega)
  have PN := Lib.hid (show ∀ W, Calls Tryz.prog 14 #[.int .i64 n, .int .i64 4] W fun e w' => e = .returned (.int .i64 (N1 : Int)) ∧ w' = W from fun W => (pick_any n 4 W hn1 hn2 (by omega) (by omega)).mono fun e w' q => ⟨by rw [q.1]; exact congrArg _ (congrArg _ hpn), q.2.symm⟩)
  have PK := Lib.hid (show ∀ W, Calls Tryz.prog 14 #[.int .i64 k, .int .i64 3] W fun e w' => e = .returned (.int .i64 (j0 : Int)) ∧ w' = W from fun W => (pick_any k 3 W hk1 hk2 (by omega) (by omega)).mono fun e w' q => ⟨by rw [q.1]; exact congrArg _ (congrArg _ hpk), q.2.symm⟩)
  obtain ⟨N, hN⟩ : ∃ N : Nat, N = 4 + N1 := ⟨_, rfl⟩
  have nn1 : (N1 : Int) < 4 := by omega
  have hN' : (4 : Int) + (N1 : Int) = (N : Int) := by omega
  have n4 : 4 ≤ (N : Int) := by omega
  have n7 : (N : Int) ≤ 7 := by omega
  have jj0 : (0 : Int) ≤ (j0 : Int) := by omega
  have jj3 : (j0 : Int) < 3 := by omega
  have HJ := Lib.hid hj0
  have HRS := Lib.hid hrs
  have HROW := Lib.hid hrow
  obtain ⟨len, hln⟩ : ∃ len, len = rs.length := ⟨_, rfl⟩
  have HLN := Lib.hid hln
  rw [← hln] at hlen ⊢
  have len0 : (0 : Int) ≤ (len : Int) := by omega
  have len9 : (len : Int) ≤ 9223372036854775807 := by omega
  clear hG hpn hpk hN hrs hrow hln hlen
  go_enter Tryz.func6, Tryz.ntmps6
  go_upto_region 4 with (first
    | (go_at_call 13; (with_reducible refine SN.out.mono ?_); rintro e w1 ⟨rfl, hb1⟩; have HB1 := Lib.hid hb1; clear hb1)
    | (go_at_call 17; (with_reducible refine (lists_any _).mono ?_); rintro e w2 ⟨g, rfl, hb2, hl2⟩; obtain ⟨vl, c1, r1⟩ := hl2.cell j0 (Nat.lt_of_lt_of_le HJ.out (by decide)); rw [lst_fam (Nat.lt_of_lt_of_le HJ.out (by decide))] at r1; obtain ⟨aol, capl, rfl, _⟩ := id r1; have R1 := Lib.hid r1; have B2 := Lib.hid hb2; clear hb2 r1)
    | (go_at_call 14; (with_reducible refine (PN.out _).mono ?_); rintro e wq ⟨rfl, hwq⟩; rw [hwq]; clear hwq wq)
    | (go_at_call 14; (with_reducible refine (PK.out _).mono ?_); rintro e wq ⟨rfl, hwq⟩; rw [hwq]; clear hwq wq))
  clear c1 SN
  have HB2 := Lib.hid (HB1.out.trans (B2.out.mono HB1.out.size))
  have HG2 := Lib.hid (show Glob w2 from by
    obtain ⟨t, ht⟩ := HGL.out
    exact ⟨t, (HB2.out.block 0 (Array.getElem?_eq_some_iff.1 ht).1).trans ht⟩)
  have HP2 := Lib.hid (show 0 < w2.heap.size from by
    obtain ⟨t, ht⟩ := HG2.out
    exact (Array.getElem?_eq_some_iff.1 ht).1)
  have HR2 := Lib.hid (show IntsAt w2 w2.heap.size ao rs from fun j z hz => by
    obtain ⟨g, off, e, hg, hc⟩ := (HROW.out.later HB2.out) j z hz
    exact ⟨g, off, e, Nat.lt_of_lt_of_le hg HB2.out.size, hc⟩)
  have HVL := Lib.hid (show ∀ W, Below w2.heap.size w2 W → LRow (New w1 w2) W (.slice aol (fam j0).length capl) (fam j0) from fun W hW => R1.out.kept (fun g cur fr hr _ => hW.block g hr.2))
  obtain ⟨dd, hdd⟩ : ∃ dd, dd = digV (fam j0) := ⟨_, rfl⟩
  have HDD := Lib.hid hdd
  clear hdd
  have NW := Lib.hid (flk_new (G := GA) (Flk.nil HP2.out HG2.out) (id := (N : Int) - 1) (n := (N : Int)) (by omega) n7 (by omega) (by omega))
  unfold pv at NW
  go_upto_region 9 with (go_at_call 15; (with_reducible refine NW.out.mono ?_); rintro e w3 ⟨xl, R3, rfl, h3, hb3⟩; have F3 := Lib.hid h3; clear h3 hb3)
  have HLL := Lib.hid (fam_len (j := j0))
  obtain ⟨ll, hll⟩ : ∃ ll, ll = (fam j0).length := ⟨_, rfl⟩
  have HLE := Lib.hid hll
  rw [← hll] at HVL HLL ⊢
  clear hll
  have DG := Lib.hid (show ∀ B W, Below w2.heap.size w2 B → Below B.heap.size B W → Calls Tryz.prog 26 #[.slice aol ll capl] W fun e w' => e = .returned (.string dd) ∧ Below B.heap.size B w' from fun B W hB hW => by
    have hb2 := hB.trans (hW.mono hB.size)
    obtain ⟨ao3, cap3, he, _, hrow3⟩ := (HVL.out W hb2).row
    rw [← HLE.out] at he
    injection he with e1 e2 e3
    subst e1 e3
    have h6 := rdigest_any aol ll capl (fam j0) W HLE.out.symm HLL.out hrow3 (asc_fam (Nat.lt_of_lt_of_le HJ.out (by decide)))
    refine h6.mono ?_
    rintro e w' ⟨rfl, h7⟩
    refine ⟨?_, hW.trans (h7.mono hW.size)⟩
    rw [HDD.out, digV_asc (asc_fam (Nat.lt_of_lt_of_le HJ.out (by decide)))])
  obtain ⟨fN, hfN⟩ : ∃ fN : Nat, faultsN (N : Int) = (fN : Int) := ⟨(faultsN (N : Int)).toNat, by unfold faultsN; omega⟩
  have FA := Lib.hid (show ∀ W, Calls Tryz.prog 33 #[.int .i64 (N : Int)] W fun e w' => e = .returned (.int .i64 (fN : Int)) ∧ w' = W from fun W => by rw [← hfN]; exact rfaults_any (N : Int) W (by omega) n7)
  have HFN := Lib.hid hfN
  have f1 : 1 ≤ (fN : Int) := by rw [← hfN]; unfold faultsN; omega
  have f2 : (fN : Int) ≤ 2 := by rw [← hfN]; unfold faultsN; omega
  have f3 : (fN : Int) + 2 ≤ (N : Int) := by rw [← hfN]; unfold faultsN; omega
  clear hfN
  go_wp2_with fail
  go_loopw [12] (fun iv wr => ∃ (i : Nat) (sl : StB) (R : Nat → Nat → Prop), i ≤ fN + 1 ∧ iv = .int .i64 (i : Int) ∧ Flk GA w2.heap.size w2 [xl] [sl] R wr ∧ LateS (N : Int) dd (fam j0) len i sl) (fun iv _ => fN + 1 - (intOf iv).toNat)
  case atStart => exact ⟨0, newS ((N : Int) - 1) (N : Int), R3, by omega, rfl, F3.out, fun _ => rfl, fun _ => late_new _ _ _, rfl⟩
  case round =>
    clear F3
    obtain ⟨i, sl, Ri, hi, rfl, hfl, hla⟩ := hrel
    have FI := Lib.hid hfl
    have HLA := Lib.hid hla
    have i0 : (0 : Int) ≤ (i : Int) := by omega
    have i9 : (i : Int) ≤ 3 := by omega
    clear hfl hla
    by_cases hif : i ≤ fN
    · have i1 : (i : Int) ≤ (fN : Int) := by omega
      have i2 : (i : Int) < (N : Int) - 1 := by omega
      have NX := Lib.hid (flk_new FI.out (id := (i : Int)) (n := (N : Int)) (by omega) n7 i0 (by omega))
      unfold pv at NX
      go_upto_region 12 with (first
        | (go_at_call 33; (with_reducible refine (FA.out _).mono ?_); rintro e wq ⟨rfl, hwq⟩; rw [hwq]; clear hwq wq)
        | (go_at_call 15; (with_reducible refine NX.out.mono ?_); rintro e w4 ⟨x, R4, rfl, h4, hb4⟩; have F4 := Lib.hid (show Flk GA w2.heap.size w2 [xl, x] [sl, newS (i : Int) (N : Int)] R4 w4 from h4); clear h4 hb4))
      clear NX
      have LN := Lib.hid (show Calls Tryz.prog 36 #[pv x, iv 0, .slice aol ll capl] w4 fun e w' => e = .returned (.int .i64 0) ∧ ∃ R5, Flk GA w2.heap.size w2 [xl, x] [sl, toldS (i : Int) (N : Int) dd (fam j0)] R5 w' from by
        refine (nlearn (i := 1) GA.gf F4.out.net F4.out.size rfl rfl (HVL.out w4 F4.out.bel) (fun k hk => Nat.lt_of_lt_of_le hk.2 F4.out.bel.size) fam_len F4.out.gl (fun _ => GA.fam (Nat.lt_of_lt_of_le HJ.out (by decide))) 0).mono ?_
        rintro e w' ⟨rfl, R5, h5⟩
        rw [asc_fam (Nat.lt_of_lt_of_le HJ.out (by decide)), told_learn, ← HDD.out] at h5
        rw [asc_fam (Nat.lt_of_lt_of_le HJ.out (by decide)), told_learn]
        exact ⟨rfl, R5, F4.out.sail h5⟩)
      unfold pv iv at LN
      go_upto_region 14 with (first
        | (go_at_call 36; (with_reducible refine LN.out.mono ?_); rintro e w5 ⟨rfl, R5, h5⟩; have F5 := Lib.hid h5; have TK := Lib.hid (ntick (i := 1) GA.gf h5.net h5.size rfl rfl (show ((toldS (i : Int) (N : Int) dd (fam j0) : StB).ticks ≤ 1000000000000) from by show (0 : Int) ≤ _; omega)); clear h5; unfold pv at TK)
        | (go_at_call 18; (with_reducible refine TK.out.mono ?_); rintro e w6 ⟨v6, R6, rfl, h6, o6⟩; rw [told_tick] at h6 o6; obtain ⟨ao6, cap6, rfl⟩ := out_slice o6; have F6 := Lib.hid (show Flk GA w2.heap.size w2 [xl, x] [sl, quesS (i : Int) (N : Int) dd (fam j0) (quesOf (N : Int) none)] R6 w6 from F5.out.sail h6); clear h6 o6))
      clear LN F4 F5
      go_wp2_with fail
      go_loopw [15, 11] (fun jv mv wr => ∃ (j : Nat) (o : Option Int) (R : Nat → Nat → Prop), j ≤ len ∧ j ≤ 10 ∧ jv = .int .i64 (j : Int) ∧ mv = .int .i64 (mostO o) ∧ (o = none ↔ j = 0) ∧ (∀ r, o = some r → 1 ≤ r ∧ r ≤ 64) ∧ Flk GA w2.heap.size w2 [xl, x] [sl, quesS (i : Int) (N : Int) dd (fam j0) (quesOf (N : Int) o)] R wr) (fun jv _ _ => 10 - (intOf jv).toNat)
      case atStart => exact ⟨0, none, R6, by omega, by omega, rfl, rfl, by simp, fun r hr => (by cases hr), F6.out⟩
      case round =>
        clear F6
        obtain ⟨j, o, Rj, hj, hj10, rfl, rfl, hoj, hor, hfl⟩ := hrel
        have FJ := Lib.hid hfl
        have HO := Lib.hid (And.intro hoj hor)
        obtain ⟨mo, hmo⟩ : ∃ mo, mo = mostO o := ⟨_, rfl⟩
        have HMO := Lib.hid hmo
        have m0 : 0 ≤ mo ∧ mo ≤ 64 := by
          rw [hmo]
          rcases o with _ | r
          · exact ⟨Int.le_refl _, by show (0 : Int) ≤ 64; omega⟩
          · have := hor r rfl
            exact ⟨by show 0 ≤ r; omega, this.2⟩
        obtain ⟨m0, m9⟩ := m0
        rw [← hmo]
        have j0' : (0 : Int) ≤ (j : Int) := by omega
        have j9 : (j : Int) ≤ 10 := by omega
        clear hfl hoj hor hmo
        go_upto_region 16 with (fail)
        go_cut [81] (fun t wc => t = .bool (decide (j < len ∧ j < 10)) ∧ wc = wr)
        case first =>
          by_cases q1 : j < len
          · have q2 : (j : Int) < (len : Int) := by omega
            by_cases q3 : j < 10
            · have q4 : (j : Int) < 10 := by omega
              go_wp2_with fail
              go_meet
              exact ⟨by simp [q1, q3], rfl⟩
            · have q4 : ¬ (j : Int) < 10 := by omega
              go_wp2_with fail
              go_meet
              exact ⟨by simp [q1, q3], rfl⟩
          · have q2 : ¬ (j : Int) < (len : Int) := by omega
            go_wp2_with fail
            go_meet
            exact ⟨by simp [q1], rfl⟩
        case rest =>
        obtain ⟨rfl, hw⟩ := hcut
        rw [hw]
        clear hw
        by_cases hjl : j < len ∧ j < 10
        · rw [decide_eq_true hjl]
          have q2 : (j : Int) < (len : Int) := by omega
          obtain ⟨z, hz⟩ : ∃ z, rs[j]? = some z := ⟨rs[j]'(by rw [← HLN.out]; exact hjl.1), List.getElem?_eq_getElem _⟩
          have hz64 := HRS.out z (List.mem_of_getElem? hz)
          obtain ⟨g, off, rfl, hg, hc⟩ := (HR2.out.later FJ.out.bel) j z hz
          obtain ⟨q, hq, hpq⟩ := pickZ_nat z 10 (by omega)
          have P10 := Lib.hid (show ∀ W, Calls Tryz.prog 14 #[.int .i64 z, .int .i64 10] W fun e w' => e = .returned (.int .i64 (q : Int)) ∧ w' = W from fun W => (pick_any z 10 W hz64.1 hz64.2 (by omega) (by omega)).mono fun e w' q => ⟨by rw [q.1]; exact congrArg _ (congrArg _ hpq), q.2.symm⟩)
          have q0 : (0 : Int) ≤ (q : Int) := by omega
          have q9 : (q : Int) ≤ 9 := by omega
          have hx1 : ¬ (N : Int) < 1 := by omega
          clear hz hz64 hpq hg
          go_upto_region 20 with (go_at_call 14; (with_reducible refine (P10.out _).mono ?_); rintro e wq ⟨rfl, hwq⟩; rw [hwq]; clear hwq wq)
          have RC := Lib.hid (show Calls Tryz.prog 20 #[.pointer (some ⟨x, 0, none⟩), .agg #[.int .i64 4, .int .i64 ((N : Int) - 1), .int .i64 (i : Int), .int .i64 0, .int .i64 (1 + 7 * (q : Int)), .int .i64 0, .string (ByteArray.mk #[]), .slice none 0 0]] wr fun e w' => e = .returned (.tuple #[]) ∧ ∃ R', Flk GA w2.heap.size w2 [xl, x] [sl, quesS (i : Int) (N : Int) dd (fam j0) (quesOf (N : Int) (maxO o (1 + 7 * (q : Int))))] R' w' from by
            refine (nrecv (R0 := fun _ => False) (i := 1) (v := .agg (encM (lateV (N : Int) (i : Int) (1 + 7 * (q : Int)) : MsgB) (.slice none 0 0))) (m := lateV (N : Int) (i : Int) (1 + 7 * (q : Int))) GA.gf FJ.out.net FJ.out.size rfl rfl ⟨_, rfl, LRow.nil _ _⟩ (fun k hk => hk.elim) (Nat.zero_le _) FJ.out.gl (fun _ h => by cases (show (4 : Int) = 3 from h))).mono ?_
            rintro e w' ⟨rfl, R', h5⟩
            rw [lateV_ok n4 n7 i0 i2 (by omega) (by omega), told_ask o (by omega)] at h5
            exact ⟨rfl, R', FJ.out.sail h5⟩)
          go_wp2_with (go_at_call 20; (with_reducible refine RC.out.mono ?_); rintro e w7 ⟨rfl, R7, h7⟩; have F7 := Lib.hid h7; clear h7)
          go_roundw
          case rel =>
            refine ⟨j + 1, maxO o (1 + 7 * (q : Int)), R7, by omega, by omega, by go_num, by rw [mostO_max o (by omega), ← HMO.out], ?_, ?_, F7.out⟩
            · constructor
              · intro h; rcases o with _ | a <;> cases h
              · intro h; omega
            · intro r hr
              rcases ho : o with _ | a
              · rw [ho] at hr
                have hr : 1 + 7 * (q : Int) = r := by simpa [maxO] using hr
                omega
              · rw [ho] at hr
                have hr : max a (1 + 7 * (q : Int)) = r := by simpa [maxO] using hr
                have := HO.out.2 a ho
                omega
          case measure => simp [intOf]; omega
        · rw [decide_eq_false hjl]
          obtain ⟨wt, rfl⟩ : ∃ wt : World, wt = wr := ⟨_, rfl⟩
          have FITJ := Lib.hid (show ∀ m ∈ ansO (i : Int) (N : Int) dd (fam j0) o, validB m = true ∧ m.list.length ≤ 60 ∧ (m.kind = 3 → GA m.dig m.list) from fun m hm => by
            have hft := FJ.out.net.idx (i := 1) rfl rfl
            have ho := hft.out GA.gf
            rw [told_out] at ho
            exact out_valid GA.gf (ho m hm) i0 (show (i : Int) < (N : Int) by omega) n7)
          have TJ := Lib.hid (show Calls Tryz.prog 18 #[pv x] wt fun e w' => ∃ v R', e = .returned v ∧ Flk GA w2.heap.size w2 [xl, x] [sl, toldS (i : Int) (N : Int) dd (fam j0)] R' w' ∧ OutR (AllR [xl, x].length R') wt w' v (ansO (i : Int) (N : Int) dd (fam j0) o) from by
            refine (ntick (i := 1) GA.gf FJ.out.net FJ.out.size rfl rfl (show ((quesS (i : Int) (N : Int) dd (fam j0) (quesOf (N : Int) o) : StB).ticks ≤ 1000000000000) from by show (0 : Int) ≤ _; omega)).mono ?_
            rintro e w' ⟨v, R', rfl, h1, h2⟩
            rw [told_out] at h1 h2
            exact ⟨v, R', rfl, FJ.out.sail h1, h2⟩)
          unfold pv at TJ
          rcases ho : o with _ | r
          · have hlz : len = 0 := by
              have := HO.out.1.1 ho
              omega
            subst hlz
            subst ho
            have hmz : mo = 0 := HMO.out
            go_upto_region 22 with (go_at_call 18; (with_reducible refine TJ.out.mono ?_); rintro e w7 ⟨v7, R7, rfl, h7, o7⟩; obtain ⟨ao7, cap7, rfl⟩ := out_slice o7; have F7 := Lib.hid h7; clear h7 o7)
            go_wp2_with fail
            go_roundw
            case rel => exact ⟨i + 1, sl, R7, by omega, by go_num, F7.out.first, HLA.out.1, fun h => absurd h (Nat.lt_irrefl 0), HLA.out.2.2⟩
            case measure => simp [intOf]; omega
          · subst ho
            have hmr : mo = r := HMO.out
            subst hmr
            have hr1 := (HO.out.2 mo rfl).1
            have hlp : 0 < len := by
              have := HO.out.1
              rcases Nat.eq_zero_or_pos j with h | h
              · cases this.2 h
              · omega
            have hlz : ((len : Int) == 0) = false := by simp; omega
            obtain ⟨ms, hms⟩ : ∃ ms, ms = (toldS (i : Int) (N : Int) dd (fam j0) : StB).answer ((N : Int) - 1) (0, mo) := ⟨_, rfl⟩
            have hml := answer_len (id := (i : Int)) (n := (N : Int)) (d := dd) (l := fam j0) ((N : Int) - 1) (show 0 ≤ mo by omega)
            have hms' : ansO (i : Int) (N : Int) dd (fam j0) (some mo) = ms := hms.symm
            rw [hms'] at TJ FITJ
            rw [← hms] at hml
            clear hms'
            obtain ⟨nm, hnm⟩ : ∃ nm, nm = ms.length := ⟨_, rfl⟩
            have HMS := Lib.hid hms
            have HNM := Lib.hid hnm
            rw [← hnm] at hml
            clear hms hnm
            go_upto_region 25 with (go_at_call 18; (with_reducible refine TJ.out.mono ?_); rintro e w7 ⟨v7, R7, rfl, h7, o7⟩; obtain ⟨ao7, cap7, rfl⟩ := out_slice o7; rw [← HNM.out] at o7 ⊢; have F7 := Lib.hid h7; have O7 := Lib.hid o7; clear h7 o7)
            have TK2 := Lib.hid (ntick (i := 1) GA.gf F7.out.net F7.out.size rfl rfl (show ((toldS (i : Int) (N : Int) dd (fam j0) : StB).ticks ≤ 1000000000000) from by show (0 : Int) ≤ _; omega))
            unfold pv at TK2
            go_upto_region 27 with (go_at_call 18; (with_reducible refine TK2.out.mono ?_); rintro e w8 ⟨v8, R8, rfl, h8, o8⟩; rw [told_tick] at h8 o8; obtain ⟨ao8, cap8, rfl⟩ := out_slice o8; have F8 := Lib.hid (show Flk GA w2.heap.size w2 [xl, x] [sl, toldS (i : Int) (N : Int) dd (fam j0)] R8 w8 from F7.out.sail h8); have O8 := Lib.hid (O7.out.sail h8); clear h8 o8)
            obtain ⟨rm, hrm⟩ : ∃ rm, rm = mo % (N : Int) := ⟨_, rfl⟩
            have hmod : mo.tmod (N : Int) = rm := by rw [hrm, Int.tmod_eq_emod_of_nonneg (by omega)]
            have HRM := Lib.hid hrm
            have rm0 : 0 ≤ rm := by rw [hrm]; exact Int.emod_nonneg _ (by omega)
            have rm7 : rm < (N : Int) := by rw [hrm]; exact Int.emod_lt_of_pos _ (by omega)
            clear hrm
            go_wp2_with fail
            go_loopw [18] (fun qv wr => ∃ (q : Nat) (R : Nat → Nat → Prop), q ≤ nm ∧ qv = .int .i64 (q : Int) ∧ Flk GA w2.heap.size w2 [xl, x] [(ms.take q).foldl (fun s m => s.receive m true) sl, toldS (i : Int) (N : Int) dd (fam j0)] R wr ∧ OutR (AllR [xl, x].length R) wt wr (.slice ao7 nm cap7) ms) (fun qv _ => nm - (intOf qv).toNat)
            case atStart => exact ⟨0, R8, Nat.zero_le _, rfl, F8.out, O8.out⟩
            case round =>
              clear F7 F8 O7 O8 FJ
              obtain ⟨q, Rq, hq, rfl, hfl, hor⟩ := hrel
              have FQ := Lib.hid hfl
              have OQ := Lib.hid hor
              have q0 : (0 : Int) ≤ (q : Int) := by omega
              by_cases hqn : q < nm
              · have q1 : (q : Int) < mo + 4 := by omega
                obtain ⟨m, hm⟩ : ∃ m, ms[q]? = some m := ⟨ms[q]'(by rw [← HNM.out]; exact hqn), List.getElem?_eq_getElem _⟩
                obtain ⟨hv, hl60, hga⟩ := FITJ.out m (List.mem_of_getElem? hm)
                obtain ⟨mt, mr, md⟩ := answer_at (n := (N : Int)) (i := (i : Int)) (by omega) i0 (by omega) (show 0 ≤ mo by omega) (by omega) (by rw [HMS.out] at hm; exact hm)
                obtain ⟨b, off, lo, lc, rfl, hce, hlr⟩ := (HNM.out ▸ hor).nth hm
                obtain ⟨ar, har⟩ : ∃ ar, ar = m.round := ⟨_, rfl⟩
                have henc : encM m (.slice lo m.list.length lc) = #[.int .i64 m.kind, .int .i64 m.frm, .int .i64 ((N : Int) - 1), .int .i64 m.height, .int .i64 ar, .int .i64 m.valid, .string dd, .slice lo m.list.length lc] := by unfold encM iv; rw [mt, md, har]
                rw [henc] at hce
                have e0 := hce 0 _ rfl
                have e1 := hce 1 _ rfl
                have e2 := hce 2 _ rfl
                have e3 := hce 3 _ rfl
                have e4 := hce 4 _ rfl
                have e5 := hce 5 _ rfl
                have e6 := hce 6 _ rfl
                have e7 := hce 7 _ rfl
                simp only [Nat.add_zero] at e0
                have hlt : ∀ c, NewZ (AllR [xl, x].length Rq) wt wr c → c < wr.heap.size := fun c hc => hc.1.2
                have HVA := Lib.hid (show ∀ W, Below wr.heap.size wr W → Calls Tryz.prog 19 #[.agg #[.int .i64 m.kind, .int .i64 m.frm, .int .i64 ((N : Int) - 1), .int .i64 m.height, .int .i64 ar, .int .i64 m.valid, .string dd, .slice lo m.list.length lc]] W fun e w' => e = .returned (.bool true) ∧ Below wr.heap.size wr w' from fun W hW => by
                  rw [← henc]
                  refine (valid_any (R := NewZ (AllR [xl, x].length Rq) wt wr) (m := m) (v := .agg (encM m (.slice lo m.list.length lc))) ⟨_, rfl, hlr.kept (fun g cur fr hr _ => hW.block g hr.1.2)⟩ (fun c hc => Nat.lt_of_lt_of_le hc.1.2 hW.size) hl60 (fun _ => (FQ.out.later hW).gl)).mono ?_
                  rintro e w' ⟨q1, q2⟩
                  exact ⟨by rw [q1, hv], hW.trans (q2.mono hW.size)⟩)
                have HRC := Lib.hid (show ∀ W, Below wr.heap.size wr W → Calls Tryz.prog 20 #[.pointer (some ⟨xl, 0, none⟩), .agg #[.int .i64 m.kind, .int .i64 m.frm, .int .i64 ((N : Int) - 1), .int .i64 m.height, .int .i64 ar, .int .i64 m.valid, .string dd, .slice lo m.list.length lc]] W fun e w' => e = .returned (.tuple #[]) ∧ ∃ R', Flk GA w2.heap.size w2 [xl, x] [(ms.take (q + 1)).foldl (fun s m => s.receive m true) sl, toldS (i : Int) (N : Int) dd (fam j0)] R' w' ∧ OutR (AllR [xl, x].length R') wt w' (.slice (some ⟨b, off, none⟩) nm cap7) ms from fun W hW => by
                  rw [← henc]
                  have hfw := FQ.out.later hW
                  refine (nrecv (R0 := NewZ (AllR [xl, x].length Rq) wt wr) (i := 0) (m := m) GA.gf hfw.net hfw.size rfl rfl ⟨_, rfl, hlr.kept (fun g cur fr hr _ => hW.block g hr.1.2)⟩ (fun c hc => Nat.lt_of_lt_of_le hc.1.2 hW.size) hl60 hfw.gl (fun _ => hga)).mono ?_
                  rintro e w' ⟨rfl, R', hs⟩
                  rw [hv] at hs
                  have e9 : (ms.take (q + 1)).foldl (fun s m => s.receive m true) sl = ((ms.take q).foldl (fun s m => s.receive m true) sl).receive m true := by
                    have hq2 := (List.getElem?_eq_some_iff.1 hm)
                    rw [List.take_succ_eq_append_getElem hq2.1, List.foldl_append, hq2.2]
                    rfl
                  rw [e9]
                  exact ⟨rfl, R', hfw.sail hs, (OutR.later OQ.out hW).sail hs⟩)
                have KEEP := Lib.hid (show ∀ W, Below wr.heap.size wr W → W.cell? ⟨b, off + q * 8, none⟩ = some (.int .i64 m.kind) ∧ W.cell? ⟨b, off + q * 8 + 1, none⟩ = some (.int .i64 m.frm) ∧ W.cell? ⟨b, off + q * 8 + 2, none⟩ = some (.int .i64 ((N : Int) - 1)) ∧ W.cell? ⟨b, off + q * 8 + 3, none⟩ = some (.int .i64 m.height) ∧ W.cell? ⟨b, off + q * 8 + 4, none⟩ = some (.int .i64 ar) ∧ W.cell? ⟨b, off + q * 8 + 5, none⟩ = some (.int .i64 m.valid) ∧ W.cell? ⟨b, off + q * 8 + 6, none⟩ = some (.string dd) ∧ W.cell? ⟨b, off + q * 8 + 7, none⟩ = some (.slice lo m.list.length lc) ∧ Below wr.heap.size wr W from fun W hW => by
                  have up : ∀ {a : Addr} {u : Value}, wr.cell? a = some u → W.cell? a = some u := fun {a u} h => by
                    rw [World.cell?_of_block (w := wr) (hW.block a.block (World.block_lt_of_cell? _ _ h))]; exact h
                  exact ⟨up e0, up e1, up e2, up e3, up e4, up e5, up e6, up e7, hW⟩)
                have DGW := Lib.hid (DG.out wr)
                have DGB := Lib.hid hfl.bel
                obtain ⟨b1, hb1⟩ : ∃ b1, b1 = decide ((q : Int) = 0 ∧ rm = (i : Int)) := ⟨_, rfl⟩
                obtain ⟨a1, ha1⟩ : ∃ a1, a1 = if (q : Int) = 0 ∧ rm = (i : Int) then mo + 1 else mo := ⟨_, rfl⟩
                obtain ⟨b2, hb2⟩ : ∃ b2, b2 = decide (2 ≤ (q : Int) ∧ (q : Int) < mo + 3) := ⟨_, rfl⟩
                have HB1 := Lib.hid hb1
                have HB2 := Lib.hid hb2
                have HA1 := Lib.hid (show (b1 = true → a1 = mo + 1) ∧ (b1 = false → a1 = mo) from by
                  rw [ha1, hb1]
                  exact ⟨fun h => if_pos (of_decide_eq_true h), fun h => if_neg (of_decide_eq_false h)⟩)
                have HA2 := Lib.hid (show (b2 = true → ar = (q : Int) - 2) ∧ (b2 = false → ar = a1) from by
                  rw [har, mr, hb2, ha1, HRM.out]
                  unfold ansR
                  refine ⟨fun h => ?_, fun h => ?_⟩
                  · have h := of_decide_eq_true h
                    rw [if_neg (by omega), if_pos h]
                  · have h := of_decide_eq_false h
                    by_cases z0 : q = 0
                    · rw [if_pos z0]
                      by_cases z1 : mo % (N : Int) = (i : Int)
                      · rw [if_pos z1, if_pos ⟨by omega, z1⟩]
                      · rw [if_neg z1, if_neg (fun c => z1 c.2)]
                    · rw [if_neg z0, if_neg h, if_neg (fun c => z0 (by omega))])
                clear hfl hor hm hv hl60 hga mt mr md hce hlr har henc hlt e0 e1 e2 e3 e4 e5 e6 e7 hb1 ha1 hb2
                go_upto_region 31 with (fail)
                go_cut [135] (fun t wc => t = .bool b1 ∧ wc = wr)
                case first =>
                  by_cases z0 : (q : Int) = 0
                  · have y1 : ((q : Int) == 0) = true := by simpa using z0
                    by_cases z1 : rm = (i : Int)
                    · have y2 : (rm == (i : Int)) = true := by simpa using z1
                      have HE := Lib.hid (show b1 = true from by rw [HB1.out]; exact decide_eq_true ⟨z0, z1⟩)
                      clear z0 z1
                      go_wp2_with fail
                      go_meet
                      exact ⟨by rw [HE.out], rfl⟩
                    · have y2 : (rm == (i : Int)) = false := by simpa using z1
                      have HE := Lib.hid (show b1 = false from by rw [HB1.out]; exact decide_eq_false (fun c => z1 c.2))
                      clear z0 z1
                      go_wp2_with fail
                      go_meet
                      exact ⟨by rw [HE.out], rfl⟩
                  · have y1 : ((q : Int) == 0) = false := by simpa using z0
                    have HE := Lib.hid (show b1 = false from by rw [HB1.out]; exact decide_eq_false (fun c => z0 c.1))
                    clear z0
                    go_wp2_with fail
                    go_meet
                    exact ⟨by rw [HE.out], rfl⟩
                case rest =>
                obtain ⟨rfl, hw⟩ := hcut
                rw [hw]
                clear hw
                go_upto_if 135 with (fail)
                go_cut [19] (fun v wc => v = .int .i64 a1 ∧ wc = wr)
                case first =>
                  rcases b1 with _ | _
                  · have HE := Lib.hid (HA1.out.2 rfl)
                    go_wp2_with fail
                    go_meet
                    exact ⟨by rw [HE.out], rfl⟩
                  · have HE := Lib.hid (HA1.out.1 rfl)
                    go_wp2_with fail
                    go_meet
                    exact ⟨by rw [HE.out], rfl⟩
                case rest =>
                obtain ⟨rfl, hw⟩ := hcut
                rw [hw]
                clear hw
                go_upto_region 33 with (fail)
                go_cut [145] (fun t wc => t = .bool b2 ∧ wc = wr)
                case first =>
                  by_cases z0 : 2 ≤ (q : Int)
                  · by_cases z1 : (q : Int) < mo + 3
                    · have HE := Lib.hid (show b2 = true from by rw [HB2.out]; exact decide_eq_true ⟨z0, z1⟩)
                      go_wp2_with fail
                      go_meet
                      exact ⟨by rw [HE.out], rfl⟩
                    · have HE := Lib.hid (show b2 = false from by rw [HB2.out]; exact decide_eq_false (fun c => z1 c.2))
                      go_wp2_with fail
                      go_meet
                      exact ⟨by rw [HE.out], rfl⟩
                  · have HE := Lib.hid (show b2 = false from by rw [HB2.out]; exact decide_eq_false (fun c => z0 c.1))
                    go_wp2_with fail
                    go_meet
                    exact ⟨by rw [HE.out], rfl⟩
                case rest =>
                obtain ⟨rfl, hw⟩ := hcut
                rw [hw]
                clear hw
                go_upto_if 145 with (fail)
                go_cut [19] (fun v wc => v = .int .i64 ar ∧ wc = wr)
                case first =>
                  rcases b2 with _ | _
                  · have HE := Lib.hid (HA2.out.2 rfl)
                    go_wp2_with fail
                    go_meet
                    exact ⟨by rw [HE.out], rfl⟩
                  · have HE := Lib.hid (show ar = (q : Int) - 2 ∧ 2 ≤ (q : Int) from ⟨HA2.out.1 rfl, (of_decide_eq_true HB2.out.symm).1⟩)
                    have z0 := HE.out.2
                    go_wp2_with fail
                    go_meet
                    exact ⟨by rw [HE.out.1], rfl⟩
                case rest =>
                obtain ⟨rfl, hw⟩ := hcut
                rw [hw]
                clear hw
                clear HA1 HA2 HB1 HB2
                have x0 : IntKind.wrap .i64 ((N : Int) - 1) = (N : Int) - 1 := by rw [IntKind.wrap_i64]; omega
                have x1 : (((N : Int) - 1) != ((N : Int) - 1)) = false := bne_self_eq_false _
                have x2 : (((N : Int) - 1) == ((N : Int) - 1)) = true := beq_self_eq_true _
                have x3 : (ar != ar) = false := bne_self_eq_false _
                have x4 : (ar == ar) = true := beq_self_eq_true _
                have x5 : (dd.toList == dd.toList) = true := beq_self_eq_true _
                have x6 : (dd.toList != dd.toList) = false := bne_self_eq_false _
                go_upto_region 35 with (fail)
                go_region_held3 (fun W => W.cell? ⟨b, off + q * 8, none⟩ = some (.int .i64 m.kind) ∧ W.cell? ⟨b, off + q * 8 + 1, none⟩ = some (.int .i64 m.frm) ∧ W.cell? ⟨b, off + q * 8 + 2, none⟩ = some (.int .i64 ((N : Int) - 1)) ∧ W.cell? ⟨b, off + q * 8 + 3, none⟩ = some (.int .i64 m.height) ∧ W.cell? ⟨b, off + q * 8 + 4, none⟩ = some (.int .i64 ar) ∧ W.cell? ⟨b, off + q * 8 + 5, none⟩ = some (.int .i64 m.valid) ∧ W.cell? ⟨b, off + q * 8 + 6, none⟩ = some (.string dd) ∧ W.cell? ⟨b, off + q * 8 + 7, none⟩ = some (.slice lo m.list.length lc) ∧ Below wr.heap.size wr W)
                  (first | (exact KEEP.out _ E1) | (exact KEEP.out _ (Below.refl _ wr).drew) | (go_split_ands; exact ⟨by assumption, by assumption, by assumption, by assumption, by assumption, by assumption, by assumption, by assumption, by assumption⟩))
                  (first
                    | (go_at_call 26; refine (DGW.out _ DGB.out ?_).mono ?_; (go_split_ands; assumption); rintro e w9 ⟨rfl, hb⟩; have E1 := hb; clear hb)
                    | (go_at_call 19; refine (HVA.out _ ?_).mono ?_; (go_split_ands; assumption); rintro e w9 ⟨rfl, hb⟩; have E1 := hb; clear hb))
                have HE1 := Lib.hid E1
                clear E1
                obtain ⟨e0, e1, e2, e3, e4, e5, e6, e7, _⟩ := KEEP.out _ HE1.out
                have RC9 := Lib.hid (HRC.out _ HE1.out)
                go_wp2_with (go_at_call 20; (with_reducible refine RC9.out.mono ?_); rintro e w10 ⟨rfl, R10, f10, o10⟩; have F10 := Lib.hid f10; have O10 := Lib.hid o10; clear f10 o10)
                go_roundw
                case rel => exact ⟨q + 1, R10, by omega, by go_num, F10.out, O10.out⟩
                case measure => simp [intOf]; omega
              · have q1 : ¬ (q : Int) < mo + 4 := by omega
                have hqe : q = ms.length := by have := HNM.out; omega
                rw [hqe, List.take_length] at hfl
                have FE := Lib.hid hfl
                have LE := Lib.hid (show LateI (N : Int) dd (fam j0) (i + 1) (ms.foldl (fun s m => s.receive m true) sl) from by
                  rw [HMS.out]
                  exact (HLA.out.2.1 hlp).answer (by omega) (by omega) (by omega) (by omega))
                clear hfl hor hqe
                go_wp2_with fail
                go_roundw
                case rel => exact ⟨i + 1, _, Rq, by omega, by go_num, FE.out.first, fun h => absurd h (by omega), fun _ => LE.out, by rw [receives_ticks]; exact HLA.out.2.2⟩
                case measure => simp [intOf]; omega
    · have hie : i = fN + 1 := by omega
      have i1 : ¬ (i : Int) ≤ (fN : Int) := by omega
      have HOT := Lib.hid (show sl.tick.2 = [] ∧ (len = 0 → getA 0 sl.tick.1.decs = none) ∧ (0 < len → ∃ v, getA 0 sl.tick.1.decs = some v ∧ v.list = fam j0) from by
        rcases Nat.eq_zero_or_pos len with hlz | hlz
        · rw [HLA.out.1 hlz]
          exact ⟨late_quiet n4 n7, fun _ => late_idle n4 n7, fun h => absurd h (by omega)⟩
        · obtain ⟨a1, _, v, a2, _, a3⟩ := (HLA.out.2.1 hlz).tick (by omega) (by rw [HFN.out]; omega)
          exact ⟨a1, fun h => absurd h (by omega), fun _ => ⟨v, a2, a3⟩⟩)
      have TL := Lib.hid (ntick (i := 0) GA.gf FI.out.net FI.out.size rfl rfl (show sl.ticks ≤ 1000000000000 from by rw [HLA.out.2.2]; omega))
      unfold pv at TL
      go_upto_region 40 with (first
        | (go_at_call 33; (with_reducible refine (FA.out _).mono ?_); rintro e wq ⟨rfl, hwq⟩; rw [hwq]; clear hwq wq)
        | (go_at_call 18; (with_reducible refine TL.out.mono ?_); rintro e w7 ⟨v7, R7, rfl, h7, o7⟩; rw [HOT.out.1] at o7; obtain ⟨ao7, cap7, rfl⟩ := out_slice o7; have F7 := Lib.hid (FI.out.sail h7); have DC := Lib.hid (ndecided (i := 0) GA.gf F7.out.net rfl rfl 0); clear h7 o7; unfold pv iv at DC))
      rcases Nat.eq_zero_or_pos len with hlz | hlz
      · have HN := Lib.hid (HOT.out.2.1 hlz)
        subst hlz
        go_wp2_with (go_at_call 21; (with_reducible refine DC.out.mono ?_); rintro e w8 ⟨he, hb8⟩; rw [HN.out] at he; have he : e = .returned (.tuple #[.slice none 0 0, .bool false]) := he; subst he; have HB8 := Lib.hid hb8; clear hb8)
        go_ret
        exact ⟨rfl, HB2.out.trans ((F7.out.later HB8.out).bel.mono HB2.out.size)⟩
      · obtain ⟨dv, hdv, hdl⟩ := HOT.out.2.2 hlz
        have HDV := Lib.hid hdv
        have HDL := Lib.hid hdl
        have l1 : ¬ (len : Int) = 0 := by omega
        have l2 : (0 : Int) < (len : Int) := by omega
        clear hdv hdl
        go_upto_region 41 with (go_at_call 21; (with_reducible refine DC.out.mono ?_); rintro e w8 ⟨he, hb8⟩; rw [HDV.out] at he; obtain ⟨u8, rfl, hr8⟩ := (show ∃ u, e = .returned (.tuple #[u, .bool true]) ∧ LRow (New w7 w8) w8 u dv.list from he); rw [HDL.out] at hr8; obtain ⟨ao8, cap8, rfl, _⟩ := id hr8; rw [← HLE.out]; have HR8 := Lib.hid hr8; have HB8 := Lib.hid hb8; clear hb8 hr8 he)
        have SR := Lib.hid (show Calls Tryz.prog 22 #[.slice ao8 ll cap8, .slice aol ll capl] w8 fun e w' => e = .returned (.bool true) ∧ Below w8.heap.size w8 w' from by
          rw [HLE.out]
          have hv := HVL.out w8 (F7.out.later HB8.out).bel
          rw [HLE.out] at hv
          exact same_rows ao8 aol cap8 capl (fam j0) w8 fam_len HR8.out hv)
        go_wp2_with (go_at_call 22; (with_reducible refine SR.out.mono ?_); rintro e w9 ⟨rfl, hb9⟩; have HB9 := Lib.hid hb9; clear hb9)
        go_ret
        exact ⟨rfl, HB2.out.trans (((F7.out.later HB8.out).later HB9.out).bel.mono HB2.out.size)⟩
end

end Go.Proofs.YtifcdjmcoibblaaGreatDoor

/-! What a law is told of a slice of integers; the walk of ConsensusAnswers in the words of its frame. -/
namespace Go.Proofs.YtifcdjmcoibblaaGreatDoor
set_option linter.unusedVariables false
open Go.ChangeShapes Go.WideShapes Go.ChangeAt Go.RowKit

section
variable {H : Type} {enc : TypeId × Value → H} {W : World} {base : Nat} {sp : Nat → Bool} {held : Bool}
theorem ints_open {a : Option Addr} {len cap : Nat} {d : DataW H} {p : List MemPlace} (h : DataW.Trod enc Tryz.prog W base sp held 47 (.slice a len cap) d p) :
    ∃ rs : List Int, rs.length = len ∧ (∀ z ∈ rs, -9223372036854775808 ≤ z ∧ z ≤ 9223372036854775807) ∧ len ≤ 9223372036854775807 ∧ IntsAt W W.heap.size a rs := by
  obtain ⟨fuel, hf⟩ := h
  rcases open_ints Tryz.underlying47 Tryz.underlying3 (by kernel_rfl) hf with ⟨hcs, _⟩ | ⟨x, l, c, zs, hcs, _, hl, hm, hz, _, hc, hw⟩
  · simp [Value.cells] at hcs
    obtain ⟨rfl, rfl, rfl⟩ := hcs
    exact ⟨[], rfl, fun z hz => (by cases hz), by omega, fun j z hz => (by simp at hz)⟩
  · simp [Value.cells] at hcs
    obtain ⟨rfl, rfl, rfl⟩ := hcs
    have hzl : len ≤ zs.length := by rw [hz]; split <;> omega
    refine ⟨zs.take len, by rw [List.length_take]; omega, fun z hz' => bounds_i64 (hw z (List.mem_of_mem_take hz')), by unfold maxLen at hm; omega, fun i z hz' => ?_⟩
    have hi : i < len := by have := (List.getElem?_eq_some_iff.1 hz').1; rw [List.length_take] at this; omega
    have c0 := hc i (by omega)
    obtain ⟨b, off, spot⟩ := x
    have hs : spot = none := by
      have c1 := hc 0 (by omega)
      have e0 : (Addr.add ⟨b, off, spot⟩ 0) = ⟨b, off, spot⟩ := by simp [Addr.add]
      rw [e0] at c1
      simpa using World.cell?_spot c1
    subst hs
    have e1 : (Addr.add ⟨b, off, none⟩ i) = ⟨b, off + i, none⟩ := by unfold Addr.add; split <;> simp_all
    rw [e1] at c0
    refine ⟨b, off, rfl, World.block_lt_of_cell? _ _ c0, ?_⟩
    rw [c0]
    rw [List.getElem?_take_of_lt hi] at hz'
    simp [List.getD_eq_getElem?_getD, hz']
end

theorem answersF (n k : Int) (ao : Option Addr) (len cap : Nat) (rs : List Int) (w : World) (hn1 : -9223372036854775808 ≤ n) (hn2 : n ≤ 9223372036854775807) (hk1 : -9223372036854775808 ≤ k) (hk2 : k ≤ 9223372036854775807)
    (hl : rs.length = len) (hrs : ∀ z ∈ rs, -9223372036854775808 ≤ z ∧ z ≤ 9223372036854775807) (hlen : len ≤ 9223372036854775807) (hrow : IntsAt w w.heap.size ao rs) (hG : Glob w) :
    Calls Tryz.prog 6 #[.int .i64 n, .int .i64 k, .slice ao len cap] w fun e w' => e = .returned (.bool true) ∧ Below w.heap.size w w' := by
  subst hl
  exact answersL_any n k w ao cap rs hn1 hn2 hk1 hk2 hrs hlen hrow hG

end Go.Proofs.YtifcdjmcoibblaaGreatDoor
