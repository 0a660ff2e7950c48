/-
  The walk of the law AllocateFair: it returns true.
-/
import Derived.Test.YtbkmcncakpmgkaaFrA
import Derived.Deep.QuietTactic
import Derived.BigQuiet
import Derived.IntWalk
namespace Go.Proofs.Ytbkmcncakpmgkaa.allocateFair
set_option linter.unusedVariables false
open Go.ChangeShapes Go.WideShapes Go.ChangeAt Go.RowKit Go.Proofs.Ytbkmcncakpmgkaa

set_option maxRecDepth 100000 in
set_option maxHeartbeats 4000000 in
theorem walk (a0 : Option Addr) (len0 cap0 : Nat) (t a b : Int) (W : World) (h0 : IsRowK 4 W a0 len0 cap0) (h1 : (Lit.int .i64 t).wf = true) (h2 : (Lit.int .i64 a).wf = true) (h3 : (Lit.int .i64 b).wf = true) :
    Calls Try.prog 8 #[.slice a0 len0 cap0, .int .i64 t, .int .i64 a, .int .i64 b] W fun e W' => e = .returned (.bool true) ∧ Below W.heap.size W W' := by
  obtain ⟨l, hl, hr, hw, _, hm, _⟩ := h0.usages
  have hT := bounds_i64 h1
  have hA := bounds_i64 h2
  have hB := bounds_i64 h3
  obtain ⟨us, n, hus, hn, hn40, hU, few⟩ := few_calls a0 cap0 len0 l hm hl hw
  have hs : SmallU us := by rw [hus]; exact few_small l
  have HPT := Lib.hid (fun W => pick_any t 1000000000000001 W hT.1 hT.2 (by omega) (by omega))
  have HPA := Lib.hid (fun W => pick_any a 9 W hA.1 hA.2 (by omega) (by omega))
  have HPB := Lib.hid (fun W => pick_any b 9 W hB.1 hB.2 (by omega) (by omega))
  have t0 := pickZ_lo t 1000000000000001 (by omega)
  have t1 := pickZ_hi t 1000000000000001 (by omega)
  obtain ⟨T, hTe⟩ : ∃ T, pickZ t 1000000000000001 = T := ⟨_, rfl⟩
  obtain ⟨x, hxe⟩ : ∃ x, pickZ a 9 = x := ⟨_, rfl⟩
  obtain ⟨y, hye⟩ : ∃ y, pickZ b 9 = y := ⟨_, rfl⟩
  rw [hTe] at HPT t0 t1
  rw [hxe] at HPA
  rw [hye] at HPB
  obtain ⟨A, na, hna, hna1, hasc, hAp, fair, bx, by', pro⟩ := pro_fair t0 (by omega) us n hn hn40 hU hs x y
  have HS := Lib.hid hs
  have HN := Lib.hid hn
  have HNA := Lib.hid hna
  have HASC := Lib.hid hasc
  have HAP := Lib.hid hAp
  have HF := Lib.hid fair
  have HBX := Lib.hid bx
  have HBY := Lib.hid by'
  have HR0 := Lib.hid hr
  have HFEW := Lib.hid few
  have HPRO := Lib.hid pro
  clear hl hr hw hus hs hn hna hTe hxe hye few pro fair bx by' hasc hAp h0 h1 h2 h3 hT hA hB hU
  go_enter Try.func8, Try.ntmps8
  go_wp2_with fail
  refine (sane_any _).mono ?_
  rintro e w1 ⟨rfl, hb1⟩
  have BW1 := Lib.hid hb1
  clear hb1
  go_wp2_with fail
  refine (HFEW.out _ (HR0.out.later BW1.out)).mono ?_
  rintro e w2 ⟨uo, uc, rfl, hr2, hb2⟩
  have RU2 := Lib.hid hr2
  have BW2 := Lib.hid (bch BW1.out hb2 BW1.out.size)
  clear hr2 hb2
  go_wp2_with fail
  refine (HPT.out _).mono ?_
  rintro e w3 ⟨rfl, rfl⟩
  go_wp2_with fail
  refine (HPA.out _).mono ?_
  rintro e w3 ⟨rfl, rfl⟩
  go_wp2_with fail
  refine (HPB.out _).mono ?_
  rintro e w3 ⟨rfl, rfl⟩
  go_wp2_with fail
  refine (HPRO.out _ _ _ RU2.out).mono ?_
  rintro e w3 ⟨ao, ac, rfl, hr3, hb3⟩
  have RA3 := Lib.hid hr3
  have RU3 := Lib.hid (RU2.out.later hb3)
  have BW3 := Lib.hid (bch BW2.out hb3 BW2.out.size)
  clear hr3 hb3
  go_wp2
  go_loopw [15, 16, 19] (fun c o i wr => ∃ j : Nat, j ≤ n ∧ i = .int .i64 j ∧ c = .int .i64 (wtX x (us.take j)) ∧ o = .int .i64 (wtX y (us.take j)) ∧ Below w3.heap.size w3 wr) (fun _ _ i _ => n - (intOf i).toNat)
  case atStart => exact ⟨0, Nat.zero_le _, rfl, rfl, rfl, Below.refl _ _⟩
  case round =>
    obtain ⟨j, hj, rfl, rfl, rfl, hb⟩ := hrel
    have HB := Lib.hid hb
    clear hb
    by_cases hlt : j < n
    · have hjl : j < us.length := by rw [HN.out]; exact hlt
      obtain ⟨sb, off, rfl, hbl, c0, c1, c2, c3⟩ := RU3.out.usage hjl
      have e1 : wr.cell? ⟨sb, off + j * 4 + 1, none⟩ = some (.int .i64 us[j].rcd) := by rw [HB.out.cell (p := ⟨sb, off + j * 4 + 1, none⟩) hbl]; exact c1
      have e2 : wr.cell? ⟨sb, off + j * 4 + 2, none⟩ = some (.int .i64 us[j].val) := by rw [HB.out.cell (p := ⟨sb, off + j * 4 + 2, none⟩) hbl]; exact c2
      have e3 : wr.cell? ⟨sb, off + j * 4 + 3, none⟩ = some (.int .i64 us[j].held) := by rw [HB.out.cell (p := ⟨sb, off + j * 4 + 3, none⟩) hbl]; exact c3
      have HX := Lib.hid (wtX_take x us j hjl)
      have HY := Lib.hid (wtX_take y us j hjl)
      have hsm := HS.out us[j] (List.getElem_mem hjl)
      have hbx := wtX_bd x us HS.out j (by omega)
      have hby := wtX_bd y us HS.out j (by omega)
      obtain ⟨u, hu⟩ : ∃ u, us[j] = u := ⟨_, rfl⟩
      rw [hu] at e1 e2 e3 HX HY hsm
      clear c0 c1 c2 c3 hu
      obtain ⟨wx, hwx⟩ : ∃ c, wtX x (us.take j) = c := ⟨_, rfl⟩
      obtain ⟨wy, hwy⟩ : ∃ o, wtX y (us.take j) = o := ⟨_, rfl⟩
      rw [hwx] at HX hbx ⊢
      rw [hwy] at HY hby ⊢
      clear hwx hwy
      obtain ⟨ua, ur, uv, uh⟩ := u
      dsimp only [wtS] at e1 e2 e3 HX HY hsm
      have hi0 : (0 : Int) ≤ (j : Int) := by omega
      have hi1 : (j : Int) < (n : Int) := by omega
      by_cases cx : ur = x
      · have HX' := Lib.hid (show wtX x (us.take (j + 1)) = wx + uv + uh by rw [HX.out, if_pos cx])
        by_cases cy : ur = y
        · have HY' := Lib.hid (show wtX y (us.take (j + 1)) = wy + uv + uh by rw [HY.out, if_pos cy])
          go_wp2
          go_quiet (fail)
          go_wp2
          go_quiet (fail)
          go_wp2
          go_roundw
          case rel => exact ⟨j + 1, by omega, by go_num, by rw [HX'.out], by rw [HY'.out], bch HB.out (below_dn _ _) HB.out.size⟩
          case measure => simp [intOf]; omega
        · have HY' := Lib.hid (show wtX y (us.take (j + 1)) = wy by rw [HY.out, if_neg cy])
          go_wp2
          go_quiet (fail)
          go_wp2
          go_roundw
          case rel => exact ⟨j + 1, by omega, by go_num, by rw [HX'.out], by rw [HY'.out], bch HB.out (below_dn _ _) HB.out.size⟩
          case measure => simp [intOf]; omega
      · have HX' := Lib.hid (show wtX x (us.take (j + 1)) = wx by rw [HX.out, if_neg cx])
        by_cases cy : ur = y
        · have HY' := Lib.hid (show wtX y (us.take (j + 1)) = wy + uv + uh by rw [HY.out, if_pos cy])
          go_wp2
          go_quiet (fail)
          go_wp2
          go_roundw
          case rel => exact ⟨j + 1, by omega, by go_num, by rw [HX'.out], by rw [HY'.out], bch HB.out (below_dn _ _) HB.out.size⟩
          case measure => simp [intOf]; omega
        · have HY' := Lib.hid (show wtX y (us.take (j + 1)) = wy by rw [HY.out, if_neg cy])
          go_wp2
          go_roundw
          case rel => exact ⟨j + 1, by omega, by go_num, by rw [HX'.out], by rw [HY'.out], HB.out⟩
          case measure => simp [intOf]; omega
    · have hjn : us.take j = us := List.take_of_length_le (by rw [HN.out]; omega)
      rw [hjn]
      clear hjn
      have hbx := wtX_bd x us HS.out us.length (Nat.le_refl _)
      have hby := wtX_bd y us HS.out us.length (Nat.le_refl _)
      rw [List.take_length] at hbx hby
      obtain ⟨wx, hwx⟩ : ∃ c, wtX x us = c := ⟨_, rfl⟩
      obtain ⟨wy, hwy⟩ : ∃ o, wtX y us = o := ⟨_, rfl⟩
      have hf := HF.out
      rw [hwx, hwy] at hf ⊢
      rw [hwx] at hbx
      rw [hwy] at hby
      have HF2 := Lib.hid hf
      have RA := Lib.hid (RA3.out.later HB.out)
      have BW := Lib.hid (bch BW3.out HB.out BW3.out.size)
      clear hf hwx hwy HF
      obtain ⟨w4, rfl⟩ : ∃ w4, w4 = wr := ⟨_, rfl⟩
      go_wp2
      go_loopw [17, 18, 20] (fun c o i wr' => ∃ j : Nat, j ≤ na ∧ i = .int .i64 j ∧ c = .int .i64 (lastL x (A.take j)) ∧ o = .int .i64 (lastL y (A.take j)) ∧ Below w4.heap.size w4 wr') (fun _ _ i _ => na - (intOf i).toNat)
      case atStart => exact ⟨0, Nat.zero_le _, rfl, rfl, rfl, Below.refl _ _⟩
      case round =>
        obtain ⟨i, hi, rfl, rfl, rfl, hb⟩ := hrel
        have HBI := Lib.hid hb
        clear hb
        by_cases hlti : i < na
        · have hil : i < A.length := by rw [HNA.out]; exact hlti
          have hpos := HAP.out A[i] (List.getElem_mem hil)
          have HX := Lib.hid (lastL_take x A i hil)
          have HY := Lib.hid (lastL_take y A i hil)
          have hi0 : (0 : Int) ≤ (i : Int) := by omega
          have hi1 : (i : Int) < (na : Int) := by omega
          obtain ⟨vx, hvx⟩ : ∃ c, lastL x (A.take i) = c := ⟨_, rfl⟩
          obtain ⟨vy, hvy⟩ : ∃ o, lastL y (A.take i) = o := ⟨_, rfl⟩
          rw [hvx] at HX ⊢
          rw [hvy] at HY ⊢
          clear hvx hvy
          by_cases hz : i = 0
          · subst hz
            obtain ⟨ab, aoff, rfl, hbl, c0, c1⟩ := RA.out.share hil
            have e0 : wr.cell? ⟨ab, aoff, none⟩ = some (.int .i64 A[0].1) := by rw [HBI.out.cell (p := ⟨ab, aoff, none⟩) hbl]; simpa using c0
            have e1 : wr.cell? ⟨ab, aoff + 1, none⟩ = some (.int .i64 A[0].2) := by rw [HBI.out.cell (p := ⟨ab, aoff + 1, none⟩) hbl]; simpa using c1
            obtain ⟨q, hq⟩ : ∃ q, A[0] = q := ⟨_, rfl⟩
            rw [hq] at e0 e1 hpos HX HY
            clear c0 c1 hq
            obtain ⟨p, g⟩ := q
            dsimp only [lastS] at e0 e1 hpos HX HY
            have hd : decide (g ≤ 0) = false := decide_eq_false (by omega)
            by_cases cx : p = x <;> by_cases cy : p = y
            all_goals
              (first | rw [if_pos cx] at HX | rw [if_neg cx] at HX)
              (first | rw [if_pos cy] at HY | rw [if_neg cy] at HY)
              go_wp2
              go_quiet (fail)
              go_wp2
              go_roundw
              case rel => exact ⟨0 + 1, by omega, by go_num, by rw [HX.out], by rw [HY.out], bch HBI.out (below_dn _ _) HBI.out.size⟩
              case measure => simp [intOf]; omega
          · have him : i - 1 < A.length := by omega
            have hless := List.pairwise_iff_getElem.1 HASC.out (i - 1) i him hil (by omega)
            obtain ⟨ab, aoff, rfl, hbl, c0, c1⟩ := RA.out.share hil
            obtain ⟨ab', aoff', hab, _, d0, _⟩ := RA.out.share him
            cases hab
            have e0 : wr.cell? ⟨ab, aoff + i * 2, none⟩ = some (.int .i64 A[i].1) := by rw [HBI.out.cell (p := ⟨ab, aoff + i * 2, none⟩) hbl]; exact c0
            have e1 : wr.cell? ⟨ab, aoff + i * 2 + 1, none⟩ = some (.int .i64 A[i].2) := by rw [HBI.out.cell (p := ⟨ab, aoff + i * 2 + 1, none⟩) hbl]; exact c1
            have e2 : wr.cell? ⟨ab, aoff + (i - 1) * 2, none⟩ = some (.int .i64 A[i - 1].1) := by rw [HBI.out.cell (p := ⟨ab, aoff + (i - 1) * 2, none⟩) hbl]; exact d0
            obtain ⟨q, hq⟩ : ∃ q, A[i] = q := ⟨_, rfl⟩
            obtain ⟨q', hq'⟩ : ∃ q', A[i - 1].1 = q' := ⟨_, rfl⟩
            rw [hq] at e0 e1 hpos HX HY hless
            rw [hq'] at e2 hless
            clear c0 c1 d0 hq hq'
            obtain ⟨p, g⟩ := q
            dsimp only [lastS] at e0 e1 hpos HX HY hless
            have hd : decide (g ≤ 0) = false := decide_eq_false (by omega)
            have hd2 : decide (p ≤ q') = false := decide_eq_false (by omega)
            have hip : (0 : Int) < (i : Int) := by omega
            have hip2 : 0 < i := by omega
            have hip3 : decide ((0 : Int) < (i : Int)) = true := decide_eq_true hip
            have hip4 : decide (0 < i) = true := decide_eq_true hip2
            have hw1 : IntKind.i64.wrap ((i : Int) - 1) = (i : Int) - 1 := IntWalk.i64_in _ (by omega)
            have hw2 : (0 : Int) ≤ (i : Int) - 1 := by omega
            have hw3 : (i : Int) - 1 < (na : Int) := by omega
            have hw4 : ((i : Int) - 1).toNat = i - 1 := by omega
            by_cases cx : p = x <;> by_cases cy : p = y
            all_goals
              (first | rw [if_pos cx] at HX | rw [if_neg cx] at HX)
              (first | rw [if_pos cy] at HY | rw [if_neg cy] at HY)
              go_wp2
              go_quiet (fail)
              go_wp2
              go_roundw
              case rel => exact ⟨i + 1, by omega, by go_num, by rw [HX.out], by rw [HY.out], bch HBI.out (below_dn _ _) HBI.out.size⟩
              case measure => simp [intOf]; omega
        · have hjn : A.take i = A := List.take_of_length_le (by rw [HNA.out]; omega)
          rw [hjn]
          clear hjn
          have hbX := HBX.out
          have hbY := HBY.out
          obtain ⟨gx, hgx⟩ : ∃ c, lastL x A = c := ⟨_, rfl⟩
          obtain ⟨gy, hgy⟩ : ∃ o, lastL y A = o := ⟨_, rfl⟩
          have hf := HF2.out
          rw [hgx, hgy] at hf ⊢
          rw [hgx] at hbX
          rw [hgy] at hbY
          have HF3 := Lib.hid hf
          have BWW := Lib.hid (bch BW.out HBI.out BW.out.size)
          clear hf hgx hgy HF2
          rcases Int.lt_trichotomy wx wy with c | c | c
          · by_cases z : wx = 0
            · obtain rfl : gx = 0 := HF3.out.1 z
              clear HF3
              go_wp2
              go_ret
              exact ⟨rfl, BWW.out⟩
            · clear HF3
              go_wp2
              go_ret
              exact ⟨rfl, BWW.out⟩
          · have hd := HF3.out.2.2 c
            by_cases z : wx = 0
            · obtain rfl : gx = 0 := HF3.out.1 z
              have hg1 : gy ≤ 1 := by omega
              clear HF3
              subst c
              go_wp2
              go_ret
              exact ⟨rfl, BWW.out⟩
            · clear HF3
              subst c
              go_wp2
              go_ret
              exact ⟨rfl, BWW.out⟩
          · have hd := HF3.out.2.1 c
            have z : wx ≠ 0 := by omega
            clear HF3
            go_wp2
            go_ret
            exact ⟨rfl, BWW.out⟩

end Go.Proofs.Ytbkmcncakpmgkaa.allocateFair
