/-
  The walk of the law AllocateNothingLost: it returns true.
-/
import Derived.Test.YtbkmcncakpmgkaaNlA
import Derived.Deep.QuietTactic
import Derived.BigQuiet
namespace Go.Proofs.Ytbkmcncakpmgkaa.allocateNothingLost
set_option linter.unusedVariables false
open Go.ChangeShapes Go.WideShapes Go.ChangeAt Go.RowKit Go.Proofs.Ytbkmcncakpmgkaa

theorem any_take {α : Type} (f : α → Bool) (l : List α) (k : Nat) (h : k < l.length) : (l.take (k + 1)).any f = ((l.take k).any f || f l[k]) := by
  rw [List.take_succ_eq_append_getElem h, List.any_append]; simp

def ownB (r : Int) (u : Us) : Bool := countsB u && u.rcd == r

set_option maxRecDepth 100000 in
set_option maxHeartbeats 4000000 in
theorem walk (a0 : Option Addr) (len0 cap0 : Nat) (a1 : Option Addr) (len1 cap1 : Nat) (t k : Int) (W : World) (h0 : IsRowK 4 W a0 len0 cap0) (h1 : IsRowK 2 W a1 len1 cap1) (h2 : (Lit.int .i64 t).wf = true) (h3 : (Lit.int .i64 k).wf = true) :
    Calls Try.prog 5 #[.slice a0 len0 cap0, .slice a1 len1 cap1, .int .i64 t, .int .i64 k] W fun e W' => e = .returned (.bool true) ∧ Below W.heap.size W W' := by
  obtain ⟨l, hl, hr, hw, _, hm, _⟩ := h0.usages
  obtain ⟨l', hl', hr', hw', _, hm', _⟩ := h1.shares
  have hT := bounds_i64 h2
  have hK := bounds_i64 h3
  obtain ⟨us, n, _, hn, hn40, hU, few⟩ := few_calls a0 cap0 len0 l hm hl hw
  obtain ⟨p, np, _, hnp, hnp12, hS, hA, hsnd, pay⟩ := pay_calls a1 cap1 len1 l' hm' hl' hw'
  have HPT := Lib.hid (fun W => pick_any t 1000000000000001 W hT.1 hT.2 (by omega) (by omega))
  have HPK := Lib.hid (fun W => pick_any k 8 W hK.1 hK.2 (by omega) (by omega))
  have HPQ := Lib.hid (fun W => (pick_any k 8 W hK.1 hK.2 (by omega) (by omega)).mono (R' := fun e w' => e = .returned (.int .i64 (pickZ k 8)) ∧ w' = W) (fun _ _ h => ⟨h.1, h.2.symm⟩))
  have t0 := pickZ_lo t 1000000000000001 (by omega)
  have t1 := pickZ_hi t 1000000000000001 (by omega)
  obtain ⟨T, hTe⟩ : ∃ T, pickZ t 1000000000000001 = T := ⟨_, rfl⟩
  obtain ⟨r, hre⟩ : ∃ r, pickZ k 8 = r := ⟨_, rfl⟩
  rw [hTe] at HPT t0 t1
  rw [hre] at HPK HPQ
  obtain ⟨A, na, hna, hna1, hAA, hAt, pro⟩ := pro_calls T t0 (by omega) us n hn hn40 hU
  obtain ⟨B, nb, q, hnb, hnb1, hBA, hBt, hB0, hq0, hP1, usr⟩ := user_calls us n hn hn40 hU p np hnp hnp12 hS hA hsnd
  obtain ⟨x, y, hx1, hx2, hx3, hx4, hx5, hx6, hld⟩ := held_calls T t0 (by omega) r us n hn hn40
  have HTA := Lib.hid (fun W ao ac (h : RowK 2 encS W ao A) => total_any ao ac na A W hna1 hna h hAA)
  have HTB := Lib.hid (fun W ao ac (h : RowK 2 encS W ao B) => total_any ao ac nb B W hnb1 hnb h hBA)
  have HTP := Lib.hid (fun W ao ac (h : RowK 2 encS W ao p) => total_any ao ac np p W (by omega) hnp h (hA.mono (by omega)))
  obtain ⟨TA, hTA⟩ : ∃ TA, tot A = TA := ⟨_, rfl⟩
  obtain ⟨TB, hTB⟩ : ∃ TB, tot B = TB := ⟨_, rfl⟩
  rw [hTA] at HTA hAt
  rw [hTB] at HTB hBt hB0
  rw [← hBt] at HTP hP1
  have HX := Lib.hid (And.intro hAt (And.intro hx1 hx2))
  have HN := Lib.hid hn
  have HR0 := Lib.hid hr
  have HR1 := Lib.hid hr'
  have HFEW := Lib.hid few
  have HPAY := Lib.hid pay
  have HPRO := Lib.hid pro
  have HUSR := Lib.hid usr
  have HHLD := Lib.hid hld
  clear hl hr hw hl' hr' hw' hn hnp hna hnb hTe hre hTA hTB hBt hAt hx1 hx2 few pay pro usr hld h0 h1 h2 h3 hT hK hA hsnd hS hU hAA hBA
  go_enter Try.func5, Try.ntmps5
  go_wp2_with fail
  refine (sane_any _).mono ?_
  rintro e w1 ⟨rfl, hb1⟩
  have BW1 := Lib.hid hb1
  clear hb1
  go_wp2_with fail
  refine (HFEW.out _ (HR0.out.later BW1.out)).mono ?_
  rintro e w2 ⟨uo, uc, rfl, hr2, hb2⟩
  have RU2 := Lib.hid hr2
  have BW2 := Lib.hid (bch BW1.out hb2 BW1.out.size)
  clear hr2 hb2
  go_wp2_with fail
  refine (HPAY.out _ (HR1.out.later BW2.out)).mono ?_
  rintro e w3 ⟨po, pc, rfl, hr3, hb3⟩
  have RP3 := Lib.hid hr3
  have RU3 := Lib.hid (RU2.out.later hb3)
  have BW3 := Lib.hid (bch BW2.out hb3 BW2.out.size)
  clear hr3 hb3
  go_wp2_with fail
  refine (HPT.out _).mono ?_
  rintro e w4 ⟨rfl, rfl⟩
  go_wp2
  go_loopw [13, 14, 15] (fun c o i wr => ∃ j : Nat, j ≤ n ∧ i = .int .i64 j ∧ c = .bool ((us.take j).any countsB) ∧ o = .bool ((us.take j).any (ownB r)) ∧ Below w3.heap.size w3 wr) (fun _ _ i _ => n - (intOf i).toNat)
  case atStart => exact ⟨0, Nat.zero_le _, rfl, rfl, rfl, Below.refl _ _⟩
  case round =>
    obtain ⟨j, hj, rfl, rfl, rfl, hb⟩ := hrel
    have HB := Lib.hid hb
    clear hb
    by_cases hlt : j < n
    · have hjl : j < us.length := by rw [HN.out]; exact hlt
      obtain ⟨sb, off, rfl, hbl, c0, c1, c2, c3⟩ := RU3.out.usage hjl
      have e0 : wr.cell? ⟨sb, off + j * 4, none⟩ = some (.int .i64 us[j].acc) := by rw [HB.out.cell (p := ⟨sb, off + j * 4, none⟩) hbl]; exact c0
      have e1 : wr.cell? ⟨sb, off + j * 4 + 1, none⟩ = some (.int .i64 us[j].rcd) := by rw [HB.out.cell (p := ⟨sb, off + j * 4 + 1, none⟩) hbl]; exact c1
      have e2 : wr.cell? ⟨sb, off + j * 4 + 2, none⟩ = some (.int .i64 us[j].val) := by rw [HB.out.cell (p := ⟨sb, off + j * 4 + 2, none⟩) hbl]; exact c2
      have e3 : wr.cell? ⟨sb, off + j * 4 + 3, none⟩ = some (.int .i64 us[j].held) := by rw [HB.out.cell (p := ⟨sb, off + j * 4 + 3, none⟩) hbl]; exact c3
      have HC := Lib.hid (any_take countsB us j hjl)
      have HO := Lib.hid (any_take (ownB r) us j hjl)
      have HCNT := Lib.hid (fun W => counts_any us[j] W)
      have KB := Lib.hid (show ∀ W, Below wr.heap.size wr W → W.cell? ⟨sb, off + j * 4 + 1, none⟩ = some (.int .i64 us[j].rcd) from fun W h => by rw [h.cell (p := ⟨sb, off + j * 4 + 1, none⟩) (Nat.lt_of_lt_of_le hbl HB.out.size)]; exact e1)
      obtain ⟨u, hu⟩ : ∃ u, us[j] = u := ⟨_, rfl⟩
      rw [hu] at e0 e1 e2 e3 HC HO HCNT KB
      clear c0 c1 c2 c3 hu
      obtain ⟨c, hc⟩ : ∃ c, (us.take j).any countsB = c := ⟨_, rfl⟩
      obtain ⟨o, ho⟩ : ∃ o, (us.take j).any (ownB r) = o := ⟨_, rfl⟩
      rw [hc] at HC ⊢
      rw [ho] at HO ⊢
      clear hc ho
      obtain ⟨b, hbb⟩ : ∃ b, countsB u = b := ⟨_, rfl⟩
      have ho2 : ownB r u = (b && u.rcd == r) := by unfold ownB; rw [hbb]
      rw [ho2] at HO
      rw [hbb] at HC HCNT
      clear hbb ho2
      obtain ⟨ua, ur, uv, uh⟩ := u
      dsimp only at e0 e1 e2 e3 HO HCNT KB
      have hi0 : (0 : Int) ≤ (j : Int) := by omega
      have hi1 : (j : Int) < (n : Int) := by omega
      go_wp2_with fail
      refine (HCNT.out _).mono ?_
      rintro e w5 ⟨rfl, hb5⟩
      have E5 := KB.out w5 hb5
      have HB5 := Lib.hid (bch HB.out hb5 HB.out.size)
      clear hb5 e0 e1 e2 e3
      rcases o with _ | _ <;> rcases b with _ | _ <;> rcases c with _ | _
      all_goals
        go_wp2
        go_quiet ((go_at_call 17; exact Calls.quiet_of_same (HPQ.out _)))
        go_wp2
        go_roundw
        case rel => exact ⟨j + 1, by omega, by go_num, by rw [HC.out]; rfl, by rw [HO.out]; simp, bch HB5.out (below_dn _ _) HB5.out.size⟩
        case measure => simp [intOf]; omega
    · have hjn : us.take j = us := List.take_of_length_le (by rw [HN.out]; omega)
      rw [hjn]
      clear hjn
      have hX := HX.out
      change (_ = if us.any countsB = true then T else 0) ∧ (us.any (ownB r) = true → _) ∧ (us.any (ownB r) = false → _) at hX
      obtain ⟨c, hc⟩ : ∃ c, us.any countsB = c := ⟨_, rfl⟩
      obtain ⟨o, ho⟩ : ∃ o, us.any (ownB r) = o := ⟨_, rfl⟩
      rw [hc, ho] at hX
      rw [hc, ho]
      clear hc ho HX
      have HX := Lib.hid hX
      clear hX
      have RU := Lib.hid (RU3.out.later HB.out)
      have RP := Lib.hid (RP3.out.later HB.out)
      have BW := Lib.hid (bch BW3.out HB.out BW3.out.size)
      go_wp2_with fail
      refine (HPRO.out _ _ _ RU.out).mono ?_
      rintro e w5 ⟨ao, ac, rfl, hr5, hb5⟩
      have RA5 := Lib.hid hr5
      have RU5 := Lib.hid (RU.out.later hb5)
      have RP5 := Lib.hid (RP.out.later hb5)
      have BW5 := Lib.hid (bch BW.out hb5 BW.out.size)
      clear hr5 hb5
      go_wp2_with fail
      refine (HTA.out _ _ _ RA5.out).mono ?_
      rintro e w5' ⟨rfl, rfl⟩
      go_wp2_with fail
      refine (HUSR.out _ _ _ _ _ RP5.out RU5.out).mono ?_
      rintro e w6 ⟨bo, bc, rfl, hr6, hb6⟩
      have RB6 := Lib.hid hr6
      have RU6 := Lib.hid (RU5.out.later hb6)
      have RP6 := Lib.hid (RP5.out.later hb6)
      have BW6 := Lib.hid (bch BW5.out hb6 BW5.out.size)
      clear hr6 hb6
      go_wp2_with fail
      refine (HPK.out _).mono ?_
      rintro e w6' ⟨rfl, rfl⟩
      go_wp2_with fail
      refine (HHLD.out _ _ _ RU6.out).mono ?_
      rintro e w7 ⟨rfl, hb7⟩
      have RB7 := Lib.hid (RB6.out.later hb7)
      have RP7 := Lib.hid (RP6.out.later hb7)
      have BW7 := Lib.hid (bch BW6.out hb7 BW6.out.size)
      clear hb7
      rcases c with _ | _ <;> rcases o with _ | _
      · obtain ⟨h1, h2, h3⟩ := HX.out
        obtain ⟨rfl, rfl⟩ := h3 rfl
        obtain rfl : TA = 0 := by simpa using h1
        clear h1 h2 h3 HX
        go_wp2_with fail
        refine (HTB.out _ _ _ RB7.out).mono ?_
        rintro e w8 ⟨rfl, rfl⟩
        go_wp2_with fail
        refine (HTP.out _ _ _ RP7.out).mono ?_
        rintro e w8 ⟨rfl, rfl⟩
        go_wp2
        go_ret
        exact ⟨rfl, BW7.out⟩
      · obtain ⟨h1, h2, h3⟩ := HX.out
        obtain rfl : x + y = T := h2 rfl
        obtain rfl : TA = 0 := by simpa using h1
        clear h1 h2 h3 HX
        go_wp2_with fail
        refine (HTB.out _ _ _ RB7.out).mono ?_
        rintro e w8 ⟨rfl, rfl⟩
        go_wp2_with fail
        refine (HTP.out _ _ _ RP7.out).mono ?_
        rintro e w8 ⟨rfl, rfl⟩
        go_wp2
        go_ret
        exact ⟨rfl, BW7.out⟩
      · obtain ⟨h1, h2, h3⟩ := HX.out
        obtain ⟨rfl, rfl⟩ := h3 rfl
        obtain rfl : TA = T := by simpa using h1
        clear h1 h2 h3 HX
        go_wp2_with fail
        refine (HTB.out _ _ _ RB7.out).mono ?_
        rintro e w8 ⟨rfl, rfl⟩
        go_wp2_with fail
        refine (HTP.out _ _ _ RP7.out).mono ?_
        rintro e w8 ⟨rfl, rfl⟩
        go_wp2
        go_ret
        exact ⟨rfl, BW7.out⟩
      · obtain ⟨h1, h2, h3⟩ := HX.out
        obtain rfl : TA = T := by simpa using h1
        obtain rfl : x + y = TA := h2 rfl
        clear h1 h2 h3 HX
        go_wp2_with fail
        refine (HTB.out _ _ _ RB7.out).mono ?_
        rintro e w8 ⟨rfl, rfl⟩
        go_wp2_with fail
        refine (HTP.out _ _ _ RP7.out).mono ?_
        rintro e w8 ⟨rfl, rfl⟩
        go_wp2
        go_ret
        exact ⟨rfl, BW7.out⟩

end Go.Proofs.Ytbkmcncakpmgkaa.allocateNothingLost
