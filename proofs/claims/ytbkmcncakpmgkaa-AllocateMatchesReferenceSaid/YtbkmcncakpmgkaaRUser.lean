/-
  The reference's UserCentric.
-/
import Derived.Test.YtbkmcncakpmgkaaOpn
import Derived.StillTailTactics
import Derived.Deep.RegionHeld3
namespace Go.Proofs.Ytbkmcncakpmgkaa
set_option linter.unusedVariables false
open Go.ChangeShapes Go.WideShapes Go.ChangeAt Go.RowKit

set_option maxRecDepth 100000 in
set_option maxHeartbeats 2000000 in
theorem ruser_any (po uo : Option Addr) (pc uc np m : Nat) (paid : List (Int × Int)) (us : List Us) (w : World) (hnp : np ≤ 60) (hm : m ≤ 60) (hlp : paid.length = np) (hlu : us.length = m) (hrp : RowK 2 encS w po paid) (hru : RowK 4 encU w uo us) :
    Calls Try.prog 13 #[.slice po np pc, .slice uo m uc] w (UserP w (tidyL (userA us paid).1) (userA us paid).2) := by
  have HLP := Lib.hid hlp
  have HLU := Lib.hid hlu
  have HRP := Lib.hid hrp
  have HRU := Lib.hid hru
  clear hlp hlu hrp hru
  go_enter Try.func13, Try.ntmps13
  go_wp2
  go_loopw [6, 7, 8] (fun v r i wr => ∃ (k : Nat) (oo : Option Addr) (oc on : Nat) (x : Int), k ≤ np ∧ i = .int .i64 k ∧ v = .slice oo on oc ∧ r = .int .i64 x ∧ (userA us (paid.take k)).2 = x ∧ (userA us (paid.take k)).1.length = on ∧ RowK 2 encS wr oo (userA us (paid.take k)).1 ∧ Below w.heap.size w wr) (fun _ _ i _ => np - (intOf i).toNat)
  case atStart => exact ⟨0, none, 0, 0, 0, Nat.zero_le _, rfl, rfl, rfl, rfl, rfl, RowK.nil _ _ _ _, Below.refl _ _⟩
  case round =>
    obtain ⟨k, oo, oc, on, x, hk, rfl, rfl, rfl, hx, hlen, hrow, hb⟩ := hrel
    have BD := Lib.hid (user_bd us (by rw [HLU.out]; exact hm) paid k (by rw [HLP.out]; exact hk))
    have hon : on ≤ 60 * k := by rw [← hlen]; exact BD.out.2.1
    have hxb : 0 ≤ x ∧ x ≤ 1000000000000000 * k := by rw [← hx]; exact BD.out.2.2
    have HX := Lib.hid hx
    have HLEN := Lib.hid hlen
    have HROW := Lib.hid hrow
    have HB := Lib.hid hb
    clear hx hlen hrow hb
    obtain ⟨w2, rfl⟩ : ∃ w2, w2 = wr := ⟨_, rfl⟩
    by_cases hlt : k < np
    · have hkl : k < paid.length := by rw [HLP.out]; exact hlt
      obtain ⟨sb, off, rfl, hbl, c0, c1⟩ := HRP.out.share hkl
      have e0 : w2.cell? ⟨sb, off + k * 2, none⟩ = some (.int .i64 paid[k].1) := by rw [HB.out.cell (p := ⟨sb, off + k * 2, none⟩) hbl]; exact c0
      have e1 : w2.cell? ⟨sb, off + k * 2 + 1, none⟩ = some (.int .i64 paid[k].2) := by rw [HB.out.cell (p := ⟨sb, off + k * 2 + 1, none⟩) hbl]; exact c1
      have HT := Lib.hid (user_take us paid k hkl)
      obtain ⟨u, hu⟩ : ∃ u, paid[k] = u := ⟨_, rfl⟩
      rw [hu] at e0 e1 HT
      have hsb : sb < w2.heap.size := Nat.lt_of_lt_of_le hbl HB.out.size
      obtain ⟨r, y⟩ := u
      have HC := Lib.hid (fun W => rsound_any r y W)
      have HUB := Lib.hid (@sound_bd (r, y))
      have HW := Lib.hid (show uStep us (userA us (paid.take k)) (r, y) = if soundB (r, y) = true then (addAll (userA us (paid.take k)).1 (divL y (weightsL false r us)), if apB y (amts (weightsL false r us)) = true then (userA us (paid.take k)).2 else (userA us (paid.take k)).2 + y) else userA us (paid.take k) from rfl)
      clear hu c0 c1
      dsimp only at e0 e1
      rcases hcb : soundB (r, y) with _ | _
      · have HN := Lib.hid (show userA us (paid.take (k + 1)) = userA us (paid.take k) by rw [HT.out, HW.out, if_neg (by rw [hcb]; simp)])
        rw [hcb] at HC
        clear hcb
        go_wp2_with (go_at_call 30; refine (HC.out _).mono ?_; rintro e w3 ⟨rfl, hb3⟩; have HB3 := Lib.hid hb3; clear hb3)
        go_roundw
        case rel => exact ⟨k + 1, oo, oc, on, x, by omega, by go_num, rfl, rfl, by rw [HN.out]; exact HX.out, by rw [HN.out]; exact HLEN.out, by rw [HN.out]; exact HROW.out.later HB3.out, HB.out.trans (HB3.out.mono HB.out.size)⟩
        case measure => simp [intOf]; omega
      · have hub := HUB.out hcb
        dsimp only at hub
        rw [HW.out, if_pos hcb] at HT
        rw [hcb] at HC
        clear hcb HW
        go_wp2_with (go_at_call 30; refine (HC.out _).mono ?_; rintro e w3 ⟨rfl, hb3⟩; have g0 : w3.cell? ⟨sb, off + k * 2, none⟩ = some (.int .i64 r) := (by rw [hb3.cell (p := ⟨sb, off + k * 2, none⟩) hsb]; exact e0); have g1 : w3.cell? ⟨sb, off + k * 2 + 1, none⟩ = some (.int .i64 y) := (by rw [hb3.cell (p := ⟨sb, off + k * 2 + 1, none⟩) hsb]; exact e1); have HB3 := Lib.hid hb3; clear hb3)
        have HU3 := Lib.hid (HRU.out.later (bch HB.out HB3.out HB.out.size))
        have HWI := Lib.hid (weights_i64 false r us (by rw [HLU.out]; omega))
        have hsb3 : sb < w3.heap.size := Nat.lt_of_lt_of_le hsb HB3.out.size
        have KEEP := Lib.hid (show ∀ W, Below w3.heap.size w3 W → W.cell? ⟨sb, off + k * 2, none⟩ = some (.int .i64 r) ∧ W.cell? ⟨sb, off + k * 2 + 1, none⟩ = some (.int .i64 y) ∧ Below w3.heap.size w3 W from fun W h => ⟨by rw [h.cell (p := ⟨sb, off + k * 2, none⟩) hsb3]; exact g0, by rw [h.cell (p := ⟨sb, off + k * 2 + 1, none⟩) hsb3]; exact g1, h⟩)
        go_region_held3 (fun w' => w'.cell? ⟨sb, off + k * 2, none⟩ = some (.int .i64 r) ∧ w'.cell? ⟨sb, off + k * 2 + 1, none⟩ = some (.int .i64 y) ∧ Below w3.heap.size w3 w')
          (first | (exact KEEP.out _ E2) | (exact KEEP.out _ E1) | (exact KEEP.out _ ((Below.refl _ w3).drew)) | (go_split_ands; exact ⟨by assumption, by assumption, by assumption⟩))
          (first
            | (go_at_call 32; refine (weights_any uo uc m false r us _ (by omega) HLU.out (HU3.out.later ?_)).mono ?_; (go_split_ands; assumption); go_split_ands; rename_i E0; rintro e w5 ⟨a5, c5, rfl, h5, hr5, hb5⟩; have E1 := bch E0 hb5 E0.size; clear h5 hb5)
            | (go_at_call 31; refine (rdivide_any y a5 c5 _ _ _ HWI.out.2 rfl (hr5.later ?_) HWI.out.1).mono ?_; (exact Below.refl _ _); rintro e w6 ⟨a6, c6, rfl, h6, hr6, hb6⟩; have E2 := bch E1 hb6 E1.size; clear h6 hb6))
        have E2H := Lib.hid E2
        have HR6 := Lib.hid hr6
        obtain ⟨d, hd⟩ : ∃ d, divL y (weightsL false r us) = d := ⟨_, rfl⟩
        have HDB := Lib.hid (div_bd y (weightsL false r us))
        have HDL := Lib.hid (div_len_le y (weightsL false r us))
        rw [hd] at HR6 HT HDB HDL ⊢
        obtain ⟨nd, hnd⟩ : ∃ nd, d.length = nd := ⟨_, rfl⟩
        rw [hnd] at HDL ⊢
        have HND := Lib.hid hnd
        clear E2 E1 hr6 hr5 E0 hd hnd
        have hnd60 : nd ≤ 60 := by
          have h := (weights_bd false r us us.length (Nat.le_refl _)).2
          have h2 := HDL.out
          rw [List.take_length, HLU.out] at h
          omega
        rcases hab : apB y (amts (weightsL false r us)) with _ | _
        · have HN := Lib.hid (show userA us (paid.take (k + 1)) = (addAll (userA us (paid.take k)).1 d, x + y) by rw [HT.out, hab, HX.out]; simp)
          clear hab HT
          go_wp2
          go_loopw [6, 12] (fun v i wl => ∃ (j : Nat) (o2 : Option Addr) (oc2 on2 : Nat), j ≤ nd ∧ i = .int .i64 j ∧ v = .slice o2 on2 oc2 ∧ (addAll (userA us (paid.take k)).1 (d.take j)).length = on2 ∧ RowK 2 encS wl o2 (addAll (userA us (paid.take k)).1 (d.take j)) ∧ Below w6.heap.size w6 wl) (fun _ i _ => nd - (intOf i).toNat)
          case atStart => exact ⟨0, oo, oc, on, Nat.zero_le _, rfl, rfl, HLEN.out, HROW.out.later (bch HB3.out E2H.out HB3.out.size), Below.refl _ _⟩
          case round =>
            obtain ⟨j, o2, oc2, on2, hj, rfl, rfl, hlen2, hrow2, hb2⟩ := hrel
            have BD2 := Lib.hid (addAll_bd (by omega) BD.out.1 HDB.out j (by rw [HND.out]; exact hj))
            have hon2 : on2 ≤ on + j := by rw [← hlen2, ← HLEN.out]; exact BD2.out.2
            have HLEN2 := Lib.hid hlen2
            have HROW2 := Lib.hid hrow2
            have HB2 := Lib.hid hb2
            clear hlen2 hrow2 hb2
            by_cases hltj : j < nd
            · have hjl : j < d.length := by rw [HND.out]; exact hltj
              obtain ⟨db, doff, rfl, hdb, c0, c1⟩ := HR6.out.share hjl
              have f0 : wr.cell? ⟨db, doff + j * 2, none⟩ = some (.int .i64 d[j].1) := by rw [HB2.out.cell (p := ⟨db, doff + j * 2, none⟩) hdb]; exact c0
              have f1 : wr.cell? ⟨db, doff + j * 2 + 1, none⟩ = some (.int .i64 d[j].2) := by rw [HB2.out.cell (p := ⟨db, doff + j * 2 + 1, none⟩) hdb]; exact c1
              have HT2 := Lib.hid (addAll_take (userA us (paid.take k)).1 d j hjl)
              have hqb := HDB.out d[j] (List.getElem_mem hjl)
              obtain ⟨q, hq⟩ : ∃ q, d[j] = q := ⟨_, rfl⟩
              rw [hq] at f0 f1 HT2 hqb
              obtain ⟨qr, qa⟩ := q
              dsimp only at f0 f1 HT2 hqb
              clear c0 c1 hq
              have hj0 : (0 : Int) ≤ (j : Int) := by omega
              have hj1 : (j : Int) < (nd : Int) := by omega
              go_wp2
              go_still_tail 11, (by kernel_rfl)
              change wpList _ _ _ _ _ wr.drew
              have HB4 := Lib.hid ((Below.refl wr.heap.size wr).drew)
              generalize wr.drew = w8 at HB4 ⊢
              have HAD := Lib.hid (add_any o2 oc2 on2 qr qa _ w8 (by omega) HLEN2.out (HROW2.out.later HB4.out) (BD2.out.1.sumOk (by omega) (by omega)))
              go_wp2_with (go_at_call 33; refine HAD.out.mono ?_; rintro e w9 ⟨no, nc, rfl, hnc, hrow9, hb9⟩; have HROW9 := Lib.hid hrow9; have HB9 := Lib.hid (bch HB2.out (bch HB4.out hb9 HB4.out.size) HB2.out.size); clear hrow9 hnc hb9)
              go_roundw
              case rel => exact ⟨j + 1, no, nc, _, by omega, by go_num, rfl, by rw [HT2.out], by rw [HT2.out]; exact HROW9.out, HB9.out⟩
              case measure => simp [intOf]; omega
            · have hdn : d.take j = d := List.take_of_length_le (by rw [HND.out]; omega)
              have hl2 := HLEN2.out
              have hr2 := HROW2.out
              rw [hdn] at hl2 hr2
              have HL3 := Lib.hid hl2
              have HR3 := Lib.hid hr2
              have HBE := Lib.hid (bch HB.out (bch HB3.out (bch E2H.out HB2.out E2H.out.size) HB3.out.size) HB.out.size)
              clear hdn hl2 hr2
              go_wp2
              go_roundw
              case rel => exact ⟨k + 1, o2, oc2, on2, _, by omega, by go_num, rfl, rfl, by rw [HN.out], by rw [HN.out]; exact HL3.out, by rw [HN.out]; exact HR3.out, HBE.out⟩
              case measure => simp [intOf]; omega
        · have HN := Lib.hid (show userA us (paid.take (k + 1)) = (addAll (userA us (paid.take k)).1 d, x) by rw [HT.out, hab, HX.out]; simp)
          clear hab HT
          go_wp2
          go_loopw [6, 12] (fun v i wl => ∃ (j : Nat) (o2 : Option Addr) (oc2 on2 : Nat), j ≤ nd ∧ i = .int .i64 j ∧ v = .slice o2 on2 oc2 ∧ (addAll (userA us (paid.take k)).1 (d.take j)).length = on2 ∧ RowK 2 encS wl o2 (addAll (userA us (paid.take k)).1 (d.take j)) ∧ Below w6.heap.size w6 wl) (fun _ i _ => nd - (intOf i).toNat)
          case atStart => exact ⟨0, oo, oc, on, Nat.zero_le _, rfl, rfl, HLEN.out, HROW.out.later (bch HB3.out E2H.out HB3.out.size), Below.refl _ _⟩
          case round =>
            obtain ⟨j, o2, oc2, on2, hj, rfl, rfl, hlen2, hrow2, hb2⟩ := hrel
            have BD2 := Lib.hid (addAll_bd (by omega) BD.out.1 HDB.out j (by rw [HND.out]; exact hj))
            have hon2 : on2 ≤ on + j := by rw [← hlen2, ← HLEN.out]; exact BD2.out.2
            have HLEN2 := Lib.hid hlen2
            have HROW2 := Lib.hid hrow2
            have HB2 := Lib.hid hb2
            clear hlen2 hrow2 hb2
            by_cases hltj : j < nd
            · have hjl : j < d.length := by rw [HND.out]; exact hltj
              obtain ⟨db, doff, rfl, hdb, c0, c1⟩ := HR6.out.share hjl
              have f0 : wr.cell? ⟨db, doff + j * 2, none⟩ = some (.int .i64 d[j].1) := by rw [HB2.out.cell (p := ⟨db, doff + j * 2, none⟩) hdb]; exact c0
              have f1 : wr.cell? ⟨db, doff + j * 2 + 1, none⟩ = some (.int .i64 d[j].2) := by rw [HB2.out.cell (p := ⟨db, doff + j * 2 + 1, none⟩) hdb]; exact c1
              have HT2 := Lib.hid (addAll_take (userA us (paid.take k)).1 d j hjl)
              have hqb := HDB.out d[j] (List.getElem_mem hjl)
              obtain ⟨q, hq⟩ : ∃ q, d[j] = q := ⟨_, rfl⟩
              rw [hq] at f0 f1 HT2 hqb
              obtain ⟨qr, qa⟩ := q
              dsimp only at f0 f1 HT2 hqb
              clear c0 c1 hq
              have hj0 : (0 : Int) ≤ (j : Int) := by omega
              have hj1 : (j : Int) < (nd : Int) := by omega
              go_wp2
              go_still_tail 11, (by kernel_rfl)
              change wpList _ _ _ _ _ wr.drew
              have HB4 := Lib.hid ((Below.refl wr.heap.size wr).drew)
              generalize wr.drew = w8 at HB4 ⊢
              have HAD := Lib.hid (add_any o2 oc2 on2 qr qa _ w8 (by omega) HLEN2.out (HROW2.out.later HB4.out) (BD2.out.1.sumOk (by omega) (by omega)))
              go_wp2_with (go_at_call 33; refine HAD.out.mono ?_; rintro e w9 ⟨no, nc, rfl, hnc, hrow9, hb9⟩; have HROW9 := Lib.hid hrow9; have HB9 := Lib.hid (bch HB2.out (bch HB4.out hb9 HB4.out.size) HB2.out.size); clear hrow9 hnc hb9)
              go_roundw
              case rel => exact ⟨j + 1, no, nc, _, by omega, by go_num, rfl, by rw [HT2.out], by rw [HT2.out]; exact HROW9.out, HB9.out⟩
              case measure => simp [intOf]; omega
            · have hdn : d.take j = d := List.take_of_length_le (by rw [HND.out]; omega)
              have hl2 := HLEN2.out
              have hr2 := HROW2.out
              rw [hdn] at hl2 hr2
              have HL3 := Lib.hid hl2
              have HR3 := Lib.hid hr2
              have HBE := Lib.hid (bch HB.out (bch HB3.out (bch E2H.out HB2.out E2H.out.size) HB3.out.size) HB.out.size)
              clear hdn hl2 hr2
              go_wp2
              go_roundw
              case rel => exact ⟨k + 1, o2, oc2, on2, _, by omega, by go_num, rfl, rfl, by rw [HN.out], by rw [HN.out]; exact HL3.out, by rw [HN.out]; exact HR3.out, HBE.out⟩
              case measure => simp [intOf]; omega
    · have hN : paid.take k = paid := List.take_of_length_le (by rw [HLP.out]; omega)
      have hr := HROW.out
      have hn := HLEN.out
      have hx := HX.out
      rw [hN] at hr hn hx
      have HTD := Lib.hid (tidy_any oo oc on _ w2 (by omega) hn hr)
      have HXX := Lib.hid hx
      clear hN hr hn hx
      go_wp2_with (go_at_call 34; refine HTD.out.mono ?_; rintro e w6 ⟨a6, c6, rfl, h6, hr6, hb6⟩; have H6 := Lib.hid h6; have HR6 := Lib.hid hr6; have HB6 := Lib.hid (bch HB.out hb6 HB.out.size); clear h6 hr6 hb6)
      go_ret2
      rw [HXX.out]
      exact ⟨a6, c6, rfl, H6.out, HR6.out, HB6.out⟩

end Go.Proofs.Ytbkmcncakpmgkaa
