/-
  The walk of the law AllocateOrder: it returns true.
-/
import Derived.Test.YtbkmcncakpmgkaaOrC
import Derived.Deep.QuietTactic
import Derived.BigQuiet
import Derived.IntWalk
import Derived.Laws.OwnMore
import Derived.StillTailTactics
import Derived.RegionTactic
import Derived.BigRegion
namespace Go.Proofs.Ytbkmcncakpmgkaa.allocateOrder
set_option linter.unusedVariables false
set_option linter.unusedSimpArgs false
open Go.ChangeShapes Go.WideShapes Go.ChangeAt Go.RowKit Go.Proofs.Ytbkmcncakpmgkaa

theorem szU : (Try.prog.info? 42).map (·.size) = some 4 := by kernel_rfl
theorem oneU (a b c d : Int) : (#[Value.int .i64 a, .int .i64 b, .int .i64 c, .int .i64 d]).all (·.oneCell') = true := all_oneCell_toArray (encU_one ⟨a, b, c, d⟩)
theorem oneS (a b : Int) : (#[Value.int .i64 a, .int .i64 b]).all (·.oneCell') = true := all_oneCell_toArray (encS_one (a, b))
theorem szS : (Try.prog.info? 47).map (·.size) = some 2 := by kernel_rfl

set_option maxRecDepth 100000 in
set_option maxHeartbeats 8000000 in
theorem walk (a0 : Option Addr) (len0 cap0 : Nat) (a1 : Option Addr) (len1 cap1 : Nat) (t : Int) (a3 : Option Addr) (len3 cap3 : Nat) (z3 : List Int) (k : Int) (W : World) (h0 : IsRowK 4 W a0 len0 cap0) (h1 : IsRowK 2 W a1 len1 cap1) (h2 : (Lit.int .i64 t).wf = true) (h3 : IsRow .i64 W a3 len3 cap3 z3) (h4 : (Lit.int .i64 k).wf = true) :
    Calls Try.prog 7 #[.slice a0 len0 cap0, .slice a1 len1 cap1, .int .i64 t, .slice a3 len3 cap3, .int .i64 k] W fun e W' => e = .returned (.bool true) ∧ Below W.heap.size W W' := by
  obtain ⟨i0, hi, hz0, hz1, hz2⟩ := info_parts Try.infoU
  obtain ⟨j0, ji, jz0, jz1, jz2⟩ := info_parts Try.infoS
  obtain ⟨l, hl, hr, hw, _, hm, _⟩ := h0.usages
  obtain ⟨l', hl', hr', hw', _, hm', _⟩ := h1.shares
  obtain ⟨zs, hzl, _, hzm, _, hzr, hz64⟩ := h3.row
  have hT := bounds_i64 h2
  have hK := bounds_i64 h4
  have hsm : SmallU (fewL false l) := few_small l
  have few := fun W hr => few_any false a0 cap0 len0 l W hm hl hr hw
  have pay := fun W hr => payments_any a1 cap1 len1 l' W hm' hl' hr hw'
  have hfl := few_len false l
  have hpl := pay_len l'
  have hfU := few_U64 l
  have hpb := pay_bd l'
  have hps := pay_sound l'
  obtain ⟨us, hus⟩ : ∃ us, fewL false l = us := ⟨_, rfl⟩
  obtain ⟨ps, hpe⟩ : ∃ ps, payL l' = ps := ⟨_, rfl⟩
  rw [hus] at hsm few hfl hfU
  rw [hpe] at pay hpl hpb hps
  obtain ⟨n, hn⟩ : ∃ n, us.length = n := ⟨_, rfl⟩
  obtain ⟨np, hnp⟩ : ∃ np, ps.length = np := ⟨_, rfl⟩
  unfold SlcK at few pay
  rw [hn] at few hfl
  rw [hnp] at pay hpl
  have HPT := Lib.hid (fun W => pick_any t 1000000000000001 W hT.1 hT.2 (by omega) (by omega))
  obtain ⟨T, hTe⟩ : ∃ T, pickZ t 1000000000000001 = T := ⟨_, rfl⟩
  have t0 := pickZ_lo t 1000000000000001 (by omega)
  have t1 := pickZ_hi t 1000000000000001 (by omega)
  rw [hTe] at HPT t0 t1
  have HN := Lib.hid hn
  have HNP := Lib.hid hnp
  have HSM := Lib.hid hsm
  have HFU := Lib.hid hfU
  have HPB := Lib.hid hpb
  have HPS := Lib.hid hps
  have HFEW := Lib.hid few
  have HPAY := Lib.hid pay
  have HR0 := Lib.hid hr
  have HR1 := Lib.hid hr'
  have HZ := Lib.hid hzr
  have HZL := Lib.hid hzl
  have HZ64 := Lib.hid hz64
  have HK := Lib.hid hK
  clear hl hr hw hl' hr' hw' hus hpe hn hnp few pay hTe hsm hfU hpb hps hzl hzr hz64 h0 h1 h2 h3 h4 hT hK
  go_enter Try.func7, Try.ntmps7
  go_wp2_with fail
  refine (sane_any _).mono ?_
  rintro e w1 ⟨rfl, hb1⟩
  have BW1 := Lib.hid hb1
  clear hb1
  go_wp2_with fail
  refine (HFEW.out _ (HR0.out.later BW1.out)).mono ?_
  rintro e w2 ⟨uo, uc, rfl, hcu, hr2, hb2⟩
  have RU2 := Lib.hid hr2
  have BW2 := Lib.hid (bch BW1.out hb2 BW1.out.size)
  have HCU := Lib.hid hcu
  clear hr2 hb2 hcu
  go_wp2_with fail
  refine (HPAY.out _ (HR1.out.later BW2.out)).mono ?_
  rintro e w3 ⟨po, pc, rfl, hcp, hr3, hb3⟩
  have RP3 := Lib.hid hr3
  have RU3 := Lib.hid (RU2.out.later hb3)
  have BW3 := Lib.hid (bch BW2.out hb3 BW2.out.size)
  have HCP := Lib.hid hcp
  clear hr3 hb3 hcp
  go_wp2_with fail
  refine (HPT.out _).mono ?_
  rintro e w3' ⟨rfl, rfl⟩
  have O := Lib.hid (owns_emptyK encU 4 w3 42)
  have HB0 := Lib.hid ((Below.refl w3.heap.size w3).alloc (Nat.le_refl _) (.cells #[] 42))
  go_wp2_with (first
    | (at_builtin; refine wpList_append_row rfl (.tmp 33) (.tmp 34) 22 rfl w3.heap.size 42 i0 (.agg #[.int .i64 0, .int .i64 0, .int .i64 0, .int .i64 0]) 4 32 Try.underlying22 hi hz0 hz1 hz2 rfl (by decide) _ _ _ rfl O.out encU encU_len encU_one uo n uc us rfl HN.out HCU.out (RU3.out.later HB0.out) (by unfold maxLen; omega) (by omega) HB0.out.size ?_; intro v1 w4 own1 gr1; have OWN1 := Lib.hid own1; have HB1 := Lib.hid (grown_own HB0.out (Nat.le_refl _) O.out gr1); have HB40 := Lib.hid ((Below.refl w4.heap.size w4).alloc (Nat.le_refl _) (.cells #[] 47)); have O2 := Lib.hid (owns_emptyK encS 2 w4 47); have RP4 := Lib.hid (RP3.out.later HB1.out); clear own1 gr1)
    | (at_builtin; refine wpList_append_row rfl (.tmp 36) (.tmp 37) 23 rfl w4.heap.size 47 j0 (.agg #[.int .i64 0, .int .i64 0]) 2 16 Try.underlying23 ji jz0 jz1 jz2 rfl (by decide) _ _ _ rfl O2.out encS encS_len encS_one po np pc ps rfl HNP.out HCP.out (RP4.out.later HB40.out) (by unfold maxLen; omega) (by omega) HB40.out.size ?_; intro v2 w5 own2 gr2; have OWN2 := Lib.hid own2; have HB5 := Lib.hid (grown_own HB40.out (Nat.le_refl _) O2.out gr2); clear own2 gr2))
  have T0 := Lib.hid (show Rows2 w3.heap.size w4.heap.size us ps v1 v2 w5 us ps from by
    have o1 := OWN1.out
    have o2 := OWN2.out
    simp only [List.flatMap_nil, List.nil_append, Nat.zero_add] at o1 o2
    rw [← HN.out] at o1
    rw [← HNP.out] at o2
    exact ⟨ownsRow_blk o1 (fun g hg hl => HB5.out.block g (owns_ltK o1 g hg).2), o2, fun g hg => (owns_ltK o1 g hg).2, fun _ => rfl, fun _ => rfl, fun _ h => h, fun _ h => h, rfl, rfl⟩)
  obtain ⟨vo, vc, hv1, _, _⟩ := rowK_of_owns encU_len (by decide) T0.out.ownV
  obtain ⟨qo, qc, hv2, _, _⟩ := rowK_of_owns encS_len (by decide) T0.out.ownQ
  rw [HN.out] at hv1
  rw [HNP.out] at hv2
  subst hv1 hv2
  have BW5 := Lib.hid (bch BW3.out (bch HB1.out HB5.out HB1.out.size) BW3.out.size)
  have B35 := Lib.hid (bch HB1.out HB5.out HB1.out.size)
  have Z34 : w3.heap.size ≤ w4.heap.size := HB1.out.size
  clear OWN1 OWN2 O O2 HB0 HB40
  go_loopw [17] (fun i wr => ∃ (m : Nat) (vl : List Us) (ql : List (Int × Int)), m ≤ len3 ∧ m ≤ 60 ∧ i = .int .i64 m ∧ Rows2 w3.heap.size w4.heap.size us ps (.slice vo n vc) (.slice qo np qc) wr vl ql ∧ Below w3.heap.size w3 wr) (fun i _ => 60 - (intOf i).toNat)
  case atStart => exact ⟨0, us, ps, Nat.zero_le _, by omega, rfl, T0.out, B35.out⟩
  case round =>
    obtain ⟨m, vl, ql, hm3, hm60, rfl, hTwo, hb⟩ := hrel
    have TW := Lib.hid hTwo
    have HB := Lib.hid hb
    clear hTwo hb
    obtain ⟨wk, rfl⟩ : ∃ wk : World, wk = wr := ⟨_, rfl⟩
    by_cases hlt : m < len3
    · by_cases h60 : m < 60
      · obtain ⟨ob, ooff, rfl, hob, co⟩ := HZ.out m (by rw [HZL.out]; exact hlt)
        have hob3 : ob < w3.heap.size := Nat.lt_of_lt_of_le hob BW3.out.size
        have EZ := Lib.hid (show ∀ wx, Below w3.heap.size w3 wx → wx.cell? ⟨ob, ooff + m, none⟩ = some (.int .i64 (zs.getD m 0)) from fun wx hb => by rw [hb.cell (p := ⟨ob, ooff + m, none⟩) hob3, BW3.out.cell (p := ⟨ob, ooff + m, none⟩) hob]; exact co)
        have hz := HZ64.out m
        obtain ⟨z, hze⟩ : ∃ z, zs.getD m 0 = z := ⟨_, rfl⟩
        rw [hze] at EZ hz
        clear co hze
        have hm0 : (0 : Int) ≤ (m : Int) := by omega
        have hm1 : (m : Int) < (len3 : Int) := by omega
        have PK := Lib.hid (show ∀ n : Nat, 0 < n → n ≤ 1000 → ∃ a : Nat, a < n ∧ ∀ W, Calls Try.prog 17 #[.int .i64 z, .int .i64 n] W fun e w' => e = .returned (.int .i64 a) ∧ W = w' from fun n h1 h2 => ⟨(pickZ z n).toNat, by have := pickZ_lo z n (by omega); have := pickZ_hi z n (by omega); omega, fun W => by have h := pick_any z n W hz.1 hz.2 (by omega) (by omega); rw [show ((pickZ z n).toNat : Int) = pickZ z n by have := pickZ_lo z n (by omega); omega]; exact h⟩)
        clear hz
        rcases Nat.eq_zero_or_pos n with hn0 | hn0
        · have hn0' : ¬ (0 : Int) < (n : Int) := by omega
          rcases Nat.eq_zero_or_pos np with hp0 | hp0
          · have hp0' : ¬ (0 : Int) < (np : Int) := by omega
            clear hn0 hp0
            go_wp2
            go_roundw
            case rel => exact ⟨m + 1, vl, ql, by omega, by omega, by go_num, TW.out, HB.out⟩
            case measure => simp [intOf]; omega
          · clear hn0
            obtain ⟨b, hbn, HPB'⟩ := PK.out np hp0 (by omega)
            obtain ⟨qq, cq, hqq, hqg⟩ := TW.out.blockQ HNP.out hp0
            cases hqq
            have hql : ql.length = np := by rw [TW.out.lenQ, HNP.out]
            have hbl : b < ql.length := by omega
            have hbl0 : 0 < ql.length := by omega
            obtain ⟨x, hx⟩ : ∃ x, ql[0] = x := ⟨_, rfl⟩
            obtain ⟨y, hy⟩ : ∃ y, ql[b] = y := ⟨_, rfl⟩
            obtain ⟨pa, pr⟩ := x
            obtain ⟨sa, sr⟩ := y
            have OQ := Lib.hid (show wk.ownsRow w4.heap.size 47 2 (.slice (some ⟨qq, 0, none⟩) np qc) np (ql.flatMap encS) by have h := TW.out.ownQ; rw [HNP.out] at h; exact h)
            obtain ⟨d00, d01⟩ := cellsS OQ.out 0 (by omega) _ hx
            obtain ⟨d10, d11⟩ := cellsS OQ.out b hbl _ hy
            simp only [Nat.zero_mul, Nat.zero_add] at d00 d01
            have SWQ := Lib.hid (TW.out.swQ HNP.out Z34 HB.out b hbl0 hbl _ _ hx hy)
            obtain ⟨ql', hql'⟩ : ∃ ql', swapL ql b hbl0 hbl = ql' := ⟨_, rfl⟩
            rw [hql'] at SWQ
            have ezq := EZ.out _ HB.out
            have hb0 : (0 : Int) ≤ (b : Int) := by omega
            have hb1 : (b : Int) < (np : Int) := by omega
            have hbb : (0 : Int) < (np : Int) := by omega
            have HPBH := Lib.hid HPB'
            clear hql' hx hy HPB' hql
            dsimp only at d00 d01 d10 d11
            go_wp2_with fail
            refine (HPBH.out _).mono ?_
            rintro e w6 ⟨rfl, rfl⟩
            have K0 := OQ.out.frozenAt 0
            have K1 := OQ.out.frozenAt 1
            have L0 := OQ.out.frozenAt (b * 2)
            have L1 := OQ.out.frozenAt (b * 2 + 1)
            go_wp2
            rcases Nat.eq_zero_or_pos b with hb | hb
            · have hf : b * 2 = 0 := by omega
              rw [hf] at d10 d11 L0 L1
              simp only [Nat.zero_add] at d11 L1
              have hxa : sa = pa := by rw [d00] at d10; injection d10 with h; injection h with _ h; exact h.symm
              have hxr : sr = pr := by rw [d01] at d11; injection d11 with h; injection h with _ h; exact h.symm
              subst hxa hxr
              clear d10 d11 L0 L1
              go_region
              obtain ⟨wq, hwq⟩ : ∃ wq : World, wq = ((((wk.setCell ⟨qq, 0, none⟩ (.int .i64 sa)).setCell ⟨qq, 1, none⟩ (.int .i64 sr)).setCell ⟨qq, 0, none⟩ (.int .i64 sa)).setCell ⟨qq, 1, none⟩ (.int .i64 sr)).drew := ⟨_, rfl⟩
              have hsw : Rows2 w3.heap.size w4.heap.size us ps (.slice vo n vc) (.slice (some ⟨qq, 0, none⟩) np qc) wq vl ql' ∧ Below w3.heap.size w3 wq := by rw [hwq]; exact SWQ.out 0 hf
              rw [← hwq]
              have TWq := Lib.hid hsw.1
              have HBq := Lib.hid hsw.2
              clear hwq K0 K1 d00 d01 hf ezq hsw SWQ OQ
              go_wp2
              go_roundw
              case rel => exact ⟨m + 1, vl, ql', by omega, by omega, by go_num, TWq.out, HBq.out⟩
              case measure => simp [intOf]; omega
            · obtain ⟨f2, hf2⟩ : ∃ f, b * 2 = f + 2 := ⟨(b - 1) * 2, by omega⟩
              rw [hf2] at d10 d11 L0 L1
              simp only [Nat.add_assoc, Nat.reduceAdd] at d11 L1
              go_region
              obtain ⟨wq, hwq⟩ : ∃ wq : World, wq = ((((wk.setCell ⟨qq, 0, none⟩ (.int .i64 sa)).setCell ⟨qq, 1, none⟩ (.int .i64 sr)).setCell ⟨qq, f2 + 2, none⟩ (.int .i64 pa)).setCell ⟨qq, f2 + 2 + 1, none⟩ (.int .i64 pr)).drew := ⟨_, rfl⟩
              have hsw : Rows2 w3.heap.size w4.heap.size us ps (.slice vo n vc) (.slice (some ⟨qq, 0, none⟩) np qc) wq vl ql' ∧ Below w3.heap.size w3 wq := by rw [hwq]; exact SWQ.out (f2 + 2) hf2
              rw [← hwq]
              have TWq := Lib.hid hsw.1
              have HBq := Lib.hid hsw.2
              clear hwq K0 K1 d00 d01 d10 d11 L0 L1 hf2 ezq hsw SWQ OQ
              go_wp2
              go_roundw
              case rel => exact ⟨m + 1, vl, ql', by omega, by omega, by go_num, TWq.out, HBq.out⟩
              case measure => simp [intOf]; omega
        · have hn0' : (0 : Int) < (n : Int) := by omega
          rcases Nat.eq_zero_or_pos np with hp0 | hp0
          · have hp0' : ¬ (0 : Int) < (np : Int) := by omega
            clear hp0
            obtain ⟨a, han, HPA⟩ := PK.out n hn0 (by omega)
            obtain ⟨gg, cc, hvv, hgg⟩ := TW.out.blockV HN.out hn0
            cases hvv
            have hvl : vl.length = n := by rw [TW.out.lenV, HN.out]
            have hal : a < vl.length := by omega
            have hal0 : 0 < vl.length := by omega
            obtain ⟨x, hx⟩ : ∃ x, vl[0] = x := ⟨_, rfl⟩
            obtain ⟨y, hy⟩ : ∃ y, vl[a] = y := ⟨_, rfl⟩
            obtain ⟨xa, xr, xv, xh⟩ := x
            obtain ⟨ya, yr, yv, yh⟩ := y
            have OV := Lib.hid (show wk.ownsRow w3.heap.size 42 4 (.slice (some ⟨gg, 0, none⟩) n vc) n (vl.flatMap encU) by have h := TW.out.ownV; rw [HN.out] at h; exact h)
            obtain ⟨c00, c01, c02, c03⟩ := cellsU OV.out 0 (by omega) _ hx
            obtain ⟨c10, c11, c12, c13⟩ := cellsU OV.out a hal _ hy
            simp only [Nat.zero_mul, Nat.zero_add] at c00 c01 c02 c03
            have SWP := Lib.hid (TW.out.swV HN.out HB.out a hal0 hal _ _ hx hy)
            obtain ⟨vl', hvl'⟩ : ∃ vl', swapL vl a hal0 hal = vl' := ⟨_, rfl⟩
            rw [hvl'] at SWP
            have ez := EZ.out _ HB.out
            have ha0 : (0 : Int) ≤ (a : Int) := by omega
            have ha1 : (a : Int) < (n : Int) := by omega
            have hnn : (0 : Int) < (n : Int) := by omega
            have HPAH := Lib.hid HPA
            clear hvl' hx hy HPA hvl
            dsimp only at c00 c01 c02 c03 c10 c11 c12 c13
            go_wp2_with fail
            refine (HPAH.out _).mono ?_
            rintro e w6 ⟨rfl, rfl⟩
            have F0 := OV.out.frozenAt 0
            have F1 := OV.out.frozenAt 1
            have F2 := OV.out.frozenAt 2
            have F3 := OV.out.frozenAt 3
            have G0 := OV.out.frozenAt (a * 4)
            have G1 := OV.out.frozenAt (a * 4 + 1)
            have G2 := OV.out.frozenAt (a * 4 + 2)
            have G3 := OV.out.frozenAt (a * 4 + 3)
            go_wp2
            rcases Nat.eq_zero_or_pos a with ha | ha
            · have hf : a * 4 = 0 := by omega
              rw [hf] at c10 c11 c12 c13 G0 G1 G2 G3
              simp only [Nat.zero_add] at c11 c12 c13 G1 G2 G3
              have hxa : ya = xa := by rw [c00] at c10; injection c10 with h; injection h with _ h; exact h.symm
              have hxr : yr = xr := by rw [c01] at c11; injection c11 with h; injection h with _ h; exact h.symm
              have hxv : yv = xv := by rw [c02] at c12; injection c12 with h; injection h with _ h; exact h.symm
              have hxh : yh = xh := by rw [c03] at c13; injection c13 with h; injection h with _ h; exact h.symm
              subst hxa hxr hxv hxh
              clear c10 c11 c12 c13 G0 G1 G2 G3
              go_region
              obtain ⟨wv, hwv⟩ : ∃ wv : World, wv = ((((((((wk.setCell ⟨gg, 0, none⟩ (.int .i64 ya)).setCell ⟨gg, 1, none⟩ (.int .i64 yr)).setCell ⟨gg, 2, none⟩ (.int .i64 yv)).setCell ⟨gg, 3, none⟩ (.int .i64 yh)).setCell ⟨gg, 0, none⟩ (.int .i64 ya)).setCell ⟨gg, 1, none⟩ (.int .i64 yr)).setCell ⟨gg, 2, none⟩ (.int .i64 yv)).setCell ⟨gg, 3, none⟩ (.int .i64 yh)).drew := ⟨_, rfl⟩
              have hsw : Rows2 w3.heap.size w4.heap.size us ps (.slice (some ⟨gg, 0, none⟩) n vc) (.slice qo np qc) wv vl' ql ∧ Below w3.heap.size w3 wv := by rw [hwv]; exact SWP.out 0 hf
              rw [← hwv]
              clear hwv F0 F1 F2 F3 c00 c01 c02 c03 hf ez
              have TWv := Lib.hid hsw.1
              have HBv := Lib.hid hsw.2
              clear hsw SWP OV
              go_wp2
              go_roundw
              case rel => exact ⟨m + 1, vl', ql, by omega, by omega, by go_num, TWv.out, HBv.out⟩
              case measure => simp [intOf]; omega
            · obtain ⟨f, hf⟩ : ∃ f, a * 4 = f + 4 := ⟨(a - 1) * 4, by omega⟩
              rw [hf] at c10 c11 c12 c13 G0 G1 G2 G3
              simp only [Nat.add_assoc, Nat.reduceAdd] at c11 c12 c13 G1 G2 G3
              go_region
              obtain ⟨wv, hwv⟩ : ∃ wv : World, wv = ((((((((wk.setCell ⟨gg, 0, none⟩ (.int .i64 ya)).setCell ⟨gg, 1, none⟩ (.int .i64 yr)).setCell ⟨gg, 2, none⟩ (.int .i64 yv)).setCell ⟨gg, 3, none⟩ (.int .i64 yh)).setCell ⟨gg, f + 4, none⟩ (.int .i64 xa)).setCell ⟨gg, f + 4 + 1, none⟩ (.int .i64 xr)).setCell ⟨gg, f + 4 + 2, none⟩ (.int .i64 xv)).setCell ⟨gg, f + 4 + 3, none⟩ (.int .i64 xh)).drew := ⟨_, rfl⟩
              have hsw : Rows2 w3.heap.size w4.heap.size us ps (.slice (some ⟨gg, 0, none⟩) n vc) (.slice qo np qc) wv vl' ql ∧ Below w3.heap.size w3 wv := by rw [hwv]; exact SWP.out (f + 4) hf
              rw [← hwv]
              clear hwv F0 F1 F2 F3 c00 c01 c02 c03 c10 c11 c12 c13 G0 G1 G2 G3 hf ez
              have TWv := Lib.hid hsw.1
              have HBv := Lib.hid hsw.2
              clear hsw SWP OV
              go_wp2
              go_roundw
              case rel => exact ⟨m + 1, vl', ql, by omega, by omega, by go_num, TWv.out, HBv.out⟩
              case measure => simp [intOf]; omega
          · skip
            obtain ⟨a, han, HPA⟩ := PK.out n hn0 (by omega)
            obtain ⟨gg, cc, hvv, hgg⟩ := TW.out.blockV HN.out hn0
            cases hvv
            have hvl : vl.length = n := by rw [TW.out.lenV, HN.out]
            have hal : a < vl.length := by omega
            have hal0 : 0 < vl.length := by omega
            obtain ⟨x, hx⟩ : ∃ x, vl[0] = x := ⟨_, rfl⟩
            obtain ⟨y, hy⟩ : ∃ y, vl[a] = y := ⟨_, rfl⟩
            obtain ⟨xa, xr, xv, xh⟩ := x
            obtain ⟨ya, yr, yv, yh⟩ := y
            have OV := Lib.hid (show wk.ownsRow w3.heap.size 42 4 (.slice (some ⟨gg, 0, none⟩) n vc) n (vl.flatMap encU) by have h := TW.out.ownV; rw [HN.out] at h; exact h)
            obtain ⟨c00, c01, c02, c03⟩ := cellsU OV.out 0 (by omega) _ hx
            obtain ⟨c10, c11, c12, c13⟩ := cellsU OV.out a hal _ hy
            simp only [Nat.zero_mul, Nat.zero_add] at c00 c01 c02 c03
            have SWP := Lib.hid (TW.out.swV HN.out HB.out a hal0 hal _ _ hx hy)
            obtain ⟨vl', hvl'⟩ : ∃ vl', swapL vl a hal0 hal = vl' := ⟨_, rfl⟩
            rw [hvl'] at SWP
            have ez := EZ.out _ HB.out
            have ha0 : (0 : Int) ≤ (a : Int) := by omega
            have ha1 : (a : Int) < (n : Int) := by omega
            have hnn : (0 : Int) < (n : Int) := by omega
            have HPAH := Lib.hid HPA
            clear hvl' hx hy HPA hvl
            dsimp only at c00 c01 c02 c03 c10 c11 c12 c13
            go_wp2_with fail
            refine (HPAH.out _).mono ?_
            rintro e w6 ⟨rfl, rfl⟩
            have F0 := OV.out.frozenAt 0
            have F1 := OV.out.frozenAt 1
            have F2 := OV.out.frozenAt 2
            have F3 := OV.out.frozenAt 3
            have G0 := OV.out.frozenAt (a * 4)
            have G1 := OV.out.frozenAt (a * 4 + 1)
            have G2 := OV.out.frozenAt (a * 4 + 2)
            have G3 := OV.out.frozenAt (a * 4 + 3)
            go_wp2
            rcases Nat.eq_zero_or_pos a with ha | ha
            · have hf : a * 4 = 0 := by omega
              rw [hf] at c10 c11 c12 c13 G0 G1 G2 G3
              simp only [Nat.zero_add] at c11 c12 c13 G1 G2 G3
              have hxa : ya = xa := by rw [c00] at c10; injection c10 with h; injection h with _ h; exact h.symm
              have hxr : yr = xr := by rw [c01] at c11; injection c11 with h; injection h with _ h; exact h.symm
              have hxv : yv = xv := by rw [c02] at c12; injection c12 with h; injection h with _ h; exact h.symm
              have hxh : yh = xh := by rw [c03] at c13; injection c13 with h; injection h with _ h; exact h.symm
              subst hxa hxr hxv hxh
              clear c10 c11 c12 c13 G0 G1 G2 G3
              go_region
              obtain ⟨wv, hwv⟩ : ∃ wv : World, wv = ((((((((wk.setCell ⟨gg, 0, none⟩ (.int .i64 ya)).setCell ⟨gg, 1, none⟩ (.int .i64 yr)).setCell ⟨gg, 2, none⟩ (.int .i64 yv)).setCell ⟨gg, 3, none⟩ (.int .i64 yh)).setCell ⟨gg, 0, none⟩ (.int .i64 ya)).setCell ⟨gg, 1, none⟩ (.int .i64 yr)).setCell ⟨gg, 2, none⟩ (.int .i64 yv)).setCell ⟨gg, 3, none⟩ (.int .i64 yh)).drew := ⟨_, rfl⟩
              have hsw : Rows2 w3.heap.size w4.heap.size us ps (.slice (some ⟨gg, 0, none⟩) n vc) (.slice qo np qc) wv vl' ql ∧ Below w3.heap.size w3 wv := by rw [hwv]; exact SWP.out 0 hf
              rw [← hwv]
              clear hwv F0 F1 F2 F3 c00 c01 c02 c03 hf ez
              have TWv := Lib.hid hsw.1
              have HBv := Lib.hid hsw.2
              clear hsw SWP OV
              obtain ⟨b, hbn, HPB'⟩ := PK.out np hp0 (by omega)
              obtain ⟨qq, cq, hqq, hqg⟩ := TWv.out.blockQ HNP.out hp0
              cases hqq
              have hql : ql.length = np := by rw [TWv.out.lenQ, HNP.out]
              have hbl : b < ql.length := by omega
              have hbl0 : 0 < ql.length := by omega
              obtain ⟨x, hx⟩ : ∃ x, ql[0] = x := ⟨_, rfl⟩
              obtain ⟨y, hy⟩ : ∃ y, ql[b] = y := ⟨_, rfl⟩
              obtain ⟨pa, pr⟩ := x
              obtain ⟨sa, sr⟩ := y
              have OQ := Lib.hid (show wv.ownsRow w4.heap.size 47 2 (.slice (some ⟨qq, 0, none⟩) np qc) np (ql.flatMap encS) by have h := TWv.out.ownQ; rw [HNP.out] at h; exact h)
              obtain ⟨d00, d01⟩ := cellsS OQ.out 0 (by omega) _ hx
              obtain ⟨d10, d11⟩ := cellsS OQ.out b hbl _ hy
              simp only [Nat.zero_mul, Nat.zero_add] at d00 d01
              have SWQ := Lib.hid (TWv.out.swQ HNP.out Z34 HBv.out b hbl0 hbl _ _ hx hy)
              obtain ⟨ql', hql'⟩ : ∃ ql', swapL ql b hbl0 hbl = ql' := ⟨_, rfl⟩
              rw [hql'] at SWQ
              have ezq := EZ.out _ HBv.out
              have hb0 : (0 : Int) ≤ (b : Int) := by omega
              have hb1 : (b : Int) < (np : Int) := by omega
              have hbb : (0 : Int) < (np : Int) := by omega
              have HPBH := Lib.hid HPB'
              clear hql' hx hy HPB' hql
              dsimp only at d00 d01 d10 d11
              go_wp2_with fail
              refine (HPBH.out _).mono ?_
              rintro e w6 ⟨rfl, rfl⟩
              have K0 := OQ.out.frozenAt 0
              have K1 := OQ.out.frozenAt 1
              have L0 := OQ.out.frozenAt (b * 2)
              have L1 := OQ.out.frozenAt (b * 2 + 1)
              go_wp2
              rcases Nat.eq_zero_or_pos b with hb | hb
              · have hf : b * 2 = 0 := by omega
                rw [hf] at d10 d11 L0 L1
                simp only [Nat.zero_add] at d11 L1
                have hxa : sa = pa := by rw [d00] at d10; injection d10 with h; injection h with _ h; exact h.symm
                have hxr : sr = pr := by rw [d01] at d11; injection d11 with h; injection h with _ h; exact h.symm
                subst hxa hxr
                clear d10 d11 L0 L1
                go_region
                obtain ⟨wq, hwq⟩ : ∃ wq : World, wq = ((((wv.setCell ⟨qq, 0, none⟩ (.int .i64 sa)).setCell ⟨qq, 1, none⟩ (.int .i64 sr)).setCell ⟨qq, 0, none⟩ (.int .i64 sa)).setCell ⟨qq, 1, none⟩ (.int .i64 sr)).drew := ⟨_, rfl⟩
                have hsw : Rows2 w3.heap.size w4.heap.size us ps (.slice (some ⟨gg, 0, none⟩) n vc) (.slice (some ⟨qq, 0, none⟩) np qc) wq vl' ql' ∧ Below w3.heap.size w3 wq := by rw [hwq]; exact SWQ.out 0 hf
                rw [← hwq]
                have TWq := Lib.hid hsw.1
                have HBq := Lib.hid hsw.2
                clear hwq K0 K1 d00 d01 hf ezq hsw SWQ OQ
                go_wp2
                go_roundw
                case rel => exact ⟨m + 1, vl', ql', by omega, by omega, by go_num, TWq.out, HBq.out⟩
                case measure => simp [intOf]; omega
              · obtain ⟨f2, hf2⟩ : ∃ f, b * 2 = f + 2 := ⟨(b - 1) * 2, by omega⟩
                rw [hf2] at d10 d11 L0 L1
                simp only [Nat.add_assoc, Nat.reduceAdd] at d11 L1
                go_region
                obtain ⟨wq, hwq⟩ : ∃ wq : World, wq = ((((wv.setCell ⟨qq, 0, none⟩ (.int .i64 sa)).setCell ⟨qq, 1, none⟩ (.int .i64 sr)).setCell ⟨qq, f2 + 2, none⟩ (.int .i64 pa)).setCell ⟨qq, f2 + 2 + 1, none⟩ (.int .i64 pr)).drew := ⟨_, rfl⟩
                have hsw : Rows2 w3.heap.size w4.heap.size us ps (.slice (some ⟨gg, 0, none⟩) n vc) (.slice (some ⟨qq, 0, none⟩) np qc) wq vl' ql' ∧ Below w3.heap.size w3 wq := by rw [hwq]; exact SWQ.out (f2 + 2) hf2
                rw [← hwq]
                have TWq := Lib.hid hsw.1
                have HBq := Lib.hid hsw.2
                clear hwq K0 K1 d00 d01 d10 d11 L0 L1 hf2 ezq hsw SWQ OQ
                go_wp2
                go_roundw
                case rel => exact ⟨m + 1, vl', ql', by omega, by omega, by go_num, TWq.out, HBq.out⟩
                case measure => simp [intOf]; omega
            · obtain ⟨f, hf⟩ : ∃ f, a * 4 = f + 4 := ⟨(a - 1) * 4, by omega⟩
              rw [hf] at c10 c11 c12 c13 G0 G1 G2 G3
              simp only [Nat.add_assoc, Nat.reduceAdd] at c11 c12 c13 G1 G2 G3
              go_region
              obtain ⟨wv, hwv⟩ : ∃ wv : World, wv = ((((((((wk.setCell ⟨gg, 0, none⟩ (.int .i64 ya)).setCell ⟨gg, 1, none⟩ (.int .i64 yr)).setCell ⟨gg, 2, none⟩ (.int .i64 yv)).setCell ⟨gg, 3, none⟩ (.int .i64 yh)).setCell ⟨gg, f + 4, none⟩ (.int .i64 xa)).setCell ⟨gg, f + 4 + 1, none⟩ (.int .i64 xr)).setCell ⟨gg, f + 4 + 2, none⟩ (.int .i64 xv)).setCell ⟨gg, f + 4 + 3, none⟩ (.int .i64 xh)).drew := ⟨_, rfl⟩
              have hsw : Rows2 w3.heap.size w4.heap.size us ps (.slice (some ⟨gg, 0, none⟩) n vc) (.slice qo np qc) wv vl' ql ∧ Below w3.heap.size w3 wv := by rw [hwv]; exact SWP.out (f + 4) hf
              rw [← hwv]
              clear hwv F0 F1 F2 F3 c00 c01 c02 c03 c10 c11 c12 c13 G0 G1 G2 G3 hf ez
              have TWv := Lib.hid hsw.1
              have HBv := Lib.hid hsw.2
              clear hsw SWP OV
              obtain ⟨b, hbn, HPB'⟩ := PK.out np hp0 (by omega)
              obtain ⟨qq, cq, hqq, hqg⟩ := TWv.out.blockQ HNP.out hp0
              cases hqq
              have hql : ql.length = np := by rw [TWv.out.lenQ, HNP.out]
              have hbl : b < ql.length := by omega
              have hbl0 : 0 < ql.length := by omega
              obtain ⟨x, hx⟩ : ∃ x, ql[0] = x := ⟨_, rfl⟩
              obtain ⟨y, hy⟩ : ∃ y, ql[b] = y := ⟨_, rfl⟩
              obtain ⟨pa, pr⟩ := x
              obtain ⟨sa, sr⟩ := y
              have OQ := Lib.hid (show wv.ownsRow w4.heap.size 47 2 (.slice (some ⟨qq, 0, none⟩) np qc) np (ql.flatMap encS) by have h := TWv.out.ownQ; rw [HNP.out] at h; exact h)
              obtain ⟨d00, d01⟩ := cellsS OQ.out 0 (by omega) _ hx
              obtain ⟨d10, d11⟩ := cellsS OQ.out b hbl _ hy
              simp only [Nat.zero_mul, Nat.zero_add] at d00 d01
              have SWQ := Lib.hid (TWv.out.swQ HNP.out Z34 HBv.out b hbl0 hbl _ _ hx hy)
              obtain ⟨ql', hql'⟩ : ∃ ql', swapL ql b hbl0 hbl = ql' := ⟨_, rfl⟩
              rw [hql'] at SWQ
              have ezq := EZ.out _ HBv.out
              have hb0 : (0 : Int) ≤ (b : Int) := by omega
              have hb1 : (b : Int) < (np : Int) := by omega
              have hbb : (0 : Int) < (np : Int) := by omega
              have HPBH := Lib.hid HPB'
              clear hql' hx hy HPB' hql
              dsimp only at d00 d01 d10 d11
              go_wp2_with fail
              refine (HPBH.out _).mono ?_
              rintro e w6 ⟨rfl, rfl⟩
              have K0 := OQ.out.frozenAt 0
              have K1 := OQ.out.frozenAt 1
              have L0 := OQ.out.frozenAt (b * 2)
              have L1 := OQ.out.frozenAt (b * 2 + 1)
              go_wp2
              rcases Nat.eq_zero_or_pos b with hb | hb
              · have hf : b * 2 = 0 := by omega
                rw [hf] at d10 d11 L0 L1
                simp only [Nat.zero_add] at d11 L1
                have hxa : sa = pa := by rw [d00] at d10; injection d10 with h; injection h with _ h; exact h.symm
                have hxr : sr = pr := by rw [d01] at d11; injection d11 with h; injection h with _ h; exact h.symm
                subst hxa hxr
                clear d10 d11 L0 L1
                go_region
                obtain ⟨wq, hwq⟩ : ∃ wq : World, wq = ((((wv.setCell ⟨qq, 0, none⟩ (.int .i64 sa)).setCell ⟨qq, 1, none⟩ (.int .i64 sr)).setCell ⟨qq, 0, none⟩ (.int .i64 sa)).setCell ⟨qq, 1, none⟩ (.int .i64 sr)).drew := ⟨_, rfl⟩
                have hsw : Rows2 w3.heap.size w4.heap.size us ps (.slice (some ⟨gg, 0, none⟩) n vc) (.slice (some ⟨qq, 0, none⟩) np qc) wq vl' ql' ∧ Below w3.heap.size w3 wq := by rw [hwq]; exact SWQ.out 0 hf
                rw [← hwq]
                have TWq := Lib.hid hsw.1
                have HBq := Lib.hid hsw.2
                clear hwq K0 K1 d00 d01 hf ezq hsw SWQ OQ
                go_wp2
                go_roundw
                case rel => exact ⟨m + 1, vl', ql', by omega, by omega, by go_num, TWq.out, HBq.out⟩
                case measure => simp [intOf]; omega
              · obtain ⟨f2, hf2⟩ : ∃ f, b * 2 = f + 2 := ⟨(b - 1) * 2, by omega⟩
                rw [hf2] at d10 d11 L0 L1
                simp only [Nat.add_assoc, Nat.reduceAdd] at d11 L1
                go_region
                obtain ⟨wq, hwq⟩ : ∃ wq : World, wq = ((((wv.setCell ⟨qq, 0, none⟩ (.int .i64 sa)).setCell ⟨qq, 1, none⟩ (.int .i64 sr)).setCell ⟨qq, f2 + 2, none⟩ (.int .i64 pa)).setCell ⟨qq, f2 + 2 + 1, none⟩ (.int .i64 pr)).drew := ⟨_, rfl⟩
                have hsw : Rows2 w3.heap.size w4.heap.size us ps (.slice (some ⟨gg, 0, none⟩) n vc) (.slice (some ⟨qq, 0, none⟩) np qc) wq vl' ql' ∧ Below w3.heap.size w3 wq := by rw [hwq]; exact SWQ.out (f2 + 2) hf2
                rw [← hwq]
                have TWq := Lib.hid hsw.1
                have HBq := Lib.hid hsw.2
                clear hwq K0 K1 d00 d01 d10 d11 L0 L1 hf2 ezq hsw SWQ OQ
                go_wp2
                go_roundw
                case rel => exact ⟨m + 1, vl', ql', by omega, by omega, by go_num, TWq.out, HBq.out⟩
                case measure => simp [intOf]; omega
      · skip
        rcases Nat.eq_zero_or_pos n with hn0 | hn0
        · have hn0' : ¬ (0 : Int) < (n : Int) := by omega
          have RD := Lib.hid (ready_plain TW.out HN.out HNP.out HSM.out HPB.out.2 HB.out)
          clear hn0
          have h60u : us.length ≤ 60 := by rw [HN.out]; omega
          obtain ⟨hl1, hl2, hl3⟩ := order_law T h60u HSM.out RD.out.small RD.out.weq RD.out.alike
          have hA0 := user_leno h60u (l := ps) (by rw [HNP.out]; exact hpl)
          have hM0 := pro_leno h60u T
          obtain ⟨A, hA⟩ : ∃ A, tidyL (userA us ps).1 = A := ⟨_, rfl⟩
          obtain ⟨na, hna⟩ : ∃ na, A.length = na := ⟨_, rfl⟩
          obtain ⟨r, hr⟩ : ∃ r, (userA us ps).2 = r := ⟨_, rfl⟩
          obtain ⟨M, hM⟩ : ∃ M, proL T us = M := ⟨_, rfl⟩
          obtain ⟨nm, hnm⟩ : ∃ nm, M.length = nm := ⟨_, rfl⟩
          rw [hA] at hl1 hA0
          rw [hr] at hl2
          rw [hM] at hl3 hM0
          rw [hna] at hA0
          rw [hnm] at hM0
          have HA := Lib.hid hA
          have HNA := Lib.hid hna
          have HR := Lib.hid hr
          have HM := Lib.hid hM
          have HNM := Lib.hid hnm
          have HL1 := Lib.hid hl1
          have HL2 := Lib.hid hl2
          have HL3 := Lib.hid hl3
          have hrr : (r == r) = true := by simp
          clear hA hna hr hM hnm hl1 hl2 hl3 h60u
          go_wp2_with fail
          refine (usr_o HNP.out hpl HPB.out.2 (RP3.out.later RD.out.below) HN.out (by omega) HFU.out (RU3.out.later RD.out.below) A na r HA.out HNA.out HR.out).mono ?_
          rintro e w8 ⟨ao, ac, rfl, hA8, hb8⟩
          have A8 := Lib.hid hA8
          have B8 := Lib.hid hb8
          clear hA8 hb8
          go_wp2_with fail
          refine (usr_o RD.out.lenQ hpl RD.out.s64 (RD.out.rowQ.later B8.out) RD.out.lenV (by omega) (small_U64 RD.out.small) (RD.out.rowV.later B8.out) A na r HL1.out HNA.out HL2.out).mono ?_
          rintro e w9 ⟨bo, bc, rfl, hA9, hb9⟩
          have C9 := Lib.hid hA9
          have A9 := Lib.hid (A8.out.later hb9)
          have B9 := Lib.hid (bch B8.out hb9 B8.out.size)
          clear hA9 hb9
          go_wp2_with fail
          refine (same_o (t := A) A9.out C9.out HNA.out (by omega)).mono ?_
          rintro e w10 ⟨rfl, hb10⟩
          have B10 := Lib.hid (bch B9.out hb10 B9.out.size)
          clear hb10
          go_wp2_with fail
          refine (pro_o T HN.out (by omega) HFU.out (RU3.out.later (bch RD.out.below B10.out RD.out.below.size)) M nm HM.out HNM.out).mono ?_
          rintro e w11 ⟨mo, mc, rfl, hM11, hb11⟩
          have M11 := Lib.hid hM11
          have B11 := Lib.hid (bch B10.out hb11 B10.out.size)
          clear hM11 hb11
          go_wp2_with fail
          refine (pro_o T RD.out.lenV (by omega) (small_U64 RD.out.small) (RD.out.rowV.later B11.out) M nm HL3.out HNM.out).mono ?_
          rintro e w12 ⟨lo, lc, rfl, hM12, hb12⟩
          have L12 := Lib.hid hM12
          have M12 := Lib.hid (M11.out.later hb12)
          have B12 := Lib.hid (bch B11.out hb12 B11.out.size)
          clear hM12 hb12
          go_wp2_with fail
          refine (same_o (t := M) M12.out L12.out HNM.out (by omega)).mono ?_
          rintro e w13 ⟨rfl, hb13⟩
          have B13 := Lib.hid (bch B12.out hb13 B12.out.size)
          clear hb13
          go_wp2
          go_ret
          exact ⟨rfl, bch BW3.out (bch RD.out.below B13.out RD.out.below.size) BW3.out.size⟩
        · have hn0' : (0 : Int) < (n : Int) := by omega
          obtain ⟨kk, hkn, HKK⟩ : ∃ a : Nat, a < n ∧ ∀ W, Calls Try.prog 17 #[.int .i64 k, .int .i64 n] W fun e w' => e = .returned (.int .i64 a) ∧ W = w' := ⟨(pickZ k n).toNat, by have := pickZ_lo k n (by omega); have := pickZ_hi k n (by omega); omega, fun W => by have h := pick_any k n W HK.out.1 HK.out.2 (by omega) (by omega); rw [show ((pickZ k n).toNat : Int) = pickZ k n by have := pickZ_lo k n (by omega); omega]; exact h⟩
          obtain ⟨gg, cc, hvv, hgg⟩ := TW.out.blockV HN.out hn0
          cases hvv
          have hvl : vl.length = n := by rw [TW.out.lenV, HN.out]
          have hkl : kk < vl.length := by omega
          have SMV := Lib.hid (show SmallU vl from fun u hu => HSM.out u (TW.out.memV u hu))
          obtain ⟨x, hx⟩ : ∃ x, vl[kk] = x := ⟨_, rfl⟩
          have hsx := SMV.out _ (List.getElem_mem hkl)
          rw [hx] at hsx
          obtain ⟨xa, xr, xv, xh⟩ := x
          have OV := Lib.hid (show wk.ownsRow w3.heap.size 42 4 (.slice (some ⟨gg, 0, none⟩) n vc) n (vl.flatMap encU) by have h := TW.out.ownV; rw [HN.out] at h; exact h)
          obtain ⟨c0, c1, c2, c3⟩ := cellsU OV.out kk hkl _ hx
          have hgl := (owns_ltK OV.out gg rfl).2
          have F2 := OV.out.frozenAt (kk * 4 + 2)
          have F3 := OV.out.frozenAt (kk * 4 + 3)
          have hk0 : (0 : Int) ≤ (kk : Int) := by omega
          have hk1 : (kk : Int) < (n : Int) := by omega
          dsimp only at hsx c0 c1 c2 c3
          obtain ⟨⟨_, _⟩, ⟨_, _⟩, ⟨hxv0, hxv1⟩, hxh0, hxh1⟩ := hsx
          have HKKH := Lib.hid HKK
          have HX := Lib.hid hx
          clear HKK hx hvl
          go_wp2_with fail
          refine (HKKH.out _).mono ?_
          rintro e w6 ⟨rfl, rfl⟩
          have HPART := Lib.hid (TW.out.part HN.out HB.out (Nat.le_refl _) kk hkl _ HX.out (xv - xv / 2) (xh - xh / 3) (.cells #[.int .i64 xa, .int .i64 xr, .int .i64 (xv / 2), .int .i64 (xh / 3)] 42))
          go_wp2
          go_region
          go_wp2
          go_region
          obtain ⟨wq, hwq⟩ : ∃ wq : World, wq = (((wk.setCell ⟨gg, kk * 4 + 2, none⟩ (.int .i64 (xv - xv / 2))).setCell ⟨gg, kk * 4 + 3, none⟩ (.int .i64 (xh - xh / 3))).alloc (.cells #[.int .i64 xa, .int .i64 xr, .int .i64 (xv / 2), .int .i64 (xh / 3)] 42)).drew.drew := ⟨_, rfl⟩
          obtain ⟨hpV, hpQ, hpB⟩ := HPART.out wq hwq
          obtain ⟨sz, hsz⟩ : ∃ sz, wk.heap.size = sz := ⟨_, rfl⟩
          have d0 : wq.cell? ⟨sz, 0, none⟩ = some (.int .i64 xa) := by rw [hwq]; exact cell_box _ _ _ 0 _ rfl _ (by simpa using hsz)
          have d1 : wq.cell? ⟨sz, 1, none⟩ = some (.int .i64 xr) := by rw [hwq]; exact cell_box _ _ _ 1 _ rfl _ (by simpa using hsz)
          have d2 : wq.cell? ⟨sz, 2, none⟩ = some (.int .i64 (xv / 2)) := by rw [hwq]; exact cell_box _ _ _ 2 _ rfl _ (by simpa using hsz)
          have d3 : wq.cell? ⟨sz, 3, none⟩ = some (.int .i64 (xh / 3)) := by rw [hwq]; exact cell_box _ _ _ 3 _ rfl _ (by simpa using hsz)
          have PV := Lib.hid hpV
          have PQ := Lib.hid hpQ
          have PB := Lib.hid hpB
          rw [← hwq, hsz]
          clear hwq hsz hpV hpQ hpB HPART c0 c1 c2 c3 F2 F3 OV
          go_wp2_with (at_builtin; refine wpList_append_own _ rfl (.tmp 142) (.tmp 144) 22 rfl w3.heap.size 42 i0 (.agg #[.int .i64 0, .int .i64 0, .int .i64 0, .int .i64 0]) 4 32 Try.underlying22 hi hz0 hz1 hz2 rfl (by decide) _ _ _ rfl (PV.out.alloc _) ⟨wq.heap.size, 0, none⟩ 1 1 (encU ⟨xa, xr, xv / 2, xh / 3⟩) rfl rfl (cells_at _ _ _ _ rfl) (encU_one _) (by unfold maxLen; omega) (by omega) (by have := PB.out.size; simp; omega) ?_; intro v' w7 own gr _h; obtain ⟨vo2, vc2, rfl, hrd⟩ := ready_parted TW.out HN.out HNP.out HSM.out HPB.out.2 hkl HX.out PQ.out PB.out PV.out own gr; have RD := Lib.hid hrd; clear own gr _h hrd)
          have h60u : us.length ≤ 60 := by rw [HN.out]; omega
          obtain ⟨hl1, hl2, hl3⟩ := order_law T h60u HSM.out RD.out.small RD.out.weq RD.out.alike
          have hA0 := user_leno h60u (l := ps) (by rw [HNP.out]; exact hpl)
          have hM0 := pro_leno h60u T
          obtain ⟨A, hA⟩ : ∃ A, tidyL (userA us ps).1 = A := ⟨_, rfl⟩
          obtain ⟨na, hna⟩ : ∃ na, A.length = na := ⟨_, rfl⟩
          obtain ⟨r, hr⟩ : ∃ r, (userA us ps).2 = r := ⟨_, rfl⟩
          obtain ⟨M, hM⟩ : ∃ M, proL T us = M := ⟨_, rfl⟩
          obtain ⟨nm, hnm⟩ : ∃ nm, M.length = nm := ⟨_, rfl⟩
          rw [hA] at hl1 hA0
          rw [hr] at hl2
          rw [hM] at hl3 hM0
          rw [hna] at hA0
          rw [hnm] at hM0
          have HA := Lib.hid hA
          have HNA := Lib.hid hna
          have HR := Lib.hid hr
          have HM := Lib.hid hM
          have HNM := Lib.hid hnm
          have HL1 := Lib.hid hl1
          have HL2 := Lib.hid hl2
          have HL3 := Lib.hid hl3
          have hrr : (r == r) = true := by simp
          clear hA hna hr hM hnm hl1 hl2 hl3 h60u
          go_wp2_with fail
          refine (usr_o HNP.out hpl HPB.out.2 (RP3.out.later RD.out.below) HN.out (by omega) HFU.out (RU3.out.later RD.out.below) A na r HA.out HNA.out HR.out).mono ?_
          rintro e w8 ⟨ao, ac, rfl, hA8, hb8⟩
          have A8 := Lib.hid hA8
          have B8 := Lib.hid hb8
          clear hA8 hb8
          go_wp2_with fail
          refine (usr_o RD.out.lenQ hpl RD.out.s64 (RD.out.rowQ.later B8.out) RD.out.lenV (by omega) (small_U64 RD.out.small) (RD.out.rowV.later B8.out) A na r HL1.out HNA.out HL2.out).mono ?_
          rintro e w9 ⟨bo, bc, rfl, hA9, hb9⟩
          have C9 := Lib.hid hA9
          have A9 := Lib.hid (A8.out.later hb9)
          have B9 := Lib.hid (bch B8.out hb9 B8.out.size)
          clear hA9 hb9
          go_wp2_with fail
          refine (same_o (t := A) A9.out C9.out HNA.out (by omega)).mono ?_
          rintro e w10 ⟨rfl, hb10⟩
          have B10 := Lib.hid (bch B9.out hb10 B9.out.size)
          clear hb10
          go_wp2_with fail
          refine (pro_o T HN.out (by omega) HFU.out (RU3.out.later (bch RD.out.below B10.out RD.out.below.size)) M nm HM.out HNM.out).mono ?_
          rintro e w11 ⟨mo, mc, rfl, hM11, hb11⟩
          have M11 := Lib.hid hM11
          have B11 := Lib.hid (bch B10.out hb11 B10.out.size)
          clear hM11 hb11
          go_wp2_with fail
          refine (pro_o T RD.out.lenV (by omega) (small_U64 RD.out.small) (RD.out.rowV.later B11.out) M nm HL3.out HNM.out).mono ?_
          rintro e w12 ⟨lo, lc, rfl, hM12, hb12⟩
          have L12 := Lib.hid hM12
          have M12 := Lib.hid (M11.out.later hb12)
          have B12 := Lib.hid (bch B11.out hb12 B11.out.size)
          clear hM12 hb12
          go_wp2_with fail
          refine (same_o (t := M) M12.out L12.out HNM.out (by omega)).mono ?_
          rintro e w13 ⟨rfl, hb13⟩
          have B13 := Lib.hid (bch B12.out hb13 B12.out.size)
          clear hb13
          go_wp2
          go_ret
          exact ⟨rfl, bch BW3.out (bch RD.out.below B13.out RD.out.below.size) BW3.out.size⟩
    · skip
      rcases Nat.eq_zero_or_pos n with hn0 | hn0
      · have hn0' : ¬ (0 : Int) < (n : Int) := by omega
        have RD := Lib.hid (ready_plain TW.out HN.out HNP.out HSM.out HPB.out.2 HB.out)
        clear hn0
        have h60u : us.length ≤ 60 := by rw [HN.out]; omega
        obtain ⟨hl1, hl2, hl3⟩ := order_law T h60u HSM.out RD.out.small RD.out.weq RD.out.alike
        have hA0 := user_leno h60u (l := ps) (by rw [HNP.out]; exact hpl)
        have hM0 := pro_leno h60u T
        obtain ⟨A, hA⟩ : ∃ A, tidyL (userA us ps).1 = A := ⟨_, rfl⟩
        obtain ⟨na, hna⟩ : ∃ na, A.length = na := ⟨_, rfl⟩
        obtain ⟨r, hr⟩ : ∃ r, (userA us ps).2 = r := ⟨_, rfl⟩
        obtain ⟨M, hM⟩ : ∃ M, proL T us = M := ⟨_, rfl⟩
        obtain ⟨nm, hnm⟩ : ∃ nm, M.length = nm := ⟨_, rfl⟩
        rw [hA] at hl1 hA0
        rw [hr] at hl2
        rw [hM] at hl3 hM0
        rw [hna] at hA0
        rw [hnm] at hM0
        have HA := Lib.hid hA
        have HNA := Lib.hid hna
        have HR := Lib.hid hr
        have HM := Lib.hid hM
        have HNM := Lib.hid hnm
        have HL1 := Lib.hid hl1
        have HL2 := Lib.hid hl2
        have HL3 := Lib.hid hl3
        have hrr : (r == r) = true := by simp
        clear hA hna hr hM hnm hl1 hl2 hl3 h60u
        go_wp2_with fail
        refine (usr_o HNP.out hpl HPB.out.2 (RP3.out.later RD.out.below) HN.out (by omega) HFU.out (RU3.out.later RD.out.below) A na r HA.out HNA.out HR.out).mono ?_
        rintro e w8 ⟨ao, ac, rfl, hA8, hb8⟩
        have A8 := Lib.hid hA8
        have B8 := Lib.hid hb8
        clear hA8 hb8
        go_wp2_with fail
        refine (usr_o RD.out.lenQ hpl RD.out.s64 (RD.out.rowQ.later B8.out) RD.out.lenV (by omega) (small_U64 RD.out.small) (RD.out.rowV.later B8.out) A na r HL1.out HNA.out HL2.out).mono ?_
        rintro e w9 ⟨bo, bc, rfl, hA9, hb9⟩
        have C9 := Lib.hid hA9
        have A9 := Lib.hid (A8.out.later hb9)
        have B9 := Lib.hid (bch B8.out hb9 B8.out.size)
        clear hA9 hb9
        go_wp2_with fail
        refine (same_o (t := A) A9.out C9.out HNA.out (by omega)).mono ?_
        rintro e w10 ⟨rfl, hb10⟩
        have B10 := Lib.hid (bch B9.out hb10 B9.out.size)
        clear hb10
        go_wp2_with fail
        refine (pro_o T HN.out (by omega) HFU.out (RU3.out.later (bch RD.out.below B10.out RD.out.below.size)) M nm HM.out HNM.out).mono ?_
        rintro e w11 ⟨mo, mc, rfl, hM11, hb11⟩
        have M11 := Lib.hid hM11
        have B11 := Lib.hid (bch B10.out hb11 B10.out.size)
        clear hM11 hb11
        go_wp2_with fail
        refine (pro_o T RD.out.lenV (by omega) (small_U64 RD.out.small) (RD.out.rowV.later B11.out) M nm HL3.out HNM.out).mono ?_
        rintro e w12 ⟨lo, lc, rfl, hM12, hb12⟩
        have L12 := Lib.hid hM12
        have M12 := Lib.hid (M11.out.later hb12)
        have B12 := Lib.hid (bch B11.out hb12 B11.out.size)
        clear hM12 hb12
        go_wp2_with fail
        refine (same_o (t := M) M12.out L12.out HNM.out (by omega)).mono ?_
        rintro e w13 ⟨rfl, hb13⟩
        have B13 := Lib.hid (bch B12.out hb13 B12.out.size)
        clear hb13
        go_wp2
        go_ret
        exact ⟨rfl, bch BW3.out (bch RD.out.below B13.out RD.out.below.size) BW3.out.size⟩
      · have hn0' : (0 : Int) < (n : Int) := by omega
        obtain ⟨kk, hkn, HKK⟩ : ∃ a : Nat, a < n ∧ ∀ W, Calls Try.prog 17 #[.int .i64 k, .int .i64 n] W fun e w' => e = .returned (.int .i64 a) ∧ W = w' := ⟨(pickZ k n).toNat, by have := pickZ_lo k n (by omega); have := pickZ_hi k n (by omega); omega, fun W => by have h := pick_any k n W HK.out.1 HK.out.2 (by omega) (by omega); rw [show ((pickZ k n).toNat : Int) = pickZ k n by have := pickZ_lo k n (by omega); omega]; exact h⟩
        obtain ⟨gg, cc, hvv, hgg⟩ := TW.out.blockV HN.out hn0
        cases hvv
        have hvl : vl.length = n := by rw [TW.out.lenV, HN.out]
        have hkl : kk < vl.length := by omega
        have SMV := Lib.hid (show SmallU vl from fun u hu => HSM.out u (TW.out.memV u hu))
        obtain ⟨x, hx⟩ : ∃ x, vl[kk] = x := ⟨_, rfl⟩
        have hsx := SMV.out _ (List.getElem_mem hkl)
        rw [hx] at hsx
        obtain ⟨xa, xr, xv, xh⟩ := x
        have OV := Lib.hid (show wk.ownsRow w3.heap.size 42 4 (.slice (some ⟨gg, 0, none⟩) n vc) n (vl.flatMap encU) by have h := TW.out.ownV; rw [HN.out] at h; exact h)
        obtain ⟨c0, c1, c2, c3⟩ := cellsU OV.out kk hkl _ hx
        have hgl := (owns_ltK OV.out gg rfl).2
        have F2 := OV.out.frozenAt (kk * 4 + 2)
        have F3 := OV.out.frozenAt (kk * 4 + 3)
        have hk0 : (0 : Int) ≤ (kk : Int) := by omega
        have hk1 : (kk : Int) < (n : Int) := by omega
        dsimp only at hsx c0 c1 c2 c3
        obtain ⟨⟨_, _⟩, ⟨_, _⟩, ⟨hxv0, hxv1⟩, hxh0, hxh1⟩ := hsx
        have HKKH := Lib.hid HKK
        have HX := Lib.hid hx
        clear HKK hx hvl
        go_wp2_with fail
        refine (HKKH.out _).mono ?_
        rintro e w6 ⟨rfl, rfl⟩
        have HPART := Lib.hid (TW.out.part HN.out HB.out (Nat.le_refl _) kk hkl _ HX.out (xv - xv / 2) (xh - xh / 3) (.cells #[.int .i64 xa, .int .i64 xr, .int .i64 (xv / 2), .int .i64 (xh / 3)] 42))
        go_wp2
        go_region
        go_wp2
        go_region
        obtain ⟨wq, hwq⟩ : ∃ wq : World, wq = (((wk.setCell ⟨gg, kk * 4 + 2, none⟩ (.int .i64 (xv - xv / 2))).setCell ⟨gg, kk * 4 + 3, none⟩ (.int .i64 (xh - xh / 3))).alloc (.cells #[.int .i64 xa, .int .i64 xr, .int .i64 (xv / 2), .int .i64 (xh / 3)] 42)).drew.drew := ⟨_, rfl⟩
        obtain ⟨hpV, hpQ, hpB⟩ := HPART.out wq hwq
        obtain ⟨sz, hsz⟩ : ∃ sz, wk.heap.size = sz := ⟨_, rfl⟩
        have d0 : wq.cell? ⟨sz, 0, none⟩ = some (.int .i64 xa) := by rw [hwq]; exact cell_box _ _ _ 0 _ rfl _ (by simpa using hsz)
        have d1 : wq.cell? ⟨sz, 1, none⟩ = some (.int .i64 xr) := by rw [hwq]; exact cell_box _ _ _ 1 _ rfl _ (by simpa using hsz)
        have d2 : wq.cell? ⟨sz, 2, none⟩ = some (.int .i64 (xv / 2)) := by rw [hwq]; exact cell_box _ _ _ 2 _ rfl _ (by simpa using hsz)
        have d3 : wq.cell? ⟨sz, 3, none⟩ = some (.int .i64 (xh / 3)) := by rw [hwq]; exact cell_box _ _ _ 3 _ rfl _ (by simpa using hsz)
        have PV := Lib.hid hpV
        have PQ := Lib.hid hpQ
        have PB := Lib.hid hpB
        rw [← hwq, hsz]
        clear hwq hsz hpV hpQ hpB HPART c0 c1 c2 c3 F2 F3 OV
        go_wp2_with (at_builtin; refine wpList_append_own _ rfl (.tmp 142) (.tmp 144) 22 rfl w3.heap.size 42 i0 (.agg #[.int .i64 0, .int .i64 0, .int .i64 0, .int .i64 0]) 4 32 Try.underlying22 hi hz0 hz1 hz2 rfl (by decide) _ _ _ rfl (PV.out.alloc _) ⟨wq.heap.size, 0, none⟩ 1 1 (encU ⟨xa, xr, xv / 2, xh / 3⟩) rfl rfl (cells_at _ _ _ _ rfl) (encU_one _) (by unfold maxLen; omega) (by omega) (by have := PB.out.size; simp; omega) ?_; intro v' w7 own gr _h; obtain ⟨vo2, vc2, rfl, hrd⟩ := ready_parted TW.out HN.out HNP.out HSM.out HPB.out.2 hkl HX.out PQ.out PB.out PV.out own gr; have RD := Lib.hid hrd; clear own gr _h hrd)
        have h60u : us.length ≤ 60 := by rw [HN.out]; omega
        obtain ⟨hl1, hl2, hl3⟩ := order_law T h60u HSM.out RD.out.small RD.out.weq RD.out.alike
        have hA0 := user_leno h60u (l := ps) (by rw [HNP.out]; exact hpl)
        have hM0 := pro_leno h60u T
        obtain ⟨A, hA⟩ : ∃ A, tidyL (userA us ps).1 = A := ⟨_, rfl⟩
        obtain ⟨na, hna⟩ : ∃ na, A.length = na := ⟨_, rfl⟩
        obtain ⟨r, hr⟩ : ∃ r, (userA us ps).2 = r := ⟨_, rfl⟩
        obtain ⟨M, hM⟩ : ∃ M, proL T us = M := ⟨_, rfl⟩
        obtain ⟨nm, hnm⟩ : ∃ nm, M.length = nm := ⟨_, rfl⟩
        rw [hA] at hl1 hA0
        rw [hr] at hl2
        rw [hM] at hl3 hM0
        rw [hna] at hA0
        rw [hnm] at hM0
        have HA := Lib.hid hA
        have HNA := Lib.hid hna
        have HR := Lib.hid hr
        have HM := Lib.hid hM
        have HNM := Lib.hid hnm
        have HL1 := Lib.hid hl1
        have HL2 := Lib.hid hl2
        have HL3 := Lib.hid hl3
        have hrr : (r == r) = true := by simp
        clear hA hna hr hM hnm hl1 hl2 hl3 h60u
        go_wp2_with fail
        refine (usr_o HNP.out hpl HPB.out.2 (RP3.out.later RD.out.below) HN.out (by omega) HFU.out (RU3.out.later RD.out.below) A na r HA.out HNA.out HR.out).mono ?_
        rintro e w8 ⟨ao, ac, rfl, hA8, hb8⟩
        have A8 := Lib.hid hA8
        have B8 := Lib.hid hb8
        clear hA8 hb8
        go_wp2_with fail
        refine (usr_o RD.out.lenQ hpl RD.out.s64 (RD.out.rowQ.later B8.out) RD.out.lenV (by omega) (small_U64 RD.out.small) (RD.out.rowV.later B8.out) A na r HL1.out HNA.out HL2.out).mono ?_
        rintro e w9 ⟨bo, bc, rfl, hA9, hb9⟩
        have C9 := Lib.hid hA9
        have A9 := Lib.hid (A8.out.later hb9)
        have B9 := Lib.hid (bch B8.out hb9 B8.out.size)
        clear hA9 hb9
        go_wp2_with fail
        refine (same_o (t := A) A9.out C9.out HNA.out (by omega)).mono ?_
        rintro e w10 ⟨rfl, hb10⟩
        have B10 := Lib.hid (bch B9.out hb10 B9.out.size)
        clear hb10
        go_wp2_with fail
        refine (pro_o T HN.out (by omega) HFU.out (RU3.out.later (bch RD.out.below B10.out RD.out.below.size)) M nm HM.out HNM.out).mono ?_
        rintro e w11 ⟨mo, mc, rfl, hM11, hb11⟩
        have M11 := Lib.hid hM11
        have B11 := Lib.hid (bch B10.out hb11 B10.out.size)
        clear hM11 hb11
        go_wp2_with fail
        refine (pro_o T RD.out.lenV (by omega) (small_U64 RD.out.small) (RD.out.rowV.later B11.out) M nm HL3.out HNM.out).mono ?_
        rintro e w12 ⟨lo, lc, rfl, hM12, hb12⟩
        have L12 := Lib.hid hM12
        have M12 := Lib.hid (M11.out.later hb12)
        have B12 := Lib.hid (bch B11.out hb12 B11.out.size)
        clear hM12 hb12
        go_wp2_with fail
        refine (same_o (t := M) M12.out L12.out HNM.out (by omega)).mono ?_
        rintro e w13 ⟨rfl, hb13⟩
        have B13 := Lib.hid (bch B12.out hb13 B12.out.size)
        clear hb13
        go_wp2
        go_ret
        exact ⟨rfl, bch BW3.out (bch RD.out.below B13.out RD.out.below.size) BW3.out.size⟩

end Go.Proofs.Ytbkmcncakpmgkaa.allocateOrder
