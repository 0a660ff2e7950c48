import Derived.Test.YtgbnhngaeefmkaaNw
import Derived.Test.YtgbnhngaeefmkaaOpnG

/-! DataflowFromNothing: the walk. -/
namespace Go.Proofs.Ytgbnhngaeefmkaa
set_option linter.unusedVariables false
set_option linter.unusedSimpArgs false
open Go.RowKit

namespace dataflowFromNothing

set_option maxRecDepth 100000 in
set_option maxHeartbeats 8000000 in
theorem walk (a0 : Option Addr) (ln0 cap0 : Nat) (gs : List GateV) (a1 : Option Addr) (ln1 cap1 : Nat) (ss : List (Int × Int × Int)) (W : World) (hg : GatesK W gs a0 ln0) (hl : ss.length = ln1) (hbig : ln1 ≤ 9223372036854775807) (hrow : RowK 3 encZ3 W a1 ss) (hok : ∀ s ∈ ss, I64 s.1 ∧ I64 s.2.1 ∧ I64 s.2.2) :
    Calls Try.prog 4 #[.slice a0 ln0 cap0, .slice a1 ln1 cap1] W fun e w' => e = .returned (.bool true) ∧ Below W.heap.size W w' := by
  have HG := Lib.hid hg
  have HL := Lib.hid hl
  have HR := Lib.hid hrow
  have HOK := Lib.hid hok
  clear hg hl hrow hok
  obtain ⟨m, hm⟩ : ∃ m, min ln0 12 = m := ⟨_, rfl⟩
  have hm12 : m ≤ 12 := by omega
  have hmln : m ≤ ln0 := by omega
  go_enter Try.func4, Try.ntmps4
  go_wp2_with (first
    | (go_at_call 8; refine (sane_any _).mono ?_; rintro e w1 ⟨rfl, hb1⟩; have B1 := Lib.hid hb1; have NC := Lib.hid (network_calls (cap := cap0) (HG.out.later hb1)); clear hb1)
    | (go_at_call 28; refine NC.out.mono ?_; rintro e w2 ⟨no, nc, nvs, rfl, hn2, hb2⟩; rw [hm] at hn2 ⊢; have N2 := Lib.hid hn2; have B2 := Lib.hid (B1.out.trans (hb2.mono B1.out.size)); have BC := Lib.hid (built_any w2 gs a0 ln0 cap0 (HG.out.later B2.out) no m nc nvs hn2); clear hn2 hb2)
    | (go_at_call 29; refine BC.out.mono ?_; rintro e w3 ⟨f, ib, rfl, hs3, hbk, hib⟩; have S3 := Lib.hid hs3; have BK := Lib.hid hbk; clear hs3 hbk))
  have GW := Lib.hid (HG.out.later B2.out)
  have hgl : m ≤ gs.length := by rw [HG.out.len]; exact hmln
  have F0 := Lib.hid (show FnI w2 f gs m ib (S0 gs m) [0, 1, 2, 3] w3 from ⟨S3.out, S0_coh hgl, S0_lt gs m, rfl, by decide, fun j hj => by
    show (freshN [0, 1, 2, 3] gs m).getD j 0 = _
    rw [freshN_pre [0, 1, 2, 3] gs m 0 j (by omega) (by simp; omega)]; rfl, BK.out⟩)
  clear S3 BK BC NC
  go_loopw [10] (fun i wr => ∃ (k : Nat) (S : NS) (ins : List Nat), k ≤ ln1 + 1 ∧ k ≤ 21 ∧ i = .int .i64 k ∧ FnI w2 f gs m ib S ins wr) (fun i _ => 21 - (intOf i).toNat)
  case atStart => exact ⟨0, _, _, Nat.zero_le _, by omega, rfl, F0.out⟩
  case round =>
    obtain ⟨k, S, ins, hk, hk20, rfl, hfn⟩ := hrel
    have FN := Lib.hid hfn
    clear hfn
    have k0 : (0 : Int) ≤ (k : Int) := by omega
    have hbw : Below W.heap.size W wr := B2.out.trans (FN.out.st.2.mono B2.out.size)
    by_cases hlt : k ≤ ln1 ∧ k ≤ 20
    · obtain ⟨hlt, h20⟩ := hlt
      have k1 : (k : Int) ≤ (ln1 : Int) := by omega
      have k20 : (k : Int) ≤ 20 := by omega
      by_cases hA1 : k = ln1
      case' pos =>
        have e1 : ((k : Int) == (ln1 : Int)) = true := beq_iff_eq.2 (by omega)
        go_upto_region 15 with (fail)
        have FX := FN
        obtain ⟨wX, rfl⟩ : ∃ wX : World, wX = wr := ⟨_, rfl⟩
      case' neg =>
        have e1 : ((k : Int) == (ln1 : Int)) = false := beq_eq_false_iff_ne.2 (by omega)
        by_cases hA2 : k = 20
        case' pos =>
          have e2 : ((k : Int) == 20) = true := beq_iff_eq.2 (by omega)
          go_upto_region 15 with (fail)
          have FX := FN
          obtain ⟨wX, rfl⟩ : ∃ wX : World, wX = wr := ⟨_, rfl⟩
        case' neg =>
          have e2 : ((k : Int) == 20) = false := beq_eq_false_iff_ne.2 (by omega)
          have hkl : k < ss.length := by rw [HL.out]; omega
          have kl : (k : Int) < (ln1 : Int) := by omega
          obtain ⟨b0, off, rfl, hlb, hce⟩ := HR.out k ss[k] (List.getElem?_eq_getElem hkl)
          obtain ⟨i1, i2, i3⟩ := HOK.out ss[k] (List.getElem_mem hkl)
          have c0 : wr.cell? ⟨b0, off + k * 3, none⟩ = some (.int .i64 ss[k].1) := (hbw.cell (p := ⟨b0, off + k * 3 + 0, none⟩) hlb).trans (hce 0 _ rfl)
          have c1 : wr.cell? ⟨b0, off + k * 3 + 1, none⟩ = some (.int .i64 ss[k].2.1) := (hbw.cell (p := ⟨b0, off + k * 3 + 1, none⟩) hlb).trans (hce 1 _ rfl)
          obtain ⟨z1, hz1⟩ : ∃ z, ss[k].1 = z := ⟨_, rfl⟩
          obtain ⟨z2, hz2⟩ : ∃ z, ss[k].2.1 = z := ⟨_, rfl⟩
          obtain ⟨z3, hz3⟩ : ∃ z, ss[k].2.2 = z := ⟨_, rfl⟩
          have C2 := Lib.hid (show ∀ w, Below W.heap.size W w → w.cell? ⟨b0, off + k * 3 + 2, none⟩ = some (.int .i64 z3) from fun w hb => (hb.cell (p := ⟨b0, off + k * 3 + 2, none⟩) hlb).trans (by rw [hce 2 _ rfl, hz3]))
          rw [hz1] at c0 i1
          rw [hz2] at c1 i2
          rw [hz3] at i3
          obtain ⟨p1, hp1, he1⟩ := pickZ_nat z1 4 (by omega)
          obtain ⟨p2, hp2, he2⟩ := pickZ_nat z2 8 (by omega)
          rw [show ((4 : Nat) : Int) = 4 from rfl] at he1
          rw [show ((8 : Nat) : Int) = 8 from rfl] at he2
          have PK1 := Lib.hid (show ∀ w, Calls Try.prog 12 #[.int .i64 z1, .int .i64 4] w fun e w' => e = .returned (.int .i64 p1) ∧ w = w' from fun w => (pick_any z1 4 w i1.1 i1.2 (by omega) (by omega)).mono fun e w' ⟨q1, q2⟩ => ⟨by rw [q1, he1], q2⟩)
          have PK2 := Lib.hid (show ∀ w, Calls Try.prog 12 #[.int .i64 z2, .int .i64 8] w fun e w' => e = .returned (.int .i64 p2) ∧ w = w' from fun w => (pick_any z2 8 w i2.1 i2.2 (by omega) (by omega)).mono fun e w' ⟨q1, q2⟩ => ⟨by rw [q1, he2], q2⟩)
          have GT := Lib.hid (fun w => gate_at p1 (by omega) w)
          obtain ⟨nm, hnm⟩ : ∃ nm, gName p1 = nm := ⟨_, rfl⟩
          rw [hnm] at GT
          have p10 : (0 : Int) ≤ (p1 : Int) := by omega
          have p14 : (p1 : Int) < 4 := by omega
          have p20 : (0 : Int) ≤ (p2 : Int) := by omega
          have p28 : (p2 : Int) < 8 := by omega
          have ci := InsB.cell FN.out.blk (i := p1) (by rw [FN.out.len]; exact hp1)
          have fi := InsB.frz FN.out.blk p1
          obtain ⟨vs, hvs⟩ : ∃ vs, dig p2 = vs := ⟨_, rfl⟩
          have hsz : (wr.setCell ⟨ib, p1, none⟩ (.int .i64 (p2 : Int))).heap.size = wr.heap.size := by simp
          have cv := conv_at ((((wr.setCell ⟨ib, p1, none⟩ (.int .i64 (p2 : Int))).alloc (.cells #[.int .u8 (97 + (p1 : Int))] 5)).alloc (.cells #[.int .u8 (48 + (p2 : Int))] 5)).drew) (wr.heap.size + 1) (48 + p2) (by omega) (by
            rw [← hsz]
            exact cell_blk (two_allocs (wr.setCell ⟨ib, p1, none⟩ (.int .i64 (p2 : Int))) _ _).2 (by rw [show ((48 + p2 : Nat) : Int) = 48 + (p2 : Int) from by omega]; rfl))
          have cvB := conv_at (((wr.setCell ⟨ib, p1, none⟩ (.int .i64 (p2 : Int))).alloc (.cells #[.int .u8 (48 + (p2 : Int))] 5)).drew) wr.heap.size (48 + p2) (by omega) (by
            rw [← hsz]
            exact cell_blk (World.alloc_heap_new (wr.setCell ⟨ib, p1, none⟩ (.int .i64 (p2 : Int))) _) (by rw [show ((48 + p2 : Nat) : Int) = 48 + (p2 : Int) from by omega]; rfl))
          have cvC := conv_at ((((wr.setCell ⟨ib, p1, none⟩ (.int .i64 (p2 : Int))).alloc (.cells #[.int .u8 (48 + (p2 : Int))] 5)).alloc (.cells #[.int .u8 (97 + (p1 : Int))] 5)).drew) wr.heap.size (48 + p2) (by omega) (by
            rw [← hsz]
            exact cell_blk (two_allocs (wr.setCell ⟨ib, p1, none⟩ (.int .i64 (p2 : Int))) _ _).1 (by rw [show ((48 + p2 : Nat) : Int) = 48 + (p2 : Int) from by omega]; rfl))
          rw [show chr (48 + p2) = vs from hvs] at cv cvB cvC
          have cs : (wr.setCell ⟨ib, p1, none⟩ (.int .i64 (p2 : Int))).cell? ⟨ib, p1, none⟩ = some (.int .i64 (p2 : Int)) := by
            have q := InsB.cell (InsB.set FN.out.blk p1 p2) (i := p1) (by rw [List.length_set, FN.out.len]; exact hp1)
            rw [getD_setN (by rw [FN.out.len]; exact hp1), if_pos rfl] at q; exact q
          have csa := cell_up cs (.cells #[.int .u8 (97 + (p1 : Int))] 5)
          have SET := Lib.hid (FN.out.set hib hm12 hp1 hp2 hnm hvs (((Below.refl _ (wr.setCell ⟨ib, p1, none⟩ (.int .i64 (p2 : Int)))).alloc (Nat.le_refl _) (.cells #[.int .u8 (97 + (p1 : Int))] 5)).alloc (by simp) (.cells #[.int .u8 (48 + (p2 : Int))] 5)).drew)
          have SETB := Lib.hid (FN.out.set hib hm12 hp1 hp2 hnm hvs (((Below.refl _ (wr.setCell ⟨ib, p1, none⟩ (.int .i64 (p2 : Int)))).alloc (Nat.le_refl _) (.cells #[.int .u8 (48 + (p2 : Int))] 5)).alloc (by simp) (.cells #[.int .u8 (97 + (p1 : Int))] 5)).drew)
          have hw1 : IntKind.wrap .i64 (48 + (p2 : Int)) = 48 + (p2 : Int) := by rw [IntKind.wrap_i64]; omega
          have hw2 : IntKind.wrap .u8 (48 + (p2 : Int)) = 48 + (p2 : Int) := by rw [IntKind.wrap_u8]; omega
          clear hce hz1 hz2 hz3 he1 he2 i1 i2 hnm hvs hsz
          go_upto_region 13 with (first
            | (go_at_call 12; first | ((with_reducible refine (PK1.out _).mono ?_); rintro e w' ⟨rfl, rfl⟩) | ((with_reducible refine (PK2.out _).mono ?_); rintro e w' ⟨rfl, rfl⟩)))
          go_cut [] (fun wx => FnI w2 f gs m ib (chgS gs S p1 p2) (ins.set p1 p2) wx)
          case first =>
            go_region_law (first
              | (go_simp; go_at_call 30; (with_reducible refine (GT.out _).mono ?_); rintro e w' ⟨rfl, rfl⟩)
              | (go_simp; go_at_call 13; (first | (with_reducible refine SET.out.mono ?_) | (with_reducible refine SETB.out.mono ?_)); rintro e w5 ⟨rfl, hs5⟩; have S5 := Lib.hid hs5; clear hs5))
            all_goals (go_wp2_with fail; go_meet; exact S5.out)
          case' rest =>
            have FX := Lib.hid hcut
            clear hcut
            have c2 := C2.out _ (B2.out.trans (FX.out.st.2.mono B2.out.size))
            by_cases hev : z3.tmod 2 = 0
            case' pos =>
              have e3 : (z3.tmod 2 == 0) = true := beq_iff_eq.2 hev
              go_wp2
              go_roundw
              case rel => exact ⟨k + 1, _, _, by omega, by omega, by go_num, FX.out⟩
              case measure => simp [intOf]; omega
            case' neg =>
              have e3 : (z3.tmod 2 == 0) = false := beq_eq_false_iff_ne.2 hev
              go_upto_region 15 with (fail)
              obtain ⟨wX, rfl⟩ : ∃ wX : World, wX = wc := ⟨_, rfl⟩
      all_goals
        obtain ⟨SX, insX, hfx⟩ : ∃ SX insX, FnI w2 f gs m ib SX insX wX := ⟨_, _, FX.out⟩
        clear FX
        have FX := Lib.hid hfx
        clear hfx
        have CC := Lib.hid (compute_any w2 wX f gs m _ FX.out.st hm12 FX.out.lt8 a0 ln0 cap0 GW.out no nc nvs N2.out)
        go_upto_block 2 with (first
          | (go_at_call 31; refine CC.out.mono ?_; rintro e w4 ⟨done, S4, ao4, cap4, rfl, hst4, hno4, hs4, _, hm4⟩; have FY := Lib.hid (FX.out.comp hst4 hs4 hm4); have FIN := Lib.hid (hst4.fresh hm12 hgl FX.out.coh FX.out.len FX.out.inv hno4); have NO4 := Lib.hid hno4; have FR := Lib.hid (fresh_any w4 (some ⟨ib, 0, none⟩) 4 _ FX.out.len FX.out.i8 (InsB.row FY.out.blk) gs a0 ln0 cap0 (GW.out.later FY.out.st.2) no m nc nvs (N2.out.later FY.out.st.2)); clear hst4 hno4 hs4 hm4)
          | (go_at_call 32; refine FR.out.mono ?_; rintro e w5 ⟨vo, vc, rfl, hr5, _, hb5⟩; have R5 := Lib.hid hr5; have FZ := Lib.hid (FY.out.later hb5); clear hr5 hb5))
        go_wp2_with fail
        have HR5 := Lib.hid (FIN.out)
        go_loopw [16] (fun i wr => ∃ q : Nat, q ≤ 4 + m ∧ i = .int .i64 (q : Int) ∧ Below w5.heap.size w5 wr) (fun i _ => 4 + m - (intOf i).toNat)
        case atStart => exact ⟨0, by omega, rfl, Below.refl _ w5⟩
        case round =>
          obtain ⟨q, hq, rfl, hbq⟩ := hrel
          have BQ := Lib.hid hbq
          clear hbq
          have q0 : (0 : Int) ≤ (q : Int) := by omega
          by_cases hqm : q < 4 + m
          · have q1 : (q : Int) < 4 + (m : Int) := by omega
            have GQ := Lib.hid (gate_any q (by omega) wr)
            have VQ := Lib.hid (fun (w : World) (hb : Below wr.heap.size wr w) => (FZ.out.later (BQ.out.trans (hb.mono BQ.out.size))).st.value (gName q) (val_net gs (n := 4 + m) (by omega) S4 (j := q) (by omega) (fun h4 => NO4.out q h4 (by omega))))
            have hfq := FIN.out q (by omega)
            obtain ⟨b5, off5, hvo, hlb5, hce5⟩ := R5.out q (dig ((freshN insX gs m).getD q 0)) (by
              rw [List.getElem?_map, List.getElem?_eq_getElem (by rw [freshN_len, FX.out.len]; omega), List.getD_eq_getElem?_getD, List.getElem?_eq_getElem (by rw [freshN_len, FX.out.len]; omega)]; rfl)
            obtain ⟨x, hx⟩ : ∃ x, dig ((freshN insX gs m).getD q 0) = x := ⟨_, rfl⟩
            rw [hx] at hce5
            rw [hfq, hx] at VQ
            subst hvo
            have C5 := Lib.hid (show ∀ w, Below w5.heap.size w5 w → w.cell? ⟨b5, off5 + q, none⟩ = some (.string x) from fun w hb => (hb.cell (p := ⟨b5, off5 + q, none⟩) hlb5).trans (by have := hce5 0 _ rfl; rwa [Nat.mul_one, Nat.add_zero] at this))
            clear hce5 hx hfq
            go_wp2_with (first
              | (go_at_call 30; refine GQ.out.mono ?_; rintro e w6 ⟨rfl, hb6⟩; have V6 := Lib.hid (VQ.out w6 hb6); have c6 := C5.out w6 (BQ.out.trans (hb6.mono BQ.out.size)); have B6 := Lib.hid (BQ.out.trans (hb6.mono BQ.out.size)); clear hb6)
              | (go_at_call 23; refine V6.out.mono ?_; rintro e w' ⟨rfl, rfl⟩))
            go_roundw
            case rel => exact ⟨q + 1, by omega, by go_num, B6.out⟩
            case measure => simp [intOf]; omega
          · have q1 : ¬ (q : Int) < 4 + (m : Int) := by omega
            go_wp2
            go_roundw
            case rel => exact ⟨k + 1, S4, _, by omega, by omega, by go_num, FZ.out.later BQ.out⟩
            case measure => simp [intOf]; omega
    · by_cases h1 : k ≤ ln1
      · have k1 : (k : Int) ≤ (ln1 : Int) := by omega
        have k20 : ¬ (k : Int) ≤ 20 := by omega
        go_wp2
        go_ret
        exact ⟨rfl, hbw⟩
      · have k1 : ¬ (k : Int) ≤ (ln1 : Int) := by omega
        go_wp2
        go_ret
        exact ⟨rfl, hbw⟩

end dataflowFromNothing
end Go.Proofs.Ytgbnhngaeefmkaa
