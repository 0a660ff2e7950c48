import Derived.Test.YtgbnhngaeefmkaaNetQ
import Derived.Test.YtgbnhngaeefmkaaOpnG

/-! DataflowOrder: the walk. -/
namespace Go.Proofs.Ytgbnhngaeefmkaa
set_option linter.unusedVariables false
set_option linter.unusedSimpArgs false
open Go.RowKit

namespace dataflowOrder

set_option maxRecDepth 100000 in
set_option maxHeartbeats 8000000 in
theorem walk (a0 : Option Addr) (ln0 cap0 : Nat) (gs : List GateV) (a1 : Option Addr) (ln1 cap1 : Nat) (ss : List (Int × Int)) (W : World) (hg : GatesK W gs a0 ln0) (hl : ss.length = ln1) (hbig : ln1 ≤ 9223372036854775807) (hrow : RowK 2 encZ2 W a1 ss) (hok : ∀ s ∈ ss, I64 s.1 ∧ I64 s.2) :
    Calls Try.prog 6 #[.slice a0 ln0 cap0, .slice a1 ln1 cap1] W fun e w' => e = .returned (.bool true) ∧ Below W.heap.size W w' := by
  have HG := Lib.hid hg
  have HL := Lib.hid hl
  have HR := Lib.hid hrow
  have HOK := Lib.hid hok
  clear hg hl hrow hok
  obtain ⟨m, hm⟩ : ∃ m, min ln0 12 = m := ⟨_, rfl⟩
  have hm12 : m ≤ 12 := by omega
  go_enter Try.func6, Try.ntmps6
  go_wp2_with (first
    | (go_at_call 8; refine (sane_any _).mono ?_; rintro e w1 ⟨rfl, hb1⟩; have B1 := Lib.hid hb1; have NC := Lib.hid (network_calls (cap := cap0) (HG.out.later hb1)); clear hb1)
    | (go_at_call 28; refine NC.out.mono ?_; rintro e w2 ⟨no, nc, nvs, rfl, hn2, hb2⟩; rw [hm] at hn2 ⊢; have N2 := Lib.hid hn2; have B2 := Lib.hid (B1.out.trans (hb2.mono B1.out.size)); have BC := Lib.hid (built_any w2 gs a0 ln0 cap0 (HG.out.later B2.out) no m nc nvs hn2); clear hn2 hb2)
    | (go_at_call 29; refine BC.out.mono ?_; rintro e w3 ⟨f, ib, rfl, hs3, _, _⟩; have S3 := Lib.hid hs3; clear hs3))
  go_loopw [10] (fun i wr => ∃ (k : Nat) (S : NS), k ≤ ln1 ∧ k ≤ 20 ∧ i = .int .i64 k ∧ St w2 f (netF gs (4 + m) S) 16 wr ∧ ∀ i, S.vals i < 8) (fun i _ => 20 - (intOf i).toNat)
  case atStart => exact ⟨0, _, Nat.zero_le _, by omega, rfl, S3.out, S0_lt gs m⟩
  case round =>
    obtain ⟨k, S, hk, hk20, rfl, hst, hv8⟩ := hrel
    have SK := Lib.hid hst
    have V8 := Lib.hid hv8
    clear hst hv8
    have k0 : (0 : Int) ≤ (k : Int) := by omega
    by_cases hlt : k < ln1 ∧ k < 20
    · obtain ⟨hlt, h20⟩ := hlt
      have k1 : (k : Int) < (ln1 : Int) := by omega
      have k20 : (k : Int) < 20 := by omega
      have hkl : k < ss.length := by rw [HL.out]; exact hlt
      obtain ⟨b0, off, rfl, hlb, hce⟩ := HR.out k ss[k] (List.getElem?_eq_getElem hkl)
      have hbw : Below W.heap.size W wr := B2.out.trans (SK.out.2.mono B2.out.size)
      obtain ⟨i1, i2⟩ := HOK.out ss[k] (List.getElem_mem hkl)
      have c0 : wr.cell? ⟨b0, off + k * 2, none⟩ = some (.int .i64 ss[k].1) := (hbw.cell (p := ⟨b0, off + k * 2 + 0, none⟩) hlb).trans (hce 0 _ rfl)
      have c1 : wr.cell? ⟨b0, off + k * 2 + 1, none⟩ = some (.int .i64 ss[k].2) := (hbw.cell (p := ⟨b0, off + k * 2 + 1, none⟩) hlb).trans (hce 1 _ rfl)
      obtain ⟨z1, hz1⟩ : ∃ z, ss[k].1 = z := ⟨_, rfl⟩
      obtain ⟨z2, hz2⟩ : ∃ z, ss[k].2 = z := ⟨_, rfl⟩
      rw [hz1] at c0 i1
      rw [hz2] at c1 i2
      obtain ⟨p1, hp1, he1⟩ := pickZ_nat z1 4 (by omega)
      obtain ⟨p2, hp2, he2⟩ := pickZ_nat z2 8 (by omega)
      rw [show ((4 : Nat) : Int) = 4 from rfl] at he1
      rw [show ((8 : Nat) : Int) = 8 from rfl] at he2
      have PK1 := Lib.hid (show ∀ w, Calls Try.prog 12 #[.int .i64 z1, .int .i64 4] w fun e w' => e = .returned (.int .i64 p1) ∧ w = w' from fun w => (pick_any z1 4 w i1.1 i1.2 (by omega) (by omega)).mono fun e w' ⟨q1, q2⟩ => ⟨by rw [q1, he1], q2⟩)
      have PK2 := Lib.hid (show ∀ w, Calls Try.prog 12 #[.int .i64 z2, .int .i64 8] w fun e w' => e = .returned (.int .i64 p2) ∧ w = w' from fun w => (pick_any z2 8 w i2.1 i2.2 (by omega) (by omega)).mono fun e w' ⟨q1, q2⟩ => ⟨by rw [q1, he2], q2⟩)
      have GT := Lib.hid (fun w => gate_at p1 (by omega) w)
      obtain ⟨nm, hnm⟩ : ∃ nm, gName p1 = nm := ⟨_, rfl⟩
      rw [hnm] at GT
      have p20 : (0 : Int) ≤ (p2 : Int) := by omega
      have p28' : p2 < 8 := hp2
      have p28 : (p2 : Int) < 8 := by omega
      have cv := conv_at (((wr.alloc (.cells #[.int .u8 (97 + (p1 : Int))] 5)).alloc (.cells #[.int .u8 (48 + (p2 : Int))] 5)).drew) (wr.heap.size + 1) (48 + p2) (by omega) (cell_blk (two_allocs wr _ _).2 (by rw [show ((48 + p2 : Nat) : Int) = 48 + (p2 : Int) from by omega]; rfl))
      obtain ⟨vs, hvs⟩ : ∃ vs, dig p2 = vs := ⟨_, rfl⟩
      rw [show chr (48 + p2) = vs from hvs] at cv
      have c1a := cell_up c1 (.cells #[.int .u8 (97 + (p1 : Int))] 5)
      have SET := Lib.hid (set_calls (((SK.out.alloc (.cells #[.int .u8 (97 + (p1 : Int))] 5)).alloc (.cells #[.int .u8 (48 + (p2 : Int))] 5)).drew) hm12 V8.out hp1 hp2 hnm hvs)
      have hw1 : IntKind.wrap .i64 (48 + (p2 : Int)) = 48 + (p2 : Int) := by rw [IntKind.wrap_i64]; omega
      have hw2 : IntKind.wrap .u8 (48 + (p2 : Int)) = 48 + (p2 : Int) := by rw [IntKind.wrap_u8]; omega
      clear hce hz1 hz2 he1 he2 hnm hvs i1 i2
      go_upto_region 9 with (fail)
      go_cut [] (fun wx => ∃ S' : NS, St w2 f (netF gs (4 + m) S') 16 wx ∧ ∀ i, S'.vals i < 8)
      case first =>
        go_region_law (first
          | (go_simp; go_at_call 12; first | ((with_reducible refine (PK1.out _).mono ?_); rintro e w' ⟨rfl, rfl⟩) | ((with_reducible refine (PK2.out _).mono ?_); rintro e w' ⟨rfl, rfl⟩))
          | (go_simp; go_at_call 30; (with_reducible refine (GT.out _).mono ?_); rintro e w' ⟨rfl, rfl⟩)
          | (go_simp; go_at_call 13; (with_reducible refine SET.out.mono ?_); rintro e w5 ⟨rfl, hs5, _⟩; have S5 := Lib.hid hs5; clear hs5))
        all_goals (go_wp2_with fail; go_meet; exact ⟨_, S5.out, chgS_lt V8.out p28'⟩)
      case rest =>
        obtain ⟨S', hs5, hv5⟩ := hcut
        obtain ⟨w5, rfl⟩ : ∃ w5 : World, w5 = wc := ⟨_, rfl⟩
        have S5 := Lib.hid hs5
        have V5 := Lib.hid hv5
        clear hs5 hv5
        have MK := mk_bools4 m hm12
        go_upto_block 2 with (first
          | (go_at_call 21; refine (stale_calls S5.out hm12).mono ?_; rintro e w6 ⟨xs, so, sc, rfl, _, hr6, hx6, hp6, hl6, hs6, hb6⟩; have R6 := Lib.hid hr6; have X6 := Lib.hid hx6; have P6 := Lib.hid hp6; have S6 := Lib.hid hs6; clear hr6 hx6 hp6 hs6 hb6))
        have C6 := Lib.hid (fun (w : World) (hb : Below w6.heap.size w6 w) => (N2.out.later (S6.out.2.trans (hb.mono S6.out.2.size))))
        have BB := Lib.hid (World.alloc_heap_new w6 (BoolB (List.replicate (4 + m) false)))
        have B7 := Lib.hid ((Below.refl w6.heap.size w6).alloc (Nat.le_refl _) (BoolB (List.replicate (4 + m) false)))
        clear S5 SET SK
        go_wp2_with fail
        go_loopw [13] (fun i wr => wr = w6.alloc (BoolB (List.replicate (4 + m) false)) ∧ ∃ q : Nat, q ≤ xs.length ∧ i = .int .i64 q) (fun i _ => xs.length - (intOf i).toNat)
        case atStart => exact ⟨rfl, 0, by omega, rfl⟩
        case round =>
          obtain ⟨rfl, q, hq, rfl⟩ := hrel
          have q0 : (0 : Int) ≤ (q : Int) := by omega
          by_cases hql : q < xs.length
          · have q1 : (q : Int) < (xs.length : Int) := by omega
            obtain ⟨bs, os, rfl, hbs, hcs⟩ := name_cell R6.out hql
            obtain ⟨x4, xm, _⟩ := (X6.out xs[q]).1 (List.getElem_mem hql)
            obtain ⟨x, hx⟩ : ∃ x, xs[q] = x := ⟨_, rfl⟩
            rw [hx] at hcs x4 xm
            have hc7 := cell_up hcs (BoolB (List.replicate (4 + m) false))
            have hgb := gName_byte2 x (by omega)
            have hgs := gName_size x
            have g1 : ¬ (97 + (x : Int)) < 101 := by omega
            have g2 : ¬ 101 + (m : Int) ≤ 97 + (x : Int) := by omega
            clear hx hcs
            go_wp2
            go_roundw
            case rel => exact ⟨trivial, q + 1, by omega, by go_num⟩
            case measure => simp [intOf]; omega
          · have q1 : ¬ (q : Int) < (xs.length : Int) := by omega
            go_wp2
            go_loopw [14] (fun i wr => ∃ (t : Nat) (bl : List Bool), t ≤ xs.length ∧ i = .int .i64 ((t : Int) - 1) ∧ Below w6.heap.size w6 wr ∧ wr.heap[w6.heap.size]? = some (BoolB bl) ∧ bl.length = 4 + m ∧ ∀ j, j < 4 → bl.getD j false = false) (fun i _ => (intOf i + 1).toNat)
            case atStart => exact ⟨xs.length, _, Nat.le_refl _, rfl, B7.out, BB.out, by simp, fun j _ => getD_rep⟩
            case round =>
              obtain ⟨t, bl, ht, rfl, hbt, hbb, hbl, hb4⟩ := hrel
              obtain ⟨w0, rfl⟩ : ∃ w0 : World, w0 = wr := ⟨_, rfl⟩
              have BT := Lib.hid hbt
              have BBT := Lib.hid hbb
              have BL := Lib.hid hbl
              have B4 := Lib.hid hb4
              clear hbt hbb hbl hb4
              have hms : w6.heap.size < w0.heap.size := lt_of_blk BBT.out
              by_cases htp : 0 < t
              · obtain ⟨t, rfl⟩ : ∃ t', t = t' + 1 := ⟨t - 1, by omega⟩
                have et : (((t + 1 : Nat) : Int) - 1) = (t : Int) := by omega
                rw [et]
                clear et
                have t0 : (0 : Int) ≤ (t : Int) := by omega
                have htl : t < xs.length := by omega
                have tl : (t : Int) < (xs.length : Int) := by omega
                obtain ⟨bs, os, rfl, hbs, hcs⟩ := name_cell R6.out htl
                have hcx : w0.cell? ⟨bs, os + t, none⟩ = some (.string (gName xs[t])) := by rw [BT.out.cell (p := ⟨bs, os + t, none⟩) hbs]; exact hcs
                obtain ⟨x4, xm, _⟩ := (X6.out xs[t]).1 (List.getElem_mem htl)
                have hcellA := fun (y : Nat) (hyl : y < xs.length) => (show ∀ w, Below w6.heap.size w6 w → w.cell? ⟨bs, os + y, none⟩ = some (.string (gName xs[y])) from fun w hb => by
                  obtain ⟨bs', os', e', hbs', hcs'⟩ := name_cell R6.out hyl
                  cases e'
                  rw [hb.cell (p := ⟨bs, os + y, none⟩) hbs']; exact hcs')
                have HCA := Lib.hid hcellA
                clear hcellA
                have HXT := Lib.hid (show xs[t]? = some xs[t] from List.getElem?_eq_getElem htl)
                obtain ⟨x, hx⟩ : ∃ x, xs[t] = x := ⟨_, rfl⟩
                rw [hx] at hcx x4 xm HXT
                have hgb := gName_byte x (by omega)
                have hgs := gName_size x
                have x0 : (0 : Int) ≤ (x : Int) := by omega
                have x1 : (x : Int) < 4 + (m : Int) := by omega
                have hn1 := World.alloc_heap_new w0 (BoolB (List.replicate (4 + m) false))
                have A0 := Lib.hid (BoolB.set hn1 x true)
                have ca0 := BoolB.cell hn1 (i := x) (by simp; omega) (getD_rep)
                have fa0 := frz_bool hn1 x
                have BA := Lib.hid (((Below.refl w0.heap.size w0).alloc (Nat.le_refl _) (BoolB (List.replicate (4 + m) false))).setCell (p := ⟨w0.heap.size, x, none⟩) (Nat.le_refl _) (.bool true))
                clear hx hcs hn1
                go_wp2
                clear hgb
                obtain ⟨x', hx'⟩ : ∃ x', x = x' + 3 := ⟨x - 3, by omega⟩
                have ex : ((x : Int) - 3) = (x' : Int) := by omega
                rw [ex]
                clear ex
                have hx1' : x' + 3 ≤ x := by omega
                have hx2' : x ≤ x' + 3 := by omega
                clear hx'
                go_loopw [17] (fun i wr => ∃ (j : Nat) (al : List Bool), j ≤ m ∧ i = .int .i64 j ∧ Below w0.heap.size w0 wr ∧ wr.heap[w0.heap.size]? = some (BoolB al) ∧ AfterOk gs (4 + m) x al) (fun i _ => m - (intOf i).toNat)
                case atStart => exact ⟨x', _, by omega, rfl, BA.out, A0.out, AfterOk.new gs (4 + m) x⟩
                case round =>
                  obtain ⟨j, al, hj, rfl, hbj, haj, hoj⟩ := hrel
                  obtain ⟨w8, rfl⟩ : ∃ w8 : World, w8 = wr := ⟨_, rfl⟩
                  have BJ := Lib.hid hbj
                  have AJ := Lib.hid haj
                  have OJ := Lib.hid hoj
                  clear hbj haj hoj
                  have j0 : (0 : Int) ≤ (j : Int) := by omega
                  have B68 := Lib.hid (BT.out.trans (BJ.out.mono BT.out.size))
                  by_cases hjm : j < m
                  · have j1 : (j : Int) < (m : Int) := by omega
                    have RC := Lib.hid (reach_any w8 gs no m nc nvs (C6.out w8 B68.out) j hjm (some ⟨w0.heap.size, 0, none⟩) (4 + m) al OJ.out.len (BoolB.row AJ.out))
                    obtain ⟨on, hon⟩ : ∃ on, onB gs j al = on := ⟨_, rfl⟩
                    rw [hon] at RC
                    have HON := Lib.hid hon
                    clear hon
                    rcases on with _ | _
                    · go_wp2_with (first | (go_at_call 33; refine RC.out.mono ?_; rintro e w' ⟨rfl, rfl⟩))
                      go_roundw
                      case rel => exact ⟨j + 1, al, by omega, by go_num, BJ.out, AJ.out, OJ.out⟩
                      case measure => simp [intOf]; omega
                    · have cj : ∃ b, w8.cell? ⟨w0.heap.size, 4 + j, none⟩ = some (.bool b) := ⟨_, BoolB.cell AJ.out (i := 4 + j) (by rw [OJ.out.len]; omega) rfl⟩
                      obtain ⟨b, cj⟩ := cj
                      have fj := frz_bool AJ.out (4 + j)
                      have z4 : (0 : Int) ≤ 4 + (j : Int) := by omega
                      have t4 : (4 + (j : Int)).toNat = 4 + j := by omega
                      have u4' : 4 + (j : Int) < 4 + (m : Int) := by omega
                      go_wp2_with (first | (go_at_call 33; refine RC.out.mono ?_; rintro e w' ⟨rfl, rfl⟩))
                      go_roundw
                      case rel => exact ⟨j + 1, al.set (4 + j) true, by omega, by go_num, BJ.out.setCell (p := ⟨w0.heap.size, 4 + j, none⟩) (Nat.le_refl _) _, BoolB.set AJ.out (4 + j) true, OJ.out.on hm12 hjm HON.out⟩
                      case measure => simp [intOf]; omega
                  · have j1 : ¬ (j : Int) < (m : Int) := by omega
                    go_wp2
                    go_loopw [18] (fun i wr => wr = w8 ∧ ∃ y : Nat, y ≤ t ∧ i = .int .i64 y) (fun i _ => t - (intOf i).toNat)
                    case atStart => exact ⟨rfl, 0, by omega, rfl⟩
                    case round =>
                      obtain ⟨rfl, y, hy, rfl⟩ := hrel
                      have y0 : (0 : Int) ≤ (y : Int) := by omega
                      by_cases hyt : y < t
                      · have y1 : (y : Int) < (t : Int) := by omega
                        have hyl : y < xs.length := by omega
                        have yl : (y : Int) < (xs.length : Int) := by omega
                        have hcy := HCA.out y hyl _ B68.out
                        obtain ⟨v4, vm, _⟩ := (X6.out xs[y]).1 (List.getElem_mem hyl)
                        have hlt2 : ltN gs (4 + m) xs[y] x := by
                          have hp := List.pairwise_iff_getElem.1 P6.out y t hyl htl hyt
                          have hxt := HXT.out
                          rw [List.getElem?_eq_getElem htl] at hxt
                          rw [Option.some.inj hxt] at hp; exact hp
                        have hoff := OJ.out.not hlt2
                        have cy := BoolB.cell AJ.out (i := xs[y]) (by rw [OJ.out.len]; omega) hoff
                        obtain ⟨v, hv⟩ : ∃ v, xs[y] = v := ⟨_, rfl⟩
                        rw [hv] at hcy v4 vm cy
                        have hgbv := gName_byte v (by omega)
                        have hgsv := gName_size v
                        have v0 : (0 : Int) ≤ (v : Int) := by omega
                        have v1 : (v : Int) < 4 + (m : Int) := by omega
                        clear hv hlt2 hoff
                        go_wp2
                        go_roundw
                        case rel => exact ⟨trivial, y + 1, by omega, by go_num⟩
                        case measure => simp [intOf]; omega
                      · have y1 : ¬ (y : Int) < (t : Int) := by omega
                        have hbx : wr.heap[w6.heap.size]? = some (BoolB bl) := (BJ.out.block _ hms).trans BBT.out
                        have cbx : ∃ b, wr.cell? ⟨w6.heap.size, x, none⟩ = some (.bool b) := ⟨_, BoolB.cell hbx (i := x) (by rw [BL.out]; omega) rfl⟩
                        obtain ⟨b, cbx⟩ := cbx
                        have fbx := frz_bool hbx x
                        have HBX := Lib.hid hbx
                        clear hbx
                        go_wp2
                        go_roundw
                        case rel => exact ⟨t, bl.set x true, by omega, rfl, B68.out.setCell (p := ⟨w6.heap.size, x, none⟩) (Nat.le_refl _) _, BoolB.set HBX.out x true, by rw [List.length_set]; exact BL.out, fun j hj => by
                          rcases q : (bl.set x true).getD j false with _ | _
                          · rfl
                          · rcases getD_set q with ⟨h1, _⟩ | h1
                            · omega
                            · rw [B4.out j hj] at h1; cases h1⟩
                        case measure => simp [intOf]
              · have ht0 : t = 0 := by omega
                subst ht0
                have cb0 := BoolB.cell BBT.out (i := 0) (by rw [BL.out]; omega) (B4.out 0 (by omega))
                have cb1 := BoolB.cell BBT.out (i := 1) (by rw [BL.out]; omega) (B4.out 1 (by omega))
                have cb2 := BoolB.cell BBT.out (i := 2) (by rw [BL.out]; omega) (B4.out 2 (by omega))
                have cb3 := BoolB.cell BBT.out (i := 3) (by rw [BL.out]; omega) (B4.out 3 (by omega))
                have y0 : (0 : Int) < 4 + (m : Int) := by omega
                have y1 : (1 : Int) < 4 + (m : Int) := by omega
                have y2 : (2 : Int) < 4 + (m : Int) := by omega
                have y3 : (3 : Int) < 4 + (m : Int) := by omega
                go_wp2
                go_roundw
                case rel => exact ⟨k + 1, S', by omega, by omega, by go_num, S6.out.later BT.out, V5.out⟩
                case measure => simp [intOf]; omega
    · have hbw : Below W.heap.size W wr := B2.out.trans (SK.out.2.mono B2.out.size)
      by_cases h1 : k < ln1
      · have k1 : (k : Int) < (ln1 : Int) := by omega
        have k20 : ¬ (k : Int) < 20 := by omega
        go_wp2
        go_ret
        exact ⟨rfl, hbw⟩
      · have k1 : ¬ (k : Int) < (ln1 : Int) := by omega
        go_wp2
        go_ret
        exact ⟨rfl, hbw⟩

end dataflowOrder
end Go.Proofs.Ytgbnhngaeefmkaa
