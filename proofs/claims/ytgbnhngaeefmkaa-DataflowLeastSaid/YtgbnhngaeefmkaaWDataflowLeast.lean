import Derived.Test.YtgbnhngaeefmkaaNw
import Derived.Test.YtgbnhngaeefmkaaOpnG

/-! DataflowLeast: the walk. -/
namespace Go.Proofs.Ytgbnhngaeefmkaa
set_option linter.unusedVariables false
set_option linter.unusedSimpArgs false
open Go.RowKit

/-! what the law is told of four integers -/
set_option maxRecDepth 100000 in
theorem okWide_array {w : World} {r : Reach} {base : Nat} {t : TypeId} {v : Value} {a b : Nat} (ht : Try.prog.underlying t = some (.array a b)) (h : Value.okWide Try.prog w r base t v) : ∃ cs, v = .agg cs ∧ cs.size = Try.prog.cellsOf t := by
  simp only [Value.okWide, ht] at h
  obtain ⟨cs, h1, h2, _⟩ := h
  exact ⟨cs, h1, h2⟩

theorem four_cells {cs : List Value} (h : cs.length = 4) : ∃ a b c d, cs = [a, b, c, d] := by
  match cs, h with
  | [a, b, c, d], _ => exact ⟨a, b, c, d, rfl⟩

set_option maxRecDepth 100000 in
theorem quad_in {H : Type} {enc : TypeId × Value → H} {W : World} {base : Nat} {sp : Nat → Bool} {held : Bool} {fuel : Nat} {cs : List Value} {x : DataW H × List MemPlace} (h : DataW.trod enc Try.prog W base sp held fuel 63 cs = some x) : ∃ z0 z1 z2 z3 : Int, cs = [.int .i64 z0, .int .i64 z1, .int .i64 z2, .int .i64 z3] ∧ I64 z0 ∧ I64 z1 ∧ I64 z2 ∧ I64 z3 := by
  obtain ⟨xs, n', _, _, hlen, hxs, hfld⟩ := DataW.trod_array Try.underlying63 h
  have hc : Try.prog.cellsOf 63 = 4 := by kernel_rfl
  have ci : Try.prog.cellsOf 3 = 1 := by kernel_rfl
  rw [hc] at hlen
  obtain ⟨c0, c1, c2, c3, rfl⟩ := four_cells hlen
  have g0 := hfld 0 (by omega)
  have g1 := hfld 1 (by omega)
  have g2 := hfld 2 (by omega)
  have g3 := hfld 3 (by omega)
  rw [ci, List.getElem?_eq_getElem (by omega)] at g0 g1 g2 g3
  obtain ⟨z0, e0, _, w0⟩ := DataW.trod_int Try.underlying3 g0
  obtain ⟨z1, e1, _, w1⟩ := DataW.trod_int Try.underlying3 g1
  obtain ⟨z2, e2, _, w2⟩ := DataW.trod_int Try.underlying3 g2
  obtain ⟨z3, e3, _, w3⟩ := DataW.trod_int Try.underlying3 g3
  simp at e0 e1 e2 e3
  subst e0; subst e1; subst e2; subst e3
  exact ⟨z0, z1, z2, z3, rfl, i64_wf w0, i64_wf w1, i64_wf w2, i64_wf w3⟩

namespace dataflowLeast

def SetsB (z0 z1 z2 z3 : Int) : Obj := .cells #[.int .i64 z0, .int .i64 z1, .int .i64 z2, .int .i64 z3] 63

theorem sets_cell (W : World) (z0 z1 z2 z3 : Int) (hz : I64 z0 ∧ I64 z1 ∧ I64 z2 ∧ I64 z3) {i : Nat} (hi : i < 4) : ∃ z : Int, I64 z ∧ (W.alloc (SetsB z0 z1 z2 z3)).cell? ⟨W.heap.size, i, none⟩ = some (.int .i64 z) := by
  have h := World.alloc_heap_new W (SetsB z0 z1 z2 z3)
  obtain ⟨h0, h1, h2, h3⟩ := hz
  match i, hi with
  | 0, _ => exact ⟨z0, h0, cell_blk h rfl⟩
  | 1, _ => exact ⟨z1, h1, cell_blk h rfl⟩
  | 2, _ => exact ⟨z2, h2, cell_blk h rfl⟩
  | 3, _ => exact ⟨z3, h3, cell_blk h rfl⟩

set_option maxRecDepth 100000 in
set_option maxHeartbeats 8000000 in
theorem walk (a0 : Option Addr) (ln0 cap0 : Nat) (gs : List GateV) (z0 z1 z2 z3 : Int) (W : World) (hg : GatesK W gs a0 ln0) (hz : I64 z0 ∧ I64 z1 ∧ I64 z2 ∧ I64 z3) :
    Calls Try.prog 5 #[.slice a0 ln0 cap0, .agg #[.int .i64 z0, .int .i64 z1, .int .i64 z2, .int .i64 z3]] W fun e w' => e = .returned (.bool true) ∧ Below W.heap.size W w' := by
  have HG := Lib.hid hg
  obtain ⟨W1, hW1⟩ : ∃ W1, W.alloc (SetsB z0 z1 z2 z3) = W1 := ⟨_, rfl⟩
  have BW := Lib.hid (show Below W.heap.size W W1 by rw [← hW1]; exact (Below.refl _ W).alloc (Nat.le_refl _) _)
  have ZC := Lib.hid (show ∀ i, i < 4 → ∃ z : Int, I64 z ∧ ∀ w, Below W1.heap.size W1 w → w.cell? ⟨W.heap.size, i, none⟩ = some (.int .i64 z) from fun i hi => by
    obtain ⟨z, h1, h2⟩ := sets_cell W z0 z1 z2 z3 hz hi
    rw [hW1] at h2
    exact ⟨z, h1, fun w hb => by rw [hb.cell (p := ⟨W.heap.size, i, none⟩) (World.block_lt_of_cell? _ _ h2)]; exact h2⟩)
  have HW1 := Lib.hid hW1
  clear hg hz hW1
  obtain ⟨m, hm⟩ : ∃ m, min ln0 12 = m := ⟨_, rfl⟩
  have hm12 : m ≤ 12 := by omega
  have hmln : m ≤ ln0 := by omega
  go_enter Try.func5, Try.ntmps5
  go_upto_region 1 with (fail)
  have hw1 := HW1.out
  unfold SetsB at hw1
  rw [hw1]
  clear hw1
  go_upto_region 6 with (first
    | (go_at_call 8; refine (sane_any _).mono ?_; rintro e w1 ⟨rfl, hb1⟩; have B1 := Lib.hid hb1; have NC := Lib.hid (network_calls (cap := cap0) (HG.out.later (BW.out.trans (hb1.mono BW.out.size)))); clear hb1)
    | (go_at_call 28; refine NC.out.mono ?_; rintro e w2 ⟨no, nc, nvs, rfl, hn2, hb2⟩; rw [hm] at hn2 ⊢; have N2 := Lib.hid hn2; have B2 := Lib.hid (B1.out.trans (hb2.mono B1.out.size)); have G2 := Lib.hid (HG.out.later (BW.out.trans (B2.out.mono BW.out.size))); have BC := Lib.hid (built_any w2 gs a0 ln0 cap0 G2.out no m nc nvs hn2); clear hn2 hb2)
    | (go_at_call 29; refine BC.out.mono ?_; rintro e w3 ⟨f, ib, rfl, hs3, hbk, hib⟩; have S3 := Lib.hid hs3; have BK := Lib.hid hbk; clear hs3 hbk))
  have hgl : m ≤ gs.length := by rw [HG.out.len]; exact hmln
  have F0 := Lib.hid (show FnI w2 f gs m ib (S0 gs m) [0, 1, 2, 3] w3 from ⟨S3.out, S0_coh hgl, S0_lt gs m, rfl, by decide, fun j hj => by
    show (freshN [0, 1, 2, 3] gs m).getD j 0 = _
    rw [freshN_pre [0, 1, 2, 3] gs m 0 j (by omega) (by simp; omega)]; rfl, BK.out⟩)
  have FR0 := Lib.hid (fresh_any w3 (some ⟨ib, 0, none⟩) 4 [0, 1, 2, 3] rfl (by decide) (InsB.row BK.out) gs a0 ln0 cap0 (G2.out.later S3.out.2) no m nc nvs (N2.out.later S3.out.2))
  clear S3 BK BC NC B1
  go_upto_block 0 with (first
    | (go_at_call 32; refine FR0.out.mono ?_; rintro e w4 ⟨wo, wc, rfl, _, hr4, hb4⟩; have L4 := Lib.hid (show LeW w2 f gs m ib w3.heap.size wo wc (S0 gs m) [0, 1, 2, 3] w4 from ⟨F0.out.later hb4, hr4⟩); clear hr4 hb4))
  clear FR0 F0
  go_wp2_with fail
  go_loopw [11] (fun i wr => ∃ (k : Nat) (S : NS) (ins : List Nat), k ≤ 4 ∧ i = .int .i64 (k : Int) ∧ LeW w2 f gs m ib w3.heap.size wo wc S ins wr ∧ LeI gs m k S ins) (fun i _ => 4 - (intOf i).toNat)
  case atStart => exact ⟨0, _, _, by omega, rfl, L4.out, LeI.zero gs m⟩
  case round =>
    obtain ⟨k, S, ins, hk, rfl, hlw, hli⟩ := hrel
    have LW := Lib.hid hlw
    have LI := Lib.hid hli
    clear hlw hli
    have k0 : (0 : Int) ≤ (k : Int) := by omega
    by_cases hk4 : k < 4
    · have k4 : (k : Int) < 4 := by omega
      obtain ⟨z, hz, hzc⟩ := ZC.out k hk4
      have c0 := hzc wr (B2.out.trans (LW.out.fn.st.2.mono B2.out.size))
      obtain ⟨p, hp, he⟩ := pickZ_nat z 8 (by omega)
      rw [show ((8 : Nat) : Int) = 8 from rfl] at he
      have PK := Lib.hid (show ∀ w, Calls Try.prog 12 #[.int .i64 z, .int .i64 8] w fun e w' => e = .returned (.int .i64 p) ∧ w = w' from fun w => (pick_any z 8 w hz.1 hz.2 (by omega) (by omega)).mono fun e w' ⟨q1, q2⟩ => ⟨by rw [q1, he], q2⟩)
      have GT := Lib.hid (fun w => gate_at k (by omega) w)
      obtain ⟨nm, hnm⟩ : ∃ nm, gName k = nm := ⟨_, rfl⟩
      rw [hnm] at GT
      have p0 : (0 : Int) ≤ (p : Int) := by omega
      have p8 : (p : Int) < 8 := by omega
      have ci := InsB.cell LW.out.fn.blk (i := k) (by rw [LW.out.fn.len]; exact hk4)
      have fi := InsB.frz LW.out.fn.blk k
      obtain ⟨vs, hvs⟩ : ∃ vs, dig p = vs := ⟨_, rfl⟩
      have hsz : (wr.setCell ⟨ib, k, none⟩ (.int .i64 (p : Int))).heap.size = wr.heap.size := by simp
      have cv := conv_at ((((wr.setCell ⟨ib, k, none⟩ (.int .i64 (p : Int))).alloc (.cells #[.int .u8 (97 + (k : Int))] 5)).alloc (.cells #[.int .u8 (48 + (p : Int))] 5)).drew) (wr.heap.size + 1) (48 + p) (by omega) (by
        rw [← hsz]
        exact cell_blk (two_allocs (wr.setCell ⟨ib, k, none⟩ (.int .i64 (p : Int))) _ _).2 (by rw [show ((48 + p : Nat) : Int) = 48 + (p : Int) from by omega]; rfl))
      have cvB := conv_at (((wr.setCell ⟨ib, k, none⟩ (.int .i64 (p : Int))).alloc (.cells #[.int .u8 (48 + (p : Int))] 5)).drew) wr.heap.size (48 + p) (by omega) (by
        rw [← hsz]
        exact cell_blk (World.alloc_heap_new (wr.setCell ⟨ib, k, none⟩ (.int .i64 (p : Int))) _) (by rw [show ((48 + p : Nat) : Int) = 48 + (p : Int) from by omega]; rfl))
      have cvC := conv_at ((((wr.setCell ⟨ib, k, none⟩ (.int .i64 (p : Int))).alloc (.cells #[.int .u8 (48 + (p : Int))] 5)).alloc (.cells #[.int .u8 (97 + (k : Int))] 5)).drew) wr.heap.size (48 + p) (by omega) (by
        rw [← hsz]
        exact cell_blk (two_allocs (wr.setCell ⟨ib, k, none⟩ (.int .i64 (p : Int))) _ _).1 (by rw [show ((48 + p : Nat) : Int) = 48 + (p : Int) from by omega]; rfl))
      rw [show chr (48 + p) = vs from hvs] at cv cvB cvC
      have cs : (wr.setCell ⟨ib, k, none⟩ (.int .i64 (p : Int))).cell? ⟨ib, k, none⟩ = some (.int .i64 (p : Int)) := by
        have q := InsB.cell (InsB.set LW.out.fn.blk k p) (i := k) (by rw [List.length_set, LW.out.fn.len]; exact hk4)
        rw [getD_setN (by rw [LW.out.fn.len]; exact hk4), if_pos rfl] at q; exact q
      have csa := cell_up cs (.cells #[.int .u8 (97 + (k : Int))] 5)
      have SET := Lib.hid (LW.out.set hib hm12 hk4 hp hnm hvs (((Below.refl _ (wr.setCell ⟨ib, k, none⟩ (.int .i64 (p : Int)))).alloc (Nat.le_refl _) (.cells #[.int .u8 (97 + (k : Int))] 5)).alloc (by simp) (.cells #[.int .u8 (48 + (p : Int))] 5)).drew)
      have SETB := Lib.hid (LW.out.set hib hm12 hk4 hp hnm hvs (((Below.refl _ (wr.setCell ⟨ib, k, none⟩ (.int .i64 (p : Int)))).alloc (Nat.le_refl _) (.cells #[.int .u8 (48 + (p : Int))] 5)).alloc (by simp) (.cells #[.int .u8 (97 + (k : Int))] 5)).drew)
      have hw1 : IntKind.wrap .i64 (48 + (p : Int)) = 48 + (p : Int) := by rw [IntKind.wrap_i64]; omega
      have hw2 : IntKind.wrap .u8 (48 + (p : Int)) = 48 + (p : Int) := by rw [IntKind.wrap_u8]; omega
      clear hzc he hnm hvs hsz hz
      go_upto_region 11 with (first
        | (go_at_call 12; (with_reducible refine (PK.out _).mono ?_); rintro e w' ⟨rfl, rfl⟩))
      go_region_law (first
          | (go_simp; go_at_call 30; (with_reducible refine (GT.out _).mono ?_); rintro e w' ⟨rfl, rfl⟩)
          | (go_simp; go_at_call 13; (first | (with_reducible refine SET.out.mono ?_) | (with_reducible refine SETB.out.mono ?_)); rintro e w5 ⟨rfl, hs5⟩; have S5 := Lib.hid hs5; clear hs5))
      all_goals
        go_wp2_with fail
        go_roundw
        case rel => exact ⟨k + 1, _, _, by omega, by go_num, S5.out, LI.out.set LW.out.fn.len hk4 LW.out.fn.inv p⟩
        case measure => simp [intOf]; omega
    · have k4 : ¬ (k : Int) < 4 := by omega
      have hk4 : k = 4 := by omega
      subst hk4
      obtain ⟨w5, rfl⟩ : ∃ w5 : World, w5 = wr := ⟨_, rfl⟩
      have hfn := LW.out.fn
      have FR := Lib.hid (fresh_any w5 (some ⟨ib, 0, none⟩) 4 ins hfn.len hfn.i8 (InsB.row hfn.blk) gs a0 ln0 cap0 (G2.out.later hfn.st.2) no m nc nvs (N2.out.later hfn.st.2))
      clear hfn
      have MK := mk_bools4 m hm12
      go_upto_block 2 with (first
        | (go_at_call 32; refine FR.out.mono ?_; rintro e w6 ⟨so, sc, rfl, _, hr6, hb6⟩; have L6 := Lib.hid (show LeC w2 f gs m ib w3.heap.size wo wc w5.heap.size so sc S ins w6.heap.size (List.replicate (4 + m) false) (w6.alloc (BoolB (List.replicate (4 + m) false))) from ⟨(LW.out.later hb6).later ((Below.refl _ w6).alloc (Nat.le_refl _) _), hr6.later ((Below.refl _ w6).alloc (Nat.le_refl _) _), World.alloc_heap_new w6 _, Nat.le_trans LW.out.fn.st.2.size hb6.size⟩); clear hr6 hb6))
      go_wp2_with fail
      go_loopw [14] (fun i wr => ∃ (q : Nat) (bs : List Bool), q ≤ 4 + m ∧ i = .int .i64 (q : Int) ∧ LeC w2 f gs m ib w3.heap.size wo wc w5.heap.size so sc S ins w6.heap.size bs wr ∧ BsOk gs m ins q bs) (fun i _ => 4 + m - (intOf i).toNat)
      case atStart => exact ⟨0, _, by omega, rfl, L6.out, by simp, fun y hy => absurd hy (Nat.not_lt_zero y)⟩
      case round =>
        obtain ⟨q, bs, hq, rfl, hlc, hbo⟩ := hrel
        have LC := Lib.hid hlc
        have BO := Lib.hid hbo
        clear hlc hbo
        have q0 : (0 : Int) ≤ (q : Int) := by omega
        by_cases hqm : q < 4 + m
        · have q1 : (q : Int) < 4 + (m : Int) := by omega
          obtain ⟨wo', wc', hwo, _, hwr⟩ := LC.out.lw.was.sl
          cases hwo
          obtain ⟨b1, o1, rfl, hlb1, hce1⟩ := hwr q (dig (isN [0, 1, 2, 3] gs m q)) (by
            rw [List.getElem?_map, List.getElem?_eq_getElem (by rw [freshN_len]; simp; omega)]; unfold isN; rw [List.getD_eq_getElem?_getD, List.getElem?_eq_getElem (by rw [freshN_len]; simp; omega)]; rfl)
          obtain ⟨so', sc', hso, _, hsr⟩ := LC.out.is.sl
          cases hso
          obtain ⟨b2, o2, rfl, hlb2, hce2⟩ := hsr q (dig (isN ins gs m q)) (by
            rw [List.getElem?_map, List.getElem?_eq_getElem (by rw [freshN_len, LW.out.fn.len]; omega)]; unfold isN; rw [List.getD_eq_getElem?_getD, List.getElem?_eq_getElem (by rw [freshN_len, LW.out.fn.len]; omega)]; rfl)
          have c1 : wr.cell? ⟨b1, o1 + q, none⟩ = some (.string (dig (isN [0, 1, 2, 3] gs m q))) := by have := hce1 0 _ rfl; rwa [Nat.mul_one, Nat.add_zero] at this
          have c2 : wr.cell? ⟨b2, o2 + q, none⟩ = some (.string (dig (isN ins gs m q))) := by have := hce2 0 _ rfl; rwa [Nat.mul_one, Nat.add_zero] at this
          have cb : ∃ b, wr.cell? ⟨w6.heap.size, q, none⟩ = some (.bool b) := ⟨_, BoolB.cell LC.out.on (i := q) (by rw [BO.out.1]; exact hqm) rfl⟩
          obtain ⟨b, cb⟩ := cb
          have fb := frz_bool LC.out.on q
          have DI := Lib.hid (show dig (isN [0, 1, 2, 3] gs m q) = dig (isN ins gs m q) ↔ isN [0, 1, 2, 3] gs m q = isN ins gs m q from
            ⟨fun e => dig_inj (by have := getD_lt8 (freshN_lt [0, 1, 2, 3] gs (by decide) m) q; unfold isN; omega) (by have := getD_lt8 (freshN_lt ins gs LW.out.fn.i8 m) q; unfold isN; omega) e, fun e => by rw [e]⟩)
          obtain ⟨x, hx⟩ : ∃ x, dig (isN [0, 1, 2, 3] gs m q) = x := ⟨_, rfl⟩
          obtain ⟨y, hy⟩ : ∃ y, dig (isN ins gs m q) = y := ⟨_, rfl⟩
          rw [hx] at c1 DI
          rw [hy] at c2 DI
          have NE := Lib.hid (show decide (isN [0, 1, 2, 3] gs m q ≠ isN ins gs m q) = !(x.toList == y.toList) from by
            by_cases e : x = y
            · rw [decide_eq_false (not_not_intro (DI.out.1 e)), (Lib.bytes_beq_iff x y).2 e]; rfl
            · have e2 : (x.toList == y.toList) = false := by
                rcases q : (x.toList == y.toList) with _ | _
                · rfl
                · exact absurd ((Lib.bytes_beq_iff x y).1 q) e
              rw [decide_eq_true (show isN [0, 1, 2, 3] gs m q ≠ isN ins gs m q from fun e' => e (DI.out.2 e')), e2]; rfl)
          clear hce1 hce2 hwr hsr hx hy DI
          go_upto_region 17 with (fail)
          go_region
          go_wp2_with fail
          go_roundw
          case rel => exact ⟨q + 1, _, by omega, by go_num, (LC.out.set q _).drew ((Below.refl _ _).drew), BO.out.step hqm NE.out⟩
          case measure => simp [intOf]; omega
        · have q1 : ¬ (q : Int) < 4 + (m : Int) := by omega
          have hq4 : q = 4 + m := by omega
          subst hq4
          obtain ⟨w7, rfl⟩ : ∃ w7 : World, w7 = wr := ⟨_, rfl⟩
          have hfn := LC.out.lw.fn
          have CC := Lib.hid (compute_any w2 w7 f gs m _ hfn.st hm12 hfn.lt8 a0 ln0 cap0 G2.out no nc nvs N2.out)
          clear hfn
          have MI := mk_ints m (by omega)
          go_upto_block 4 with (first
            | (go_at_call 31; refine CC.out.mono ?_; rintro e w8 ⟨done, S8, ao, cap, rfl, hst8, hno8, hs8, hr8, hm8⟩; have WHO := Lib.hid (fun x (h4 : 4 ≤ x) (hx : x < 4 + m) => hst8.who hm12 hgl LC.out.lw.fn.coh LC.out.lw.fn.len LC.out.lw.fn.inv LI.out hno8 hx h4); have ASC := Lib.hid (hst8.asc (by omega)); have ON8 := Lib.hid (hm8.blk LC.out.on (by decide)); have S8' := Lib.hid hs8; have R8 := Lib.hid hr8; have DL := Lib.hid (hst8.len hm12); clear hst8 hno8 hs8 hr8 hm8))
          go_wp2_with fail
          have D9 := Lib.hid (show LeD w2 w6.heap.size bs w7.heap.size ao cap done w8.heap.size (List.replicate m 0) (w8.alloc (InsB (List.replicate m 0))) from
            ⟨S8'.out.2.trans ((Below.refl _ w8).alloc S8'.out.2.size _), (((Below.refl w8.heap.size w8).alloc (Nat.le_refl _) _).block _ (lt_of_blk ON8.out)).trans ON8.out, R8.out.later ((Below.refl _ w8).alloc (Nat.le_refl _) _), World.alloc_heap_new w8 _, S8'.out.2.size⟩)
          obtain ⟨nb, hnb⟩ : ∃ nb, w8.heap.size = nb := ⟨_, rfl⟩
          rw [hnb] at D9
          rw [hnb]
          obtain ⟨w9, hw9⟩ : ∃ w9, w8.alloc (InsB (List.replicate m 0)) = w9 := ⟨_, rfl⟩
          rw [hw9] at D9
          rw [hw9]
          clear hw9 hnb
          obtain ⟨dl, hdl⟩ : ∃ dl, done.length = dl := ⟨_, rfl⟩
          rw [hdl]
          have HDL := Lib.hid hdl
          have hdlm : dl ≤ m := by rw [← hdl]; exact DL.out
          clear hdl
          go_loopw [18] (fun i wr => ∃ (q : Nat) (cnt : List Nat), q ≤ dl ∧ i = .int .i64 (q : Int) ∧ LeD w2 w6.heap.size bs w7.heap.size ao cap done nb cnt wr ∧ CntOk m done q cnt) (fun i _ => dl - (intOf i).toNat)
          case atStart => exact ⟨0, _, by omega, rfl, D9.out, CntOk.zero m done⟩
          case round =>
            obtain ⟨q, cnt, hq, rfl, hld, hco⟩ := hrel
            have LD := Lib.hid hld
            have CO := Lib.hid hco
            clear hld hco
            have q0 : (0 : Int) ≤ (q : Int) := by omega
            by_cases hqd : q < dl
            · have q1 : (q : Int) < (dl : Int) := by omega
              have hqx : q < done.length := by rw [HDL.out]; exact hqd
              obtain ⟨ao', cap', hao, _, har⟩ := LD.out.row.sl
              cases hao
              obtain ⟨b1, o1, rfl, hlb1, hc1⟩ := name_cell har hqx
              obtain ⟨x4, xm⟩ := ASC.out.2.1 done[q] (List.getElem_mem hqx)
              have HXQ := Lib.hid (show done[q]? = some done[q] from List.getElem?_eq_getElem hqx)
              obtain ⟨x, hx⟩ : ∃ x, done[q] = x := ⟨_, rfl⟩
              rw [hx] at hc1 x4 xm HXQ
              obtain ⟨k, rfl⟩ : ∃ k, x = 4 + k := ⟨x - 4, by omega⟩
              have hkm : k < m := by omega
              have hgb : (((gName (4 + k))[0]'(by rw [gName_size]; omega)).toNat - 97 : Int) % 256 = 4 + (k : Int) := by rw [gName_byte (4 + k) (by omega)]; omega
              have hgs := gName_size (4 + k)
              have hk4 : 4 + (k : Int) - 4 = (k : Int) := by omega
              have k0 : (0 : Int) ≤ (k : Int) := by omega
              have k1 : (k : Int) < (m : Int) := by omega
              have cn := InsB.cell LD.out.cnt (i := k) (by rw [CO.out.1]; exact hkm)
              have fn := InsB.frz LD.out.cnt k
              obtain ⟨c, hc⟩ : ∃ c, cnt.getD k 0 = c := ⟨_, rfl⟩
              have hc100 : c ≤ 100 := by
                rw [← hc, CO.out.2 k hkm]
                have := List.count_le_length (a := 4 + k) (l := done.take q)
                rw [List.length_take] at this
                have := DL.out
                omega
              rw [hc] at cn
              have hw1 : IntKind.wrap .i64 ((c : Int) + 1) = (c : Int) + 1 := by rw [IntKind.wrap_i64]; omega
              have hcs : ((c : Int) + 1) = ((c + 1 : Nat) : Int) := by omega
              have NX := Lib.hid (show LeD w2 w6.heap.size bs w7.heap.size (some ⟨b1, o1, none⟩) cap done nb (cnt.set k (c + 1)) (wr.setCell ⟨nb, k, none⟩ (.int .i64 ((c : Int) + 1))) from by rw [hcs]; exact LD.out.set k (c + 1))
              have NC := Lib.hid (show CntOk m done (q + 1) (cnt.set k (c + 1)) from by rw [← hc]; exact CO.out.step HXQ.out hkm)
              clear hc hx har hcs
              go_wp2
              clear hgb
              go_roundw
              case rel => exact ⟨q + 1, _, hqd, by go_num, NX.out, NC.out⟩
              case measure => simp [intOf]; omega
            · have q1 : ¬ (q : Int) < (dl : Int) := by omega
              have hqd : q = dl := by omega
              subst hqd
              obtain ⟨wA, rfl⟩ : ∃ wA : World, wA = wr := ⟨_, rfl⟩
              have FIN := Lib.hid (fun k (hk : k < m) => cnt_fin BO.out (by rw [HDL.out]; exact CO.out) (ltN_nodup ASC.out.1) (fun x h4 hx => WHO.out x h4 hx) hk)
              have NA := Lib.hid (N2.out.later LD.out.low)
              go_wp2_with fail
              go_loopw [20] (fun i wr => wr = wA ∧ ∃ k : Nat, k ≤ m ∧ i = .int .i64 (k : Int)) (fun i _ => m - (intOf i).toNat)
              case atStart => exact ⟨rfl, 0, by omega, rfl⟩
              case round =>
                obtain ⟨rfl, k, hk, rfl⟩ := hrel
                have k0 : (0 : Int) ≤ (k : Int) := by omega
                by_cases hkm : k < m
                · have k1 : (k : Int) < (m : Int) := by omega
                  have RC := Lib.hid (reach_any wr gs no m nc nvs NA.out k hkm (some ⟨w6.heap.size, 0, none⟩) (4 + m) bs BO.out.1 (BoolB.row LD.out.on))
                  have cn := InsB.cell LD.out.cnt (i := k) (by rw [CO.out.1]; exact hkm)
                  rw [FIN.out k hkm] at cn
                  obtain ⟨on, hon⟩ : ∃ on, onB gs k bs = on := ⟨_, rfl⟩
                  rw [hon] at RC cn
                  clear hon
                  rcases on with _ | _
                  · rw [if_neg (by decide)] at cn
                    go_wp2_with (first | (go_at_call 33; refine RC.out.mono ?_; rintro e w' ⟨rfl, rfl⟩))
                    go_roundw
                    case rel => exact ⟨trivial, k + 1, by omega, by go_num⟩
                    case measure => simp [intOf]; omega
                  · rw [if_pos rfl] at cn
                    go_wp2_with (first | (go_at_call 33; refine RC.out.mono ?_; rintro e w' ⟨rfl, rfl⟩))
                    go_roundw
                    case rel => exact ⟨trivial, k + 1, by omega, by go_num⟩
                    case measure => simp [intOf]; omega
                · have k1 : ¬ (k : Int) < (m : Int) := by omega
                  have hbw : Below W.heap.size W wr := BW.out.trans ((B2.out.trans (LD.out.low.mono B2.out.size)).mono BW.out.size)
                  go_wp2
                  go_ret
                  exact ⟨rfl, hbw⟩

end dataflowLeast
end Go.Proofs.Ytgbnhngaeefmkaa
