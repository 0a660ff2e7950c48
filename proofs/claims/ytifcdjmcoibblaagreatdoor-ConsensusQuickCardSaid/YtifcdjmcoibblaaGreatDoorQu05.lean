/-
  ConsensusQuick: the walk.
-/
import Derived.Test.YtifcdjmcoibblaaGreatDoorQu04
import Derived.Test.YtifcdjmcoibblaaGreatDoorG36
import Derived.StillTailTactics

/-! ConsensusQuick: the walk. -/
namespace Go.Proofs.YtifcdjmcoibblaaGreatDoor
set_option linter.unusedVariables false
set_option linter.unusedSimpArgs false
open Go.RowKit

/-- a message of a row -/
theorem OutR.msg {Z : Nat → Prop} {wt W : World} {ao : Option Addr} {cap n : Nat} {ms : List MsgB} (h : OutR Z wt W (.slice ao n cap) ms) {q : Nat} {m : MsgB} (hq : ms[q]? = some m) :
    ∃ b off lo lc, ao = some ⟨b, off, none⟩ ∧ (∀ (j : Nat) (u : Value), (encM m (.slice lo m.list.length lc)).toList[j]? = some u → W.cell? ⟨b, off + q * 8 + j, none⟩ = some u) ∧ LRow (NewZ Z wt W) W (.slice lo m.list.length lc) m.list := by
  obtain ⟨sls, h1, h2, h3⟩ := h
  have hz : (sls.zip ms).length = ms.length := by rw [List.length_zip, h1.len, Nat.min_self]
  obtain ⟨ao2, cap2, e, hc, hrw⟩ := rowK_of_owns (enc := encP) (l := sls.zip ms) encP_len (by decide) h2
  injection e with e1 e2 e3
  subst e1
  have hl := (List.getElem?_eq_some_iff.1 hq).1
  have hs : q < sls.length := by rw [h1.len]; exact hl
  have hzq : (sls.zip ms)[q]? = some (sls[q], m) := by
    rw [List.getElem?_zip_eq_some]
    exact ⟨List.getElem?_eq_getElem hs, hq⟩
  obtain ⟨b, off, e4, _, hcell⟩ := hrw q _ hzq
  have hr := all2_zip h1 _ (List.mem_of_getElem? hzq)
  obtain ⟨lo, lc, e5, _⟩ := id hr
  simp only at e5 hr
  rw [e5] at hcell hr
  exact ⟨b, off, lo, lc, e4, hcell, hr⟩

/-- the states as the heights go by -/
def statH (N j0 j1 : Nat) : Nat → List StB
  | 0 => startR N j0
  | h + 1 => nextR h j1 (rndsN 8 (statH N j0 j1 h))

theorem stat_crew {N j0 j1 : Nat} (h7 : N ≤ 7) (hj0 : j0 < 3) (hj1 : j1 < 3) : ∀ h : Nat, Crew N (8 * h) (statH N j0 j1 h) ∧ ∀ s ∈ statH N j0 j1 h, Fit GA s
  | 0 => ⟨start_crew.mono (by simp), start_fit h7 hj0⟩
  | h + 1 => by
    obtain ⟨a, b⟩ := stat_crew h7 hj0 hj1 h
    obtain ⟨c, d⟩ := rnds_crew a b 8
    exact ⟨(next_crew (by omega) c).mono (by push_cast; omega), next_fit hj1 d⟩
theorem fit_len {ns : List StB} {N : Nat} {T : Int} (h : Crew N T ns) : ns.length = N := h.1
theorem outs_len {ns : List StB} : ∀ {K : Nat}, (∀ s ∈ ns, s.tick.2.length ≤ K) → (outsN ns).length ≤ K * ns.length := by
  intro K h
  induction ns with
  | nil => simp [outsN]
  | cons a t ih =>
    have h1 := h a (List.mem_cons_self ..)
    have h2 := ih (fun s hs => h s (List.mem_cons_of_mem _ hs))
    unfold outsN at h2 ⊢
    rw [List.flatMap_cons, List.length_append, List.length_cons, Nat.mul_succ]
    omega
/-- a node sends no more than so many messages -/
theorem tick_len {s : StB} (hf : Fit GA s) : s.tick.2.length ≤ 4000 := by
  have ha : s.answers.length ≤ 728 := by
    rw [answers_at]
    have h1 := flat_len hf.qi.q (sortI (s.ques.map (·.1)))
    have h2 := hf.qi.q.len
    rw [sortI_len, List.length_map] at h1
    omega
  by_cases hd : s.isDec s.height = true
  · rw [tick_done hd]; show s.answers.length ≤ _; omega
  · rw [tick_open (by simpa using hd)]
    show (s.answers ++ _).length ≤ _
    rw [List.length_append]
    have h1 := sends_len s.tk2 (s.tk2.mine.drop s.tkFrom)
    have h2 := (tk2_inv hf.ok.inv).num.n7
    have h3 := (tk2_inv hf.ok.inv).mine_len
    have h4 : (s.tk2.mine.drop s.tkFrom).length ≤ 400 := by rw [List.length_drop]; omega
    have h5 : s.tk2.n.toNat * (s.tk2.mine.drop s.tkFrom).length ≤ 7 * 400 := Nat.mul_le_mul (by omega) h4
    omega
theorem outsd_le {ns : List StB} (h : ∀ s ∈ ns, Fit GA s) (i : Nat) : (outsd i ns).length ≤ 4000 * ns.length := by
  have h1 : (outsN (ns.take i)).length ≤ 4000 * (ns.take i).length := outs_len (fun s hs => tick_len (h s (List.mem_of_mem_take hs)))
  have h2 : (ns.take i).length ≤ ns.length := by rw [List.length_take]; omega
  have h3 : outsd i ns = outsN (ns.take i) := rfl
  rw [h3]
  have := Nat.mul_le_mul_left 4000 h2
  omega

theorem OutR.sail2 {G : ByteArray → List ByteArray → Prop} {base : Nat} {wt W W' : World} {xs : List Nat} {ss : List StB} {Rs Rs' : Nat → Nat → Prop} {v : Value} {ms : List MsgB} (hO : OutR (AllR xs.length Rs) wt W v ms) (hs : Sail G base W xs Rs W' ss Rs') : OutR (AllR xs.length Rs') wt W' v ms := hO.sail hs

theorem same_fam (ao bo : Option Addr) (ca cb : Nat) (l : List ByteArray) (W : World) {Ra Rb : Nat → Prop} (hl : l.length ≤ 60) (ha : LRow Ra W (.slice ao l.length ca) l) (hb : LRow Rb W (.slice bo l.length cb) l) :
    Calls Tryz.prog 22 #[.slice ao l.length ca, .slice bo l.length cb] W fun e w' => e = .returned (.bool true) ∧ Below W.heap.size W w' := by
  obtain ⟨a2, c2, e1, _, hra⟩ := ha.row
  obtain ⟨b2, d2, e2, _, hrb⟩ := hb.row
  injection e1 with e1 _ _
  injection e2 with e2 _ _
  subst e1 e2
  refine (same_any ao bo ca cb _ _ l l W rfl rfl (by omega) hra hrb).mono ?_
  rintro e w' ⟨rfl, h⟩
  refine ⟨?_, h⟩
  unfold sameB
  rw [decide_eq_true rfl]
/-- i nodes have begun the next height -/
def nx (h j : Nat) (s : StB) : StB := if h = 0 then bgn 1 j s else s
def mixed (h j i : Nat) (ns : List StB) : List StB := (ns.take i).map (nx h j) ++ ns.drop i
theorem mixed_zero (h j : Nat) (ns : List StB) : mixed h j 0 ns = ns := by simp [mixed]
theorem mixed_all {h j i : Nat} {ns : List StB} (hi : ns.length ≤ i) : mixed h j i ns = nextR h j ns := by
  unfold mixed nextR
  rw [List.take_of_length_le hi, List.drop_of_length_le hi, List.append_nil]
  split
  · apply List.map_congr_left
    intro s _
    unfold nx
    rw [if_pos (by assumption)]
  · have : ∀ l : List StB, l.map (nx h j) = l := fun l => by
      induction l with
      | nil => rfl
      | cons a t ih => rw [List.map_cons, ih]; unfold nx; rw [if_neg (by assumption)]
    exact this ns
theorem mixed_at {h j i : Nat} {ns : List StB} (hi : i < ns.length) : (mixed h j i ns)[i]? = some ns[i] := by
  unfold mixed
  rw [List.getElem?_append_right (by simp; omega)]
  simp [Nat.min_eq_left (Nat.le_of_lt hi), hi]
theorem mixed_next {h j i : Nat} {ns : List StB} (hi : i < ns.length) : (mixed h j i ns).set i (nx h j ns[i]) = mixed h j (i + 1) ns := by
  unfold mixed
  have e : ((ns.take i).map (nx h j)).length = i := by rw [List.length_map, List.length_take, Nat.min_eq_left (Nat.le_of_lt hi)]
  rw [List.take_succ_eq_append_getElem hi, List.map_append, List.drop_eq_getElem_cons hi, List.set_append_right _ _ (by rw [e]; exact Nat.le_refl _), e, Nat.sub_self, List.append_assoc]
  rfl
theorem mixed_skip {h j i : Nat} {ns : List StB} (hi : i < ns.length) (hz : ¬ h = 0) : mixed h j (i + 1) ns = mixed h j i ns := by
  have hl : i < (mixed h j i ns).length := (List.getElem?_eq_some_iff.1 (mixed_at (h := h) (j := j) hi)).1
  rw [← mixed_next hi]
  apply List.ext_getElem?
  intro q
  rw [List.getElem?_set]
  by_cases e : i = q
  · subst e
    rw [if_pos rfl, if_pos hl, mixed_at hi]
    unfold nx
    rw [if_neg hz]
  · rw [if_neg e]
theorem mixed_begin {h j i : Nat} {ns : List StB} (hi : i < ns.length) (hz : h = 0) : (mixed h j i ns).set i (bgn 1 j ns[i]) = mixed h j (i + 1) ns := by
  rw [← mixed_next hi]
  unfold nx
  rw [if_pos hz]
theorem wrap_64 (x : Int) : IntKind.wrap .i64 x = RowKit.wrap64 x := by unfold RowKit.wrap64; rw [IntKind.wrap_i64]
theorem wrap64_rng (x : Int) : -9223372036854775808 ≤ RowKit.wrap64 x ∧ RowKit.wrap64 x ≤ 9223372036854775807 := by
  unfold RowKit.wrap64
  omega
theorem stat_facts {N j0 j1 h : Nat} (q : QuickR N j0 j1) (hh : h < 2) : ∀ s ∈ rndsN 8 (statH N j0 j1 h), ((∃ v, getA (h : Int) s.decs = some v ∧ v.list = fam (if h = 0 then j0 else j1)) ∧ s.round = 0) ∧ (h = 0 → (s.begin 1 (ascS (fam j1)) (digV (fam j1)) (fam j1)).2 = true) := by
  intro s hs
  rcases h with _ | _ | h
  · exact ⟨q.a s hs, fun _ => q.b s hs⟩
  · exact ⟨q.c s hs, fun h => by omega⟩
  · omega

section
variable (n k : Int) (w : World)
set_option maxRecDepth 100000 in
set_option maxHeartbeats 8000000 in
theorem quick_any (hn1 : -9223372036854775808 ≤ n) (hn2 : n ≤ 9223372036854775807) (hk1 : -9223372036854775808 ≤ k) (hk2 : k ≤ 9223372036854775807) (hG : Glob w) :
    Calls Tryz.prog 3 #[.int .i64 n, .int .i64 k] w fun e w' => e = .returned (.bool true) ∧ Below w.heap.size w w' := by
  have HGL := Lib.hid hG
  have SN := Lib.hid (sane_any w hG)
  obtain ⟨N1, hN1, hpn⟩ := pickZ_nat n 7 (by omega)
  obtain ⟨j0, hj0, hpk⟩ := pickZ_nat k 3 (by omega)
  have PN := Lib.hid (show ∀ W, Calls Tryz.prog 14 #[.int .i64 n, .int .i64 7] W fun e w' => e = .returned (.int .i64 (N1 : Int)) ∧ w' = W from fun W => (pick_any n 7 W hn1 hn2 (by omega) (by omega)).mono fun e w' q => ⟨by rw [q.1]; exact congrArg _ (congrArg _ hpn), q.2.symm⟩)
  have PK := Lib.hid (show ∀ W, Calls Tryz.prog 14 #[.int .i64 k, .int .i64 3] W fun e w' => e = .returned (.int .i64 (j0 : Int)) ∧ w' = W from fun W => (pick_any k 3 W hk1 hk2 (by omega) (by omega)).mono fun e w' q => ⟨by rw [q.1]; exact congrArg _ (congrArg _ hpk), q.2.symm⟩)
  obtain ⟨N, hN⟩ : ∃ N : Nat, N = 1 + N1 := ⟨_, rfl⟩
  have nn1 : (N1 : Int) < 7 := by omega
  have hN' : (1 : Int) + (N1 : Int) = (N : Int) := by omega
  have n1 : 1 ≤ (N : Int) := by omega
  have n7 : (N : Int) ≤ 7 := by omega
  have jj0 : (0 : Int) ≤ (j0 : Int) := by omega
  have jj3 : (j0 : Int) < 3 := by omega
  have HJ := Lib.hid hj0
  obtain ⟨j1, hj1, hpk1⟩ := pickZ_nat (RowKit.wrap64 (k + 1)) 3 (by omega)
  have HJ1 := Lib.hid hj1
  have HPK1 := Lib.hid hpk1
  have HPK0 := Lib.hid hpk
  have SC := Lib.hid (fun h => stat_crew (N := N) (by omega) hj0 hj1 h)
  have QR := Lib.hid (quickR (N := N) (by omega) (by omega) hj0 hj1)
  clear hG hpn hpk hpk1 hN
  go_enter Tryz.func3, Tryz.ntmps3
  go_upto_region 3 with (first
    | (go_at_call 13; (with_reducible refine SN.out.mono ?_); rintro e w1 ⟨rfl, hb1⟩; have HB1 := Lib.hid hb1; clear hb1)
    | (go_at_call 14; (with_reducible refine (PN.out _).mono ?_); rintro e wq ⟨rfl, hwq⟩; rw [hwq]; clear hwq wq))
  have HG1 := Lib.hid (show Glob w1 from by
    obtain ⟨t, ht⟩ := HGL.out
    exact ⟨t, (HB1.out.block 0 (Array.getElem?_eq_some_iff.1 ht).1).trans ht⟩)
  have HP1 := Lib.hid (show 0 < w1.heap.size from by
    obtain ⟨t, ht⟩ := HG1.out
    exact (Array.getElem?_eq_some_iff.1 ht).1)
  clear SN
  go_wp2_with fail
  go_loopw [6, 7] (fun v i wr => ∃ q : Nat, q ≤ N ∧ i = .int .i64 (q : Int) ∧ Yard w1.heap.size w1 N j0 q v wr) (fun _ i _ => N - (intOf i).toNat)
  case atStart => exact ⟨0, Nat.zero_le _, rfl, Yard.nil HP1.out HG1.out N j0⟩
  case round =>
    obtain ⟨q, hq, rfl, hy⟩ := hrel
    have HY := Lib.hid hy
    have q0 : (0 : Int) ≤ (q : Int) := by omega
    by_cases hlt : q < N
    · have q1 : (q : Int) < (N : Int) := by omega
      have q7 : (q : Int) < 7 := by omega
      have NW := Lib.hid (yard_new hy hlt (by omega))
      have HQ7 := Lib.hid (show q < 7 from by omega)
      unfold pv at NW
      clear hy
      go_upto_region 10 with (first
        | (go_at_call 15; (with_reducible refine NW.out.mono ?_); rintro e w2 ⟨x, rfl, h2⟩; have YA := Lib.hid h2; clear h2)
        | (go_at_call 17; (with_reducible refine (lists_any _).mono ?_); rintro e w3 ⟨g, rfl, hb3, hl3⟩; obtain ⟨vl, c1, r1⟩ := hl3.cell j0 (Nat.lt_of_lt_of_le HJ.out (by decide)); rw [lst_fam (Nat.lt_of_lt_of_le HJ.out (by decide))] at r1; have R1 := Lib.hid r1; have B3 := Lib.hid hb3; have BG := Lib.hid (yard_begin (YA.out.later hb3) HJ.out r1 (fun k hk => hk.2)); unfold pv iv at BG; clear r1 hb3 hl3)
        | (go_at_call 14; (with_reducible refine (PK.out _).mono ?_); rintro e wq ⟨rfl, hwq⟩; rw [hwq]; clear hwq wq)
        | (go_at_call 16; (with_reducible refine BG.out.mono ?_); rintro e w4 ⟨rfl, h4⟩; have YB := Lib.hid h4; clear h4))
      clear c1
      go_wp2_with (first
        | (refine wpList_yard (x := x) (base := w1.heap.size) (w1 := w1) (N := N) (j := j0) (i := q) (W := w4) rfl (.tmp 49) (.tmp 51) (by rfl) (by rfl) YB.out HQ7.out (by rfl) ?_; intro v5 w5 h5; have Y5 := Lib.hid h5; clear h5))
      go_roundw
      case rel => exact ⟨q + 1, by omega, by go_num, Y5.out⟩
      case measure => simp [intOf]; omega
    · have q1 : ¬ (q : Int) < (N : Int) := by omega
      have hqN : q = N := by omega
      rw [hqN] at hy
      obtain ⟨gn, cap, cur, xs, Rs, rfl, hxl, hfl⟩ := hy.fleet (by omega)
      have HF := Lib.hid hfl
      have HXL := Lib.hid hxl
      clear hqN hy hfl hxl HY
      go_wp2_with fail
      go_loopw [10] (fun hv wr => ∃ (h : Nat) (Rs : Nat → Nat → Prop), h ≤ 2 ∧ hv = .int .i64 (h : Int) ∧ Fl GA w1.heap.size w1 gn cur xs (statH N j0 j1 h) Rs wr) (fun hv _ => 2 - (intOf hv).toNat)
      case atStart => exact ⟨0, Rs, by omega, rfl, HF.out⟩
      case round =>
        clear HF
        obtain ⟨h, Rh, hh, rfl, hfl⟩ := hrel
        have HF := Lib.hid hfl
        have h0 : (0 : Int) ≤ (h : Int) := by omega
        clear hfl
        by_cases hh2 : h < 2
        · have h1 : (h : Int) < 2 := by omega
          obtain ⟨hc, hft⟩ := SC.out h
          obtain ⟨ms0, hms0⟩ : ∃ ms0, ms0 = statH N j0 j1 h := ⟨_, rfl⟩
          rw [← hms0] at hc hft HF
          have HC := Lib.hid hc
          have HFT := Lib.hid hft
          have HMS := Lib.hid hms0
          clear hc hft hms0
          go_wp2_with fail
          go_loopw [11] (fun tv wr => ∃ (t : Nat) (Rs : Nat → Nat → Prop), t ≤ 8 ∧ tv = .int .i64 (t : Int) ∧ Fl GA w1.heap.size w1 gn cur xs (rndsN t ms0) Rs wr) (fun tv _ => 8 - (intOf tv).toNat)
          case atStart => exact ⟨0, Rh, by omega, rfl, HF.out⟩
          case round =>
            clear HF
            obtain ⟨t, Rt, ht, rfl, hfl⟩ := hrel
            have HF := Lib.hid hfl
            have t0 : (0 : Int) ≤ (t : Int) := by omega
            clear hfl
            by_cases ht8 : t < 8
            · have t1 : (t : Int) < 8 := by omega
              obtain ⟨hc, hft⟩ := rnds_crew HC.out HFT.out t
              obtain ⟨ns, hns⟩ : ∃ ns, ns = rndsN t ms0 := ⟨_, rfl⟩
              rw [← hns] at hc hft HF
              have HCN := Lib.hid hc
              have HFN := Lib.hid hft
              have HNS := Lib.hid hns
              have HNL := Lib.hid hc.1
              clear hc hft hns
              obtain ⟨wt, rfl⟩ : ∃ wt : World, wt = wr := ⟨_, rfl⟩
              go_wp2_with fail
              go_loopw [12, 13] (fun v iv wr => ∃ (i : Nat) (Rs : Nat → Nat → Prop), i ≤ N ∧ iv = .int .i64 (i : Int) ∧ Fl GA w1.heap.size w1 gn cur xs (tickd i ns) Rs wr ∧ OutR (AllR xs.length Rs) wt wr v (outsd i ns) ∧ wt.heap.size ≤ wr.heap.size) (fun _ iv _ => N - (intOf iv).toNat)
              case atStart => exact ⟨0, Rt, Nat.zero_le _, rfl, by rw [tickd_zero]; exact HF.out, by rw [outsd_zero]; exact OutR.nil _ _ _, Nat.le_refl _⟩
              case round =>
                obtain ⟨i, Ri, hi, rfl, hfl, hor, hsz⟩ := hrel
                have HFI := Lib.hid hfl
                have HOI := Lib.hid hor
                have i0 : (0 : Int) ≤ (i : Int) := by omega
                by_cases hin : i < N
                · have i1 : (i : Int) < (N : Int) := by omega
                  have hil : i < ns.length := by rw [HNL.out]; exact hin
                  obtain ⟨x, hx⟩ : ∃ x, xs[i]? = some x := ⟨xs[i]'(by rw [HXL.out]; exact hin), List.getElem?_eq_getElem _⟩
                  have cx := hfl.cell hx
                  have HX := Lib.hid hx
                  have TK := Lib.hid (ntick GA.gf hfl.net hfl.size hx (tickd_at hil) (by
                    have := (HCN.out.2 ns[i] (List.getElem_mem _)).2
                    omega))
                  unfold pv at cx TK
                  have HGN := Lib.hid (show gn < wt.heap.size from HF.out.asd.1)
                  have HSZ := Lib.hid hsz
                  clear hfl hor hx
                  have HBT := Lib.hid HF.out.size
                  have HLE := Lib.hid (show (outsd i ns).length + ns[i].tick.2.length ≤ 100000000 from by
                    have a1 := outsd_le HFN.out i
                    have a2 := tick_len (HFN.out ns[i] (List.getElem_mem _))
                    have a3 := HNL.out
                    omega)
                  have HTN := Lib.hid (tickd_next hil)
                  have HON := Lib.hid (outsd_next hil)
                  obtain ⟨od, hod⟩ : ∃ od, od = outsd i ns := ⟨_, rfl⟩
                  obtain ⟨nw, hnw⟩ : ∃ nw, nw = ns[i].tick.2 := ⟨_, rfl⟩
                  rw [← hod, ← hnw] at HON HLE
                  rw [← hod] at HOI
                  rw [← hnw] at TK
                  clear hod hnw
                  go_wp2_with (first
                    | (go_at_call 18; (with_reducible refine TK.out.mono ?_); rintro e w2 ⟨v3, Rs2, rfl, hs2, ho2⟩; have F2 := Lib.hid (HFI.out.sail hs2); rw [HTN.out] at F2 hs2; have O2 := Lib.hid (OutR.sail2 HOI.out hs2); have P2 := Lib.hid ho2; have Z2 := Lib.hid (Nat.le_trans HSZ.out hs2.chg.size); clear hs2 ho2)
                    | (refine wpList_flpush (wt := wt) (wx := wr) (nw := nw) rfl (.tmp 66) (.tmp 71) (by rfl) (by rfl) (by rfl) F2.out O2.out P2.out HSZ.out HBT.out HGN.out Z2.out HLE.out ?_; intro v5 w5 o5 f5 z5; have O5 := Lib.hid o5; have F5 := Lib.hid f5; have Z5 := Lib.hid z5; clear o5 f5 z5))
                  go_roundw
                  case rel => exact ⟨i + 1, Rs2, by omega, by go_num, F5.out, by rw [HON.out]; exact O5.out, Z5.out⟩
                  case measure => simp [intOf]; omega
                · have i1 : ¬ (i : Int) < (N : Int) := by omega
                  have hNi : ns.length ≤ i := by rw [HNL.out]; omega
                  rw [tickd_all hNi] at hfl
                  rw [outsd_all hNi] at hor
                  obtain ⟨ao, cap2, rfl⟩ := out_slice hor
                  have HF5 := Lib.hid hfl
                  have HO5 := Lib.hid hor
                  have HOK := Lib.hid (outs_ok HCN.out HFN.out)
                  obtain ⟨ms, hms⟩ : ∃ ms, ms = outsN ns := ⟨_, rfl⟩
                  rw [← hms] at HO5 HOK
                  rw [← hms]
                  have HMSN := Lib.hid hms
                  have HML := Lib.hid (show ms.length ≤ 28000 from by
                    rw [hms]
                    have a1 := outsd_le HFN.out i
                    rw [outsd_all hNi] at a1
                    have a3 := HNL.out
                    omega)
                  clear hNi hfl hor hms HFI HOI HF
                  go_wp2_with fail
                  go_loopw [14] (fun qv wr => ∃ (q : Nat) (Rs : Nat → Nat → Prop), q ≤ ms.length ∧ qv = .int .i64 (q : Int) ∧ Fl GA w1.heap.size w1 gn cur xs (gotN q ns) Rs wr ∧ OutR (AllR xs.length Rs) wt wr (.slice ao ms.length cap2) ms) (fun qv _ => ms.length - (intOf qv).toNat)
                  case atStart => exact ⟨0, Ri, Nat.zero_le _, rfl, HF5.out, HO5.out⟩
                  case round =>
                    clear HF5 HO5
                    obtain ⟨q, Rq, hq, rfl, hfl, hor⟩ := hrel
                    have HFQ := Lib.hid hfl
                    have HOQ := Lib.hid hor
                    have q0 : (0 : Int) ≤ (q : Int) := by omega
                    have hml := HML.out
                    by_cases hqm : q < ms.length
                    · have q1 : (q : Int) < (ms.length : Int) := by omega
                      obtain ⟨m, hm⟩ : ∃ m, ms[q]? = some m := ⟨ms[q], List.getElem?_eq_getElem hqm⟩
                      obtain ⟨hv, hl60, hga, ht0, htn⟩ := HOK.out m (List.mem_of_getElem? hm)
                      obtain ⟨b, off, lo, lc, rfl, hce, hlr⟩ := hor.msg hm
                      obtain ⟨tn, htn'⟩ : ∃ tn : Nat, m.to = (tn : Int) := ⟨m.to.toNat, by omega⟩
                      have tn0 : (0 : Int) ≤ (tn : Int) := by omega
                      have tn1 : (tn : Int) < (N : Int) := by omega
                      have e0 := hce 0 _ rfl
                      have e1 := hce 1 _ rfl
                      have e2 := hce 2 _ rfl
                      have e3 := hce 3 _ rfl
                      have e4 := hce 4 _ rfl
                      have e5 := hce 5 _ rfl
                      have e6 := hce 6 _ rfl
                      have e7 := hce 7 _ rfl
                      unfold iv at e0 e1 e2 e3 e4 e5
                      simp only [Nat.add_zero] at e0
                      rw [htn'] at e2
                      obtain ⟨x, hx⟩ : ∃ x, xs[tn]? = some x := ⟨xs[tn]'(by rw [HXL.out]; omega), List.getElem?_eq_getElem _⟩
                      obtain ⟨sx, hsx⟩ : ∃ sx, (gotN q ns)[tn]? = some sx := ⟨(gotN q ns)[tn]'(by rw [gotN_len, HNL.out]; omega), List.getElem?_eq_getElem _⟩
                      have cx := hfl.cell hx
                      have hlt : ∀ c, NewZ (AllR xs.length Rq) wt wr c → c < wr.heap.size := fun c hc => hc.1.2
                      have HVA := Lib.hid ((valid_any (R := NewZ (AllR xs.length Rq) wt wr) (m := m) (v := .agg (encM m (.slice lo m.list.length lc))) ⟨_, rfl, hlr⟩ hlt hl60 (fun _ => hfl.gl)).mono (fun e w' q => show e = .returned (.bool true) ∧ Below wr.heap.size wr w' from ⟨by rw [q.1, hv], q.2⟩))
                      have HRC := Lib.hid (show ∀ W, Below wr.heap.size wr W → Calls Tryz.prog 20 #[pv x, .agg (encM m (.slice lo m.list.length lc))] W fun e w' => e = .returned (.tuple #[]) ∧ ∃ Rs', Fl GA w1.heap.size w1 gn cur xs (gotN (q + 1) ns) Rs' w' ∧ OutR (AllR xs.length Rs') wt w' (.slice (some ⟨b, off, none⟩) ms.length cap2) ms from fun W hW => by
                        have hfw := hfl.later hW
                        refine (nrecv (R0 := NewZ (AllR xs.length Rq) wt wr) (m := m) GA.gf hfw.net hfw.size hx hsx ⟨_, rfl, hlr.kept (fun g cur fr hr _ => hW.block g hr.1.2)⟩ (fun c hc => Nat.lt_of_lt_of_le hc.1.2 hW.size) hl60 hfw.gl (fun _ => hga)).mono ?_
                        rintro e w' ⟨rfl, Rs', hs⟩
                        rw [hv] at hs
                        have e9 : (gotN q ns).set tn (sx.receive m true) = gotN (q + 1) ns := by
                          rw [gotN_next (by rw [← HMSN.out]; exact hm), set_modify hsx (fun s => s.receive m true)]
                          unfold dlvN
                          rw [htn']
                          rfl
                        rw [e9] at hs
                        exact ⟨rfl, Rs', hfw.sail hs, OutR.sail2 (hor.later hW) hs⟩)
                      have KEEP := Lib.hid (show ∀ W, Below wr.heap.size wr W → W.cell? ⟨b, off + q * 8, none⟩ = some (.int .i64 m.kind) ∧ W.cell? ⟨b, off + q * 8 + 1, none⟩ = some (.int .i64 m.frm) ∧ W.cell? ⟨b, off + q * 8 + 2, none⟩ = some (.int .i64 (tn : Int)) ∧ W.cell? ⟨b, off + q * 8 + 3, none⟩ = some (.int .i64 m.height) ∧ W.cell? ⟨b, off + q * 8 + 4, none⟩ = some (.int .i64 m.round) ∧ W.cell? ⟨b, off + q * 8 + 5, none⟩ = some (.int .i64 m.valid) ∧ W.cell? ⟨b, off + q * 8 + 6, none⟩ = some (.string m.dig) ∧ W.cell? ⟨b, off + q * 8 + 7, none⟩ = some (.slice lo m.list.length lc) ∧ W.cell? ⟨gn, tn, none⟩ = some (.pointer (some ⟨x, 0, none⟩)) ∧ Below wr.heap.size wr W from fun W hW => by
                        have up : ∀ {a : Addr} {u : Value}, wr.cell? a = some u → W.cell? a = some u := fun {a u} h => by
                          rw [World.cell?_of_block (w := wr) (hW.block a.block (World.block_lt_of_cell? _ _ h))]; exact h
                        exact ⟨up e0, up e1, up e2, up e3, up e4, up e5, up e6, up e7, up cx, hW⟩)
                      unfold encM pv iv at HRC
                      unfold encM iv at HVA
                      rw [htn'] at HRC HVA
                      unfold pv at cx
                      clear hfl hor hm hv hl60 hga ht0 htn hce hlr htn' hx hsx hlt HOK
                      go_upto_region 27 with ((go_at_call 19; (with_reducible refine HVA.out.mono ?_); rintro e w4 ⟨rfl, hb4⟩; have HB4 := Lib.hid hb4; clear hb4 e0 e1 e2 e3 e4 e5 e6 e7 cx))
                      obtain ⟨e0, e1, e2, e3, e4, e5, e6, e7, cx, _⟩ := KEEP.out w4 HB4.out
                      go_wp2_with fail
                      go_still_tail 12, (by kernel_rfl)
                      change wpList _ _ _ _ _ w4.drew
                      have RC6 := Lib.hid (HRC.out w4.drew HB4.out.drew)
                      generalize w4.drew = w5 at RC6 ⊢
                      clear e0 e1 e2 e3 e4 e5 e6 e7 cx KEEP HRC HVA
                      go_wp2_with (go_at_call 20; (with_reducible refine RC6.out.mono ?_); rintro e w6 ⟨rfl, Rs6, f6, o6⟩; have F6 := Lib.hid f6; have O6 := Lib.hid o6; clear f6 o6)
                      go_roundw
                      case rel => exact ⟨q + 1, Rs6, by omega, by go_num, F6.out, O6.out⟩
                      case measure => simp [intOf]; omega
                    · have q1 : ¬ (q : Int) < (ms.length : Int) := by omega
                      have HE5 := Lib.hid (show Fl GA w1.heap.size w1 gn cur xs (rndsN (t + 1) ms0) Rq wr from by
                        have e9 : gotN q ns = rndN ns := gotN_all (by rw [← HMSN.out]; omega)
                        rw [e9, HNS.out] at hfl
                        exact hfl)
                      clear hfl hor HFQ HOQ HOK
                      go_wp2_with fail
                      go_roundw
                      case rel => exact ⟨t + 1, Rq, by omega, by go_num, HE5.out⟩
                      case measure => simp [intOf]; omega
            · have t1 : ¬ (t : Int) < 8 := by omega
              have ht8' : t = 8 := by omega
              rw [ht8'] at HF
              clear ht8'
              have HFIN := Lib.hid (rnds_crew HC.out HFT.out 8)
              obtain ⟨fin, hfin⟩ : ∃ fin, fin = rndsN 8 ms0 := ⟨_, rfl⟩
              rw [← hfin] at HF HFIN
              have HFL := Lib.hid HFIN.out.1.1
              obtain ⟨jh, hjh⟩ : ∃ jh : Nat, jh = if h = 0 then j0 else j1 := ⟨_, rfl⟩
              have HJH := Lib.hid (show jh < 3 from by rw [hjh]; split; exact HJ.out; exact HJ1.out)
              have SF := Lib.hid (show ∀ s ∈ fin, ((∃ v, getA (h : Int) s.decs = some v ∧ v.list = fam jh) ∧ s.round = 0) ∧ (h = 0 → (s.begin 1 (ascS (fam j1)) (digV (fam j1)) (fam j1)).2 = true) from by
                rw [hfin, HMS.out, hjh]
                exact stat_facts QR.out hh2)
              have HNX := Lib.hid (show nextR h j1 fin = statH N j0 j1 (h + 1) from by rw [hfin, HMS.out]; rfl)
              have PH := Lib.hid (show ∀ W, Calls Tryz.prog 14 #[.int .i64 (RowKit.wrap64 (k + (h : Int))), .int .i64 3] W fun e w' => e = .returned (.int .i64 (jh : Int)) ∧ w' = W from fun W => by
                have hr := wrap64_rng (k + (h : Int))
                refine (pick_any _ 3 W hr.1 hr.2 (by omega) (by omega)).mono fun e w' q => ⟨?_, q.2.symm⟩
                rw [q.1]
                refine congrArg _ (congrArg _ ?_)
                rw [hjh]
                by_cases hz : h = 0
                · rw [if_pos hz, hz]
                  have : RowKit.wrap64 (k + ((0 : Nat) : Int)) = k := by unfold RowKit.wrap64; omega
                  rw [this]; exact HPK0.out
                · rw [if_neg hz, show h = 1 from by omega]
                  exact HPK1.out)
              have P1 := Lib.hid (show ∀ W, Calls Tryz.prog 14 #[.int .i64 (IntKind.wrap .i64 (k + 1)), .int .i64 3] W fun e w' => e = .returned (.int .i64 (j1 : Int)) ∧ w' = W from fun W => by
                have hr := wrap64_rng (k + 1)
                rw [wrap_64]
                refine (pick_any _ 3 W hr.1 hr.2 (by omega) (by omega)).mono fun e w' q => ⟨?_, q.2.symm⟩
                rw [q.1]
                exact congrArg _ (congrArg _ HPK1.out))
              have jh0 : (0 : Int) ≤ (jh : Int) := by omega
              have jh3 : (jh : Int) < 3 := by have := HJH.out; omega
              have j10 : (0 : Int) ≤ (j1 : Int) := by omega
              have j13 : (j1 : Int) < 3 := by have := HJ1.out; omega
              have j14 : (j1 : Int) < 4 := by omega
              clear hfin hjh
              go_wp2_with fail
              go_loopw [15] (fun iv wr => ∃ (i : Nat) (Rs : Nat → Nat → Prop), i ≤ N ∧ iv = .int .i64 (i : Int) ∧ Fl GA w1.heap.size w1 gn cur xs (mixed h j1 i fin) Rs wr) (fun iv _ => N - (intOf iv).toNat)
              case atStart => exact ⟨0, Rt, Nat.zero_le _, rfl, by rw [mixed_zero]; exact HF.out⟩
              case round =>
                clear HF
                obtain ⟨i, Ri, hi, rfl, hfl⟩ := hrel
                have HFI := Lib.hid hfl
                have i0 : (0 : Int) ≤ (i : Int) := by omega
                by_cases hin : i < N
                · have i1 : (i : Int) < (N : Int) := by omega
                  have hil : i < fin.length := by rw [HFL.out]; exact hin
                  obtain ⟨x, hx⟩ : ∃ x, xs[i]? = some x := ⟨xs[i]'(by rw [HXL.out]; exact hin), List.getElem?_eq_getElem _⟩
                  have cx := hfl.cell hx
                  obtain ⟨⟨⟨v, hv, hvl⟩, hrd⟩, hbg⟩ := SF.out fin[i] (List.getElem_mem _)
                  have DEC := Lib.hid (show Calls Tryz.prog 21 #[pv x, iv (h : Int)] wr fun e w' => ∃ ao cap, e = .returned (.tuple #[.slice ao (fam jh).length cap, .bool true]) ∧ LRow (New wr w') w' (.slice ao (fam jh).length cap) (fam jh) ∧ Below wr.heap.size wr w' from by
                    refine (ndecided GA.gf hfl.net hx (mixed_at hil) (h : Int)).mono ?_
                    rintro e w' ⟨h2, hb⟩
                    rw [hv] at h2
                    obtain ⟨u, rfl, hr⟩ := h2
                    rw [hvl] at hr
                    obtain ⟨ao, cap, rfl, _⟩ := id hr
                    exact ⟨ao, cap, rfl, hr, hb⟩)
                  have RND := Lib.hid (show ∀ W, Below wr.heap.size wr W → Calls Tryz.prog 23 #[pv x] W fun e w' => e = .returned (.int .i64 0) ∧ w' = W from fun W hW => (nround (hfl.later hW).net hx (mixed_at hil)).mono fun e w' q => ⟨by rw [q.1, hrd], q.2⟩)
                  have HX := Lib.hid hx
                  have HIL := Lib.hid hil
                  have HBG := Lib.hid hbg
                  unfold pv at cx RND
                  unfold pv iv at DEC
                  clear hfl hx hv hvl hrd hbg
                  go_upto_region 32 with ((go_at_call 21; (with_reducible refine DEC.out.mono ?_); rintro e w2 ⟨ao, cap2, rfl, hr2, hb2⟩; have R2 := Lib.hid hr2; have B2 := Lib.hid hb2; have cx := (show w2.cell? ⟨gn, i, none⟩ = some (.pointer (some ⟨x, 0, none⟩)) from by rw [World.cell?_of_block (w := wr) (hb2.block gn HFI.out.asd.1)]; exact cx); clear hr2 hb2))
                  have HB2 := Lib.hid B2.out
                  have F2 := Lib.hid (HFI.out.later B2.out)
                  go_upto_region 34 with (first
                    | (go_at_call 17; (with_reducible refine (lists_any _).mono ?_); rintro e w3 ⟨g, rfl, hb3, hl3⟩; obtain ⟨vl, c1, r1⟩ := hl3.cell jh (Nat.lt_of_lt_of_le HJH.out (by decide)); rw [lst_fam (Nat.lt_of_lt_of_le HJH.out (by decide))] at r1; obtain ⟨ao3, cap3, hvl3, _⟩ := id r1; subst hvl3; have B3 := Lib.hid hb3; have SM := Lib.hid (same_fam ao ao3 cap2 cap3 (fam jh) w3 fam_len ((R2.out.kept (fun g cur fr hr _ => hb3.block g hr.2))) r1); clear r1 hb3 hl3)
                    | (go_at_call 14; (with_reducible refine (PH.out _).mono ?_); rintro e wq ⟨rfl, hwq⟩; rw [hwq]; clear hwq wq)
                    | (go_at_call 22; (with_reducible refine SM.out.mono ?_); rintro e w4 ⟨rfl, hb4⟩; have B4 := Lib.hid (B2.out.trans ((B3.out.trans (hb4.mono B3.out.size)).mono B2.out.size)); have cx := (show w4.cell? ⟨gn, i, none⟩ = some (.pointer (some ⟨x, 0, none⟩)) from by rw [World.cell?_of_block (w := w2) ((B3.out.trans (hb4.mono B3.out.size)).block gn F2.out.asd.1)]; exact cx); clear hb4)
                    | (go_at_call 23; (with_reducible refine (RND.out _ B4.out).mono ?_); rintro e wq ⟨rfl, hwq⟩; rw [hwq]; clear hwq wq))
                  have F4 := Lib.hid (HFI.out.later B4.out)
                  clear c1
                  by_cases hz : h = 0
                  · have hz1 : ((h : Int) == 0) = true := by simp [hz]
                    have HZ := Lib.hid hz
                    clear hz
                    have HNX1 := Lib.hid (show (mixed h j1 i fin).set i (bgn 1 j1 fin[i]) = mixed h j1 (i + 1) fin from mixed_begin HIL.out HZ.out)
                    have HBO := Lib.hid (HBG.out HZ.out)
                    have KEEP := Lib.hid (show ∀ W : World, W.heap[gn]? = w4.heap[gn]? → W.cell? ⟨gn, i, none⟩ = some (.pointer (some ⟨x, 0, none⟩)) from fun W hW => by
                      rw [World.cell?_of_block (w := w4) hW]; exact cx)
                    have BGN := Lib.hid (show ∀ (W : World) (vl : Value), Below w4.heap.size w4 W → LRow (New w4 W) W vl (fam j1) → Calls Tryz.prog 16 #[pv x, iv 1, vl] W fun e w' => e = .returned (.int .i64 0) ∧ ∃ Rs', Fl GA w1.heap.size w1 gn cur xs (mixed h j1 (i + 1) fin) Rs' w' ∧ w'.heap[gn]? = w4.heap[gn]? from fun W vl hW hr => by
                      have hfw := F4.out.later hW
                      refine (nbegin GA.gf hfw.net hfw.size HX.out (mixed_at HIL.out) hr (fun k hk => hk.2) fam_len hfw.gl (fun _ => GA.fam (Nat.lt_of_lt_of_le HJ1.out (by decide))) 1).mono ?_
                      rintro e w' ⟨rfl, Rs', hs⟩
                      have hfs := hfw.sail hs
                      refine ⟨by rw [HBO.out]; rfl, Rs', ?_, hfs.row.trans F4.out.row.symm⟩
                      rw [← HNX1.out]
                      exact hfs)
                    unfold pv iv at BGN
                    go_upto_region 34 with (fail)
                    go_cut [166] (fun t wc => t = .bool false ∧ ∃ Rs', Fl GA w1.heap.size w1 gn cur xs (mixed h j1 (i + 1) fin) Rs' wc)
                    case first =>
                      refine wp_region_held_drew (S := fun W => W.cell? ⟨gn, i, none⟩ = some (.pointer (some ⟨x, 0, none⟩))) (by kernel_rfl) (KEEP.out _ rfl) (fun hHeld => ?_)
                      refine wpAnyH_take (i := 0) (oi := _) (v := ?v1) rfl (by kernel_rfl) (by kernel_rfl) (by kernel_rfl) (fun _ _ _ h => h) (Or.inl ⟨by kernel_rfl, ?h1⟩) (by assumption) ?r1
                      case h1 => (intro w hSw; (try dsimp only at hSw); (first | (go_simp; done) | (go_simp; with_reducible rfl)))
                      try simp only [Act.put, List.getElem_toArray, List.getElem_cons_succ, List.getElem_cons_zero, List.setIfInBounds_toArray, List.set_cons_zero, List.set_cons_succ]
                      refine wpAnyH_take (i := 1) (oi := _) (v := ?v2) rfl (by kernel_rfl) (by kernel_rfl) (by kernel_rfl) (fun _ _ _ h => h) (Or.inl ⟨by kernel_rfl, ?h2⟩) (by assumption) ?r2
                      case h2 => (intro w hSw; (try dsimp only at hSw); (first | (go_simp; done) | (go_simp; with_reducible rfl)))
                      try simp only [Act.put, List.getElem_toArray, List.getElem_cons_succ, List.getElem_cons_zero, List.setIfInBounds_toArray, List.set_cons_zero, List.set_cons_succ]
                      refine wpAnyH_take (i := 2) (oi := _) (v := ?v3) rfl (by kernel_rfl) (by kernel_rfl) (by kernel_rfl) (fun _ _ _ h => h) (Or.inl ⟨by kernel_rfl, ?h3⟩) (by assumption) ?r3
                      case h3 => (intro w hSw; (try dsimp only at hSw); (first | (go_simp; done) | (go_simp; with_reducible rfl)))
                      try simp only [Act.put, List.getElem_toArray, List.getElem_cons_succ, List.getElem_cons_zero, List.setIfInBounds_toArray, List.set_cons_zero, List.set_cons_succ]
                      refine wpAnyH_take (i := 3) (oi := _) (v := ?v4) rfl (by kernel_rfl) (by kernel_rfl) (by kernel_rfl) (fun _ _ _ h => h) (Or.inl ⟨by kernel_rfl, ?h4⟩) (by assumption) ?r4
                      case h4 => (intro w hSw; (try dsimp only at hSw); (first | (go_simp; done) | (go_simp; with_reducible rfl)))
                      try simp only [Act.put, List.getElem_toArray, List.getElem_cons_succ, List.getElem_cons_zero, List.setIfInBounds_toArray, List.set_cons_zero, List.set_cons_succ]
                      refine wpAnyH_take (i := 4) (oi := _) (v := ?v5) rfl (by kernel_rfl) (by kernel_rfl) (by kernel_rfl) (fun _ _ _ h => h) (Or.inl ⟨by kernel_rfl, ?h5⟩) (by assumption) ?r5
                      case h5 => (intro w hSw; (try dsimp only at hSw); (first | (go_simp; done) | (go_simp; with_reducible rfl)))
                      try simp only [Act.put, List.getElem_toArray, List.getElem_cons_succ, List.getElem_cons_zero, List.setIfInBounds_toArray, List.set_cons_zero, List.set_cons_succ]
                      refine wpAnyH_take (i := 5) (oi := _) (v := ?v6) rfl (by kernel_rfl) (by kernel_rfl) (by kernel_rfl) (fun _ _ _ h => h) (Or.inl ⟨by kernel_rfl, ?h6⟩) (by assumption) ?r6
                      case h6 => (intro w hSw; (try dsimp only at hSw); (first | (go_simp; done) | (go_simp; with_reducible rfl)))
                      try simp only [Act.put, List.getElem_toArray, List.getElem_cons_succ, List.getElem_cons_zero, List.setIfInBounds_toArray, List.set_cons_zero, List.set_cons_succ]
                      refine wpAnyH_take (i := 6) (oi := _) (v := ?v7) rfl (by kernel_rfl) (by kernel_rfl) (by kernel_rfl) (fun _ _ _ h => h) (Or.inl ⟨by kernel_rfl, ?h7⟩) (by assumption) ?r7
                      case h7 => (intro w hSw; (try dsimp only at hSw); (first | (go_simp; done) | (go_simp; with_reducible rfl)))
                      try simp only [Act.put, List.getElem_toArray, List.getElem_cons_succ, List.getElem_cons_zero, List.setIfInBounds_toArray, List.set_cons_zero, List.set_cons_succ]
                      refine wpAnyH_take (i := 8) (oi := _) (v := ?v8) rfl (by kernel_rfl) (by kernel_rfl) (by kernel_rfl) (fun _ _ _ h => h) (Or.inl ⟨by kernel_rfl, ?h8⟩) (by assumption) ?r8
                      case h8 => (intro w hSw; (try dsimp only at hSw); (first | (go_simp; done) | (go_simp; with_reducible rfl)))
                      try simp only [Act.put, List.getElem_toArray, List.getElem_cons_succ, List.getElem_cons_zero, List.setIfInBounds_toArray, List.set_cons_zero, List.set_cons_succ]
                      refine wpAnyH_take (i := 9) (oi := _) (v := ?v9) rfl (by kernel_rfl) (by kernel_rfl) (by kernel_rfl) (fun _ _ _ h => h) (Or.inl ⟨by kernel_rfl, ?h9⟩) (by assumption) ?r9
                      case h9 => (intro w hSw; (try dsimp only at hSw); (first | (go_simp; done) | (go_simp; with_reducible rfl)))
                      try simp only [Act.put, List.getElem_toArray, List.getElem_cons_succ, List.getElem_cons_zero, List.setIfInBounds_toArray, List.set_cons_zero, List.set_cons_succ]
                      refine wpAnyH_ready (rs := [7]) (by kernel_rfl) (by simp) ?_
                      refine AllReadyH.cons (o := _) rfl (fun K hK => ?_) AllReadyH.nil
                      go_simp
                      go_at_call 17
                      refine (lists_any _).mono ?_
                      rintro e w7 ⟨g7, rfl, hb7, hl7⟩
                      have B7 : Below w4.heap.size w4 w7 := (Below.refl w4.heap.size w4).drew.trans (hb7.mono (Nat.le_refl _))
                      obtain ⟨vl7, c7, r7⟩ := hl7.cell j1 (Nat.lt_of_lt_of_le HJ1.out (by decide))
                      rw [lst_fam (Nat.lt_of_lt_of_le HJ1.out (by decide))] at r7
                      have R7 := Lib.hid (show LRow (New w4 w7) w7 vl7 (fam j1) from r7.mono (fun k hk => ⟨hk.1, hk.2⟩))
                      clear r7 hb7 hl7 hHeld
                      go_wp2_with fail
                      refine hK.out _ _ (KEEP.out _ (B7.block gn F4.out.asd.1)) (fun hHeld => ?_)
                      clear hK K
                      try simp only [Act.put, List.getElem_toArray, List.getElem_cons_succ, List.getElem_cons_zero, List.setIfInBounds_toArray, List.set_cons_zero, List.set_cons_succ]
                      refine wpAnyH_ready (rs := [10]) (by kernel_rfl) (by simp) ?_
                      refine AllReadyH.cons (o := _) rfl (fun K hK => ?_) AllReadyH.nil
                      go_simp
                      go_at_call 14
                      refine (P1.out _).mono ?_
                      rintro e wq ⟨rfl, hwq⟩
                      rw [hwq]
                      clear hwq wq hHeld
                      go_wp2_with fail
                      refine hK.out _ _ (KEEP.out _ (B7.block gn F4.out.asd.1)) (fun hHeld => ?_)
                      clear hK K
                      try simp only [Act.put, List.getElem_toArray, List.getElem_cons_succ, List.getElem_cons_zero, List.setIfInBounds_toArray, List.set_cons_zero, List.set_cons_succ]
                      refine wpAnyH_take (i := 11) (oi := _) (v := ?v10) rfl (by kernel_rfl) (by kernel_rfl) (by kernel_rfl) (fun _ _ _ h => h) (Or.inl ⟨by kernel_rfl, ?h10⟩) (by assumption) ?r10
                      case h10 => (intro w hSw; (try dsimp only at hSw); (first | (go_simp; done) | (go_simp; with_reducible rfl)))
                      try simp only [Act.put, List.getElem_toArray, List.getElem_cons_succ, List.getElem_cons_zero, List.setIfInBounds_toArray, List.set_cons_zero, List.set_cons_succ]
                      refine wpAnyH_ready (rs := [12]) (by kernel_rfl) (by simp) ?_
                      refine AllReadyH.cons (o := _) rfl (fun K hK => ?_) AllReadyH.nil
                      go_simp
                      clear hHeld
                      go_wp2_with fail
                      refine hK.out _ _ (KEEP.out _ (B7.block gn F4.out.asd.1)) (fun hHeld => ?_)
                      clear hK K
                      try simp only [Act.put, List.getElem_toArray, List.getElem_cons_succ, List.getElem_cons_zero, List.setIfInBounds_toArray, List.set_cons_zero, List.set_cons_succ]
                      refine wpAnyH_ready (rs := [13]) (by kernel_rfl) (by simp) ?_
                      refine AllReadyH.cons (o := _) rfl (fun K hK => ?_) AllReadyH.nil
                      go_simp
                      go_at_call 16
                      refine (BGN.out _ _ B7 R7.out).mono ?_
                      rintro e w8 ⟨rfl, Rs8, f8, G8⟩
                      have F8 := Lib.hid f8
                      clear f8 hHeld
                      go_wp2_with fail
                      refine hK.out _ _ (KEEP.out _ G8) (fun hHeld => ?_)
                      clear hK K
                      try simp only [Act.put, List.getElem_toArray, List.getElem_cons_succ, List.getElem_cons_zero, List.setIfInBounds_toArray, List.set_cons_zero, List.set_cons_succ]
                      refine wpAnyH_take (i := 14) (oi := _) (v := ?v11) rfl (by kernel_rfl) (by kernel_rfl) (by kernel_rfl) (fun _ _ _ h => h) (Or.inl ⟨by kernel_rfl, ?h11⟩) (by assumption) ?r11
                      case h11 => (intro w hSw; (try dsimp only at hSw); (first | (go_simp; done) | (go_simp; with_reducible rfl)))
                      try simp only [Act.put, List.getElem_toArray, List.getElem_cons_succ, List.getElem_cons_zero, List.setIfInBounds_toArray, List.set_cons_zero, List.set_cons_succ]
                      refine wpAnyH_take (i := 15) (oi := _) (v := ?v12) rfl (by kernel_rfl) (by kernel_rfl) (by kernel_rfl) (fun _ _ _ h => h) (Or.inl ⟨by kernel_rfl, ?h12⟩) (by assumption) ?r12
                      case h12 => (intro w hSw; (try dsimp only at hSw); (first | (go_simp; done) | (go_simp; with_reducible rfl)))
                      try simp only [Act.put, List.getElem_toArray, List.getElem_cons_succ, List.getElem_cons_zero, List.setIfInBounds_toArray, List.set_cons_zero, List.set_cons_succ]
                      refine wpAnyH_done (by kernel_rfl) ?_ _
                      go_wp2_with fail
                      go_meet
                      refine ⟨?_, Rs8, F8.out⟩
                      first | rfl | (simp; done) | (go_simp; done) | decide
                    case rest =>
                      obtain ⟨rfl, Rs8, f8⟩ := hcut
                      obtain ⟨w8, rfl⟩ : ∃ w8 : World, w8 = wc := ⟨_, rfl⟩
                      have F8 := Lib.hid f8
                      clear f8
                      go_wp2_with fail
                      go_roundw
                      case rel => exact ⟨i + 1, Rs8, by omega, by go_num, F8.out⟩
                      case measure => simp [intOf]; omega
                  · have hz1 : ((h : Int) == 0) = false := by simp; omega
                    have HNI := Lib.hid (show Fl GA w1.heap.size w1 gn cur xs (mixed h j1 (i + 1) fin) Ri w4 from by
                      rw [mixed_skip HIL.out hz]
                      exact F4.out)
                    clear hz
                    go_region
                    go_wp2_with fail
                    go_roundw
                    case rel => exact ⟨i + 1, Ri, by omega, by go_num, HNI.out.later (Below.refl _ _).drew⟩
                    case measure => simp [intOf]; omega
                · have i1 : ¬ (i : Int) < (N : Int) := by omega
                  have HE6 := Lib.hid (show Fl GA w1.heap.size w1 gn cur xs (statH N j0 j1 (h + 1)) Ri wr from by
                    rw [← HNX.out, ← mixed_all (h := h) (j := j1) (i := i) (by rw [HFL.out]; omega)]
                    exact hfl)
                  clear hfl HFI
                  go_wp2_with fail
                  go_roundw
                  case rel => exact ⟨h + 1, Ri, by omega, by go_num, HE6.out⟩
                  case measure => simp [intOf]; omega
        · have h1 : ¬ (h : Int) < 2 := by omega
          have HBE := Lib.hid HF.out.bel
          go_wp2
          go_ret
          exact ⟨rfl, HB1.out.trans (HBE.out.mono HB1.out.size)⟩
end

end Go.Proofs.YtifcdjmcoibblaaGreatDoor
