/-
  The contract of amount.Apportion: the parts by largest remainders, or nothing.
-/
import Derived.Test.YtbefbodihfijbaaApp
namespace Go.Proofs.Ytbefbodihfijbaa
set_option linter.unusedVariables false
open Go.ChangeShapes Go.WideShapes Go.ChangeAt Go.RowKit

theorem walk_round1 {w wr w4 w5 : World} {P Q n k : Nat} {t : Int} {l : List Int} (hT : Two w wr P Q n (fA t l k) (gA t l k)) (hb4 : Below wr.heap.size wr w4) (hb5 : Below w4.heap.size w4 w5) (hk : k < n) (q r : Int)
    (hq : (App.quo t l).getD k 0 = q) (hr : (App.rem t l).getD k 0 = r) :
    (∃ v, w5.cell? ⟨P, k, none⟩ = some v) ∧ w5.frozen? ⟨P, k, none⟩ = false ∧
    (∃ v, (w5.setCell ⟨P, k, none⟩ (.int .i64 q)).cell? ⟨Q, k * 2, none⟩ = some v) ∧ (w5.setCell ⟨P, k, none⟩ (.int .i64 q)).frozen? ⟨Q, k * 2, none⟩ = false ∧
    (∃ v, ((w5.setCell ⟨P, k, none⟩ (.int .i64 q)).setCell ⟨Q, k * 2, none⟩ (.int .i64 k)).cell? ⟨Q, k * 2 + 1, none⟩ = some v) ∧ ((w5.setCell ⟨P, k, none⟩ (.int .i64 q)).setCell ⟨Q, k * 2, none⟩ (.int .i64 k)).frozen? ⟨Q, k * 2 + 1, none⟩ = false ∧
    Two w (((w5.setCell ⟨P, k, none⟩ (.int .i64 q)).setCell ⟨Q, k * 2, none⟩ (.int .i64 k)).setCell ⟨Q, k * 2 + 1, none⟩ (.int .i64 r)) P Q n (fA t l (k + 1)) (gA t l (k + 1)) := by
  have h5 := (hT.later hb4).later hb5
  have hp := h5.setP (f' := fA t l (k + 1)) k q (fun i hi => by rw [fA_next, hq])
  have hpq := hp.setQ (g' := gA t l (k + 1)) k k r (fun i hi => by rw [gA_next, hr])
  have c1 := h5.ps k hk
  have c2 := (hp.qs k hk).1
  have c3 := ((hp.qs k hk).2.set (b' := Q) (o' := k * 2) (u := k))
  exact ⟨⟨_, c1.1⟩, c1.2, ⟨_, c2.1⟩, c2.2, ⟨_, c3.1⟩, c3.2, hpq⟩

theorem fin_parts {w wr : World} {P Q n k m : Nat} {t : Int} {l a : List Int} {g : Nat → Int × Int} (hT : Two w wr P Q n (fB t l k) g) (hk : k = m) (ha : a.length = n) (hf : ∀ i, i < n → fB t l m i = a.getD i 0) (hP : w.heap.size = P) :
    Parts w a true (.returned (.tuple #[.slice (some ⟨P, 0, none⟩) n n, .bool true])) wr := by
  subst hk
  refine ⟨some ⟨P, 0, none⟩, n, by rw [ha], ⟨(fun h => by cases h), by omega⟩, ?_, by rw [hP]; exact hT.below⟩
  intro i hi
  rw [ha] at hi
  have c := (hT.ps i hi).1
  rw [hf i hi] at c
  exact ⟨P, 0, rfl, by have := hT.pq; have := hT.lt; omega, by rw [Nat.zero_add]; exact c⟩

set_option maxHeartbeats 2000000 in
set_option maxRecDepth 100000 in
theorem app_yes (T U : Nat) (ao : Option Addr) (cap n : Nat) (l : List Int) (w : World) (hn : n ≤ 1000000) (hl : l.length = n) (hr : Row w ao l) (ok : App.Ok T l) (t1 : T ≤ 1000000000000000) (hU : l.sum = (U : Int)) (s0 : 1 ≤ U) (s1 : U ≤ 1000000000000000)
    (hs : ∀ w, Row w ao l → Calls Try.prog 25 #[.slice ao n cap] w fun e w' => e = .returned (.tuple #[.int .i64 U, .bool true]) ∧ w = w') :
    Calls Try.prog 20 #[.int .i64 T, .slice ao n cap] w (Parts w (App.app T l) true) := by
  have hd1 : decide ((U : Int) < 1) = false := decide_eq_false (by omega)
  have hd2 : decide ((1000000000000000 : Int) < U) = false := decide_eq_false (by omega)
  have hd3 : decide ((T : Int) < 0) = false := decide_eq_false (by omega)
  have hd4 : decide ((1000000000000000 : Int) < T) = false := decide_eq_false (by omega)
  have HS := Lib.hid hs
  have HR := Lib.hid hr
  have HL := Lib.hid hl
  have HU := Lib.hid hU
  have OK := Lib.hid ok
  clear hs hr hl hU ok
  obtain ⟨i0, hi, hz0, hz1, hz2⟩ := info_parts Try.info3
  obtain ⟨i1, hj, hy0, hy1, hy2⟩ := info_parts Try.info53
  go_enter Try.func20, Try.ntmps20
  go_wp2_with fail
  refine (HS.out _ HR.out).mono ?_
  rintro e w' ⟨rfl, rfl⟩
  go_wp2_with (first | (at_make; refine wpList_make_full _ rfl (.tmp 43) (.tmp 43) 29 rfl w.heap.size 3 i0 (.int .i64 0) 1 Try.underlying29 hi hz0 hz1 .i64 .i64 n n n rfl rfl rfl rfl (by rw [hz2]; omega) (by unfold maxLen; omega) (Nat.le_refl _) ?_; intro w1 own1 gr1) | (at_make; refine wpList_make_full _ rfl (.tmp 46) (.tmp 46) 51 rfl w1.heap.size 53 i1 (.agg #[.int .i64 0, .int .i64 0]) 2 Try.underlying51 hj hy0 hy1 .i64 .i64 n n n rfl rfl rfl rfl (by rw [hy2]; omega) (by unfold maxLen; omega) (Nat.le_refl _) ?_; intro w2 own2 gr2))
  have ht := (Two.made own1 gr1 own2 gr2).congr (f' := fA T l 0) (g' := gA T l 0) (fun i _ => by simp [fA]) (fun i _ => by simp [gA])
  have HT := Lib.hid ht
  have HP := Lib.hid (Nat.le_refl w.heap.size)
  clear own1 own2 gr1 gr2 ht hi hz0 hz1 hz2 hj hy0 hy1 hy2
  obtain ⟨P, hP⟩ : ∃ P, w.heap.size = P := ⟨_, rfl⟩
  obtain ⟨Q, hQ⟩ : ∃ Q, w1.heap.size = Q := ⟨_, rfl⟩
  rw [hP, hQ] at HT
  rw [hP, hQ]
  have HPE := Lib.hid hP
  clear hP hQ HP
  go_loopw [10, 51] (fun v i wr => ∃ (k : Nat) (z : Int), k ≤ n ∧ Two w wr P Q n (fA T l k) (gA T l k) ∧ LoopA T l k z ∧ 0 ≤ z ∧ z ≤ T ∧ i = .int .i64 k ∧ v = .int .i64 z) (fun _ i _ => n - (intOf i).toNat)
  case atStart => exact ⟨0, T, Nat.zero_le _, HT.out, LoopA.start T l, by omega, Int.le_refl _, rfl, rfl⟩
  case round =>
    obtain ⟨k, z, hk, hT, hz, z0, z1, rfl, rfl⟩ := hrel
    by_cases hlt : k < n
    · obtain ⟨b, off, rfl, hb, hc⟩ := HR.out k (by rw [HL.out]; exact hlt)
      have hx := getD_le_sum OK.out.pos k
      obtain ⟨y, hy⟩ := Int.eq_ofNat_of_zero_le hx.1
      rw [HU.out, hy] at hx
      rw [hy] at hc
      have hc' : wr.cell? ⟨b, off + k, none⟩ = some (.int .i64 y) := by rw [hT.below.cell (p := ⟨b, off + k, none⟩) (by rw [← HPE.out]; exact hb)]; exact hc
      have hy1 : y ≤ U := by omega
      obtain ⟨e1, e2⟩ := ov_quo T y U hy1 s0 t1
      have eq1 : (App.quo T l).getD k 0 = ((ovQ (T * y) U : Nat) : Int) := by
        rw [App.quo_getD (by rw [HL.out]; exact hlt), hy, HU.out, e1, Int.natCast_ediv, Int.natCast_mul]
      have eq2 : (App.rem T l).getD k 0 = ((ovR (T * y) U : Nat) : Int) := by
        rw [App.rem_getD (by rw [HL.out]; exact hlt), hy, HU.out, e2, Int.natCast_emod, Int.natCast_mul]
      have hz' := hz.next (by rw [HL.out]; exact hlt)
      have hzb := hz'.bd OK.out
      rw [eq1] at hzb hz'
      have HP1 := Lib.hid (product_any T y)
      have HO1 := Lib.hid (over_product T y U)
      have HE1 := Lib.hid eq1
      have HE2 := Lib.hid eq2
      have HTT := Lib.hid hT
      clear eq1 eq2 e1 e2 hy hx hc hT hz
      obtain ⟨qz, hqz⟩ : ∃ q, ovQ (T * y) U = q := ⟨_, rfl⟩
      obtain ⟨rz, hrz⟩ : ∃ q, ovR (T * y) U = q := ⟨_, rfl⟩
      rw [hqz] at HE1 hzb hz' HO1
      rw [hrz] at HE2 HO1
      clear hqz hrz
      generalize ovB (T * y) U = ob at *
      generalize hiW (T * y) = hi at *
      generalize loW (T * y) = lo at *
      go_wp2_with fail
      refine (HP1.out _ (by omega) (by omega)).mono ?_
      rintro e w4 ⟨rfl, hb4⟩
      go_wp2_with fail
      refine (HO1.out _ (by omega) (by omega) (by omega) (by omega)).mono ?_
      rintro e w5 ⟨rfl, hb5⟩
      obtain ⟨⟨v1, c1⟩, f1, ⟨v2, c2⟩, f2, ⟨v3, c3⟩, f3, hN⟩ := walk_round1 HTT.out hb4 hb5 hlt qz rz HE1.out HE2.out
      have HN := Lib.hid hN
      clear hN hb4 hb5
      go_wp2
      go_roundw
      case rel => exact ⟨k + 1, _, by omega, HN.out, hz', by omega, by omega, by go_num, rfl⟩
      case measure => simp [intOf]; omega
    · have ez : z = ((App.left T l : Nat) : Int) := hz.last (by rw [HL.out]; omega) OK.out
      have hle : App.left T l ≤ n := by have := App.left_le OK.out; rw [HL.out] at this; exact this
      have hT2 : Two w wr P Q n (fB T l 0) (gA T l n) := by
        refine hT.congr (fun i hi => ?_) (fun i hi => ?_)
        · unfold fB fA; rw [App.bump_zero, if_pos (by omega)]
        · unfold gA; rw [if_pos hi, if_pos (by omega)]
      have hrl : (App.rem T l).length = n := by rw [App.rem_length, HL.out]
      have hgq : ∀ i (h : i < (quotas (App.rem T l)).length), gA T l n i = (quotas (App.rem T l))[i] := fun i h => by
        rw [quotas_get]; unfold gA; rw [if_pos (by rw [quotas_length, hrl] at h; exact h)]
      have hgs : ∀ i (h : i < (sortQ (quotas (App.rem T l))).length), gB T l i = (sortQ (quotas (App.rem T l)))[i] := fun i h => by
        rw [sortQ_get]; rfl
      have hso := sort_any Q 0 n (quotas (App.rem T l)) wr (hT2.holds _ (by rw [quotas_length, hrl]) hgq) hT.lt (by rw [quotas_length, hrl]; omega)
      rw [quotas_length, hrl] at hso
      have hsd := fun m os => hT2.sorted (quotas (App.rem T l)) (sortQ (quotas (App.rem T l))) (by rw [quotas_length, hrl]) (by rw [sortQ_length, hrl]) hgq hgs m os
      have hbb := fun k i => fB_bd OK.out k i
      have hnx := fun k i (h : k < n) => fB_next T l k i (by rw [HL.out]; exact h)
      have hid := fun k (h : k < n) => (ord_rank (App.rem T l) k (by rw [hrl]; exact h)).2
      rw [hrl] at hid
      have HSO := Lib.hid hso
      have HSD := Lib.hid hsd
      have HBB := Lib.hid hbb
      have HNX := Lib.hid hnx
      have HID := Lib.hid hid
      have HFIN := Lib.hid (show ∀ i, i < n → fB T l (App.left T l) i = (App.app T l).getD i 0 from fun i _ => rfl)
      have HAL := Lib.hid (show (App.app T l).length = n by rw [App.app_length, HL.out])
      clear hso hsd hbb hnx hid hgq hgs hrl hT2 hT hz
      generalize App.left T l = m at *
      subst ez
      go_wp2_with fail
      refine HSO.out.mono ?_
      rintro e w3 ⟨rfl, nd, os, rfl⟩
      obtain ⟨w3, hw3⟩ : ∃ w3, sortWorldK encQ 2 wr Q 0 nd (sortQ (quotas (App.rem T l))).toArray os = w3 := ⟨_, rfl⟩
      have HT3 := Lib.hid (HSD.out nd os)
      rw [hw3] at HT3
      rw [hw3]
      clear hw3 HSO HSD
      go_wp2_with fail
      go_loopw [86] (fun i wr => ∃ k : Nat, k ≤ m ∧ Two w wr P Q n (fB T l k) (gB T l) ∧ i = .int .i64 k) (fun i _ => m - (intOf i).toNat)
      case atStart => exact ⟨0, Nat.zero_le _, HT3.out, rfl⟩
      case round =>
        obtain ⟨k2, hk2, hT, rfl⟩ := hrel
        by_cases hlt2 : k2 < m
        · have hid := HID.out k2 (by omega)
          have hnx := fun i => HNX.out k2 i (by omega)
          obtain ⟨j, hj⟩ : ∃ j, (App.ord (App.rem T l)).getD k2 0 = j := ⟨_, rfl⟩
          have hcq := hT.qs k2 (by omega)
          unfold gB at hcq
          rw [hj] at hcq hid hnx
          obtain ⟨rr, hrr⟩ : ∃ rr, (App.rem T l).getD j 0 = rr := ⟨_, rfl⟩
          rw [hrr] at hcq
          have hcp := hT.ps j hid
          have hbb := HBB.out k2 j
          obtain ⟨v, hv⟩ : ∃ v, fB T l k2 j = v := ⟨_, rfl⟩
          rw [hv] at hcp hbb
          have c1 := hcq.1.1
          have c2 := hcq.2.1
          have c3 := hcp.1
          have f3 := hcp.2
          have lP : P < wr.heap.size := by have := hT.pq; have := hT.lt; omega
          have lQ := hT.lt
          have hN : ∀ o, Two w ((wr.setCell ⟨P, j, none⟩ (.int .i64 (v + 1))).alloc o) P Q n (fB T l (k2 + 1)) (gB T l) := fun o =>
            (hT.setP j (v + 1) (fun i _ => by rw [hnx i, hv])).later ((Below.refl _ _).alloc (Nat.le_refl _) o)
          have HN := Lib.hid hN
          clear hN hT hcq hcp hnx hj hrr hv
          go_wp2
          go_roundw
          case rel => exact ⟨k2 + 1, by omega, HN.out _, by go_num⟩
          case measure => simp [intOf]; omega
        · have ek : k2 = m := by omega
          have HTL := Lib.hid hT
          have HEK := Lib.hid ek
          clear hT ek
          go_wp2
          go_ret2
          exact fin_parts HTL.out HEK.out HAL.out HFIN.out HPE.out

theorem fin_none (w : World) : Parts w [] false (.returned (.tuple #[.slice none 0 0, .bool false])) w := ⟨none, 0, rfl, ⟨fun _ => rfl, Nat.le_refl _⟩, Row.nil _ _, Below.refl _ _⟩

set_option maxHeartbeats 400000 in
theorem app_no (t S : Int) (sb : Bool) (ao : Option Addr) (cap n : Nat) (w : World) (h : sb = false ∨ S < 1 ∨ 1000000000000000 < S ∨ t < 0 ∨ 1000000000000000 < t)
    (hs : Calls Try.prog 25 #[.slice ao n cap] w fun e w' => e = .returned (.tuple #[.int .i64 S, .bool sb]) ∧ w = w') :
    Calls Try.prog 20 #[.int .i64 t, .slice ao n cap] w (Parts w [] false) := by
  have HS := Lib.hid hs
  clear hs
  rcases sb with _ | _
  · clear h
    go_enter Try.func20, Try.ntmps20
    go_wp2_with fail
    refine HS.out.mono ?_
    rintro e w' ⟨rfl, rfl⟩
    go_wp2_with fail
    go_ret2
    exact fin_none _
  · by_cases h1 : S < 1
    · clear h
      go_enter Try.func20, Try.ntmps20
      go_wp2_with fail
      refine HS.out.mono ?_
      rintro e w' ⟨rfl, rfl⟩
      go_wp2_with fail
      go_ret2
      exact fin_none _
    by_cases h2 : 1000000000000000 < S
    · clear h
      go_enter Try.func20, Try.ntmps20
      go_wp2_with fail
      refine HS.out.mono ?_
      rintro e w' ⟨rfl, rfl⟩
      go_wp2_with fail
      go_ret2
      exact fin_none _
    by_cases h3 : t < 0
    · clear h
      go_enter Try.func20, Try.ntmps20
      go_wp2_with fail
      refine HS.out.mono ?_
      rintro e w' ⟨rfl, rfl⟩
      go_wp2_with fail
      go_ret2
      exact fin_none _
    have h4 : 1000000000000000 < t := by
      rcases h with h | h
      · cases h
      · omega
    clear h
    go_enter Try.func20, Try.ntmps20
    go_wp2_with fail
    refine HS.out.mono ?_
    rintro e w' ⟨rfl, rfl⟩
    go_wp2_with fail
    go_ret2
    exact fin_none _

theorem okS_mono {M N : Int} {l : List Int} (h : okS M l = true) (hm : M ≤ N) : okS N l = true := by
  rw [okS_iff] at *; exact ⟨h.1, by omega⟩

/-- amount.Apportion -/
theorem apportion_any (t : Int) (ao : Option Addr) (cap n : Nat) (l : List Int) (w : World) (hn : n ≤ 1000000) (hl : l.length = n) (hr : Row w ao l) (h64 : I64s l) :
    Calls Try.prog 20 #[.int .i64 t, .slice ao n cap] w (Parts w (apV t l) (apB t l)) := by
  subst hl
  have hs := fun w hr => sum_any ao cap l w (by omega) hr h64
  by_cases h : apB t l = true
  · obtain ⟨ok, h1, h2⟩ := apB_iff.1 h
    have e : okS 4611686018427387903 l = true := okS_iff.2 ⟨ok.pos, by omega⟩
    obtain ⟨e1, e2⟩ := sum_yes e
    rw [e1, e2] at hs
    unfold apV
    rw [if_pos h, h]
    have o1 := ok.sum1
    have o2 := ok.t0
    obtain ⟨T, rfl⟩ := Int.eq_ofNat_of_zero_le o2
    obtain ⟨U, hU⟩ := Int.eq_ofNat_of_zero_le (show 0 ≤ l.sum by omega)
    rw [hU] at hs
    exact app_yes T U ao cap l.length l w hn rfl hr ok (by omega) hU (by omega) (by omega) (fun w h => hs w h)
  · have hb : apB t l = false := by simpa using h
    unfold apV
    rw [if_neg h, hb]
    refine app_no t (sumV l) (sumB l) ao cap l.length w ?_ (hs w hr)
    rcases hq : sumB l with _ | _
    · exact .inl rfl
    · right
      have hq' : okS 4611686018427387903 l = true := hq
      obtain ⟨_, e2⟩ := sum_yes hq'
      rw [e2]
      by_cases c : 1 ≤ l.sum ∧ l.sum ≤ 1000000000000000 ∧ 0 ≤ t ∧ t ≤ 1000000000000000
      · exact absurd (apB_iff.2 ⟨⟨c.2.2.1, (okS_iff.1 hq').1, c.1⟩, c.2.1, c.2.2.2⟩) h
      · omega

end Go.Proofs.Ytbefbodihfijbaa
