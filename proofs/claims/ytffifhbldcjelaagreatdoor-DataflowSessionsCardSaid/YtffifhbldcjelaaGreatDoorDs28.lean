/-
  symMerge where the right is one.
-/
import Derived.Test.YtffifhbldcjelaaGreatDoorDs27

/-! symMerge where the right is one. -/
namespace Go.Proofs.YtffifhbldcjelaaGreatDoor
set_option linter.unusedVariables false
set_option linter.unusedSimpArgs false
open Go.Shelf Go.RowKit Go.Lib Go.Sort

section
variable {P : Program} {k : Nat} {α : Type} [Inhabited α] {enc : α → List Value} {w0 W : World} {blk off : Nat} {d0 d : Array α}

set_option maxHeartbeats 40000000 in
set_option maxRecDepth 1000000 in
theorem sym_right (L : PlL P k) (R : RowS enc k w0 blk off d0) (cf : α → α → Int) (hW : WkO (ltOf cf)) (g : Nat) (cb : Array Value) (eg : ∀ args w, (callFunc g args).run P w = .ok (.enter g args) w) (hC : CmpLays P g cb enc k cf blk off d0.size w0)
    (S : SWK enc k w0 blk off d W) (hs : d.size = d0.size) (a m cap : Nat) (ham : a + 1 < m) (hm : m + 1 ≤ d.size) (hsz : d.size < 2305843009213693952) (hsl : SortedB (ltOf cf) (seg (fun p => d[p]!) a (m - a))) :
    Calls P 112 #[.slice (some ⟨blk, off, none⟩) d.size cap, .int .i64 a, .int .i64 m, .int .i64 ((m : Int) + 1), .func (.func g) #[] cb] W (SymE enc k w0 blk off cf d a m (m + 1)) := by
  have mixed := L.mixed; have aE := L.aE; have zE := L.zE; have t0 := L.t0; have a0 := L.a0; have z0 := L.z0; have v0 := L.v0; have t3 := L.t3; have a3 := L.a3; have z3 := L.z3; have v3 := L.v3; have t4 := L.t4; have a4 := L.a4; have z4 := L.z4; have v4 := L.v4; have t96 := L.t96; have a96 := L.a96; have z96 := L.z96; have v96 := L.v96; have t120 := L.t120; have a120 := L.a120; have z120 := L.z120; have v120 := L.v120; have u96 := run_underlying L.t96
  have RR := Lib.hid R
  have SS := Lib.hid S
  have CC := Lib.hid hC
  have HWK := Lib.hid hW
  have HSL := Lib.hid (seg_sorted.1 hsl)
  have HSZ := Lib.hid hs
  have HN := Lib.hid hsz
  clear R S hC hW hsl hs
  obtain ⟨u, hu⟩ : ∃ u : Int, u = (m : Int) - (a : Int) := ⟨_, rfl⟩
  have w0' : IntKind.i64.wrap ((m : Int) - (a : Int)) = u := by rw [IntKind.wrap_i64]; omega
  have hu1 : (u == 1) = false := beq_eq_false_iff_ne.2 (by omega)
  have w1 : IntKind.i64.wrap ((m : Int) + 1 - (m : Int)) = 1 := by rw [IntKind.wrap_i64]; omega
  clear hu
  go_enter L.fsy, Tryz.ntmps112
  go_upto_region 15 with (fail)
  go_loopg [14, 15, 16] (m - a) (fun gh v10 v11 v12 wr => ∃ i j : Nat, v10 = .int .i64 i ∧ v11 = .int .i64 j ∧ a ≤ i ∧ i ≤ j ∧ j ≤ m ∧ j - i ≤ gh ∧ Hid (SWK enc k w0 blk off d wr) ∧ Hid (∀ p, a ≤ p → p < i → ltOf cf d[m]! d[p]! = false) ∧ Hid (∀ p, j ≤ p → p < m → ltOf cf d[m]! d[p]! = true))
  case atStart => exact ⟨a, m, rfl, rfl, by omega, by omega, by omega, by omega, (show Hid _ from SS.out), (show Hid _ from fun p q1 q2 => by omega), (show Hid _ from fun p q1 q2 => by omega)⟩
  case round =>
    obtain ⟨i, j, rfl, rfl, hai, hij, hjb, hgh, HS, HA, HB⟩ := hrel
    by_cases hlt : i < j
    · obtain ⟨h, hh⟩ : ∃ h, (i + j) / 2 = h := ⟨_, rfl⟩
      have hi1 : i ≤ h := by omega
      have hj1 : h < j := by omega
      have eh : ((i : Int) + (j : Int)) / 2 = (h : Int) := by omega
      have hltz : (i : Int) < (j : Int) := by omega
      have w2 : IntKind.i64.wrap ((i : Int) + (j : Int)) = (i : Int) + (j : Int) := by rw [IntKind.wrap_i64]; omega
      have w3 : IntKind.u64.wrap ((i : Int) + (j : Int)) = (i : Int) + (j : Int) := by
        have : ∀ n : Int, IntKind.u64.wrap n = n % 18446744073709551616 := fun n => by simp [IntKind.wrap, IntKind.bits, IntKind.signed]
        rw [this]; omega
      have w4 : IntKind.i64.wrap (h : Int) = (h : Int) := by rw [IntKind.wrap_i64]; omega
      have p1 : (0 : Int) ≤ (h : Int) := by omega
      have p2 : (h : Int) < (d.size : Int) := by omega
      have p3 : (0 : Int) ≤ (m : Int) := by omega
      have p4 : (m : Int) < (d.size : Int) := by omega
      have HH := Lib.hid hh
      clear hh
      have lx := fun n os => HS.out.ld RR.out HSZ.out P h (by omega) n os
      have la := fun n os => HS.out.ld RR.out HSZ.out P m (by omega) n os
      have hcg := fun n os => HS.out.cmp CC.out HSZ.out d[m]! d[h]! n os
      have GROW := Lib.hid (fun n os => HS.out.grown n os)
      have CAB := Lib.hid (show ltOf cf d[m]! d[h]! = decide (cf d[m]! d[h]! < 0) from rfl)
      obtain ⟨x, hx⟩ : ∃ x, d[h]! = x := ⟨_, rfl⟩
      obtain ⟨xa, hxa⟩ : ∃ x, d[m]! = x := ⟨_, rfl⟩
      rw [hx] at lx hcg CAB
      rw [hxa] at la hcg CAB
      have HXX := Lib.hid (And.intro hx hxa)
      clear hx hxa
      obtain ⟨c, hc⟩ : ∃ c, cf xa x = c := ⟨_, rfl⟩
      rw [hc] at hcg CAB
      clear hc
      by_cases hlv : c < 0
      · have hn : (!decide (c < 0)) = false := by rw [decide_eq_true hlv]; rfl
        go_wp2_with fail
        go_quiet_grown (first | (go_at_fn g; refine Calls.grown_of (hcg _ _)))
        go_wp2_with fail
        go_roundg (h - i)
        case measure => omega
        case rel => exact ⟨i, h, rfl, rfl, hai, by omega, by omega, by omega, (show Hid _ from GROW.out nq osq), HA, (show Hid _ from fun p q1 q2 => by
          have hx := HXX.out
          have hl : ltOf cf d[m]! d[h]! = true := by rw [hx.1, hx.2, CAB.out]; exact decide_eq_true hlv
          rcases Nat.lt_or_ge h p with q | q
          · exact HWK.out.below hl (HSL.out h p (by omega) q (by omega))
          · rw [show p = h by omega]; exact hl)⟩
      · have hn : (!decide (c < 0)) = true := by rw [decide_eq_false hlv]; rfl
        go_wp2_with fail
        go_quiet_grown (first | (go_at_fn g; refine Calls.grown_of (hcg _ _)))
        go_wp2_with fail
        go_roundg (j - (h + 1))
        case measure => omega
        case rel => exact ⟨h + 1, j, by go_num, rfl, by omega, by omega, hjb, by omega, (show Hid _ from GROW.out nq osq), (show Hid _ from fun p q1 q2 => by
          have hx := HXX.out
          have hl : ltOf cf d[m]! d[h]! = false := by rw [hx.1, hx.2, CAB.out]; exact decide_eq_false (by omega)
          rcases Nat.lt_or_ge p h with q | q
          · exact HWK.out.ntr _ _ _ hl (HSL.out p h (by omega) q (by omega))
          · rw [show p = h by omega]; exact hl), HB⟩
    · obtain rfl : i = j := by omega
      have hltz : ¬ (i : Int) < (i : Int) := by omega
      go_wp2_with fail
      go_loopg [17] m (fun gh v13 wr2 => ∃ (q : Nat) (d' : Array α), v13 = .int .i64 q ∧ i ≤ q ∧ q ≤ m ∧ q ≤ gh ∧ Hid (SWK enc k w0 blk off d' wr2) ∧ d'.size = d.size ∧ Hid (∀ p, p < d.size → d'[p]! = if p = q then d[m]! else if q < p ∧ p ≤ m then d[p - 1]! else d[p]!))
      case atStart => exact ⟨m, d, rfl, by omega, by omega, by omega, HS, rfl, (show Hid _ from fun p hp => by
        by_cases e : p = m
        · rw [if_pos e, e]
        · rw [if_neg e, if_neg (by omega)])⟩
      case round =>
        obtain ⟨q, d', rfl, hq1, hq2, hgh2, HS2, hsd, HD⟩ := hrel
        by_cases hlt2 : i < q
        · have hltz2 : (i : Int) < (q : Int) := by omega
          have v1 : IntKind.i64.wrap ((q : Int) - 1) = (q : Int) - 1 := by rw [IntKind.wrap_i64]; omega
          have p1 : (0 : Int) ≤ (q : Int) := by omega
          have p2 : (q : Int) < (d.size : Int) := by omega
          have p3 : (0 : Int) ≤ (q : Int) - 1 := by omega
          have p4 : (q : Int) - 1 < (d.size : Int) := by omega
          have e1 : ((q : Int) - 1).toNat = q - 1 := by omega
          obtain ⟨x, hx⟩ : ∃ x, d'[q]! = x := ⟨_, rfl⟩
          obtain ⟨y, hy⟩ : ∃ y, d'[q - 1]! = y := ⟨_, rfl⟩
          have hsd0 : d'.size = d0.size := hsd.trans HSZ.out
          have lx := HS2.out.ld1 RR.out hsd0 P q (by omega)
          have ly := HS2.out.ld1 RR.out hsd0 P (q - 1) (by omega)
          have s1 := HS2.out.st1 RR.out hsd0 P q (by omega) y
          have s2 := HS2.out.st2 RR.out hsd0 P q (q - 1) (by omega) (by omega) y x
          have SWP := Lib.hid (HS2.out.swapped RR.out q (q - 1) (by omega) (by omega))
          rw [hx] at lx SWP
          rw [hy] at ly SWP
          have hkx : (enc x).length = k := RR.out.hk _
          have hky : (enc y).length = k := RR.out.hk _
          obtain ⟨cx, hcx⟩ : ∃ c, c = enc x := ⟨_, rfl⟩
          obtain ⟨cy, hcy⟩ : ∃ c, c = enc y := ⟨_, rfl⟩
          rw [← hcx] at lx s2 SWP hkx
          rw [← hcy] at ly s1 s2 SWP hky
          clear hcx hcy hx hy hsd0
          go_wp2_with fail
          go_big_region_o
          all_goals go_wp2
          go_roundg (q - 1)
          case measure => omega
          case rel =>
            refine ⟨q - 1, swp d' q (q - 1), by go_num, by omega, by omega, by omega, (show Hid _ from SWP.out), by rw [size_swp]; exact hsd, (show Hid _ from fun p hp => ?_)⟩
            have hD := HD.out
            rw [swp_get _ (by omega) (by omega)]
            by_cases g1 : p = q - 1
            · rw [if_pos g1, if_pos g1, hD q (by omega), if_pos rfl]
            · rw [if_neg g1, if_neg g1]
              by_cases g2 : p = q
              · rw [if_pos g2, if_pos (by omega), hD (q - 1) (by omega), if_neg (by omega), if_neg (by omega), g2]
              · rw [if_neg g2, hD p hp, if_neg g2]
                by_cases g3 : q < p ∧ p ≤ m
                · rw [if_pos g3, if_pos (by omega)]
                · rw [if_neg g3, if_neg (by omega)]
        · have hltz2 : ¬ (i : Int) < (q : Int) := by omega
          obtain rfl : q = i := by omega
          go_wp2_with fail
          go_end0
          exact ⟨rfl, d', HS2.out, hsd, merged_right hai (by omega) HA.out HB.out (fun p hp => by
            rw [HD.out p hp]) hm⟩
end

end Go.Proofs.YtffifhbldcjelaaGreatDoor
