/-
  symMerge: the whole.
-/
import Derived.Test.YtffifhbldcjelaaGreatDoorDs28
import Derived.Deep.DeepCutAuto

/-! symMerge: the whole. -/
namespace Go.Proofs.YtffifhbldcjelaaGreatDoor
set_option linter.unusedVariables false
set_option linter.unusedSimpArgs false
set_option linter.unusedSectionVars false
open Go.Shelf Go.RowKit Go.Lib Go.Sort

section
variable {P : Program} {k : Nat} {α : Type} [Inhabited α] {enc : α → List Value} {w0 W : World} {blk off : Nat} {d0 d : Array α}

theorem rot_none1 (D : Nat → α) (m b p : Nat) : rotR D m m b p = D p := by
  unfold rotR
  by_cases h : m ≤ p ∧ p < b
  · rw [if_pos h, if_pos (by omega)]; congr 1; omega
  · rw [if_neg h]
theorem rot_none2 (D : Nat → α) (a m p : Nat) : rotR D a m m p = D p := by
  unfold rotR
  by_cases h : a ≤ p ∧ p < m
  · rw [if_pos h, if_neg (by omega)]; congr 1; omega
  · rw [if_neg h]

/-- from a place on, merged in one piece: what the third part of symMerge is handed -/
def SymIH (P : Program) (enc : α → List Value) (k : Nat) (w0 : World) (blk off : Nat) (cf : α → α → Int) (n cap : Nat) (fv : Value) (lim : Nat) : Prop :=
  ∀ (a m b : Nat) (d' : Array α) (W' : World), b - a < lim → a < m → m < b → b ≤ n → d'.size = n → SWK enc k w0 blk off d' W' → SortedB (ltOf cf) (seg (fun p => d'[p]!) a (m - a)) → SortedB (ltOf cf) (seg (fun p => d'[p]!) m (b - m)) →
    Calls P 112 #[.slice (some ⟨blk, off, none⟩) n cap, .int .i64 a, .int .i64 m, .int .i64 b, fv] W' fun e w' => e = .returned (.tuple #[]) ∧ ∃ d2 : Array α, SWK enc k w0 blk off d2 w' ∧ d2.size = n ∧ Merged (ltOf cf) (fun p => d'[p]!) (fun p => d2[p]!) a m b n

set_option maxHeartbeats 40000000 in
set_option maxRecDepth 1000000 in
theorem sym_step (L : PlL P k) (R : RowS enc k w0 blk off d0) (cf : α → α → Int) (hW : WkO (ltOf cf)) (g : Nat) (cb : Array Value) (eg : ∀ args w, (callFunc g args).run P w = .ok (.enter g args) w) (hC : CmpLays P g cb enc k cf blk off d0.size w0)
    (S : SWK enc k w0 blk off d W) (hs : d.size = d0.size) (a m b cap : Nat) (ham : a + 1 < m) (hmb : m + 1 < b) (hb : b ≤ d.size) (hsz : d.size < 2305843009213693952) (hsl : SortedB (ltOf cf) (seg (fun p => d[p]!) a (m - a))) (hsr : SortedB (ltOf cf) (seg (fun p => d[p]!) m (b - m)))
    (IH : SymIH P enc k w0 blk off cf d.size cap (.func (.func g) #[] cb) (b - a)) :
    Calls P 112 #[.slice (some ⟨blk, off, none⟩) d.size cap, .int .i64 a, .int .i64 m, .int .i64 b, .func (.func g) #[] cb] W (SymE enc k w0 blk off cf d a m b) := by
  have mixed := L.mixed; have aE := L.aE; have zE := L.zE; have t0 := L.t0; have a0 := L.a0; have z0 := L.z0; have v0 := L.v0; have t3 := L.t3; have a3 := L.a3; have z3 := L.z3; have v3 := L.v3; have t4 := L.t4; have a4 := L.a4; have z4 := L.z4; have v4 := L.v4; have t96 := L.t96; have a96 := L.a96; have z96 := L.z96; have v96 := L.v96; have t120 := L.t120; have a120 := L.a120; have z120 := L.z120; have v120 := L.v120; have u96 := run_underlying L.t96
  have e123 : ∀ args w, (callFunc 123 args).run P w = .ok (.enter 123 args) w := enters_of L.fro (by kernel_rfl) rfl
  have e112 : ∀ args w, (callFunc 112 args).run P w = .ok (.enter 112 args) w := enters_of L.fsy (by kernel_rfl) rfl
  have ROT := Lib.hid (fun (a m b : Nat) (h1 : a < m) (h2 : m < b) (h3 : b ≤ d.size) (W' : World) (h4 : SWK enc k w0 blk off d W') => rotate_any L R h4 hs a m b cap (.func (.func g) #[] cb) h1 h2 h3 (by omega))
  have HI := Lib.hid IH
  have RR := Lib.hid R
  have SS := Lib.hid S
  have CC := Lib.hid hC
  have HWK := Lib.hid hW
  have HSL := Lib.hid (seg_sorted.1 hsl)
  have HSR := Lib.hid (seg_sorted.1 hsr)
  have HSZ := Lib.hid hs
  have HN := Lib.hid hsz
  clear R S hC hW hsl hsr hs IH
  obtain ⟨u, hu⟩ : ∃ u : Int, u = (m : Int) - (a : Int) := ⟨_, rfl⟩
  have w0' : IntKind.i64.wrap ((m : Int) - (a : Int)) = u := by rw [IntKind.wrap_i64]; omega
  have hu1 : (u == 1) = false := beq_eq_false_iff_ne.2 (by omega)
  obtain ⟨v, hv⟩ : ∃ v : Int, v = (b : Int) - (m : Int) := ⟨_, rfl⟩
  have w0'' : IntKind.i64.wrap ((b : Int) - (m : Int)) = v := by rw [IntKind.wrap_i64]; omega
  have hv1 : (v == 1) = false := beq_eq_false_iff_ne.2 (by omega)
  clear hu hv
  obtain ⟨mid, hmid⟩ : ∃ h, (a + b) / 2 = h := ⟨_, rfl⟩
  have em : ((a : Int) + (b : Int)) / 2 = (mid : Int) := by omega
  have m1 : a + 1 < mid := by omega
  have m2 : mid + 1 < b := by omega
  have m3 : 2 * mid ≤ a + b := by omega
  have m4 : a + b ≤ 2 * mid + 1 := by omega
  have HM := Lib.hid hmid
  clear hmid
  have x2 : IntKind.i64.wrap ((a : Int) + (b : Int)) = (a : Int) + (b : Int) := by rw [IntKind.wrap_i64]; omega
  have x3 : IntKind.u64.wrap ((a : Int) + (b : Int)) = (a : Int) + (b : Int) := by
    have : ∀ n : Int, IntKind.u64.wrap n = n % 18446744073709551616 := fun n => by simp [IntKind.wrap, IntKind.bits, IntKind.signed]
    rw [this]; omega
  have x4 : IntKind.i64.wrap (mid : Int) = (mid : Int) := by rw [IntKind.wrap_i64]; omega
  have x5 : IntKind.i64.wrap ((mid : Int) + (m : Int)) = (mid : Int) + (m : Int) := by rw [IntKind.wrap_i64]; omega
  have x6 : IntKind.i64.wrap ((mid : Int) + (m : Int) - (b : Int)) = (mid : Int) + (m : Int) - (b : Int) := by rw [IntKind.wrap_i64]; omega
  have x7 : IntKind.i64.wrap ((mid : Int) + (m : Int) - 1) = (mid : Int) + (m : Int) - 1 := by rw [IntKind.wrap_i64]; omega
  go_enter L.fsy, Tryz.ntmps112
  go_upto_if 140 with (fail)
  go_cut [20, 21] (fun s r wc => wc = W ∧ ∃ lo hi : Nat, s = .int .i64 lo ∧ r = .int .i64 hi ∧ a ≤ lo ∧ lo ≤ hi ∧ hi ≤ m ∧ hi ≤ mid ∧ mid + m ≤ lo + b ∧ (lo = a ∨ lo + b = mid + m) ∧ (hi = mid ∨ hi = m))
  case first =>
    as_aux_lemma =>
      by_cases hgt : mid < m
      · have hgz : (mid : Int) < (m : Int) := by omega
        go_wp2_with fail
        go_meet
        exact ⟨rfl, mid + m - b, mid, by go_num, rfl, by omega, by omega, by omega, by omega, by omega, .inr (by omega), .inl rfl⟩
      · have hgz : ¬ (mid : Int) < (m : Int) := by omega
        go_wp2_with fail
        go_meet
        exact ⟨rfl, a, m, rfl, rfl, by omega, by omega, by omega, by omega, by omega, .inl rfl, .inr rfl⟩
  case rest =>
    obtain ⟨rfl, lo, hi, rfl, rfl, hl1, hl2, hl3, hl4, hl5, hl6, hl7⟩ := hcut
    go_upto_region 33 with (fail)
    go_loopg [20, 21, 23] (b - a) (fun gh v20 v21 v23 wr => ∃ i j : Nat, v20 = .int .i64 i ∧ v21 = .int .i64 j ∧ lo ≤ i ∧ i ≤ j ∧ j ≤ hi ∧ j - i ≤ gh ∧ Hid (SWK enc k w0 blk off d wr) ∧ Hid (∀ c, i = c + 1 → lo ≤ c → ltOf cf d[mid + m - 1 - c]! d[c]! = false) ∧ Hid (∀ c, j = c → c < hi → ltOf cf d[mid + m - 1 - c]! d[c]! = true))
    case atStart => exact ⟨lo, hi, rfl, rfl, by omega, by omega, by omega, by omega, (show Hid _ from SS.out), (show Hid _ from fun p q1 q2 => by omega), (show Hid _ from fun p q1 q2 => by omega)⟩
    case round =>
      obtain ⟨i, j, rfl, rfl, hai, hij, hjb, hgh, HS, HA, HB⟩ := hrel
      by_cases hlt : i < j
      · obtain ⟨h, hh⟩ : ∃ h, (i + j) / 2 = h := ⟨_, rfl⟩
        have hi1 : i ≤ h := by omega
        have hj1 : h < j := by omega
        have eh : ((i : Int) + (j : Int)) / 2 = (h : Int) := by omega
        have hltz : (i : Int) < (j : Int) := by omega
        have w2 : IntKind.i64.wrap ((i : Int) + (j : Int)) = (i : Int) + (j : Int) := by rw [IntKind.wrap_i64]; omega
        have w3 : IntKind.u64.wrap ((i : Int) + (j : Int)) = (i : Int) + (j : Int) := by
          have : ∀ n : Int, IntKind.u64.wrap n = n % 18446744073709551616 := fun n => by simp [IntKind.wrap, IntKind.bits, IntKind.signed]
          rw [this]; omega
        have w4 : IntKind.i64.wrap (h : Int) = (h : Int) := by rw [IntKind.wrap_i64]; omega
        obtain ⟨z, hz⟩ : ∃ z, mid + m - 1 - h = z := ⟨_, rfl⟩
        have w5 : IntKind.i64.wrap ((mid : Int) + (m : Int) - 1 - (h : Int)) = (z : Int) := by rw [IntKind.wrap_i64]; omega
        have p1 : (0 : Int) ≤ (h : Int) := by omega
        have p2 : (h : Int) < (d.size : Int) := by omega
        have p3 : (0 : Int) ≤ (z : Int) := by omega
        have p4 : (z : Int) < (d.size : Int) := by omega
        have HZ := Lib.hid hz
        have HH := Lib.hid hh
        clear hh
        have lx := fun n os => HS.out.ld RR.out HSZ.out P h (by omega) n os
        have la := fun n os => HS.out.ld RR.out HSZ.out P z (by omega) n os
        clear hz
        have hcg := fun n os => HS.out.cmp CC.out HSZ.out d[z]! d[h]! n os
        have GROW := Lib.hid (fun n os => HS.out.grown n os)
        have CAB := Lib.hid (show ltOf cf d[z]! d[h]! = decide (cf d[z]! d[h]! < 0) from rfl)
        obtain ⟨x, hx⟩ : ∃ x, d[h]! = x := ⟨_, rfl⟩
        obtain ⟨xa, hxa⟩ : ∃ x, d[z]! = x := ⟨_, rfl⟩
        rw [hx] at lx hcg CAB
        rw [hxa] at la hcg CAB
        have HXX := Lib.hid (And.intro hx hxa)
        clear hx hxa
        obtain ⟨c, hc⟩ : ∃ c, cf xa x = c := ⟨_, rfl⟩
        rw [hc] at hcg CAB
        clear hc
        by_cases hlv : c < 0
        · as_aux_lemma =>
            have hn : (!decide (c < 0)) = false := by rw [decide_eq_true hlv]; rfl
            go_wp2_with fail
            go_quiet_grown (first | (go_at_fn g; refine Calls.grown_of (hcg _ _)))
            go_wp2_with fail
            go_roundg (h - i)
            case measure => omega
            case rel => exact ⟨i, h, rfl, rfl, hai, by omega, by omega, by omega, (show Hid _ from GROW.out nq osq), HA, (show Hid _ from fun p q1 q2 => by
              have hx := HXX.out
              obtain rfl := q1
              rw [HZ.out, hx.1, hx.2, CAB.out]; exact decide_eq_true hlv)⟩
        · as_aux_lemma =>
            have hn : (!decide (c < 0)) = true := by rw [decide_eq_false hlv]; rfl
            go_wp2_with fail
            go_quiet_grown (first | (go_at_fn g; refine Calls.grown_of (hcg _ _)))
            go_wp2_with fail
            go_roundg (j - (h + 1))
            case measure => omega
            case rel => exact ⟨h + 1, j, by go_num, rfl, by omega, by omega, hjb, by omega, (show Hid _ from GROW.out nq osq), (show Hid _ from fun p q1 q2 => by
              have hx := HXX.out
              obtain rfl : h = p := by omega
              rw [HZ.out, hx.1, hx.2, CAB.out]; exact decide_eq_false (by omega)), HB⟩
      · obtain rfl : i = j := by omega
        have hltz : ¬ (i : Int) < (i : Int) := by omega
        obtain ⟨e, he⟩ : ∃ e, mid + m - i = e := ⟨_, rfl⟩
        have ee : (mid : Int) + (m : Int) - (i : Int) = (e : Int) := by omega
        have we : IntKind.i64.wrap (e : Int) = (e : Int) := by rw [IntKind.wrap_i64]; omega
        have b1 : i ≤ m := by omega
        have b2 : m ≤ e := by omega
        have b3 : e ≤ b := by omega
        have b4 : i ≤ mid := by omega
        have b5 : i + (e - m) = mid := by omega
        have HL := Lib.hid (show ∀ p q, a ≤ p → p < i → e ≤ q → q < b → ltOf cf d[q]! d[p]! = false from fun p q q1 q2 q3 q4 => by
          have h0 := HA.out (i - 1) (by omega) (by omega)
          rw [show mid + m - 1 - (i - 1) = e by omega] at h0
          have h1 : ltOf cf d[q]! d[i - 1]! = false := by
            rcases Nat.lt_or_ge e q with z | z
            · exact HWK.out.ntr _ _ _ (HSR.out e q (by omega) z (by omega)) h0
            · rw [show q = e by omega]; exact h0
          rcases Nat.lt_or_ge p (i - 1) with z | z
          · exact HWK.out.ntr _ _ _ h1 (HSL.out p (i - 1) q1 z (by omega))
          · rw [show p = i - 1 by omega]; exact h1)
        have HR := Lib.hid (show ∀ p q, m ≤ p → p < e → i ≤ q → q < m → ltOf cf d[p]! d[q]! = true from fun p q q1 q2 q3 q4 => by
          have h0 := HB.out i rfl (by omega)
          rw [show mid + m - 1 - i = e - 1 by omega] at h0
          have h1 : ltOf cf d[p]! d[i]! = true := by
            rcases Nat.lt_or_ge p (e - 1) with z | z
            · exact HWK.out.above (HSR.out p (e - 1) q1 z (by omega)) h0
            · rw [show p = e - 1 by omega]; exact h0
          rcases Nat.lt_or_ge i q with z | z
          · exact HWK.out.below h1 (HSL.out i q (by omega) z (by omega))
          · rw [show q = i by omega]; exact h1)
        have HE := Lib.hid he
        clear he HA HB
        go_upto_region 39 with (fail)
        go_cut [185] (fun c wc => c = .bool (decide (i < m ∧ m < e)) ∧ wr = wc)
        case first =>
          as_aux_lemma =>
            by_cases c1 : i < m
            · have c1z : (i : Int) < (m : Int) := by omega
              by_cases c2 : m < e
              · have c2z : (m : Int) < (e : Int) := by omega
                go_wp2_with fail
                go_meet
                exact ⟨congrArg Value.bool (decide_eq_true (p := i < m ∧ m < e) ⟨c1, c2⟩).symm, rfl⟩
              · have c2z : ¬ (m : Int) < (e : Int) := by omega
                go_wp2_with fail
                go_meet
                exact ⟨congrArg Value.bool (decide_eq_false (p := i < m ∧ m < e) (fun h => c2 h.2)).symm, rfl⟩
            · have c1z : ¬ (i : Int) < (m : Int) := by omega
              go_wp2_with fail
              go_meet
              exact ⟨congrArg Value.bool (decide_eq_false (p := i < m ∧ m < e) (fun h => c1 h.1)).symm, rfl⟩
        obtain ⟨rfl, rfl⟩ := hcut
        go_upto_if 185 with (fail)
        go_cut [20, 18, 24] (fun t20 t18 t24 wc => t20 = .int .i64 i ∧ t18 = .int .i64 mid ∧ t24 = .int .i64 e ∧ ∃ d1 : Array α, SWK enc k w0 blk off d1 wc ∧ d1.size = d.size ∧ ∀ p, p < d.size → d1[p]! = rotR (fun p => d[p]!) i m e p)
        case first =>
          as_aux_lemma =>
            by_cases c1 : i < m
            · by_cases c2 : m < e
              · have hcb : decide (i < m ∧ m < e) = true := decide_eq_true ⟨c1, c2⟩
                have RC := Lib.hid (ROT.out i m e c1 c2 (by omega) _ HS.out)
                go_wp2_with (go_at_fn 123; refine RC.out.mono ?_; rintro e w5 ⟨rfl, h5⟩; have H5 := Lib.hid h5; clear h5)
                go_meet
                obtain ⟨d5, s5, z5, g5⟩ := H5.out
                exact ⟨rfl, rfl, rfl, d5, s5, z5, g5⟩
              · have hcb : decide (i < m ∧ m < e) = false := decide_eq_false (fun h => c2 h.2)
                go_wp2_with fail
                go_meet
                exact ⟨rfl, rfl, rfl, d, HS.out, rfl, fun p hp => by rw [show e = m by omega, rot_none2]⟩
            · have hcb : decide (i < m ∧ m < e) = false := decide_eq_false (fun h => c1 h.1)
              go_wp2_with fail
              go_meet
              exact ⟨rfl, rfl, rfl, d, HS.out, rfl, fun p hp => by rw [show i = m by omega, rot_none1]⟩
        case rest =>
          obtain ⟨rfl, rfl, rfl, d1, s1, z1, g1⟩ := hcut
          obtain ⟨wk, rfl⟩ : ∃ wk : World, wk = wc := ⟨_, rfl⟩
          have S1 := Lib.hid (And.intro s1 (And.intro z1 g1))
          clear s1 z1 g1
          go_upto_region 41 with (fail)
          go_cut [199] (fun c wc => c = .bool (decide (a < i ∧ i < mid)) ∧ wk = wc)
          case first =>
            as_aux_lemma =>
              by_cases c1 : a < i
              · have c1z : (a : Int) < (i : Int) := by omega
                by_cases c2 : i < mid
                · have c2z : (i : Int) < (mid : Int) := by omega
                  go_wp2_with fail
                  go_meet
                  exact ⟨congrArg Value.bool (decide_eq_true (p := a < i ∧ i < mid) ⟨c1, c2⟩).symm, rfl⟩
                · have c2z : ¬ (i : Int) < (mid : Int) := by omega
                  go_wp2_with fail
                  go_meet
                  exact ⟨congrArg Value.bool (decide_eq_false (p := a < i ∧ i < mid) (fun h => c2 h.2)).symm, rfl⟩
              · have c1z : ¬ (a : Int) < (i : Int) := by omega
                go_wp2_with fail
                go_meet
                exact ⟨congrArg Value.bool (decide_eq_false (p := a < i ∧ i < mid) (fun h => c1 h.1)).symm, rfl⟩
          obtain ⟨rfl, rfl⟩ := hcut
          go_upto_if 199 with (fail)
          go_cut [18, 24] (fun t18 t24 wc => t18 = .int .i64 mid ∧ t24 = .int .i64 e ∧ ∃ d2 : Array α, SWK enc k w0 blk off d2 wc ∧ d2.size = d.size ∧ Merged (ltOf cf) (fun p => d1[p]!) (fun p => d2[p]!) a i mid d.size)
          case first =>
            as_aux_lemma =>
              by_cases c1 : a < i
              · by_cases c2 : i < mid
                · have hcb : decide (a < i ∧ i < mid) = true := decide_eq_true ⟨c1, c2⟩
                  have RC := Lib.hid (HI.out a i mid d1 wk (by omega) c1 c2 (by omega) S1.out.2.1 S1.out.1
                    (by
                      rw [seg_sorted]
                      intro p q q1 q2 q3
                      show ltOf cf d1[q]! d1[p]! = false
                      rw [S1.out.2.2 p (by omega), S1.out.2.2 q (by omega)]
                      unfold rotR
                      rw [if_neg (by omega), if_neg (by omega)]
                      exact HSL.out p q q1 q2 (by omega))
                    (by
                      rw [seg_sorted]
                      intro p q q1 q2 q3
                      show ltOf cf d1[q]! d1[p]! = false
                      rw [S1.out.2.2 p (by omega), S1.out.2.2 q (by omega)]
                      unfold rotR
                      rw [if_pos (show i ≤ q ∧ q < e by omega), if_pos (show q < i + (e - m) by omega), if_pos (show i ≤ p ∧ p < e by omega), if_pos (show p < i + (e - m) by omega)]
                      exact HSR.out _ _ (by omega) (by omega) (by omega)))
                  go_wp2_with (go_at_fn 112; refine RC.out.mono ?_; rintro e w5 ⟨rfl, h5⟩; have H5 := Lib.hid h5; clear h5)
                  go_meet
                  exact ⟨rfl, rfl, H5.out⟩
                · have hcb : decide (a < i ∧ i < mid) = false := decide_eq_false (fun h => c2 h.2)
                  go_wp2_with fail
                  go_meet
                  exact ⟨rfl, rfl, d1, S1.out.1, S1.out.2.1, by rw [show i = mid by omega]; exact merged_none_right⟩
              · have hcb : decide (a < i ∧ i < mid) = false := decide_eq_false (fun h => c1 h.1)
                go_wp2_with fail
                go_meet
                exact ⟨rfl, rfl, d1, S1.out.1, S1.out.2.1, by rw [show i = a by omega]; exact merged_none_left⟩
          case rest =>
            obtain ⟨rfl, rfl, d2, s2, z2, g2⟩ := hcut
            obtain ⟨wl, rfl⟩ : ∃ wl : World, wl = wc := ⟨_, rfl⟩
            have S2 := Lib.hid (And.intro s2 (And.intro z2 g2))
            clear s2 z2 g2
            have FIN := Lib.hid (fun (d3 : Array α) (h3 : Merged (ltOf cf) (fun p => d2[p]!) (fun p => d3[p]!) mid e b d.size) => merged_halves (lt := ltOf cf) (D := fun p => d[p]!) (E := fun p => d1[p]!) (F := fun p => d2[p]!) (G := fun p => d3[p]!) (a := a) (s := i) (m := m) (e := e) (mid := mid) (b := b) (n := d.size) (by omega) b1 b2 b3 b5 hb HL.out HR.out S1.out.2.2 S2.out.2.2 h3)
            by_cases c1 : mid < e
            · have c1z : (mid : Int) < (e : Int) := by omega
              by_cases c2 : e < b
              · have c2z : (e : Int) < (b : Int) := by omega
                have RC := Lib.hid (HI.out mid e b d2 wl (by omega) c1 c2 (by omega) S2.out.2.1 S2.out.1
                  (by
                    rw [seg_sorted]
                    intro p q q1 q2 q3
                    show ltOf cf d2[q]! d2[p]! = false
                    have f := S2.out.2.2.1
                    rw [show d2[p]! = d1[p]! from f p (by omega) (by omega), show d2[q]! = d1[q]! from f q (by omega) (by omega), S1.out.2.2 p (by omega), S1.out.2.2 q (by omega)]
                    unfold rotR
                    rw [if_pos (show i ≤ q ∧ q < e by omega), if_neg (show ¬ q < i + (e - m) by omega), if_pos (show i ≤ p ∧ p < e by omega), if_neg (show ¬ p < i + (e - m) by omega)]
                    exact HSL.out _ _ (by omega) (by omega) (by omega))
                  (by
                    rw [seg_sorted]
                    intro p q q1 q2 q3
                    show ltOf cf d2[q]! d2[p]! = false
                    have f := S2.out.2.2.1
                    rw [show d2[p]! = d1[p]! from f p (by omega) (by omega), show d2[q]! = d1[q]! from f q (by omega) (by omega), S1.out.2.2 p (by omega), S1.out.2.2 q (by omega)]
                    unfold rotR
                    rw [if_neg (by omega), if_neg (by omega)]
                    exact HSR.out _ _ (by omega) (by omega) (by omega)))
                go_wp2_with (go_at_fn 112; refine RC.out.mono ?_; rintro e w5 ⟨rfl, h5⟩; have H5 := Lib.hid h5; clear h5)
                go_end0
                obtain ⟨d3, s3, z3, g3⟩ := H5.out
                exact ⟨rfl, d3, s3, z3, FIN.out d3 g3⟩
              · have c2z : ¬ (e : Int) < (b : Int) := by omega
                go_wp2_with fail
                go_end0
                exact ⟨rfl, d2, S2.out.1, S2.out.2.1, FIN.out d2 (by rw [show e = b by omega]; exact merged_none_right)⟩
            · have c1z : ¬ (mid : Int) < (e : Int) := by omega
              go_wp2_with fail
              go_end0
              exact ⟨rfl, d2, S2.out.1, S2.out.2.1, FIN.out d2 (by rw [show e = mid by omega]; exact merged_none_left)⟩

theorem sym_any (L : PlL P k) (R : RowS enc k w0 blk off d0) (cf : α → α → Int) (hW : WkO (ltOf cf)) (g : Nat) (cb : Array Value) (eg : ∀ args w, (callFunc g args).run P w = .ok (.enter g args) w) (hC : CmpLays P g cb enc k cf blk off d0.size w0)
    (cap : Nat) (hsz : d0.size < 2305843009213693952) : ∀ lim, SymIH P enc k w0 blk off cf d0.size cap (.func (.func g) #[] cb) lim
  | 0 => fun a m b d' W' h => absurd h (Nat.not_lt_zero _)
  | lim + 1 => fun a m b d' W' h0 h1 h2 h3 h4 S sl sr => by
    have IH := sym_any L R cf hW g cb eg hC cap hsz lim
    by_cases e1 : m = a + 1
    · subst e1
      have := sym_left L R cf hW g cb eg hC S h4 a b cap (by omega) (by omega) (by omega) sr
      rw [h4] at this
      exact this.mono fun e w' ⟨q1, d2, q2, q3, q4⟩ => ⟨q1, d2, q2, by omega, by rw [← h4]; exact q4⟩
    · by_cases e2 : b = m + 1
      · subst e2
        have := sym_right L R cf hW g cb eg hC S h4 a m cap (by omega) (by omega) (by omega) sl
        rw [h4] at this
        exact this.mono fun e w' ⟨q1, d2, q2, q3, q4⟩ => ⟨q1, d2, q2, by omega, by rw [← h4]; exact q4⟩
      · have := sym_step L R cf hW g cb eg hC S h4 a m b cap (by omega) (by omega) (by omega) (by omega) sl sr (by
          rw [h4]
          intro a' m' b' d2 W2 g0
          exact IH a' m' b' d2 W2 (by omega))
        rw [h4] at this
        exact this.mono fun e w' ⟨q1, d2, q2, q3, q4⟩ => ⟨q1, d2, q2, by omega, by rw [← h4]; exact q4⟩
end

end Go.Proofs.YtffifhbldcjelaaGreatDoor
