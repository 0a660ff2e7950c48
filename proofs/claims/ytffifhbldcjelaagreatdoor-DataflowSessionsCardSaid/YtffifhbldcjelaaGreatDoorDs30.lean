/-
  Insertion sort and stable at structs of k cells, over any program that bears them. stable of at most 39 structs of k cells, over any program that bears it. session.compare.
-/
import Derived.Test.YtffifhbldcjelaaGreatDoorDs29
import Derived.Test.YtffifhbldcjelaaGreatDoorDs19
import Derived.Test.YtffifhbldcjelaaGreatDoorShelf
import Derived.Deep.RegionHeld3
import Derived.Deep.DeepCutAuto
import Derived.Deep.QuietTactic
import Derived.Sort.Grow

/-! Insertion sort and stable at structs of k cells, over any program that bears them. -/
namespace Go.Proofs.YtffifhbldcjelaaGreatDoor
set_option linter.unusedVariables false
set_option linter.unusedSimpArgs false
set_option linter.unusedSectionVars false
open Go.Shelf Go.RowKit Go.Lib Go.Sort

section
variable {P : Program} {k : Nat} {α : Type} [Inhabited α] {enc : α → List Value} {w0 W : World} {blk off : Nat} {d0 d : Array α}

/-- a stretch is sorted, the rest is as it was -/
def Isd (lt : α → α → Bool) (D E : Nat → α) (a b n : Nat) : Prop := (∀ p, p < n → ¬ (a ≤ p ∧ p < b) → E p = D p) ∧ seg E a (b - a) = isort lt (seg D a (b - a))
theorem isort_nil {lt : α → α → Bool} : isort lt ([] : List α) = [] := rfl
theorem isort_one {lt : α → α → Bool} (x : α) : isort lt [x] = [x] := rfl
theorem isd_none {lt : α → α → Bool} {D : Nat → α} {a n : Nat} : Isd lt D D a a n := ⟨fun _ _ _ => rfl, by rw [show a - a = 0 by omega]; rfl⟩
theorem isd_one {lt : α → α → Bool} {D : Nat → α} {a n : Nat} : Isd lt D D a (a + 1) n := ⟨fun _ _ _ => rfl, by rw [show a + 1 - a = 1 by omega, seg_one]; rfl⟩
theorem isd_step {lt : α → α → Bool} (h : WkO lt) {D E F : Nat → α} {a i n : Nat} (hai : a ≤ i) (hin : i < n) (h1 : Isd lt D E a i n) (h2 : Merged lt E F a i (i + 1) n) : Isd lt D F a (i + 1) n := by
  obtain ⟨a1, a2⟩ := h1
  obtain ⟨b1, b2⟩ := h2
  refine ⟨fun p hp hn => by rw [b1 p hp (by omega), a1 p hp (by omega)], ?_⟩
  rw [b2, a2, show i + 1 - i = 1 by omega, seg_one, show i + 1 - a = (i - a) + 1 by omega, seg_add, isort_append h _ 1 _ (by rw [seg_len]), seg_one, isort_one, show a + (i - a) = i by omega, a1 i hin (by omega)]
theorem isd_merge {lt : α → α → Bool} (h : WkO lt) {D E F G : Nat → α} {a m b n : Nat} (ham : a ≤ m) (hmb : m ≤ b) (hbn : b ≤ n) (h1 : Isd lt D E a m n) (h2 : Isd lt E F m b n) (h3 : Merged lt F G a m b n) : Isd lt D G a b n := by
  obtain ⟨a1, a2⟩ := h1
  obtain ⟨b1, b2⟩ := h2
  obtain ⟨c1, c2⟩ := h3
  refine ⟨fun p hp hn => by rw [c1 p hp hn, b1 p hp (by omega), a1 p hp (by omega)], ?_⟩
  have e1 : seg F a (m - a) = seg E a (m - a) := seg_ext fun q hq => b1 _ (by omega) (by omega)
  have e2 : seg E m (b - m) = seg D m (b - m) := seg_ext fun q hq => a1 _ (by omega) (by omega)
  rw [c2, e1, a2, b2, e2, show b - a = (m - a) + (b - m) by omega, seg_add, show a + (m - a) = m by omega, isort_append h _ _ _ (seg_len _ _ _)]

set_option maxHeartbeats 40000000 in
set_option maxRecDepth 1000000 in
theorem ins_any (L : PlL P k) (R : RowS enc k w0 blk off d0) (cf : α → α → Int) (hW : WkO (ltOf cf)) (g : Nat) (cb : Array Value) (eg : ∀ args w, (callFunc g args).run P w = .ok (.enter g args) w) (hC : CmpLays P g cb enc k cf blk off d0.size w0)
    (S : SWK enc k w0 blk off d W) (hs : d.size = d0.size) (a b cap : Nat) (hab : a ≤ b) (hb : b ≤ d.size) (hsz : d.size < 2305843009213693952) :
    Calls P 111 #[.slice (some ⟨blk, off, none⟩) d.size cap, .int .i64 a, .int .i64 b, .func (.func g) #[] cb] W fun e w' => e = .returned (.tuple #[]) ∧ ∃ d2 : Array α, SWK enc k w0 blk off d2 w' ∧ d2.size = d.size ∧ Isd (ltOf cf) (fun p => d[p]!) (fun p => d2[p]!) a b d.size := by
  have mixed := L.mixed; have aE := L.aE; have zE := L.zE; have t0 := L.t0; have a0 := L.a0; have z0 := L.z0; have v0 := L.v0; have t3 := L.t3; have a3 := L.a3; have z3 := L.z3; have v3 := L.v3; have t4 := L.t4; have a4 := L.a4; have z4 := L.z4; have v4 := L.v4; have t96 := L.t96; have a96 := L.a96; have z96 := L.z96; have v96 := L.v96; have t120 := L.t120; have a120 := L.a120; have z120 := L.z120; have v120 := L.v120; have u96 := run_underlying L.t96
  have RR := Lib.hid R
  have SS := Lib.hid S
  have CC := Lib.hid hC
  have HWK := Lib.hid hW
  have HSZ := Lib.hid hs
  have HN := Lib.hid hsz
  clear R S hC hW hs
  go_enter L.fins, Tryz.ntmps111
  go_wp2
  go_loopg [8] (b - a) (fun g1 vi wr => ∃ (i : Nat) (d1 : Array α), vi = .int .i64 i ∧ a < i ∧ i ≤ b + 1 ∧ b + 1 - i ≤ g1 + 1 ∧ Hid (SWK enc k w0 blk off d1 wr) ∧ d1.size = d.size ∧ Hid (if i ≤ b then Isd (ltOf cf) (fun p => d[p]!) (fun p => d1[p]!) a i d.size else Isd (ltOf cf) (fun p => d[p]!) (fun p => d1[p]!) a b d.size))
  case atStart => exact ⟨a + 1, d, by go_num, by omega, by omega, by omega, (show Hid _ from SS.out), rfl, (show Hid _ from by
    by_cases h : a + 1 ≤ b
    · rw [if_pos h]; exact isd_one
    · rw [if_neg h, show b = a by omega]; exact isd_none)⟩
  case round =>
    obtain ⟨i, d1, rfl, hai, hib, hg1, HS, hsd, HI⟩ := hrel
    by_cases hlt : i < b
    · have hltz : (i : Int) < (b : Int) := by omega
      have HI2 : Hid (Isd (ltOf cf) (fun p => d[p]!) (fun p => d1[p]!) a i d.size) := by
        have := HI.out
        rw [if_pos (by omega)] at this
        exact this
      have HSD := Lib.hid hsd
      have SRT := Lib.hid (show ∀ p q, a ≤ p → p < q → q < i → ltOf cf d1[q]! d1[p]! = false from fun p q q1 q2 q3 => by
        have h := isort_sorted HWK.out (seg (fun p => d[p]!) a (i - a))
        rw [← HI2.out.2, seg_sorted] at h
        exact h p q q1 q2 (by omega))
      clear HI hsd
      go_wp2
      go_loopg [9] i (fun g2 vj wr2 => ∃ (q : Nat) (d' : Array α), vj = .int .i64 q ∧ a ≤ q ∧ q ≤ i ∧ q ≤ g2 ∧ Hid (SWK enc k w0 blk off d' wr2) ∧ d'.size = d.size ∧ Hid (∀ p, p < d.size → d'[p]! = if p = q then d1[i]! else if q < p ∧ p ≤ i then d1[p - 1]! else d1[p]!) ∧ Hid (∀ p, q ≤ p → p < i → ltOf cf d1[i]! d1[p]! = true))
      case atStart => exact ⟨i, d1, rfl, by omega, Nat.le_refl _, Nat.le_refl _, HS, HSD.out, (show Hid _ from fun p hp => by
        by_cases e : p = i
        · rw [if_pos e, e]
        · rw [if_neg e, if_neg (by omega)]), (show Hid _ from fun p q1 q2 => by omega)⟩
      case round =>
        obtain ⟨q, d', rfl, haq, hqi, hg2, HS2, hsd2, HD, HB⟩ := hrel
        have hsd0 : d'.size = d0.size := hsd2.trans HSZ.out
        have OUT := Lib.hid (show (q = a ∨ ltOf cf d1[i]! d1[q - 1]! = false) → Isd (ltOf cf) (fun p => d[p]!) (fun p => d'[p]!) a (i + 1) d.size from fun h => by
          refine isd_step HWK.out (by omega) (by omega) HI2.out (merged_right haq hqi ?_ HB.out (fun p hp => by rw [HD.out p hp]) (by omega))
          intro p q1 q2
          rcases h with h | h
          · omega
          · rcases Nat.lt_or_ge p (q - 1) with z | z
            · exact HWK.out.ntr _ _ _ h (SRT.out p (q - 1) q1 z (by omega))
            · rw [show p = q - 1 by omega]; exact h)
        by_cases hja : a < q
        · obtain ⟨jp, rfl⟩ : ∃ jp, q = jp + 1 := ⟨q - 1, by omega⟩
          have hjaz : (a : Int) < (jp : Int) + 1 := by omega
          have hwp : IntKind.i64.wrap (jp : Int) = (jp : Int) := by rw [IntKind.wrap_i64]; omega
          have jz : (jp : Int) + 1 < (d.size : Int) := by omega
          have jz1 : (jp : Int) < (d.size : Int) := by omega
          have p0 : (0 : Int) ≤ (jp : Int) + 1 := by omega
          have e0 : ((jp : Int) + 1).toNat = jp + 1 := by omega
          have KX := Lib.hid (show d'[jp + 1]! = d1[i]! from by rw [HD.out _ (by omega), if_pos rfl])
          have KY := Lib.hid (show d'[jp]! = d1[jp]! from by rw [HD.out _ (by omega), if_neg (by omega), if_neg (by omega)])
          have lx := fun n os => HS2.out.ld RR.out hsd0 P (jp + 1) (by omega) n os
          have ly := fun n os => HS2.out.ld RR.out hsd0 P jp (by omega) n os
          have hcg := fun n os => HS2.out.cmp CC.out hsd0 d'[jp + 1]! d'[jp]! n os
          have GROW := Lib.hid (fun n os => HS2.out.grown n os)
          have CAB := Lib.hid (show ltOf cf d'[jp + 1]! d'[jp]! = decide (cf d'[jp + 1]! d'[jp]! < 0) from rfl)
          obtain ⟨x, hx⟩ : ∃ x, d'[jp + 1]! = x := ⟨_, rfl⟩
          obtain ⟨y, hy⟩ : ∃ x, d'[jp]! = x := ⟨_, rfl⟩
          rw [hx] at lx hcg CAB KX
          rw [hy] at ly hcg CAB KY
          have HXY := Lib.hid (And.intro hx hy)
          clear hx hy
          obtain ⟨c, hc⟩ : ∃ c, cf x y = c := ⟨_, rfl⟩
          rw [hc] at hcg CAB
          clear hc
          have HS0 := Lib.hid hsd0
          clear hsd0
          by_cases hlv : c < 0
          · as_aux_lemma =>
              go_wp2_with fail
              go_quiet_grown (first | (go_at_fn g; refine Calls.grown_of (hcg _ _)))
              go_wp2_with fail
              have HG := Lib.hid (GROW.out nq osq)
              clear lx ly hcg
              generalize grow (wr.drewN nq) osq = wq at HG ⊢
              have hsd1 : d'.size = d0.size := HS0.out
              have lx := HG.out.ld1 RR.out hsd1 P (jp + 1) (by omega)
              have ly := HG.out.ld1 RR.out hsd1 P jp (by omega)
              have s1 := HG.out.st1 RR.out hsd1 P (jp + 1) (by omega) y
              have s2 := HG.out.st2 RR.out hsd1 P (jp + 1) jp (by omega) (by omega) y x
              have SWP := Lib.hid (HG.out.swapped RR.out (jp + 1) jp (by omega) (by omega))
              rw [HXY.out.1] at lx SWP
              rw [HXY.out.2] at ly SWP
              have hkx : (enc x).length = k := RR.out.hk _
              have hky : (enc y).length = k := RR.out.hk _
              obtain ⟨cx, hcx⟩ : ∃ c, c = enc x := ⟨_, rfl⟩
              obtain ⟨cy, hcy⟩ : ∃ c, c = enc y := ⟨_, rfl⟩
              rw [← hcx] at lx s2 SWP hkx
              rw [← hcy] at ly s1 s2 SWP hky
              clear hcx hcy hsd1
              go_big_region_o
              all_goals go_wp2
              go_roundg jp
              case measure => omega
              case rel =>
                refine ⟨jp, swp d' (jp + 1) jp, by go_num, by omega, by omega, by omega, (show Hid _ from SWP.out), by rw [size_swp]; exact hsd2, (show Hid _ from fun p hp => ?_), (show Hid _ from fun p q1 q2 => ?_)⟩
                · have hD := HD.out
                  rw [swp_get _ (by omega) (by omega)]
                  by_cases g1 : p = jp
                  · rw [if_pos g1, if_pos g1, hD (jp + 1) (by omega), if_pos rfl]
                  · rw [if_neg g1, if_neg g1]
                    by_cases g2 : p = jp + 1
                    · rw [if_pos g2, if_pos (by omega), hD jp (by omega), if_neg (by omega), if_neg (by omega), g2]; rfl
                    · rw [if_neg g2, hD p hp, if_neg g2]
                      by_cases g3 : jp + 1 < p ∧ p ≤ i
                      · rw [if_pos g3, if_pos (by omega)]
                      · rw [if_neg g3, if_neg (by omega)]
                · rcases Nat.lt_or_ge jp p with z | z
                  · exact HB.out p z q2
                  · rw [show p = jp by omega, ← KX.out, ← KY.out, CAB.out]; exact decide_eq_true hlv
          · as_aux_lemma =>
              go_wp2_with fail
              go_quiet_grown (first | (go_at_fn g; refine Calls.grown_of (hcg _ _)))
              go_wp2_with fail
              go_roundg (b - (i + 1))
              case measure => omega
              case rel => exact ⟨i + 1, d', by go_num, by omega, by omega, by omega, (show Hid _ from GROW.out nq osq), hsd2, (show Hid _ from by
                rw [if_pos (by omega)]
                exact OUT.out (.inr (by rw [show jp + 1 - 1 = jp by omega, ← KX.out, ← KY.out, CAB.out]; exact decide_eq_false (by omega))))⟩
        · have hjaz : decide ((q : Int) > (a : Int)) = false := decide_eq_false (by omega)
          have hjaz' : ¬ (a : Int) < (q : Int) := by omega
          have HDR := Lib.hid (HS2.out.drew)
          clear hsd0
          as_aux_lemma =>
            go_wp2_with fail
            go_big_region_o
            all_goals go_wp2
            go_roundg (b - (i + 1))
            case measure => omega
            case rel => exact ⟨i + 1, d', by go_num, by omega, by omega, by omega, (show Hid _ from HDR.out), hsd2, (show Hid _ from by
              rw [if_pos (by omega)]
              exact OUT.out (.inl (by omega)))⟩
    · have hltz : ¬ (i : Int) < (b : Int) := by omega
      go_wp2
      go_end0
      refine ⟨rfl, d1, HS.out, hsd, ?_⟩
      have h := HI.out
      by_cases e : i ≤ b
      · rw [if_pos e] at h; rw [show b = i by omega]; exact h
      · rw [if_neg e] at h; exact h
end

end Go.Proofs.YtffifhbldcjelaaGreatDoor

/-! stable of at most 39 structs of k cells, over any program that bears it. -/
namespace Go.Proofs.YtffifhbldcjelaaGreatDoor
set_option linter.unusedVariables false
set_option linter.unusedSimpArgs false
set_option linter.unusedSectionVars false
open Go.Shelf Go.RowKit Go.Lib Go.Sort

section
variable {P : Program} {k : Nat} {α : Type} [Inhabited α] {enc : α → List Value} {w0 W : World} {blk off : Nat} {d0 d : Array α}

set_option maxHeartbeats 40000000 in
set_option maxRecDepth 1000000 in
theorem stable_any (L : PlL P k) (R : RowS enc k w0 blk off d0) (cf : α → α → Int) (hW : WkO (ltOf cf)) (g : Nat) (cb : Array Value) (eg : ∀ args w, (callFunc g args).run P w = .ok (.enter g args) w) (hC : CmpLays P g cb enc k cf blk off d0.size w0)
    (S : SWK enc k w0 blk off d W) (hs : d.size = d0.size) (cap : Nat) (hsz : d.size ≤ 39) :
    Calls P 98 #[.slice (some ⟨blk, off, none⟩) d.size cap, .int .i64 d.size, .func (.func g) #[] cb] W fun e w' => e = .returned (.tuple #[]) ∧ ∃ d2 : Array α, SWK enc k w0 blk off d2 w' ∧ d2.size = d.size ∧ Isd (ltOf cf) (fun p => d[p]!) (fun p => d2[p]!) 0 d.size d.size := by
  have mixed := L.mixed; have aE := L.aE; have zE := L.zE; have t0 := L.t0; have a0 := L.a0; have z0 := L.z0; have v0 := L.v0; have t3 := L.t3; have a3 := L.a3; have z3 := L.z3; have v3 := L.v3; have t4 := L.t4; have a4 := L.a4; have z4 := L.z4; have v4 := L.v4; have t96 := L.t96; have a96 := L.a96; have z96 := L.z96; have v96 := L.v96; have t120 := L.t120; have a120 := L.a120; have z120 := L.z120; have v120 := L.v120; have u96 := run_underlying L.t96
  have e111 : ∀ args w, (callFunc 111 args).run P w = .ok (.enter 111 args) w := enters_of L.fins (by kernel_rfl) rfl
  have e112 : ∀ args w, (callFunc 112 args).run P w = .ok (.enter 112 args) w := enters_of L.fsy (by kernel_rfl) rfl
  obtain ⟨n, hn⟩ : ∃ n, d.size = n := ⟨_, rfl⟩
  have HINS := Lib.hid (fun (a b : Nat) (h1 : a ≤ b) (h2 : b ≤ n) (d' : Array α) (W' : World) (h3 : d'.size = n) (h4 : SWK enc k w0 blk off d' W') => (show Calls P 111 #[.slice (some ⟨blk, off, none⟩) n cap, .int .i64 a, .int .i64 b, .func (.func g) #[] cb] W' fun e w' => e = .returned (.tuple #[]) ∧ ∃ d2 : Array α, SWK enc k w0 blk off d2 w' ∧ d2.size = n ∧ Isd (ltOf cf) (fun p => d'[p]!) (fun p => d2[p]!) a b n from by
    have := ins_any L R cf hW g cb eg hC h4 (by omega) a b cap h1 (by omega) (by omega)
    rw [h3] at this
    exact this))
  have HSYM := Lib.hid (sym_any L R cf hW g cb eg hC cap (by omega) (n + 1))
  rw [← hs, hn] at HSYM
  have HSRT := Lib.hid (fun (D : Nat → α) (a b : Nat) (h : ∃ E, seg D a (b - a) = isort (ltOf cf) E) => show SortedB (ltOf cf) (seg D a (b - a)) by
    obtain ⟨E, e⟩ := h
    rw [e]
    exact isort_sorted hW E)
  have HWK := Lib.hid hW
  have SS := Lib.hid S
  have HSZ := Lib.hid hn
  have HH := Lib.hid hsz
  have HN : n ≤ 39 := by omega
  rw [hn]
  clear R S hC hW hs hn hsz
  go_enter L.fst, Tryz.ntmps98
  go_upto_region 2 with (fail)
  go_loopg [7, 8] 2 (fun gh v7 v8 wr => ∃ d1 : Array α, Hid (SWK enc k w0 blk off d1 wr) ∧ d1.size = n ∧ ((v7 = .int .i64 0 ∧ v8 = .int .i64 20 ∧ 1 ≤ gh ∧ Hid (d1 = d)) ∨ (v7 = .int .i64 20 ∧ v8 = .int .i64 40 ∧ 20 ≤ n ∧ Hid (Isd (ltOf cf) (fun p => d[p]!) (fun p => d1[p]!) 0 20 n))))
  case atStart => exact ⟨d, (show Hid _ from SS.out), HSZ.out, .inl ⟨rfl, rfl, by omega, rfl⟩⟩
  case round =>
    obtain ⟨d1, HS, hsd, h | h⟩ := hrel
    · obtain ⟨rfl, rfl, hg1, HD⟩ := h
      by_cases hlt : 20 ≤ n
      · have hltz : (20 : Int) ≤ (n : Int) := by omega
        have IC := Lib.hid (HINS.out 0 20 (by omega) hlt d1 wr hsd HS.out)
        as_aux_lemma =>
          go_wp2_with (go_at_fn 111; refine IC.out.mono ?_; rintro e w5 ⟨rfl, h5⟩; have H5 := Lib.hid h5; clear h5)
          obtain ⟨d5, s5, z5, g5⟩ := H5.out
          go_roundg 0
          case measure => omega
          case rel => exact ⟨d5, (show Hid _ from s5), z5, .inr ⟨by go_num, by go_num, hlt, (show Hid _ from by rw [← HD.out]; exact g5)⟩⟩
      · have hltz : ¬ (20 : Int) ≤ (n : Int) := by omega
        have hlt2 : ¬ (20 : Int) < (n : Int) := by omega
        have IC := Lib.hid (HINS.out 0 n (by omega) (Nat.le_refl _) d1 wr hsd HS.out)
        as_aux_lemma =>
          go_wp2_with (go_at_fn 111; refine IC.out.mono ?_; rintro e w5 ⟨rfl, h5⟩; have H5 := Lib.hid h5; clear h5)
          obtain ⟨d5, s5, z5, g5⟩ := H5.out
          go_loopg [6, 7, 8, 9] 1 (fun gh v6 v7 v8 v9 wr => v6 = .int .i64 20 ∧ Hid (SWK enc k w0 blk off d5 wr))
          case atStart => exact ⟨rfl, (show Hid _ from s5)⟩
          case round =>
            obtain ⟨rfl, HS5⟩ := hrel
            go_wp2_with fail
            go_end0
            exact ⟨rfl, d5, HS5.out, z5, by rw [← HD.out]; exact g5⟩
    · obtain ⟨rfl, rfl, h20, HD⟩ := h
      have hltz : ¬ (40 : Int) ≤ (n : Int) := by omega
      have IC := Lib.hid (HINS.out 20 n (by omega) (Nat.le_refl _) d1 wr hsd HS.out)
      as_aux_lemma =>
        go_wp2_with (go_at_fn 111; refine IC.out.mono ?_; rintro e w5 ⟨rfl, h5⟩; have H5 := Lib.hid h5; clear h5)
        obtain ⟨d5, s5, z5, g5⟩ := H5.out
        go_loopg [6, 7, 8, 9] 2 (fun gh v6 v7 v8 v9 wr => ∃ d6 : Array α, Hid (SWK enc k w0 blk off d6 wr) ∧ d6.size = n ∧ ((v6 = .int .i64 20 ∧ 1 ≤ gh ∧ Hid (d6 = d5)) ∨ (v6 = .int .i64 40 ∧ Hid (Isd (ltOf cf) (fun p => d[p]!) (fun p => d6[p]!) 0 n n))))
        case atStart => exact ⟨d5, (show Hid _ from s5), z5, .inl ⟨rfl, by omega, rfl⟩⟩
        case round =>
          obtain ⟨d6, HS6, hsd6, h | h⟩ := hrel
          · obtain ⟨rfl, hg1, HE⟩ := h
            by_cases hlt2 : 20 < n
            · have hlt2z : (20 : Int) < (n : Int) := by omega
              have SC := Lib.hid (HSYM.out 0 20 n d6 wr (by omega) (by omega) hlt2 (Nat.le_refl _) hsd6 HS6.out
                (HSRT.out _ _ _ ⟨_, by rw [HE.out, ← HD.out.2]; exact seg_ext fun q hq => g5.1 _ (by omega) (by omega)⟩) (HSRT.out _ _ _ ⟨_, by rw [HE.out]; exact g5.2⟩))
              go_wp2_with fail
              go_loopg [7, 8] 1 (fun gh v7 v8 wr2 => v7 = .int .i64 0 ∧ v8 = .int .i64 40 ∧ wr2 = wr)
              case atStart => exact ⟨rfl, by go_num, rfl⟩
              case round =>
                obtain ⟨rfl, rfl, rfl⟩ := hrel
                go_wp2_with (go_at_fn 112; refine SC.out.mono ?_; rintro e w7 ⟨rfl, h7⟩; have H7 := Lib.hid h7; clear h7)
                obtain ⟨d7, s7, z7, g7⟩ := H7.out
                go_roundg 0
                case measure => omega
                case rel => exact ⟨d7, (show Hid _ from s7), z7, .inr ⟨by go_num, (show Hid _ from isd_merge HWK.out (Nat.zero_le 20) h20 (Nat.le_refl n) HD.out g5 (by rw [HE.out] at g7; exact g7))⟩⟩
            · have hlt2z : ¬ (20 : Int) < (n : Int) := by omega
              obtain rfl : n = 20 := by omega
              go_wp2_with fail
              go_end0
              refine ⟨rfl, d6, HS6.out, hsd6, fun p hp hn => absurd hn (by omega), ?_⟩
              rw [HE.out, ← HD.out.2]
              exact seg_ext fun q hq => g5.1 _ (by omega) (by omega)
          · obtain ⟨rfl, HE⟩ := h
            have hlt2z : ¬ (40 : Int) < (n : Int) := by omega
            go_wp2_with fail
            go_end0
            exact ⟨rfl, d6, HS6.out, hsd6, HE.out⟩
end

end Go.Proofs.YtffifhbldcjelaaGreatDoor

/-! session.compare. -/
namespace Go.Proofs.YtffifhbldcjelaaGreatDoor
set_option linter.unusedVariables false
set_option linter.unusedSimpArgs false
set_option linter.unusedSectionVars false
open Go.RowKit Go.Shelf Go.Lib Go.Sort

def orI (x y : Int) : Int := if x = 0 then y else x
set_option maxHeartbeats 800000 in
theorem or3_any (x y z : Int) (g : Nat) (w : World) (c0 : w.cell? ⟨g, 0, none⟩ = some (.int .i64 x)) (c1 : w.cell? ⟨g, 1, none⟩ = some (.int .i64 y)) (c2 : w.cell? ⟨g, 2, none⟩ = some (.int .i64 z)) :
    Calls Tryz.prog 34 #[.slice (some ⟨g, 0, none⟩) 3 3] w fun e w' => e = .returned (.int .i64 (orI x (orI y z))) ∧ w = w' := by
  by_cases h1 : x = 0
  · have hx : (x != 0) = false := by simp [h1]
    by_cases h2 : y = 0
    · have hy : (y != 0) = false := by simp [h2]
      have HP := Lib.hid (show orI x (orI y z) = z by unfold orI; rw [if_pos h1, if_pos h2])
      clear h1 h2
      by_cases h3 : z = 0
      · have hz : (z != 0) = false := by simp [h3]
        have HZ := Lib.hid h3
        clear h3
        go_enter Tryz.func34, Tryz.ntmps34
        go_wp2
        refine wp_loop_rounds 4 ?_
        rw [rounds_succ]
        go_wp2
        rw [rounds_succ]
        go_wp2
        rw [rounds_succ]
        go_wp2
        rw [rounds_succ]
        go_wp2
        go_ret
        exact ⟨by rw [HP.out, HZ.out]; rfl, rfl⟩
      · have hz : (z != 0) = true := by rw [bne_iff_ne]; exact h3
        clear h3
        go_enter Tryz.func34, Tryz.ntmps34
        go_wp2
        refine wp_loop_rounds 3 ?_
        rw [rounds_succ]
        go_wp2
        rw [rounds_succ]
        go_wp2
        rw [rounds_succ]
        go_wp2
        go_ret
        exact ⟨by rw [HP.out]; rfl, rfl⟩
    · have hy : (y != 0) = true := by rw [bne_iff_ne]; exact h2
      have HP := Lib.hid (show orI x (orI y z) = y by unfold orI; rw [if_pos h1, if_neg h2])
      clear h1 h2
      go_enter Tryz.func34, Tryz.ntmps34
      go_wp2
      refine wp_loop_rounds 2 ?_
      rw [rounds_succ]
      go_wp2
      rw [rounds_succ]
      go_wp2
      go_ret
      exact ⟨by rw [HP.out]; rfl, rfl⟩
  · have hx : (x != 0) = true := by rw [bne_iff_ne]; exact h1
    have HP := Lib.hid (show orI x (orI y z) = x by unfold orI; rw [if_neg h1])
    clear h1
    go_enter Tryz.func34, Tryz.ntmps34
    go_wp2
    refine wp_loop_rounds 1 ?_
    rw [rounds_succ]
    go_wp2
    go_ret
    exact ⟨by rw [HP.out]; rfl, rfl⟩

/-- the order of plays: device, second, ID -/
def cfP (x y : PF) : Int := orI (Lib.compareInt (x.n 6) (y.n 6)) (orI (Lib.compareInt (x.n 4) (y.n 4)) (Lib.compareInt (x.n 1) (y.n 1)))
set_option maxRecDepth 100000 in
set_option maxHeartbeats 4000000 in
theorem compare_any (x y : PF) (w : World) : Calls Tryz.prog 57 #[.agg (encP x).toArray, .agg (encP y).toArray] w fun e w' => e = .returned (.int .i64 (cfP x y)) ∧ ∃ q os', w' = grow (w.drewN q) os' := by
  have HC := Lib.hid (show orI (Lib.compareInt (x.n 6) (y.n 6)) (orI (Lib.compareInt (x.n 4) (y.n 4)) (Lib.compareInt (x.n 1) (y.n 1))) = cfP x y from rfl)
  obtain ⟨a, ha⟩ : ∃ a, Lib.compareInt (x.n 6) (y.n 6) = a := ⟨_, rfl⟩
  obtain ⟨b, hb⟩ : ∃ a, Lib.compareInt (x.n 4) (y.n 4) = a := ⟨_, rfl⟩
  obtain ⟨c, hc⟩ : ∃ a, Lib.compareInt (x.n 1) (y.n 1) = a := ⟨_, rfl⟩
  rw [ha, hb, hc] at HC
  have CA := Lib.hid (fun W => Tryz.cmp_Compare_int (x.n 6) (y.n 6) W)
  have CB := Lib.hid (fun W => Tryz.cmp_Compare_int (x.n 4) (y.n 4) W)
  have CC := Lib.hid (fun W => Tryz.cmp_Compare_int (x.n 1) (y.n 1) W)
  rw [ha] at CA
  rw [hb] at CB
  rw [hc] at CC
  have CO := Lib.hid (fun (g : Nat) (W : World) c0 c1 c2 => or3_any a b c g W c0 c1 c2)
  clear ha hb hc
  unfold encP
  go_enter Tryz.func57, Tryz.ntmps57
  go_upto_region 1 with (fail)
  obtain ⟨wb, hwb⟩ : ∃ wb, wb = (w.alloc (.cells #[.int .i64 (x.n 0), .int .i64 (x.n 1), .int .i64 (x.n 2), .int .i64 (x.n 3), .int .i64 (x.n 4), .int .i64 (x.n 5), .int .i64 (x.n 6), .int .i64 (x.n 7), .int .i64 (x.n 8), .int .i64 (x.n 9), .int .i64 (x.n 10), .int .i64 (x.n 11), .int .i64 (x.n 12), .int .i64 (x.n 13), .int .i64 (x.n 14), .int .i64 (x.n 15), .int .i64 (x.n 16), .string x.t] 134)).alloc (.cells #[.int .i64 (y.n 0), .int .i64 (y.n 1), .int .i64 (y.n 2), .int .i64 (y.n 3), .int .i64 (y.n 4), .int .i64 (y.n 5), .int .i64 (y.n 6), .int .i64 (y.n 7), .int .i64 (y.n 8), .int .i64 (y.n 9), .int .i64 (y.n 10), .int .i64 (y.n 11), .int .i64 (y.n 12), .int .i64 (y.n 13), .int .i64 (y.n 14), .int .i64 (y.n 15), .int .i64 (y.n 16), .string y.t] 134) := ⟨_, rfl⟩
  have GR := Lib.hid (show ∃ os', wb = grow w os' from ⟨_, by rw [hwb, alloc_eq_grow, alloc_eq_grow, grow_grow]⟩)
  obtain ⟨bx, hbx⟩ : ∃ bx, bx = w.heap.size := ⟨_, rfl⟩
  have KEEP := Lib.hid (show ∀ W, Below wb.heap.size wb W → W.cell? ⟨bx, 6, none⟩ = some (.int .i64 (x.n 6)) ∧ W.cell? ⟨bx, 4, none⟩ = some (.int .i64 (x.n 4)) ∧ W.cell? ⟨bx, 1, none⟩ = some (.int .i64 (x.n 1)) ∧ W.cell? ⟨bx + 1, 6, none⟩ = some (.int .i64 (y.n 6)) ∧ W.cell? ⟨bx + 1, 4, none⟩ = some (.int .i64 (y.n 4)) ∧ W.cell? ⟨bx + 1, 1, none⟩ = some (.int .i64 (y.n 1)) from fun W hW => by
    have h0 : wb.heap[bx]? = some (.cells #[.int .i64 (x.n 0), .int .i64 (x.n 1), .int .i64 (x.n 2), .int .i64 (x.n 3), .int .i64 (x.n 4), .int .i64 (x.n 5), .int .i64 (x.n 6), .int .i64 (x.n 7), .int .i64 (x.n 8), .int .i64 (x.n 9), .int .i64 (x.n 10), .int .i64 (x.n 11), .int .i64 (x.n 12), .int .i64 (x.n 13), .int .i64 (x.n 14), .int .i64 (x.n 15), .int .i64 (x.n 16), .string x.t] 134 (0, 0)) := by rw [hwb, hbx, Below.heap_alloc _ _ _ (by simp)]; exact World.alloc_heap_new w _
    have h1 : wb.heap[bx + 1]? = some (.cells #[.int .i64 (y.n 0), .int .i64 (y.n 1), .int .i64 (y.n 2), .int .i64 (y.n 3), .int .i64 (y.n 4), .int .i64 (y.n 5), .int .i64 (y.n 6), .int .i64 (y.n 7), .int .i64 (y.n 8), .int .i64 (y.n 9), .int .i64 (y.n 10), .int .i64 (y.n 11), .int .i64 (y.n 12), .int .i64 (y.n 13), .int .i64 (y.n 14), .int .i64 (y.n 15), .int .i64 (y.n 16), .string y.t] 134 (0, 0)) := by
      have := World.alloc_heap_new (w.alloc (.cells #[.int .i64 (x.n 0), .int .i64 (x.n 1), .int .i64 (x.n 2), .int .i64 (x.n 3), .int .i64 (x.n 4), .int .i64 (x.n 5), .int .i64 (x.n 6), .int .i64 (x.n 7), .int .i64 (x.n 8), .int .i64 (x.n 9), .int .i64 (x.n 10), .int .i64 (x.n 11), .int .i64 (x.n 12), .int .i64 (x.n 13), .int .i64 (x.n 14), .int .i64 (x.n 15), .int .i64 (x.n 16), .string x.t] 134)) (.cells #[.int .i64 (y.n 0), .int .i64 (y.n 1), .int .i64 (y.n 2), .int .i64 (y.n 3), .int .i64 (y.n 4), .int .i64 (y.n 5), .int .i64 (y.n 6), .int .i64 (y.n 7), .int .i64 (y.n 8), .int .i64 (y.n 9), .int .i64 (y.n 10), .int .i64 (y.n 11), .int .i64 (y.n 12), .int .i64 (y.n 13), .int .i64 (y.n 14), .int .i64 (y.n 15), .int .i64 (y.n 16), .string y.t] 134)
      rw [hwb, hbx]; simpa using this
    have g0 := (hW.block bx (Array.getElem?_eq_some_iff.1 h0).1).trans h0
    have g1 := (hW.block (bx + 1) (Array.getElem?_eq_some_iff.1 h1).1).trans h1
    exact ⟨cell_blk g0 rfl, cell_blk g0 rfl, cell_blk g0 rfl, cell_blk g1 rfl, cell_blk g1 rfl, cell_blk g1 rfl⟩)
  rw [← hwb, ← hbx]
  clear hwb hbx
  go_region_held3 (fun W => W.cell? ⟨bx, 6, none⟩ = some (.int .i64 (x.n 6)) ∧ W.cell? ⟨bx, 4, none⟩ = some (.int .i64 (x.n 4)) ∧ W.cell? ⟨bx, 1, none⟩ = some (.int .i64 (x.n 1)) ∧ W.cell? ⟨bx + 1, 6, none⟩ = some (.int .i64 (y.n 6)) ∧ W.cell? ⟨bx + 1, 4, none⟩ = some (.int .i64 (y.n 4)) ∧ W.cell? ⟨bx + 1, 1, none⟩ = some (.int .i64 (y.n 1)))
    (first | (exact KEEP.out _ (Below.refl _ wb)) | (exact KEEP.out _ (Below.refl _ wb).drew) | (exact KEEP.out _ ((Below.refl wb.heap.size wb).drew.alloc (Nat.le_refl _) _)) | assumption)
    (first
      | (go_at_call 35; (with_reducible refine (CA.out _).mono ?_); rintro e w' ⟨rfl, rfl⟩)
      | (go_at_call 35; (with_reducible refine (CB.out _).mono ?_); rintro e w' ⟨rfl, rfl⟩)
      | (go_at_call 35; (with_reducible refine (CC.out _).mono ?_); rintro e w' ⟨rfl, rfl⟩)
      | (go_at_call 34; (with_reducible refine (CO.out _ _ ?_ ?_ ?_).mono ?_); (simp); (simp); (simp); rintro e w' ⟨rfl, rfl⟩))
  go_wp2_with fail
  go_ret
  obtain ⟨os', hg⟩ := GR.out
  exact ⟨by rw [HC.out]; rfl, 1, os' ++ #[.cells #[.int .i64 a, .int .i64 b, .int .i64 c] 3], by rw [hg, alloc_eq_grow, grow_grow, drew_grow]; rfl⟩

end Go.Proofs.YtffifhbldcjelaaGreatDoor
