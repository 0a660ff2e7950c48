/-
  slices.SortStableFunc's family at structs of k cells, over any program that bears it: swapRange, rotate. symMerge at structs of k cells, over any program that bears it.
-/
import Derived.Test.YtffifhbldcjelaaGreatDoorDs26
import Derived.Test.YtffifhbldcjelaaGreatDoorDs19
import Derived.Shelf.SlSortCmp.KitK
import Derived.Deep.DeepCutAuto
import Derived.BigRegion
import Derived.Shelf.Abstract
import Derived.Sort.LotA

/-! slices.SortStableFunc's family at structs of k cells, over any program that bears it: swapRange, rotate. -/
namespace Go.Proofs.YtffifhbldcjelaaGreatDoor
set_option linter.unusedVariables false
set_option linter.unusedSimpArgs false
open Go.Shelf Go.RowKit Go.Lib Go.Sort

/-- a program that bears the family -/
structure PlL (P : Program) (k : Nat) : Prop where
  mixed : P.follows .mixedOrders = true
  fsw : P.funcs[127]? = some Tryz.f127
  fro : P.funcs[123]? = some Tryz.f123
  fsy : P.funcs[112]? = some Tryz.f112
  fst : P.funcs[98]? = some Tryz.f98
  fins : P.funcs[111]? = some Tryz.f111
  t0 : P.underlying 0 = some (.tuple #[])
  a0 : ∀ w, (isAgg 0).run P w = .ok false w
  z0 : ∀ w, (Go.sizeOf 0).run P w = .ok 1 w
  v0 : ∀ w, (zeroValue 0).run P w = .ok (.tuple #[]) w
  t3 : P.underlying 3 = some (.int .i64)
  a3 : ∀ w, (isAgg 3).run P w = .ok false w
  z3 : ∀ w, (Go.sizeOf 3).run P w = .ok 1 w
  v3 : ∀ w, (zeroValue 3).run P w = .ok (.int .i64 0) w
  t4 : P.underlying 4 = some (.bool)
  a4 : ∀ w, (isAgg 4).run P w = .ok false w
  z4 : ∀ w, (Go.sizeOf 4).run P w = .ok 1 w
  v4 : ∀ w, (zeroValue 4).run P w = .ok (.bool false) w
  t96 : P.underlying 96 = some (.slice 134)
  a96 : ∀ w, (isAgg 96).run P w = .ok false w
  z96 : ∀ w, (Go.sizeOf 96).run P w = .ok 1 w
  v96 : ∀ w, (zeroValue 96).run P w = .ok (.slice none 0 0) w
  t120 : P.underlying 120 = some (.int .u64)
  a120 : ∀ w, (isAgg 120).run P w = .ok false w
  z120 : ∀ w, (Go.sizeOf 120).run P w = .ok 1 w
  v120 : ∀ w, (zeroValue 120).run P w = .ok (.int .u64 0) w
  aE : ∀ w, (isAgg 134).run P w = .ok true w
  zE : ∀ w, (Go.sizeOf 134).run P w = .ok k w

abbrev RowS {α : Type} [Inhabited α] (enc : α → List Value) (k : Nat) (w0 : World) (blk off : Nat) (d0 : Array α) : Prop := _root_.Go.Proofs.RowK enc k w0 blk off d0
section
variable {P : Program} {k : Nat} {α : Type} [Inhabited α] {enc : α → List Value} {w0 W : World} {blk off : Nat} {d0 d : Array α}

/-- behind a call of the family: the row holds what D says -/
def RowIs (enc : α → List Value) (k : Nat) (w0 : World) (blk off n : Nat) (D : Nat → α) (w' : World) : Prop := ∃ d' : Array α, SWK enc k w0 blk off d' w' ∧ d'.size = n ∧ ∀ p, p < n → d'[p]! = D p
theorem RowIs.of {n : Nat} {D E : Nat → α} {w' : World} (h : RowIs enc k w0 blk off n D w') (e : ∀ p, p < n → D p = E p) : RowIs enc k w0 blk off n E w' := by
  obtain ⟨d', h1, h2, h3⟩ := h
  exact ⟨d', h1, h2, fun p hp => (h3 p hp).trans (e p hp)⟩

set_option maxHeartbeats 4000000 in
set_option maxRecDepth 1000000 in
theorem swapr_any (L : PlL P k) (R : RowS enc k w0 blk off d0) (S : SWK enc k w0 blk off d W) (hs : d.size = d0.size) (a b n cap : Nat) (fv : Value) (hab : a + n ≤ b) (hbn : b + n ≤ d.size) (hsz : d.size < 4611686018427387904) :
    Calls P 127 #[.slice (some ⟨blk, off, none⟩) d.size cap, .int .i64 a, .int .i64 b, .int .i64 n, fv] W fun e w' => e = .returned (.tuple #[]) ∧ RowIs enc k w0 blk off d.size (swR (fun p => d[p]!) a b n) w' := by
  have mixed := L.mixed; have aE := L.aE; have zE := L.zE; have t0 := L.t0; have a0 := L.a0; have z0 := L.z0; have v0 := L.v0; have t3 := L.t3; have a3 := L.a3; have z3 := L.z3; have v3 := L.v3; have t4 := L.t4; have a4 := L.a4; have z4 := L.z4; have v4 := L.v4; have t96 := L.t96; have a96 := L.a96; have z96 := L.z96; have v96 := L.v96; have t120 := L.t120; have a120 := L.a120; have z120 := L.z120; have v120 := L.v120; have u96 := run_underlying L.t96
  have RR := Lib.hid R
  have SS := Lib.hid S
  have HSZ := Lib.hid hs
  clear R S hs
  go_enter L.fsw, Tryz.ntmps127
  go_wp2
  go_loopg [10] n (fun g vi wr => ∃ (i : Nat) (d' : Array α), vi = .int .i64 i ∧ i ≤ n ∧ n - i ≤ g ∧ Hid (SWK enc k w0 blk off d' wr) ∧ d'.size = d.size ∧ Hid (∀ p, p < d.size → d'[p]! = swR (fun p => d[p]!) a b i p))
  case atStart => exact ⟨0, d, rfl, Nat.zero_le _, by omega, Lib.hid SS.out, rfl, Lib.hid (fun p _ => by rw [swR_zero])⟩
  case round =>
    obtain ⟨i, d', rfl, hi, hg, HS, hsd, HD⟩ := hrel
    by_cases hlt : i < n
    · have hltz : (i : Int) < (n : Int) := by omega
      have w1 : IntKind.i64.wrap ((a : Int) + (i : Int)) = (a : Int) + (i : Int) := by rw [IntKind.wrap_i64]; omega
      have w2 : IntKind.i64.wrap ((b : Int) + (i : Int)) = (b : Int) + (i : Int) := by rw [IntKind.wrap_i64]; omega
      have p1 : (0 : Int) ≤ (a : Int) + (i : Int) := by omega
      have p2 : (0 : Int) ≤ (b : Int) + (i : Int) := by omega
      have q1 : (a : Int) + (i : Int) < (d.size : Int) := by omega
      have q2 : (b : Int) + (i : Int) < (d.size : Int) := by omega
      have e1 : ((a : Int) + (i : Int)).toNat = a + i := by omega
      have e2 : ((b : Int) + (i : Int)).toNat = b + i := by omega
      obtain ⟨x, hx⟩ : ∃ x, d'[a + i]! = x := ⟨_, rfl⟩
      obtain ⟨y, hy⟩ : ∃ y, d'[b + i]! = y := ⟨_, rfl⟩
      have hsd0 : d'.size = d0.size := hsd.trans HSZ.out
      have lx := HS.out.ld1 RR.out hsd0 P (a + i) (by omega)
      have ly := HS.out.ld1 RR.out hsd0 P (b + i) (by omega)
      have s1 := HS.out.st1 RR.out hsd0 P (a + i) (by omega) y
      have s2 := HS.out.st2 RR.out hsd0 P (a + i) (b + i) (by omega) (by omega) y x
      have SWP := Lib.hid (HS.out.swapped RR.out (a + i) (b + i) (by omega) (by omega))
      rw [hx] at lx SWP
      rw [hy] at ly SWP
      have hkx : (enc x).length = k := RR.out.hk _
      have hky : (enc y).length = k := RR.out.hk _
      obtain ⟨cx, hcx⟩ : ∃ c, c = enc x := ⟨_, rfl⟩
      obtain ⟨cy, hcy⟩ : ∃ c, c = enc y := ⟨_, rfl⟩
      rw [← hcx] at lx s2 SWP hkx
      rw [← hcy] at ly s1 s2 SWP hky
      have HXY := Lib.hid (And.intro hx hy)
      clear hcx hcy hx hy hsd0
      go_wp2_with fail
      go_big_region_o
      all_goals go_wp2
      go_roundg (n - (i + 1))
      case measure => omega
      case rel =>
        refine ⟨i + 1, swp d' (a + i) (b + i), by go_num, by omega, by omega, (show Hid _ from SWP.out), by rw [size_swp]; exact hsd, (show Hid _ from ?_)⟩
        show ∀ p, p < d.size → _
        intro p hp
        have hD := HD.out
        rw [swR_succ _ (by omega), swp_get _ (by omega) (by omega)]
        by_cases h1 : p = a + i
        · rw [if_pos h1]
          by_cases h2 : p = b + i
          · omega
          · first
              | (rw [if_neg h2, if_pos h1]; exact hD _ (by omega))
              | (rw [if_pos h1]; exact hD _ (by omega))
        · rw [if_neg h1]
          by_cases h2 : p = b + i
          · rw [if_pos h2]
            first
              | (rw [if_pos h2]; exact hD _ (by omega))
              | (rw [if_neg h1, if_pos h2]; exact hD _ (by omega))
          · rw [if_neg h2]
            first
              | (rw [if_neg h2, if_neg h1]; exact hD _ hp)
              | (rw [if_neg h1, if_neg h2]; exact hD _ hp)
    · have hltz : ¬ (i : Int) < (n : Int) := by omega
      obtain rfl : i = n := by omega
      go_wp2
      go_end0
      exact ⟨rfl, d', HS.out, hsd, HD.out⟩

set_option maxHeartbeats 4000000 in
set_option maxRecDepth 1000000 in
theorem rotate_any (L : PlL P k) (R : RowS enc k w0 blk off d0) (S : SWK enc k w0 blk off d W) (hs : d.size = d0.size) (a m b cap : Nat) (fv : Value) (ham : a < m) (hmb : m < b) (hbn : b ≤ d.size) (hsz : d.size < 4611686018427387904) :
    Calls P 123 #[.slice (some ⟨blk, off, none⟩) d.size cap, .int .i64 a, .int .i64 m, .int .i64 b, fv] W fun e w' => e = .returned (.tuple #[]) ∧ RowIs enc k w0 blk off d.size (rotR (fun p => d[p]!) a m b) w' := by
  have mixed := L.mixed; have aE := L.aE; have zE := L.zE; have t0 := L.t0; have a0 := L.a0; have z0 := L.z0; have v0 := L.v0; have t3 := L.t3; have a3 := L.a3; have z3 := L.z3; have v3 := L.v3; have t4 := L.t4; have a4 := L.a4; have z4 := L.z4; have v4 := L.v4; have t96 := L.t96; have a96 := L.a96; have z96 := L.z96; have v96 := L.v96; have t120 := L.t120; have a120 := L.a120; have z120 := L.z120; have v120 := L.v120; have u96 := run_underlying L.t96
  have RR := Lib.hid R
  have SS := Lib.hid S
  have HSW := Lib.hid (fun (a b n : Nat) (h1 : a + n ≤ b) (h2 : b + n ≤ d.size) (d' : Array α) (W' : World) (h3 : d'.size = d.size) (h4 : SWK enc k w0 blk off d' W') => (show Calls P 127 #[.slice (some ⟨blk, off, none⟩) d.size cap, .int .i64 a, .int .i64 b, .int .i64 n, fv] W' fun e w' => e = .returned (.tuple #[]) ∧ RowIs enc k w0 blk off d.size (swR (fun p => d'[p]!) a b n) w' from by
    have := swapr_any L R h4 (by omega) a b n cap fv h1 (by omega) (by omega)
    rw [h3] at this
    exact this))
  have e127 : ∀ args w, (callFunc 127 args).run P w = .ok (.enter 127 args) w := enters_of L.fsw (by kernel_rfl) rfl
  have HSZ := Lib.hid hs
  clear R S hs
  go_enter L.fro, Tryz.ntmps123
  have w1 : IntKind.i64.wrap ((m : Int) - (a : Int)) = (m : Int) - (a : Int) := by rw [IntKind.wrap_i64]; omega
  have w2 : IntKind.i64.wrap ((b : Int) - (m : Int)) = (b : Int) - (m : Int) := by rw [IntKind.wrap_i64]; omega
  go_wp2
  go_loopg [10, 11] (b - a) (fun g v10 v11 wr => ∃ (i j : Nat) (d' : Array α), v10 = .int .i64 i ∧ v11 = .int .i64 j ∧ 0 < i ∧ 0 < j ∧ i ≤ m ∧ m + j ≤ d.size ∧ i + j ≤ g ∧ Hid (SWK enc k w0 blk off d' wr) ∧ d'.size = d.size ∧ Hid (∀ p, p < d.size → rotR (fun p => d'[p]!) (m - i) m (m + j) p = rotR (fun p => d[p]!) a m b p))
  case atStart => exact ⟨m - a, b - m, d, by go_num, by go_num, by omega, by omega, by omega, by omega, by omega, (show Hid _ from SS.out), rfl, (show Hid _ from fun p _ => by rw [show m - (m - a) = a by omega, show m + (b - m) = b by omega])⟩
  case round =>
    obtain ⟨i, j, d', rfl, rfl, hi, hj, him, hjd, hg, HS, hsd, HD⟩ := hrel
    have ei : (m : Int) - (i : Int) = ((m - i : Nat) : Int) := by omega
    have wi : IntKind.i64.wrap ((m : Int) - (i : Int)) = (m : Int) - (i : Int) := by rw [IntKind.wrap_i64]; omega
    by_cases hij : i = j
    · subst hij
      have SC := HSW.out (m - i) m i (by omega) (by omega) d' wr hsd HS.out
      have SW := Lib.hid SC
      clear SC
      have hne : ¬ (i : Int) ≠ (i : Int) := fun h => h rfl
      go_wp2_with (go_at_fn 127; refine SW.out.mono ?_; rintro e w5 ⟨rfl, h5⟩; have H5 := Lib.hid h5; clear h5)
      go_end0
      exact ⟨rfl, H5.out.of (fun p hp => by rw [rot_same _ him]; exact HD.out p hp)⟩
    · have hne : (i : Int) ≠ (j : Int) := by omega
      by_cases hlt : j < i
      · have hgt : (j : Int) < (i : Int) := by omega
        have SC := HSW.out (m - i) m j (by omega) (by omega) d' wr hsd HS.out
        have SW := Lib.hid SC
        have wj : IntKind.i64.wrap ((i : Int) - (j : Int)) = (i : Int) - (j : Int) := by rw [IntKind.wrap_i64]; omega
        clear SC
        go_wp2_with (go_at_fn 127; refine SW.out.mono ?_; rintro e w5 ⟨rfl, h5⟩; have H5 := Lib.hid h5; clear h5)
        obtain ⟨d5, s5, z5, g5⟩ := H5.out
        go_roundg i
        case measure => omega
        case rel => exact ⟨i - j, j, d5, by go_num, rfl, by omega, hj, by omega, hjd, by omega, (show Hid _ from s5), z5, (show Hid _ from fun p hp => by
          rw [rot_congr (n := d.size) (fun q hq => g5 q hq) (by omega) (by omega) (by omega) hp, rot_left _ hj hlt him]
          exact HD.out p hp)⟩
      · have hgt : ¬ (j : Int) < (i : Int) := by omega
        have e2 : (m : Int) + (j : Int) - (i : Int) = ((m + j - i : Nat) : Int) := by omega
        have w3 : IntKind.i64.wrap ((m : Int) + (j : Int)) = (m : Int) + (j : Int) := by rw [IntKind.wrap_i64]; omega
        have w4 : IntKind.i64.wrap ((m : Int) + (j : Int) - (i : Int)) = (m : Int) + (j : Int) - (i : Int) := by rw [IntKind.wrap_i64]; omega
        have SC := HSW.out (m - i) (m + j - i) i (by omega) (by omega) d' wr hsd HS.out
        have SW := Lib.hid SC
        have wj : IntKind.i64.wrap ((j : Int) - (i : Int)) = (j : Int) - (i : Int) := by rw [IntKind.wrap_i64]; omega
        clear SC
        go_wp2_with (go_at_fn 127; refine SW.out.mono ?_; rintro e w5 ⟨rfl, h5⟩; have H5 := Lib.hid h5; clear h5)
        obtain ⟨d5, s5, z5, g5⟩ := H5.out
        go_roundg j
        case measure => omega
        case rel => exact ⟨i, j - i, d5, rfl, by go_num, hi, by omega, him, by omega, by omega, (show Hid _ from s5), z5, (show Hid _ from fun p hp => by
          rw [rot_congr (n := d.size) (fun q hq => g5 q hq) (by omega) (by omega) (by omega) hp, rot_right _ hi (by omega) him]
          exact HD.out p hp)⟩
end

end Go.Proofs.YtffifhbldcjelaaGreatDoor

/-! symMerge at structs of k cells, over any program that bears it. -/
namespace Go.Proofs.YtffifhbldcjelaaGreatDoor
set_option linter.unusedVariables false
set_option linter.unusedSimpArgs false
open Go.Shelf Go.RowKit Go.Lib Go.Sort

section
variable {P : Program} {k : Nat} {α : Type} [Inhabited α] {enc : α → List Value} {w0 W : World} {blk off : Nat} {d0 d : Array α}

/-- behind symMerge -/
def SymE (enc : α → List Value) (k : Nat) (w0 : World) (blk off : Nat) (cf : α → α → Int) (d : Array α) (a m b : Nat) (e : Ending) (w' : World) : Prop :=
  e = .returned (.tuple #[]) ∧ ∃ d' : Array α, SWK enc k w0 blk off d' w' ∧ d'.size = d.size ∧ Merged (ltOf cf) (fun p => d[p]!) (fun p => d'[p]!) a m b d.size

set_option maxHeartbeats 40000000 in
set_option maxRecDepth 1000000 in
theorem sym_left (L : PlL P k) (R : RowS enc k w0 blk off d0) (cf : α → α → Int) (hW : WkO (ltOf cf)) (g : Nat) (cb : Array Value) (eg : ∀ args w, (callFunc g args).run P w = .ok (.enter g args) w) (hC : CmpLays P g cb enc k cf blk off d0.size w0)
    (S : SWK enc k w0 blk off d W) (hs : d.size = d0.size) (a b cap : Nat) (hab : a + 1 < b) (hb : b ≤ d.size) (hsz : d.size < 2305843009213693952) (hsr : SortedB (ltOf cf) (seg (fun p => d[p]!) (a + 1) (b - (a + 1)))) :
    Calls P 112 #[.slice (some ⟨blk, off, none⟩) d.size cap, .int .i64 a, .int .i64 ((a : Int) + 1), .int .i64 b, .func (.func g) #[] cb] W (SymE enc k w0 blk off cf d a (a + 1) b) := by
  have mixed := L.mixed; have aE := L.aE; have zE := L.zE; have t0 := L.t0; have a0 := L.a0; have z0 := L.z0; have v0 := L.v0; have t3 := L.t3; have a3 := L.a3; have z3 := L.z3; have v3 := L.v3; have t4 := L.t4; have a4 := L.a4; have z4 := L.z4; have v4 := L.v4; have t96 := L.t96; have a96 := L.a96; have z96 := L.z96; have v96 := L.v96; have t120 := L.t120; have a120 := L.a120; have z120 := L.z120; have v120 := L.v120; have u96 := run_underlying L.t96
  have RR := Lib.hid R
  have SS := Lib.hid S
  have CC := Lib.hid hC
  have HWK := Lib.hid hW
  have HSR := Lib.hid (seg_sorted.1 hsr)
  have HSZ := Lib.hid hs
  have HN := Lib.hid hsz
  clear R S hC hW hsr hs
  have w1 : IntKind.i64.wrap ((a : Int) + 1 - (a : Int)) = 1 := by rw [IntKind.wrap_i64]; omega
  go_enter L.fsy, Tryz.ntmps112
  go_upto_region 3 with (fail)
  go_loopg [10, 11, 12] (b - a) (fun gh v10 v11 v12 wr => ∃ i j : Nat, v10 = .int .i64 i ∧ v11 = .int .i64 j ∧ a + 1 ≤ i ∧ i ≤ j ∧ j ≤ b ∧ j - i ≤ gh ∧ Hid (SWK enc k w0 blk off d wr) ∧ Hid (∀ p, a + 1 ≤ p → p < i → ltOf cf d[p]! d[a]! = true) ∧ Hid (∀ p, j ≤ p → p < b → ltOf cf d[p]! d[a]! = false))
  case atStart => exact ⟨a + 1, b, by go_num, rfl, by omega, by omega, by omega, by omega, (show Hid _ from SS.out), (show Hid _ from fun p q1 q2 => by omega), (show Hid _ from fun p q1 q2 => by omega)⟩
  case round =>
    obtain ⟨i, j, rfl, rfl, hai, hij, hjb, hgh, HS, HA, HB⟩ := hrel
    by_cases hlt : i < j
    · obtain ⟨h, hh⟩ : ∃ h, (i + j) / 2 = h := ⟨_, rfl⟩
      have hi1 : i ≤ h := by omega
      have hj1 : h < j := by omega
      have eh : ((i : Int) + (j : Int)) / 2 = (h : Int) := by omega
      have hltz : (i : Int) < (j : Int) := by omega
      have w2 : IntKind.i64.wrap ((i : Int) + (j : Int)) = (i : Int) + (j : Int) := by rw [IntKind.wrap_i64]; omega
      have w3 : IntKind.u64.wrap ((i : Int) + (j : Int)) = (i : Int) + (j : Int) := by
        have : ∀ n : Int, IntKind.u64.wrap n = n % 18446744073709551616 := fun n => by simp [IntKind.wrap, IntKind.bits, IntKind.signed]
        rw [this]; omega
      have w4 : IntKind.i64.wrap (h : Int) = (h : Int) := by rw [IntKind.wrap_i64]; omega
      have p1 : (0 : Int) ≤ (h : Int) := by omega
      have p2 : (h : Int) < (d.size : Int) := by omega
      have p3 : (0 : Int) ≤ (a : Int) := by omega
      have p4 : (a : Int) < (d.size : Int) := by omega
      have HH := Lib.hid hh
      clear hh
      have lx := fun n os => HS.out.ld RR.out HSZ.out P h (by omega) n os
      have la := fun n os => HS.out.ld RR.out HSZ.out P a (by omega) n os
      have hcg := fun n os => HS.out.cmp CC.out HSZ.out d[h]! d[a]! n os
      have GROW := Lib.hid (fun n os => HS.out.grown n os)
      have CAB := Lib.hid (show ltOf cf d[h]! d[a]! = decide (cf d[h]! d[a]! < 0) from rfl)
      obtain ⟨x, hx⟩ : ∃ x, d[h]! = x := ⟨_, rfl⟩
      obtain ⟨xa, hxa⟩ : ∃ x, d[a]! = x := ⟨_, rfl⟩
      rw [hx] at lx hcg CAB
      rw [hxa] at la hcg CAB
      have HXX := Lib.hid (And.intro hx hxa)
      clear hx hxa
      obtain ⟨c, hc⟩ : ∃ c, cf x xa = c := ⟨_, rfl⟩
      rw [hc] at hcg CAB
      clear hc
      by_cases hlv : c < 0
      · go_wp2_with fail
        go_quiet_grown (first | (go_at_fn g; refine Calls.grown_of (hcg _ _)))
        go_wp2_with fail
        go_roundg (j - (h + 1))
        case measure => omega
        case rel => exact ⟨h + 1, j, by go_num, rfl, by omega, by omega, hjb, by omega, (show Hid _ from GROW.out nq osq), (show Hid _ from fun p q1 q2 => by
          have hx := HXX.out
          have hl : ltOf cf d[h]! d[a]! = true := by rw [hx.1, hx.2, CAB.out]; exact decide_eq_true hlv
          rcases Nat.lt_or_ge p h with q | q
          · exact HWK.out.above (HSR.out p h q1 q (by omega)) hl
          · rw [show p = h by omega]; exact hl), HB⟩
      · go_wp2_with fail
        go_quiet_grown (first | (go_at_fn g; refine Calls.grown_of (hcg _ _)))
        go_wp2_with fail
        go_roundg (h - i)
        case measure => omega
        case rel => exact ⟨i, h, rfl, rfl, hai, by omega, by omega, by omega, (show Hid _ from GROW.out nq osq), HA, (show Hid _ from fun p q1 q2 => by
          have hx := HXX.out
          have hl : ltOf cf d[h]! d[a]! = false := by rw [hx.1, hx.2, CAB.out]; exact decide_eq_false (by omega)
          rcases Nat.lt_or_ge h p with q | q
          · exact HWK.out.ntr _ _ _ (HSR.out h p (by omega) q (by omega)) hl
          · rw [show p = h by omega]; exact hl)⟩
    · obtain rfl : i = j := by omega
      have hltz : ¬ (i : Int) < (i : Int) := by omega
      have w5 : IntKind.i64.wrap ((i : Int) - 1) = (i : Int) - 1 := by rw [IntKind.wrap_i64]; omega
      go_wp2_with fail
      go_loopg [13] i (fun gh v13 wr2 => ∃ (q : Nat) (d' : Array α), v13 = .int .i64 q ∧ a ≤ q ∧ q ≤ i - 1 ∧ i - 1 - q ≤ gh ∧ Hid (SWK enc k w0 blk off d' wr2) ∧ d'.size = d.size ∧ Hid (∀ p, p < d.size → d'[p]! = if a ≤ p ∧ p < q then d[p + 1]! else if p = q then d[a]! else d[p]!))
      case atStart => exact ⟨a, d, rfl, Nat.le_refl _, by omega, by omega, HS, rfl, (show Hid _ from fun p hp => by
        rw [if_neg (by omega)]
        by_cases e : p = a
        · rw [if_pos e, e]
        · rw [if_neg e])⟩
      case round =>
        obtain ⟨q, d', rfl, hq1, hq2, hgh2, HS2, hsd, HD⟩ := hrel
        by_cases hlt2 : q < i - 1
        · have hltz2 : (q : Int) < (i : Int) - 1 := by omega
          have v1 : IntKind.i64.wrap ((q : Int) + 1) = (q : Int) + 1 := by rw [IntKind.wrap_i64]; omega
          have p1 : (0 : Int) ≤ (q : Int) := by omega
          have p2 : (q : Int) < (d.size : Int) := by omega
          have p3 : (0 : Int) ≤ (q : Int) + 1 := by omega
          have p4 : (q : Int) + 1 < (d.size : Int) := by omega
          have e1 : ((q : Int) + 1).toNat = q + 1 := by omega
          obtain ⟨x, hx⟩ : ∃ x, d'[q]! = x := ⟨_, rfl⟩
          obtain ⟨y, hy⟩ : ∃ y, d'[q + 1]! = y := ⟨_, rfl⟩
          have hsd0 : d'.size = d0.size := hsd.trans HSZ.out
          have lx := HS2.out.ld1 RR.out hsd0 P q (by omega)
          have ly := HS2.out.ld1 RR.out hsd0 P (q + 1) (by omega)
          have s1 := HS2.out.st1 RR.out hsd0 P q (by omega) y
          have s2 := HS2.out.st2 RR.out hsd0 P q (q + 1) (by omega) (by omega) y x
          have SWP := Lib.hid (HS2.out.swapped RR.out q (q + 1) (by omega) (by omega))
          rw [hx] at lx SWP
          rw [hy] at ly SWP
          have hkx : (enc x).length = k := RR.out.hk _
          have hky : (enc y).length = k := RR.out.hk _
          obtain ⟨cx, hcx⟩ : ∃ c, c = enc x := ⟨_, rfl⟩
          obtain ⟨cy, hcy⟩ : ∃ c, c = enc y := ⟨_, rfl⟩
          rw [← hcx] at lx s2 SWP hkx
          rw [← hcy] at ly s1 s2 SWP hky
          clear hcx hcy hx hy hsd0
          go_wp2_with fail
          go_big_region_o
          all_goals go_wp2
          go_roundg (i - 1 - (q + 1))
          case measure => omega
          case rel =>
            refine ⟨q + 1, swp d' q (q + 1), by go_num, by omega, by omega, by omega, (show Hid _ from SWP.out), by rw [size_swp]; exact hsd, (show Hid _ from fun p hp => ?_)⟩
            have hD := HD.out
            rw [swp_get _ (by omega) (by omega)]
            by_cases g1 : p = q + 1
            · rw [if_pos g1, if_neg (by omega), if_pos g1, hD q (by omega), if_neg (by omega), if_pos rfl]
            · rw [if_neg g1]
              by_cases g2 : p = q
              · rw [if_pos g2, if_pos (by omega), hD (q + 1) (by omega), if_neg (by omega), if_neg (by omega), g2]
              · rw [if_neg g2, hD p hp]
                by_cases g3 : a ≤ p ∧ p < q
                · rw [if_pos g3, if_pos (by omega)]
                · rw [if_neg g3, if_neg g2, if_neg (by omega), if_neg g1]
        · have hltz2 : ¬ (q : Int) < (i : Int) - 1 := by omega
          obtain rfl : q = i - 1 := by omega
          go_wp2_with fail
          go_end0
          exact ⟨rfl, d', HS2.out, hsd, merged_left hai (by omega) HA.out HB.out (fun p hp => by
            rw [HD.out p hp]) hb⟩
end

end Go.Proofs.YtffifhbldcjelaaGreatDoor
