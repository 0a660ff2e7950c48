/-
  The walk of the law AmountCents: it returns true.
-/
import Derived.Test.YtbefbodihfijbaaIsRow
namespace Go.Proofs.Ytbefbodihfijbaa.amountCents
set_option linter.unusedVariables false
open Go.ChangeShapes Go.WideShapes Go.ChangeAt Go.RowKit Go.Proofs.Ytbefbodihfijbaa

theorem sum_split_yes {a b : List Int} (h : sumB (a ++ b) = true) : sumB a = true ∧ sumB b = true ∧ sumV a + sumV b = sumV (a ++ b) := by
  have h' : okS 4611686018427387903 (a ++ b) = true := h
  rw [okS_iff] at h'
  obtain ⟨h1, h2⟩ := h'
  rw [List.sum_append] at h2
  have ha : ∀ x ∈ a, 0 ≤ x := fun x hx => h1 x (List.mem_append_left _ hx)
  have hb : ∀ x ∈ b, 0 ≤ x := fun x hx => h1 x (List.mem_append_right _ hx)
  have sa := sum_nonneg a ha
  have sb := sum_nonneg b hb
  have ea : okS 4611686018427387903 a = true := okS_iff.2 ⟨ha, by omega⟩
  have eb : okS 4611686018427387903 b = true := okS_iff.2 ⟨hb, by omega⟩
  refine ⟨ea, eb, ?_⟩
  rw [(sum_yes ea).2, (sum_yes eb).2, (sum_yes h).2, List.sum_append]

theorem sum_split_no {a b : List Int} (h : sumB (a ++ b) = false) (ha : sumB a = true) (hb : sumB b = true) : 4611686018427387903 - sumV b < sumV a := by
  have h' : ¬ okS 4611686018427387903 (a ++ b) = true := by rw [show okS 4611686018427387903 (a ++ b) = false from h]; simp
  rw [okS_iff, List.sum_append] at h'
  rw [(sum_yes ha).2, (sum_yes hb).2]
  have ha' := okS_iff.1 ha
  have hb' := okS_iff.1 hb
  have : ∀ x ∈ a ++ b, 0 ≤ x := fun x hx => by
    rcases List.mem_append.1 hx with hx | hx
    · exact ha'.1 x hx
    · exact hb'.1 x hx
  have h3 : ¬ a.sum + b.sum ≤ 4611686018427387903 := fun h => h' ⟨this, h⟩
  omega

theorem sumV_bd (l : List Int) : 0 ≤ sumV l ∧ sumV l ≤ 4611686018427387903 := by
  unfold sumV
  by_cases h : sumB l = true
  · rw [if_pos h]; have := okS_iff.1 h; exact ⟨sum_nonneg l this.1, this.2⟩
  · rw [if_neg h]; omega

theorem _root_.Go.Proofs.Ytbefbodihfijbaa.Row.drop {w : World} {ad : Addr} {l : List Int} (h : Row w (some ad) l) (k : Nat) : Row w (some (ad.add k)) (l.drop k) := by
  intro i hi
  rw [List.length_drop] at hi
  obtain ⟨b, off, e, h1, hc⟩ := h (k + i) (by omega)
  simp only [Option.some.injEq] at e
  subst e
  refine ⟨b, off + k, ?_, h1, ?_⟩
  · congr 1; unfold Addr.add; split <;> simp_all
  · rw [Nat.add_assoc, hc]; simp

theorem i64s_take {l : List Int} (h : I64s l) (k : Nat) : I64s (l.take k) := i64s_of fun x hx => by
  obtain ⟨i, hi, rfl⟩ := List.mem_iff_getElem.1 hx
  have := h i
  rw [List.length_take] at hi
  simpa [show i < l.length by omega] using this
theorem i64s_drop {l : List Int} (h : I64s l) (k : Nat) : I64s (l.drop k) := i64s_of fun x hx => by
  obtain ⟨i, hi, rfl⟩ := List.mem_iff_getElem.1 hx
  have := h (k + i)
  rw [List.length_drop] at hi
  simpa [show k + i < l.length by omega] using this

set_option maxHeartbeats 1000000 in
set_option maxRecDepth 100000 in
theorem walk (a0 : Int) (a1 : Option Addr) (len1 cap1 : Nat) (z1 : List Int) (a2 : Int) (w : World) (w0 : (Lit.int .i64 a0).wf = true) (w1 : IsRow .i64 w a1 len1 cap1 z1) (w2 : (Lit.int .i64 a2).wf = true) :
    Calls Try.prog 11 #[.int .i64 a0, .slice a1 len1 cap1, .int .i64 a2] w fun e w' => e = .returned (.bool true) ∧ Below w.heap.size w w' := by
  have b0 := wfb w0
  have b2 := wfb w2
  obtain ⟨l, hl, hcap, hn, hnil, hr, h64⟩ := w1.row
  clear w0 w2 w1
  have HCUT := Lib.hid (fun W (h : Row W a1 l) => cut_any a1 cap1 len1 l W hn hl hcap hnil h)
  have H64 : I64s (l.take 40) := i64s_of fun x hx => by
    obtain ⟨i, hi, rfl⟩ := List.mem_iff_getElem.1 hx
    have := h64 i
    rw [List.length_take] at hi
    simpa [show i < l.length by omega] using this
  have hlen40 : (l.take 40).length ≤ 40 := by rw [List.length_take]; omega
  have HR := Lib.hid hr
  clear hl hr hnil h64
  generalize l.take 40 = m at *
  obtain ⟨n, hmn⟩ : ∃ n, m.length = n := ⟨_, rfl⟩
  rw [hmn] at hlen40
  have HMN := Lib.hid hmn
  have H64' := Lib.hid H64
  clear hmn H64
  have P0 := Lib.hid (fun w => pick_any a2 ((n : Int) + 1) w b2.1 b2.2 (by omega) (by omega))
  have l0 := pickZ_lo a2 ((n : Int) + 1) (by omega)
  have m0 := pickZ_hi a2 ((n : Int) + 1) (by omega)
  obtain ⟨k, hk⟩ := Int.eq_ofNat_of_zero_le l0
  rw [hk] at m0 P0
  clear hk l0
  have hkn : k ≤ n := by omega
  by_cases hneg : a0 < 0
  · go_enter Try.func11, Try.ntmps11
    go_wp2_with fail
    refine (sane_any _).mono ?_
    rintro e w1 ⟨rfl, hb1⟩
    go_wp2_with fail
    refine (cents_neg a0 _ hneg b0.1).mono ?_
    rintro e w2 ⟨rfl, rfl⟩
    go_wp2_with fail
    refine (HCUT.out _ (HR.out.later hb1)).mono ?_
    rintro e w2 ⟨ao, cap, rfl, ⟨hnil2, hcap2⟩, hr2, hb2⟩
    rw [HMN.out] at hcap2
    rw [HMN.out]
    have HR2 := Lib.hid hr2
    clear hr2
    go_wp2_with fail
    refine (P0.out _).mono ?_
    rintro e w3 ⟨rfl, rfl⟩
    have S1 := fun W (h : Row W ao m) => sum_any ao cap m W (by rw [HMN.out]; omega) h H64'.out
    rw [HMN.out] at S1
    have HS1 := Lib.hid S1
    clear S1
    go_wp2_with fail
    refine (HS1.out _ HR2.out).mono ?_
    rintro e w3 ⟨rfl, rfl⟩
    rcases ao with _ | ad
    · have hc0 := hnil2 rfl
      subst hc0
      obtain rfl : n = 0 := by omega
      obtain rfl : k = 0 := by omega
      have hmm : m = [] := List.eq_nil_of_length_eq_zero HMN.out
      have S2 := fun W => sum_any none 0 [] W (by simp) (Row.nil _ _) (i64s_of (by simp))
      rw [show sumV [] = 0 from rfl, show sumB [] = true from rfl] at S2
      have HS2 := Lib.hid S2
      have HE := Lib.hid (show sumV m = 0 ∧ sumB m = true by rw [hmm]; exact ⟨rfl, rfl⟩)
      have HBB := Lib.hid (bch hb1 hb2 hb1.size)
      clear S2 hnil2 hmm hb1 hb2
      rw [HE.out.1, HE.out.2]
      go_wp2_with fail
      refine (HS2.out _).mono ?_
      rintro e w3 ⟨rfl, rfl⟩
      go_wp2_with fail
      refine (HS2.out _).mono ?_
      rintro e w3 ⟨rfl, rfl⟩
      go_wp2_with fail
      go_ret
      exact ⟨rfl, HBB.out⟩
    · have S2 := fun W (h : Row W (some ad) (m.take k)) => sum_any (some ad) cap (m.take k) W (by rw [List.length_take, HMN.out]; omega) h (i64s_take H64'.out k)
      rw [List.length_take, HMN.out, Nat.min_eq_left hkn] at S2
      have HS2 := Lib.hid S2
      clear S2 hnil2
      go_wp2_with fail
      refine (HS2.out _ (HR2.out.take k)).mono ?_
      rintro e w3 ⟨rfl, rfl⟩
      by_cases hkc : k = cap
      · subst hkc
        obtain rfl : n = k := by omega
        have S3 := fun W => sum_any (some ad) 0 (m.drop n) W (by rw [List.length_drop, HMN.out]; omega) (fun i hi => by rw [List.length_drop, HMN.out] at hi; omega) (i64s_drop H64'.out n)
        rw [List.length_drop, HMN.out, Nat.sub_self] at S3
        have HS3 := Lib.hid S3
        clear S3
        go_wp2_with fail
        refine (HS3.out _).mono ?_
        rintro e w3 ⟨rfl, rfl⟩
        have hY := fun h => sum_split_yes (a := m.take n) (b := m.drop n) (by rw [List.take_append_drop]; exact h)
        have hN := fun h => sum_split_no (a := m.take n) (b := m.drop n) (by rw [List.take_append_drop]; exact h)
        rw [List.take_append_drop] at hY
        have hZ : sumB m = false → sumV m = 0 := fun h => (sum_no h).2
        have q1 := sumV_bd (m.take n)
        have q2 := sumV_bd (m.drop n)
        clear HS1 HS2 HS3 HR2
        generalize sumV m = all at *
        generalize sumV (m.take n) = one at *
        generalize sumV (m.drop n) = two at *
        generalize sumB m = ok at *
        generalize sumB (m.take n) = is at *
        generalize sumB (m.drop n) = has at *
        have hBB := bch hb1 hb2 hb1.size
        have HBB := Lib.hid hBB
        clear hBB hb1 hb2
        rcases ok with _ | _
        · have e0 : (all == 0) = true := beq_iff_eq.2 (hZ rfl)
          have HN := Lib.hid (hN rfl)
          clear hY hN hZ
          rcases is with _ | _
          · go_wp2_with fail
            go_ret
            exact ⟨rfl, HBB.out⟩
          · rcases has with _ | _
            · go_wp2_with fail
              go_ret
              exact ⟨rfl, HBB.out⟩
            · have hg := HN.out rfl rfl
              go_wp2_with fail
              go_ret
              exact ⟨rfl, HBB.out⟩
        · obtain ⟨rfl, rfl, e1⟩ := hY rfl
          have e2 : (one + two == all) = true := beq_iff_eq.2 e1
          clear hY hN hZ e1
          go_wp2_with fail
          go_ret
          exact ⟨rfl, HBB.out⟩
      · have S3 := fun W (h : Row W (some (ad.add k)) (m.drop k)) => sum_any (some (ad.add k)) (cap - k) (m.drop k) W (by rw [List.length_drop, HMN.out]; omega) h (i64s_drop H64'.out k)
        rw [List.length_drop, HMN.out] at S3
        have HS3 := Lib.hid S3
        clear S3
        go_wp2_with fail
        refine (HS3.out _ (HR2.out.drop k)).mono ?_
        rintro e w3 ⟨rfl, rfl⟩
        have hY := fun h => sum_split_yes (a := m.take k) (b := m.drop k) (by rw [List.take_append_drop]; exact h)
        have hN := fun h => sum_split_no (a := m.take k) (b := m.drop k) (by rw [List.take_append_drop]; exact h)
        rw [List.take_append_drop] at hY
        have hZ : sumB m = false → sumV m = 0 := fun h => (sum_no h).2
        have q1 := sumV_bd (m.take k)
        have q2 := sumV_bd (m.drop k)
        clear HS1 HS2 HS3 HR2
        generalize sumV m = all at *
        generalize sumV (m.take k) = one at *
        generalize sumV (m.drop k) = two at *
        generalize sumB m = ok at *
        generalize sumB (m.take k) = is at *
        generalize sumB (m.drop k) = has at *
        have hBB := bch hb1 hb2 hb1.size
        have HBB := Lib.hid hBB
        clear hBB hb1 hb2
        rcases ok with _ | _
        · have e0 : (all == 0) = true := beq_iff_eq.2 (hZ rfl)
          have HN := Lib.hid (hN rfl)
          clear hY hN hZ
          rcases is with _ | _
          · go_wp2_with fail
            go_ret
            exact ⟨rfl, HBB.out⟩
          · rcases has with _ | _
            · go_wp2_with fail
              go_ret
              exact ⟨rfl, HBB.out⟩
            · have hg := HN.out rfl rfl
              go_wp2_with fail
              go_ret
              exact ⟨rfl, HBB.out⟩
        · obtain ⟨rfl, rfl, e1⟩ := hY rfl
          have e2 : (one + two == all) = true := beq_iff_eq.2 e1
          clear hY hN hZ e1
          go_wp2_with fail
          go_ret
          exact ⟨rfl, HBB.out⟩
  · obtain ⟨ca, cb, hca, hcb, z1, z2, z3, z4, z5⟩ : ∃ ca cb : Int, a0 - a0 % 10000 = ca ∧ a0 % 10000 = cb ∧ ca + cb = a0 ∧ 0 ≤ ca ∧ ca % 10000 = 0 ∧ 0 ≤ cb ∧ cb < 10000 := ⟨_, _, rfl, rfl, by omega, by omega, by omega, by omega, by omega⟩
    have CC := fun w => cents_pos a0 w (by omega) b0.2
    rw [hca, hcb] at CC
    have HCC := Lib.hid CC
    have t1 : (ca + cb != a0) = false := by simp [z1]
    have t2 : (ca % 10000 != 0) = false := by simp [z3]
    have t3 : decide (a0 < 0) = false := decide_eq_false hneg
    have t4 : decide (ca < 0) = false := decide_eq_false (by omega)
    have t5 : decide (cb < 0) = false := decide_eq_false (by omega)
    have t6 : decide (10000 ≤ cb) = false := decide_eq_false (by omega)
    have t7 : ca + cb ≤ 9223372036854775807 := by omega
    clear hca hcb CC z1 z3
    go_enter Try.func11, Try.ntmps11
    go_wp2_with fail
    refine (sane_any _).mono ?_
    rintro e w1 ⟨rfl, hb1⟩
    go_wp2_with fail
    refine (HCC.out _).mono ?_
    rintro e w2 ⟨rfl, rfl⟩
    go_wp2_with fail
    refine (HCUT.out _ (HR.out.later hb1)).mono ?_
    rintro e w2 ⟨ao, cap, rfl, ⟨hnil2, hcap2⟩, hr2, hb2⟩
    rw [HMN.out] at hcap2
    rw [HMN.out]
    have HR2 := Lib.hid hr2
    clear hr2
    go_wp2_with fail
    refine (P0.out _).mono ?_
    rintro e w3 ⟨rfl, rfl⟩
    have S1 := fun W (h : Row W ao m) => sum_any ao cap m W (by rw [HMN.out]; omega) h H64'.out
    rw [HMN.out] at S1
    have HS1 := Lib.hid S1
    clear S1
    go_wp2_with fail
    refine (HS1.out _ HR2.out).mono ?_
    rintro e w3 ⟨rfl, rfl⟩
    rcases ao with _ | ad
    · have hc0 := hnil2 rfl
      subst hc0
      obtain rfl : n = 0 := by omega
      obtain rfl : k = 0 := by omega
      have hmm : m = [] := List.eq_nil_of_length_eq_zero HMN.out
      have S2 := fun W => sum_any none 0 [] W (by simp) (Row.nil _ _) (i64s_of (by simp))
      rw [show sumV [] = 0 from rfl, show sumB [] = true from rfl] at S2
      have HS2 := Lib.hid S2
      have HE := Lib.hid (show sumV m = 0 ∧ sumB m = true by rw [hmm]; exact ⟨rfl, rfl⟩)
      have HBB := Lib.hid (bch hb1 hb2 hb1.size)
      clear S2 hnil2 hmm hb1 hb2
      rw [HE.out.1, HE.out.2]
      go_wp2_with fail
      refine (HS2.out _).mono ?_
      rintro e w3 ⟨rfl, rfl⟩
      go_wp2_with fail
      refine (HS2.out _).mono ?_
      rintro e w3 ⟨rfl, rfl⟩
      go_wp2_with fail
      go_ret
      exact ⟨rfl, HBB.out⟩
    · have S2 := fun W (h : Row W (some ad) (m.take k)) => sum_any (some ad) cap (m.take k) W (by rw [List.length_take, HMN.out]; omega) h (i64s_take H64'.out k)
      rw [List.length_take, HMN.out, Nat.min_eq_left hkn] at S2
      have HS2 := Lib.hid S2
      clear S2 hnil2
      go_wp2_with fail
      refine (HS2.out _ (HR2.out.take k)).mono ?_
      rintro e w3 ⟨rfl, rfl⟩
      by_cases hkc : k = cap
      · subst hkc
        obtain rfl : n = k := by omega
        have S3 := fun W => sum_any (some ad) 0 (m.drop n) W (by rw [List.length_drop, HMN.out]; omega) (fun i hi => by rw [List.length_drop, HMN.out] at hi; omega) (i64s_drop H64'.out n)
        rw [List.length_drop, HMN.out, Nat.sub_self] at S3
        have HS3 := Lib.hid S3
        clear S3
        go_wp2_with fail
        refine (HS3.out _).mono ?_
        rintro e w3 ⟨rfl, rfl⟩
        have hY := fun h => sum_split_yes (a := m.take n) (b := m.drop n) (by rw [List.take_append_drop]; exact h)
        have hN := fun h => sum_split_no (a := m.take n) (b := m.drop n) (by rw [List.take_append_drop]; exact h)
        rw [List.take_append_drop] at hY
        have hZ : sumB m = false → sumV m = 0 := fun h => (sum_no h).2
        have q1 := sumV_bd (m.take n)
        have q2 := sumV_bd (m.drop n)
        clear HS1 HS2 HS3 HR2
        generalize sumV m = all at *
        generalize sumV (m.take n) = one at *
        generalize sumV (m.drop n) = two at *
        generalize sumB m = ok at *
        generalize sumB (m.take n) = is at *
        generalize sumB (m.drop n) = has at *
        have hBB := bch hb1 hb2 hb1.size
        have HBB := Lib.hid hBB
        clear hBB hb1 hb2
        rcases ok with _ | _
        · have e0 : (all == 0) = true := beq_iff_eq.2 (hZ rfl)
          have HN := Lib.hid (hN rfl)
          clear hY hN hZ
          rcases is with _ | _
          · go_wp2_with fail
            go_ret
            exact ⟨rfl, HBB.out⟩
          · rcases has with _ | _
            · go_wp2_with fail
              go_ret
              exact ⟨rfl, HBB.out⟩
            · have hg := HN.out rfl rfl
              go_wp2_with fail
              go_ret
              exact ⟨rfl, HBB.out⟩
        · obtain ⟨rfl, rfl, e1⟩ := hY rfl
          have e2 : (one + two == all) = true := beq_iff_eq.2 e1
          clear hY hN hZ e1
          go_wp2_with fail
          go_ret
          exact ⟨rfl, HBB.out⟩
      · have S3 := fun W (h : Row W (some (ad.add k)) (m.drop k)) => sum_any (some (ad.add k)) (cap - k) (m.drop k) W (by rw [List.length_drop, HMN.out]; omega) h (i64s_drop H64'.out k)
        rw [List.length_drop, HMN.out] at S3
        have HS3 := Lib.hid S3
        clear S3
        go_wp2_with fail
        refine (HS3.out _ (HR2.out.drop k)).mono ?_
        rintro e w3 ⟨rfl, rfl⟩
        have hY := fun h => sum_split_yes (a := m.take k) (b := m.drop k) (by rw [List.take_append_drop]; exact h)
        have hN := fun h => sum_split_no (a := m.take k) (b := m.drop k) (by rw [List.take_append_drop]; exact h)
        rw [List.take_append_drop] at hY
        have hZ : sumB m = false → sumV m = 0 := fun h => (sum_no h).2
        have q1 := sumV_bd (m.take k)
        have q2 := sumV_bd (m.drop k)
        clear HS1 HS2 HS3 HR2
        generalize sumV m = all at *
        generalize sumV (m.take k) = one at *
        generalize sumV (m.drop k) = two at *
        generalize sumB m = ok at *
        generalize sumB (m.take k) = is at *
        generalize sumB (m.drop k) = has at *
        have hBB := bch hb1 hb2 hb1.size
        have HBB := Lib.hid hBB
        clear hBB hb1 hb2
        rcases ok with _ | _
        · have e0 : (all == 0) = true := beq_iff_eq.2 (hZ rfl)
          have HN := Lib.hid (hN rfl)
          clear hY hN hZ
          rcases is with _ | _
          · go_wp2_with fail
            go_ret
            exact ⟨rfl, HBB.out⟩
          · rcases has with _ | _
            · go_wp2_with fail
              go_ret
              exact ⟨rfl, HBB.out⟩
            · have hg := HN.out rfl rfl
              go_wp2_with fail
              go_ret
              exact ⟨rfl, HBB.out⟩
        · obtain ⟨rfl, rfl, e1⟩ := hY rfl
          have e2 : (one + two == all) = true := beq_iff_eq.2 e1
          clear hY hN hZ e1
          go_wp2_with fail
          go_ret
          exact ⟨rfl, HBB.out⟩

end Go.Proofs.Ytbefbodihfijbaa.amountCents
