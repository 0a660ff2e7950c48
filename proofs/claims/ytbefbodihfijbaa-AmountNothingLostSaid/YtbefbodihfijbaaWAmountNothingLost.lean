/-
  The walk of the law AmountNothingLost: it returns true.
-/
import Derived.Test.YtbefbodihfijbaaIsRow
namespace Go.Proofs.Ytbefbodihfijbaa.amountNothingLost
set_option linter.unusedVariables false
open Go.ChangeShapes Go.WideShapes Go.ChangeAt Go.RowKit Go.Proofs.Ytbefbodihfijbaa

theorem sum_small : ∀ (m : List Int), (∀ x ∈ m, 0 ≤ x ∧ x ≤ 10000000000000) → 0 ≤ m.sum ∧ m.sum ≤ 10000000000000 * m.length
  | [], _ => by simp
  | a :: m, h => by
    have h1 := sum_small m fun x hx => h x (List.mem_cons_of_mem _ hx)
    have h2 := h a (List.mem_cons_self ..)
    rw [List.sum_cons, List.length_cons]
    omega

theorem i64_small {m : List Int} (h : ∀ x ∈ m, 0 ≤ x ∧ x ≤ 10000000000000) : I64s m := i64s_of fun x hx => by have := h x hx; omega

theorem getD_small {m : List Int} (h : ∀ x ∈ m, 0 ≤ x ∧ x ≤ 10000000000000) (k : Nat) : 0 ≤ m.getD k 0 ∧ m.getD k 0 ≤ 10000000000000 := by
  by_cases hk : k < m.length
  · exact h _ (getD_mem hk)
  · have : m.getD k 0 = 0 := by simp [List.getElem?_eq_none (Nat.le_of_not_lt hk)]
    omega

/-- the sum of the first k -/
def SumTo (m : List Int) (k : Nat) (z : Int) : Prop := z = (m.take k).sum
theorem SumTo.start (m : List Int) : SumTo m 0 0 := by unfold SumTo; simp
theorem SumTo.next {m : List Int} {k : Nat} {z : Int} (h : SumTo m k z) (hk : k < m.length) : SumTo m (k + 1) (z + m.getD k 0) := by
  unfold SumTo at *; rw [take_sum_succ m k hk, h]
theorem SumTo.last {m : List Int} {k : Nat} {z : Int} (h : SumTo m k z) (hk : m.length ≤ k) : m.sum = z := by
  unfold SumTo at h; rw [List.take_of_length_le hk] at h; exact h.symm
theorem SumTo.bd {m : List Int} {k : Nat} {z : Int} (h : SumTo m k z) (hp : ∀ x ∈ m, 0 ≤ x) : 0 ≤ z ∧ z ≤ m.sum := by
  unfold SumTo at h
  have h1 := take_sum_le m k hp
  have h2 := sum_nonneg (m.take k) fun x hx => hp x (List.mem_of_mem_take hx)
  omega

theorem app_nonneg {t : Int} {l : List Int} (ok : App.Ok t l) : ∀ x ∈ App.app t l, 0 ≤ x := by
  intro x hx
  obtain ⟨i, hi, rfl⟩ := List.mem_iff_getElem.1 hx
  have h : 0 ≤ (App.app t l).getD i 0 := (fB_bd ok (App.left t l) i).1
  simpa [hi] using h

set_option maxHeartbeats 2000000 in
set_option maxRecDepth 100000 in
theorem core (a0 : Int) (a1 : Option Addr) (len1 cap1 : Nat) (T : Nat) (m : List Int) (w : World) (hT : T ≤ 1000000000000000)
    (P0 : Hid (∀ w, Calls Try.prog 13 #[.int .i64 a0, .int .i64 1000000000000001] w fun e w' => e = .returned (.int .i64 T) ∧ w = w'))
    (hm : ∀ x ∈ m, 0 ≤ x ∧ x ≤ 10000000000000) (n : Nat) (hn : m.length = n) (hn40 : n ≤ 40)
    (hW : ∀ W, Below w.heap.size w W → Calls Try.prog 19 #[.slice a1 len1 cap1] W (Slc W m)) :
    Calls Try.prog 7 #[.int .i64 a0, .slice a1 len1 cap1] w fun e w' => e = .returned (.bool true) ∧ Below w.heap.size w w' := by
  have hsm := sum_small m hm
  rw [hn] at hsm
  have HM := Lib.hid hm
  have HN := Lib.hid hn
  have HW := Lib.hid hW
  have H64 := Lib.hid (i64_small hm)
  have HAP := Lib.hid (fun ao cap W (h : Row W ao m) => apportion_any T ao cap n m W (by omega) hn h (i64_small hm))
  clear hm hn hW
  obtain ⟨S, hS⟩ : ∃ S, m.sum = S := ⟨_, rfl⟩
  rw [hS] at hsm
  have HS := Lib.hid hS
  clear hS
  go_enter Try.func7, Try.ntmps7
  go_wp2_with fail
  refine (sane_any _).mono ?_
  rintro e w1 ⟨rfl, hb1⟩
  go_wp2_with fail
  refine (P0.out _).mono ?_
  rintro e w2 ⟨rfl, rfl⟩
  go_wp2_with fail
  refine (HW.out _ hb1).mono ?_
  rintro e w2 ⟨ao, cap, rfl, ⟨hnil2, hcap2⟩, hr2, hb2⟩
  rw [HN.out]
  have HR2 := Lib.hid hr2
  have HB2 := Lib.hid (bch hb1 hb2 hb1.size)
  clear hr2 hnil2 hcap2 hb1 hb2
  go_wp2_with fail
  go_loop [7, 8] (fun s i => ∃ (k : Nat) (z : Int), k ≤ n ∧ SumTo m k z ∧ 0 ≤ z ∧ z ≤ S ∧ i = .int .i64 k ∧ s = .int .i64 z) (fun _ i => n - (intOf i).toNat)
  case atStart => exact ⟨0, 0, Nat.zero_le _, SumTo.start m, by omega, hsm.1, rfl, rfl⟩
  case round =>
    obtain ⟨k, z, hk, hz, z0, z1, rfl, rfl⟩ := hrel
    by_cases hlt : k < n
    · obtain ⟨b, off, rfl, hb, hc⟩ := HR2.out k (by rw [HN.out]; exact hlt)
      have hg := getD_small HM.out k
      have hz' := hz.next (by rw [HN.out]; exact hlt)
      have hzb := hz'.bd (fun x hx => (HM.out x hx).1)
      rw [HS.out] at hzb
      obtain ⟨x, hx⟩ : ∃ x, m.getD k 0 = x := ⟨_, rfl⟩
      rw [hx] at hc hg hz' hzb
      clear hx hz
      go_wp2_with fail
      go_round
      case rel => exact ⟨k + 1, _, by omega, hz', by omega, by omega, by go_num, rfl⟩
      case measure => simp [intOf]; omega
    · have ez : S = z := by rw [← HS.out]; exact hz.last (by rw [HN.out]; omega)
      subst ez
      clear hz z1
      go_wp2_with fail
      refine (HAP.out ao cap _ HR2.out).mono ?_
      rintro e w3 ⟨ao3, cap3, rfl, _, hr3, hb3⟩
      have HB3 := Lib.hid (bch HB2.out hb3 HB2.out.size)
      have HR2' := Lib.hid (HR2.out.later hb3)
      clear hb3 HR2 HB2 HAP
      by_cases hS0 : S = 0
      · have hap : apB T m = false := by
          rw [Bool.eq_false_iff]; intro h; have := (apB_iff.1 h).1.sum1; rw [HS.out] at this; omega
        have hav : apV T m = [] := by unfold apV; rw [hap]; rfl
        rw [hap, hav]
        have q1 : (S == 0) = true := beq_iff_eq.2 hS0
        have HS0 := Lib.hid hS0
        clear hap hav hS0 hr3
        go_wp2_with fail
        go_ret
        exact ⟨rfl, HB3.out⟩
      · have ok : App.Ok T m := ⟨by omega, fun x hx => (HM.out x hx).1, by rw [HS.out]; omega⟩
        have hap : apB T m = true := apB_iff.2 ⟨ok, by rw [HS.out]; omega, by omega⟩
        have hav : apV T m = App.app T m := by unfold apV; rw [hap]; rfl
        rw [hav] at hr3
        rw [hap, hav, App.app_length, HN.out]
        have q1 : (S == 0) = false := beq_eq_false_iff_ne.2 hS0
        have q2 : ((n : Int) != (n : Int)) = false := by simp
        have q3 : (n != n) = false := by simp
        have OK := Lib.hid ok
        have HR3 := Lib.hid hr3
        have HSUM := Lib.hid (App.app_sum ok)
        have HPOS := Lib.hid (app_nonneg ok)
        have HAL := Lib.hid (show (App.app T m).length = n by rw [App.app_length, HN.out])
        obtain ⟨U, hU⟩ := Int.eq_ofNat_of_zero_le hsm.1
        subst hU
        clear hap hav ok hr3 hS0
        go_wp2_with fail
        go_loop [11, 12] (fun s i => ∃ (k : Nat) (z : Int), k ≤ n ∧ SumTo (App.app T m) k z ∧ 0 ≤ z ∧ z ≤ T ∧ i = .int .i64 k ∧ s = .int .i64 z) (fun _ i => n - (intOf i).toNat)
        case atStart => exact ⟨0, 0, Nat.zero_le _, SumTo.start _, by omega, by omega, rfl, rfl⟩
        case round =>
          obtain ⟨j, z, hj, hz, z0, z1, rfl, rfl⟩ := hrel
          by_cases hlt2 : j < n
          · obtain ⟨b, off, rfl, hb, hc⟩ := HR2'.out j (by rw [HN.out]; exact hlt2)
            obtain ⟨b3, off3, rfl, hb3, hc3⟩ := HR3.out j (by rw [HAL.out]; exact hlt2)
            have hx := getD_le_sum OK.out.pos j
            rw [HS.out] at hx
            obtain ⟨y, hy⟩ := Int.eq_ofNat_of_zero_le hx.1
            have hy1 : y ≤ U := by omega
            have hU1 : 1 ≤ U := by have := OK.out.sum1; rw [HS.out] at this; omega
            obtain ⟨e1, e2⟩ := ov_quo T y U hy1 hU1 hT
            have eq1 : (T : Int) * m.getD j 0 / m.sum = ((ovQ (T * y) U : Nat) : Int) := by rw [hy, HS.out, e1, Int.natCast_ediv, Int.natCast_mul]
            have eq2 : (T : Int) * m.getD j 0 % m.sum = ((ovR (T * y) U : Nat) : Int) := by rw [hy, HS.out, e2, Int.natCast_emod, Int.natCast_mul]
            have hqu := App.app_quota OK.out (i := j) (by rw [HN.out]; exact hlt2)
            have hze := App.app_zero OK.out (i := j) (by rw [HN.out]; exact hlt2)
            rw [eq1, eq2] at hqu
            rw [hy] at hc hze
            have hz' := hz.next (by rw [HAL.out]; exact hlt2)
            have hzb := hz'.bd HPOS.out
            rw [HSUM.out] at hzb
            have hpp := (fB_bd OK.out (App.left T m) j).1
            change 0 ≤ (App.app T m).getD j 0 at hpp
            obtain ⟨p, hp⟩ : ∃ p, (App.app T m).getD j 0 = p := ⟨_, rfl⟩
            rw [hp] at hc3 hqu hze hz' hzb hpp
            have HD := Lib.hid (fun w => divide_any T y U w (by omega) (by omega) hU1 (by omega))
            clear hp eq1 eq2 e1 e2 hy hx hz
            generalize ovQ (T * y) U = qz at *
            generalize ovR (T * y) U = rz at *
            generalize ovB (T * y) U = oz at *
            by_cases hy0 : y = 0
            · subst hy0
              have hp0 := hze (by rfl)
              subst hp0
              have hq0 : qz = 0 := by
                rcases hqu with h | ⟨h, _⟩
                · omega
                · omega
              subst hq0
              clear hqu hze
              go_wp2_with fail
              refine (HD.out _).mono ?_
              rintro e w4 ⟨rfl, rfl⟩
              go_wp2_with fail
              go_round
              case rel => exact ⟨j + 1, _, by omega, hz', by omega, by omega, by go_num, by go_num⟩
              case measure => simp [intOf]; omega
            · have ty : ((y : Int) == 0) = false := beq_eq_false_iff_ne.2 (by omega)
              clear hze
              rcases hqu with h | ⟨h, hr0⟩
              · subst h
                go_wp2_with fail
                refine (HD.out _).mono ?_
                rintro e w4 ⟨rfl, rfl⟩
                go_wp2_with fail
                go_round
                case rel => exact ⟨j + 1, _, by omega, hz', by omega, by omega, by go_num, by go_num⟩
                case measure => simp [intOf]; omega
              · subst h
                have t1 : ((qz : Int) + 1 != (qz : Int)) = true := by rw [bne_iff_ne]; omega
                have t2 : ((rz : Int) == 0) = false := beq_eq_false_iff_ne.2 hr0
                clear hr0
                go_wp2_with fail
                refine (HD.out _).mono ?_
                rintro e w4 ⟨rfl, rfl⟩
                go_wp2_with fail
                go_round
                case rel => exact ⟨j + 1, _, by omega, hz', by omega, by omega, by go_num, by go_num⟩
                case measure => simp [intOf]; omega
          · have ez : (T : Int) = z := by rw [← HSUM.out]; exact hz.last (by rw [HAL.out]; omega)
            have tz : (z == (T : Int)) = true := beq_iff_eq.2 ez.symm
            clear hz ez
            go_wp2_with fail
            go_ret
            exact ⟨rfl, HB3.out⟩

theorem walk (a0 : Int) (a1 : Option Addr) (len1 cap1 : Nat) (z1 : List Int) (w : World) (w0 : (Lit.int .i64 a0).wf = true) (w1 : IsRow .i64 w a1 len1 cap1 z1) :
    Calls Try.prog 7 #[.int .i64 a0, .slice a1 len1 cap1] w fun e w' => e = .returned (.bool true) ∧ Below w.heap.size w w' := by
  have b0 := wfb w0
  obtain ⟨l, hl, hcap, hn, hnil, hr, h64⟩ := w1.row
  have l0 := pickZ_lo a0 1000000000000001 (by omega)
  have m0 := pickZ_hi a0 1000000000000001 (by omega)
  have P0 := fun w => pick_any a0 1000000000000001 w b0.1 b0.2 (by omega) (by omega)
  obtain ⟨T, hT⟩ := Int.eq_ofNat_of_zero_le l0
  rw [hT] at P0 m0
  exact core a0 a1 len1 cap1 T (wts l) w (by omega) (Lib.hid P0) (wts_bd l) _ rfl (by rw [wts_length]; omega) (fun W hb => weights_any a1 cap1 len1 l W hn hl (hr.later hb) h64)

end Go.Proofs.Ytbefbodihfijbaa.amountNothingLost
