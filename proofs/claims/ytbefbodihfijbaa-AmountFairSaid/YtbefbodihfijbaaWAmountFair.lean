/-
  The walk of the law AmountFair: it returns true.
-/
import Derived.Test.YtbefbodihfijbaaIsRow
namespace Go.Proofs.Ytbefbodihfijbaa.amountFair
set_option linter.unusedVariables false
open Go.ChangeShapes Go.WideShapes Go.ChangeAt Go.RowKit Go.Proofs.Ytbefbodihfijbaa

theorem sum_small : ∀ (m : List Int), (∀ x ∈ m, 0 ≤ x ∧ x ≤ 10000000000000) → 0 ≤ m.sum ∧ m.sum ≤ 10000000000000 * m.length
  | [], _ => by simp
  | a :: m, h => by
    have h1 := sum_small m fun x hx => h x (List.mem_cons_of_mem _ hx)
    have h2 := h a (List.mem_cons_self ..)
    rw [List.sum_cons, List.length_cons]
    omega

theorem i64_small {m : List Int} (h : ∀ x ∈ m, 0 ≤ x ∧ x ≤ 10000000000000) : I64s m := i64s_of fun x hx => by have := h x hx; omega

theorem getD_small {m : List Int} (h : ∀ x ∈ m, 0 ≤ x ∧ x ≤ 10000000000000) (k : Nat) : 0 ≤ m.getD k 0 ∧ m.getD k 0 ≤ 10000000000000 := by
  by_cases hk : k < m.length
  · exact h _ (getD_mem hk)
  · have : m.getD k 0 = 0 := by simp [List.getElem?_eq_none (Nat.le_of_not_lt hk)]
    omega

set_option maxHeartbeats 20000000 in
set_option maxRecDepth 100000 in
theorem core (a0 : Int) (a1 : Option Addr) (len1 cap1 : Nat) (T : Nat) (m : List Int) (w : World) (hT : T ≤ 1000000000000000)
    (P0 : Hid (∀ w, Calls Try.prog 13 #[.int .i64 a0, .int .i64 1000000000000001] w fun e w' => e = .returned (.int .i64 T) ∧ w = w'))
    (hm : ∀ x ∈ m, 0 ≤ x ∧ x ≤ 10000000000000) (n : Nat) (hn : m.length = n) (hn40 : n ≤ 40)
    (hW : ∀ W, Below w.heap.size w W → Calls Try.prog 19 #[.slice a1 len1 cap1] W (Slc W m)) :
    Calls Try.prog 8 #[.int .i64 a0, .slice a1 len1 cap1] w fun e w' => e = .returned (.bool true) ∧ Below w.heap.size w w' := by
  have HM := Lib.hid hm
  have HN := Lib.hid hn
  have HW := Lib.hid hW
  have HAP := Lib.hid (fun ao cap W (h : Row W ao m) => apportion_any T ao cap n m W (by omega) hn h (i64_small hm))
  clear hm hn hW
  go_enter Try.func8, Try.ntmps8
  go_wp2_with fail
  refine (sane_any _).mono ?_
  rintro e w1 ⟨rfl, hb1⟩
  go_wp2_with fail
  refine (P0.out _).mono ?_
  rintro e w2 ⟨rfl, rfl⟩
  go_wp2_with fail
  refine (HW.out _ hb1).mono ?_
  rintro e w2 ⟨ao, cap, rfl, ⟨hnil2, hcap2⟩, hr2, hb2⟩
  rw [HN.out]
  have HR2 := Lib.hid hr2
  have HB2 := Lib.hid (bch hb1 hb2 hb1.size)
  clear hr2 hnil2 hcap2 hb1 hb2
  go_wp2_with fail
  refine (HAP.out ao cap _ HR2.out).mono ?_
  rintro e w3 ⟨ao3, cap3, rfl, _, hr3, hb3⟩
  have HB3 := Lib.hid (bch HB2.out hb3 HB2.out.size)
  have HR2' := Lib.hid (HR2.out.later hb3)
  clear hb3 HR2 HB2 HAP
  rcases hap : apB T m with _ | _
  · have hav : apV T m = [] := by unfold apV; rw [hap]; rfl
    rw [hav]
    clear hap hav hr3
    go_wp2_with fail
    go_ret
    exact ⟨rfl, HB3.out⟩
  · have ok := (apB_iff.1 hap).1
    have hav : apV T m = App.app T m := by unfold apV; rw [hap]; rfl
    rw [hav] at hr3
    rw [hav, App.app_length, HN.out]
    have q2 : ((n : Int) != (n : Int)) = false := by simp
    have q3 : (n != n) = false := by simp
    have OK := Lib.hid ok
    have HR3 := Lib.hid hr3
    have HAL := Lib.hid (show (App.app T m).length = n by rw [App.app_length, HN.out])
    clear hap hav ok hr3
    go_wp2_with fail
    go_loopw [9] (fun i wr => ∃ k d : Nat, k ≤ n ∧ i = .int .i64 k ∧ wr = w3.drewN d) (fun i _ => n - (intOf i).toNat)
    case atStart => exact ⟨0, 0, Nat.zero_le _, rfl, rfl⟩
    case round =>
      obtain ⟨i, d, hi, rfl, rfl⟩ := hrel
      by_cases hlt : i < n
      · go_wp2_with fail
        go_loopw [10] (fun j wr => ∃ k d : Nat, k ≤ i ∧ j = .int .i64 k ∧ wr = w3.drewN d) (fun j _ => i - (intOf j).toNat)
        case atStart => exact ⟨0, d, Nat.zero_le _, rfl, rfl⟩
        case round =>
          obtain ⟨k, d2, hk, rfl, rfl⟩ := hrel
          by_cases hlt2 : k < i
          · obtain ⟨b, off, rfl, hb, hci⟩ := HR2'.out i (by rw [HN.out]; exact hlt)
            obtain ⟨b', off', eb, _, hck⟩ := HR2'.out k (by rw [HN.out]; omega)
            simp only [Option.some.injEq, Addr.mk.injEq, and_true] at eb
            obtain ⟨rfl, rfl⟩ := eb
            obtain ⟨b3, off3, rfl, hb3, hpi⟩ := HR3.out i (by rw [HAL.out]; exact hlt)
            obtain ⟨b3', off3', eb3, _, hpk⟩ := HR3.out k (by rw [HAL.out]; omega)
            simp only [Option.some.injEq, Addr.mk.injEq, and_true] at eb3
            obtain ⟨rfl, rfl⟩ := eb3
            have g1 := fun h => App.app_fair OK.out (i := i) (k := k) (by rw [HN.out]; omega) (by rw [HN.out]; omega) h
            have g2 := fun h => App.app_fair OK.out (i := k) (k := i) (by rw [HN.out]; omega) (by rw [HN.out]; omega) h
            have g3 := fun h => App.app_equal (t := T) (l := m) (i := i) (k := k) (by rw [HN.out]; omega) hlt2 h
            have b1 : 0 ≤ (App.app T m).getD i 0 ∧ (App.app T m).getD i 0 ≤ (T : Int) + 1 := fB_bd OK.out (App.left T m) i
            generalize m.getD i 0 = wi at *
            generalize m.getD k 0 = wk at *
            generalize (App.app T m).getD i 0 = pi at *
            generalize (App.app T m).getD k 0 = pk at *
            have i0 : (0 : Int) ≤ (i : Int) := by omega
            have i1 : (i : Int) < (n : Int) := by omega
            have k0 : (0 : Int) ≤ (k : Int) := by omega
            have k1 : (k : Int) < (n : Int) := by omega
            have s1 : IntKind.i64.wrap (pi + 1) = pi + 1 := IntWalk.i64_in _ (by omega)
            have FIN : True := trivial
            rcases Int.lt_trichotomy wk wi with h | h | h
            · have g := g1 h
              have t2 : decide (pi < pk) = false := decide_eq_false (by omega)
              have t3 : decide (wi < wk) = false := decide_eq_false (by omega)
              have t4 : (wi == wk) = false := beq_eq_false_iff_ne.2 (by omega)
              clear g1 g2 g3 g
              go_wp2_with fail
              refine wp_region_quiet_lit (by kernel_rfl) (by kernel_rfl) ?_
              simp only [List.append_eq, List.cons_append, List.nil_append]
              repeat (go_big_quiet_step (fail))
              refine wpQuiet_nil ?_
              intro _ hw'
              obtain ⟨nq, hw''⟩ := hw'
              subst hw''
              go_wp2_with fail
              go_roundw
              case rel => exact ⟨k + 1, d2 + nq, by omega, by go_num, by first | rfl | simp [World.drewN_drewN]⟩
              case measure => simp [intOf]; omega
            · have t1 : decide (wk < wi) = false := decide_eq_false (by omega)
              have t3 : decide (wi < wk) = false := decide_eq_false (by omega)
              have t4 : (wi == wk) = true := beq_iff_eq.2 h.symm
              rcases g3 h.symm with e | e
              · have t5 : (pk != pi) = false := by rw [e]; simp
                clear g1 g2 g3 h e
                go_wp2_with fail
                refine wp_region_quiet_lit (by kernel_rfl) (by kernel_rfl) ?_
                simp only [List.append_eq, List.cons_append, List.nil_append]
                repeat (go_big_quiet_step (fail))
                refine wpQuiet_nil ?_
                intro _ hw'
                obtain ⟨nq, hw''⟩ := hw'
                subst hw''
                go_wp2_with fail
                go_roundw
                case rel => exact ⟨k + 1, d2 + nq, by omega, by go_num, by first | rfl | simp [World.drewN_drewN]⟩
                case measure => simp [intOf]; omega
              · have t5 : (pk != pi) = true := by rw [bne_iff_ne]; omega
                have t6 : (pk != pi + 1) = false := by rw [e]; simp
                clear g1 g2 g3 h e
                go_wp2_with fail
                refine wp_region_quiet_lit (by kernel_rfl) (by kernel_rfl) ?_
                simp only [List.append_eq, List.cons_append, List.nil_append]
                repeat (go_big_quiet_step (fail))
                refine wpQuiet_nil ?_
                intro _ hw'
                obtain ⟨nq, hw''⟩ := hw'
                subst hw''
                go_wp2_with fail
                go_roundw
                case rel => exact ⟨k + 1, d2 + nq, by omega, by go_num, by first | rfl | simp [World.drewN_drewN]⟩
                case measure => simp [intOf]; omega
            · have g := g2 h
              have t1 : decide (wk < wi) = false := decide_eq_false (by omega)
              have t5 : decide (pk < pi) = false := decide_eq_false (by omega)
              have t4 : (wi == wk) = false := beq_eq_false_iff_ne.2 (by omega)
              clear g1 g2 g3 g
              go_wp2_with fail
              refine wp_region_quiet_lit (by kernel_rfl) (by kernel_rfl) ?_
              simp only [List.append_eq, List.cons_append, List.nil_append]
              repeat (go_big_quiet_step (fail))
              refine wpQuiet_nil ?_
              intro _ hw'
              obtain ⟨nq, hw''⟩ := hw'
              subst hw''
              go_wp2_with fail
              go_roundw
              case rel => exact ⟨k + 1, d2 + nq, by omega, by go_num, by first | rfl | simp [World.drewN_drewN]⟩
              case measure => simp [intOf]; omega
          · go_wp2_with fail
            go_roundw
            case rel => exact ⟨i + 1, d2, by omega, by go_num, rfl⟩
            case measure => simp [intOf]; omega
      · go_wp2_with fail
        go_ret
        exact ⟨rfl, below_drewN HB3.out d⟩

theorem walk (a0 : Int) (a1 : Option Addr) (len1 cap1 : Nat) (z1 : List Int) (w : World) (w0 : (Lit.int .i64 a0).wf = true) (w1 : IsRow .i64 w a1 len1 cap1 z1) :
    Calls Try.prog 8 #[.int .i64 a0, .slice a1 len1 cap1] w fun e w' => e = .returned (.bool true) ∧ Below w.heap.size w w' := by
  have b0 := wfb w0
  obtain ⟨l, hl, hcap, hn, hnil, hr, h64⟩ := w1.row
  have l0 := pickZ_lo a0 1000000000000001 (by omega)
  have m0 := pickZ_hi a0 1000000000000001 (by omega)
  have P0 := fun w => pick_any a0 1000000000000001 w b0.1 b0.2 (by omega) (by omega)
  obtain ⟨T, hT⟩ := Int.eq_ofNat_of_zero_le l0
  rw [hT] at P0 m0
  exact core a0 a1 len1 cap1 T (wts l) w (by omega) (Lib.hid P0) (wts_bd l) _ rfl (by rw [wts_length]; omega) (fun W hb => weights_any a1 cap1 len1 l W hn hl (hr.later hb) h64)

end Go.Proofs.Ytbefbodihfijbaa.amountFair
