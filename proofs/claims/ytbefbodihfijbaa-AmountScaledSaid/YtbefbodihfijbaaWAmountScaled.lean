/-
  The walk of the law AmountScaled: it returns true.
-/
import Derived.Test.YtbefbodihfijbaaStep
import Derived.Deep.RegionLaw
import Derived.Deep.RegionHeld3
import Derived.Deep.DeepCutAuto
namespace Go.Proofs.Ytbefbodihfijbaa.amountScaled
set_option linter.unusedVariables false
set_option linter.unusedSimpArgs false
open Go.ChangeShapes Go.WideShapes Go.ChangeAt Go.RowKit Go.Proofs.Ytbefbodihfijbaa

theorem sum_small : ∀ (m : List Int), (∀ x ∈ m, 0 ≤ x ∧ x ≤ 10000000000000) → 0 ≤ m.sum ∧ m.sum ≤ 10000000000000 * m.length
  | [], _ => by simp
  | a :: m, h => by
    have h1 := sum_small m fun x hx => h x (List.mem_cons_of_mem _ hx)
    have h2 := h a (List.mem_cons_self ..)
    rw [List.sum_cons, List.length_cons]
    omega

theorem i64_small {m : List Int} (h : ∀ x ∈ m, 0 ≤ x ∧ x ≤ 10000000000000) : I64s m := i64s_of fun x hx => by have := h x hx; omega

theorem getD_small {m : List Int} (h : ∀ x ∈ m, 0 ≤ x ∧ x ≤ 10000000000000) (k : Nat) : 0 ≤ m.getD k 0 ∧ m.getD k 0 ≤ 10000000000000 := by
  by_cases hk : k < m.length
  · exact h _ (getD_mem hk)
  · have : m.getD k 0 = 0 := by simp [List.getElem?_eq_none (Nat.le_of_not_lt hk)]
    omega

/-- the sum of the first k -/
def SumTo (m : List Int) (k : Nat) (z : Int) : Prop := z = (m.take k).sum
theorem SumTo.start (m : List Int) : SumTo m 0 0 := by unfold SumTo; simp
theorem SumTo.next {m : List Int} {k : Nat} {z : Int} (h : SumTo m k z) (hk : k < m.length) : SumTo m (k + 1) (z + m.getD k 0) := by
  unfold SumTo at *; rw [take_sum_succ m k hk, h]
theorem SumTo.last {m : List Int} {k : Nat} {z : Int} (h : SumTo m k z) (hk : m.length ≤ k) : m.sum = z := by
  unfold SumTo at h; rw [List.take_of_length_le hk] at h; exact h.symm
theorem SumTo.bd {m : List Int} {k : Nat} {z : Int} (h : SumTo m k z) (hp : ∀ x ∈ m, 0 ≤ x) : 0 ≤ z ∧ z ≤ m.sum := by
  unfold SumTo at h
  have h1 := take_sum_le m k hp
  have h2 := sum_nonneg (m.take k) fun x hx => hp x (List.mem_of_mem_take hx)
  omega


theorem scale_getD (c : Int) (m : List Int) (k : Nat) : (m.map fun x => c * x).getD k 0 = c * m.getD k 0 := by
  rw [List.getD_eq_getElem?_getD, List.getD_eq_getElem?_getD, List.getElem?_map]
  cases m[k]? <;> simp

theorem rel_scaled {w wr w1 : World} {sc : List Int} {k : Nat} {x : Int} {v v' : Value} (hk : k < sc.length) (hb : Below w.heap.size w wr) (hx : sc.getD k 0 = x)
    (ho : w1.ownsRow w.heap.size 3 1 v' ((sc.take k).length + 1) (ints (sc.take k) ++ [.int .i64 x])) (o : Obj) (gr : (wr.alloc o).grownBy w1 v.ownBlock) (hv : wr.ownsRow w.heap.size 3 1 v (sc.take k).length (ints (sc.take k))) :
    w1.ownsRow w.heap.size 3 1 v' (sc.take (k + 1)).length (ints (sc.take (k + 1))) ∧ Below w.heap.size w w1 := by
  have e : sc.take (k + 1) = sc.take k ++ [x] := by rw [List.take_succ_eq_append_getElem hk, ← hx]; simp [hk]
  rw [e, ints_append]
  refine ⟨by simpa [ints] using ho, (hb.alloc hb.size o).grown gr (by have := hb.size; simp; omega) ?_⟩
  intro j hj
  obtain ⟨_, h | ⟨g, cap, cur, rfl, h1, _⟩⟩ := hv
  · rw [h.1] at hj; simp [Value.ownBlock] at hj
  · simp [Value.ownBlock] at hj; omega

theorem apB_sum {T : Nat} {l : List Int} (hT : T ≤ 1000000000000000) (hp : ∀ x ∈ l, 0 ≤ x) (hs : l.sum ≤ 1000000000000000) : apB T l = decide (0 < l.sum) := by
  unfold apB
  rw [okS_iff.2 ⟨hp, hs⟩, decide_eq_true (show (0 : Int) ≤ T by omega), decide_eq_true (show (T : Int) ≤ 1000000000000000 by omega)]
  simp

theorem scaled_ap {T : Nat} {m : List Int} {c : Int} (hc0 : 0 ≤ c) (hm : ∀ x ∈ m, 0 ≤ x ∧ x ≤ 10000000000000) (h1 : m.sum ≤ 1000000000000000) (h2 : m.sum * (1 + c) ≤ 1000000000000000) (hT : T ≤ 1000000000000000) :
    apB T (m.map fun x => (1 + c) * x) = apB T m ∧ apV T (m.map fun x => (1 + c) * x) = apV T m := by
  have hp : ∀ x ∈ m, 0 ≤ x := fun x hx => (hm x hx).1
  have hs := sum_nonneg m hp
  have e1 : (m.map fun x => (1 + c) * x).sum = (1 + c) * m.sum := App.sum_scale _ _
  have eB : apB T (m.map fun x => (1 + c) * x) = apB T m := by
    rw [apB_sum hT hp h1, apB_sum hT (fun x hx => by
      obtain ⟨y, hy, rfl⟩ := List.mem_map.1 hx
      exact Int.mul_nonneg (by omega) (hp y hy)) (by rw [e1, Int.mul_comm]; exact h2), e1]
    by_cases h : 0 < m.sum
    · rw [decide_eq_true h, decide_eq_true (Int.mul_pos (by omega) h)]
    · have : m.sum = 0 := by omega
      rw [this]; simp
  refine ⟨eB, ?_⟩
  unfold apV
  rw [eB, App.app_scale (by omega)]

theorem i64_scaled {m : List Int} {c : Int} (hc0 : 0 ≤ c) (hc1 : c ≤ 59) (hm : ∀ x ∈ m, 0 ≤ x ∧ x ≤ 10000000000000) : I64s (m.map fun x => (1 + c) * x) := i64s_of fun x hx => by
  obtain ⟨y, hy, rfl⟩ := List.mem_map.1 hx
  have h := hm y hy
  have p0 : 0 ≤ (1 + c) * y := Int.mul_nonneg (by omega) h.1
  have p1 : (1 + c) * y ≤ 60 * 10000000000000 := Int.mul_le_mul (by omega) h.2 h.1 (by omega)
  omega

theorem ins_sum (m : List Int) (k : Nat) : (m.take k ++ 0 :: m.drop k).sum = m.sum := by
  have h : (m.take k ++ m.drop k).sum = m.sum := by rw [List.take_append_drop]
  rw [List.sum_append] at h
  rw [List.sum_append, List.sum_cons]; omega

theorem ins_ap {T : Nat} {m : List Int} (k : Nat) (hm : ∀ x ∈ m, 0 ≤ x ∧ x ≤ 10000000000000) (h1 : m.sum ≤ 1000000000000000) (hT : T ≤ 1000000000000000) : apB T (m.take k ++ 0 :: m.drop k) = apB T m := by
  rw [apB_sum hT (fun x hx => (hm x hx).1) h1, apB_sum hT ?_ (by rw [ins_sum]; exact h1), ins_sum]
  intro x hx
  simp only [List.mem_append, List.mem_cons] at hx
  rcases hx with hx | rfl | hx
  · exact (hm x (List.mem_of_mem_take hx)).1
  · omega
  · exact (hm x (List.mem_of_mem_drop hx)).1

/-- the parts with a weight of 0 more -/
theorem ins_parts {T : Nat} {m : List Int} {k : Nat} (hk : k ≤ m.length) (h : apB T m = true) (h2 : apB T (m.take k ++ 0 :: m.drop k) = true) :
    (apV T m).length = m.length ∧ (apV T (m.take k ++ 0 :: m.drop k)).length = m.length + 1 ∧ (apV T (m.take k ++ 0 :: m.drop k)).getD k 0 = 0 ∧
    (apV T (m.take k ++ 0 :: m.drop k)).take k ++ (apV T (m.take k ++ 0 :: m.drop k)).drop (k + 1) = apV T m := by
  have ok := (apB_iff.1 h).1
  have e1 : apV T m = App.app T m := by unfold apV; rw [if_pos h]
  have e2 : apV T (m.take k ++ 0 :: m.drop k) = App.app T (m.take k ++ 0 :: m.drop k) := by unfold apV; rw [if_pos h2]
  have hl : (m.take k).length = k := by rw [List.length_take]; omega
  have hi := App.app_ins (t := T) (a := m.take k) (b := m.drop k) (by rw [List.take_append_drop]; exact ok)
  rw [List.take_append_drop, hl] at hi
  rw [e1, e2]
  refine ⟨App.app_length _ _, ?_, hi.2.1, hi.2.2⟩
  rw [App.app_length, List.length_append, List.length_cons, List.length_take, List.length_drop]; omega

/-- what region 18 leaves: a slice that reads as p, and a bool -/
def More (w : World) (p : List Int) (b : Bool) (v18 v19 : Value) (wx : World) : Prop :=
  ∃ (ao : Option Addr) (cap : Nat), v18 = .slice ao p.length cap ∧ v19 = .bool b ∧ ((ao = none → cap = 0) ∧ p.length ≤ cap) ∧ Row wx ao p ∧ Below w.heap.size w wx

theorem ins_i64 {m : List Int} (hm : ∀ x ∈ m, 0 ≤ x ∧ x ≤ 10000000000000) (k : Nat) : I64s (m.take k ++ 0 :: m.drop k) := i64s_of fun x hx => by
  simp only [List.mem_append, List.mem_cons] at hx
  rcases hx with hx | rfl | hx
  · have := hm x (List.mem_of_mem_take hx); omega
  · omega
  · have := hm x (List.mem_of_mem_drop hx); omega

theorem _root_.Go.Proofs.Ytbefbodihfijbaa.Row.laterC {w w' : World} {ao : Option Addr} {l : List Int} {B : Nat} (h : Row w ao l) (hb : Below B w w') (hB : w.heap.size = B) : Row w' ao l := by
  subst hB; exact h.later hb
theorem _root_.Go.Proofs.Ytbefbodihfijbaa.Row.drop {w : World} {ad : Addr} {l : List Int} (h : Row w (some ad) l) (k : Nat) : Row w (some (ad.add k)) (l.drop k) := by
  intro i hi
  rw [List.length_drop] at hi
  obtain ⟨b, off, e, h1, hc⟩ := h (k + i) (by omega)
  simp only [Option.some.injEq] at e
  subst e
  refine ⟨b, off + k, ?_, h1, ?_⟩
  · congr 1; unfold Addr.add; split <;> simp_all
  · rw [Nat.add_assoc, hc]; simp

set_option maxHeartbeats 20000000 in
set_option maxRecDepth 100000 in
theorem core (a0 a2 a3 c : Int) (a1 : Option Addr) (len1 cap1 : Nat) (T at' : Nat) (m : List Int) (w : World) (hT : T ≤ 1000000000000000) (n : Nat) (hn : m.length = n) (hn40 : n ≤ 40) (hat : at' ≤ n) (hc0 : 0 ≤ c) (hc1 : c ≤ 59)
    (P0 : Hid (∀ w, Calls Try.prog 13 #[.int .i64 a0, .int .i64 1000000000000001] w fun e w' => e = .returned (.int .i64 T) ∧ w = w'))
    (P2 : Hid (∀ w, Calls Try.prog 13 #[.int .i64 a2, .int .i64 60] w fun e w' => e = .returned (.int .i64 c) ∧ w = w'))
    (P3 : Hid (∀ w, Calls Try.prog 13 #[.int .i64 a3, .int .i64 ((n : Int) + 1)] w fun e w' => e = .returned (.int .i64 at') ∧ w = w'))
    (hm : ∀ x ∈ m, 0 ≤ x ∧ x ≤ 10000000000000)
    (hW : ∀ W, Below w.heap.size w W → Calls Try.prog 19 #[.slice a1 len1 cap1] W (Slc W m)) :
    Calls Try.prog 9 #[.int .i64 a0, .slice a1 len1 cap1, .int .i64 a2, .int .i64 a3] w fun e w' => e = .returned (.bool true) ∧ Below w.heap.size w w' := by
  have hsm := sum_small m hm
  rw [hn] at hsm
  have HM := Lib.hid hm
  have HN := Lib.hid hn
  have HW := Lib.hid hW
  have HAP := Lib.hid (fun ao cap W (h : Row W ao m) => apportion_any T ao cap n m W (by omega) hn h (i64_small hm))
  have HSC := Lib.hid (show (m.map fun x => (1 + c) * x).length = n by rw [List.length_map, hn])
  have HSG := Lib.hid (fun k => scale_getD (1 + c) m k)
  clear hm hn hW
  obtain ⟨S, hS⟩ : ∃ S, m.sum = S := ⟨_, rfl⟩
  rw [hS] at hsm
  have HS := Lib.hid hS
  have hSc0 : 0 ≤ S * (1 + c) := Int.mul_nonneg hsm.1 (by omega)
  have hSc1 : S * (1 + c) ≤ 400000000000000 * 60 := Int.mul_le_mul (by omega) (by omega) (by omega) (by omega)
  have hSc2 : S * (1 + c) ≤ 24000000000000000 := by omega
  clear hS hSc1
  obtain ⟨sc, hsc⟩ : ∃ sc, (m.map fun x => (1 + c) * x) = sc := ⟨_, rfl⟩
  rw [hsc] at HSC HSG
  have HSE := Lib.hid hsc
  clear hsc
  obtain ⟨i0, hi, hz0, hz1, hz2⟩ := info_parts Try.info3
  go_enter Try.func9, Try.ntmps9
  go_wp2_with fail
  refine (sane_any _).mono ?_
  rintro e w1 ⟨rfl, hb1⟩
  go_wp2_with fail
  refine (P0.out _).mono ?_
  rintro e w2 ⟨rfl, rfl⟩
  go_wp2_with fail
  refine (HW.out _ hb1).mono ?_
  rintro e w2 ⟨ao, cap, rfl, ⟨hnil2, hcap2⟩, hr2, hb2⟩
  rw [HN.out] at hcap2
  rw [HN.out]
  have HR2 := Lib.hid hr2
  have HB2 := Lib.hid (bch hb1 hb2 hb1.size)
  have HNIL := Lib.hid hnil2
  clear hr2 hnil2 hb1 hb2
  go_wp2_with fail
  refine (P2.out _).mono ?_
  rintro e w3 ⟨rfl, rfl⟩
  go_wp2_with fail
  refine (P3.out _).mono ?_
  rintro e w3 ⟨rfl, rfl⟩
  go_wp2_with fail
  go_loopw [11, 12, 13] (fun s v i wr => ∃ (k : Nat) (z : Int), k ≤ n ∧ SumTo m k z ∧ 0 ≤ z ∧ z ≤ S ∧ i = .int .i64 k ∧ s = .int .i64 z ∧ wr.ownsRow w2.heap.size 3 1 v (sc.take k).length (ints (sc.take k)) ∧ Below w2.heap.size w2 wr) (fun _ _ i _ => n - (intOf i).toNat)
  case atStart => exact ⟨0, 0, Nat.zero_le _, SumTo.start m, by omega, hsm.1, rfl, rfl, World.ownsRow_nil _ _ _ _, Below.refl _ _⟩
  case round =>
    obtain ⟨k, z, hk, hz, z0, z1, rfl, rfl, hown, hbw⟩ := hrel
    by_cases hlt : k < n
    · obtain ⟨b, off, rfl, hb, hc⟩ := HR2.out k (by rw [HN.out]; exact hlt)
      have hg := getD_small HM.out k
      have hz' := hz.next (by rw [HN.out]; exact hlt)
      have hzb := hz'.bd (fun x hx => (HM.out x hx).1)
      rw [HS.out] at hzb
      have hc' : wr.cell? ⟨b, off + k, none⟩ = some (.int .i64 (m.getD k 0)) := by rw [hbw.cell (p := ⟨b, off + k, none⟩) hb]; exact hc
      have hsg := HSG.out k
      obtain ⟨x, hx⟩ : ∃ x, m.getD k 0 = x := ⟨_, rfl⟩
      rw [hx] at hc' hg hz' hzb hsg
      have p0 : 0 ≤ (1 + c) * x := Int.mul_nonneg (by omega) hg.1
      have p1 : (1 + c) * x ≤ 60 * 10000000000000 := Int.mul_le_mul (by omega) hg.2 hg.1 (by omega)
      have p2 : (1 + c) * x ≤ 600000000000000 := by omega
      have HLL := Lib.hid (show (sc.take k).length = k by rw [List.length_take, HSC.out]; omega)
      have HO := Lib.hid hown
      have HB := Lib.hid hbw
      have HSGK := Lib.hid hsg
      have HKL := Lib.hid (show k < sc.length by rw [HSC.out]; exact hlt)
      clear hx hz p1 hc hown hbw hsg
      go_wp2_with (at_builtin; refine wpList_append_own _ rfl (.tmp 45) (.tmp 52) 29 rfl w2.heap.size 3 i0 (.int .i64 0) 1 8 Try.underlying29 hi hz0 hz1 hz2 rfl (by decide) _ _ _ rfl (HO.out.alloc _) ⟨wr.heap.size, 0, none⟩ 1 1 [.int .i64 ((1 + c) * x)] rfl rfl (cell_one_new _ _ _) (by intro u hu; simp at hu; subst hu; rfl) (by rw [HLL.out]; unfold maxLen; omega) (by rw [HLL.out]; omega) (by have := HB.out.size; simp; omega) ?_; intro v' w4 own gr _h)
      have R := rel_scaled HKL.out HB.out HSGK.out own _ gr HO.out
      clear own gr _h
      go_wp2
      go_roundw
      case rel => exact ⟨k + 1, _, by omega, hz', by omega, by omega, by go_num, rfl, R.1, R.2⟩
      case measure => simp [intOf]; omega
    · have ez : S = z := by rw [← HS.out]; exact hz.last (by rw [HN.out]; omega)
      subst ez
      rw [List.take_of_length_le (by rw [HSC.out]; omega)] at hown
      obtain ⟨ao4, cap4, rfl, _, hr4⟩ := row_of_owns hown
      rw [HSC.out]
      have HR4 := Lib.hid hr4
      have HRW := Lib.hid (HR2.out.later hbw)
      have HBW := Lib.hid (bch HB2.out hbw HB2.out.size)
      clear hz z1 hown hr4 hbw HR2 HB2
      go_wp2_with fail
      refine (HAP.out ao cap _ HRW.out).mono ?_
      rintro e w5 ⟨ao5, cap5, rfl, ⟨hnil5, hcap5⟩, hr5, hb5⟩
      have HB5 := Lib.hid hb5
      have HR5 := Lib.hid hr5
      have HSA := Lib.hid (fun (h : S * (1 + c) ≤ 1000000000000000) => scaled_ap (T := T) (m := m) (c := c) hc0 HM.out (by rw [HS.out]; omega) (by rw [HS.out]; exact h) hT)
      rw [HSE.out] at HSA
      have HPL := Lib.hid (show (apV T m).length ≤ 4611686018427387903 by unfold apV; split <;> simp [App.app_length, HN.out]; omega)
      have HI4 := Lib.hid (show I64s sc by rw [← HSE.out]; exact i64_scaled hc0 hc1 HM.out)
      clear hr5 hb5
      go_upto_if 63 with (fail)
      go_cut [] (fun wx => Below w5.heap.size w5 wx)
      case first =>
        by_cases hle : S * (1 + c) ≤ 1000000000000000
        · obtain ⟨eB, eV⟩ := HSA.out hle
          have HA2 := fun W (h : Row W ao4 sc) => apportion_any T ao4 cap4 n sc W (by omega) HSC.out h HI4.out
          rw [eB, eV] at HA2
          have HA2 := Lib.hid HA2
          clear eB eV
          have HSM := fun ao6 cap6 W h1 h2 => same_any ao5 ao6 cap5 cap6 (apV T m) (apV T m) _ _ W rfl rfl HPL.out h1 h2
          rw [decide_eq_true (show apV T m = apV T m from rfl)] at HSM
          have HSM := Lib.hid HSM
          have hob : (apB T m != apB T m) = false := by simp
          generalize apB T m = ob at *
          go_wp2_with fail
          refine (HA2.out _ (HR4.out.later HB5.out)).mono ?_
          rintro e w6 ⟨ao6, cap6, rfl, _, hr6, hb6⟩
          have HB6 := Lib.hid hb6
          have HR6 := Lib.hid hr6
          clear hr6 hb6
          go_wp2_with fail
          refine (HSM.out ao6 cap6 _ (HR5.out.later HB6.out) HR6.out).mono ?_
          rintro e w7 ⟨rfl, n7, rfl⟩
          go_wp2_with fail
          go_meet
          exact below_drewN HB6.out n7
        · have hle' : decide (S * (1 + c) ≤ 1000000000000000) = false := decide_eq_false hle
          go_wp2_with fail
          go_meet
          exact Below.refl _ _
      case rest =>
        obtain ⟨wk, rfl⟩ : ∃ wk : World, wk = wc := ⟨_, rfl⟩
        have HWC := Lib.hid hcut
        clear hcut
        have HRC := Lib.hid ((HRW.out.later HB5.out).later HWC.out)
        have HMI := Lib.hid (ins_i64 HM.out at')
        have HML := Lib.hid (show (m.take at' ++ 0 :: m.drop at').length = n + 1 by simp [HN.out]; omega)
        obtain ⟨mm, hmm⟩ : ∃ mm, m.take at' ++ 0 :: m.drop at' = mm := ⟨_, rfl⟩
        rw [hmm] at HMI HML
        have HMM := Lib.hid hmm
        clear hmm
        have HTL := Lib.hid (show (ints (m.take at')).length = at' * 1 by simp [ints, HN.out]; omega)
        have HDL := Lib.hid (show (ints (m.drop at')).length = (n - at') * 1 by simp [ints, HN.out])
        obtain ⟨B, hB⟩ : ∃ B, wk.heap.size = B := ⟨_, rfl⟩
        have HBE := Lib.hid hB
        have o1 := (owns_empty' wk B (by omega)).drew
        have o2 := ((owns_empty' wk B (by omega)).alloc (.cells #[.int .i64 0] 3)).drew
        have o3 := (owns_empty' (wk.alloc (.cells #[.int .i64 0] 3)) B (by simp; omega)).drew
        have e3 : (wk.alloc (.cells #[.int .i64 0] 3)).heap.size = B + 1 := by simp [hB]
        rw [hB] at o1 o2
        rw [e3] at o3
        have O1 := Lib.hid o1
        have O2 := Lib.hid o2
        have O3 := Lib.hid o3
        have b0 : Below B wk wk := Below.refl _ _
        have X1 := Lib.hid ((b0.alloc (by omega) (.cells #[] 3)).drew)
        have X2 := Lib.hid (((b0.alloc (by omega) (.cells #[] 3)).alloc (by simp; omega) (.cells #[.int .i64 0] 3)).drew)
        have X3 := Lib.hid (((b0.alloc (by omega) (.cells #[.int .i64 0] 3)).alloc (by simp; omega) (.cells #[] 3)).drew)
        have Z2 := Lib.hid (show (((wk.alloc (.cells #[] 3)).alloc (.cells #[.int .i64 0] 3)).drew).cell? ⟨B + 1, 0, none⟩ = some (.int .i64 0) by show (((wk.alloc (.cells #[] 3)).alloc (.cells #[.int .i64 0] 3))).cell? ⟨B + 1, 0, none⟩ = _; rw [World.cell?_alloc_at _ _ _ _ (by simp [hB])]; rfl)
        have Z3 := Lib.hid (show (((wk.alloc (.cells #[.int .i64 0] 3)).alloc (.cells #[] 3)).drew).cell? ⟨B, 0, none⟩ = some (.int .i64 0) by show (((wk.alloc (.cells #[.int .i64 0] 3)).alloc (.cells #[] 3))).cell? ⟨B, 0, none⟩ = _; rw [World.cell?_alloc_past _ _ _ (by simp [hB]), World.cell?_alloc_at _ _ _ _ hB.symm]; rfl)
        clear o1 o2 o3 e3 b0
        go_upto_region 18 with (fail)
        go_cut [18, 19] (fun v18 v19 wx => More wk (apV T mm) (apB T mm) v18 v19 wx)
        case first =>
          rcases ao with _ | ad
          · obtain rfl := HNIL.out rfl
            obtain rfl : n = 0 := by omega
            obtain rfl : at' = 0 := by omega
            obtain rfl : m = [] := List.eq_nil_of_length_eq_zero HN.out
            go_region_law (first
              | (refine step_own_none (by rfl) (.tmp 81) (.tmp 84) 29 (by rfl) B 3 i0 1 Try.underlying29 hi (.slice (some ⟨B, 0, none⟩) 0 0) 0 (ints []) ?_ ?_ ?_ ?_; (simp [Act.eval, Act.put]); (with_reducible exact O1.out); (simp [Act.eval, Act.put]))
              | (refine step_own_none (by rfl) (.tmp 81) (.tmp 84) 29 (by rfl) B 3 i0 1 Try.underlying29 hi (.slice (some ⟨B, 0, none⟩) 0 0) 0 (ints []) ?_ ?_ ?_ ?_; (simp [Act.eval, Act.put]); (with_reducible exact O2.out); (simp [Act.eval, Act.put]))
              | (refine step_own_none (by rfl) (.tmp 81) (.tmp 84) 29 (by rfl) B 3 i0 1 Try.underlying29 hi (.slice (some ⟨B + 1, 0, none⟩) 0 0) 0 (ints []) ?_ ?_ ?_ ?_; (simp [Act.eval, Act.put]); (with_reducible exact O3.out); (simp [Act.eval, Act.put]))
              | (refine step_own (by rfl) (.tmp 85) (.tmp 86) 29 (by rfl) B 3 i0 (.int .i64 0) 1 8 Try.underlying29 hi hz0 hz1 hz2 (by rfl) (by decide) (.slice (some ⟨B, 0, none⟩) 0 0) 0 (ints []) ?_ ?_ ⟨B + 1, 0, none⟩ 1 1 [.int .i64 0] ?_ (by rfl) ?_ (by intro u hu; simp at hu; subst hu; rfl) ?_ ?_ ?_ ?_; (simp [Act.eval, Act.put]); (with_reducible exact O2.out); (simp [Act.eval, Act.put]); (with_reducible exact (news_one Z2.out)); (unfold maxLen; omega); omega; (simp; omega); intro v2 w7 own2 gr2; have E3 := grown_up X2.out (by omega) O2.out gr2; clear gr2)
              | (refine step_own (by rfl) (.tmp 85) (.tmp 86) 29 (by rfl) B 3 i0 (.int .i64 0) 1 8 Try.underlying29 hi hz0 hz1 hz2 (by rfl) (by decide) (.slice (some ⟨B + 1, 0, none⟩) 0 0) 0 (ints []) ?_ ?_ ⟨B, 0, none⟩ 1 1 [.int .i64 0] ?_ (by rfl) ?_ (by intro u hu; simp at hu; subst hu; rfl) ?_ ?_ ?_ ?_; (simp [Act.eval, Act.put]); (with_reducible exact O3.out); (simp [Act.eval, Act.put]); (with_reducible exact (news_one Z3.out)); (unfold maxLen; omega); omega; (simp; omega); intro v2 w7 own2 gr2; have E3 := grown_up X3.out (by omega) O3.out gr2; clear gr2)
              | (refine step_own_none (by rfl) (.tmp 87) (.tmp 90) 29 (by rfl) B 3 i0 1 Try.underlying29 hi v2 (0 + 1) (ints [] ++ [.int .i64 0]) ?_ ?_ ?_ ?_; (simp [Act.eval, Act.put]); (with_reducible exact own2); (simp [Act.eval, Act.put]); obtain ⟨ao7, cap7, hv7, hn7, hr7⟩ := row_of_owns (l := mm) (by rw [← HMM.out]; simpa [ints] using own2); rw [HML.out] at hv7; subst hv7; clear own2)
              | (go_simp; go_at_call 20; (with_reducible refine (apportion_any T ao7 cap7 (0 + 1) mm _ (by omega) HML.out hr7 HMI.out).mono ?_); rintro e w9 ⟨ao8, cap8, rfl, hn8, hr8, hb8⟩))
            all_goals
              go_wp2_with fail
              go_meet
              exact ⟨ao8, cap8, rfl, rfl, hn8, hr8, by rw [HBE.out]; exact bch E3 hb8 (by have := E3.size; omega)⟩
          · by_cases hac : at' = cap
            · subst hac
              obtain rfl : at' = n := by omega
              have Y1 := Lib.hid (fun X (h : Below B wk X) => Row.take (Row.laterC HRC.out h HBE.out) at')
              have HD0 := Lib.hid (show (ints (m.drop at')).length = 0 * 1 by rw [HDL.out]; omega)
              have HNW := Lib.hid (fun (X : World) (j : Nat) (u : Value) (h : (ints (m.drop at'))[j]? = some u) => show X.cell? (ad.add j) = some u by rw [List.eq_nil_of_length_eq_zero HD0.out] at h; simp at h)
              go_region_law (first
                | (refine step_own (by rfl) (.tmp 81) (.tmp 84) 29 (by rfl) B 3 i0 (.int .i64 0) 1 8 Try.underlying29 hi hz0 hz1 hz2 (by rfl) (by decide) (.slice (some ⟨B, 0, none⟩) 0 0) 0 (ints []) ?_ ?_ ad at' at' (ints (m.take at')) ?_ HTL.out ?_ (ints_one _) ?_ ?_ ?_ ?_; (simp [Act.eval, Act.put]); (with_reducible exact O1.out); (simp [Act.eval, Act.put]); (with_reducible exact (Y1.out _ X1.out).news); (unfold maxLen; omega); omega; (simp; omega); intro v1 w6 own1 gr1; have E1 := grown_up X1.out (by omega) O1.out gr1; clear gr1)
                | (refine step_own (by rfl) (.tmp 81) (.tmp 84) 29 (by rfl) B 3 i0 (.int .i64 0) 1 8 Try.underlying29 hi hz0 hz1 hz2 (by rfl) (by decide) (.slice (some ⟨B, 0, none⟩) 0 0) 0 (ints []) ?_ ?_ ad at' at' (ints (m.take at')) ?_ HTL.out ?_ (ints_one _) ?_ ?_ ?_ ?_; (simp [Act.eval, Act.put]); (with_reducible exact O2.out); (simp [Act.eval, Act.put]); (with_reducible exact (Y1.out _ X2.out).news); (unfold maxLen; omega); omega; (simp; omega); intro v1 w6 own1 gr1; have E1 := grown_up X2.out (by omega) O2.out gr1; have cz2 := cell_keep gr1 Z2.out (by simp [Value.ownBlock]); clear gr1)
                | (refine step_own (by rfl) (.tmp 81) (.tmp 84) 29 (by rfl) B 3 i0 (.int .i64 0) 1 8 Try.underlying29 hi hz0 hz1 hz2 (by rfl) (by decide) (.slice (some ⟨B + 1, 0, none⟩) 0 0) 0 (ints []) ?_ ?_ ad at' at' (ints (m.take at')) ?_ HTL.out ?_ (ints_one _) ?_ ?_ ?_ ?_; (simp [Act.eval, Act.put]); (with_reducible exact O3.out); (simp [Act.eval, Act.put]); (with_reducible exact (Y1.out _ X3.out).news); (unfold maxLen; omega); omega; (simp; omega); intro v1 w6 own1 gr1; have E1 := grown_up X3.out (by omega) O3.out gr1; have cz3 := cell_keep gr1 Z3.out (by simp [Value.ownBlock]); clear gr1)
                | (refine step_own (by rfl) (.tmp 85) (.tmp 86) 29 (by rfl) B 3 i0 (.int .i64 0) 1 8 Try.underlying29 hi hz0 hz1 hz2 (by rfl) (by decide) v1 (0 + at') (ints [] ++ ints (m.take at')) ?_ ?_ ⟨w6.heap.size, 0, none⟩ 1 1 [.int .i64 0] ?_ (by rfl) ?_ (by intro u hu; simp at hu; subst hu; rfl) ?_ ?_ ?_ ?_; (simp [Act.eval, Act.put]); (with_reducible exact (own1.alloc _)); (simp [Act.eval, Act.put]); (with_reducible exact (cell_one_new _ _ _)); (unfold maxLen; omega); omega; (have := E1.size; simp; omega); intro v2 w7 own2 gr2; have E2 := grown_up (E1.alloc (by have := E1.size; omega) _) (by omega) (own1.alloc _) gr2; clear gr2)
                | (refine step_own (by rfl) (.tmp 85) (.tmp 86) 29 (by rfl) B 3 i0 (.int .i64 0) 1 8 Try.underlying29 hi hz0 hz1 hz2 (by rfl) (by decide) v1 (0 + at') (ints [] ++ ints (m.take at')) ?_ ?_ ⟨B + 1, 0, none⟩ 1 1 [.int .i64 0] ?_ (by rfl) ?_ (by intro u hu; simp at hu; subst hu; rfl) ?_ ?_ ?_ ?_; (simp [Act.eval, Act.put]); (with_reducible exact own1); (simp [Act.eval, Act.put]); (with_reducible exact (news_one cz2)); (unfold maxLen; omega); omega; (have := E1.size; simp; omega); intro v2 w7 own2 gr2; have E2 := grown_up E1 (by omega) own1 gr2; clear gr2)
                | (refine step_own (by rfl) (.tmp 85) (.tmp 86) 29 (by rfl) B 3 i0 (.int .i64 0) 1 8 Try.underlying29 hi hz0 hz1 hz2 (by rfl) (by decide) v1 (0 + at') (ints [] ++ ints (m.take at')) ?_ ?_ ⟨B, 0, none⟩ 1 1 [.int .i64 0] ?_ (by rfl) ?_ (by intro u hu; simp at hu; subst hu; rfl) ?_ ?_ ?_ ?_; (simp [Act.eval, Act.put]); (with_reducible exact own1); (simp [Act.eval, Act.put]); (with_reducible exact (news_one cz3)); (unfold maxLen; omega); omega; (have := E1.size; simp; omega); intro v2 w7 own2 gr2; have E2 := grown_up E1 (by omega) own1 gr2; clear gr2)
                | (refine step_own (by rfl) (.tmp 87) (.tmp 90) 29 (by rfl) B 3 i0 (.int .i64 0) 1 8 Try.underlying29 hi hz0 hz1 hz2 (by rfl) (by decide) v2 (0 + at' + 1) (ints [] ++ ints (m.take at') ++ [.int .i64 0]) ?_ ?_ ad 0 0 (ints (m.drop at')) ?_ HD0.out ?_ (ints_one _) ?_ ?_ ?_ ?_; (simp [Act.eval, Act.put]); (with_reducible exact own2); (simp [Act.eval, Act.put]); (with_reducible exact (HNW.out _)); (unfold maxLen; omega); omega; (have := E2.size; omega); intro v3 w8 own3 gr3; have E3 := grown_up E2 (by omega) own2 gr3; obtain ⟨ao7, cap7, hv7, hn7, hr7⟩ := row_of_owns (l := mm) (by rw [← HMM.out]; simpa [ints] using own3); rw [HML.out] at hv7; subst hv7; clear gr3 own3)
                | (go_simp; go_at_call 20; (with_reducible refine (apportion_any T ao7 cap7 (at' + 1) mm _ (by omega) HML.out hr7 HMI.out).mono ?_); rintro e w9 ⟨ao8, cap8, rfl, hn8, hr8, hb8⟩))
              all_goals
                go_wp2_with fail
                go_meet
                exact ⟨ao8, cap8, rfl, rfl, hn8, hr8, by rw [HBE.out]; exact bch E3 hb8 (by have := E3.size; omega)⟩
            · have hac2 : at' ≤ cap := by omega
              have hca : ¬ cap = at' := fun h => hac h.symm
              have Y1 := Lib.hid (fun X (h : Below B wk X) => Row.take (Row.laterC HRC.out h HBE.out) at')
              have Y2 := Lib.hid (fun X (h : Below B wk X) => Row.drop (Row.laterC HRC.out h HBE.out) at')
              go_region_law (first
                | (refine step_own (by rfl) (.tmp 81) (.tmp 84) 29 (by rfl) B 3 i0 (.int .i64 0) 1 8 Try.underlying29 hi hz0 hz1 hz2 (by rfl) (by decide) (.slice (some ⟨B, 0, none⟩) 0 0) 0 (ints []) ?_ ?_ ad at' cap (ints (m.take at')) ?_ HTL.out ?_ (ints_one _) ?_ ?_ ?_ ?_; (simp [Act.eval, Act.put]); (with_reducible exact O1.out); (simp [Act.eval, Act.put]); (with_reducible exact (Y1.out _ X1.out).news); (unfold maxLen; omega); omega; (simp; omega); intro v1 w6 own1 gr1; have E1 := grown_up X1.out (by omega) O1.out gr1; clear gr1)
                | (refine step_own (by rfl) (.tmp 81) (.tmp 84) 29 (by rfl) B 3 i0 (.int .i64 0) 1 8 Try.underlying29 hi hz0 hz1 hz2 (by rfl) (by decide) (.slice (some ⟨B, 0, none⟩) 0 0) 0 (ints []) ?_ ?_ ad at' cap (ints (m.take at')) ?_ HTL.out ?_ (ints_one _) ?_ ?_ ?_ ?_; (simp [Act.eval, Act.put]); (with_reducible exact O2.out); (simp [Act.eval, Act.put]); (with_reducible exact (Y1.out _ X2.out).news); (unfold maxLen; omega); omega; (simp; omega); intro v1 w6 own1 gr1; have E1 := grown_up X2.out (by omega) O2.out gr1; have cz2 := cell_keep gr1 Z2.out (by simp [Value.ownBlock]); clear gr1)
                | (refine step_own (by rfl) (.tmp 81) (.tmp 84) 29 (by rfl) B 3 i0 (.int .i64 0) 1 8 Try.underlying29 hi hz0 hz1 hz2 (by rfl) (by decide) (.slice (some ⟨B + 1, 0, none⟩) 0 0) 0 (ints []) ?_ ?_ ad at' cap (ints (m.take at')) ?_ HTL.out ?_ (ints_one _) ?_ ?_ ?_ ?_; (simp [Act.eval, Act.put]); (with_reducible exact O3.out); (simp [Act.eval, Act.put]); (with_reducible exact (Y1.out _ X3.out).news); (unfold maxLen; omega); omega; (simp; omega); intro v1 w6 own1 gr1; have E1 := grown_up X3.out (by omega) O3.out gr1; have cz3 := cell_keep gr1 Z3.out (by simp [Value.ownBlock]); clear gr1)
                | (refine step_own (by rfl) (.tmp 85) (.tmp 86) 29 (by rfl) B 3 i0 (.int .i64 0) 1 8 Try.underlying29 hi hz0 hz1 hz2 (by rfl) (by decide) v1 (0 + at') (ints [] ++ ints (m.take at')) ?_ ?_ ⟨w6.heap.size, 0, none⟩ 1 1 [.int .i64 0] ?_ (by rfl) ?_ (by intro u hu; simp at hu; subst hu; rfl) ?_ ?_ ?_ ?_; (simp [Act.eval, Act.put]); (with_reducible exact (own1.alloc _)); (simp [Act.eval, Act.put]); (with_reducible exact (cell_one_new _ _ _)); (unfold maxLen; omega); omega; (have := E1.size; simp; omega); intro v2 w7 own2 gr2; have E2 := grown_up (E1.alloc (by have := E1.size; omega) _) (by omega) (own1.alloc _) gr2; clear gr2)
                | (refine step_own (by rfl) (.tmp 85) (.tmp 86) 29 (by rfl) B 3 i0 (.int .i64 0) 1 8 Try.underlying29 hi hz0 hz1 hz2 (by rfl) (by decide) v1 (0 + at') (ints [] ++ ints (m.take at')) ?_ ?_ ⟨B + 1, 0, none⟩ 1 1 [.int .i64 0] ?_ (by rfl) ?_ (by intro u hu; simp at hu; subst hu; rfl) ?_ ?_ ?_ ?_; (simp [Act.eval, Act.put]); (with_reducible exact own1); (simp [Act.eval, Act.put]); (with_reducible exact (news_one cz2)); (unfold maxLen; omega); omega; (have := E1.size; simp; omega); intro v2 w7 own2 gr2; have E2 := grown_up E1 (by omega) own1 gr2; clear gr2)
                | (refine step_own (by rfl) (.tmp 85) (.tmp 86) 29 (by rfl) B 3 i0 (.int .i64 0) 1 8 Try.underlying29 hi hz0 hz1 hz2 (by rfl) (by decide) v1 (0 + at') (ints [] ++ ints (m.take at')) ?_ ?_ ⟨B, 0, none⟩ 1 1 [.int .i64 0] ?_ (by rfl) ?_ (by intro u hu; simp at hu; subst hu; rfl) ?_ ?_ ?_ ?_; (simp [Act.eval, Act.put]); (with_reducible exact own1); (simp [Act.eval, Act.put]); (with_reducible exact (news_one cz3)); (unfold maxLen; omega); omega; (have := E1.size; simp; omega); intro v2 w7 own2 gr2; have E2 := grown_up E1 (by omega) own1 gr2; clear gr2)
                | (refine step_own (by rfl) (.tmp 87) (.tmp 90) 29 (by rfl) B 3 i0 (.int .i64 0) 1 8 Try.underlying29 hi hz0 hz1 hz2 (by rfl) (by decide) v2 (0 + at' + 1) (ints [] ++ ints (m.take at') ++ [.int .i64 0]) ?_ ?_ (ad.add at') (n - at') (cap - at') (ints (m.drop at')) ?_ HDL.out ?_ (ints_one _) ?_ ?_ ?_ ?_; (simp [Act.eval, Act.put]); (with_reducible exact own2); (simp [Act.eval, Act.put, hca]); (with_reducible exact (Y2.out _ E2).news); (unfold maxLen; omega); omega; (have := E2.size; omega); intro v3 w8 own3 gr3; have E3 := grown_up E2 (by omega) own2 gr3; obtain ⟨ao7, cap7, hv7, hn7, hr7⟩ := row_of_owns (l := mm) (by rw [← HMM.out]; simpa [ints] using own3); rw [HML.out] at hv7; subst hv7; clear gr3 own3)
                | (go_simp; go_at_call 20; (with_reducible refine (apportion_any T ao7 cap7 (n + 1) mm _ (by omega) HML.out hr7 HMI.out).mono ?_); rintro e w9 ⟨ao8, cap8, rfl, hn8, hr8, hb8⟩))
              all_goals
                go_wp2_with fail
                go_meet
                exact ⟨ao8, cap8, rfl, rfl, hn8, hr8, by rw [HBE.out]; exact bch E3 hb8 (by have := E3.size; omega)⟩
        case rest =>
          obtain ⟨ao8, cap8, rfl, rfl, ⟨hnil8, hcap8⟩, hr8, hb8⟩ := hcut
          have HBALL := Lib.hid (bch (bch (bch HBW.out HB5.out HBW.out.size) HWC.out (Nat.le_trans HBW.out.size HB5.out.size)) hb8 (Nat.le_trans (Nat.le_trans HBW.out.size HB5.out.size) HWC.out.size))
          have HR5C := Lib.hid ((HR5.out.later HWC.out).later hb8)
          have hia := ins_ap (T := T) (m := m) at' HM.out (by rw [HS.out]; omega) hT
          rw [HMM.out] at hia
          clear hb8 hB O1 O2 O3 X1 X2 X3 Z2 Z3 HBE
          rcases hap : apB T m with _ | _
          · rw [hap] at hia
            rw [hia]
            clear hia hap hr8
            go_wp2_with fail
            go_ret
            exact ⟨rfl, HBALL.out⟩
          · rw [hap] at hia
            obtain ⟨p1, p2, p3, p4⟩ := ins_parts (T := T) (m := m) (k := at') (by rw [HN.out]; exact hat) hap (by rw [HMM.out]; exact hia)
            rw [HMM.out] at p2 p3 p4
            rw [HN.out] at p1 p2
            rw [hia, p1, p2]
            rw [p2] at hcap8
            have HSM2 := fun ao7 cap7 W h1 h2 => same_any ao7 ao5 cap7 cap5 (apV T m) (apV T m) n n W p1 p1 (by omega) h1 h2
            rw [decide_eq_true (show apV T m = apV T m from rfl)] at HSM2
            have HSM2 := Lib.hid HSM2
            obtain ⟨pm, hpm⟩ : ∃ pm, apV T mm = pm := ⟨_, rfl⟩
            rw [hpm] at p2 p3 p4 hr8
            have HR8 := Lib.hid hr8
            obtain ⟨b8, off8, rfl, hbl8, hc8⟩ := hr8 at' (by rw [p2]; omega)
            rw [p3] at hc8
            have HRE := Lib.hid p4
            have HPL2 := Lib.hid p1
            have HT8 := Lib.hid (show (ints (pm.take at')).length = at' * 1 by simp [ints, p2]; omega)
            have HD8 := Lib.hid (show (ints (pm.drop (at' + 1))).length = (n + 1 - (at' + 1)) * 1 by simp [ints, p2])
            clear hpm p1 p2 p3 p4 hr8 hnil8 hia hap HPL
            obtain ⟨B2, hB2⟩ : ∃ B2, wc.heap.size = B2 := ⟨_, rfl⟩
            have HB2E := Lib.hid hB2
            have oo := (owns_empty' wc B2 (by omega)).drew
            rw [hB2] at oo
            have OO := Lib.hid oo
            have XX := Lib.hid (((Below.refl B2 wc).alloc (by omega) (.cells #[] 3)).drew)
            have Y1 := Lib.hid (fun X (h : Below B2 wc X) => Row.take (Row.laterC HR8.out h HB2E.out) at')
            have Y2 := fun X (h : Below B2 wc X) => Row.drop (Row.laterC HR8.out h HB2E.out) (at' + 1)
            rw [show ((⟨b8, off8, none⟩ : Addr).add (at' + 1)) = ⟨b8, off8 + (at' + 1), none⟩ by unfold Addr.add; split <;> simp_all] at Y2
            have Y2 := Lib.hid Y2
            have q1 : (((n + 1 : Nat) : Int) != (n : Int) + 1) = false := by simp
            have q2 : ((n : Int) + 1 != (n : Int) + 1) = false := by simp
            have q3 : ((n : Int) != (n : Int)) = false := by simp
            have q4 : (n != n) = false := by simp
            have q5 : (n + 1 != n + 1) = false := by simp
            have ac8 : at' ≤ cap8 := by omega
            have ac9 : at' + 1 ≤ cap8 := by omega
            have ac7 : at' < n + 1 := by omega
            have j0 : (0 : Int) ≤ (at' : Int) := by omega
            have j1 : (at' : Int) ≤ (cap8 : Int) := by omega
            have j2 : IntKind.i64.wrap ((at' : Int) + 1) = (at' : Int) + 1 := IntWalk.i64_in _ (by omega)
            have j3 : (0 : Int) ≤ (at' : Int) + 1 := by omega
            have j4 : ((at' : Int) + 1).toNat = at' + 1 := by omega
            have j5 : (at' : Int) + 1 ≤ (n : Int) + 1 := by omega
            have j6 : (at' : Int) + 1 ≤ (cap8 : Int) := by omega
            have j7 : at' + 1 ≤ n + 1 := by omega
            clear oo
            by_cases hcc' : cap8 = at' + 1
            · subst hcc'
              obtain rfl : at' = n := by omega
              have u1 : (at' : Int) ≤ (at' : Int) + 1 := by omega
              have u2 : at' ≤ at' + 1 := by omega
              have HD9 := Lib.hid (show (ints (pm.drop (at' + 1))).length = 0 * 1 by rw [HD8.out]; omega)
              have HNW2 := Lib.hid (fun (X : World) (j : Nat) (u : Value) (h : (ints (pm.drop (at' + 1)))[j]? = some u) => show X.cell? ((⟨b8, off8, none⟩ : Addr).add j) = some u by rw [List.eq_nil_of_length_eq_zero HD9.out] at h; simp at h)
              go_wp2_with fail
              go_region_held3 (fun w' => Below B2 wc w' ∧ B2 ≤ w'.heap.size) (first | (exact ⟨below_drewN E3 n9, Nat.le_trans (by omega) (below_drewN E3 n9).size⟩) | (exact ⟨E3, Nat.le_trans (by omega) E3.size⟩) | (exact ⟨E1, Nat.le_trans (by omega) E1.size⟩) | (exact ⟨XX.out, by simp; omega⟩) | (exact ⟨(Below.refl _ _).drew, by show B2 ≤ wc.heap.size; omega⟩))
                (first
                  | (refine step_own (by rfl) (.tmp 128) (.tmp 131) 29 (by rfl) B2 3 i0 (.int .i64 0) 1 8 Try.underlying29 hi hz0 hz1 hz2 (by rfl) (by decide) (.slice (some ⟨B2, 0, none⟩) 0 0) 0 (ints []) ?_ ?_ ⟨b8, off8, none⟩ at' (at' + 1) (ints (pm.take at')) ?_ HT8.out ?_ (ints_one _) ?_ ?_ ?_ ?_; (simp [Act.eval, Act.put]); (with_reducible exact OO.out); (simp [Act.eval, Act.put]); (with_reducible exact (Y1.out _ XX.out).news); (unfold maxLen; omega); omega; (simp; omega); intro v1 w6 own1 gr1; have E1 := grown_up XX.out (by omega) OO.out gr1; clear gr1)
                  | (refine step_own (by rfl) (.tmp 132) (.tmp 136) 29 (by rfl) B2 3 i0 (.int .i64 0) 1 8 Try.underlying29 hi hz0 hz1 hz2 (by rfl) (by decide) v1 (0 + at') (ints [] ++ ints (pm.take at')) ?_ ?_ ⟨b8, off8, none⟩ 0 0 (ints (pm.drop (at' + 1))) ?_ HD9.out ?_ (ints_one _) ?_ ?_ ?_ ?_; (simp [Act.eval, Act.put]); (with_reducible exact own1); (simp [Act.eval, Act.put]); (with_reducible exact (HNW2.out _)); (unfold maxLen; omega); omega; (have := E1.size; omega); intro v3 w8 own3 gr3; have E3 := grown_up E1 (by omega) own1 gr3; obtain ⟨ao7, cap7, hv7, hn7, hr7⟩ := row_of_owns (l := pm.take at' ++ pm.drop (at' + 1)) (by simpa [ints] using own3); rw [HRE.out, HPL2.out] at hv7; rw [HRE.out] at hr7; subst hv7; clear gr3 own3)
                  | (go_simp; go_at_call 22; (with_reducible refine (HSM2.out ao7 cap7 _ hr7 (HR5C.out.laterC E3 HB2E.out)).mono ?_); rintro e w9 ⟨rfl, n9, rfl⟩))
              all_goals
                go_wp2_with fail
                go_ret
                exact ⟨rfl, below_drewN (bch HBALL.out E3 (by rw [← HB2E.out]; exact HBALL.out.size)) n9⟩
            · have hcc : ¬ cap8 = at' + 1 := hcc'
              clear hcc'
              go_wp2_with fail
              go_region_held3 (fun w' => Below B2 wc w' ∧ B2 ≤ w'.heap.size) (first | (exact ⟨below_drewN E3 n9, Nat.le_trans (by omega) (below_drewN E3 n9).size⟩) | (exact ⟨E3, Nat.le_trans (by omega) E3.size⟩) | (exact ⟨E1, Nat.le_trans (by omega) E1.size⟩) | (exact ⟨XX.out, by simp; omega⟩) | (exact ⟨(Below.refl _ _).drew, by show B2 ≤ wc.heap.size; omega⟩))
                (first
                  | (refine step_own (by rfl) (.tmp 128) (.tmp 131) 29 (by rfl) B2 3 i0 (.int .i64 0) 1 8 Try.underlying29 hi hz0 hz1 hz2 (by rfl) (by decide) (.slice (some ⟨B2, 0, none⟩) 0 0) 0 (ints []) ?_ ?_ ⟨b8, off8, none⟩ at' cap8 (ints (pm.take at')) ?_ HT8.out ?_ (ints_one _) ?_ ?_ ?_ ?_; (simp [Act.eval, Act.put]); (with_reducible exact OO.out); (simp [Act.eval, Act.put]); (with_reducible exact (Y1.out _ XX.out).news); (unfold maxLen; omega); omega; (simp; omega); intro v1 w6 own1 gr1; have E1 := grown_up XX.out (by omega) OO.out gr1; clear gr1)
                  | (refine step_own (by rfl) (.tmp 132) (.tmp 136) 29 (by rfl) B2 3 i0 (.int .i64 0) 1 8 Try.underlying29 hi hz0 hz1 hz2 (by rfl) (by decide) v1 (0 + at') (ints [] ++ ints (pm.take at')) ?_ ?_ ⟨b8, off8 + (at' + 1), none⟩ (n + 1 - (at' + 1)) (cap8 - (at' + 1)) (ints (pm.drop (at' + 1))) ?_ HD8.out ?_ (ints_one _) ?_ ?_ ?_ ?_; (simp [Act.eval, Act.put]); (with_reducible exact own1); (simp [Act.eval, Act.put, hcc]); (with_reducible exact (Y2.out _ E1).news); (unfold maxLen; omega); omega; (have := E1.size; omega); intro v3 w8 own3 gr3; have E3 := grown_up E1 (by omega) own1 gr3; obtain ⟨ao7, cap7, hv7, hn7, hr7⟩ := row_of_owns (l := pm.take at' ++ pm.drop (at' + 1)) (by simpa [ints] using own3); rw [HRE.out, HPL2.out] at hv7; rw [HRE.out] at hr7; subst hv7; clear gr3 own3)
                  | (go_simp; go_at_call 22; (with_reducible refine (HSM2.out ao7 cap7 _ hr7 (HR5C.out.laterC E3 HB2E.out)).mono ?_); rintro e w9 ⟨rfl, n9, rfl⟩))
              all_goals
                go_wp2_with fail
                go_ret
                exact ⟨rfl, below_drewN (bch HBALL.out E3 (by rw [← HB2E.out]; exact HBALL.out.size)) n9⟩

theorem walk (a0 : Int) (a1 : Option Addr) (len1 cap1 : Nat) (z1 : List Int) (a2 : Int) (a3 : Int) (w : World) (w0 : (Lit.int .i64 a0).wf = true) (w1 : IsRow .i64 w a1 len1 cap1 z1) (w2 : (Lit.int .i64 a2).wf = true) (w3 : (Lit.int .i64 a3).wf = true) :
    Calls Try.prog 9 #[.int .i64 a0, .slice a1 len1 cap1, .int .i64 a2, .int .i64 a3] w fun e w' => e = .returned (.bool true) ∧ Below w.heap.size w w' := by
  have b0 := wfb w0
  have b2 := wfb w2
  have b3 := wfb w3
  obtain ⟨l, hl, hcap, hn, hnil, hr, h64⟩ := w1.row
  have l0 := pickZ_lo a0 1000000000000001 (by omega)
  have m0 := pickZ_hi a0 1000000000000001 (by omega)
  have l2 := pickZ_lo a2 60 (by omega)
  have m2 := pickZ_hi a2 60 (by omega)
  have hwl : (wts l).length ≤ 40 := by rw [wts_length]; omega
  have l3 := pickZ_lo a3 (((wts l).length : Int) + 1) (by omega)
  have m3 := pickZ_hi a3 (((wts l).length : Int) + 1) (by omega)
  have P0 := fun w => pick_any a0 1000000000000001 w b0.1 b0.2 (by omega) (by omega)
  have P2 := fun w => pick_any a2 60 w b2.1 b2.2 (by omega) (by omega)
  have P3 := fun w => pick_any a3 (((wts l).length : Int) + 1) w b3.1 b3.2 (by omega) (by omega)
  obtain ⟨T, hT⟩ := Int.eq_ofNat_of_zero_le l0
  obtain ⟨k, hk⟩ := Int.eq_ofNat_of_zero_le l3
  rw [hT] at P0 m0
  rw [hk] at P3 m3
  exact core a0 a2 a3 _ a1 len1 cap1 T k (wts l) w (by omega) _ rfl hwl (by omega) l2 (by omega) (Lib.hid P0) (Lib.hid P2) (Lib.hid P3) (wts_bd l) (fun W hb => weights_any a1 cap1 len1 l W hn hl (hr.later hb) h64)

end Go.Proofs.Ytbefbodihfijbaa.amountScaled
