/-
  The walk of the law AllocateAlone: it returns true.
-/
import Derived.Test.YtbkmcncakpmgkaaAlA
import Derived.Deep.QuietTactic
import Derived.BigQuiet
import Derived.IntWalk
namespace Go.Proofs.Ytbkmcncakpmgkaa.allocateAlone
set_option linter.unusedVariables false
open Go.ChangeShapes Go.WideShapes Go.ChangeAt Go.RowKit Go.Proofs.Ytbkmcncakpmgkaa

theorem rowK_one {w : World} {b off : Nat} {l : List (Int × Int)} (h : RowK 2 encS w (some ⟨b, off, none⟩) l) {i : Nat} (hi : i < l.length) : RowK 2 encS w (some ⟨b, off + i * 2, none⟩) [l[i]] := by
  intro j x hx
  obtain ⟨b', off', e, hb, hc⟩ := h i l[i] (List.getElem?_eq_getElem hi)
  cases e
  match j, hx with
  | 0, hx =>
    simp at hx; subst hx
    exact ⟨b, off + i * 2, rfl, hb, fun j v hv => by simpa using hc j v hv⟩
  | j + 1, hx => simp at hx

theorem pay_calls2 (ao : Option Addr) (cap m : Nat) (l : List (Int × Int)) (hm : m ≤ 9223372036854775807) (hl : l.length = m) (hw : ∀ s ∈ l, (Lit.int .i64 s.1).wf = true ∧ (Lit.int .i64 s.2).wf = true) :
    ∃ (p : List (Int × Int)) (n : Nat), p.length = n ∧ n ≤ 12 ∧ S64 p ∧ AmtLe 100000000000 p ∧ (∀ s ∈ p, soundB s = true) ∧ ∀ W, RowK 2 encS W ao l → Calls Try.prog 11 #[.slice ao m cap] W fun e w' => ∃ uo uc, e = .returned (.slice uo n uc) ∧ n ≤ uc ∧ RowK 2 encS w' uo p ∧ Below W.heap.size W w' :=
  ⟨payL l, _, rfl, pay_len _, (pay_bd l).2, (pay_bd l).1, pay_sound l, fun W hr => (payments_any ao cap m l W hm hl hr hw).mono fun e w' ⟨uo, uc, h1, h2, h3, h4⟩ => ⟨uo, uc, h1, h2.2, h3, h4⟩⟩

/-- UserCentric, with the result's length named -/
theorem user_c {us : List Us} {m : Nat} {q : List (Int × Int)} {nq : Nat} (hl : us.length = m) (hm : m ≤ 40) (hU : U64 us) (hq : q.length = nq) (hnq : nq ≤ 12) (hS : S64 q) (A : List (Int × Int)) (na : Nat) (r : Int) (hA : sumA us q = A) (hn : A.length = na) (hr : (userA us q).2 = r)
    (W : World) (po : Option Addr) (pc : Nat) (uo : Option Addr) (uc : Nat) (hrp : RowK 2 encS W po q) (hru : RowK 4 encU W uo us) :
    Calls Try.prog 12 #[.slice po nq pc, .slice uo m uc] W fun e w' => ∃ ao ac, e = .returned (.tuple #[.slice ao na ac, .int .i64 r]) ∧ RowK 2 encS w' ao A ∧ Below W.heap.size W w' := by
  subst hA hn hr
  exact (user_any po uo pc uc nq m q us W (by omega) (by omega) hq hl hrp hru hS hU).mono fun e w' ⟨ao, ac, h1, _, h3, h4⟩ => ⟨ao, ac, h1, h3, h4⟩

theorem any_take {α : Type} (f : α → Bool) (l : List α) (k : Nat) (h : k < l.length) : (l.take (k + 1)).any f = ((l.take k).any f || f l[k]) := by
  rw [List.take_succ_eq_append_getElem h, List.any_append]; simp

def SumAt (us : List Us) (q : List (Int × Int)) (wr : World) (sv : Value) : Prop := ∃ so sc, sv = .slice so (sumA us q).length sc ∧ RowK 2 encS wr so (sumA us q)

set_option maxRecDepth 100000 in
set_option maxHeartbeats 4000000 in
theorem walk (a0 : Option Addr) (len0 cap0 : Nat) (a1 : Option Addr) (len1 cap1 : Nat) (k : Int) (W : World) (h0 : IsRowK 4 W a0 len0 cap0) (h1 : IsRowK 2 W a1 len1 cap1) (h2 : (Lit.int .i64 k).wf = true) :
    Calls Try.prog 6 #[.slice a0 len0 cap0, .slice a1 len1 cap1, .int .i64 k] W fun e W' => e = .returned (.bool true) ∧ Below W.heap.size W W' := by
  obtain ⟨i0, hi, hz0, hz1, hz2⟩ := info_parts Try.infoU
  obtain ⟨l, hl, hr, hw, _, hm, _⟩ := h0.usages
  obtain ⟨l', hl', hr', hw', _, hm', _⟩ := h1.shares
  obtain ⟨us, n, hus, hn, hn40, hU, few⟩ := few_calls a0 cap0 len0 l hm hl hw
  have hs : SmallU us := by rw [hus]; exact few_small l
  obtain ⟨p, np, hnp, hnp12, hS, hA, hsnd, pay⟩ := pay_calls2 a1 cap1 len1 l' hm' hl' hw'
  obtain ⟨A, hAe⟩ : ∃ A, sumA us p = A := ⟨_, rfl⟩
  obtain ⟨na, hna⟩ : ∃ na, A.length = na := ⟨_, rfl⟩
  obtain ⟨R, hR⟩ : ∃ R, (userA us p).2 = R := ⟨_, rfl⟩
  have HALL := Lib.hid (fun W po pc uo uc hrp hru => user_c hn hn40 hU hnp hnp12 hS A na R hAe hna hR W po pc uo uc hrp hru)
  have HS := Lib.hid hs
  have HU := Lib.hid hU
  have HN := Lib.hid hn
  have HNP := Lib.hid hnp
  have HSP := Lib.hid hS
  have HA := Lib.hid hA
  have HSN := Lib.hid hsnd
  have HAE := Lib.hid hAe
  have HNA := Lib.hid hna
  have HRE := Lib.hid hR
  have HR0 := Lib.hid hr
  have HR1 := Lib.hid hr'
  have HFEW := Lib.hid few
  have HPAY := Lib.hid pay
  clear hl hr hw hl' hr' hw' hus hs hn hnp few pay hAe hna hR h0 h1 h2 hA hsnd hS hU
  go_enter Try.func6, Try.ntmps6
  go_wp2_with fail
  refine (sane_any _).mono ?_
  rintro e w1 ⟨rfl, hb1⟩
  have BW1 := Lib.hid hb1
  clear hb1
  go_wp2_with fail
  refine (HFEW.out _ (HR0.out.later BW1.out)).mono ?_
  rintro e w2 ⟨uo, uc, rfl, hr2, hb2⟩
  have RU2 := Lib.hid hr2
  have BW2 := Lib.hid (bch BW1.out hb2 BW1.out.size)
  clear hr2 hb2
  go_wp2_with fail
  refine (HPAY.out _ (HR1.out.later BW2.out)).mono ?_
  rintro e w3 ⟨po, pc, rfl, hpc, hr3, hb3⟩
  have RP3 := Lib.hid hr3
  have RU3 := Lib.hid (RU2.out.later hb3)
  have BW3 := Lib.hid (bch BW2.out hb3 BW2.out.size)
  clear hr3 hb3
  go_wp2_with fail
  refine (HALL.out _ _ _ _ _ RP3.out RU3.out).mono ?_
  rintro e w4 ⟨ao, ac, rfl, hr4, hb4⟩
  have RA4 := Lib.hid hr4
  have RP4 := Lib.hid (RP3.out.later hb4)
  have RU4 := Lib.hid (RU3.out.later hb4)
  have BW4 := Lib.hid (bch BW3.out hb4 BW3.out.size)
  clear hr4 hb4
  go_wp2
  go_loopw [12, 13, 14] (fun sv lv iv wr => ∃ i : Nat, i ≤ np ∧ iv = .int .i64 i ∧ lv = .int .i64 (userA us (p.take i)).2 ∧ SumAt us (p.take i) wr sv ∧ Below w4.heap.size w4 wr) (fun _ _ i _ => np - (intOf i).toNat)
  case atStart => exact ⟨0, Nat.zero_le _, rfl, rfl, ⟨none, 0, rfl, RowK.nil _ _ _ _⟩, Below.refl _ _⟩
  case round =>
    obtain ⟨i, hip, rfl, rfl, ⟨so, sc, rfl, hso⟩, hb⟩ := hrel
    have HB := Lib.hid hb
    have RS := Lib.hid hso
    clear hb hso
    have hnpl : p.length = np := HNP.out
    have bd1 := sumA_bd us (by rw [HN.out]; exact hn40) HS.out (l := p.take i) (by rw [List.length_take]; omega) (fun s h => HA.out s (List.mem_of_mem_take h)) (fun s h => HSN.out s (List.mem_of_mem_take h))
    have HSI := Lib.hid bd1.2.2.1
    have hsl := bd1.2.2.2.1
    have hl1 := bd1.2.2.2.2
    clear bd1
    by_cases hlt : i < np
    · have hil : i < p.length := by omega
      have hs12 := sumA_step us (by rw [HN.out]; exact hn40) HS.out (l := p) (by omega) HA.out HSN.out i hil
      have bd2 := sumA_bd us (by rw [HN.out]; exact hn40) HS.out (l := [p[i]]) (by simp) (fun s h => by simp at h; subst h; exact HA.out _ (List.getElem_mem _)) (fun s h => by simp at h; subst h; exact HSN.out _ (List.getElem_mem _))
      obtain ⟨sb, soff, rfl, hsb, c0, c1⟩ := RP4.out.share hil
      have R1 := Lib.hid (rowK_one RP4.out hil)
      have hS1 : S64 [p[i]] := fun s h => by simp at h; subst h; exact HSP.out _ (List.getElem_mem _)
      have hkeys := userA_keys (ownL p[i].1 us) [p[i]]
      have howu := own_user us p[i]
      obtain ⟨s, hse⟩ : ∃ s, p[i] = s := ⟨_, rfl⟩
      rw [hse] at hs12 bd2 c0 R1 hS1 hkeys howu
      obtain ⟨B, hBe⟩ : ∃ B, sumA us [s] = B := ⟨_, rfl⟩
      obtain ⟨nb, hnb⟩ : ∃ nb, B.length = nb := ⟨_, rfl⟩
      obtain ⟨r, hre⟩ : ∃ r, (userA us [s]).2 = r := ⟨_, rfl⟩
      have hBo : sumA (ownL s.1 us) [s] = B := by unfold sumA at hBe ⊢; rw [howu]; exact hBe
      have hro : (userA (ownL s.1 us) [s]).2 = r := by rw [howu]; exact hre
      have HC1 := Lib.hid (fun W pc' uo uc hrp hru => user_c HN.out hn40 HU.out (q := [s]) (nq := 1) rfl (by omega) hS1 B nb r hBe hnb hre W (some ⟨sb, soff + i * 2, none⟩) pc' uo uc hrp hru)
      have hoU : U64 (ownL s.1 us) := fun u hu => HU.out u (List.mem_filter.1 hu).1
      have hol : (ownL s.1 us).length ≤ n := by rw [← HN.out]; exact List.length_filter_le _ _
      have HC2 := Lib.hid (fun W mo (hmo : (ownL s.1 us).length = mo) pc' uo uc hrp hru => user_c hmo (by omega) hoU (q := [s]) (nq := 1) rfl (by omega) hS1 B nb r hBo hnb hro W (some ⟨sb, soff + i * 2, none⟩) pc' uo uc hrp hru)
      have hkeys2 : ∀ q ∈ B, ∃ u ∈ ownL s.1 us, u.rcd = q.1 := by rw [← hBo]; exact hkeys
      rw [hBe, hre] at hs12
      rw [hBe, hre] at bd2
      obtain ⟨S, hSe⟩ : ∃ S, sumA us (p.take i) = S := ⟨_, rfl⟩
      obtain ⟨ns, hns⟩ : ∃ ns, S.length = ns := ⟨_, rfl⟩
      obtain ⟨lf, hlf⟩ : ∃ lf, (userA us (p.take i)).2 = lf := ⟨_, rfl⟩
      rw [hSe] at RS HSI hsl hs12 ⊢
      rw [hlf] at hl1 hs12 ⊢
      rw [hns] at hsl ⊢
      have HST := Lib.hid hs12
      have HKEY := Lib.hid hkeys2
      have HSB := Lib.hid bd2.2.2.1
      have hnb1 : nb ≤ 1000 := by rw [← hnb]; exact bd2.2.2.2.1
      have hr1 := bd2.2.2.2.2
      have HNB := Lib.hid hnb
      have HNS := Lib.hid hns
      obtain ⟨sa, sm⟩ := s
      dsimp only at c0 HC2 HKEY hol
      have HOL := Lib.hid hol
      have hi0 : (0 : Int) ≤ (i : Int) := by omega
      have hi1 : (i : Int) < (np : Int) := by omega
      have CS := Lib.hid c0
      have hbs := hsb
      clear hs12 bd2 c0 c1 hS1 hkeys howu hse hBe hnb hre hBo hro hoU hkeys2 hSe hns hlf hil hnpl
      have RU4' := Lib.hid (RU4.out.later HB.out)
      have R1' := Lib.hid (R1.out.later HB.out)
      have hw1 : IntKind.i64.wrap ((i : Int) + 1) = (i : Int) + 1 := IntWalk.i64_in _ (by omega)
      go_wp2_with fail
      refine (HC1.out _ _ _ _ R1'.out RU4'.out).mono ?_
      rintro e w5 ⟨bo, bc, rfl, hr5, hb5⟩
      have RB5 := Lib.hid hr5
      have RS5 := Lib.hid (RS.out.later hb5)
      have RU5 := Lib.hid (RU4'.out.later hb5)
      have R15 := Lib.hid (R1'.out.later hb5)
      have HB5 := Lib.hid (bch HB.out hb5 HB.out.size)
      have hsb5 : sb < w5.heap.size := Nat.lt_of_lt_of_le hsb HB5.out.size
      have CS5 := Lib.hid (show w5.cell? ⟨sb, soff + i * 2, none⟩ = some (.int .i64 sa) by rw [HB5.out.cell (p := ⟨sb, soff + i * 2, none⟩) hsb]; exact CS.out)
      clear hr5 hb5
      go_wp2
      go_loopw [17, 18] (fun v k wr' => ∃ j : Nat, j ≤ n ∧ k = .int .i64 j ∧ wr'.ownsRow w5.heap.size 42 4 v (ownL sa (us.take j)).length ((ownL sa (us.take j)).flatMap encU) ∧ Below w5.heap.size w5 wr') (fun _ k _ => n - (intOf k).toNat)
      case atStart => exact ⟨0, Nat.zero_le _, rfl, World.ownsRow_nil _ _ _ _, Below.refl _ _⟩
      case round =>
        obtain ⟨j, hj, rfl, hown, hbj⟩ := hrel
        have HO := Lib.hid hown
        have HBJ := Lib.hid hbj
        clear hown hbj
        have hlen : (ownL sa (us.take j)).length ≤ j := Nat.le_trans (List.length_filter_le _ _) (by rw [List.length_take]; omega)
        by_cases hltj : j < n
        · have hjl : j < us.length := by rw [HN.out]; exact hltj
          obtain ⟨ub, uoff, rfl, hbl, c0, c1, c2, c3⟩ := RU5.out.usage hjl
          have e0 : wr.cell? ⟨ub, uoff + j * 4, none⟩ = some (.int .i64 us[j].acc) := by rw [HBJ.out.cell (p := ⟨ub, uoff + j * 4, none⟩) hbl]; exact c0
          have e1 : wr.cell? ⟨ub, uoff + j * 4 + 1, none⟩ = some (.int .i64 us[j].rcd) := by rw [HBJ.out.cell (p := ⟨ub, uoff + j * 4 + 1, none⟩) hbl]; exact c1
          have e2 : wr.cell? ⟨ub, uoff + j * 4 + 2, none⟩ = some (.int .i64 us[j].val) := by rw [HBJ.out.cell (p := ⟨ub, uoff + j * 4 + 2, none⟩) hbl]; exact c2
          have e3 : wr.cell? ⟨ub, uoff + j * 4 + 3, none⟩ = some (.int .i64 us[j].held) := by rw [HBJ.out.cell (p := ⟨ub, uoff + j * 4 + 3, none⟩) hbl]; exact c3
          have es : wr.cell? ⟨sb, soff + i * 2, none⟩ = some (.int .i64 sa) := by rw [HBJ.out.cell (p := ⟨sb, soff + i * 2, none⟩) hsb5]; exact CS5.out
          have HY := Lib.hid (fun h => ownL_yes (acc := sa) hjl h)
          have HNO := Lib.hid (fun h => ownL_no (acc := sa) hjl h)
          obtain ⟨u, hu⟩ : ∃ u, us[j] = u := ⟨_, rfl⟩
          rw [hu] at e0 e1 e2 e3 HY HNO
          clear c0 c1 c2 c3 hu
          obtain ⟨ua, ur, uv, uh⟩ := u
          dsimp only at e0 e1 e2 e3 HY HNO
          have hj0 : (0 : Int) ≤ (j : Int) := by omega
          have hj1 : (j : Int) < (n : Int) := by omega
          by_cases cx : ua = sa
          · have HT := Lib.hid (HY.out cx)
            have cx' := cx.symm
            clear cx
            subst cx'
            clear HY HNO
            go_wp2
            go_quiet (fail)
            have HOD := Lib.hid (World.ownsRow.alloc (w := wr.drewN nq) HO.out (.cells #[.int .i64 sa, .int .i64 ur, .int .i64 uv, .int .i64 uh] 42))
            have HBD := Lib.hid ((below_drewN HBJ.out nq).alloc HBJ.out.size (.cells #[.int .i64 sa, .int .i64 ur, .int .i64 uv, .int .i64 uh] 42))
            go_wp2_with (at_builtin; refine wpList_append_own _ rfl (.tmp 68) (.tmp 73) 22 rfl w5.heap.size 42 i0 (.agg #[.int .i64 0, .int .i64 0, .int .i64 0, .int .i64 0]) 4 32 Try.underlying22 hi hz0 hz1 hz2 rfl (by decide) _ _ _ rfl HOD.out ⟨wr.heap.size, 0, none⟩ 1 1 (encU ⟨sa, ur, uv, uh⟩) rfl rfl (cells_at (wr.drewN nq) (encU ⟨sa, ur, uv, uh⟩) _ _ rfl) (encU_one _) (by unfold maxLen; omega) (by omega) (by have := HBD.out.size; exact this) ?_; intro v' w6 own gr _h)
            have RR := Lib.hid (show w6.ownsRow w5.heap.size 42 4 v' (ownL sa (us.take (j + 1))).length ((ownL sa (us.take (j + 1))).flatMap encU) ∧ Below w5.heap.size w5 w6 from ⟨by rw [HT.out, flat_snoc, List.length_append]; exact own, grown_own HBD.out (Nat.le_refl _) HOD.out gr⟩)
            clear own gr _h
            go_wp2
            go_roundw
            case rel => exact ⟨j + 1, by omega, by go_num, RR.out.1, RR.out.2⟩
            case measure => simp [intOf]; omega
          · have HT := Lib.hid (HNO.out cx)
            go_wp2
            go_quiet (fail)
            go_wp2
            go_roundw
            case rel => exact ⟨j + 1, by omega, by go_num, by rw [HT.out]; exact HO.out, below_drewN HBJ.out _⟩
            case measure => simp [intOf]; omega
        · have hjn : us.take j = us := List.take_of_length_le (by rw [HN.out]; omega)
          have ho := HO.out
          rw [hjn] at ho
          obtain ⟨oo, oc, rfl, _, hro⟩ := rowK_of_owns encU_len (by decide) ho
          obtain ⟨own, howe⟩ : ∃ own, ownL sa us = own := ⟨_, rfl⟩
          obtain ⟨mo, hmoe⟩ : ∃ mo, own.length = mo := ⟨_, rfl⟩
          have hc2 := HC2.out
          have hkey := HKEY.out
          have hol := HOL.out
          rw [howe] at hro hc2 hkey hol ⊢
          rw [hmoe] at hol ⊢
          have RO := Lib.hid hro
          have HC3 := Lib.hid (fun W => hc2 W mo hmoe)
          have HKEY2 := Lib.hid hkey
          have HMO := Lib.hid hmoe
          have R1J := Lib.hid (R15.out.later HBJ.out)
          have RBJ := Lib.hid (RB5.out.later HBJ.out)
          have RSJ := Lib.hid (RS5.out.later HBJ.out)
          have HB6 := Lib.hid (bch HB5.out HBJ.out HB5.out.size)
          clear hjn ho hlen HO hro howe hmoe hc2 hkey HKEY HC2 HOL CS5 CS RU5 R15 RB5 RS5 HC1
          obtain ⟨w6, rfl⟩ : ∃ w6, w6 = wr := ⟨_, rfl⟩
          go_wp2_with fail
          refine (HC3.out _ _ _ _ R1J.out RO.out).mono ?_
          rintro e w7 ⟨to, tc, rfl, hr7, hb7⟩
          have RT7 := Lib.hid hr7
          have RB7 := Lib.hid (RBJ.out.later hb7)
          have RS7 := Lib.hid (RSJ.out.later hb7)
          have RO7 := Lib.hid (RO.out.later hb7)
          have HB7 := Lib.hid (bch HB6.out hb7 HB6.out.size)
          clear hr7 hb7
          go_wp2_with fail
          refine (sameS_any bo to bc tc B B nb nb w7 HNB.out HNB.out (by omega) RB7.out RT7.out).mono ?_
          rintro e w8 ⟨rfl, n8, rfl⟩
          have htt : decide (B = B) = true := decide_eq_true rfl
          rw [htt]
          clear htt
          have HB8 := Lib.hid (below_drewN HB7.out n8)
          have RB8 := Lib.hid (RB7.out.later (below_dn w7 n8))
          have RS8 := Lib.hid (RS7.out.later (below_dn w7 n8))
          have RO8 := Lib.hid (RO7.out.later (below_dn w7 n8))
          obtain ⟨w8, hw8⟩ : ∃ w8, w7.drewN n8 = w8 := ⟨_, rfl⟩
          rw [hw8] at HB8 RB8 RS8 RO8 ⊢
          clear hw8
          go_wp2
          go_loopw [21] (fun k wr' => ∃ a : Nat, a ≤ nb ∧ k = .int .i64 a ∧ Below w8.heap.size w8 wr') (fun k _ => nb - (intOf k).toNat)
          case atStart => exact ⟨0, Nat.zero_le _, rfl, Below.refl _ _⟩
          case round =>
            obtain ⟨a, ha, rfl, hba⟩ := hrel
            have HBA := Lib.hid hba
            clear hba
            by_cases hlta : a < nb
            · have hal : a < B.length := by rw [HNB.out]; exact hlta
              obtain ⟨bb, boff, rfl, hbb, d0, d1⟩ := RB8.out.share hal
              have hkk := HKEY2.out B[a] (List.getElem_mem hal)
              obtain ⟨key, hke⟩ : ∃ key, B[a].1 = key := ⟨_, rfl⟩
              rw [hke] at d0 hkk
              have hany : own.any (fun u => u.rcd == key) = true := by
                obtain ⟨u, hu, e⟩ := hkk
                exact List.any_eq_true.2 ⟨u, hu, by simpa using e⟩
              have HANY := Lib.hid hany
              obtain ⟨w9, rfl⟩ : ∃ w9, w9 = wr := ⟨_, rfl⟩
              have hbb9 : bb < w9.heap.size := Nat.lt_of_lt_of_le hbb HBA.out.size
              have CK := Lib.hid (show w9.cell? ⟨bb, boff + a * 2, none⟩ = some (.int .i64 key) by rw [HBA.out.cell (p := ⟨bb, boff + a * 2, none⟩) hbb]; exact d0)
              have RO9 := Lib.hid (RO8.out.later HBA.out)
              have ha0 : (0 : Int) ≤ (a : Int) := by omega
              have ha1 : (a : Int) < (nb : Int) := by omega
              clear d0 d1 hkk hke hany hal
              go_wp2
              go_loopw [22, 23] (fun f c wr' => ∃ b : Nat, b ≤ mo ∧ c = .int .i64 b ∧ f = .bool ((own.take b).any (fun u => u.rcd == key)) ∧ Below w9.heap.size w9 wr') (fun _ c _ => mo - (intOf c).toNat)
              case atStart => exact ⟨0, Nat.zero_le _, rfl, rfl, Below.refl _ _⟩
              case round =>
                obtain ⟨b, hb, rfl, rfl, hbw⟩ := hrel
                have HBW := Lib.hid hbw
                clear hbw
                by_cases hltb : b < mo
                · have hbl : b < own.length := by rw [HMO.out]; exact hltb
                  obtain ⟨ob, ooff, rfl, hob, c0, c1, c2, c3⟩ := RO9.out.usage hbl
                  have e1 : wr.cell? ⟨ob, ooff + b * 4 + 1, none⟩ = some (.int .i64 own[b].rcd) := by rw [HBW.out.cell (p := ⟨ob, ooff + b * 4 + 1, none⟩) hob]; exact c1
                  have ek : wr.cell? ⟨bb, boff + a * 2, none⟩ = some (.int .i64 key) := by rw [HBW.out.cell (p := ⟨bb, boff + a * 2, none⟩) hbb9]; exact CK.out
                  have HF := Lib.hid (any_take (fun u : Us => u.rcd == key) own b hbl)
                  obtain ⟨ur, hur⟩ : ∃ ur, own[b].rcd = ur := ⟨_, rfl⟩
                  rw [hur] at e1 HF
                  obtain ⟨f, hf⟩ : ∃ f, (own.take b).any (fun u => u.rcd == key) = f := ⟨_, rfl⟩
                  rw [hf] at HF ⊢
                  clear c0 c1 c2 c3 hur hf
                  have hb0 : (0 : Int) ≤ (b : Int) := by omega
                  have hb1 : (b : Int) < (mo : Int) := by omega
                  rcases f with _ | _
                  all_goals
                    go_wp2
                    go_quiet (fail)
                    go_wp2
                    go_roundw
                    case rel => exact ⟨b + 1, by omega, by go_num, by rw [HF.out]; simp, below_drewN HBW.out _⟩
                    case measure => simp [intOf]; omega
                · have hbn : own.take b = own := List.take_of_length_le (by rw [HMO.out]; omega)
                  rw [hbn, HANY.out]
                  have HBB := Lib.hid (bch HBA.out HBW.out HBA.out.size)
                  clear hbn
                  go_wp2
                  go_roundw
                  case rel => exact ⟨a + 1, by omega, by go_num, HBB.out⟩
                  case measure => simp [intOf]; omega
            · have RBA := Lib.hid (RB8.out.later HBA.out)
              have RSA := Lib.hid (RS8.out.later HBA.out)
              have HB9 := Lib.hid (bch HB8.out HBA.out HB8.out.size)
              have HM := Lib.hid (fun W h1 h2 => merge_any so bo sc bc ns nb S B W hsl hnb1 HNS.out HNB.out h1 h2 HSI.out HSB.out)
              go_wp2_with fail
              refine (HM.out _ RSA.out RBA.out).mono ?_
              rintro e w10 ⟨mo', mc', rfl, _, hr10, hb10⟩
              have HB10 := Lib.hid (bch HB9.out hb10 HB9.out.size)
              have HSUM := Lib.hid (show SumAt us (p.take (i + 1)) w10 (.slice mo' (tidyL (mergeA (S ++ B))).length mc') by rw [HST.out.1] at hr10 ⊢; exact ⟨mo', mc', rfl, hr10⟩)
              obtain ⟨nz, hnz⟩ : ∃ nz, (tidyL (mergeA (S ++ B))).length = nz := ⟨_, rfl⟩
              rw [hnz] at HSUM ⊢
              clear hr10 hb10 hnz
              go_wp2
              go_roundw
              case rel => exact ⟨i + 1, by omega, by go_num, by rw [HST.out.2], HSUM.out, HB10.out⟩
              case measure => simp [intOf]; omega
    · have hpn : p.take i = p := List.take_of_length_le (by omega)
      rw [hpn, HAE.out] at RS
      rw [hpn, HAE.out, HRE.out, HNA.out]
      rw [hpn, HAE.out, HNA.out] at hsl
      have RAE := Lib.hid (RA4.out.later HB.out)
      have BWE := Lib.hid (bch BW4.out HB.out BW4.out.size)
      have HSM := Lib.hid (sameS_any ao so ac sc A A na na wr HNA.out HNA.out (by omega) RAE.out RS.out |>.mono (R' := fun e w' => e = .returned (.bool true) ∧ ∃ m, w' = wr.drewN m) (by rintro e w' ⟨rfl, h⟩; exact ⟨by simp, h⟩))
      clear hpn HSI hl1 hnpl
      go_wp2_with fail
      refine HSM.out.mono ?_
      rintro e w5 ⟨rfl, n5, rfl⟩
      go_wp2
      go_ret
      exact ⟨rfl, below_drewN BWE.out _⟩

end Go.Proofs.Ytbkmcncakpmgkaa.allocateAlone
