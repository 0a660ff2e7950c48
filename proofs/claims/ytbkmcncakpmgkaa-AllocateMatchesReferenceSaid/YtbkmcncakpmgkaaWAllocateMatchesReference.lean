/-
  The walk of the law AllocateMatchesReference: it returns true.
-/
import Derived.Test.YtbkmcncakpmgkaaAlA
import Derived.Test.YtbkmcncakpmgkaaRUser
import Derived.Deep.QuietTactic
import Derived.BigQuiet
import Derived.IntWalk
namespace Go.Proofs.Ytbkmcncakpmgkaa.allocateMatchesReference
set_option linter.unusedVariables false
open Go.ChangeShapes Go.WideShapes Go.ChangeAt Go.RowKit Go.Proofs.Ytbkmcncakpmgkaa

structure UsOk (w : World) (u : List Us) (uo : Option Addr) (n : Nat) : Prop where
  len : u.length = n
  le : n ≤ 40
  u64 : U64 u
  row : RowK 4 encU w uo u
structure ShOk (w : World) (s : List (Int × Int)) (so : Option Addr) (n c : Nat) : Prop where
  len : s.length = n
  le : n ≤ 1000
  s64 : S64 s
  row : RowK 2 encS w so s
  cap : (so = none → c = 0) ∧ n ≤ c

theorem UsOk.later {w w' : World} {u : List Us} {uo : Option Addr} {n : Nat} (h : UsOk w u uo n) (hb : Below w.heap.size w w') : UsOk w' u uo n := ⟨h.len, h.le, h.u64, h.row.later hb⟩
theorem ShOk.later {w w' : World} {s : List (Int × Int)} {so : Option Addr} {n c : Nat} (h : ShOk w s so n c) (hb : Below w.heap.size w w') : ShOk w' s so n c := ⟨h.len, h.le, h.s64, h.row.later hb, h.cap⟩

theorem user_s64 {us : List Us} (h : U64 us) (l : List (Int × Int)) : S64 (tidyL (userA us l).1) := fun s hs => by
  obtain ⟨u, hu, e⟩ := userA_keys us l s hs
  rw [← e]; exact (h u hu).2

theorem user_len {us : List Us} (hus : us.length ≤ 60) {l : List (Int × Int)} (hl : l.length ≤ 12) : (tidyL (userA us l).1).length ≤ 1000 := by
  have hb := user_bd us hus l l.length (Nat.le_refl _)
  rw [List.take_length] at hb
  have := List.length_filter_le (fun s : Int × Int => decide (0 < s.2)) (userA us l).1
  have h5 := hb.2.1
  unfold tidyL; omega

theorem usr_p {w : World} {s : List (Int × Int)} {so : Option Addr} {ns sc : Nat} {u : List Us} {uo : Option Addr} {n uc : Nat} (hs : ShOk w s so ns sc) (h12 : ns ≤ 12) (hu : UsOk w u uo n) (A : List (Int × Int)) (na : Nat) (r : Int) (hA : tidyL (userA u s).1 = A) (hn : A.length = na) (hr : (userA u s).2 = r) :
    Calls Try.prog 12 #[.slice so ns sc, .slice uo n uc] w fun e w' => ∃ ao ac, e = .returned (.tuple #[.slice ao na ac, .int .i64 r]) ∧ ShOk w' A ao na ac ∧ Below w.heap.size w w' := by
  have hl := hs.len
  have hm := hu.len
  have h40 := hu.le
  subst hA hn hr
  exact (user_any so uo sc uc ns n s u w (by omega) (by omega) hl hm hs.row hu.row hs.s64 hu.u64).mono fun e w' ⟨ao, ac, h1, h2, h3, h4⟩ => ⟨ao, ac, h1, ⟨rfl, user_len (by omega) (by omega), user_s64 hu.u64 s, h3, h2⟩, h4⟩
theorem usr_r {w : World} {s : List (Int × Int)} {so : Option Addr} {ns sc : Nat} {u : List Us} {uo : Option Addr} {n uc : Nat} (hs : ShOk w s so ns sc) (h12 : ns ≤ 12) (hu : UsOk w u uo n) (A : List (Int × Int)) (na : Nat) (r : Int) (hA : tidyL (userA u s).1 = A) (hn : A.length = na) (hr : (userA u s).2 = r) :
    Calls Try.prog 13 #[.slice so ns sc, .slice uo n uc] w fun e w' => ∃ ao ac, e = .returned (.tuple #[.slice ao na ac, .int .i64 r]) ∧ ShOk w' A ao na ac ∧ Below w.heap.size w w' := by
  have hl := hs.len
  have hm := hu.len
  have h40 := hu.le
  subst hA hn hr
  exact (ruser_any so uo sc uc ns n s u w (by omega) (by omega) hl hm hs.row hu.row).mono fun e w' ⟨ao, ac, h1, h2, h3, h4⟩ => ⟨ao, ac, h1, ⟨rfl, user_len (by omega) (by omega), user_s64 hu.u64 s, h3, h2⟩, h4⟩

theorem same_t {w : World} {s t : List (Int × Int)} {so to : Option Addr} {ns sc tc : Nat} (hs : RowK 2 encS w so s) (ht : RowK 2 encS w to s) (hl : s.length = ns) (hn : ns ≤ 1000000) :
    Calls Try.prog 14 #[.slice so ns sc, .slice to ns tc] w fun e w' => e = .returned (.bool true) ∧ Below w.heap.size w w' :=
  (sameS_any so to sc tc s s ns ns w hl hl hn hs ht).mono (by rintro e w' ⟨rfl, m, rfl⟩; exact ⟨by simp, below_dn _ _⟩)

theorem mrg_len {a b : List (Int × Int)} (ha : a.length ≤ 1000) (hb : b.length ≤ 1000) : (tidyL (mergeA (a ++ b))).length ≤ 2000 := by
  have h1 := (merge_bd' (a ++ b)).2
  have h2 := List.length_filter_le (fun s : Int × Int => decide (0 < s.2)) (mergeA (a ++ b))
  rw [List.length_append] at h1
  unfold tidyL; omega

theorem mrg_p {w : World} {s t : List (Int × Int)} {so to : Option Addr} {ns sc nt tc : Nat} (hs : ShOk w s so ns sc) (ht : ShOk w t to nt tc) (M : List (Int × Int)) (nm : Nat) (hM : tidyL (mergeA (s ++ t)) = M) (hn : M.length = nm) :
    Calls Try.prog 15 #[.slice so ns sc, .slice to nt tc] w fun e w' => ∃ ao ac, e = .returned (.slice ao nm ac) ∧ RowK 2 encS w' ao M ∧ Below w.heap.size w w' := by
  subst hM hn
  exact (merge_any so to sc tc ns nt s t w hs.le ht.le hs.len ht.len hs.row ht.row hs.s64 ht.s64).mono fun e w' ⟨ao, ac, h1, _, h3, h4⟩ => ⟨ao, ac, h1, h3, h4⟩
theorem mrg_r {w : World} {s t : List (Int × Int)} {so to : Option Addr} {ns sc nt tc : Nat} (hs : ShOk w s so ns sc) (ht : ShOk w t to nt tc) (M : List (Int × Int)) (nm : Nat) (hM : tidyL (mergeA (s ++ t)) = M) (hn : M.length = nm) :
    Calls Try.prog 16 #[.slice so ns sc, .slice to nt tc] w fun e w' => ∃ ao ac, e = .returned (.slice ao nm ac) ∧ RowK 2 encS w' ao M ∧ Below w.heap.size w w' := by
  subst hM hn
  exact (rmerge_any so to sc tc ns nt s t w hs.le ht.le hs.len ht.len hs.row ht.row hs.cap ht.cap).mono fun e w' ⟨ao, ac, h1, _, h3, h4⟩ => ⟨ao, ac, h1, h3, h4⟩

theorem pro_p {w : World} {u : List Us} {uo : Option Addr} {n uc : Nat} (t : Int) (hu : UsOk w u uo n) (M : List (Int × Int)) (nm : Nat) (hM : proL t u = M) (hn : M.length = nm) :
    Calls Try.prog 20 #[.int .i64 t, .slice uo n uc] w fun e w' => ∃ ao ac, e = .returned (.slice ao nm ac) ∧ RowK 2 encS w' ao M ∧ Below w.heap.size w w' := by
  subst hM hn
  have h40 := hu.le
  refine (prorata_any t uo uc n u w (by omega) hu.len hu.row hu.u64).mono fun e w' hh => ?_
  rw [addAll_div t (weights_all true 0 u).1] at hh
  obtain ⟨ao, ac, h1, _, h3, h4⟩ := hh
  exact ⟨ao, ac, h1, h3, h4⟩
theorem pro_r {w : World} {u : List Us} {uo : Option Addr} {n uc : Nat} (t : Int) (hu : UsOk w u uo n) (M : List (Int × Int)) (nm : Nat) (hM : proL t u = M) (hn : M.length = nm) :
    Calls Try.prog 21 #[.int .i64 t, .slice uo n uc] w fun e w' => ∃ ao ac, e = .returned (.slice ao nm ac) ∧ RowK 2 encS w' ao M ∧ Below w.heap.size w w' := by
  subst hM hn
  have h40 := hu.le
  exact (rprorata_any t uo uc n u w (by omega) hu.len hu.row).mono fun e w' ⟨ao, ac, h1, _, h3, h4⟩ => ⟨ao, ac, h1, h3, h4⟩
theorem pro_len {u : List Us} (h : u.length ≤ 40) (t : Int) : (proL t u).length ≤ 1000000 := by
  have hw := (weights_bd true 0 u u.length (Nat.le_refl _)).2
  rw [List.take_length] at hw
  have hd := div_len_le t (weightsL true 0 u)
  have h2 := List.length_filter_le (fun s : Int × Int => decide (0 < s.2)) (divL t (weightsL true 0 u))
  unfold proL tidyL; omega

theorem few_us (raw : Bool) (ao : Option Addr) (cap m : Nat) (l : List Us) (hm : m ≤ 9223372036854775807) (hl : l.length = m) (hw : Us64 l) :
    ∃ (us : List Us) (n : Nat), ∀ W, RowK 4 encU W ao l → Calls Try.prog 10 #[.slice ao m cap, .bool raw] W fun e w' => ∃ uo uc, e = .returned (.slice uo n uc) ∧ UsOk w' us uo n ∧ Below W.heap.size W w' := by
  refine ⟨fewL raw l, _, fun W hr => (few_any raw ao cap m l W hm hl hr hw).mono fun e w' ⟨uo, uc, h1, _, h3, h4⟩ => ⟨uo, uc, h1, ⟨rfl, few_len _ _, ?_, h3⟩, h4⟩⟩
  rcases raw with _ | _
  · exact few_U64 l
  · intro u hu
    obtain ⟨x, hx, rfl⟩ := List.mem_map.1 hu
    have := hw x (List.mem_of_mem_take hx)
    exact ⟨this.1, this.2.1⟩

theorem pay_sh (ao : Option Addr) (cap m : Nat) (l : List (Int × Int)) (hm : m ≤ 9223372036854775807) (hl : l.length = m) (hw : ∀ s ∈ l, (Lit.int .i64 s.1).wf = true ∧ (Lit.int .i64 s.2).wf = true) :
    ∃ (p : List (Int × Int)) (n : Nat), n ≤ 12 ∧ ∀ W, RowK 2 encS W ao l → Calls Try.prog 11 #[.slice ao m cap] W fun e w' => ∃ uo uc, e = .returned (.slice uo n uc) ∧ ShOk w' p uo n uc ∧ Below W.heap.size W w' :=
  ⟨payL l, _, pay_len _, fun W hr => (payments_any ao cap m l W hm hl hr hw).mono fun e w' ⟨uo, uc, h1, h2, h3, h4⟩ => ⟨uo, uc, h1, ⟨rfl, Nat.le_trans (pay_len _) (by omega), (pay_bd l).2, h3, h2⟩, h4⟩⟩

set_option maxRecDepth 100000 in
set_option maxHeartbeats 4000000 in
theorem walk (a0 : Option Addr) (len0 cap0 : Nat) (a1 : Option Addr) (len1 cap1 : Nat) (t k : Int) (W : World) (h0 : IsRowK 4 W a0 len0 cap0) (h1 : IsRowK 2 W a1 len1 cap1) (h2 : (Lit.int .i64 t).wf = true) (h3 : (Lit.int .i64 k).wf = true) :
    Calls Try.prog 3 #[.slice a0 len0 cap0, .slice a1 len1 cap1, .int .i64 t, .int .i64 k] W fun e W' => e = .returned (.bool true) ∧ Below W.heap.size W W' := by
  obtain ⟨l, hl, hr, hw, _, hm, _⟩ := h0.usages
  obtain ⟨l', hl', hr', hw', hcl, hm', hcn⟩ := h1.shares
  have hT := bounds_i64 h2
  have hK := bounds_i64 h3
  obtain ⟨uR, nR, fewR⟩ := few_us true a0 cap0 len0 l hm hl hw
  obtain ⟨uF, nF, fewF⟩ := few_us false a0 cap0 len0 l hm hl hw
  obtain ⟨q, nq, hnq, pay⟩ := pay_sh a1 cap1 len1 l' hm' hl' hw'
  have HPT := Lib.hid (fun W => pick_any t 1000000000000002 W hT.1 hT.2 (by omega) (by omega))
  have HPK := Lib.hid (fun W => pick_any k 8 W hK.1 hK.2 (by omega) (by omega))
  obtain ⟨T, hTe⟩ : ∃ T, pickZ t 1000000000000002 = T := ⟨_, rfl⟩
  obtain ⟨r, hre⟩ : ∃ r, pickZ k 8 = r := ⟨_, rfl⟩
  rw [hTe] at HPT
  rw [hre] at HPK
  have hA : ∀ (W : World) (o : Obj), Below W.heap.size W (W.alloc o) := fun W o => (Below.refl _ _).alloc (Nat.le_refl _) _
  have HA := Lib.hid hA
  obtain ⟨np, hnp⟩ : ∃ np, np = min len1 12 := ⟨_, rfl⟩
  have hP0 : ShOk W (l'.take 12) a1 np cap1 := ⟨by rw [List.length_take, hl', hnp]; omega, by omega, fun s hs => (hw' s (List.mem_of_mem_take hs)).1, fun i x hx => hr' i x (by
    rw [List.getElem?_take] at hx; split at hx; exact hx; cases hx), ⟨hcn, by omega⟩⟩
  obtain ⟨P, hPe⟩ : ∃ P, l'.take 12 = P := ⟨_, rfl⟩
  rw [hPe] at hP0
  have HP0 := Lib.hid hP0
  have HR0 := Lib.hid hr
  have HR1 := Lib.hid hr'
  have HFR := Lib.hid fewR
  have HFF := Lib.hid fewF
  have HPAY := Lib.hid pay
  have hnp12 : np ≤ 12 := by omega
  clear hl hr hw hl' hr' hw' hcn fewR fewF pay h0 h1 h2 h3 hT hK hTe hre hA hP0 hPe
  rcases Nat.lt_or_ge 12 len1 with hc | hc
  · obtain rfl : np = 12 := by omega
    clear hnp
    have hmin : min (len1 : Int) 12 = 12 := by omega
    go_enter Try.func3, Try.ntmps3
    go_wp2_with fail
    refine (sane_any _).mono ?_
    rintro e w1 ⟨rfl, hb1⟩
    have BW1 := Lib.hid hb1
    clear hb1
    go_wp2_with fail
    refine (HFR.out _ (HR0.out.later BW1.out)).mono ?_
    rintro e w2 ⟨ro, rc, rfl, hu2, hb2⟩
    have UR2 := Lib.hid hu2
    have BW2 := Lib.hid (bch BW1.out hb2 BW1.out.size)
    clear hu2 hb2
    go_wp2_with fail
    refine (HFF.out _ (HR0.out.later BW2.out)).mono ?_
    rintro e w3 ⟨fo, fc, rfl, hu3, hb3⟩
    have UR3 := Lib.hid (UR2.out.later hb3)
    have UF3 := Lib.hid hu3
    have BW3 := Lib.hid (bch BW2.out hb3 BW2.out.size)
    clear hu3 hb3
    go_wp2
    obtain ⟨w4, hw4⟩ : ∃ w4, w3.alloc (.cells #[.slice ro nR rc, .slice fo nF fc] 22) = w4 := ⟨_, rfl⟩
    have c0 : w4.cell? ⟨w3.heap.size, 0, none⟩ = some (.slice ro nR rc) := by rw [← hw4]; exact cell_box _ _ _ 0 _ rfl _ rfl
    have c1 : w4.cell? ⟨w3.heap.size, 1, none⟩ = some (.slice fo nF fc) := by rw [← hw4]; exact cell_box _ _ _ 1 _ rfl _ rfl
    have B34 : Below w3.heap.size w3 w4 := by rw [← hw4]; exact HA.out _ _
    have hlt4 : w3.heap.size < w4.heap.size := by rw [← hw4]; simp
    rw [hw4]
    clear hw4
    have CU := Lib.hid (show ∀ j, j < 2 → ∃ u uo n uc, w4.cell? ⟨w3.heap.size, j, none⟩ = some (.slice uo n uc) ∧ UsOk w4 u uo n from fun j hj => match j, hj with | 0, _ => ⟨uR, ro, nR, rc, c0, UR3.out.later B34⟩ | 1, _ => ⟨uF, fo, nF, fc, c1, UF3.out.later B34⟩)
    have BW4 := Lib.hid (bch BW3.out B34 BW3.out.size)
    clear c0 c1 B34
    go_loopw [41] (fun i wr => ∃ j : Nat, j ≤ 2 ∧ i = .int .i64 j ∧ Below w4.heap.size w4 wr) (fun i _ => 2 - (intOf i).toNat)
    case atStart => exact ⟨0, by omega, rfl, Below.refl _ _⟩
    case round =>
      obtain ⟨j, hj, rfl, hb⟩ := hrel
      have HB := Lib.hid hb
      clear hb
      obtain ⟨w5, rfl⟩ : ∃ w5, w5 = wr := ⟨_, rfl⟩
      have BW5 := Lib.hid (bch BW4.out HB.out BW4.out.size)
      by_cases hlt : j < 2
      · obtain ⟨u, uo, n, uc, cu, hu⟩ := CU.out j hlt
        have cu5 : w5.cell? ⟨w3.heap.size, j, none⟩ = some (.slice uo n uc) := by rw [HB.out.cell (p := ⟨w3.heap.size, j, none⟩) hlt4]; exact cu
        have U5 := Lib.hid (hu.later HB.out)
        have hun := hu.le
        have hj0 : (0 : Int) ≤ (j : Int) := by omega
        have hj1 : (j : Int) < 2 := by omega
        clear cu hu
        go_wp2_with fail
        refine (HPAY.out _ (HR1.out.later BW5.out)).mono ?_
        rintro e w6 ⟨qo, qc, rfl, hq6, hb6⟩
        have Q6 := Lib.hid hq6
        have U6 := Lib.hid (U5.out.later hb6)
        have B56 := Lib.hid (bch HB.out hb6 HB.out.size)
        have BW6 := Lib.hid (bch BW5.out hb6 BW5.out.size)
        have P6 := Lib.hid (HP0.out.later BW6.out)
        clear hq6 hb6 cu5
        go_wp2
        obtain ⟨w7, hw7⟩ : ∃ w7, w6.alloc (.cells #[.slice a1 12 cap1, .slice qo nq qc] 23) = w7 := ⟨_, rfl⟩
        have c0 : w7.cell? ⟨w6.heap.size, 0, none⟩ = some (.slice a1 12 cap1) := by rw [← hw7]; exact cell_box _ _ _ 0 _ rfl _ rfl
        have c1 : w7.cell? ⟨w6.heap.size, 1, none⟩ = some (.slice qo nq qc) := by rw [← hw7]; exact cell_box _ _ _ 1 _ rfl _ rfl
        have B67 : Below w6.heap.size w6 w7 := by rw [← hw7]; exact HA.out _ _
        have hlt7 : w6.heap.size < w7.heap.size := by rw [← hw7]; simp
        rw [hw7]
        clear hw7
        have CS := Lib.hid (show ∀ j, j < 2 → ∃ s so ns sc, w7.cell? ⟨w6.heap.size, j, none⟩ = some (.slice so ns sc) ∧ ShOk w7 s so ns sc ∧ ns ≤ 12 from fun j hj => match j, hj with | 0, _ => ⟨P, a1, 12, cap1, c0, P6.out.later B67, by omega⟩ | 1, _ => ⟨q, qo, nq, qc, c1, Q6.out.later B67, hnq⟩)
        have U7 := Lib.hid (U6.out.later B67)
        have B57 := Lib.hid (bch B56.out B67 B56.out.size)
        clear c0 c1 B67
        go_loopw [50] (fun i wr => ∃ j : Nat, j ≤ 2 ∧ i = .int .i64 j ∧ Below w7.heap.size w7 wr) (fun i _ => 2 - (intOf i).toNat)
        case atStart => exact ⟨0, by omega, rfl, Below.refl _ _⟩
        case round =>
          obtain ⟨i, hi, rfl, hb⟩ := hrel
          have HB8 := Lib.hid hb
          clear hb
          obtain ⟨w8, rfl⟩ : ∃ w8, w8 = wr := ⟨_, rfl⟩
          have U8 := Lib.hid (U7.out.later HB8.out)
          by_cases hlti : i < 2
          · obtain ⟨s, so, ns, sc, cs, hs, hs12⟩ := CS.out i hlti
            have cs8 : w8.cell? ⟨w6.heap.size, i, none⟩ = some (.slice so ns sc) := by rw [HB8.out.cell (p := ⟨w6.heap.size, i, none⟩) hlt7]; exact cs
            have S8 := Lib.hid (hs.later HB8.out)
            obtain ⟨A, hAe⟩ : ∃ A, tidyL (userA u s).1 = A := ⟨_, rfl⟩
            obtain ⟨na, hna⟩ : ∃ na, A.length = na := ⟨_, rfl⟩
            obtain ⟨x, hx⟩ : ∃ x, (userA u s).2 = x := ⟨_, rfl⟩
            obtain ⟨M, hMe⟩ : ∃ M, tidyL (mergeA (s ++ A)) = M := ⟨_, rfl⟩
            obtain ⟨nm, hnm⟩ : ∃ nm, M.length = nm := ⟨_, rfl⟩
            have HAE := Lib.hid hAe
            have HNA := Lib.hid hna
            have HX := Lib.hid hx
            have HME := Lib.hid hMe
            have HNM := Lib.hid hnm
            have hna1 : na ≤ 1000 := by rw [← hna, ← hAe]; exact user_len (by rw [U5.out.len]; omega) (by rw [hs.len]; omega)
            have hnm1 : nm ≤ 2000 := by rw [← hnm, ← hMe]; exact mrg_len (by rw [hs.len]; omega) (by rw [hna]; exact hna1)
            have hi0 : (0 : Int) ≤ (i : Int) := by omega
            have hi1 : (i : Int) < 2 := by omega
            clear cs hs hAe hna hx hMe hnm
            go_wp2_with fail
            refine (usr_p S8.out hs12 U8.out A na x HAE.out HNA.out HX.out).mono ?_
            rintro e w9 ⟨ao, ac, rfl, hA9, hb9⟩
            have A9 := Lib.hid hA9
            have S9 := Lib.hid (S8.out.later hb9)
            have U9 := Lib.hid (U8.out.later hb9)
            have B9 := Lib.hid (bch HB8.out hb9 HB8.out.size)
            clear hA9 hb9 cs8
            go_wp2_with fail
            refine (usr_r S9.out hs12 U9.out A na x HAE.out HNA.out HX.out).mono ?_
            rintro e w10 ⟨bo, bc, rfl, hA10, hb10⟩
            have C10 := Lib.hid hA10
            have A10 := Lib.hid (A9.out.later hb10)
            have S10 := Lib.hid (S9.out.later hb10)
            have B10 := Lib.hid (bch B9.out hb10 B9.out.size)
            clear hA10 hb10
            go_wp2_with fail
            refine (same_t (t := A) A10.out.row C10.out.row HNA.out (by omega)).mono ?_
            rintro e w11 ⟨rfl, hb11⟩
            have A11 := Lib.hid (A10.out.later hb11)
            have S11 := Lib.hid (S10.out.later hb11)
            have B11 := Lib.hid (bch B10.out hb11 B10.out.size)
            clear hb11
            go_wp2_with fail
            refine (mrg_p S11.out A11.out M nm HME.out HNM.out).mono ?_
            rintro e w12 ⟨mo, mc, rfl, hM12, hb12⟩
            have M12 := Lib.hid hM12
            have A12 := Lib.hid (A11.out.later hb12)
            have S12 := Lib.hid (S11.out.later hb12)
            have B12 := Lib.hid (bch B11.out hb12 B11.out.size)
            clear hM12 hb12
            go_wp2_with fail
            refine (mrg_r S12.out A12.out M nm HME.out HNM.out).mono ?_
            rintro e w13 ⟨lo, lc, rfl, hM13, hb13⟩
            have L13 := Lib.hid hM13
            have M13 := Lib.hid (M12.out.later hb13)
            have B13 := Lib.hid (bch B12.out hb13 B12.out.size)
            clear hM13 hb13
            go_wp2_with fail
            refine (same_t (t := M) M13.out L13.out HNM.out (by omega)).mono ?_
            rintro e w14 ⟨rfl, hb14⟩
            have B14 := Lib.hid (bch B13.out hb14 B13.out.size)
            clear hb14
            go_wp2
            go_roundw
            case rel => exact ⟨i + 1, by omega, by go_num, B14.out⟩
            case measure => simp [intOf]; omega
          · have B58 := Lib.hid (bch B57.out HB8.out B57.out.size)
            go_wp2_with fail
            refine (HPT.out _).mono ?_
            rintro e w9 ⟨rfl, rfl⟩
            go_wp2
            obtain ⟨w9, hw9⟩ : ∃ w9, w8.alloc (.cells #[.int .i64 t, .int .i64 T] 3) = w9 := ⟨_, rfl⟩
            have c0 : w9.cell? ⟨w8.heap.size, 0, none⟩ = some (.int .i64 t) := by rw [← hw9]; exact cell_box _ _ _ 0 _ rfl _ rfl
            have c1 : w9.cell? ⟨w8.heap.size, 1, none⟩ = some (.int .i64 T) := by rw [← hw9]; exact cell_box _ _ _ 1 _ rfl _ rfl
            have B89 : Below w8.heap.size w8 w9 := by rw [← hw9]; exact HA.out _ _
            have hlt9 : w8.heap.size < w9.heap.size := by rw [← hw9]; simp
            rw [hw9]
            clear hw9
            have CI := Lib.hid (show ∀ j, j < 2 → ∃ z, w9.cell? ⟨w8.heap.size, j, none⟩ = some (.int .i64 z) from fun j hj => match j, hj with | 0, _ => ⟨t, c0⟩ | 1, _ => ⟨T, c1⟩)
            have U9 := Lib.hid (U8.out.later B89)
            have B59 := Lib.hid (bch B58.out B89 B58.out.size)
            clear c0 c1 B89
            go_loopw [91] (fun i wr => ∃ j : Nat, j ≤ 2 ∧ i = .int .i64 j ∧ Below w9.heap.size w9 wr) (fun i _ => 2 - (intOf i).toNat)
            case atStart => exact ⟨0, by omega, rfl, Below.refl _ _⟩
            case round =>
              obtain ⟨g, hg, rfl, hb⟩ := hrel
              have HBA := Lib.hid hb
              clear hb
              obtain ⟨wa, rfl⟩ : ∃ wa, wa = wr := ⟨_, rfl⟩
              by_cases hltg : g < 2
              · obtain ⟨z, cz⟩ := CI.out g hltg
                have cza : wa.cell? ⟨w8.heap.size, g, none⟩ = some (.int .i64 z) := by rw [HBA.out.cell (p := ⟨w8.heap.size, g, none⟩) hlt9]; exact cz
                have UA := Lib.hid (U9.out.later HBA.out)
                obtain ⟨p1, hp1⟩ : ∃ p1, heldP z (heldS k u).1 (heldS k u).2 = p1 := ⟨_, rfl⟩
                obtain ⟨p2, hp2⟩ : ∃ p2, heldP z (heldS r u).1 (heldS r u).2 = p2 := ⟨_, rfl⟩
                obtain ⟨M, hMe⟩ : ∃ M, proL z u = M := ⟨_, rfl⟩
                obtain ⟨nm, hnm⟩ : ∃ nm, M.length = nm := ⟨_, rfl⟩
                have hnm1 : nm ≤ 1000000 := by rw [← hnm, ← hMe]; exact pro_len (by rw [U5.out.len]; exact hun) z
                have HH1 := Lib.hid (fun W (h : UsOk W u uo n) => held_any z k uo uc n u W (by omega) h.len h.row)
                have HH2 := Lib.hid (fun W (h : UsOk W u uo n) => rheld_any z k uo uc n u W (by omega) h.len h.row)
                have HH3 := Lib.hid (fun W (h : UsOk W u uo n) => held_any z r uo uc n u W (by omega) h.len h.row)
                have HH4 := Lib.hid (fun W (h : UsOk W u uo n) => rheld_any z r uo uc n u W (by omega) h.len h.row)
                rw [hp1] at HH1 HH2
                rw [hp2] at HH3 HH4
                obtain ⟨p11, p12⟩ := p1
                obtain ⟨p21, p22⟩ := p2
                dsimp only at HH1 HH2 HH3 HH4
                have HME := Lib.hid hMe
                have HNM := Lib.hid hnm
                have hg0 : (0 : Int) ≤ (g : Int) := by omega
                have hg1 : (g : Int) < 2 := by omega
                clear cz hp1 hp2 hMe hnm
                go_wp2_with fail
                refine (HH1.out _ UA.out).mono ?_
                rintro e wb ⟨rfl, hb⟩
                have UB := Lib.hid (UA.out.later hb)
                have BB := Lib.hid (bch HBA.out hb HBA.out.size)
                clear hb cza
                go_wp2_with fail
                refine (HH2.out _ UB.out).mono ?_
                rintro e wc ⟨rfl, hb⟩
                have UC := Lib.hid (UB.out.later hb)
                have BC := Lib.hid (bch BB.out hb BB.out.size)
                clear hb
                go_wp2_with fail
                refine (HPK.out _).mono ?_
                rintro e wc' ⟨rfl, rfl⟩
                go_wp2_with fail
                refine (HH3.out _ UC.out).mono ?_
                rintro e wd ⟨rfl, hb⟩
                have UD := Lib.hid (UC.out.later hb)
                have BD := Lib.hid (bch BC.out hb BC.out.size)
                clear hb
                go_wp2_with fail
                refine (HPK.out _).mono ?_
                rintro e wd' ⟨rfl, rfl⟩
                go_wp2_with fail
                refine (HH4.out _ UD.out).mono ?_
                rintro e we ⟨rfl, hb⟩
                have UE := Lib.hid (UD.out.later hb)
                have BE := Lib.hid (bch BD.out hb BD.out.size)
                clear hb
                go_wp2_with fail
                refine (pro_p z UE.out M nm HME.out HNM.out).mono ?_
                rintro e wf ⟨mo, mc, rfl, hM, hb⟩
                have MF := Lib.hid hM
                have UF := Lib.hid (UE.out.later hb)
                have BF := Lib.hid (bch BE.out hb BE.out.size)
                clear hb hM
                go_wp2_with fail
                refine (pro_r z UF.out M nm HME.out HNM.out).mono ?_
                rintro e wg ⟨lo, lc, rfl, hL, hb⟩
                have LG := Lib.hid hL
                have MG := Lib.hid (MF.out.later hb)
                have BG := Lib.hid (bch BF.out hb BF.out.size)
                clear hb hL
                go_wp2_with fail
                refine (same_t (t := M) MG.out LG.out HNM.out hnm1).mono ?_
                rintro e wh ⟨rfl, hb⟩
                have BH := Lib.hid (bch BG.out hb BG.out.size)
                clear hb
                go_wp2
                go_roundw
                case rel => exact ⟨g + 1, by omega, by go_num, BH.out⟩
                case measure => simp [intOf]; omega
              · have B5A := Lib.hid (bch B59.out HBA.out B59.out.size)
                go_wp2
                go_roundw
                case rel => exact ⟨j + 1, by omega, by go_num, B5A.out⟩
                case measure => simp [intOf]; omega
      · go_wp2
        go_ret
        exact ⟨rfl, BW5.out⟩
  · obtain rfl : np = len1 := by omega
    clear hnp
    have hmin : min (np : Int) 12 = np := by omega
    go_enter Try.func3, Try.ntmps3
    go_wp2_with fail
    refine (sane_any _).mono ?_
    rintro e w1 ⟨rfl, hb1⟩
    have BW1 := Lib.hid hb1
    clear hb1
    go_wp2_with fail
    refine (HFR.out _ (HR0.out.later BW1.out)).mono ?_
    rintro e w2 ⟨ro, rc, rfl, hu2, hb2⟩
    have UR2 := Lib.hid hu2
    have BW2 := Lib.hid (bch BW1.out hb2 BW1.out.size)
    clear hu2 hb2
    go_wp2_with fail
    refine (HFF.out _ (HR0.out.later BW2.out)).mono ?_
    rintro e w3 ⟨fo, fc, rfl, hu3, hb3⟩
    have UR3 := Lib.hid (UR2.out.later hb3)
    have UF3 := Lib.hid hu3
    have BW3 := Lib.hid (bch BW2.out hb3 BW2.out.size)
    clear hu3 hb3
    go_wp2
    obtain ⟨w4, hw4⟩ : ∃ w4, w3.alloc (.cells #[.slice ro nR rc, .slice fo nF fc] 22) = w4 := ⟨_, rfl⟩
    have c0 : w4.cell? ⟨w3.heap.size, 0, none⟩ = some (.slice ro nR rc) := by rw [← hw4]; exact cell_box _ _ _ 0 _ rfl _ rfl
    have c1 : w4.cell? ⟨w3.heap.size, 1, none⟩ = some (.slice fo nF fc) := by rw [← hw4]; exact cell_box _ _ _ 1 _ rfl _ rfl
    have B34 : Below w3.heap.size w3 w4 := by rw [← hw4]; exact HA.out _ _
    have hlt4 : w3.heap.size < w4.heap.size := by rw [← hw4]; simp
    rw [hw4]
    clear hw4
    have CU := Lib.hid (show ∀ j, j < 2 → ∃ u uo n uc, w4.cell? ⟨w3.heap.size, j, none⟩ = some (.slice uo n uc) ∧ UsOk w4 u uo n from fun j hj => match j, hj with | 0, _ => ⟨uR, ro, nR, rc, c0, UR3.out.later B34⟩ | 1, _ => ⟨uF, fo, nF, fc, c1, UF3.out.later B34⟩)
    have BW4 := Lib.hid (bch BW3.out B34 BW3.out.size)
    clear c0 c1 B34
    go_loopw [41] (fun i wr => ∃ j : Nat, j ≤ 2 ∧ i = .int .i64 j ∧ Below w4.heap.size w4 wr) (fun i _ => 2 - (intOf i).toNat)
    case atStart => exact ⟨0, by omega, rfl, Below.refl _ _⟩
    case round =>
      obtain ⟨j, hj, rfl, hb⟩ := hrel
      have HB := Lib.hid hb
      clear hb
      obtain ⟨w5, rfl⟩ : ∃ w5, w5 = wr := ⟨_, rfl⟩
      have BW5 := Lib.hid (bch BW4.out HB.out BW4.out.size)
      by_cases hlt : j < 2
      · obtain ⟨u, uo, n, uc, cu, hu⟩ := CU.out j hlt
        have cu5 : w5.cell? ⟨w3.heap.size, j, none⟩ = some (.slice uo n uc) := by rw [HB.out.cell (p := ⟨w3.heap.size, j, none⟩) hlt4]; exact cu
        have U5 := Lib.hid (hu.later HB.out)
        have hun := hu.le
        have hj0 : (0 : Int) ≤ (j : Int) := by omega
        have hj1 : (j : Int) < 2 := by omega
        clear cu hu
        go_wp2_with fail
        refine (HPAY.out _ (HR1.out.later BW5.out)).mono ?_
        rintro e w6 ⟨qo, qc, rfl, hq6, hb6⟩
        have Q6 := Lib.hid hq6
        have U6 := Lib.hid (U5.out.later hb6)
        have B56 := Lib.hid (bch HB.out hb6 HB.out.size)
        have BW6 := Lib.hid (bch BW5.out hb6 BW5.out.size)
        have P6 := Lib.hid (HP0.out.later BW6.out)
        clear hq6 hb6 cu5
        go_wp2
        obtain ⟨w7, hw7⟩ : ∃ w7, w6.alloc (.cells #[.slice a1 np cap1, .slice qo nq qc] 23) = w7 := ⟨_, rfl⟩
        have c0 : w7.cell? ⟨w6.heap.size, 0, none⟩ = some (.slice a1 np cap1) := by rw [← hw7]; exact cell_box _ _ _ 0 _ rfl _ rfl
        have c1 : w7.cell? ⟨w6.heap.size, 1, none⟩ = some (.slice qo nq qc) := by rw [← hw7]; exact cell_box _ _ _ 1 _ rfl _ rfl
        have B67 : Below w6.heap.size w6 w7 := by rw [← hw7]; exact HA.out _ _
        have hlt7 : w6.heap.size < w7.heap.size := by rw [← hw7]; simp
        rw [hw7]
        clear hw7
        have CS := Lib.hid (show ∀ j, j < 2 → ∃ s so ns sc, w7.cell? ⟨w6.heap.size, j, none⟩ = some (.slice so ns sc) ∧ ShOk w7 s so ns sc ∧ ns ≤ 12 from fun j hj => match j, hj with | 0, _ => ⟨P, a1, np, cap1, c0, P6.out.later B67, by omega⟩ | 1, _ => ⟨q, qo, nq, qc, c1, Q6.out.later B67, hnq⟩)
        have U7 := Lib.hid (U6.out.later B67)
        have B57 := Lib.hid (bch B56.out B67 B56.out.size)
        clear c0 c1 B67
        go_loopw [50] (fun i wr => ∃ j : Nat, j ≤ 2 ∧ i = .int .i64 j ∧ Below w7.heap.size w7 wr) (fun i _ => 2 - (intOf i).toNat)
        case atStart => exact ⟨0, by omega, rfl, Below.refl _ _⟩
        case round =>
          obtain ⟨i, hi, rfl, hb⟩ := hrel
          have HB8 := Lib.hid hb
          clear hb
          obtain ⟨w8, rfl⟩ : ∃ w8, w8 = wr := ⟨_, rfl⟩
          have U8 := Lib.hid (U7.out.later HB8.out)
          by_cases hlti : i < 2
          · obtain ⟨s, so, ns, sc, cs, hs, hs12⟩ := CS.out i hlti
            have cs8 : w8.cell? ⟨w6.heap.size, i, none⟩ = some (.slice so ns sc) := by rw [HB8.out.cell (p := ⟨w6.heap.size, i, none⟩) hlt7]; exact cs
            have S8 := Lib.hid (hs.later HB8.out)
            obtain ⟨A, hAe⟩ : ∃ A, tidyL (userA u s).1 = A := ⟨_, rfl⟩
            obtain ⟨na, hna⟩ : ∃ na, A.length = na := ⟨_, rfl⟩
            obtain ⟨x, hx⟩ : ∃ x, (userA u s).2 = x := ⟨_, rfl⟩
            obtain ⟨M, hMe⟩ : ∃ M, tidyL (mergeA (s ++ A)) = M := ⟨_, rfl⟩
            obtain ⟨nm, hnm⟩ : ∃ nm, M.length = nm := ⟨_, rfl⟩
            have HAE := Lib.hid hAe
            have HNA := Lib.hid hna
            have HX := Lib.hid hx
            have HME := Lib.hid hMe
            have HNM := Lib.hid hnm
            have hna1 : na ≤ 1000 := by rw [← hna, ← hAe]; exact user_len (by rw [U5.out.len]; omega) (by rw [hs.len]; omega)
            have hnm1 : nm ≤ 2000 := by rw [← hnm, ← hMe]; exact mrg_len (by rw [hs.len]; omega) (by rw [hna]; exact hna1)
            have hi0 : (0 : Int) ≤ (i : Int) := by omega
            have hi1 : (i : Int) < 2 := by omega
            clear cs hs hAe hna hx hMe hnm
            go_wp2_with fail
            refine (usr_p S8.out hs12 U8.out A na x HAE.out HNA.out HX.out).mono ?_
            rintro e w9 ⟨ao, ac, rfl, hA9, hb9⟩
            have A9 := Lib.hid hA9
            have S9 := Lib.hid (S8.out.later hb9)
            have U9 := Lib.hid (U8.out.later hb9)
            have B9 := Lib.hid (bch HB8.out hb9 HB8.out.size)
            clear hA9 hb9 cs8
            go_wp2_with fail
            refine (usr_r S9.out hs12 U9.out A na x HAE.out HNA.out HX.out).mono ?_
            rintro e w10 ⟨bo, bc, rfl, hA10, hb10⟩
            have C10 := Lib.hid hA10
            have A10 := Lib.hid (A9.out.later hb10)
            have S10 := Lib.hid (S9.out.later hb10)
            have B10 := Lib.hid (bch B9.out hb10 B9.out.size)
            clear hA10 hb10
            go_wp2_with fail
            refine (same_t (t := A) A10.out.row C10.out.row HNA.out (by omega)).mono ?_
            rintro e w11 ⟨rfl, hb11⟩
            have A11 := Lib.hid (A10.out.later hb11)
            have S11 := Lib.hid (S10.out.later hb11)
            have B11 := Lib.hid (bch B10.out hb11 B10.out.size)
            clear hb11
            go_wp2_with fail
            refine (mrg_p S11.out A11.out M nm HME.out HNM.out).mono ?_
            rintro e w12 ⟨mo, mc, rfl, hM12, hb12⟩
            have M12 := Lib.hid hM12
            have A12 := Lib.hid (A11.out.later hb12)
            have S12 := Lib.hid (S11.out.later hb12)
            have B12 := Lib.hid (bch B11.out hb12 B11.out.size)
            clear hM12 hb12
            go_wp2_with fail
            refine (mrg_r S12.out A12.out M nm HME.out HNM.out).mono ?_
            rintro e w13 ⟨lo, lc, rfl, hM13, hb13⟩
            have L13 := Lib.hid hM13
            have M13 := Lib.hid (M12.out.later hb13)
            have B13 := Lib.hid (bch B12.out hb13 B12.out.size)
            clear hM13 hb13
            go_wp2_with fail
            refine (same_t (t := M) M13.out L13.out HNM.out (by omega)).mono ?_
            rintro e w14 ⟨rfl, hb14⟩
            have B14 := Lib.hid (bch B13.out hb14 B13.out.size)
            clear hb14
            go_wp2
            go_roundw
            case rel => exact ⟨i + 1, by omega, by go_num, B14.out⟩
            case measure => simp [intOf]; omega
          · have B58 := Lib.hid (bch B57.out HB8.out B57.out.size)
            go_wp2_with fail
            refine (HPT.out _).mono ?_
            rintro e w9 ⟨rfl, rfl⟩
            go_wp2
            obtain ⟨w9, hw9⟩ : ∃ w9, w8.alloc (.cells #[.int .i64 t, .int .i64 T] 3) = w9 := ⟨_, rfl⟩
            have c0 : w9.cell? ⟨w8.heap.size, 0, none⟩ = some (.int .i64 t) := by rw [← hw9]; exact cell_box _ _ _ 0 _ rfl _ rfl
            have c1 : w9.cell? ⟨w8.heap.size, 1, none⟩ = some (.int .i64 T) := by rw [← hw9]; exact cell_box _ _ _ 1 _ rfl _ rfl
            have B89 : Below w8.heap.size w8 w9 := by rw [← hw9]; exact HA.out _ _
            have hlt9 : w8.heap.size < w9.heap.size := by rw [← hw9]; simp
            rw [hw9]
            clear hw9
            have CI := Lib.hid (show ∀ j, j < 2 → ∃ z, w9.cell? ⟨w8.heap.size, j, none⟩ = some (.int .i64 z) from fun j hj => match j, hj with | 0, _ => ⟨t, c0⟩ | 1, _ => ⟨T, c1⟩)
            have U9 := Lib.hid (U8.out.later B89)
            have B59 := Lib.hid (bch B58.out B89 B58.out.size)
            clear c0 c1 B89
            go_loopw [91] (fun i wr => ∃ j : Nat, j ≤ 2 ∧ i = .int .i64 j ∧ Below w9.heap.size w9 wr) (fun i _ => 2 - (intOf i).toNat)
            case atStart => exact ⟨0, by omega, rfl, Below.refl _ _⟩
            case round =>
              obtain ⟨g, hg, rfl, hb⟩ := hrel
              have HBA := Lib.hid hb
              clear hb
              obtain ⟨wa, rfl⟩ : ∃ wa, wa = wr := ⟨_, rfl⟩
              by_cases hltg : g < 2
              · obtain ⟨z, cz⟩ := CI.out g hltg
                have cza : wa.cell? ⟨w8.heap.size, g, none⟩ = some (.int .i64 z) := by rw [HBA.out.cell (p := ⟨w8.heap.size, g, none⟩) hlt9]; exact cz
                have UA := Lib.hid (U9.out.later HBA.out)
                obtain ⟨p1, hp1⟩ : ∃ p1, heldP z (heldS k u).1 (heldS k u).2 = p1 := ⟨_, rfl⟩
                obtain ⟨p2, hp2⟩ : ∃ p2, heldP z (heldS r u).1 (heldS r u).2 = p2 := ⟨_, rfl⟩
                obtain ⟨M, hMe⟩ : ∃ M, proL z u = M := ⟨_, rfl⟩
                obtain ⟨nm, hnm⟩ : ∃ nm, M.length = nm := ⟨_, rfl⟩
                have hnm1 : nm ≤ 1000000 := by rw [← hnm, ← hMe]; exact pro_len (by rw [U5.out.len]; exact hun) z
                have HH1 := Lib.hid (fun W (h : UsOk W u uo n) => held_any z k uo uc n u W (by omega) h.len h.row)
                have HH2 := Lib.hid (fun W (h : UsOk W u uo n) => rheld_any z k uo uc n u W (by omega) h.len h.row)
                have HH3 := Lib.hid (fun W (h : UsOk W u uo n) => held_any z r uo uc n u W (by omega) h.len h.row)
                have HH4 := Lib.hid (fun W (h : UsOk W u uo n) => rheld_any z r uo uc n u W (by omega) h.len h.row)
                rw [hp1] at HH1 HH2
                rw [hp2] at HH3 HH4
                obtain ⟨p11, p12⟩ := p1
                obtain ⟨p21, p22⟩ := p2
                dsimp only at HH1 HH2 HH3 HH4
                have HME := Lib.hid hMe
                have HNM := Lib.hid hnm
                have hg0 : (0 : Int) ≤ (g : Int) := by omega
                have hg1 : (g : Int) < 2 := by omega
                clear cz hp1 hp2 hMe hnm
                go_wp2_with fail
                refine (HH1.out _ UA.out).mono ?_
                rintro e wb ⟨rfl, hb⟩
                have UB := Lib.hid (UA.out.later hb)
                have BB := Lib.hid (bch HBA.out hb HBA.out.size)
                clear hb cza
                go_wp2_with fail
                refine (HH2.out _ UB.out).mono ?_
                rintro e wc ⟨rfl, hb⟩
                have UC := Lib.hid (UB.out.later hb)
                have BC := Lib.hid (bch BB.out hb BB.out.size)
                clear hb
                go_wp2_with fail
                refine (HPK.out _).mono ?_
                rintro e wc' ⟨rfl, rfl⟩
                go_wp2_with fail
                refine (HH3.out _ UC.out).mono ?_
                rintro e wd ⟨rfl, hb⟩
                have UD := Lib.hid (UC.out.later hb)
                have BD := Lib.hid (bch BC.out hb BC.out.size)
                clear hb
                go_wp2_with fail
                refine (HPK.out _).mono ?_
                rintro e wd' ⟨rfl, rfl⟩
                go_wp2_with fail
                refine (HH4.out _ UD.out).mono ?_
                rintro e we ⟨rfl, hb⟩
                have UE := Lib.hid (UD.out.later hb)
                have BE := Lib.hid (bch BD.out hb BD.out.size)
                clear hb
                go_wp2_with fail
                refine (pro_p z UE.out M nm HME.out HNM.out).mono ?_
                rintro e wf ⟨mo, mc, rfl, hM, hb⟩
                have MF := Lib.hid hM
                have UF := Lib.hid (UE.out.later hb)
                have BF := Lib.hid (bch BE.out hb BE.out.size)
                clear hb hM
                go_wp2_with fail
                refine (pro_r z UF.out M nm HME.out HNM.out).mono ?_
                rintro e wg ⟨lo, lc, rfl, hL, hb⟩
                have LG := Lib.hid hL
                have MG := Lib.hid (MF.out.later hb)
                have BG := Lib.hid (bch BF.out hb BF.out.size)
                clear hb hL
                go_wp2_with fail
                refine (same_t (t := M) MG.out LG.out HNM.out hnm1).mono ?_
                rintro e wh ⟨rfl, hb⟩
                have BH := Lib.hid (bch BG.out hb BG.out.size)
                clear hb
                go_wp2
                go_roundw
                case rel => exact ⟨g + 1, by omega, by go_num, BH.out⟩
                case measure => simp [intOf]; omega
              · have B5A := Lib.hid (bch B59.out HBA.out B59.out.size)
                go_wp2
                go_roundw
                case rel => exact ⟨j + 1, by omega, by go_num, B5A.out⟩
                case measure => simp [intOf]; omega
      · go_wp2
        go_ret
        exact ⟨rfl, BW5.out⟩

end Go.Proofs.Ytbkmcncakpmgkaa.allocateMatchesReference
