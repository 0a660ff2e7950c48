import Derived.Test.YtbkmcncakpmgkaaOpn

/-! Nothing is lost: the plain law. -/
namespace Go.Proofs.Ytbkmcncakpmgkaa
set_option linter.unusedVariables false

theorem tot_nil : tot [] = 0 := rfl
theorem tot_cons (s : Int × Int) (l : List (Int × Int)) : tot (s :: l) = s.2 + tot l := by simp [tot, amts]
theorem tot_app (a b : List (Int × Int)) : tot (a ++ b) = tot a + tot b := by simp [tot, amts, List.sum_append]

theorem tot_addT (r n : Int) : ∀ (l : List (Int × Int)), (∀ s ∈ l, r < s.1) → tot (addGo r n true l) = tot l
  | [], _ => rfl
  | s :: t, h => by
    have h1 := h s (by simp)
    rw [addGo, if_neg (by simp), if_neg (by omega), List.nil_append, Bool.true_or, Bool.true_or, tot_cons, tot_addT r n t (fun x hx => h x (by simp [hx])), tot_cons]

theorem tot_add (r n : Int) : ∀ (l : List (Int × Int)), Asc l → tot (addGo r n false l) = tot l + n
  | [], _ => by simp [addGo, tot, amts]
  | s :: t, h => by
    have ht : Asc t := (List.pairwise_cons.1 h).2
    have hs := (List.pairwise_cons.1 h).1
    rw [addGo]
    by_cases c1 : r < s.1
    · rw [if_pos ⟨rfl, c1⟩, if_neg (by omega), decide_eq_true c1, Bool.or_true, Bool.true_or, tot_app, tot_cons, tot_nil, tot_cons, tot_addT r n t (fun x hx => by have := hs x hx; omega), tot_cons]
      dsimp only; omega
    · by_cases c2 : s.1 = r
      · rw [if_neg (fun q => c1 q.2), if_pos c2, decide_eq_true c2, Bool.or_true, List.nil_append, tot_cons, tot_addT r n t (fun x hx => by have := hs x hx; omega), tot_cons]
        dsimp only; omega
      · rw [if_neg (fun q => c1 q.2), if_neg c2, decide_eq_false c1, decide_eq_false c2, Bool.or_false, Bool.or_false, List.nil_append, tot_cons, tot_add r n t ht, tot_cons]
        omega

theorem asc_addAll (d : List (Int × Int)) : ∀ (out : List (Int × Int)), Asc out → Asc (addAll out d) ∧ tot (addAll out d) = tot out + tot d := by
  induction d with
  | nil => intro out h; exact ⟨h, by simp [addAll, tot, amts]⟩
  | cons s t ih =>
    intro out h
    have := ih (addGo s.1 s.2 false out) (asc_add h _ _)
    have e : addAll out (s :: t) = addAll (addGo s.1 s.2 false out) t := rfl
    rw [e]
    refine ⟨this.1, ?_⟩
    rw [this.2, tot_add _ _ _ h, tot_cons]; omega

theorem tot_tidy {B : Int} : ∀ {l : List (Int × Int)}, AmtLe B l → tot (tidyL l) = tot l
  | [], _ => rfl
  | s :: t, h => by
    have h1 := h s (by simp)
    have ih := tot_tidy (l := t) (fun x hx => h x (by simp [hx]))
    unfold tidyL at ih ⊢
    by_cases c : 0 < s.2
    · rw [List.filter_cons_of_pos (by simpa using c), tot_cons, tot_cons, ih]
    · rw [List.filter_cons_of_neg (by simpa using c), tot_cons, ih]; omega

theorem amts_zip : ∀ (l : List (Int × Int)) (p : List Int), p.length ≤ l.length → amts (List.zipWith (fun (s : Int × Int) (p : Int) => (s.1, p)) l p) = p
  | _, [], _ => by simp [amts]
  | [], _ :: _, h => by simp at h
  | s :: l, x :: p, h => by
    have ih := amts_zip l p (by simpa using h)
    simp only [List.zipWith_cons_cons, amts, List.map_cons] at ih ⊢
    rw [ih]

theorem tot_div (t : Int) (ws : List (Int × Int)) : tot (divL t ws) = if apB t (amts ws) = true then t else 0 := by
  unfold tot divL
  rw [amts_zip ws _ (by have := apV_len t (amts ws); rwa [amts_len] at this)]
  unfold apV
  split
  · rename_i h; exact App.app_sum (apB_iff.1 h).1
  · rfl

theorem weights_sum (all : Bool) (acc : Int) (l : List Us) : ∀ k, k ≤ l.length → Asc (weightsL all acc (l.take k)) ∧ ((l.take k).any (fun u => countsB u && (all || u.acc == acc)) = true → 1 ≤ tot (weightsL all acc (l.take k))) ∧ ((l.take k).any (fun u => countsB u && (all || u.acc == acc)) = false → weightsL all acc (l.take k) = []) ∧ 0 ≤ tot (weightsL all acc (l.take k))
  | 0, _ => ⟨by simp [weightsL, Asc], by simp, by simp [weightsL], by simp [weightsL, tot, amts]⟩
  | k + 1, h => by
    obtain ⟨h1, h2, h3, h4⟩ := weights_sum all acc l k (by omega)
    rw [weights_take all acc l k h, List.take_succ_eq_append_getElem h, List.any_append]
    unfold wStep
    by_cases c : countsB l[k] = true ∧ (all = true ∨ l[k].acc = acc)
    · have e : (countsB l[k] && (all || l[k].acc == acc)) = true := by simp [c.1]; simpa using c.2
      have hb := counts_bd c.1
      rw [if_pos c, tot_add _ _ _ h1]
      refine ⟨asc_add h1 _ _, fun _ => by omega, fun q => ?_, by omega⟩
      simp only [List.any_cons, List.any_nil, e] at q
      simp at q
    · have e : (countsB l[k] && (all || l[k].acc == acc)) = false := by
        rcases hc : countsB l[k] with _ | _
        · rfl
        · simp only [Bool.true_and, Bool.or_eq_false_iff, beq_eq_false_iff_ne]
          exact ⟨by rcases all with _ | _; rfl; exact absurd ⟨hc, .inl rfl⟩ c, fun q => c ⟨hc, .inr q⟩⟩
      rw [if_neg c]
      simp only [List.any_cons, List.any_nil, e, Bool.or_false]
      exact ⟨h1, h2, h3, h4⟩

theorem weights_all (all : Bool) (acc : Int) (l : List Us) : Asc (weightsL all acc l) ∧ (l.any (fun u => countsB u && (all || u.acc == acc)) = true → 1 ≤ tot (weightsL all acc l)) ∧ (l.any (fun u => countsB u && (all || u.acc == acc)) = false → weightsL all acc l = []) ∧ 0 ≤ tot (weightsL all acc l) := by
  have := weights_sum all acc l l.length (Nat.le_refl _)
  rwa [List.take_length] at this

theorem amt_pos {B : Int} {l : List (Int × Int)} (h : AmtLe B l) : ∀ x ∈ amts l, 0 ≤ x := by
  intro x hx
  obtain ⟨s, hs, rfl⟩ := List.mem_map.1 hx
  exact (h s hs).1

/-- ProRata's sum -/
theorem pro_total {t : Int} (h0 : 0 ≤ t) (h1 : t ≤ 1000000000000000) (l : List Us) (hl : l.length ≤ 60) : tot (tidyL (addAll [] (divL t (weightsL true 0 l)))) = if l.any countsB = true then t else 0 := by
  have hb := (weights_bd true 0 l l.length (Nat.le_refl _))
  rw [List.take_length] at hb
  have hq := addAll_bd (B := 0) (by omega) (out := []) (fun s hs => by simp at hs) (div_bd t (weightsL true 0 l)) _ (Nat.le_refl _)
  rw [List.take_length] at hq
  rw [tot_tidy hq.1, (asc_addAll _ [] List.Pairwise.nil).2, tot_div, tot_nil]
  obtain ⟨w1, w2, w3, w4⟩ := weights_all true 0 l
  have ee : (fun u : Us => countsB u && (true || u.acc == 0)) = countsB := by funext u; simp
  rw [ee] at w2 w3
  have hs := tot_bd hb.1
  by_cases c : l.any countsB = true
  · have e : apB t (amts (weightsL true 0 l)) = true := by
      refine apB_iff.2 ⟨⟨h0, amt_pos hb.1, w2 c⟩, ?_, h1⟩
      have h2 := hs.2
      unfold tot at h2
      have : (2000000000 * (l.length : Int)) * ((weightsL true 0 l).length : Int) ≤ 2000000000 * 60 * 60 := Int.mul_le_mul (by omega) (by omega) (by omega) (by omega)
      omega
    rw [if_pos e, if_pos c]; omega
  · have c' : l.any countsB = false := by simpa using c
    have e : ¬ apB t (amts (weightsL true 0 l)) = true := by
      rw [w3 c']
      intro q
      have := (apB_iff.1 q).1.sum1
      simp [amts] at this
    rw [if_neg e, if_neg c]; rfl

/-- UserCentric's sum -/
theorem user_sum (us : List Us) (l : List (Int × Int)) (hs : ∀ s ∈ l, soundB s = true) : ∀ k, k ≤ l.length → Asc (userA us (l.take k)).1 ∧ tot (userA us (l.take k)).1 + (userA us (l.take k)).2 = tot (l.take k)
  | 0, _ => ⟨by simp [userA, Asc], by simp [userA, tot, amts]⟩
  | k + 1, h => by
    obtain ⟨h1, h2⟩ := user_sum us l hs k (by omega)
    rw [user_take us l k h, List.take_succ_eq_append_getElem h, tot_snoc, ← h2]
    unfold uStep
    rw [if_pos (hs l[k] (List.getElem_mem _))]
    obtain ⟨g1, g2⟩ := asc_addAll (divL l[k].2 (weightsL false l[k].1 us)) _ h1
    dsimp only
    refine ⟨g1, ?_⟩
    rw [g2, tot_div]
    split <;> omega

theorem user_total (us : List Us) (hus : us.length ≤ 60) (l : List (Int × Int)) (hs : ∀ s ∈ l, soundB s = true) : tot (tidyL (userA us l).1) + (userA us l).2 = tot l ∧ 0 ≤ (userA us l).2 := by
  have h1 := (user_sum us l hs l.length (Nat.le_refl _)).2
  have h2 := user_bd us hus l l.length (Nat.le_refl _)
  rw [List.take_length] at h1 h2
  rw [tot_tidy h2.1]
  exact ⟨h1, h2.2.2.1⟩

/-- Held's parts -/
theorem held_own (r : Int) (l : List Us) : ∀ k, k ≤ l.length → ((l.take k).any (fun u => countsB u && u.rcd == r) = true → 1 ≤ (heldS r (l.take k)).1 + (heldS r (l.take k)).2) ∧ ((l.take k).any (fun u => countsB u && u.rcd == r) = false → heldS r (l.take k) = (0, 0))
  | 0, _ => ⟨by simp, by simp [heldS]⟩
  | k + 1, h => by
    obtain ⟨h1, h2⟩ := held_own r l k (by omega)
    have hb := held_bd r l k (by omega)
    rw [held_take r l k h, List.take_succ_eq_append_getElem h, List.any_append]
    unfold hStep
    by_cases c : countsB l[k] = true ∧ l[k].rcd = r
    · have hc := counts_bd c.1
      have e : (countsB l[k] && l[k].rcd == r) = true := by simp [c.1, c.2]
      rw [if_pos c]
      refine ⟨fun _ => by dsimp only; omega, fun q => ?_⟩
      simp only [List.any_cons, List.any_nil, e] at q
      simp at q
    · have e : (countsB l[k] && l[k].rcd == r) = false := by
        rcases hc : countsB l[k] with _ | _
        · rfl
        · simpa using fun q => c ⟨hc, q⟩
      rw [if_neg c]
      simp only [List.any_cons, List.any_nil, e, Bool.or_false]
      exact ⟨h1, h2⟩

theorem held_total {t : Int} (h0 : 0 ≤ t) (h1 : t ≤ 1000000000000000) (r : Int) (l : List Us) (hl : l.length ≤ 60) (p : Int × Int) (hp : heldP t (heldS r l).1 (heldS r l).2 = p) :
    (l.any (fun u => countsB u && u.rcd == r) = true → p.1 + p.2 = t) ∧ (l.any (fun u => countsB u && u.rcd == r) = false → p = (0, 0)) ∧ 0 ≤ p.1 ∧ p.1 ≤ 1000000000000000 ∧ 0 ≤ p.2 ∧ p.2 ≤ 1000000000000000 := by
  obtain ⟨o1, o2⟩ := held_own r l l.length (Nat.le_refl _)
  rw [List.take_length] at o1 o2
  have hb := held_bd' r l
  subst hp
  unfold heldP
  by_cases c : apB t [(heldS r l).1, (heldS r l).2] = true
  · rw [if_pos c]
    have ok := (apB_iff.1 c).1
    have e2 : apV t [(heldS r l).1, (heldS r l).2] = App.app t [(heldS r l).1, (heldS r l).2] := by unfold apV; rw [if_pos c]
    have hs := App.app_sum ok
    have hln : (App.app t [(heldS r l).1, (heldS r l).2]).length = 2 := by rw [App.app_length]; rfl
    have hbd := apV_bd t [(heldS r l).1, (heldS r l).2]
    rw [e2] at hbd ⊢
    obtain ⟨L, hL⟩ : ∃ L, App.app t [(heldS r l).1, (heldS r l).2] = L := ⟨_, rfl⟩
    rw [hL] at hs hln hbd ⊢
    match L, hln with
    | [x, y], _ =>
      have a1 := hbd x (by simp)
      have a2 := hbd y (by simp)
      simp at hs
      refine ⟨fun _ => by simpa using hs, fun q => ?_, by simpa using a1.1, by simpa using a1.2, by simpa using a2.1, by simpa using a2.2⟩
      have := ok.sum1
      rw [o2 q] at this
      simp at this
  · rw [if_neg c]
    refine ⟨fun q => absurd (apB_iff.2 ⟨⟨h0, ?_, ?_⟩, ?_, h1⟩) c, fun _ => rfl, by simp, by simp, by simp, by simp⟩
    · intro x hx
      simp at hx
      rcases hx with rfl | rfl <;> omega
    · have := o1 q; simpa using this
    · simp; omega

theorem pay_sound (l : List (Int × Int)) : ∀ s ∈ payL l, soundB s = true := by
  intro s hs
  obtain ⟨x, _, rfl⟩ := List.mem_map.1 hs
  have h1 := pickZ_lo x.2 100000000000 (by omega)
  have h2 := pickZ_hi x.2 100000000000 (by omega)
  unfold soundB
  exact decide_eq_true ⟨h1, by dsimp only; omega⟩

theorem pay_bd (l : List (Int × Int)) : AmtLe 100000000000 (payL l) ∧ S64 (payL l) := by
  refine ⟨fun s hs => ?_, fun s hs => ?_⟩
  · obtain ⟨x, _, rfl⟩ := List.mem_map.1 hs
    have h1 := pickZ_lo x.2 100000000000 (by omega)
    have h2 := pickZ_hi x.2 100000000000 (by omega)
    dsimp only; omega
  · obtain ⟨x, _, rfl⟩ := List.mem_map.1 hs
    have h1 := pickZ_lo x.1 8 (by omega)
    have h2 := pickZ_hi x.1 8 (by omega)
    exact WalkArith.wf_i64 (by dsimp only; omega)

theorem few_small (l : List Us) : ∀ u ∈ fewL false l, (0 ≤ u.acc ∧ u.acc < 6) ∧ (0 ≤ u.rcd ∧ u.rcd < 8) ∧ (0 ≤ u.val ∧ u.val < 50) ∧ (0 ≤ u.held ∧ u.held < 9) := by
  intro u hu
  obtain ⟨x, _, rfl⟩ := List.mem_map.1 hu
  simp only [Bool.false_eq_true, if_false, smallU]
  exact ⟨⟨pickZ_lo _ _ (by omega), pickZ_hi _ _ (by omega)⟩, ⟨pickZ_lo _ _ (by omega), pickZ_hi _ _ (by omega)⟩, ⟨pickZ_lo _ _ (by omega), pickZ_hi _ _ (by omega)⟩, ⟨pickZ_lo _ _ (by omega), pickZ_hi _ _ (by omega)⟩⟩

theorem few_U64 (l : List Us) : U64 (fewL false l) := fun u hu => by
  have := few_small l u hu
  exact ⟨WalkArith.wf_i64 (by omega), WalkArith.wf_i64 (by omega)⟩

end Go.Proofs.Ytbkmcncakpmgkaa

/-! What the parts of 'nothing lost' hand back, said in plain numbers. -/
namespace Go.Proofs.Ytbkmcncakpmgkaa
set_option linter.unusedVariables false
open Go.ChangeShapes Go.WideShapes Go.ChangeAt Go.RowKit

theorem amt_tot {B : Int} {l : List (Int × Int)} (h : AmtLe B l) : AmtLe (tot l) l := by
  intro s hs
  obtain ⟨i, hi, rfl⟩ := List.getElem_of_mem hs
  have := getD_le_sum (amt_pos h) i
  have e : (amts l).getD i 0 = l[i].2 := by simp [amts, hi]
  rw [e] at this
  exact this

theorem amt_tidy {B : Int} {l : List (Int × Int)} (h : AmtLe B l) : AmtLe B (tidyL l) := fun s hs => h s (List.mem_filter.1 hs).1

theorem few_calls (ao : Option Addr) (cap m : Nat) (l : List Us) (hm : m ≤ 9223372036854775807) (hl : l.length = m) (hw : Us64 l) :
    ∃ (us : List Us) (n : Nat), us = fewL false l ∧ us.length = n ∧ n ≤ 40 ∧ U64 us ∧ ∀ W, RowK 4 encU W ao l → Calls Try.prog 10 #[.slice ao m cap, .bool false] W fun e w' => ∃ uo uc, e = .returned (.slice uo n uc) ∧ RowK 4 encU w' uo us ∧ Below W.heap.size W w' :=
  ⟨fewL false l, _, rfl, rfl, few_len _ _, few_U64 l, fun W hr => (few_any false ao cap m l W hm hl hr hw).mono fun e w' ⟨uo, uc, h1, _, h3, h4⟩ => ⟨uo, uc, h1, h3, h4⟩⟩

theorem pay_calls (ao : Option Addr) (cap m : Nat) (l : List (Int × Int)) (hm : m ≤ 9223372036854775807) (hl : l.length = m) (hw : ∀ s ∈ l, (Lit.int .i64 s.1).wf = true ∧ (Lit.int .i64 s.2).wf = true) :
    ∃ (p : List (Int × Int)) (n : Nat), p = payL l ∧ p.length = n ∧ n ≤ 12 ∧ S64 p ∧ AmtLe 100000000000 p ∧ (∀ s ∈ p, soundB s = true) ∧ ∀ W, RowK 2 encS W ao l → Calls Try.prog 11 #[.slice ao m cap] W fun e w' => ∃ uo uc, e = .returned (.slice uo n uc) ∧ RowK 2 encS w' uo p ∧ Below W.heap.size W w' :=
  ⟨payL l, _, rfl, rfl, pay_len _, (pay_bd l).2, (pay_bd l).1, pay_sound l, fun W hr => (payments_any ao cap m l W hm hl hr hw).mono fun e w' ⟨uo, uc, h1, _, h3, h4⟩ => ⟨uo, uc, h1, h3, h4⟩⟩

theorem pro_calls (t : Int) (h0 : 0 ≤ t) (h1 : t ≤ 1000000000000000) (us : List Us) (n : Nat) (hl : us.length = n) (hn : n ≤ 40) (hU : U64 us) :
    ∃ (A : List (Int × Int)) (na : Nat), A.length = na ∧ na ≤ 1000 ∧ AmtLe 9000000000000000 A ∧ tot A = (if us.any countsB = true then t else 0) ∧ ∀ W uo uc, RowK 4 encU W uo us → Calls Try.prog 20 #[.int .i64 t, .slice uo n uc] W fun e w' => ∃ ao ac, e = .returned (.slice ao na ac) ∧ RowK 2 encS w' ao A ∧ Below W.heap.size W w' := by
  have ht := pro_total h0 h1 us (by omega)
  have hw := (weights_bd true 0 us us.length (Nat.le_refl _)).2
  rw [List.take_length] at hw
  have hd := div_len_le t (weightsL true 0 us)
  have hq := addAll_bd (B := 0) (by omega) (out := []) (fun s hs => by simp at hs) (div_bd t (weightsL true 0 us)) _ (Nat.le_refl _)
  rw [List.take_length] at hq
  have h2 := amt_tot (amt_tidy hq.1)
  refine ⟨tidyL (addAll [] (divL t (weightsL true 0 us))), _, rfl, ?_, h2.mono ?_, ht, fun W uo uc hr => (prorata_any t uo uc n us W (by omega) hl hr hU).mono fun e w' ⟨uo, uc, h1, _, h3, h4⟩ => ⟨uo, uc, h1, h3, h4⟩⟩
  · have := List.length_filter_le (fun s : Int × Int => decide (0 < s.2)) (addAll [] (divL t (weightsL true 0 us)))
    have h3 := hq.2
    simp only [List.length_nil] at h3
    unfold tidyL; omega
  · rw [ht]; split <;> omega

theorem user_calls (us : List Us) (n : Nat) (hl : us.length = n) (hn : n ≤ 40) (hU : U64 us) (p : List (Int × Int)) (np : Nat) (hlp : p.length = np) (hnp : np ≤ 12) (hS : S64 p) (hA : AmtLe 100000000000 p) (hs : ∀ s ∈ p, soundB s = true) :
    ∃ (A : List (Int × Int)) (na : Nat) (q : Int), A.length = na ∧ na ≤ 1000 ∧ AmtLe 9000000000000000 A ∧ tot A + q = tot p ∧ 0 ≤ tot A ∧ 0 ≤ q ∧ tot p ≤ 1200000000000 ∧ ∀ W po pc uo uc, RowK 2 encS W po p → RowK 4 encU W uo us → Calls Try.prog 12 #[.slice po np pc, .slice uo n uc] W fun e w' => ∃ ao ac, e = .returned (.tuple #[.slice ao na ac, .int .i64 q]) ∧ RowK 2 encS w' ao A ∧ Below W.heap.size W w' := by
  obtain ⟨t1, t2⟩ := user_total us (by omega) p hs
  have hb := user_bd us (by omega) p p.length (Nat.le_refl _)
  rw [List.take_length] at hb
  have h2 := amt_tot (amt_tidy hb.1)
  have h3 := (tot_bd (amt_tidy hb.1)).1
  have h4 := tot_bd hA
  refine ⟨tidyL (userA us p).1, _, (userA us p).2, rfl, ?_, h2.mono (by omega), t1, h3, t2, by omega, fun W po pc uo uc hr hru => (user_any po uo pc uc np n p us W (by omega) (by omega) hlp hl hr hru hS hU).mono fun e w' ⟨uo, uc, h1, _, h3, h4⟩ => ⟨uo, uc, h1, h3, h4⟩⟩
  have := List.length_filter_le (fun s : Int × Int => decide (0 < s.2)) (userA us p).1
  have h5 := hb.2.1
  unfold tidyL; omega

theorem held_calls (t : Int) (h0 : 0 ≤ t) (h1 : t ≤ 1000000000000000) (r : Int) (us : List Us) (n : Nat) (hl : us.length = n) (hn : n ≤ 40) :
    ∃ x y : Int, (us.any (fun u => countsB u && u.rcd == r) = true → x + y = t) ∧ (us.any (fun u => countsB u && u.rcd == r) = false → x = 0 ∧ y = 0) ∧ 0 ≤ x ∧ x ≤ 1000000000000000 ∧ 0 ≤ y ∧ y ≤ 1000000000000000 ∧ ∀ W uo uc, RowK 4 encU W uo us → Calls Try.prog 18 #[.int .i64 t, .int .i64 r, .slice uo n uc] W fun e w' => e = .returned (.tuple #[.int .i64 x, .int .i64 y]) ∧ Below W.heap.size W w' := by
  obtain ⟨a, b, c⟩ := held_total h0 h1 r us (by omega) _ rfl
  exact ⟨_, _, a, (fun h => by have := b h; exact ⟨congrArg Prod.fst this, congrArg Prod.snd this⟩), c.1, c.2.1, c.2.2.1, c.2.2.2, fun W uo uc hr => held_any t r uo uc n us W (by omega) hl hr⟩

end Go.Proofs.Ytbkmcncakpmgkaa
