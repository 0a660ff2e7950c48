/-
  Each payment stands alone: the plain law.
-/
import Derived.Test.YtbkmcncakpmgkaaOrA
namespace Go.Proofs.Ytbkmcncakpmgkaa
set_option linter.unusedVariables false
open Go.ChangeShapes Go.WideShapes Go.ChangeAt Go.RowKit

def ownL (acc : Int) (l : List Us) : List Us := l.filter fun u => u.acc == acc

theorem ownL_yes {acc : Int} {l : List Us} {k : Nat} (h : k < l.length) (hc : l[k].acc = acc) : ownL acc (l.take (k + 1)) = ownL acc (l.take k) ++ [l[k]] := by
  unfold ownL; rw [List.take_succ_eq_append_getElem h, List.filter_append]; simp [hc]
theorem ownL_no {acc : Int} {l : List Us} {k : Nat} (h : k < l.length) (hc : l[k].acc ≠ acc) : ownL acc (l.take (k + 1)) = ownL acc (l.take k) := by
  unfold ownL; rw [List.take_succ_eq_append_getElem h, List.filter_append]; simp [hc]

theorem own_weights' (acc : Int) : ∀ (l : List Us) (out : List (Int × Int)), (ownL acc l).foldl (wStep false acc) out = l.foldl (wStep false acc) out
  | [], _ => rfl
  | u :: t, out => by
    unfold ownL
    by_cases c : u.acc = acc
    · rw [List.filter_cons_of_pos (by simpa using c), List.foldl_cons, List.foldl_cons]; exact own_weights' acc t _
    · rw [List.filter_cons_of_neg (by simpa using c), List.foldl_cons]
      have e : wStep false acc out u = out := by unfold wStep; rw [if_neg (fun q => by rcases q.2 with q | q; cases q; exact c q)]
      rw [e]; exact own_weights' acc t _
theorem own_weights (acc : Int) (l : List Us) : weightsL false acc (ownL acc l) = weightsL false acc l := own_weights' acc l []

theorem own_user (l : List Us) (s : Int × Int) : userA (ownL s.1 l) [s] = userA l [s] := by
  unfold userA
  simp only [List.foldl_cons, List.foldl_nil]
  unfold uStep
  rw [own_weights]

theorem addGo_ks {r n : Int} : ∀ (l : List (Int × Int)) (d : Bool), ∀ s ∈ addGo r n d l, s.1 = r ∨ ∃ p ∈ l, p.1 = s.1
  | [], d, s, hs => by
    unfold addGo at hs
    split at hs
    · simp at hs
    · simp at hs; subst hs; exact .inl rfl
  | p :: t, d, s, hs => by
    rw [addGo] at hs
    rcases List.mem_append.1 hs with hs | hs
    · split at hs
      · simp at hs; subst hs; exact .inl rfl
      · simp at hs
    · rcases List.mem_cons.1 hs with e | hs
      · refine .inr ⟨p, by simp, ?_⟩
        subst e
        split <;> rfl
      · rcases addGo_ks t _ s hs with h | ⟨q, hq, e⟩
        · exact .inl h
        · exact .inr ⟨q, by simp [hq], e⟩

theorem addAll_keys : ∀ (d out : List (Int × Int)), ∀ s ∈ addAll out d, (∃ p ∈ d, p.1 = s.1) ∨ ∃ p ∈ out, p.1 = s.1
  | [], out, s, hs => .inr ⟨s, hs, rfl⟩
  | q :: t, out, s, hs => by
    have e : addAll out (q :: t) = addAll (addGo q.1 q.2 false out) t := rfl
    rw [e] at hs
    rcases addAll_keys t _ s hs with ⟨p, hp, e⟩ | ⟨p, hp, e⟩
    · exact .inl ⟨p, by simp [hp], e⟩
    · rcases addGo_ks _ _ p hp with h | ⟨p', hp', e'⟩
      · exact .inl ⟨q, by simp, by rw [← e, h]⟩
      · exact .inr ⟨p', hp', by rw [e', e]⟩

theorem div_keys {t : Int} {ws : List (Int × Int)} : ∀ s ∈ divL t ws, ∃ p ∈ ws, p.1 = s.1 := by
  intro s hs
  have h1 : s.1 ∈ (divL t ws).map (·.1) := List.mem_map_of_mem hs
  unfold divL at h1
  rw [zip_fst] at h1
  obtain ⟨q, hq, e⟩ := List.mem_map.1 (List.mem_of_mem_take h1)
  exact ⟨q, hq, e⟩

theorem weights_keys (all : Bool) (acc : Int) : ∀ (l : List Us) (out : List (Int × Int)), ∀ s ∈ l.foldl (wStep all acc) out, (∃ u ∈ l, u.rcd = s.1) ∨ ∃ p ∈ out, p.1 = s.1
  | [], out, s, hs => .inr ⟨s, hs, rfl⟩
  | u :: t, out, s, hs => by
    rw [List.foldl_cons] at hs
    rcases weights_keys all acc t _ s hs with ⟨p, hp, e⟩ | ⟨p, hp, e⟩
    · exact .inl ⟨p, by simp [hp], e⟩
    · unfold wStep at hp
      split at hp
      · rcases addGo_ks _ _ p hp with h | ⟨p', hp', e'⟩
        · exact .inl ⟨u, by simp, by rw [← e, h]⟩
        · exact .inr ⟨p', hp', by rw [e', e]⟩
      · exact .inr ⟨p, hp, e⟩

theorem user_keys (us : List Us) : ∀ (l : List (Int × Int)) (o : List (Int × Int) × Int), ∀ s ∈ (l.foldl (uStep us) o).1, (∃ u ∈ us, u.rcd = s.1) ∨ ∃ p ∈ o.1, p.1 = s.1
  | [], o, s, hs => .inr ⟨s, hs, rfl⟩
  | q :: t, o, s, hs => by
    rw [List.foldl_cons] at hs
    rcases user_keys us t _ s hs with h | ⟨p, hp, e⟩
    · exact .inl h
    · unfold uStep at hp
      split at hp
      · rcases addAll_keys _ _ p hp with ⟨p', hp', e'⟩ | ⟨p', hp', e'⟩
        · obtain ⟨p2, hp2, e2⟩ := div_keys p' hp'
          rcases weights_keys false q.1 us [] p2 hp2 with ⟨u, hu, e3⟩ | ⟨p3, hp3, _⟩
          · exact .inl ⟨u, hu, by rw [e3, e2, e', e]⟩
          · simp at hp3
        · exact .inr ⟨p', hp', by rw [e', e]⟩
      · exact .inr ⟨p, hp, e⟩

theorem userA_keys (us : List Us) (l : List (Int × Int)) : ∀ s ∈ tidyL (userA us l).1, ∃ u ∈ us, u.rcd = s.1 := by
  intro s hs
  rcases user_keys us l ([], 0) s (List.mem_filter.1 hs).1 with h | ⟨p, hp, _⟩
  · exact h
  · simp at hp

/-- Merge's look-ups -/
theorem merge_get : ∀ (l out : List (Int × Int)), Asc out → (∀ s ∈ l, soundB s = true) → Asc (l.foldl mStep out) ∧ ∀ x, getL (l.foldl mStep out) x = getL out x + (l.map fun s => if s.1 = x then s.2 else 0).sum
  | [], out, h, _ => ⟨h, fun x => by simp⟩
  | s :: t, out, h, hs => by
    have e : mStep out s = addGo s.1 s.2 false out := by unfold mStep; rw [if_pos (hs s (by simp))]
    obtain ⟨h1, h2⟩ := merge_get t (mStep out s) (by rw [e]; exact asc_add h _ _) (fun q hq => hs q (by simp [hq]))
    rw [List.foldl_cons]
    refine ⟨h1, fun x => ?_⟩
    rw [h2 x, e, getL_add h, List.map_cons, List.sum_cons]
    by_cases c : s.1 = x
    · rw [if_pos c, if_pos c.symm]; omega
    · rw [if_neg c, if_neg (fun q => c q.symm)]; omega

theorem sum_get (x : Int) : ∀ {l : List (Int × Int)}, Asc l → (l.map fun s => if s.1 = x then s.2 else 0).sum = getL l x
  | [], _ => rfl
  | s :: t, h => by
    obtain ⟨h1, h2⟩ := List.pairwise_cons.1 h
    rw [List.map_cons, List.sum_cons, sum_get x h2]
    conv => rhs; rw [getL]
    by_cases c : s.1 = x
    · rw [if_pos c, if_pos c, getL_no (l := t) (fun p hp => by have := h1 p hp; omega)]; omega
    · rw [if_neg c, if_neg c]; omega

theorem tot_take_le {B : Int} {l : List (Int × Int)} (h : AmtLe B l) (k : Nat) : tot (l.take k) ≤ tot l := by
  have e : tot l = tot (l.take k) + tot (l.drop k) := by rw [← tot_app, List.take_append_drop]
  have := (tot_bd (l := l.drop k) (fun s hs => h s (List.mem_of_mem_drop hs))).1
  omega

/-- what the rounds have gathered -/
def sumA (us : List Us) (l : List (Int × Int)) : List (Int × Int) := tidyL (userA us l).1

theorem sumA_bd (us : List Us) (hus : us.length ≤ 40) (hs : SmallU us) {l : List (Int × Int)} (hl : l.length ≤ 12) (hA : AmtLe 100000000000 l) (hsn : ∀ s ∈ l, soundB s = true) :
    Asc (sumA us l) ∧ (∀ s ∈ sumA us l, 0 < s.2 ∧ s.2 ≤ 1200000000000) ∧ S64 (sumA us l) ∧ (sumA us l).length ≤ 1000 ∧ 0 ≤ (userA us l).2 ∧ (userA us l).2 ≤ 1200000000000 := by
  obtain ⟨a1, a2, a3⟩ := user_get us l l.length (Nat.le_refl _)
  have hb := user_bd us (by omega) l l.length (Nat.le_refl _)
  obtain ⟨t1, t2⟩ := user_total us (by omega) l hsn
  rw [List.take_length] at a1 a2 a3 hb
  have hp := tot_bd hA
  have h0 := tot_bd (amt_tidy hb.1)
  have h2 := amt_tot (amt_tidy hb.1)
  have hT : tot (tidyL (userA us l).1) ≤ 1200000000000 := by omega
  refine ⟨a1.filter _, fun s hs => ⟨of_decide_eq_true (List.mem_filter.1 hs).2, ?_⟩, fun s hs' => ?_, ?_, t2, by omega⟩
  · have := (h2 s hs).2; omega
  · obtain ⟨u, hu, e⟩ := userA_keys us l s hs'
    have := hs u hu
    exact WalkArith.wf_i64 (by omega)
  · have := List.length_filter_le (fun s : Int × Int => decide (0 < s.2)) (userA us l).1
    have h5 := hb.2.1
    unfold sumA tidyL; omega

theorem sumA_step (us : List Us) (hus : us.length ≤ 40) (hs : SmallU us) {l : List (Int × Int)} (hl : l.length ≤ 12) (hA : AmtLe 100000000000 l) (hsn : ∀ s ∈ l, soundB s = true) (k : Nat) (hk : k < l.length) :
    tidyL (mergeA (sumA us (l.take k) ++ sumA us [l[k]])) = sumA us (l.take (k + 1)) ∧ (userA us (l.take (k + 1))).2 = (userA us (l.take k)).2 + (userA us [l[k]]).2 := by
  have sub1 : ∀ s ∈ l.take k, s ∈ l := fun s h => List.mem_of_mem_take h
  have sub2 : ∀ s ∈ [l[k]], s ∈ l := fun s h => by simp at h; subst h; exact List.getElem_mem _
  have b1 := sumA_bd us hus hs (l := l.take k) (by rw [List.length_take]; omega) (fun s h => hA s (sub1 s h)) (fun s h => hsn s (sub1 s h))
  have b2 := sumA_bd us hus hs (l := [l[k]]) (by simp) (fun s h => hA s (sub2 s h)) (fun s h => hsn s (sub2 s h))
  obtain ⟨u1, u2, u3⟩ := user_get us l k (by omega)
  obtain ⟨v1, v2, v3⟩ := user_get us l (k + 1) (by omega)
  obtain ⟨w1, w2, w3⟩ := user_get us [l[k]] 1 (by simp)
  have e1 : [l[k]].take 1 = [l[k]] := rfl
  rw [e1] at w1 w2 w3
  have snd : ∀ s ∈ sumA us (l.take k) ++ sumA us [l[k]], soundB s = true := fun s h => by
    rcases List.mem_append.1 h with h | h
    · have := b1.2.1 s h; exact decide_eq_true ⟨by omega, by omega⟩
    · have := b2.2.1 s h; exact decide_eq_true ⟨by omega, by omega⟩
  obtain ⟨m1, m2⟩ := merge_get _ [] List.Pairwise.nil snd
  have mb := (merge_bd' (sumA us (l.take k) ++ sumA us [l[k]])).1
  have ub := (user_bd us (by omega) l k (by omega)).1
  have vb := (user_bd us (by omega) l (k + 1) (by omega)).1
  have wb := (user_bd us (by omega) [l[k]] 1 (by simp)).1
  rw [e1] at wb
  refine ⟨asc_ext (m1.filter _) (v1.filter _) (fun s hs => of_decide_eq_true (List.mem_filter.1 hs).2) (fun s hs => of_decide_eq_true (List.mem_filter.1 hs).2) (fun x => ?_), ?_⟩
  · have g1 : getL (tidyL (mergeA (sumA us (l.take k) ++ sumA us [l[k]]))) x = getL (mergeA (sumA us (l.take k) ++ sumA us [l[k]])) x := getL_tidy x mb m1
    have g2 : getL (tidyL (userA us (l.take (k + 1))).1) x = getL (userA us (l.take (k + 1))).1 x := getL_tidy x vb v1
    have g3 : getL (sumA us (l.take k)) x = getL (userA us (l.take k)).1 x := getL_tidy x ub u1
    have g4 : getL (sumA us [l[k]]) x = getL (userA us [l[k]]).1 x := getL_tidy x wb w1
    have g5 := m2 x
    rw [List.map_append, List.sum_append, sum_get x b1.1, sum_get x b2.1, g3, g4, u2 x, w2 x] at g5
    change getL (tidyL (mergeA (sumA us (l.take k) ++ sumA us [l[k]]))) x = getL (tidyL (userA us (l.take (k + 1))).1) x
    rw [g1, g2, v2 x, List.take_succ_eq_append_getElem hk, List.map_append, List.sum_append]
    have g6 : getL (mergeA (sumA us (l.take k) ++ sumA us [l[k]])) x = 0 + (((l.take k).map (pay1 us x)).sum + ([l[k]].map (pay1 us x)).sum) := g5
    rw [g6]; omega
  · rw [u3, v3, w3, List.take_succ_eq_append_getElem hk, List.map_append, List.sum_append]

end Go.Proofs.Ytbkmcncakpmgkaa
