/-
  The order does not matter: the plain law.
-/
import Derived.Test.YtbkmcncakpmgkaaFrA
namespace Go.Proofs.Ytbkmcncakpmgkaa
set_option linter.unusedVariables false
open Go.ChangeShapes Go.WideShapes Go.ChangeAt Go.RowKit

/-- an ascending list of positive amounts is told by its look-ups -/
theorem asc_ext : ∀ {a b : List (Int × Int)}, Asc a → Asc b → (∀ s ∈ a, 0 < s.2) → (∀ s ∈ b, 0 < s.2) → (∀ x, getL a x = getL b x) → a = b
  | [], [], _, _, _, _, _ => rfl
  | [], q :: b, _, _, _, h4, h => by
    have := h q.1
    have h0 := h4 q (by simp)
    simp [getL] at this; omega
  | p :: a, [], _, _, h3, _, h => by
    have := h p.1
    have h0 := h3 p (by simp)
    simp [getL] at this; omega
  | p :: a, q :: b, h1, h2, h3, h4, h => by
    obtain ⟨g1, k1⟩ := List.pairwise_cons.1 h1
    obtain ⟨g2, k2⟩ := List.pairwise_cons.1 h2
    have hp := h3 p (by simp)
    have hq := h4 q (by simp)
    rcases Int.lt_trichotomy p.1 q.1 with c | c | c
    · have e := h p.1
      rw [getL_no (l := q :: b) (fun s hs => by rcases List.mem_cons.1 hs with rfl | hs; omega; have := g2 s hs; omega)] at e
      simp [getL] at e; omega
    · have e := h p.1
      unfold getL at e
      rw [if_pos rfl, if_pos c.symm] at e
      have ht : a = b := asc_ext k1 k2 (fun s hs => h3 s (by simp [hs])) (fun s hs => h4 s (by simp [hs])) (fun x => by
        have ex := h x
        unfold getL at ex
        by_cases d : p.1 = x
        · rw [getL_no (l := a) (fun s hs => by have := g1 s hs; omega), getL_no (l := b) (fun s hs => by have := g2 s hs; omega)]
        · rw [if_neg d, if_neg (by omega)] at ex; exact ex)
      obtain ⟨p1, p2⟩ := p
      obtain ⟨q1, q2⟩ := q
      dsimp only at c e
      subst c e ht; rfl
    · have e := h q.1
      rw [getL_no (l := p :: a) (fun s hs => by rcases List.mem_cons.1 hs with rfl | hs; omega; have := g1 s hs; omega)] at e
      simp [getL] at e; omega

/-- what a usage adds to a recording's weight -/
def wf1 (all : Bool) (acc x : Int) (u : Us) : Int := if (all = true ∨ u.acc = acc) ∧ u.rcd = x then u.val + u.held else 0
def wsum (all : Bool) (acc x : Int) (l : List Us) : Int := (l.map (wf1 all acc x)).sum

theorem wsum_snoc (all : Bool) (acc x : Int) (l : List Us) (u : Us) : wsum all acc x (l ++ [u]) = wsum all acc x l + wf1 all acc x u := by simp [wsum]

theorem addGo_pos {r n : Int} (hn : 0 < n) : ∀ (l : List (Int × Int)) (d : Bool), (∀ s ∈ l, 0 < s.2) → ∀ s ∈ addGo r n d l, 0 < s.2
  | [], d, _, s, hs => by
    unfold addGo at hs
    split at hs
    · simp at hs
    · simp at hs; subst hs; exact hn
  | p :: t, d, h, s, hs => by
    have hp := h p (by simp)
    rw [addGo] at hs
    rcases List.mem_append.1 hs with hs | hs
    · split at hs
      · simp at hs; subst hs; exact hn
      · simp at hs
    · rcases List.mem_cons.1 hs with e | hs
      · subst e
        split
        · dsimp only; omega
        · exact hp
      · exact addGo_pos hn t _ (fun q hq => h q (by simp [hq])) s hs

theorem weights_w (all : Bool) (acc x : Int) (l : List Us) (hs : SmallU l) : ∀ k, k ≤ l.length → getL (weightsL all acc (l.take k)) x = wsum all acc x (l.take k) ∧ ∀ s ∈ weightsL all acc (l.take k), 0 < s.2
  | 0, _ => ⟨by simp [weightsL, wsum, getL], by simp [weightsL]⟩
  | k + 1, h => by
    obtain ⟨ih, ip⟩ := weights_w all acc x l hs k (by omega)
    have ha := (weights_sum all acc l k (by omega)).1
    have hu := hs l[k] (List.getElem_mem _)
    rw [weights_take all acc l k h, List.take_succ_eq_append_getElem h, wsum_snoc, ← ih]
    unfold wStep wf1
    by_cases c : countsB l[k] = true
    · have hc := counts_bd c
      by_cases e : all = true ∨ l[k].acc = acc
      · rw [if_pos ⟨c, e⟩, getL_add ha]
        refine ⟨?_, addGo_pos hc.2.2.2.2 _ _ ip⟩
        by_cases e2 : l[k].rcd = x
        · rw [if_pos e2.symm, if_pos ⟨e, e2⟩]
        · rw [if_neg (fun q => e2 q.symm), if_neg (fun q => e2 q.2)]
      · rw [if_neg (fun q => e q.2), if_neg (fun q => e q.1)]
        exact ⟨by omega, ip⟩
    · have h0 : ¬ 0 < l[k].val + l[k].held := fun q => c (decide_eq_true ⟨by omega, by omega, by omega, by omega, q⟩)
      rw [if_neg (fun q => c q.1)]
      refine ⟨?_, ip⟩
      split <;> omega

/-- two lists of usages weigh alike -/
def WEq (a b : List Us) : Prop := ∀ all acc x, wsum all acc x a = wsum all acc x b

theorem weights_eq {a b : List Us} (ha : SmallU a) (hb : SmallU b) (h : WEq a b) (all : Bool) (acc : Int) : weightsL all acc a = weightsL all acc b := by
  have h1 := fun x => weights_w all acc x a ha a.length (Nat.le_refl _)
  have h2 := fun x => weights_w all acc x b hb b.length (Nat.le_refl _)
  simp only [List.take_length] at h1 h2
  exact asc_ext (weights_all all acc a).1 (weights_all all acc b).1 (h1 0).2 (h2 0).2 (fun x => by rw [(h1 x).1, (h2 x).1, h all acc x])

theorem WEq.perm {a b : List Us} (h : a.Perm b) : WEq a b := fun all acc x => App.sum_perm _ h

theorem userA_eq {a b : List Us} (h : ∀ acc, weightsL false acc a = weightsL false acc b) (l : List (Int × Int)) : userA a l = userA b l := by
  unfold userA
  have e : uStep a = uStep b := by funext p s; unfold uStep; rw [h]
  rw [e]

/-- what a payment gives to a recording, and what it leaves -/
def pay1 (us : List Us) (x : Int) (s : Int × Int) : Int := if soundB s = true then getL (divL s.2 (weightsL false s.1 us)) x else 0
def rest1 (us : List Us) (s : Int × Int) : Int := if soundB s = true then (if apB s.2 (amts (weightsL false s.1 us)) = true then 0 else s.2) else 0

theorem getL_addAll (x : Int) : ∀ (d out : List (Int × Int)), Asc out → Asc d → getL (addAll out d) x = getL out x + getL d x
  | [], out, _, _ => by simp [addAll, getL]
  | s :: t, out, h, hd => by
    obtain ⟨h1, h2⟩ := List.pairwise_cons.1 hd
    have e : addAll out (s :: t) = addAll (addGo s.1 s.2 false out) t := rfl
    rw [e, getL_addAll x t _ (asc_add h _ _) h2, getL_add h]
    conv => rhs; rw [getL]
    by_cases c : s.1 = x
    · rw [if_pos c.symm, if_pos c, getL_no (l := t) (fun p hp => by have := h1 p hp; omega)]; omega
    · rw [if_neg (fun q => c q.symm), if_neg c]; omega

theorem user_get (us : List Us) (l : List (Int × Int)) : ∀ k, k ≤ l.length → Asc (userA us (l.take k)).1 ∧ (∀ x, getL (userA us (l.take k)).1 x = ((l.take k).map (pay1 us x)).sum) ∧ (userA us (l.take k)).2 = ((l.take k).map (rest1 us)).sum
  | 0, _ => ⟨by simp [userA, Asc], fun x => by simp [userA, getL], by simp [userA]⟩
  | k + 1, h => by
    obtain ⟨h1, h2, h3⟩ := user_get us l k (by omega)
    rw [user_take us l k h, List.take_succ_eq_append_getElem h]
    simp only [List.map_append, List.sum_append, List.map_cons, List.map_nil, List.sum_cons, List.sum_nil]
    unfold uStep
    have hw := (weights_all false l[k].1 us).1
    by_cases c : soundB l[k] = true
    · rw [if_pos c]
      refine ⟨(asc_addAll _ _ h1).1, fun x => ?_, ?_⟩
      · dsimp only
        rw [getL_addAll x _ _ h1 (asc_div _ hw), h2 x]
        unfold pay1; rw [if_pos c]; omega
      · dsimp only
        rw [← h3]
        unfold rest1; rw [if_pos c]
        split <;> omega
    · rw [if_neg c]
      refine ⟨h1, fun x => ?_, ?_⟩
      · rw [h2 x]; unfold pay1; rw [if_neg c]; omega
      · rw [h3]; unfold rest1; rw [if_neg c]; omega

theorem user_perm (us : List Us) (hus : us.length ≤ 60) {a b : List (Int × Int)} (h : a.Perm b) : tidyL (userA us a).1 = tidyL (userA us b).1 ∧ (userA us a).2 = (userA us b).2 := by
  obtain ⟨a1, a2, a3⟩ := user_get us a a.length (Nat.le_refl _)
  obtain ⟨b1, b2, b3⟩ := user_get us b b.length (Nat.le_refl _)
  have ab := (user_bd us hus a a.length (Nat.le_refl _)).1
  have bb := (user_bd us hus b b.length (Nat.le_refl _)).1
  rw [List.take_length] at a1 a2 a3 b1 b2 b3 ab bb
  refine ⟨asc_ext (a1.filter _) (b1.filter _) (fun s hs => of_decide_eq_true (List.mem_filter.1 hs).2) (fun s hs => of_decide_eq_true (List.mem_filter.1 hs).2) (fun x => ?_), ?_⟩
  · rw [getL_tidy x ab a1, getL_tidy x bb b1, a2, b2]; exact App.sum_perm _ h
  · rw [a3, b3]; exact App.sum_perm _ h

end Go.Proofs.Ytbkmcncakpmgkaa
