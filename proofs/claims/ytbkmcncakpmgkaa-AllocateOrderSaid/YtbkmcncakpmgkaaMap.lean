/-
  A map from integers to integers as a list of pairs that ascends by key: look-up, store, keys.
-/
import Derived.Test.YtbkmcncakpmgkaaKA
import Derived.Maps.OwnIn
import Derived.Maps.Range
namespace Go.Proofs.Ytbkmcncakpmgkaa
set_option linter.unusedVariables false
open Go.ChangeShapes Go.WideShapes Go.ChangeAt Go.RowKit Go.Maps

def Asc (l : List (Int × Int)) : Prop := l.Pairwise (fun p q => p.1 < q.1)
def encE (p : Int × Int) : Lit × DataW Unit := (.int .i64 p.1, .lit (.int .i64 p.2))
def MD (l : List (Int × Int)) : DataW Unit := .map (l.map encE)
def getL : List (Int × Int) → Int → Int
  | [], _ => 0
  | p :: t, r => if p.1 = r then p.2 else getL t r

theorem getL_no {r : Int} : ∀ {l : List (Int × Int)}, (∀ p ∈ l, p.1 ≠ r) → getL l r = 0
  | [], _ => rfl
  | p :: t, h => by
    unfold getL
    rw [if_neg (h p (by simp)), getL_no (fun q hq => h q (by simp [hq]))]

theorem getL_mem {l : List (Int × Int)} (ha : Asc l) : ∀ {p : Int × Int}, p ∈ l → getL l p.1 = p.2 := by
  induction l with
  | nil => intro p hp; simp at hp
  | cons s t ih =>
    intro p hp
    obtain ⟨h1, h2⟩ := List.pairwise_cons.1 ha
    rcases List.mem_cons.1 hp with rfl | hp
    · simp [getL]
    · have := h1 p hp
      unfold getL
      rw [if_neg (by omega)]
      exact ih h2 hp

theorem md_at (l : List (Int × Int)) (r : Int) : (MD l).atKey (.int .i64 r) (.lit (.int .i64 0)) = .lit (.int .i64 (getL l r)) := by
  induction l with
  | nil => rfl
  | cons s t ih =>
    unfold MD DataW.atKey at ih ⊢
    dsimp only at ih ⊢
    unfold getL
    by_cases h : s.1 = r
    · simp [encE, Lit.sameKey, h]
    · rw [if_neg h, ← ih]
      simp [encE, Lit.sameKey, h]

theorem md_has (l : List (Int × Int)) (r : Int) : has (MD l) (.int .i64 r) = decide (r ∈ l.map (·.1)) := by
  rw [Bool.eq_iff_iff, decide_eq_true_iff]
  unfold MD
  rw [has_eq, List.any_map, List.any_eq_true, List.mem_map]
  constructor
  · rintro ⟨p, hp, h⟩; exact ⟨p, hp, by simpa [encE, Lit.sameKey] using h⟩
  · rintro ⟨p, hp, h⟩; exact ⟨p, hp, by simpa [encE, Lit.sameKey] using h⟩

theorem md_size (l : List (Int × Int)) : size (MD l) = l.length := by unfold MD; rw [size_eq, List.length_map]

theorem addGo_true {r n : Int} : ∀ {l : List (Int × Int)}, (∀ p ∈ l, p.1 ≠ r) → addGo r n true l = l
  | [], _ => rfl
  | s :: t, h => by
    unfold addGo
    rw [if_neg (by simp), if_neg (h s (by simp))]
    simp only [Bool.true_or, List.nil_append]
    rw [addGo_true (fun q hq => h q (by simp [hq]))]

theorem filter_keep {r : Int} {t : List (Int × Int)} (h : ∀ p ∈ t, p.1 ≠ r) : (t.map encE).filter (fun p => !p.1.sameKey (.int .i64 r)) = t.map encE := by
  apply List.filter_eq_self.2
  intro p hp
  obtain ⟨q, hq, rfl⟩ := List.mem_map.1 hp
  simp [encE, Lit.sameKey, h q hq]

theorem insert_front {r d : Int} {t : List (Int × Int)} (h : ∀ p ∈ t, r < p.1) : DataW.insert (encE (r, d)) (t.map encE) = encE (r, d) :: t.map encE := by
  cases t with
  | nil => rfl
  | cons s t =>
    have := h s (by simp)
    simp [DataW.insert, encE, Lit.before, this]

/-- a store of the sum is the reference's Add -/
theorem md_put {l : List (Int × Int)} (ha : Asc l) (r n : Int) : (MD l).put (.int .i64 r) (.lit (.int .i64 (getL l r + n))) = MD (addGo r n false l) := by
  unfold MD DataW.put
  dsimp only
  congr 1
  show DataW.insert (encE (r, getL l r + n)) _ = _
  induction l with
  | nil => simp [DataW.insert, addGo, getL]
  | cons s t ih =>
    obtain ⟨h1, h2⟩ := List.pairwise_cons.1 ha
    rcases Int.lt_trichotomy r s.1 with h | h | h
    · have ht : ∀ p ∈ s :: t, r < p.1 := fun p hp => by
        rcases List.mem_cons.1 hp with rfl | hp
        · exact h
        · have := h1 p hp; omega
      rw [filter_keep (fun p hp => by have := ht p hp; omega), getL_no (fun p hp => by have := ht p hp; omega), insert_front ht]
      unfold addGo
      rw [if_pos ⟨rfl, h⟩, if_neg (by omega), decide_eq_true h]
      simp only [Bool.false_or, Bool.true_or, List.cons_append, List.nil_append]
      rw [addGo_true (fun p hp => by have := h1 p hp; omega)]
      simp
    · have e1 : ((s :: t).map encE).filter (fun p => !p.1.sameKey (.int .i64 r)) = t.map encE := by
        rw [List.map_cons, List.filter_cons_of_neg (by simp [encE, Lit.sameKey, h])]
        exact filter_keep (fun p hp => by have := h1 p hp; omega)
      rw [e1, insert_front (fun p hp => by have := h1 p hp; omega)]
      unfold addGo getL
      rw [if_pos h.symm, if_neg (by omega), if_pos h.symm, decide_eq_true h.symm]
      simp only [Bool.or_true, List.nil_append]
      rw [addGo_true (fun p hp => by have := h1 p hp; omega), h]
      rfl
    · have e1 : ((s :: t).map encE).filter (fun p => !p.1.sameKey (.int .i64 r)) = encE s :: (t.map encE).filter (fun p => !p.1.sameKey (.int .i64 r)) := by
        rw [List.map_cons, List.filter_cons_of_pos]
        simp [encE, Lit.sameKey]; omega
      rw [e1]
      have e2 : DataW.insert (encE (r, getL (s :: t) r + n)) (encE s :: (t.map encE).filter (fun p => !p.1.sameKey (.int .i64 r))) = encE s :: DataW.insert (encE (r, getL (s :: t) r + n)) ((t.map encE).filter (fun p => !p.1.sameKey (.int .i64 r))) := by
        have hb : (encE (r, getL (s :: t) r + n)).1.before (encE s).1 = false := by simp [encE, Lit.before]; omega
        simp only [DataW.insert]
        rw [if_neg (by rw [hb]; simp)]
      rw [e2]
      have e3 : getL (s :: t) r = getL t r := by
        show (if s.1 = r then s.2 else getL t r) = _
        rw [if_neg (by omega)]
      rw [e3, ih h2]
      conv => rhs; unfold addGo
      rw [if_neg (by omega), if_neg (by omega), decide_eq_false (by omega), decide_eq_false (by omega)]
      simp

theorem addGo_keys {r n : Int} : ∀ {l : List (Int × Int)} {d : Bool} {p : Int × Int}, p ∈ addGo r n d l → p.1 = r ∨ ∃ q ∈ l, q.1 = p.1
  | [], d, p, h => by
    unfold addGo at h
    split at h
    · simp at h
    · simp at h; subst h; exact .inl rfl
  | s :: t, d, p, h => by
    unfold addGo at h
    rw [List.mem_append, List.mem_cons] at h
    rcases h with h | h | h
    · split at h
      · simp at h; subst h; exact .inl rfl
      · simp at h
    · right; refine ⟨s, by simp, ?_⟩
      rw [h]; split <;> rfl
    · rcases addGo_keys h with h | ⟨q, hq, e⟩
      · exact .inl h
      · exact .inr ⟨q, by simp [hq], e⟩

theorem asc_add {l : List (Int × Int)} (ha : Asc l) (r n : Int) : Asc (addGo r n false l) := by
  induction l with
  | nil => simp [addGo, Asc]
  | cons s t ih =>
    obtain ⟨h1, h2⟩ := List.pairwise_cons.1 ha
    unfold addGo
    rcases Int.lt_trichotomy r s.1 with h | h | h
    · rw [if_pos ⟨rfl, h⟩, if_neg (by omega), decide_eq_true h]
      simp only [Bool.false_or, Bool.true_or, List.cons_append, List.nil_append]
      rw [addGo_true (fun p hp => by have := h1 p hp; omega)]
      refine List.pairwise_cons.2 ⟨fun p hp => ?_, ha⟩
      rcases List.mem_cons.1 hp with rfl | hp
      · exact h
      · have := h1 p hp; dsimp only; omega
    · rw [if_neg (by omega), if_pos h.symm, decide_eq_true h.symm]
      simp only [Bool.or_true, List.nil_append]
      rw [addGo_true (fun p hp => by have := h1 p hp; omega)]
      exact List.pairwise_cons.2 ⟨fun p hp => h1 p hp, h2⟩
    · rw [if_neg (by omega), if_neg (by omega), decide_eq_false (by omega), decide_eq_false (by omega)]
      simp only [Bool.or_false, List.nil_append]
      refine List.pairwise_cons.2 ⟨fun p hp => ?_, ih h2⟩
      rcases addGo_keys hp with e | ⟨q, hq, e⟩
      · omega
      · have := h1 q hq; omega

/-- sorting the keys, in whatever order they were met -/
theorem sort_keys {l : List (Int × Int)} (ha : Asc l) {ks : List Int} (hp : ks.Perm (l.map (·.1))) : (ks.mergeSort fun x y => decide (x ≤ y)) = l.map (·.1) := by
  have tr : ∀ a b c : Int, decide (a ≤ b) = true → decide (b ≤ c) = true → decide (a ≤ c) = true := fun a b c h1 h2 => by simp only [decide_eq_true_eq] at *; omega
  have to : ∀ a b : Int, (decide (a ≤ b) || decide (b ≤ a)) = true := fun a b => by simp only [Bool.or_eq_true, decide_eq_true_eq]; omega
  refine List.Perm.eq_of_pairwise (le := fun a b => decide (a ≤ b) = true) (fun a b _ _ h1 h2 => ?_) (List.pairwise_mergeSort tr to ks) ?_ ((List.mergeSort_perm ks _).trans hp)
  · simp only [decide_eq_true_eq] at h1 h2; omega
  · refine List.pairwise_map.2 (ha.imp fun {p q} h => ?_)
    simp only [decide_eq_true_eq]; omega

/-- the keys met so far -/
def CollK (l : List (Int × Int)) (left : Lit → Bool) (ks : List Int) : Prop := ks.Nodup ∧ ∀ x, x ∈ ks ↔ (x ∈ l.map (·.1) ∧ left (.int .i64 x) = false)

theorem CollK.start (l : List (Int × Int)) : CollK l (has (MD l)) [] := ⟨List.nodup_nil, fun x => by rw [md_has]; simp⟩
theorem CollK.step {l : List (Int × Int)} {left : Lit → Bool} {ks : List Int} (h : CollK l left ks) {x : Int} {y : DataW Unit} (hlk : left (.int .i64 x) = true) (hat : ∀ zd, (MD l).atKey (.int .i64 x) zd = y) : CollK l (fun z => left z && !z.sameKey (.int .i64 x)) (ks ++ [x]) := by
  have hhas := has_true_of_atKey hat
  rw [md_has, decide_eq_true_iff] at hhas
  have hnew : x ∉ ks := fun hx => by have := ((h.2 x).1 hx).2; rw [hlk] at this; cases this
  refine ⟨List.nodup_append.2 ⟨h.1, by simp, fun a ha b hb => by simp at hb; subst hb; exact fun e => hnew (e ▸ ha)⟩, fun y => ?_⟩
  by_cases hy : y = x
  · subst hy; simp only [List.mem_append, List.mem_singleton, or_true, true_iff]; exact ⟨hhas, by simp [Lit.sameKey]⟩
  · rw [List.mem_append, h.2 y]; simp [hy, Lit.sameKey]
theorem CollK.perm {l : List (Int × Int)} (ha : Asc l) {left : Lit → Bool} {ks : List Int} (h : CollK l left ks) (hl : ∀ kl, left kl = false) : ks.Perm (l.map (·.1)) := by
  refine (List.perm_ext_iff_of_nodup h.1 ?_).2 fun x => by rw [h.2 x, hl]; simp
  exact List.pairwise_map.2 (ha.imp fun {p q} h e => by omega)
/-- block b holds the map l -/
def OwnsM (w : World) (b n : Nat) (l : List (Int × Int)) : Prop := w.ownsMap (H := Unit) Try.prog 3 (plainElem Try.prog 3) b n (MD l) ∧ Asc l

theorem OwnsM.kept {w w' : World} {b n : Nat} {l : List (Int × Int)} (h : OwnsM w b n l) (hb : w'.heap[b]? = w.heap[b]?) : OwnsM w' b n l := by
  obtain ⟨⟨es, cl, h1, h2⟩, h3⟩ := h
  exact ⟨⟨es, cl, hb.trans h1, h2⟩, h3⟩
theorem OwnsM.lt {w : World} {b n : Nat} {l : List (Int × Int)} (h : OwnsM w b n l) : b < w.heap.size := h.1.lt
theorem OwnsM.later {w w' : World} {b n : Nat} {l : List (Int × Int)} (h : OwnsM w b n l) (hb : Below w.heap.size w w') : OwnsM w' b n l := h.kept (hb.block b h.lt)
theorem OwnsM.made (w : World) : OwnsM (w.alloc (.map #[] 0)) w.heap.size 0 [] := ⟨World.ownsMap_made _ _ _ _, List.Pairwise.nil⟩
theorem OwnsM.isMap {w : World} {b n : Nat} {l : List (Int × Int)} (h : OwnsM w b n l) : ∃ es cl, w.heap[b]? = some (.map es cl) := by
  obtain ⟨⟨es, cl, h1, _⟩, _⟩ := h
  exact ⟨es, cl, h1⟩
theorem OwnsM.mono {w : World} {b n n' : Nat} {l : List (Int × Int)} (h : OwnsM w b n l) (hn : n ≤ n') : OwnsM w b n' l := ⟨h.1.mono hn, h.2⟩

theorem keyed : Keyed Try.prog 3 := int_keyed Try.underlying3

end Go.Proofs.Ytbkmcncakpmgkaa
