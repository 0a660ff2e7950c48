/-
  Stable order, plain: merging, insertion, and how they meet. Stretches of a row: swapped, rotated, merged (plain).
-/
import Init

/-! Stable order, plain: merging, insertion, and how they meet. -/
namespace Go.Proofs.YtffifhbldcjelaaGreatDoor
set_option linter.unusedVariables false

/-- an order in which different ones may stand side by side -/
structure WkO {α : Type} (lt : α → α → Bool) : Prop where
  irr : ∀ x, lt x x = false
  trn : ∀ x y z, lt x y = true → lt y z = true → lt x z = true
  ntr : ∀ x y z, lt x y = false → lt y z = false → lt x z = false

section
variable {α : Type} {lt : α → α → Bool}
theorem WkO.asym (h : WkO lt) {x y : α} (e : lt x y = true) : lt y x = false := by
  rcases hb : lt y x with _ | _
  · rfl
  · have := h.trn x y x e hb
    rw [h.irr] at this
    cases this
theorem WkO.below (h : WkO lt) {x y z : α} (e : lt x y = true) (e2 : lt z y = false) : lt x z = true := by
  rcases hb : lt x z with _ | _
  · have := h.ntr x z y hb e2
    rw [e] at this
    cases this
  · rfl
theorem WkO.above (h : WkO lt) {x y z : α} (e : lt y x = false) (e2 : lt y z = true) : lt x z = true := by
  rcases hb : lt x z with _ | _
  · have := h.ntr y x z e hb
    rw [e2] at this
    cases this
  · rfl

variable (lt)
/-- those of the left first, where nothing tells them apart -/
def mrg : List α → List α → List α
  | [], r => r
  | x :: l, [] => x :: l
  | x :: l, y :: r => if lt y x then y :: mrg (x :: l) r else x :: mrg l (y :: r)
termination_by l r => l.length + r.length
def ins (x : α) : List α → List α
  | [] => [x]
  | y :: s => if lt x y then x :: y :: s else y :: ins x s
def isort (l : List α) : List α := l.foldl (fun s x => ins lt x s) []
def SortedB (s : List α) : Prop := s.Pairwise fun x y => lt y x = false
variable {lt}

theorem mrg_nil (r : List α) : mrg lt [] r = r := by rw [mrg]
theorem mrg_none (l : List α) : mrg lt l [] = l := by
  rcases l with _ | ⟨x, l⟩
  · rw [mrg]
  · rw [mrg]
theorem mrg_one (x y : α) (l r : List α) : mrg lt (x :: l) (y :: r) = if lt y x then y :: mrg lt (x :: l) r else x :: mrg lt l (y :: r) := by rw [mrg]
/-- two halves that lie one behind another -/
theorem mrg_split : ∀ (k : Nat) (L1 L2 R1 R2 : List α), L1.length + R1.length ≤ k → (∀ x ∈ L1, ∀ y ∈ R2, lt y x = false) → (∀ r ∈ R1, ∀ l ∈ L2, lt r l = true) → mrg lt (L1 ++ L2) (R1 ++ R2) = mrg lt L1 R1 ++ mrg lt L2 R2
  | 0, L1, L2, R1, R2, hk, _, _ => by
    obtain rfl : L1 = [] := List.eq_nil_of_length_eq_zero (by omega)
    obtain rfl : R1 = [] := List.eq_nil_of_length_eq_zero (by omega)
    rw [mrg_nil]; rfl
  | k + 1, [], L2, [], R2, _, _, _ => by rw [mrg_nil]; rfl
  | k + 1, [], L2, r :: R1, R2, hk, h1, h2 => by
    have ih := mrg_split k [] L2 R1 R2 (by simp at hk ⊢; omega) (fun x hx => by cases hx) (fun a ha => h2 a (List.mem_cons_of_mem _ ha))
    rw [mrg_nil] at ih ⊢
    rcases L2 with _ | ⟨l, L2⟩
    · rw [List.nil_append, mrg_nil, mrg_nil]
    · rw [List.nil_append] at ih ⊢
      rw [List.cons_append, mrg_one, if_pos (h2 r (List.mem_cons_self ..) l (List.mem_cons_self ..)), ih]
      rfl
  | k + 1, x :: L1, L2, [], R2, hk, h1, h2 => by
    have ih := mrg_split k L1 L2 [] R2 (by simp at hk ⊢; omega) (fun a ha => h1 a (List.mem_cons_of_mem _ ha)) (fun x hx => by cases hx)
    rw [mrg_none] at ih ⊢
    rcases R2 with _ | ⟨y, R2⟩
    · rw [List.nil_append, mrg_none, mrg_none]
    · rw [List.nil_append] at ih ⊢
      rw [List.cons_append, mrg_one, if_neg (by rw [h1 x (List.mem_cons_self ..) y (List.mem_cons_self ..)]; decide), ih]
      rfl
  | k + 1, x :: L1, L2, y :: R1, R2, hk, h1, h2 => by
    rw [List.cons_append, List.cons_append, mrg_one, mrg_one]
    rcases hb : lt y x with _ | _
    · rw [if_neg (by decide), if_neg (by decide)]
      have ih := mrg_split k L1 L2 (y :: R1) R2 (by simp at hk ⊢; omega) (fun a ha => h1 a (List.mem_cons_of_mem _ ha)) h2
      rw [List.cons_append] at ih
      rw [ih]; rfl
    · rw [if_pos rfl, if_pos rfl]
      have ih := mrg_split k (x :: L1) L2 R1 R2 (by simp at hk ⊢; omega) h1 (fun a ha => h2 a (List.mem_cons_of_mem _ ha))
      rw [List.cons_append] at ih
      rw [ih]; rfl
theorem ins_mrg (h : WkO lt) (x : α) : ∀ (k : Nat) (S T : List α), S.length + T.length ≤ k → ins lt x (mrg lt S T) = mrg lt S (ins lt x T)
  | _, [], T, _ => by rw [mrg_nil, mrg_nil]
  | _, s :: S, [], _ => by
    rw [mrg_none]
    show _ = mrg lt (s :: S) [x]
    induction s :: S with
    | nil => rw [mrg_nil]; rfl
    | cons a l ih =>
      rw [mrg_one]
      show (if lt x a then x :: a :: l else a :: ins lt x l) = _
      rw [ih, mrg_none]
  | 0, s :: S, t :: T, hk => by simp at hk
  | k + 1, s :: S, t :: T, hk => by
    rw [mrg_one]
    rcases hts : lt t s with _ | _
    · rw [if_neg (by decide)]
      have ih := ins_mrg h x k S (t :: T) (by simp at hk ⊢; omega)
      show (if lt x s then x :: s :: mrg lt S (t :: T) else s :: ins lt x (mrg lt S (t :: T))) = mrg lt (s :: S) (if lt x t then x :: t :: T else t :: ins lt x T)
      rw [ih]
      show (if lt x s then x :: s :: mrg lt S (t :: T) else s :: mrg lt S (if lt x t then x :: t :: T else t :: ins lt x T)) = _
      rcases hxt : lt x t with _ | _
      · rw [h.ntr x t s hxt hts, if_neg Bool.false_ne_true, if_neg Bool.false_ne_true, mrg_one, hts, if_neg Bool.false_ne_true]
      · rw [if_pos rfl, mrg_one]
        rcases hxs : lt x s with _ | _
        · rfl
        · rw [if_pos rfl, mrg_one, hts, if_neg Bool.false_ne_true]; rfl
    · rw [if_pos rfl]
      have ih := ins_mrg h x k (s :: S) T (by simp at hk ⊢; omega)
      show (if lt x t then x :: t :: mrg lt (s :: S) T else t :: ins lt x (mrg lt (s :: S) T)) = mrg lt (s :: S) (if lt x t then x :: t :: T else t :: ins lt x T)
      rw [ih]
      rcases hxt : lt x t with _ | _
      · rw [if_neg (by decide), if_neg (by decide), mrg_one, hts, if_pos rfl]
      · rw [if_pos rfl, if_pos rfl, mrg_one, mrg_one, hts, h.trn x t s hxt hts, if_pos rfl, if_pos rfl]
theorem ins_is (x : α) (S : List α) : ins lt x S = mrg lt S [x] := by
  induction S with
  | nil => rw [mrg_nil]; rfl
  | cons a l ih =>
    rw [mrg_one, mrg_none]
    show (if lt x a then x :: a :: l else a :: ins lt x l) = _
    rw [ih]
theorem isort_snoc (l : List α) (x : α) : isort lt (l ++ [x]) = ins lt x (isort lt l) := by unfold isort; rw [List.foldl_append]; rfl
/-- two blocks, sorted, then merged -/
theorem isort_append (h : WkO lt) (A : List α) : ∀ (n : Nat) (B : List α), B.length = n → isort lt (A ++ B) = mrg lt (isort lt A) (isort lt B)
  | 0, B, hn => by
    obtain rfl : B = [] := List.eq_nil_of_length_eq_zero hn
    rw [List.append_nil]
    show _ = mrg lt _ []
    rw [mrg_none]
  | n + 1, B, hn => by
    obtain ⟨C, x, rfl⟩ : ∃ C x, B = C ++ [x] := ⟨B.dropLast, B.getLast (by intro e; rw [e] at hn; cases hn), (List.dropLast_concat_getLast _).symm⟩
    rw [← List.append_assoc, isort_snoc, isort_snoc, isort_append h A n C (by simp at hn; omega), ins_mrg h x _ _ _ (Nat.le_refl _)]
theorem ins_perm (x : α) : ∀ S : List α, (ins lt x S).Perm (x :: S)
  | [] => List.Perm.refl _
  | y :: S => by
    show (if lt x y then x :: y :: S else y :: ins lt x S).Perm _
    split
    · exact List.Perm.refl _
    · exact ((ins_perm x S).cons y).trans (List.Perm.swap x y S)
theorem isort_perm : ∀ (n : Nat) (l : List α), l.length = n → (isort lt l).Perm l
  | 0, l, hn => by
    obtain rfl : l = [] := List.eq_nil_of_length_eq_zero hn
    exact List.Perm.refl _
  | n + 1, B, hn => by
    obtain ⟨C, x, rfl⟩ : ∃ C x, B = C ++ [x] := ⟨B.dropLast, B.getLast (by intro e; rw [e] at hn; cases hn), (List.dropLast_concat_getLast _).symm⟩
    rw [isort_snoc]
    exact (ins_perm x _).trans (((isort_perm n C (by simp at hn; omega)).cons x).trans (List.perm_append_singleton x C).symm)
theorem ins_sorted (h : WkO lt) (x : α) : ∀ S : List α, SortedB lt S → SortedB lt (ins lt x S)
  | [], _ => List.pairwise_singleton _ _
  | y :: S, hs => by
    obtain ⟨h1, h2⟩ := List.pairwise_cons.1 hs
    show SortedB lt (if lt x y then x :: y :: S else y :: ins lt x S)
    split
    · rename_i q
      refine List.pairwise_cons.2 ⟨fun z hz => ?_, hs⟩
      rcases List.mem_cons.1 hz with rfl | hz
      · exact h.asym q
      · exact h.asym (h.below q (h1 z hz))
    · rename_i q
      refine List.pairwise_cons.2 ⟨fun z hz => ?_, ins_sorted h x S h2⟩
      rcases List.mem_cons.1 ((ins_perm x S).mem_iff.1 hz) with rfl | hz
      · simpa using q
      · exact h1 z hz
theorem isort_sorted (h : WkO lt) (l : List α) : SortedB lt (isort lt l) := by
  unfold isort
  have : ∀ (l S : List α), SortedB lt S → SortedB lt (l.foldl (fun s x => ins lt x s) S) := fun l => by
    induction l with
    | nil => exact fun S hS => hS
    | cons x l ih => exact fun S hS => ih _ (ins_sorted h x S hS)
  exact this l [] List.Pairwise.nil
theorem ins_filter (h : WkO lt) (p : α → Bool) (x : α) : ∀ S : List α, SortedB lt S → (ins lt x S).filter p = if p x then ins lt x (S.filter p) else S.filter p
  | [], _ => by
    show List.filter p [x] = if p x then [x] else []
    rw [List.filter_cons]; rfl
  | y :: S, hs => by
    obtain ⟨h1, h2⟩ := List.pairwise_cons.1 hs
    have ih := ins_filter h p x S h2
    show (if lt x y then x :: y :: S else y :: ins lt x S).filter p = _
    rcases hl : lt x y with _ | _
    · rw [if_neg (by decide), List.filter_cons, ih]
      rcases hp : p y with _ | _
      · rw [List.filter_cons, hp]; rfl
      · rw [if_pos rfl, List.filter_cons, hp, if_pos rfl]
        rcases hx : p x with _ | _
        · rfl
        · rw [if_pos rfl, if_pos rfl]
          show _ = if lt x y then x :: y :: S.filter p else y :: ins lt x (S.filter p)
          rw [hl]; rfl
    · rw [if_pos rfl, List.filter_cons]
      rcases hx : p x with _ | _
      · rw [if_neg (by decide), if_neg (by decide)]
      · rw [if_pos rfl, if_pos rfl]
        have key : ∀ T : List α, (∀ z ∈ T, lt x z = true) → ins lt x T = x :: T := fun T hT => by
          rcases T with _ | ⟨z, T⟩
          · rfl
          · show (if lt x z then x :: z :: T else z :: ins lt x T) = _
            rw [hT z (List.mem_cons_self ..), if_pos rfl]
        rw [key _ (fun z hz => by
          rcases List.mem_cons.1 (List.mem_filter.1 hz).1 with rfl | hz
          · exact hl
          · exact h.below hl (h1 z hz))]
/-- the order of those that are left is the order of all -/
theorem isort_filter (h : WkO lt) (p : α → Bool) : ∀ (n : Nat) (l : List α), l.length = n → (isort lt l).filter p = isort lt (l.filter p)
  | 0, l, hn => by
    obtain rfl : l = [] := List.eq_nil_of_length_eq_zero hn
    rfl
  | n + 1, B, hn => by
    obtain ⟨C, x, rfl⟩ : ∃ C x, B = C ++ [x] := ⟨B.dropLast, B.getLast (by intro e; rw [e] at hn; cases hn), (List.dropLast_concat_getLast _).symm⟩
    rw [isort_snoc, ins_filter h p x _ (isort_sorted h C), isort_filter h p n C (by simp at hn; omega), List.filter_append]
    rcases hx : p x with _ | _
    · rw [List.filter_cons, hx]; simp
    · rw [List.filter_cons, hx]
      show _ = isort lt (C.filter p ++ [x])
      rw [isort_snoc]; rfl
/-- a sorted list lies in three parts -/
theorem three_parts {dev : α → Int} (hd : ∀ x y, dev x < dev y → lt x y = true) : ∀ S : List α, SortedB lt S → (∀ x ∈ S, dev x = 1 ∨ dev x = 2 ∨ dev x = 3) →
    S = S.filter (fun x => decide (dev x = 1)) ++ (S.filter (fun x => decide (dev x = 2)) ++ S.filter (fun x => decide (dev x = 3)))
  | [], _, _ => rfl
  | x :: S, hs, h => by
    obtain ⟨h1, h2⟩ := List.pairwise_cons.1 hs
    have ih := three_parts hd S h2 (fun y hy => h y (List.mem_cons_of_mem _ hy))
    have hge : ∀ y ∈ S, dev x ≤ dev y := fun y hy => by
      rcases Int.lt_or_le (dev y) (dev x) with q | q
      · have := hd y x q
        rw [h1 y hy] at this; cases this
      · exact q
    have none : ∀ c : Int, c < dev x → S.filter (fun x => decide (dev x = c)) = [] := fun c hc => by
      rw [List.filter_eq_nil_iff]
      intro y hy
      have := hge y hy
      simp; omega
    rcases h x (List.mem_cons_self ..) with q | q | q
    · rw [List.filter_cons, if_pos (by simpa using q), List.filter_cons (p := fun x => decide (dev x = 2)), if_neg (by simp; omega), List.filter_cons (p := fun x => decide (dev x = 3)), if_neg (by simp; omega)]
      rw [List.cons_append, ← ih]
    · rw [List.filter_cons, if_neg (by simp; omega), List.filter_cons (p := fun x => decide (dev x = 2)), if_pos (by simpa using q), List.filter_cons (p := fun x => decide (dev x = 3)), if_neg (by simp; omega), none 1 (by omega)]
      rw [none 1 (by omega)] at ih
      rw [List.nil_append, List.cons_append]
      rw [List.nil_append] at ih
      rw [← ih]
    · rw [List.filter_cons, if_neg (by simp; omega), List.filter_cons (p := fun x => decide (dev x = 2)), if_neg (by simp; omega), List.filter_cons (p := fun x => decide (dev x = 3)), if_pos (by simpa using q), none 1 (by omega), none 2 (by omega)]
      rw [none 1 (by omega), none 2 (by omega)] at ih
      rw [List.nil_append, List.nil_append]
      rw [List.nil_append, List.nil_append] at ih
      rw [← ih]
end

end Go.Proofs.YtffifhbldcjelaaGreatDoor

/-! Stretches of a row: swapped, rotated, merged (plain). -/
namespace Go.Proofs.YtffifhbldcjelaaGreatDoor
set_option linter.unusedVariables false

section
variable {α : Type}
/-- n of a row from a on -/
def seg (D : Nat → α) (a n : Nat) : List α := (List.range n).map fun i => D (a + i)
theorem seg_len (D : Nat → α) (a n : Nat) : (seg D a n).length = n := by unfold seg; simp
theorem seg_get (D : Nat → α) {a n i : Nat} (h : i < n) : (seg D a n)[i]? = some (D (a + i)) := by unfold seg; simp [h]
theorem seg_ext {D E : Nat → α} {a b n : Nat} (h : ∀ i, i < n → D (a + i) = E (b + i)) : seg D a n = seg E b n := by
  unfold seg
  exact List.map_congr_left fun i hi => h i (List.mem_range.1 hi)
theorem seg_add (D : Nat → α) (a n m : Nat) : seg D a (n + m) = seg D a n ++ seg D (a + n) m := by
  unfold seg
  rw [List.range_add, List.map_append, List.map_map]
  congr 1
  exact List.map_congr_left fun i _ => by show D (a + (n + i)) = D (a + n + i); rw [Nat.add_assoc]
theorem seg_one (D : Nat → α) (a : Nat) : seg D a 1 = [D a] := by unfold seg; simp [List.range_succ]
theorem seg_mem {D : Nat → α} {a n : Nat} {x : α} (h : x ∈ seg D a n) : ∃ p, a ≤ p ∧ p < a + n ∧ D p = x := by
  unfold seg at h
  obtain ⟨i, hi, e⟩ := List.mem_map.1 h
  exact ⟨a + i, by omega, by have := List.mem_range.1 hi; omega, e⟩
theorem mem_seg {D : Nat → α} {a n p : Nat} (h1 : a ≤ p) (h2 : p < a + n) : D p ∈ seg D a n := by
  unfold seg
  exact List.mem_map.2 ⟨p - a, List.mem_range.2 (by omega), by show D (a + (p - a)) = D p; congr 1; omega⟩

/-- n of them from a on and n from b on change places -/
def swR (D : Nat → α) (a b n : Nat) : Nat → α := fun p => if a ≤ p ∧ p < a + n then D (p - a + b) else if b ≤ p ∧ p < b + n then D (p - b + a) else D p
/-- the stretch from a to b is rotated at m -/
def rotR (D : Nat → α) (a m b : Nat) : Nat → α := fun p => if a ≤ p ∧ p < b then (if p < a + (b - m) then D (p + (m - a)) else D (p - (b - m))) else D p
theorem swR_zero (D : Nat → α) (a b : Nat) : swR D a b 0 = D := by
  funext p
  unfold swR
  rw [if_neg (by omega), if_neg (by omega)]
theorem swR_succ (D : Nat → α) {a b n : Nat} (h : a + n < b) (p : Nat) : swR D a b (n + 1) p = if p = a + n then swR D a b n (b + n) else if p = b + n then swR D a b n (a + n) else swR D a b n p := by
  unfold swR
  by_cases h1 : p = a + n
  · subst h1
    rw [if_pos (by omega), if_pos rfl, if_neg (by omega), if_neg (by omega)]
    congr 1; omega
  · rw [if_neg h1]
    by_cases h2 : p = b + n
    · subst h2
      rw [if_neg (by omega), if_pos (by omega), if_pos rfl, if_neg (by omega), if_neg (by omega)]
      congr 1; omega
    · rw [if_neg h2]
      by_cases h3 : a ≤ p ∧ p < a + n
      · rw [if_pos h3, if_pos (by omega)]
      · rw [if_neg h3, if_neg (by omega)]
        by_cases h4 : b ≤ p ∧ p < b + n
        · rw [if_pos h4, if_pos (by omega)]
        · rw [if_neg h4, if_neg (by omega)]
theorem rot_left (D : Nat → α) {i j m : Nat} (hj : 0 < j) (h : j < i) (hm : i ≤ m) : rotR (swR D (m - i) m j) (m - (i - j)) m (m + j) = rotR D (m - i) m (m + j) := by
  funext p
  unfold rotR
  by_cases h1 : m - i ≤ p ∧ p < m + j
  · rw [if_pos h1]
    by_cases h2 : p < m - i + (m + j - m)
    · rw [if_pos h2, if_neg (by omega)]
      unfold swR
      rw [if_pos (by omega)]
      congr 1; omega
    · rw [if_neg h2, if_pos (by omega)]
      by_cases h3 : p < m - (i - j) + (m + j - m)
      · rw [if_pos h3]
        unfold swR
        rw [if_neg (by omega), if_pos (by omega)]
        congr 1; omega
      · rw [if_neg h3]
        unfold swR
        rw [if_neg (by omega), if_neg (by omega)]
  · rw [if_neg h1, if_neg (by omega)]
    unfold swR
    rw [if_neg (by omega), if_neg (by omega)]
theorem rot_right (D : Nat → α) {i j m : Nat} (hi : 0 < i) (h : i < j) (hm : i ≤ m) : rotR (swR D (m - i) (m + j - i) i) (m - i) m (m + (j - i)) = rotR D (m - i) m (m + j) := by
  funext p
  unfold rotR
  by_cases h1 : m - i ≤ p ∧ p < m + (j - i)
  · rw [if_pos h1]
    by_cases h2 : p < m - i + (m + (j - i) - m)
    · rw [if_pos h2, if_pos (show m - i ≤ p ∧ p < m + j by omega), if_pos (show p < m - i + (m + j - m) by omega)]
      unfold swR
      rw [if_neg (by omega), if_neg (by omega)]
    · rw [if_neg h2, if_pos (show m - i ≤ p ∧ p < m + j by omega), if_pos (show p < m - i + (m + j - m) by omega)]
      unfold swR
      rw [if_pos (by omega)]
      congr 1; omega
  · rw [if_neg h1]
    by_cases h2 : m - i ≤ p ∧ p < m + j
    · rw [if_pos h2, if_neg (show ¬ p < m - i + (m + j - m) by omega)]
      unfold swR
      rw [if_neg (by omega), if_pos (by omega)]
      congr 1; omega
    · rw [if_neg h2]
      unfold swR
      rw [if_neg (by omega), if_neg (by omega)]
theorem rot_same (D : Nat → α) {i m : Nat} (hm : i ≤ m) : swR D (m - i) m i = rotR D (m - i) m (m + i) := by
  funext p
  unfold rotR swR
  by_cases h1 : m - i ≤ p ∧ p < m - i + i
  · rw [if_pos h1, if_pos (by omega), if_pos (by omega)]
    congr 1; omega
  · rw [if_neg h1]
    by_cases h2 : m ≤ p ∧ p < m + i
    · rw [if_pos h2, if_pos (by omega), if_neg (by omega)]
      congr 1; omega
    · rw [if_neg h2, if_neg (by omega)]
theorem rot_congr {D E : Nat → α} {a m b n p : Nat} (h : ∀ q, q < n → D q = E q) (ha : a ≤ m) (hm : m ≤ b) (hb : b ≤ n) (hp : p < n) : rotR D a m b p = rotR E a m b p := by
  unfold rotR
  by_cases h1 : a ≤ p ∧ p < b
  · rw [if_pos h1, if_pos h1]
    by_cases h2 : p < a + (b - m)
    · rw [if_pos h2, if_pos h2]; exact h _ (by omega)
    · rw [if_neg h2, if_neg h2]; exact h _ (by omega)
  · rw [if_neg h1, if_neg h1]; exact h _ hp
variable {lt : α → α → Bool}
/-- one of the left is put into the right -/
theorem mrg_left1 {x : α} {R1 R2 : List α} (h1 : ∀ r ∈ R1, lt r x = true) (h2 : ∀ r ∈ R2, lt r x = false) : mrg lt [x] (R1 ++ R2) = R1 ++ x :: R2 := by
  have a := mrg_split (lt := lt) _ [] [x] R1 R2 (Nat.le_refl _) (fun y hy => by cases hy) (fun r hr l hl => by rw [List.mem_singleton.1 hl]; exact h1 r hr)
  have b := mrg_split (lt := lt) _ [x] [] [] R2 (Nat.le_refl _) (fun y hy r hr => by rw [List.mem_singleton.1 hy]; exact h2 r hr) (fun r hr => by cases hr)
  rw [mrg_none, mrg_nil] at b
  rw [mrg_nil] at a
  simp only [List.append_nil, List.nil_append] at a b
  rw [a, b]; rfl
/-- one of the right is put into the left -/
theorem mrg_right1 {y : α} {L1 L2 : List α} (h1 : ∀ l ∈ L1, lt y l = false) (h2 : ∀ l ∈ L2, lt y l = true) : mrg lt (L1 ++ L2) [y] = L1 ++ y :: L2 := by
  have a := mrg_split (lt := lt) _ L1 L2 [] [y] (Nat.le_refl _) (fun l hl r hr => by rw [List.mem_singleton.1 hr]; exact h1 l hl) (fun r hr => by cases hr)
  have b := mrg_split (lt := lt) _ [] L2 [y] [] (Nat.le_refl _) (fun l hl => by cases hl) (fun r hr l hl => by rw [List.mem_singleton.1 hr]; exact h2 l hl)
  rw [mrg_none] at a
  rw [mrg_nil, mrg_none] at b
  simp only [List.append_nil, List.nil_append] at a b
  rw [a, b]; rfl

/-- a sorted stretch, by its places -/
theorem seg_sorted {D : Nat → α} {a n : Nat} : SortedB lt (seg D a n) ↔ ∀ p q, a ≤ p → p < q → q < a + n → lt (D q) (D p) = false := by
  unfold SortedB
  rw [List.pairwise_iff_getElem]
  constructor
  · intro h p q h1 h2 h3
    have := h (p - a) (q - a) (by rw [seg_len]; omega) (by rw [seg_len]; omega) (by omega)
    have e1 : (seg D a n)[p - a]'(by rw [seg_len]; omega) = D p := by
      have := seg_get D (a := a) (n := n) (i := p - a) (by omega)
      rw [List.getElem?_eq_getElem (by rw [seg_len]; omega), show a + (p - a) = p by omega] at this
      simpa using this
    have e2 : (seg D a n)[q - a]'(by rw [seg_len]; omega) = D q := by
      have := seg_get D (a := a) (n := n) (i := q - a) (by omega)
      rw [List.getElem?_eq_getElem (by rw [seg_len]; omega), show a + (q - a) = q by omega] at this
      simpa using this
    rw [e1, e2] at this
    exact this
  · intro h i j hi hj hij
    rw [seg_len] at hi hj
    have e1 : (seg D a n)[i]'(by rw [seg_len]; omega) = D (a + i) := by
      have := seg_get D (a := a) (n := n) (i := i) hi
      rw [List.getElem?_eq_getElem (by rw [seg_len]; omega)] at this
      simpa using this
    have e2 : (seg D a n)[j]'(by rw [seg_len]; omega) = D (a + j) := by
      have := seg_get D (a := a) (n := n) (i := j) hj
      rw [List.getElem?_eq_getElem (by rw [seg_len]; omega)] at this
      simpa using this
    rw [e1, e2]
    exact h _ _ (by omega) (by omega) (by omega)
/-- what a merge of a stretch leaves -/
def Merged (lt : α → α → Bool) (D E : Nat → α) (a m b n : Nat) : Prop := (∀ p, p < n → ¬ (a ≤ p ∧ p < b) → E p = D p) ∧ seg E a (b - a) = mrg lt (seg D a (m - a)) (seg D m (b - m))
/-- the first goes to its place among the others -/
theorem merged_left {D E : Nat → α} {a i b n : Nat} (hi : a + 1 ≤ i) (hib : i ≤ b) (h1 : ∀ p, a + 1 ≤ p → p < i → lt (D p) (D a) = true) (h2 : ∀ p, i ≤ p → p < b → lt (D p) (D a) = false)
    (hE : ∀ p, p < n → E p = if a ≤ p ∧ p < i - 1 then D (p + 1) else if p = i - 1 then D a else D p) (hb : b ≤ n) : Merged lt D E a (a + 1) b n := by
  refine ⟨fun p hp hn => ?_, ?_⟩
  · rw [hE p hp, if_neg (by omega), if_neg (by omega)]
  · have e1 : seg D (a + 1) (b - (a + 1)) = seg D (a + 1) (i - (a + 1)) ++ seg D i (b - i) := by
      rw [show b - (a + 1) = (i - (a + 1)) + (b - i) by omega, seg_add, show a + 1 + (i - (a + 1)) = i by omega]
    have e2 : seg E a (b - a) = seg D (a + 1) (i - (a + 1)) ++ (D a :: seg D i (b - i)) := by
      rw [show b - a = (i - (a + 1)) + (1 + (b - i)) by omega, seg_add, seg_add, seg_one, show a + (i - (a + 1)) = i - 1 by omega, show i - 1 + 1 = i by omega, hE (i - 1) (by omega), if_neg (by omega), if_pos rfl]
      congr 1
      · exact seg_ext fun q hq => by rw [hE _ (by omega), if_pos (by omega)]; congr 1; omega
      · exact congrArg (fun t => D a :: t) (seg_ext fun q hq => by rw [hE _ (by omega), if_neg (by omega), if_neg (by omega)])
    rw [e2, e1, show a + 1 - a = 1 by omega, seg_one, mrg_left1]
    · intro r hr
      obtain ⟨p, q1, q2, rfl⟩ := seg_mem hr
      exact h1 p q1 (by omega)
    · intro r hr
      obtain ⟨p, q1, q2, rfl⟩ := seg_mem hr
      exact h2 p q1 (by omega)
/-- the last goes to its place among the others -/
theorem merged_right {D E : Nat → α} {a i m n : Nat} (hi : a ≤ i) (him : i ≤ m) (h1 : ∀ p, a ≤ p → p < i → lt (D m) (D p) = false) (h2 : ∀ p, i ≤ p → p < m → lt (D m) (D p) = true)
    (hE : ∀ p, p < n → E p = if p = i then D m else if i < p ∧ p ≤ m then D (p - 1) else D p) (hb : m + 1 ≤ n) : Merged lt D E a m (m + 1) n := by
  refine ⟨fun p hp hn => ?_, ?_⟩
  · rw [hE p hp, if_neg (by omega), if_neg (by omega)]
  · have e1 : seg D a (m - a) = seg D a (i - a) ++ seg D i (m - i) := by
      rw [show m - a = (i - a) + (m - i) by omega, seg_add, show a + (i - a) = i by omega]
    have e2 : seg E a (m + 1 - a) = seg D a (i - a) ++ (D m :: seg D i (m - i)) := by
      rw [show m + 1 - a = (i - a) + (1 + (m - i)) by omega, seg_add, seg_add, seg_one, show a + (i - a) = i by omega, hE i (by omega), if_pos rfl]
      congr 1
      · exact seg_ext fun q hq => by rw [hE _ (by omega), if_neg (by omega), if_neg (by omega)]
      · exact congrArg (fun t => D m :: t) (seg_ext fun q hq => by rw [hE _ (by omega), if_neg (by omega), if_pos (by omega)]; congr 1; omega)
    rw [e2, e1, show m + 1 - m = 1 by omega, seg_one, mrg_right1]
    · intro r hr
      obtain ⟨p, q1, q2, rfl⟩ := seg_mem hr
      exact h1 p q1 (by omega)
    · intro r hr
      obtain ⟨p, q1, q2, rfl⟩ := seg_mem hr
      exact h2 p q1 (by omega)
/-- two halves, one behind another -/
theorem merged_halves {D E F G : Nat → α} {a s m e mid b n : Nat} (h1 : a ≤ s) (h2 : s ≤ m) (h3 : m ≤ e) (h4 : e ≤ b) (hmid : s + (e - m) = mid) (hb : b ≤ n)
    (hl : ∀ p q, a ≤ p → p < s → e ≤ q → q < b → lt (D q) (D p) = false) (hr : ∀ p q, m ≤ p → p < e → s ≤ q → q < m → lt (D p) (D q) = true)
    (hE : ∀ p, p < n → E p = rotR D s m e p) (hF : Merged lt E F a s mid n) (hG : Merged lt F G mid e b n) : Merged lt D G a m b n := by
  obtain ⟨f1, f2⟩ := hF
  obtain ⟨g1, g2⟩ := hG
  refine ⟨fun p hp hn => ?_, ?_⟩
  · rw [g1 p hp (by omega), f1 p hp (by omega), hE p hp]
    unfold rotR
    rw [if_neg (by omega)]
  · have k1 : seg D a (m - a) = seg D a (s - a) ++ seg D s (m - s) := by
      rw [show m - a = (s - a) + (m - s) by omega, seg_add, show a + (s - a) = s by omega]
    have k2 : seg D m (b - m) = seg D m (e - m) ++ seg D e (b - e) := by
      rw [show b - m = (e - m) + (b - e) by omega, seg_add, show m + (e - m) = e by omega]
    have k3 : seg G a (b - a) = seg G a (mid - a) ++ seg G mid (b - mid) := by
      rw [show b - a = (mid - a) + (b - mid) by omega, seg_add, show a + (mid - a) = mid by omega]
    have k4 : seg G a (mid - a) = seg F a (mid - a) := seg_ext fun q hq => g1 _ (by omega) (by omega)
    have k5 : seg E a (s - a) = seg D a (s - a) := seg_ext fun q hq => by
      rw [hE _ (by omega)]; unfold rotR; rw [if_neg (by omega)]
    have k6 : seg E s (mid - s) = seg D m (e - m) := by
      rw [show mid - s = e - m by omega]
      exact seg_ext fun q hq => by
        rw [hE _ (by omega)]; unfold rotR; rw [if_pos (by omega), if_pos (by omega)]; congr 1; omega
    have k7 : seg F mid (e - mid) = seg D s (m - s) := by
      rw [show e - mid = m - s by omega]
      exact seg_ext fun q hq => by
        rw [f1 _ (by omega) (by omega), hE _ (by omega)]; unfold rotR; rw [if_pos (by omega), if_neg (by omega)]; congr 1; omega
    have k8 : seg F e (b - e) = seg D e (b - e) := seg_ext fun q hq => by
      rw [f1 _ (by omega) (by omega), hE _ (by omega)]; unfold rotR; rw [if_neg (by omega)]
    rw [k3, k4, f2, g2, k5, k6, k7, k8, k1, k2]
    exact (mrg_split _ _ _ _ _ (Nat.le_refl _) (fun x hx y hy => by
      obtain ⟨p, q1, q2, rfl⟩ := seg_mem hx
      obtain ⟨q, q3, q4, rfl⟩ := seg_mem hy
      exact hl p q q1 (by omega) q3 (by omega)) (fun x hx y hy => by
      obtain ⟨p, q1, q2, rfl⟩ := seg_mem hx
      obtain ⟨q, q3, q4, rfl⟩ := seg_mem hy
      exact hr p q q1 (by omega) q3 (by omega))).symm
/-- nothing to merge -/
theorem merged_none_left {D : Nat → α} {a b n : Nat} : Merged lt D D a a b n := ⟨fun _ _ _ => rfl, by rw [show a - a = 0 by omega]; show _ = mrg lt [] _; rw [mrg_nil]⟩
theorem merged_none_right {D : Nat → α} {a b n : Nat} : Merged lt D D a b b n := ⟨fun _ _ _ => rfl, by rw [show b - b = 0 by omega]; show _ = mrg lt _ []; rw [mrg_none]⟩
end

end Go.Proofs.YtffifhbldcjelaaGreatDoor
