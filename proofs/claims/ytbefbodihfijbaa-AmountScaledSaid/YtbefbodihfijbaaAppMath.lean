/-
  Plain arithmetic of the method of largest remainders (no program in sight): ranks of rests, the parts, and what is promised of them.
-/
namespace Go.Proofs.Ytbefbodihfijbaa.App

/-- i comes before j: a greater rest, or the same rest and a smaller index -/
def less (r : List Int) (i j : Nat) : Bool := decide (r.getD j 0 < r.getD i 0) || (decide (r.getD i 0 = r.getD j 0) && decide (i < j))

theorem less_iff {r : List Int} {i j : Nat} : less r i j = true ↔ r.getD j 0 < r.getD i 0 ∨ (r.getD i 0 = r.getD j 0 ∧ i < j) := by
  unfold less; simp only [Bool.or_eq_true, Bool.and_eq_true, decide_eq_true_eq]

theorem less_irrefl (r : List Int) (i : Nat) : less r i i = false := by
  rw [Bool.eq_false_iff]; intro h; rw [less_iff] at h; omega
theorem less_trans {r : List Int} {i j k : Nat} (h1 : less r i j = true) (h2 : less r j k = true) : less r i k = true := by
  rw [less_iff] at *; omega
theorem less_total {r : List Int} {i j : Nat} (h : i ≠ j) : less r i j = true ∨ less r j i = true := by
  rw [less_iff, less_iff]; omega
theorem less_asymm {r : List Int} {i j : Nat} (h1 : less r i j = true) : less r j i = false := by
  rw [Bool.eq_false_iff]; intro h; rw [less_iff] at *; omega

/-- how many come before i -/
def rank (r : List Int) (i : Nat) : Nat := (List.range r.length).countP (fun j => less r j i)

theorem countP_lt {α : Type} {p q : α → Bool} : ∀ {l : List α}, (∀ x ∈ l, p x = true → q x = true) → (∃ x ∈ l, p x = false ∧ q x = true) → l.countP p < l.countP q
  | [], _, h => by simp at h
  | a :: l, h, ⟨x, hx, h1, h2⟩ => by
    have hm : l.countP p ≤ l.countP q := List.countP_mono_left fun y hy => h y (List.mem_cons_of_mem _ hy)
    rw [List.countP_cons, List.countP_cons]
    rcases List.mem_cons.1 hx with rfl | hx
    · simp [h1, h2]; omega
    · have ih := countP_lt (l := l) (fun y hy => h y (List.mem_cons_of_mem _ hy)) ⟨x, hx, h1, h2⟩
      have ha := h a (List.mem_cons_self ..)
      cases hp : p a
      · simp; omega
      · simp [ha hp]; omega

theorem rank_lt {r : List Int} {i j : Nat} (hi : i < r.length) (h : less r i j = true) : rank r i < rank r j := by
  unfold rank
  refine countP_lt (fun x _ hx => less_trans hx h) ⟨i, by simpa using hi, less_irrefl r i, h⟩

theorem rank_inj {r : List Int} {i j : Nat} (hi : i < r.length) (hj : j < r.length) (h : rank r i = rank r j) : i = j := by
  rcases Nat.decEq i j with h0 | h0
  · rcases less_total (r := r) h0 with h1 | h1
    · have := rank_lt hi h1; omega
    · have := rank_lt hj h1; omega
  · exact h0

theorem less_of_rank {r : List Int} {i j : Nat} (hj : j < r.length) (h : rank r i < rank r j) : less r i j = true := by
  have h0 : i ≠ j := by intro e; subst e; omega
  rcases less_total (r := r) h0 with h1 | h1
  · exact h1
  · have := rank_lt hj h1; omega

/-- the indices in their order -/
def ord (r : List Int) : List Nat := (List.range r.length).mergeSort (fun i j => !less r j i)

theorem ord_perm (r : List Int) : (ord r).Perm (List.range r.length) := List.mergeSort_perm _ _

theorem ord_length (r : List Int) : (ord r).length = r.length := by rw [(ord_perm r).length_eq, List.length_range]

theorem ord_pairwise (r : List Int) : (ord r).Pairwise (fun i j => less r i j = true) := by
  have h1 : (ord r).Pairwise (fun i j => (!less r j i) = true) := by
    apply List.pairwise_mergeSort
    · intro a b c h1 h2
      simp only [Bool.not_eq_true'] at *
      rw [Bool.eq_false_iff] at *
      intro h; rw [ne_eq, less_iff] at *; omega
    · intro a b
      simp only [Bool.or_eq_true, Bool.not_eq_true']
      rcases h : less r b a with _ | _
      · left; rfl
      · right; exact less_asymm h
  have h2 : (ord r).Pairwise (fun i j => i ≠ j) := (ord_perm r).nodup_iff.2 List.nodup_range
  refine (h1.and h2).imp ?_
  intro a b ⟨h, hne⟩
  simp only [Bool.not_eq_true'] at h
  rcases less_total (r := r) hne with h3 | h3
  · exact h3
  · rw [h] at h3; cases h3

theorem countP_sorted {α : Type} (p : α → α → Bool) (irr : ∀ x, p x x = false) (as : ∀ x y, p x y = true → p y x = false) :
    ∀ (l : List α) (_ : l.Pairwise (fun x y => p x y = true)) (k : Nat) (hk : k < l.length), l.countP (fun x => p x l[k]) = k
  | a :: l, h, 0, hk => by
    rw [List.pairwise_cons] at h
    rw [List.countP_eq_zero]
    intro x hx
    rcases List.mem_cons.1 hx with rfl | hx
    · simp [irr]
    · simpa using as _ _ (h.1 x hx)
  | a :: l, h, k + 1, hk => by
    rw [List.pairwise_cons] at h
    have hk' : k < l.length := by simpa using hk
    have ih := countP_sorted p irr as l h.2 k hk'
    rw [List.countP_cons]
    simp only [List.getElem_cons_succ]
    rw [ih, if_pos (h.1 _ (List.getElem_mem hk'))]

theorem rank_ord (r : List Int) (k : Nat) (hk : k < (ord r).length) : rank r (ord r)[k] = k := by
  unfold rank
  rw [← (ord_perm r).countP_eq]
  exact countP_sorted (fun i j => less r i j) (less_irrefl r) (fun _ _ h => less_asymm h) _ (ord_pairwise r) k hk

theorem ord_lt (r : List Int) (k : Nat) (hk : k < (ord r).length) : (ord r)[k] < r.length := by
  have := (ord_perm r).mem_iff.1 (List.getElem_mem hk)
  simpa using this

theorem rank_surj {r : List Int} {k : Nat} (hk : k < r.length) : ∃ i, i < r.length ∧ rank r i = k := by
  have h : k < (ord r).length := by rw [ord_length]; exact hk
  exact ⟨_, ord_lt r k h, rank_ord r k h⟩

/-- the first m of the order get one more -/
def bump (q r : List Int) (m : Nat) : List Int := (List.range q.length).map fun i => q.getD i 0 + if rank r i < m then 1 else 0

/-- the rests of the first m of the order are gone -/
def hide (r : List Int) (m : Nat) : List Int := (List.range r.length).map fun i => if rank r i < m then -1 else r.getD i 0

theorem bump_length (q r : List Int) (m : Nat) : (bump q r m).length = q.length := by simp [bump]
theorem hide_length (r : List Int) (m : Nat) : (hide r m).length = r.length := by simp [hide]

theorem bump_getD {q r : List Int} {m i : Nat} (h : i < q.length) : (bump q r m).getD i 0 = q.getD i 0 + if rank r i < m then 1 else 0 := by
  simp [bump, h]
theorem hide_getD {r : List Int} {m i : Nat} (h : i < r.length) : (hide r m).getD i 0 = if rank r i < m then -1 else r.getD i 0 := by
  simp [hide, h]

theorem ext_getD {a b : List Int} (h : a.length = b.length) (h2 : ∀ i, i < a.length → a.getD i 0 = b.getD i 0) : a = b := by
  apply List.ext_getElem h
  intro i h1 h3
  have := h2 i h1
  simpa [h1, h3] using this

theorem bump_zero (q r : List Int) : bump q r 0 = q := by
  apply ext_getD (bump_length ..)
  intro i hi; rw [bump_length] at hi; rw [bump_getD hi]; simp
theorem hide_zero (r : List Int) : hide r 0 = r := by
  apply ext_getD (hide_length ..)
  intro i hi; rw [hide_length] at hi; rw [hide_getD hi]; simp

theorem bump_succ {q r : List Int} {k i : Nat} (hl : q.length = r.length) (hi : i < r.length) (hr : rank r i = k) :
    (bump q r k).set i ((bump q r k).getD i 0 + 1) = bump q r (k + 1) := by
  apply ext_getD (by simp [bump_length])
  intro j hj
  have hj' : j < q.length := by simpa [bump_length] using hj
  have hi' : i < q.length := by omega
  rw [bump_getD hj']
  by_cases e : i = j
  · subst e
    rw [List.getD_eq_getElem?_getD, List.getElem?_set_self (by simpa [bump_length] using hi')]
    rw [Option.getD_some, bump_getD hi', hr]; simp
  · rw [List.getD_eq_getElem?_getD, List.getElem?_set_ne e, ← List.getD_eq_getElem?_getD, bump_getD hj']
    have : rank r j ≠ k := fun h => e (rank_inj hi (by omega) (by omega))
    congr 1
    by_cases h : rank r j < k
    · rw [if_pos h, if_pos (by omega)]
    · rw [if_neg h, if_neg (by omega)]

theorem hide_succ {r : List Int} {k i : Nat} (hi : i < r.length) (hr : rank r i = k) :
    (hide r k).set i (-1) = hide r (k + 1) := by
  apply ext_getD (by simp [hide_length])
  intro j hj
  have hj' : j < r.length := by simpa [hide_length] using hj
  rw [hide_getD hj']
  by_cases e : i = j
  · subst e
    rw [List.getD_eq_getElem?_getD, List.getElem?_set_self (by simpa [hide_length] using hi)]
    rw [Option.getD_some, hr]; simp
  · rw [List.getD_eq_getElem?_getD, List.getElem?_set_ne e, ← List.getD_eq_getElem?_getD, hide_getD hj']
    have : rank r j ≠ k := fun h => e (rank_inj hi (by omega) (by omega))
    by_cases h : rank r j < k
    · rw [if_pos h, if_pos (by omega)]
    · rw [if_neg h, if_neg (by omega)]

/-- b is the first of the greatest among the first i -/
def Best (l : List Int) (i b : Nat) : Prop := b < i ∧ (∀ j, j < i → l.getD j 0 ≤ l.getD b 0) ∧ (∀ j, j < b → l.getD j 0 < l.getD b 0)

theorem best_one (l : List Int) : Best l 1 0 := by
  refine ⟨by omega, fun j hj => ?_, fun j hj => by omega⟩
  have : j = 0 := by omega
  subst this; omega
theorem best_keep {l : List Int} {i b : Nat} (h : Best l i b) (hc : l.getD i 0 ≤ l.getD b 0) : Best l (i + 1) b :=
  ⟨by have := h.1; omega, fun j hj => by
    rcases Nat.lt_or_ge j i with h1 | h1
    · exact h.2.1 j h1
    · have : j = i := by omega
      subst this; exact hc, h.2.2⟩
theorem best_take {l : List Int} {i b : Nat} (h : Best l i b) (hc : l.getD b 0 < l.getD i 0) : Best l (i + 1) i :=
  ⟨by omega, fun j hj => by
    rcases Nat.lt_or_ge j i with h1 | h1
    · have := h.2.1 j h1; omega
    · have : j = i := by omega
      subst this; omega, fun j hj => by have := h.2.1 j hj; omega⟩

theorem best_rank {r : List Int} {k b : Nat} (hn : ∀ i, i < r.length → 0 ≤ r.getD i 0) (hk : k < r.length) (h : Best (hide r k) r.length b) : rank r b = k := by
  obtain ⟨hb, h1, h2⟩ := h
  obtain ⟨x, hx, rx⟩ := rank_surj hk
  have e1 := h1 x hx
  rw [hide_getD hx, hide_getD hb, rx, if_neg (by omega)] at e1
  have := hn x hx
  have hbk : k ≤ rank r b := by
    rcases Nat.lt_or_ge (rank r b) k with h3 | h3
    · rw [if_pos h3] at e1; omega
    · exact h3
  rw [if_neg (by omega)] at e1
  rcases Nat.lt_or_ge k (rank r b) with h3 | h3
  · rw [← rx] at h3
    have h4 := less_of_rank hb h3
    rw [less_iff] at h4
    rcases h4 with h4 | ⟨h4, h5⟩
    · omega
    · have := h2 x h5
      rw [hide_getD hx, hide_getD hb, rx, if_neg (by omega), if_neg (by omega)] at this
      omega
  · omega

/-- how many are chosen -/
theorem sum_perm {α : Type} (f : α → Int) {a b : List α} (h : a.Perm b) : (a.map f).sum = (b.map f).sum := by
  induction h with
  | nil => rfl
  | cons x _ ih => simp [ih]
  | swap x y l => simp; omega
  | trans _ _ i1 i2 => rw [i1, i2]

theorem sum_range_lt (m : Nat) : ∀ n, m ≤ n → ((List.range n).map fun k => if k < m then (1 : Int) else 0).sum = m
  | 0, h => by have : m = 0 := by omega
               subst this; rfl
  | n + 1, h => by
    rw [List.range_succ, List.map_append, List.sum_append]
    rcases Nat.lt_or_ge n m with h1 | h1
    · have : m = n + 1 := by omega
      subst this
      have e : ((List.range n).map fun k => if k < n + 1 then (1 : Int) else 0) = (List.range n).map fun k => if k < n then (1 : Int) else 0 := by
        apply List.map_congr_left
        intro a ha
        have : a < n := by simpa using ha
        rw [if_pos this, if_pos (by omega)]
      rw [e, sum_range_lt n n (Nat.le_refl _)]; simp
    · rw [sum_range_lt m n h1]; simp; omega

theorem map_rank_ord (r : List Int) : (ord r).map (rank r) = List.range r.length := by
  apply List.ext_getElem (by simp [ord_length])
  intro i h1 h2
  simp only [List.getElem_map, List.getElem_range]
  exact rank_ord r i (by simpa using h1)

theorem chosen_sum (r : List Int) (m : Nat) (h : m ≤ r.length) : ((List.range r.length).map fun i => if rank r i < m then (1 : Int) else 0).sum = m := by
  rw [← sum_perm _ (ord_perm r)]
  have : (ord r).map (fun i => if rank r i < m then (1 : Int) else 0) = ((ord r).map (rank r)).map (fun k => if k < m then (1 : Int) else 0) := by
    rw [List.map_map]; rfl
  rw [this, map_rank_ord, sum_range_lt m _ h]

theorem sum_add {α : Type} (f g : α → Int) (l : List α) : (l.map fun x => f x + g x).sum = (l.map f).sum + (l.map g).sum := by
  induction l with
  | nil => rfl
  | cons a l ih => simp [ih]; omega

theorem range_getD (q : List Int) : (List.range q.length).map (fun i => q.getD i 0) = q := by
  apply ext_getD (by simp)
  intro i hi
  have : i < q.length := by simpa using hi
  simp [this]

theorem bump_sum {q r : List Int} {m : Nat} (hl : q.length = r.length) (h : m ≤ r.length) : (bump q r m).sum = q.sum + m := by
  unfold bump
  rw [sum_add, range_getD, hl, chosen_sum r m h]

/-- quotients and rests -/
def quo (t : Int) (l : List Int) : List Int := l.map fun w => t * w / l.sum
def rem (t : Int) (l : List Int) : List Int := l.map fun w => t * w % l.sum
def left (t : Int) (l : List Int) : Nat := (t - (quo t l).sum).toNat
def app (t : Int) (l : List Int) : List Int := bump (quo t l) (rem t l) (left t l)

theorem quo_length (t : Int) (l : List Int) : (quo t l).length = l.length := by simp [quo]
theorem rem_length (t : Int) (l : List Int) : (rem t l).length = l.length := by simp [rem]
theorem app_length (t : Int) (l : List Int) : (app t l).length = l.length := by simp [app, bump_length, quo_length]

theorem quo_getD {t : Int} {l : List Int} {i : Nat} (h : i < l.length) : (quo t l).getD i 0 = t * l.getD i 0 / l.sum := by
  simp [quo, h]
theorem rem_getD {t : Int} {l : List Int} {i : Nat} (h : i < l.length) : (rem t l).getD i 0 = t * l.getD i 0 % l.sum := by
  simp [rem, h]

theorem sums (t W : Int) (l : List Int) : W * (l.map fun w => t * w / W).sum + (l.map fun w => t * w % W).sum = t * l.sum := by
  induction l with
  | nil => simp
  | cons a l ih =>
    simp only [List.map_cons, List.sum_cons, Int.mul_add]
    have := Int.mul_ediv_add_emod (t * a) W
    omega

def nz (r : List Int) : Nat := r.countP (fun x => decide (x ≠ 0))

theorem sum_rem_le (W : Int) (hW : 0 < W) : ∀ (r : List Int), (∀ x ∈ r, 0 ≤ x ∧ x < W) → 0 ≤ r.sum ∧ r.sum ≤ W * nz r
  | [], _ => by simp [nz]
  | a :: r, h => by
    have ih := sum_rem_le W hW r fun x hx => h x (List.mem_cons_of_mem _ hx)
    have ha := h a (List.mem_cons_self ..)
    unfold nz at *
    rw [List.countP_cons, List.sum_cons]
    by_cases h0 : a = 0
    · subst h0; simpa using ih
    · rw [if_pos (by simpa using h0)]
      rw [Int.natCast_add, Int.mul_add]
      have : W * ((1 : Nat) : Int) = W := by simp
      omega

structure Ok (t : Int) (l : List Int) : Prop where
  t0 : 0 ≤ t
  pos : ∀ x ∈ l, 0 ≤ x
  sum1 : 1 ≤ l.sum

theorem rem_bd {t : Int} {l : List Int} (h : Ok t l) : ∀ x ∈ rem t l, 0 ≤ x ∧ x < l.sum := by
  intro x hx
  have := h.sum1
  simp only [rem, List.mem_map] at hx
  obtain ⟨w, _, rfl⟩ := hx
  exact ⟨Int.emod_nonneg _ (by omega), Int.emod_lt_of_pos _ (by omega)⟩

theorem left_eq {t : Int} {l : List Int} (h : Ok t l) : (left t l : Int) = t - (quo t l).sum ∧ left t l ≤ nz (rem t l) ∧ 0 ≤ (quo t l).sum := by
  have s := sums t l.sum l
  have b := sum_rem_le l.sum (by have := h.sum1; omega) (rem t l) (rem_bd h)
  change l.sum * (quo t l).sum + (rem t l).sum = t * l.sum at s
  have h1 := h.sum1
  have hd : l.sum * (t - (quo t l).sum) = (rem t l).sum := by rw [Int.mul_sub, Int.mul_comm l.sum t]; omega
  have h0 : 0 ≤ t - (quo t l).sum := by
    rcases Int.lt_or_le (t - (quo t l).sum) 0 with h2 | h2
    · have := Int.mul_neg_of_pos_of_neg (show 0 < l.sum by omega) h2; omega
    · exact h2
  have hn : t - (quo t l).sum ≤ nz (rem t l) := by
    refine Int.le_of_mul_le_mul_left (a := l.sum) ?_ (by omega)
    rw [hd]; exact b.2
  have hq : 0 ≤ (quo t l).sum := by
    have : ∀ (m : List Int), (∀ x ∈ m, 0 ≤ x) → 0 ≤ m.sum := by
      intro m
      induction m with
      | nil => simp
      | cons a m ih => intro hm; simp only [List.sum_cons]; have := ih fun x hx => hm x (List.mem_cons_of_mem _ hx); have := hm a (List.mem_cons_self ..); omega
    apply this
    intro x hx
    simp only [quo, List.mem_map] at hx
    obtain ⟨w, hw, rfl⟩ := hx
    exact Int.ediv_nonneg (Int.mul_nonneg h.t0 (h.pos w hw)) (by omega)
  unfold left
  refine ⟨by omega, by omega, hq⟩

theorem nz_le (r : List Int) : nz r ≤ r.length := List.countP_le_length

theorem left_le {t : Int} {l : List Int} (h : Ok t l) : left t l ≤ l.length := by
  have := (left_eq h).2.1; have := nz_le (rem t l); rw [rem_length] at this; omega

/-- who has no rest comes behind all that have one -/
theorem countP_range (p : Int → Bool) (r : List Int) : (List.range r.length).countP (fun j => p (r.getD j 0)) = r.countP p := by
  have : (List.range r.length).countP (fun j => p (r.getD j 0)) = ((List.range r.length).map (fun i => r.getD i 0)).countP p := by
    rw [List.countP_map]; rfl
  rw [this, range_getD]

theorem rank_zero {r : List Int} {i : Nat} (hn : ∀ x ∈ r, 0 ≤ x) (h : r.getD i 0 = 0) : nz r ≤ rank r i := by
  unfold nz rank
  rw [← countP_range]
  apply List.countP_mono_left
  intro j hj h1
  have hj' : j < r.length := by simpa using hj
  have : 0 ≤ r.getD j 0 := by
    apply hn; rw [List.getD_eq_getElem?_getD, List.getElem?_eq_getElem hj', Option.getD_some]; exact List.getElem_mem hj'
  rw [less_iff, h]
  simp only [decide_eq_true_eq] at h1
  omega

theorem rem_pos {t : Int} {l : List Int} (h : Ok t l) : ∀ x ∈ rem t l, 0 ≤ x := fun x hx => (rem_bd h x hx).1

theorem chosen_nz {t : Int} {l : List Int} (h : Ok t l) {i : Nat} (hc : rank (rem t l) i < left t l) : (rem t l).getD i 0 ≠ 0 := by
  intro h0
  have := rank_zero (rem_pos h) h0
  have := (left_eq h).2.1
  omega

/-- NOTHING IS LOST -/
theorem app_sum {t : Int} {l : List Int} (h : Ok t l) : (app t l).sum = t := by
  unfold app
  have h1 := left_eq h
  rw [bump_sum (by rw [quo_length, rem_length]) (by rw [rem_length]; exact left_le h)]
  omega

theorem app_getD {t : Int} {l : List Int} {i : Nat} (hi : i < l.length) : (app t l).getD i 0 = t * l.getD i 0 / l.sum + if rank (rem t l) i < left t l then 1 else 0 := by
  unfold app
  rw [bump_getD (by rw [quo_length]; exact hi), quo_getD hi]

theorem app_quota {t : Int} {l : List Int} (h : Ok t l) {i : Nat} (hi : i < l.length) :
    (app t l).getD i 0 = t * l.getD i 0 / l.sum ∨ ((app t l).getD i 0 = t * l.getD i 0 / l.sum + 1 ∧ t * l.getD i 0 % l.sum ≠ 0) := by
  rw [app_getD hi]
  by_cases hc : rank (rem t l) i < left t l
  · right
    have := chosen_nz h hc
    rw [rem_getD hi] at this
    exact ⟨by rw [if_pos hc], this⟩
  · left; rw [if_neg hc]; omega

theorem app_zero {t : Int} {l : List Int} (h : Ok t l) {i : Nat} (hi : i < l.length) (h0 : l.getD i 0 = 0) : (app t l).getD i 0 = 0 := by
  rcases app_quota h hi with e | ⟨_, e⟩
  · rw [e, h0]; simp
  · rw [h0] at e; simp at e

/-- A GREATER WEIGHT NEVER HAS A SMALLER PART -/
theorem app_fair {t : Int} {l : List Int} (h : Ok t l) {i k : Nat} (hi : i < l.length) (hk : k < l.length) (hw : l.getD k 0 < l.getD i 0) : (app t l).getD k 0 ≤ (app t l).getD i 0 := by
  have h1 := h.sum1
  have e1 := Int.mul_ediv_add_emod (t * l.getD i 0) l.sum
  have e2 := Int.mul_ediv_add_emod (t * l.getD k 0) l.sum
  have r1 := rem_getD (t := t) hi
  have r2 := rem_getD (t := t) hk
  have hm : t * l.getD k 0 ≤ t * l.getD i 0 := Int.mul_le_mul_of_nonneg_left (by omega) h.t0
  have hq : t * l.getD k 0 / l.sum ≤ t * l.getD i 0 / l.sum := Int.ediv_le_ediv (by omega) hm
  rw [app_getD hi, app_getD hk]
  rcases Int.lt_or_le (t * l.getD k 0 / l.sum) (t * l.getD i 0 / l.sum) with h2 | h2
  · split <;> split <;> omega
  · have eq : t * l.getD k 0 / l.sum = t * l.getD i 0 / l.sum := by omega
    rw [eq] at e2 ⊢
    by_cases hc : rank (rem t l) k < left t l
    · have ht : t ≠ 0 := by
        intro h0
        have := chosen_nz h hc
        rw [r2, h0] at this; simp at this
      have hlt : t * l.getD k 0 < t * l.getD i 0 := Int.mul_lt_mul_of_pos_left hw (by have := h.t0; omega)
      have hless : less (rem t l) i k = true := by rw [less_iff, r1, r2]; left; omega
      have := rank_lt (by rw [rem_length]; exact hi) hless
      rw [if_pos hc, if_pos (by omega)]; omega
    · rw [if_neg hc]; split <;> omega

/-- OF EQUAL WEIGHTS THE EARLIER ONE HAS THE SAME PART, OR ONE MORE -/
theorem app_equal {t : Int} {l : List Int} {i k : Nat} (hi : i < l.length) (hk : k < i) (hw : l.getD i 0 = l.getD k 0) :
    (app t l).getD k 0 = (app t l).getD i 0 ∨ (app t l).getD k 0 = (app t l).getD i 0 + 1 := by
  have hk' : k < l.length := by omega
  rw [app_getD hi, app_getD hk', hw]
  by_cases hc : rank (rem t l) i < left t l
  · have hless : less (rem t l) k i = true := by rw [less_iff, rem_getD hi, rem_getD hk', hw]; right; exact ⟨rfl, hk⟩
    have := rank_lt (by rw [rem_length]; exact hk') hless
    rw [if_pos hc, if_pos (by omega)]; left; rfl
  · rw [if_neg hc]
    split
    · right; omega
    · left; rfl

/-- MULTIPLYING ALL WEIGHTS CHANGES NOTHING -/
theorem sum_scale (c : Int) (l : List Int) : (l.map fun w => c * w).sum = c * l.sum := by
  induction l with
  | nil => simp
  | cons a l ih => simp only [List.map_cons, List.sum_cons, ih, Int.mul_add]

theorem scale_div (c a b : Int) (hc : 0 < c) : c * a / (c * b) = a / b := Int.mul_ediv_mul_of_pos _ _ hc
theorem scale_mod (c a b : Int) (hc : 0 < c) : c * a % (c * b) = c * (a % b) := Int.mul_emod_mul_of_pos _ _ hc

theorem rank_congr {r s : List Int} (hl : r.length = s.length) {i : Nat} (h : ∀ j, j < r.length → less r j i = less s j i) : rank r i = rank s i := by
  unfold rank
  rw [← hl]
  apply List.countP_congr
  intro j hj
  rw [h j (by simpa using hj)]

theorem app_scale {c : Int} (hc : 1 ≤ c) (t : Int) (l : List Int) : app t (l.map fun w => c * w) = app t l := by
  have hq : quo t (l.map fun w => c * w) = quo t l := by
    unfold quo
    rw [sum_scale, List.map_map]
    apply List.map_congr_left
    intro w _
    show t * (c * w) / (c * l.sum) = _
    rw [Int.mul_left_comm, scale_div _ _ _ (by omega)]
  have hr : rem t (l.map fun w => c * w) = (rem t l).map fun x => c * x := by
    unfold rem
    rw [sum_scale, List.map_map, List.map_map]
    apply List.map_congr_left
    intro w _
    show t * (c * w) % (c * l.sum) = c * (t * w % l.sum)
    rw [Int.mul_left_comm, scale_mod _ _ _ (by omega)]
  unfold app
  have hleft : left t (l.map fun w => c * w) = left t l := by unfold left; rw [hq]
  rw [hleft, hq, hr]
  unfold bump
  apply List.map_congr_left
  intro i hi
  have hi' : i < l.length := by simpa [quo_length] using hi
  have g : ∀ j, ((rem t l).map fun x => c * x).getD j 0 = c * (rem t l).getD j 0 := by
    intro j
    rw [List.getD_eq_getElem?_getD, List.getD_eq_getElem?_getD, List.getElem?_map]
    cases (rem t l)[j]? <;> simp
  rw [rank_congr (r := (rem t l).map fun x => c * x) (s := rem t l) (by simp)]
  intro j _
  rw [Bool.eq_iff_iff, less_iff, less_iff, g, g]
  have a1 : c * (rem t l).getD i 0 < c * (rem t l).getD j 0 ↔ (rem t l).getD i 0 < (rem t l).getD j 0 := Int.mul_lt_mul_left (by omega)
  have a2 : c * (rem t l).getD j 0 = c * (rem t l).getD i 0 ↔ (rem t l).getD j 0 = (rem t l).getD i 0 := Int.mul_eq_mul_left_iff (by omega)
  rw [a1, a2]

/-- A WEIGHT OF 0 CHANGES NO OTHER PART -/
theorem ins_getD (a b : List Int) (x : Int) (j : Nat) : (a ++ x :: b).getD (if j < a.length then j else j + 1) 0 = (a ++ b).getD j 0 := by
  rw [List.getD_eq_getElem?_getD, List.getD_eq_getElem?_getD]
  by_cases h : j < a.length
  · rw [if_pos h, List.getElem?_append_left h, List.getElem?_append_left h]
  · rw [if_neg h, List.getElem?_append_right (by omega), List.getElem?_append_right (by omega)]
    rw [show j + 1 - a.length = (j - a.length) + 1 by omega, List.getElem?_cons_succ]

def sh (n j : Nat) : Nat := if j < n then j else j + 1

theorem range_ins (n m : Nat) : (List.range (n + (m + 1))).Perm (n :: (List.range (n + m)).map (sh n)) := by
  have e1 : List.range (n + (m + 1)) = List.range n ++ n :: (List.range m).map (fun j => n + 1 + j) := by
    rw [List.range_add, List.range_succ_eq_map, List.map_cons, List.map_map]
    congr 2
    apply List.map_congr_left
    intro x _; simp; omega
  have e2 : (List.range (n + m)).map (sh n) = List.range n ++ (List.range m).map (fun j => n + 1 + j) := by
    rw [List.range_add, List.map_append, List.map_map]
    congr 1
    · conv => rhs; rw [← List.map_id (List.range n)]
      apply List.map_congr_left
      intro x hx
      have : x < n := by simpa using hx
      simp [sh, this]
    · apply List.map_congr_left
      intro x _
      show sh n (n + x) = n + 1 + x
      unfold sh; rw [if_neg (by omega)]; omega
  rw [e1, e2]
  exact List.perm_middle

theorem sh_lt (n i j : Nat) : sh n i < sh n j ↔ i < j := by unfold sh; split <;> split <;> omega

theorem rank_ins (a b : List Int) (i : Nat) (hpos : 0 < (a ++ b).getD i 0) : rank (a ++ 0 :: b) (sh a.length i) = rank (a ++ b) i := by
  unfold rank
  have hl : (a ++ 0 :: b).length = a.length + (b.length + 1) := by simp
  rw [hl, (range_ins a.length b.length).countP_eq, List.countP_cons, List.countP_map]
  have e : less (a ++ 0 :: b) a.length (sh a.length i) = false := by
    rw [Bool.eq_false_iff]; intro h; rw [less_iff] at h
    rw [show (a ++ 0 :: b).getD (sh a.length i) 0 = (a ++ b).getD i 0 from ins_getD a b 0 i] at h
    have : (a ++ 0 :: b).getD a.length 0 = 0 := by simp
    rw [this] at h; omega
  rw [if_neg (by simp [e]), Nat.add_zero, List.length_append]
  apply List.countP_congr
  intro j _
  show less (a ++ 0 :: b) (sh a.length j) (sh a.length i) = true ↔ _
  rw [less_iff, less_iff, show (a ++ 0 :: b).getD (sh a.length i) 0 = (a ++ b).getD i 0 from ins_getD a b 0 i,
    show (a ++ 0 :: b).getD (sh a.length j) 0 = (a ++ b).getD j 0 from ins_getD a b 0 j, sh_lt]

theorem app_ins {t : Int} {a b : List Int} (h : Ok t (a ++ b)) :
    Ok t (a ++ 0 :: b) ∧ (app t (a ++ 0 :: b)).getD a.length 0 = 0 ∧ (app t (a ++ 0 :: b)).take a.length ++ (app t (a ++ 0 :: b)).drop (a.length + 1) = app t (a ++ b) := by
  have hs : (a ++ 0 :: b).sum = (a ++ b).sum := by simp
  have hok : Ok t (a ++ 0 :: b) := by
    refine ⟨h.t0, ?_, by rw [hs]; exact h.sum1⟩
    intro x hx
    have hp := h.pos
    simp only [List.mem_append, List.mem_cons] at hx hp
    rcases hx with hx | rfl | hx
    · exact hp x (.inl hx)
    · omega
    · exact hp x (.inr hx)
  have hlen : a.length < (a ++ 0 :: b).length := by simp
  refine ⟨hok, app_zero hok hlen (by simp), ?_⟩
  have hl2 : (app t (a ++ 0 :: b)).length = a.length + (b.length + 1) := by rw [app_length]; simp
  have hlr : left t (a ++ 0 :: b) = left t (a ++ b) := by
    unfold left quo
    rw [hs]
    simp
  have hr : rem t (a ++ 0 :: b) = (a.map fun w => t * w % (a ++ b).sum) ++ 0 :: (b.map fun w => t * w % (a ++ b).sum) := by
    unfold rem; rw [hs]; simp
  have hr2 : rem t (a ++ b) = (a.map fun w => t * w % (a ++ b).sum) ++ (b.map fun w => t * w % (a ++ b).sum) := by
    unfold rem; simp
  apply ext_getD
  · rw [app_length, List.length_append, List.length_take, List.length_drop, hl2, List.length_append]; omega
  intro j hj
  have hj' : j < (a ++ b).length := by
    rw [List.length_append, List.length_take, List.length_drop, hl2] at hj
    rw [List.length_append]; omega
  have hsh : sh a.length j < (a ++ 0 :: b).length := by
    rw [List.length_append] at hj' ⊢
    rw [List.length_cons]; unfold sh; split <;> omega
  have e1 : ((app t (a ++ 0 :: b)).take a.length ++ (app t (a ++ 0 :: b)).drop (a.length + 1)).getD j 0 = (app t (a ++ 0 :: b)).getD (sh a.length j) 0 := by
    rw [List.getD_eq_getElem?_getD, List.getD_eq_getElem?_getD]
    unfold sh
    by_cases hja : j < a.length
    · rw [if_pos hja, List.getElem?_append_left (by rw [List.length_take, hl2]; omega), List.getElem?_take_of_lt hja]
    · rw [if_neg hja, List.getElem?_append_right (by rw [List.length_take, hl2]; omega), List.getElem?_drop, List.length_take, hl2]
      congr 2; omega
  rw [e1, app_getD hsh, app_getD hj', show (a ++ 0 :: b).getD (sh a.length j) 0 = (a ++ b).getD j 0 from ins_getD a b 0 j, hs, hlr]
  congr 1
  by_cases h0 : (rem t (a ++ b)).getD j 0 = 0
  · have n1 : ¬ rank (rem t (a ++ b)) j < left t (a ++ b) := fun hc => chosen_nz h hc h0
    have n2 : ¬ rank (rem t (a ++ 0 :: b)) (sh a.length j) < left t (a ++ b) := fun hc => by
      rw [← hlr] at hc
      have := chosen_nz hok hc
      apply this
      rw [rem_getD hsh, show (a ++ 0 :: b).getD (sh a.length j) 0 = (a ++ b).getD j 0 from ins_getD a b 0 j, hs]
      rw [rem_getD hj'] at h0; exact h0
    rw [if_neg n1, if_neg n2]
  · have hp : 0 ≤ (rem t (a ++ b)).getD j 0 := by
      rw [rem_getD hj']; exact Int.emod_nonneg _ (by have := h.sum1; omega)
    have : rank (rem t (a ++ 0 :: b)) (sh a.length j) = rank (rem t (a ++ b)) j := by
      rw [hr, hr2]
      rw [hr2] at h0 hp
      have := rank_ins (a.map fun w => t * w % (a ++ b).sum) (b.map fun w => t * w % (a ++ b).sum) j (by omega)
      rw [List.length_map] at this
      exact this
    rw [this]

end Go.Proofs.Ytbefbodihfijbaa.App
