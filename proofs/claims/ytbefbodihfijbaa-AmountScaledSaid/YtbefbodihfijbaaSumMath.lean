/-
  Plain arithmetic of sums of lists (no program in sight).
-/
namespace Go.Proofs.Ytbefbodihfijbaa

/-- none is negative, and the sum is at most M -/
def okS (M : Int) (l : List Int) : Bool := l.all (fun x => decide (0 ≤ x)) && decide (l.sum ≤ M)

theorem okS_iff {M : Int} {l : List Int} : okS M l = true ↔ (∀ x ∈ l, 0 ≤ x) ∧ l.sum ≤ M := by
  unfold okS; simp

theorem take_sum_succ (l : List Int) (k : Nat) (h : k < l.length) : (l.take (k + 1)).sum = (l.take k).sum + l.getD k 0 := by
  rw [List.take_succ_eq_append_getElem h, List.sum_append]
  simp [h]

theorem sum_nonneg : ∀ (l : List Int), (∀ x ∈ l, 0 ≤ x) → 0 ≤ l.sum
  | [], _ => by simp
  | a :: l, h => by
    have := sum_nonneg l fun x hx => h x (List.mem_cons_of_mem _ hx)
    have := h a (List.mem_cons_self ..)
    rw [List.sum_cons]; omega

theorem take_sum_le (l : List Int) (k : Nat) (h : ∀ x ∈ l, 0 ≤ x) : (l.take k).sum ≤ l.sum := by
  have e : (l.take k ++ l.drop k).sum = l.sum := by rw [List.take_append_drop]
  rw [List.sum_append] at e
  have := sum_nonneg (l.drop k) fun x hx => h x (List.mem_of_mem_drop hx)
  omega

theorem getD_mem {l : List Int} {k : Nat} (h : k < l.length) : l.getD k 0 ∈ l := by
  rw [List.getD_eq_getElem?_getD, List.getElem?_eq_getElem h, Option.getD_some]; exact List.getElem_mem h

/-- the loop stops at a negative number, or where the sum would be too great -/
theorem okS_no {M : Int} {l : List Int} {k : Nat} (h : k < l.length) (t : l.getD k 0 < 0 ∨ M - (l.take k).sum < l.getD k 0) : okS M l = false := by
  rw [Bool.eq_false_iff]
  intro ho
  rw [okS_iff] at ho
  have h1 := ho.1 _ (getD_mem h)
  have h2 := take_sum_le l (k + 1) ho.1
  rw [take_sum_succ l k h] at h2
  have := ho.2
  omega

/-- what the loop knows -/
def Pre (M : Int) (l : List Int) (k : Nat) : Prop := (∀ x ∈ l.take k, 0 ≤ x) ∧ 0 ≤ (l.take k).sum ∧ (l.take k).sum ≤ M

theorem Pre.start {M : Int} (h : 0 ≤ M) (l : List Int) : Pre M l 0 := ⟨by simp, by simp, by simpa using h⟩
theorem Pre.next {M : Int} {l : List Int} {k : Nat} (p : Pre M l k) (h : k < l.length) (h0 : 0 ≤ l.getD k 0) (h1 : l.getD k 0 ≤ M - (l.take k).sum) : Pre M l (k + 1) := by
  obtain ⟨p1, p2, p3⟩ := p
  refine ⟨?_, ?_, ?_⟩
  · rw [List.take_succ_eq_append_getElem h]
    intro x hx
    rcases List.mem_append.1 hx with hx | hx
    · exact p1 x hx
    · simp at hx; subst hx; simpa [h] using h0
  · rw [take_sum_succ l k h]; omega
  · rw [take_sum_succ l k h]; omega
theorem Pre.last {M : Int} {l : List Int} {k : Nat} (p : Pre M l k) (h : l.length ≤ k) : okS M l = true ∧ (l.take k).sum = l.sum := by
  rw [List.take_of_length_le h]
  obtain ⟨p1, p2, p3⟩ := p
  rw [List.take_of_length_le h] at p1 p3
  exact ⟨okS_iff.2 ⟨p1, p3⟩, rfl⟩

/-- the loop's relation: the sum of the first k, none of them negative -/
def SumIs (M : Int) (l : List Int) (k : Nat) (z : Int) : Prop := Pre M l k ∧ z = (l.take k).sum
theorem SumIs.start {M : Int} (h : 0 ≤ M) (l : List Int) : SumIs M l 0 0 := ⟨Pre.start h l, by simp⟩
theorem SumIs.bd {M : Int} {l : List Int} {k : Nat} {z : Int} (h : SumIs M l k z) : 0 ≤ z ∧ z ≤ M := by obtain ⟨p, rfl⟩ := h; exact p.2
theorem SumIs.no {M : Int} {l : List Int} {k : Nat} {z x : Int} (h : SumIs M l k z) (hk : k < l.length) (hx : x = l.getD k 0) (t : x < 0 ∨ M - z < x) : okS M l = false := by
  obtain ⟨p, rfl⟩ := h; subst hx; exact okS_no hk t
theorem SumIs.next {M : Int} {l : List Int} {k : Nat} {z x : Int} (h : SumIs M l k z) (hk : k < l.length) (hx : x = l.getD k 0) (h0 : 0 ≤ x) (h1 : x ≤ M - z) : SumIs M l (k + 1) (z + x) := by
  obtain ⟨p, rfl⟩ := h; subst hx; exact ⟨p.next hk h0 h1, (take_sum_succ l k hk).symm⟩
theorem SumIs.last {M : Int} {l : List Int} {k : Nat} {z : Int} (h : SumIs M l k z) (hk : l.length ≤ k) : okS M l = true ∧ l.sum = z := by
  obtain ⟨p, rfl⟩ := h; have := p.last hk; exact ⟨this.1, this.2.symm⟩

/-- Sum's two results -/
def sumB (l : List Int) : Bool := okS 4611686018427387903 l
def sumV (l : List Int) : Int := if sumB l = true then l.sum else 0
/-- weigh's two results -/
def wgB (l : List Int) : Bool := okS 1000000000000000 l && decide (0 < l.sum)
def wgV (l : List Int) : Int := if okS 1000000000000000 l = true then l.sum else 0

theorem sum_no {l : List Int} (h : okS 4611686018427387903 l = false) : sumB l = false ∧ sumV l = 0 := by
  unfold sumV sumB; rw [h]; simp
theorem sum_yes {l : List Int} (h : okS 4611686018427387903 l = true) : sumB l = true ∧ sumV l = l.sum := by
  unfold sumV sumB; rw [h]; simp
theorem wg_no {l : List Int} (h : okS 1000000000000000 l = false) : wgB l = false ∧ wgV l = 0 := by
  unfold wgV wgB; rw [h]; simp
theorem wg_yes {l : List Int} (h : okS 1000000000000000 l = true) : wgB l = decide (0 < l.sum) ∧ wgV l = l.sum := by
  unfold wgV wgB; rw [h]; simp

end Go.Proofs.Ytbefbodihfijbaa
