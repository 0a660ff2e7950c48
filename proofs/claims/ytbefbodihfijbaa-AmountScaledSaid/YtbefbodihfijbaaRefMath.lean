/-
  Plain arithmetic of the reference's division, bit by bit (no program in sight).
-/
namespace Go.Proofs.Ytbefbodihfijbaa

/-- quotient and rest of (the bits of a from j on) * b by c -/
def BitIs (a b c j q r : Nat) : Prop := q * c + r = a / 2 ^ j * b ∧ r < c

theorem BitIs.start (a b c : Nat) (ha : a ≤ 9223372036854775807) (hc : 1 ≤ c) : BitIs a b c 63 0 0 := by
  have : a / 2 ^ 63 = 0 := Nat.div_eq_of_lt (by omega)
  unfold BitIs; rw [this]; omega

theorem half (a j : Nat) : a / 2 ^ j = 2 * (a / 2 ^ (j + 1)) + a / 2 ^ j % 2 := by
  rw [Nat.pow_succ, ← Nat.div_div_eq_div_mul]; omega

theorem bit0 {a b c j q r : Nat} (h : BitIs a b c (j + 1) q r) (hb : a / 2 ^ j % 2 = 0) :
    (c ≤ 2 * r → BitIs a b c j (2 * q + 1) (2 * r - c)) ∧ (2 * r < c → BitIs a b c j (2 * q) (2 * r)) := by
  obtain ⟨h1, h2⟩ := h
  have e := half a j
  rw [hb, Nat.add_zero] at e
  unfold BitIs
  rw [e, Nat.mul_assoc, ← h1, Nat.add_mul, Nat.mul_assoc, Nat.mul_add]
  exact ⟨fun h => ⟨by omega, by omega⟩, fun h => ⟨by omega, by omega⟩⟩

theorem bit1 {a b c j q r B R : Nat} (h : BitIs a b c (j + 1) q r) (hb : a / 2 ^ j % 2 = 1) (hB : B * c + R = b) (hR : R < c) :
    (c ≤ 2 * r → c ≤ 2 * r - c + R → BitIs a b c j (2 * q + 1 + B + 1) (2 * r - c + R - c)) ∧ (c ≤ 2 * r → 2 * r - c + R < c → BitIs a b c j (2 * q + 1 + B) (2 * r - c + R)) ∧
    (2 * r < c → c ≤ 2 * r + R → BitIs a b c j (2 * q + B + 1) (2 * r + R - c)) ∧ (2 * r < c → 2 * r + R < c → BitIs a b c j (2 * q + B) (2 * r + R)) := by
  obtain ⟨h1, h2⟩ := h
  have e := half a j
  rw [hb] at e
  have e2 : (2 * (a / 2 ^ (j + 1)) + 1) * b = 2 * (q * c + r) + (B * c + R) := by
    rw [h1, hB, Nat.add_mul, Nat.mul_assoc]; omega
  unfold BitIs
  rw [e, e2]
  simp only [Nat.add_mul, Nat.mul_assoc, Nat.mul_add]
  generalize q * c = x at *
  generalize B * c = y at *
  exact ⟨fun _ _ => ⟨by omega, by omega⟩, fun _ _ => ⟨by omega, by omega⟩, fun _ _ => ⟨by omega, by omega⟩, fun _ _ => ⟨by omega, by omega⟩⟩

theorem BitIs.val {a b c j q r : Nat} (h : BitIs a b c j q r) : q = a / 2 ^ j * b / c ∧ r = a / 2 ^ j * b % c := by
  obtain ⟨h1, h2⟩ := h
  rw [← h1]
  constructor
  · rw [Nat.mul_comm, Nat.mul_add_div (by omega), Nat.div_eq_of_lt h2]; rfl
  · rw [Nat.mul_comm, Nat.mul_add_mod, Nat.mod_eq_of_lt h2]

theorem BitIs.last {a b c q r : Nat} (h : BitIs a b c 0 q r) : q = a * b / c ∧ r = a * b % c := by
  have := h.val; simpa using this

theorem BitIs.great {a b c j q r : Nat} (h : BitIs a b c j q r) (hq : 4611686018427387903 < q) : ¬ a * b / c ≤ 4611686018427387903 := by
  have h1 := h.val.1
  have h2 : a / 2 ^ j * b / c ≤ a * b / c := Nat.div_le_div_right (Nat.mul_le_mul_right _ (Nat.div_le_self _ _))
  omega

end Go.Proofs.Ytbefbodihfijbaa
