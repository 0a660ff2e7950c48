import Derived.Test.YtgbnhngaeefmkaaFl24

/-! Names: Compact. -/
namespace Go.Proofs.Ytgbnhngaeefmkaa
set_option linter.unusedVariables false
set_option linter.unusedSimpArgs false
open Go.RowKit Go.Sort Go.Lib

theorem scompact_any (v : Value) (base : Nat) (xs : List ByteArray) (W : World) (hn : xs.length ≤ 1000) (hbW : base ≤ W.heap.size) (hrow : W.ownsRow base 9 1 v xs.length ((sortedL xs).map encStr)) :
    Calls Try.prog 55 #[v] W fun e w' => ∃ ao cap, e = .returned (.slice ao (sortU xs).length cap) ∧ RowK 1 encT w' ao (sortU xs) ∧ Below base W w' := by
  have hlen : (compact (sortedL xs)).length = (sortU xs).length := by rw [← compact_sortU, List.length_map]
  rcases hrow.2 with ⟨rfl, hz⟩ | ⟨gb, cp, cur, rfl, hbase, hgb, r1, r2, r3, r4⟩
  · have hx : xs = [] := List.eq_nil_of_length_eq_zero hz
    subst hx
    refine (Try.slices_Compact_string_empty none 0 W).mono ?_
    rintro e w' ⟨rfl, rfl⟩
    exact ⟨none, 0, rfl, RowK.nil _ _ _ _, Below.refl _ _⟩
  · have hsl := sortedL_len xs
    have hr4 : cur.toList.take (sortedL xs).length = (sortedL xs).map encStr := by rw [← r4, hsl]; simp
    have hH : Holds encStr W gb 0 (sortedL xs).toArray := holds_of_block hgb hr4
    have hcall := Try.slices_Compact_string gb 0 cp (sortedL xs) W hH (by rw [hsl]; omega) (by rw [hsl]; exact r1)
    rw [hsl, hlen] at hcall
    refine hcall.mono ?_
    rintro e w' ⟨rfl, q, rfl⟩
    have hle : (sortU xs).length ≤ xs.length := by rw [← hlen, ← hsl]; exact compact_length_le _
    have hsz : (compact (sortedL xs) ++ List.replicate (xs.length - (sortU xs).length) ([] : List UInt8)).toArray.size = (sortedL xs).toArray.size := by simp [hlen, hsl]; omega
    refine ⟨some ⟨gb, 0, none⟩, cp, rfl, fun i x hx => ?_, ?_⟩
    · have hi : i < (sortU xs).length := (List.getElem?_eq_some_iff.1 hx).1
      refine ⟨gb, 0, rfl, ?_, fun j u hu => ?_⟩
      · have := (grownBy_sorted (w := W) (g := gb) (n := q) (os := #[]) (compact (sortedL xs) ++ List.replicate (xs.length - (sortU xs).length) ([] : List UInt8)).toArray).size
        rw [grow_empty] at this
        exact Nat.lt_of_lt_of_le (lt_of_blk hgb) this
      · have hj : j = 0 := by
          have := (List.getElem?_eq_some_iff.1 hu).1
          simp [encT] at this; exact this
        subst hj
        simp [encT] at hu
        have hc := cell?_putRow encStr (Sort.ahead W q) gb 0 (sortedL xs).toArray (compact (sortedL xs) ++ List.replicate (xs.length - (sortU xs).length) ([] : List UInt8)).toArray (fun j hj => hH j hj) hsz i (by simp; omega)
        rw [Nat.mul_one, Nat.add_zero]
        rw [hc, ← hu]
        have h2 : (compact (sortedL xs))[i]? = some x.data.toList := by
          have h3 : ((compact (sortedL xs)).map unB)[i]? = some x := by rw [compact_sortU]; exact hx
          rw [List.getElem?_map] at h3
          obtain ⟨y, hy, rfl⟩ := Option.map_eq_some_iff.1 h3
          rw [data_unB]; exact hy
        have h4 : (compact (sortedL xs) ++ List.replicate (xs.length - (sortU xs).length) ([] : List UInt8)).toArray[i]! = x.data.toList := by
          rw [getElem!_pos _ i (by simp; omega)]
          have := (List.getElem?_eq_some_iff.1 h2)
          obtain ⟨h5, h6⟩ := this
          simp [List.getElem_append_left h5, h6]
        rw [h4]
    · have h2 := (Below.refl base W).grown (grownBy_sorted (w := W) (g := gb) (n := q) (os := #[]) (compact (sortedL xs) ++ List.replicate (xs.length - (sortU xs).length) ([] : List UInt8)).toArray) hbW (fun j hj => by cases hj; exact hbase)
      rw [grow_empty] at h2
      exact h2

end Go.Proofs.Ytgbnhngaeefmkaa
