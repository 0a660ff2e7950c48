/-
  A flow, in plain words: its names ascend; what is stale; what a call does.
-/
import Derived.WalkKit
import Derived.Lib.SlicesS

/-! A flow, in plain words: its names ascend; what is stale; what a call does. -/
namespace Go.Proofs.YtffifhbldcjelaaGreatDoor
set_option linter.unusedVariables false

structure En where
  nm : ByteArray
  val : ByteArray
  node : Bool
  stale : Bool
  rds : List ByteArray

def ltB (a b : ByteArray) : Prop := a.toList < b.toList
instance (a b : ByteArray) : Decidable (ltB a b) := by unfold ltB; exact inferInstance

def atF (F : List En) (n : ByteArray) : Option En := F.find? (fun e => decide (e.nm = n))

/-- the place of a further name -/
def insF (x : En) : List En → List En
  | [] => [x]
  | e :: r => if ltB x.nm e.nm then x :: e :: r else e :: insF x r

def updF (F : List En) (n : ByteArray) (g : En → En) : List En := F.map fun e => if e.nm = n then g e else e
def hasR (e : En) (n : ByteArray) : Bool := e.rds.any fun r => decide (r = n)
theorem hasR_iff {e : En} {n : ByteArray} : hasR e n = true ↔ n ∈ e.rds := by unfold hasR; simp
/-- who reads n is stale -/
def markF (F : List En) (n : ByteArray) : List En := F.map fun e => if hasR e n = true then { e with stale := true } else e
/-- n gets a value -/
def chgF (F : List En) (n v : ByteArray) : List En :=
  match atF F n with
  | some e => if e.val = v then F else markF (updF F n fun e => { e with val := v }) n
  | none => F

def SortedF (F : List En) : Prop := F.Pairwise (fun a b => ltB a.nm b.nm)

theorem atF_some {F : List En} {n : ByteArray} {e : En} (h : atF F n = some e) : e ∈ F ∧ e.nm = n :=
  ⟨List.mem_of_find?_eq_some h, by simpa using List.find?_some h⟩
theorem atF_none {F : List En} {n : ByteArray} (h : atF F n = none) : ∀ e ∈ F, e.nm ≠ n := fun e he => by
  have := List.find?_eq_none.1 h e he
  simpa using this

theorem ltB_irr (a : ByteArray) : ¬ ltB a a := List.lt_irrefl _
theorem ltB_trans {a b c : ByteArray} (h : ltB a b) (h2 : ltB b c) : ltB a c := List.lt_trans h h2
theorem toList_inj {a b : ByteArray} (h : a.toList = b.toList) : a = b := by
  exact (Lib.bytes_beq_iff a b).1 (by simp [h])
theorem ltB_tri (a b : ByteArray) : ltB a b ∨ a = b ∨ ltB b a := by
  rcases Decidable.em (a.toList < b.toList) with h | h
  · exact .inl h
  · rcases Decidable.em (a.toList = b.toList) with h' | h'
    · exact .inr (.inl (toList_inj h'))
    · refine .inr (.inr ?_)
      rcases Decidable.em (b.toList < a.toList) with h2 | h2
      · exact h2
      · exact absurd (List.le_antisymm (List.not_lt.1 h2) (List.not_lt.1 h)) h'

/-- in an ascending list a name stands once -/
theorem SortedF.inj {F : List En} (h : SortedF F) : ∀ a ∈ F, ∀ b ∈ F, a.nm = b.nm → a = b := by
  induction F with
  | nil => intro a ha; cases ha
  | cons e r ih =>
    obtain ⟨h1, h2⟩ := List.pairwise_cons.1 h
    intro a ha b hb he
    rcases List.mem_cons.1 ha with ea | ha'
    · rcases List.mem_cons.1 hb with eb | hb'
      · rw [ea, eb]
      · have := h1 b hb'; rw [← he, ea] at this; exact absurd this (ltB_irr _)
    · rcases List.mem_cons.1 hb with eb | hb'
      · have := h1 a ha'; rw [he, eb] at this; exact absurd this (ltB_irr _)
      · exact ih h2 a ha' b hb' he

theorem atF_mem {F : List En} (h : SortedF F) {e : En} (he : e ∈ F) : atF F e.nm = some e := by
  rcases hf : atF F e.nm with _ | e'
  · exact absurd rfl (atF_none hf e he)
  · obtain ⟨h1, h2⟩ := atF_some hf
    rw [h.inj e' h1 e he h2]

theorem mem_insF {x e : En} : ∀ {F : List En}, e ∈ insF x F ↔ e = x ∨ e ∈ F
  | [] => by simp [insF]
  | a :: r => by
    unfold insF
    split
    · simp
    · rw [List.mem_cons, mem_insF (F := r), List.mem_cons]; constructor <;> (intro h; rcases h with h | h | h <;> simp [h])

theorem insF_sorted {x : En} : ∀ {F : List En}, SortedF F → (∀ e ∈ F, e.nm ≠ x.nm) → SortedF (insF x F)
  | [], _, _ => by simp [insF, SortedF]
  | a :: r, h, hx => by
    obtain ⟨h1, h2⟩ := List.pairwise_cons.1 h
    unfold insF
    split
    · rename_i hlt
      refine List.pairwise_cons.2 ⟨fun e he => ?_, h⟩
      rcases List.mem_cons.1 he with rfl | he
      · exact hlt
      · exact ltB_trans hlt (h1 e he)
    · rename_i hlt
      refine List.pairwise_cons.2 ⟨fun e he => ?_, insF_sorted h2 (fun e he => hx e (by simp [he]))⟩
      rcases mem_insF.1 he with rfl | he
      · rcases ltB_tri a.nm e.nm with h' | h' | h'
        · exact h'
        · exact absurd h' (hx a (by simp))
        · exact absurd h' hlt
      · exact h1 e he

theorem insF_length (x : En) : ∀ (F : List En), (insF x F).length = F.length + 1
  | [] => rfl
  | a :: r => by unfold insF; split <;> simp [insF_length x r]

end Go.Proofs.YtffifhbldcjelaaGreatDoor
