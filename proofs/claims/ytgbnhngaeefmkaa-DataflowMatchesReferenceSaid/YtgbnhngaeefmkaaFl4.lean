import Derived.Test.YtgbnhngaeefmkaaFl3

/-! Flows: Set. -/
namespace Go.Proofs.Ytgbnhngaeefmkaa
set_option linter.unusedVariables false
set_option linter.unusedSimpArgs false
open Go.RowKit

/-- may an input n be set -/
def setOk (F : List En) (n : ByteArray) : Bool :=
  !n.toList.isEmpty && (match atF F n with | some e => !e.node | none => true)
def setF (F : List En) (n v : ByteArray) : List En :=
  if setOk F n = true then (match atF F n with | some e => chgF F n v | none => insF ⟨n, v, false, false, []⟩ F) else F

/-- what a name reads is there -/
def Closed (F : List En) : Prop := ∀ e ∈ F, ∀ r ∈ e.rds, ∃ e' ∈ F, e'.nm = r

theorem Closed.none {F : List En} (h : Closed F) {n : ByteArray} (hn : atF F n = none) : ∀ e ∈ F, n ∉ e.rds := fun e he hr => by
  obtain ⟨e', he', hn'⟩ := h e he n hr
  exact atF_none hn e' he' hn'

def StP (B : Nat) (W : World) (f M : Nat) (F' : List En) (c : Int) (e : Ending) (w' : World) : Prop :=
  ∃ bl rb sl, e = .returned (.int .i64 c) ∧ Rep B w' f M bl rb sl F' ∧ Mv B W w'

section
variable {B : Nat} {W : World} {f M : Nat} {bl rb : ByteArray → Nat} {sl : ByteArray → Value} {F : List En}

set_option maxRecDepth 100000 in
set_option maxHeartbeats 2000000 in
theorem set_any (h : Rep B W f M bl rb sl F) (hB : B ≤ W.heap.size) (hC : Closed F) (hF : F.length ≤ 1000) (n v : ByteArray) :
    Calls Try.prog 13 #[.pointer (some ⟨f, 0, none⟩), .string n, .string v] W (StP B W f M (setF F n v) (if setOk F n = true then 0 else 200)) := by
  have hc := h.cellM
  rcases he : atF F n with _ | e
  · have hl := h.look_miss he true
    rcases hn : n.toList.isEmpty with _ | _
    · have hn2 : (n.toList == []) = false := by rcases hh : n.toList with _ | ⟨a, r⟩ <;> simp_all
      have hok : setOk F n = true := by unfold setOk; rw [he, hn]; rfl
      have hsf : setF F n v = insF ⟨n, v, false, false, []⟩ F := by unfold setF; rw [if_pos hok, he]
      rw [hok, hsf]
      have RM := Lib.hid (room_any h hF)
      have AD := Lib.hid (add_any h hB n v he (hC.none he))
      clear h he hok hsf hC
      go_enter Try.func13, Try.ntmps13
      go_wp2_with (first
        | (go_at_call 35; refine RM.out.mono ?_; rintro e w' ⟨rfl, rfl⟩)
        | (go_at_call 37; refine AD.out.mono ?_; rintro e w' ⟨rfl, hr, hm, hs⟩; have HR := Lib.hid hr; have HM := Lib.hid hm; clear hr hm hs))
      go_ret
      exact ⟨_, _, _, rfl, HR.out, HM.out⟩
    · have hn2 : (n.toList == []) = true := by rcases hh : n.toList with _ | ⟨a, r⟩ <;> simp_all
      have hok : ¬ setOk F n = true := by unfold setOk; rw [hn]; simp
      have hsf : setF F n v = F := by unfold setF; rw [if_neg hok]
      rw [if_neg hok, hsf]
      have H := Lib.hid h
      clear h he hok hsf hC
      go_enter Try.func13, Try.ntmps13
      go_wp2
      go_ret
      exact ⟨_, _, _, rfl, H.out, Mv.refl _ _⟩
  · have hl := h.look_hit he true
    obtain ⟨c0, c1, c2, c3, c4, c5, fz⟩ := h.cells he
    rcases hn : n.toList.isEmpty with _ | _
    · have hn2 : (n.toList == []) = false := by rcases hh : n.toList with _ | ⟨a, r⟩ <;> simp_all
      rcases hnd : e.node with _ | _
      · have hok : setOk F n = true := by unfold setOk; rw [he, hn]; simp [hnd]
        have hsf : setF F n v = chgF F n v := by unfold setF; rw [if_pos hok, he]
        rw [hok, hsf]
        rw [hnd] at c2
        have CH := Lib.hid (change_any h he v)
        clear h he hok hsf hC hnd fz
        go_enter Try.func13, Try.ntmps13
        go_wp2_with (go_at_call 36; refine CH.out.mono ?_; rintro e w' ⟨rfl, hr, hm⟩; have HR := Lib.hid hr; have HM := Lib.hid hm; clear hr hm)
        go_ret
        exact ⟨_, _, _, rfl, HR.out, HM.out⟩
      · have hok : ¬ setOk F n = true := by unfold setOk; rw [he, hn]; simp [hnd]
        have hsf : setF F n v = F := by unfold setF; rw [if_neg hok]
        rw [if_neg hok, hsf]
        rw [hnd] at c2
        have H := Lib.hid h
        clear h he hok hsf hC hnd fz
        go_enter Try.func13, Try.ntmps13
        go_wp2
        go_ret
        exact ⟨_, _, _, rfl, H.out, Mv.refl _ _⟩
    · have hn2 : (n.toList == []) = true := by rcases hh : n.toList with _ | ⟨a, r⟩ <;> simp_all
      have hok : ¬ setOk F n = true := by unfold setOk; rw [hn]; simp
      have hsf : setF F n v = F := by unfold setF; rw [if_neg hok]
      rw [if_neg hok, hsf]
      have H := Lib.hid h
      clear h he hok hsf hC fz
      go_enter Try.func13, Try.ntmps13
      go_wp2
      go_ret
      exact ⟨_, _, _, rfl, H.out, Mv.refl _ _⟩
end

end Go.Proofs.Ytgbnhngaeefmkaa
