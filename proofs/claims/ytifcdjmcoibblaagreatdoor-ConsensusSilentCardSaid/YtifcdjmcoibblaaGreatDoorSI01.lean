/-
  Rounds in which some nodes are silent, and lists are accepted (plain law of Silent).
-/
import Derived.Test.YtifcdjmcoibblaaGreatDoorG04
import Derived.Test.YtifcdjmcoibblaaGreatDoorG26

/-! Rounds in which some nodes are silent, and lists are accepted (plain law of Silent). -/
namespace Go.Proofs.YtifcdjmcoibblaaGreatDoor
set_option linter.unusedVariables false
set_option linter.unusedSimpArgs false
set_option linter.unusedSectionVars false

section
variable {D L : Type} [Dg D] [Inhabited L]

/-- all that is asked is accepted -/
def accAll (dg : L → D) (s : NS D L) : NS D L := s.asked.foldl (fun t l => t.accept (dg l)) s
def sOut (dg : L → D) (sil : Nat → Bool) : Nat → List (NS D L) → List (Msg D L)
  | _, [] => []
  | i, s :: l => (if sil i then [] else (accAll dg s).tick.2) ++ sOut dg sil (i + 1) l
def sMid (dg : L → D) (sil : Nat → Bool) : Nat → List (NS D L) → List (NS D L)
  | _, [] => []
  | i, s :: l => (if sil i then accAll dg s else (accAll dg s).tick.1) :: sMid dg sil (i + 1) l
def sDlv (sil : Nat → Bool) (ns : List (NS D L)) (m : Msg D L) : List (NS D L) := if sil m.to.toNat then ns else dlvN ns m
def sRnd (dg : L → D) (sil : Nat → Bool) (ns : List (NS D L)) : List (NS D L) := (sOut dg sil 0 ns).foldl (sDlv sil) (sMid dg sil 0 ns)
def sRnds (dg : L → D) (sil : Nat → Bool) : Nat → List (NS D L) → List (NS D L)
  | 0, ns => ns
  | k + 1, ns => sRnd dg sil (sRnds dg sil k ns)
theorem sRnds_head (dg : L → D) (sil : Nat → Bool) : ∀ (k : Nat) (ns : List (NS D L)), sRnds dg sil (k + 1) ns = sRnds dg sil k (sRnd dg sil ns)
  | 0, _ => rfl
  | k + 1, ns => by
    show sRnd dg sil (sRnds dg sil (k + 1) ns) = _
    rw [sRnds_head dg sil k ns]; rfl

/-- the same, quick to reckon -/
def sGo (dg : L → D) (sil : Nat → Bool) : Nat → List (NS D L) → List (NS D L) × List (Msg D L)
  | _, [] => ([], [])
  | i, s :: l =>
    let a := accAll dg s
    let r := sGo dg sil (i + 1) l
    if sil i then (a :: r.1, r.2) else
      let t := a.tickF
      (t.1 :: r.1, t.2 ++ r.2)

theorem accAll_inv {sz : D → Prop} {dg : L → D} (hz : ∀ l, sz (dg l)) {s : NS D L} (h : InvS sz s) : InvS sz (accAll dg s) := by
  unfold accAll
  induction s.asked generalizing s with
  | nil => exact h
  | cons a l ih => exact ih (accept_inv h (dg a))

theorem sGo_eq {sz : D → Prop} {dg : L → D} (hz : ∀ l, sz (dg l)) {sil : Nat → Bool} : ∀ (ns : List (NS D L)) (i : Nat), (∀ s ∈ ns, InvS sz s) → sGo dg sil i ns = (sMid dg sil i ns, sOut dg sil i ns)
  | [], _, _ => rfl
  | s :: l, i, h => by
    have ih := sGo_eq hz (sil := sil) l (i + 1) (fun x hx => h x (by simp [hx]))
    unfold sGo sMid sOut
    simp only [ih]
    have ht := tickF_eq (accAll_inv (dg := dg) hz (h s (by simp)))
    split
    · rfl
    · rw [ht]

/-- nothing goes on any more -/
def quietS (sil : Nat → Bool) : Nat → List (NS D L) → Bool
  | _, [] => true
  | i, s :: l => (if sil i then s.props.isEmpty else s.isDec s.height && s.ques.isEmpty) && quietS sil (i + 1) l

theorem accAll_dec {dg : L → D} {s : NS D L} (h : s.isDec s.height = true) : accAll dg s = s := by
  unfold accAll NS.asked
  rw [if_pos h]; rfl
theorem accAll_none {dg : L → D} {s : NS D L} (h : s.props = []) : accAll dg s = s := by
  unfold accAll NS.asked
  split
  · rfl
  · rw [h]; rfl

theorem quiet_rnd {dg : L → D} {sil : Nat → Bool} {ns : List (NS D L)} (h : quietS sil 0 ns = true) : sRnd dg sil ns = ns := by
  have key : ∀ (ns : List (NS D L)) (i : Nat), quietS sil i ns = true → sMid dg sil i ns = ns ∧ sOut dg sil i ns = [] := by
    intro ns
    induction ns with
    | nil => intro i _; exact ⟨rfl, rfl⟩
    | cons s l ih =>
      intro i h
      unfold quietS at h
      rw [Bool.and_eq_true] at h
      obtain ⟨h1, h2⟩ := h
      obtain ⟨a, b⟩ := ih (i + 1) h2
      unfold sMid sOut
      rw [a, b]
      by_cases hs : sil i = true
      · rw [if_pos hs] at h1
        simp only [hs, if_true]
        have e : s.props = [] := by simpa using h1
        rw [accAll_none e]
        exact ⟨rfl, rfl⟩
      · rw [if_neg hs] at h1
        rw [Bool.and_eq_true] at h1
        obtain ⟨hd, hq⟩ := h1
        have e : s.ques = [] := by simpa using hq
        have ht : s.tick = (s, []) := by
          unfold NS.tick
          simp only
          rw [if_pos (show ({ s with ques := [] } : NS D L).isDec _ = true from hd)]
          refine Prod.ext ?_ (by show s.answers = []; unfold NS.answers; rw [e]; rfl)
          show ({ s with ques := [] } : NS D L) = s
          rw [← e]
        simp only [hs, accAll_dec hd, ht]
        exact ⟨rfl, rfl⟩
  obtain ⟨a, b⟩ := key ns 0 h
  unfold sRnd
  rw [a, b]; rfl
theorem quiet_rnds {dg : L → D} {sil : Nat → Bool} {ns : List (NS D L)} (h : quietS sil 0 ns = true) : ∀ k, sRnds dg sil k ns = ns
  | 0 => rfl
  | k + 1 => by
    show sRnd dg sil (sRnds dg sil k ns) = ns
    rw [quiet_rnds h k, quiet_rnd h]
theorem sRnds_add (dg : L → D) (sil : Nat → Bool) (ns : List (NS D L)) (a : Nat) : ∀ b, sRnds dg sil (a + b) ns = sRnds dg sil b (sRnds dg sil a ns)
  | 0 => rfl
  | b + 1 => by
    show sRnd dg sil (sRnds dg sil (a + b) ns) = _
    rw [sRnds_add dg sil ns a b]; rfl
end

/-! reckoned -/
section
variable {z : Nat}
/-- the rounds go well until nothing goes on any more -/
def silRun (n : Int) (sil : Nat → Bool) : Nat → List (SZ z) → Option (List (SZ z))
  | 0, _ => none
  | t + 1, ns => if quietS sil 0 ns then some ns else
    let r := sGo (fun l : QZ z => l) sil 0 ns
    if r.2.all (okQ n) then silRun n sil t (r.2.foldl (sDlv sil) r.1) else none

theorem sil_ok (n : Int) (sil : Nat → Bool) : ∀ (t : Nat) (ns fin : List (SZ z)), (∀ s ∈ ns, InvS (fun _ : QZ z => True) s) → silRun n sil t ns = some fin →
    quietS sil 0 fin = true ∧ ∃ k, k < t ∧ sRnds (fun l : QZ z => l) sil k ns = fin ∧ (∀ j, ∀ m ∈ sOut (fun l : QZ z => l) sil 0 (sRnds (fun l : QZ z => l) sil j ns), OkQ n m) ∧ ∀ j, ∀ s ∈ sRnds (fun l : QZ z => l) sil j ns, InvS (fun _ : QZ z => True) s
  | 0, ns, fin, _, h => by cases h
  | t + 1, ns, fin, h, hr => by
    unfold silRun at hr
    by_cases hq : quietS sil 0 ns = true
    · rw [if_pos hq] at hr
      cases hr
      have e := fun j => quiet_rnds (dg := fun l : QZ z => l) hq j
      refine ⟨hq, 0, by omega, rfl, fun j m hm => ?_, fun j s hs => h s (by rw [e j] at hs; exact hs)⟩
      rw [e j] at hm
      have e1 := quiet_rnd (dg := fun l : QZ z => l) hq
      exfalso
      have key : ∀ (l : List (SZ z)) (i : Nat), quietS sil i l = true → sOut (fun l : QZ z => l) sil i l = [] := by
        intro l
        induction l with
        | nil => intro i _; rfl
        | cons s l ih =>
          intro i hh
          unfold quietS at hh
          rw [Bool.and_eq_true] at hh
          obtain ⟨h1, h2⟩ := hh
          unfold sOut
          rw [ih (i + 1) h2]
          by_cases hs : sil i = true
          · simp only [hs, if_true]; rfl
          · rw [if_neg hs, Bool.and_eq_true] at h1
            obtain ⟨hd, hq⟩ := h1
            have e2 : s.ques = [] := by simpa using hq
            have ht : s.tick.2 = [] := by
              unfold NS.tick
              simp only
              rw [if_pos (show ({ s with ques := [] } : SZ z).isDec _ = true from hd)]
              show s.answers = []
              unfold NS.answers; rw [e2]; rfl
            simp only [hs, accAll_dec hd, ht]; rfl
      rw [key ns 0 hq] at hm
      cases hm
    · rw [if_neg hq] at hr
      have e := sGo_eq (sz := fun _ : QZ z => True) (dg := fun l : QZ z => l) (fun _ => trivial) (sil := sil) ns 0 h
      simp only [e] at hr
      by_cases ha : (sOut (fun l : QZ z => l) sil 0 ns).all (okQ n) = true
      · rw [if_pos ha] at hr
        have hm : ∀ m ∈ sOut (fun l : QZ z => l) sil 0 ns, OkQ n m := fun m hm => okQ_ok (List.all_eq_true.1 ha m hm)
        have hmid : ∀ (l : List (SZ z)) (i : Nat), (∀ s ∈ l, InvS (fun _ : QZ z => True) s) → ∀ s ∈ sMid (fun l : QZ z => l) sil i l, InvS (fun _ : QZ z => True) s := by
          intro l
          induction l with
          | nil => intro i _ s hs; cases hs
          | cons a l ih =>
            intro i hl s hs
            unfold sMid at hs
            rcases List.mem_cons.1 hs with rfl | hs
            · have ha := accAll_inv (sz := fun _ : QZ z => True) (dg := fun l : QZ z => l) (fun _ => trivial) (hl a (by simp))
              split
              · exact ha
              · exact tick_inv ha
            · exact ih (i + 1) (fun x hx => hl x (by simp [hx])) s hs
        have hfold : ∀ (ms : List (MZ z)) (l : List (SZ z)), (∀ m ∈ ms, OkQ n m) → (∀ s ∈ l, InvS (fun _ : QZ z => True) s) → ∀ s ∈ ms.foldl (sDlv sil) l, InvS (fun _ : QZ z => True) s := by
          intro ms
          induction ms with
          | nil => intro l _ h; exact h
          | cons m ms ih =>
            intro l hms hl
            refine ih _ (fun x hx => hms x (by simp [hx])) ?_
            unfold sDlv
            split
            · exact hl
            · exact dlv_all hl (fun s hs => receive_inv hs (fun _ _ => (hms m (by simp)).okM))
        have h1 : ∀ s ∈ sRnd (fun l : QZ z => l) sil ns, InvS (fun _ : QZ z => True) s := hfold _ _ hm (hmid ns 0 h)
        obtain ⟨a, k, b1, b2, b3, b4⟩ := sil_ok n sil t (sRnd (fun l : QZ z => l) sil ns) fin h1 hr
        refine ⟨a, k + 1, by omega, by rw [sRnds_head]; exact b2, fun j => ?_, fun j => ?_⟩
        · rcases j with _ | j
          · exact hm
          · rw [sRnds_head]; exact b3 j
        · rcases j with _ | j
          · exact h
          · rw [sRnds_head]; exact b4 j
      · rw [if_neg ha] at hr
        cases hr

/-- all have begun with lists of their own -/
def startZ (n : Nat) (code : Nat → QZ z) : List (SZ z) := (List.range n).map fun (i : Nat) => ((newS (i : Int) (n : Int) : SZ z).begin 0 true (code i) (code i)).1
/-- those that are not silent have decided on the list of one of them -/
def silDone (n : Nat) (sil : Nat → Bool) (code : Nat → QZ z) (fin : List (SZ z)) : Bool :=
  (List.range n).any fun who => !sil who && (List.range n).all fun i => sil i || match fin[i]? with
    | none => false
    | some s => match getA 0 s.decs with
      | none => false
      | some v => decide (v.dig = code who) && decide (v.list = code who)
def silNth (n f k : Nat) (i : Nat) : Bool := (List.range f).any fun j => (k + j) % n == i
def silentQ (n f k : Nat) (code : Nat → QZ z) : Bool :=
  match silRun (n : Int) (silNth n f k) 200 (startZ n code) with
  | none => false
  | some fin => silDone n (silNth n f k) code fin
end
end Go.Proofs.YtifcdjmcoibblaaGreatDoor
