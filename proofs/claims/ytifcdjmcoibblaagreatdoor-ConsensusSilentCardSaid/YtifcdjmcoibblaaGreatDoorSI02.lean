/-
  SILENT, reckoned.
-/
import Derived.Test.YtifcdjmcoibblaaGreatDoorSI01

/-! SILENT, reckoned. -/
namespace Go.Proofs.YtifcdjmcoibblaaGreatDoor
set_option linter.unusedVariables false
set_option linter.unusedSimpArgs false

/-- the order of the digests of the seven lists -/
def codeZ : Nat → QZ 7
  | 0 => 5 | 1 => 4 | 2 => 6 | 3 => 3 | 4 => 1 | 5 => 2 | 6 => 7 | _ => 0

section
variable {z : Nat}
/-- messages and values as numbers, to compare them -/
def tupM (m : MZ z) : List Int := [m.kind, m.frm, m.to, m.height, m.round, m.valid, (m.dig.val : Int), (m.list.val : Int)]
def tupV (v : Val (QZ z) (QZ z)) : List Int := [v.round, (v.dig.val : Int), (v.list.val : Int)]
theorem tupM_inj {a b : MZ z} (h : tupM a = tupM b) : a = b := by
  cases a; cases b
  simp only [tupM, List.cons.injEq, and_true, Int.natCast_inj, Fin.val_inj] at h
  obtain ⟨h1, h2, h3, h4, h5, h6, h7, h8⟩ := h
  subst h1 h2 h3 h4 h5 h6 h7 h8
  rfl
theorem tupV_inj {a b : Val (QZ z) (QZ z)} (h : tupV a = tupV b) : a = b := by
  cases a; cases b
  simp only [tupV, List.cons.injEq, and_true, Int.natCast_inj, Fin.val_inj] at h
  obtain ⟨h1, h2, h3⟩ := h
  subst h1 h2 h3
  rfl
theorem map_inj {α β : Type} {f : α → β} (hf : ∀ a b, f a = f b → a = b) : ∀ {l m : List α}, l.map f = m.map f → l = m
  | [], [], _ => rfl
  | [], _ :: _, h => by cases h
  | _ :: _, [], h => by cases h
  | a :: l, b :: m, h => by
    rw [List.map_cons, List.map_cons] at h
    injection h with h1 h2
    rw [hf _ _ h1, map_inj hf h2]
theorem omap_inj {α β : Type} {f : α → β} (hf : ∀ a b, f a = f b → a = b) : ∀ {l m : Option α}, l.map f = m.map f → l = m
  | none, none, _ => rfl
  | none, some _, h => by cases h
  | some _, none, h => by cases h
  | some a, some b, h => by
    injection h with h
    rw [hf _ _ h]
theorem pair_inj {α β : Type} {f : α → β} (hf : ∀ a b, f a = f b → a = b) (p q : Int × α) (h : (p.1, f p.2) = (q.1, f q.2)) : p = q := by
  injection h with h1 h2
  exact Prod.ext h1 (hf _ _ h2)
def eqS (a b : SZ z) : Bool :=
  decide (a.height = b.height) && decide (a.round = b.round) && decide (a.step = b.step) && decide (a.clock = b.clock) && decide (a.ticks = b.ticks) && decide (a.lock.map tupV = b.lock.map tupV) && decide (a.valid.map tupV = b.valid.map tupV) &&
  decide (a.own.map tupV = b.own.map tupV) && decide (a.acc = b.acc) && decide (a.props.map (fun p => (p.1, tupM p.2)) = b.props.map (fun p => (p.1, tupM p.2))) && decide (a.claims.map (fun p => (p.1, tupM p.2)) = b.claims.map (fun p => (p.1, tupM p.2))) &&
  decide (a.order = b.order) && decide (a.votes = b.votes) && decide (a.stand = b.stand) && decide (a.mine.map tupM = b.mine.map tupM) && decide (a.made = b.made) && decide (a.id = b.id) && decide (a.n = b.n) &&
  decide (a.decs.map (fun p => (p.1, tupV p.2)) = b.decs.map (fun p => (p.1, tupV p.2))) && decide (a.ques = b.ques) && decide (a.inf = b.inf)
def eqL : List (SZ z) → List (SZ z) → Bool
  | [], [] => true
  | a :: l, b :: m => eqS a b && eqL l m
  | _, _ => false
theorem eqS_eq {a b : SZ z} (h : eqS a b = true) : a = b := by
  have e : a.height = b.height ∧ a.round = b.round ∧ a.step = b.step ∧ a.clock = b.clock ∧ a.ticks = b.ticks ∧ a.lock = b.lock ∧ a.valid = b.valid ∧ a.own = b.own ∧ a.acc = b.acc ∧ a.props = b.props ∧ a.claims = b.claims ∧ a.order = b.order ∧ a.votes = b.votes ∧ a.stand = b.stand ∧ a.mine = b.mine ∧ a.made = b.made ∧ a.id = b.id ∧ a.n = b.n ∧ a.decs = b.decs ∧ a.ques = b.ques ∧ a.inf = b.inf := by
    unfold eqS at h
    simp only [Bool.and_eq_true, decide_eq_true_eq] at h
    obtain ⟨⟨⟨⟨⟨⟨⟨⟨⟨⟨⟨⟨⟨⟨⟨⟨⟨⟨⟨⟨h1, h2⟩, h3⟩, h4⟩, h5⟩, h6⟩, h7⟩, h8⟩, h9⟩, h10⟩, h11⟩, h12⟩, h13⟩, h14⟩, h15⟩, h16⟩, h17⟩, h18⟩, h19⟩, h20⟩, h21⟩ := h
    exact ⟨h1, h2, h3, h4, h5, omap_inj (fun _ _ => tupV_inj) h6, omap_inj (fun _ _ => tupV_inj) h7, omap_inj (fun _ _ => tupV_inj) h8, h9, map_inj (pair_inj (fun _ _ => tupM_inj)) h10, map_inj (pair_inj (fun _ _ => tupM_inj)) h11, h12, h13, h14, map_inj (fun _ _ => tupM_inj) h15, h16, h17, h18, map_inj (pair_inj (fun _ _ => tupV_inj)) h19, h20, h21⟩
  cases a; cases b
  simpa using e
theorem eqL_eq : ∀ {a b : List (SZ z)}, eqL a b = true → a = b
  | [], [], _ => rfl
  | [], _ :: _, h => by cases h
  | _ :: _, [], h => by cases h
  | a :: l, b :: m, h => by
    unfold eqL at h
    rw [Bool.and_eq_true] at h
    rw [eqS_eq h.1, eqL_eq h.2]
/-- it went well, and so -/
def partIs (o : Option (List (SZ z))) (c : List (SZ z)) : Bool := match o with | none => false | some l => eqL l c
theorem partIs_eq {o : Option (List (SZ z))} {c : List (SZ z)} (h : partIs o c = true) : o = some c := by
  unfold partIs at h
  split at h
  · cases h
  · rw [eqL_eq h]

/-- so many rounds go well -/
def silPart (n : Int) (sil : Nat → Bool) : Nat → List (SZ z) → Option (List (SZ z))
  | 0, ns => some ns
  | t + 1, ns =>
    let r := sGo (fun l : QZ z => l) sil 0 ns
    if r.2.all (okQ n) then silPart n sil t (r.2.foldl (sDlv sil) r.1) else none

/-- the rounds go well to the end -/
def SilGood (n : Int) (sil : Nat → Bool) (ns fin : List (SZ z)) : Prop :=
  quietS sil 0 fin = true ∧ ∃ k, k < 1000 ∧ sRnds (fun l : QZ z => l) sil k ns = fin ∧ (∀ j, ∀ m ∈ sOut (fun l : QZ z => l) sil 0 (sRnds (fun l : QZ z => l) sil j ns), OkQ n m) ∧ ∀ j, ∀ s ∈ sRnds (fun l : QZ z => l) sil j ns, InvS (fun _ : QZ z => True) s

theorem silRnd_inv {n : Int} {sil : Nat → Bool} {ns : List (SZ z)} (h : ∀ s ∈ ns, InvS (fun _ : QZ z => True) s) (hm : ∀ m ∈ sOut (fun l : QZ z => l) sil 0 ns, OkQ n m) : ∀ s ∈ sRnd (fun l : QZ z => l) sil ns, InvS (fun _ : QZ z => True) s := by
  have hmid : ∀ (l : List (SZ z)) (i : Nat), (∀ s ∈ l, InvS (fun _ : QZ z => True) s) → ∀ s ∈ sMid (fun l : QZ z => l) sil i l, InvS (fun _ : QZ z => True) s := by
    intro l
    induction l with
    | nil => intro i _ s hs; cases hs
    | cons a l ih =>
      intro i hl s hs
      unfold sMid at hs
      rcases List.mem_cons.1 hs with rfl | hs
      · have ha := accAll_inv (sz := fun _ : QZ z => True) (dg := fun l : QZ z => l) (fun _ => trivial) (hl a (by simp))
        split
        · exact ha
        · exact tick_inv ha
      · exact ih (i + 1) (fun x hx => hl x (by simp [hx])) s hs
  have hfold : ∀ (ms : List (MZ z)) (l : List (SZ z)), (∀ m ∈ ms, OkQ n m) → (∀ s ∈ l, InvS (fun _ : QZ z => True) s) → ∀ s ∈ ms.foldl (sDlv sil) l, InvS (fun _ : QZ z => True) s := by
    intro ms
    induction ms with
    | nil => intro l _ h; exact h
    | cons m ms ih =>
      intro l hms hl
      refine ih _ (fun x hx => hms x (by simp [hx])) ?_
      unfold sDlv
      split
      · exact hl
      · exact dlv_all hl (fun s hs => receive_inv hs (fun _ _ => (hms m (by simp)).okM))
  exact hfold _ _ hm (hmid ns 0 h)

theorem part_good {n : Int} {sil : Nat → Bool} {fin : List (SZ z)} : ∀ (t : Nat) (ns ms : List (SZ z)), t < 200 → (∀ s ∈ ns, InvS (fun _ : QZ z => True) s) → silPart n sil t ns = some ms →
    (∀ s ∈ ms, InvS (fun _ : QZ z => True) s) ∧ sRnds (fun l : QZ z => l) sil t ns = ms ∧ (∀ j, j < t → ∀ m ∈ sOut (fun l : QZ z => l) sil 0 (sRnds (fun l : QZ z => l) sil j ns), OkQ n m) ∧ ∀ j, j ≤ t → ∀ s ∈ sRnds (fun l : QZ z => l) sil j ns, InvS (fun _ : QZ z => True) s
  | 0, ns, ms, _, h, e => by
    cases e
    exact ⟨h, rfl, fun j hj => absurd hj (Nat.not_lt_zero _), fun j hj => by
      obtain rfl : j = 0 := by omega
      exact h⟩
  | t + 1, ns, ms, ht, h, e => by
    unfold silPart at e
    have e1 := sGo_eq (sz := fun _ : QZ z => True) (dg := fun l : QZ z => l) (fun _ => trivial) (sil := sil) ns 0 h
    simp only [e1] at e
    split at e
    · rename_i ha
      have hm : ∀ m ∈ sOut (fun l : QZ z => l) sil 0 ns, OkQ n m := fun m hm => okQ_ok (List.all_eq_true.1 ha m hm)
      obtain ⟨a1, a2, a3, a4⟩ := part_good (fin := fin) t (sRnd (fun l : QZ z => l) sil ns) ms (by omega) (silRnd_inv h hm) e
      refine ⟨a1, by rw [sRnds_head]; exact a2, fun j hj => ?_, fun j hj => ?_⟩
      · rcases j with _ | j
        · exact hm
        · rw [sRnds_head]; exact a3 j (by omega)
      · rcases j with _ | j
        · exact h
        · rw [sRnds_head]; exact a4 j (by omega)
    · cases e

/-- a part, then the rest -/
theorem good_part {n : Int} {sil : Nat → Bool} {fin ns ms : List (SZ z)} {t : Nat} (ht : t < 200) (h : ∀ s ∈ ns, InvS (fun _ : QZ z => True) s) (hp : silPart n sil t ns = some ms) {b : Nat} (hg : quietS sil 0 fin = true ∧ ∃ k, k < b ∧ sRnds (fun l : QZ z => l) sil k ms = fin ∧ (∀ j, ∀ m ∈ sOut (fun l : QZ z => l) sil 0 (sRnds (fun l : QZ z => l) sil j ms), OkQ n m) ∧ ∀ j, ∀ s ∈ sRnds (fun l : QZ z => l) sil j ms, InvS (fun _ : QZ z => True) s) :
    quietS sil 0 fin = true ∧ ∃ k, k < b + 200 ∧ sRnds (fun l : QZ z => l) sil k ns = fin ∧ (∀ j, ∀ m ∈ sOut (fun l : QZ z => l) sil 0 (sRnds (fun l : QZ z => l) sil j ns), OkQ n m) ∧ ∀ j, ∀ s ∈ sRnds (fun l : QZ z => l) sil j ns, InvS (fun _ : QZ z => True) s := by
  obtain ⟨a1, a2, a3, a4⟩ := part_good (fin := fin) t ns ms ht h hp
  obtain ⟨q, k, b1, b2, b3, b4⟩ := hg
  refine ⟨q, t + k, by omega, by rw [sRnds_add, a2]; exact b2, fun j => ?_, fun j => ?_⟩
  · by_cases hj : j < t
    · exact a3 j hj
    · obtain ⟨x, rfl⟩ : ∃ x, j = t + x := ⟨j - t, by omega⟩
      rw [sRnds_add, a2]
      exact b3 x
  · by_cases hj : j < t
    · exact a4 j (by omega)
    · obtain ⟨x, rfl⟩ : ∃ x, j = t + x := ⟨j - t, by omega⟩
      rw [sRnds_add, a2]
      exact b4 x
theorem startZ_inv {n : Nat} (h7 : n ≤ 7) (code : Nat → QZ z) : ∀ s ∈ startZ n code, InvS (fun _ : QZ z => True) s := fun s hs => by
  unfold startZ at hs
  obtain ⟨i, hi, rfl⟩ := List.mem_map.1 hs
  rw [List.mem_range] at hi
  exact begin_inv (new_inv trivial (by omega) (by omega) (by omega)) 0 true _ (fun _ => trivial)
theorem silentQ_good {n f k : Nat} {code : Nat → QZ z} (h7 : n ≤ 7) (h : silentQ n f k code = true) : ∃ fin, SilGood (n : Int) (silNth n f k) (startZ n code) fin ∧ silDone n (silNth n f k) code fin = true := by
  unfold silentQ at h
  split at h
  · cases h
  · rename_i fin hr
    obtain ⟨a, k2, b1, b2⟩ := sil_ok (n : Int) (silNth n f k) 200 (startZ n code) fin (startZ_inv h7 code) hr
    exact ⟨fin, ⟨a, k2, by omega, b2⟩, h⟩
end

set_option maxRecDepth 100000 in
theorem silent4 : ((List.range 4).all fun k => silentQ 4 1 k codeZ) = true := by decide +kernel
set_option maxRecDepth 100000 in
theorem silent5 : ((List.range 5).all fun k => silentQ 5 1 k codeZ) = true := by decide +kernel
set_option maxRecDepth 100000 in
theorem silent6 : ((List.range 6).all fun k => silentQ 6 1 k codeZ) = true := by decide +kernel
set_option maxRecDepth 100000 in
theorem silent7 : ((List.range 7).all fun k => k == 0 || silentQ 7 2 k codeZ) = true := by decide +kernel

/-- seven sites, the first two are silent: the states behind 32 and 56 rounds -/
def ck1 : List (SZ 7) := [⟨0, 0, 1, 0, 0, none, none, some ⟨-1, 5, 5⟩, [5], [], [], [], [], [], [], [], 0, 7, [], [], []⟩, ⟨0, 0, 1, 0, 0, none, none, some ⟨-1, 4, 4⟩, [4], [], [], [], [], [], [], [], 1, 7, [], [], []⟩, ⟨0, 1, 1, 7, 32, none, none, some ⟨-1, 6, 6⟩, [6], [], [], [], [((2, 4, 0, 0), 0), ((3, 4, 0, 0), 0), ((4, 4, 0, 0), 0), ((5, 4, 0, 0), 0), ((6, 4, 0, 0), 0), ((2, 5, 0, 0), 0), ((3, 5, 0, 0), 0), ((4, 5, 0, 0), 0), ((5, 5, 0, 0), 0), ((6, 5, 0, 0), 0)], [(2, (0, 0)), (3, (0, 0)), (4, (0, 0)), (5, (0, 0)), (6, (0, 0))], [⟨4, 2, 0, 0, 0, 0, 0, 0⟩, ⟨5, 2, 0, 0, 0, 0, 0, 0⟩], [(4, 0), (5, 0)], 2, 7, [], [], []⟩, ⟨0, 1, 1, 7, 32, none, none, some ⟨-1, 3, 3⟩, [3], [], [], [], [((3, 4, 0, 0), 0), ((2, 4, 0, 0), 0), ((4, 4, 0, 0), 0), ((5, 4, 0, 0), 0), ((6, 4, 0, 0), 0), ((3, 5, 0, 0), 0), ((2, 5, 0, 0), 0), ((4, 5, 0, 0), 0), ((5, 5, 0, 0), 0), ((6, 5, 0, 0), 0)], [(3, (0, 0)), (2, (0, 0)), (4, (0, 0)), (5, (0, 0)), (6, (0, 0))], [⟨4, 3, 0, 0, 0, 0, 0, 0⟩, ⟨5, 3, 0, 0, 0, 0, 0, 0⟩], [(4, 0), (5, 0)], 3, 7, [], [], []⟩, ⟨0, 1, 1, 7, 32, none, none, some ⟨-1, 1, 1⟩, [1], [], [], [], [((4, 4, 0, 0), 0), ((2, 4, 0, 0), 0), ((3, 4, 0, 0), 0), ((5, 4, 0, 0), 0), ((6, 4, 0, 0), 0), ((4, 5, 0, 0), 0), ((2, 5, 0, 0), 0), ((3, 5, 0, 0), 0), ((5, 5, 0, 0), 0), ((6, 5, 0, 0), 0)], [(4, (0, 0)), (2, (0, 0)), (3, (0, 0)), (5, (0, 0)), (6, (0, 0))], [⟨4, 4, 0, 0, 0, 0, 0, 0⟩, ⟨5, 4, 0, 0, 0, 0, 0, 0⟩], [(4, 0), (5, 0)], 4, 7, [], [], []⟩, ⟨0, 1, 1, 7, 32, none, none, some ⟨-1, 2, 2⟩, [2], [], [], [], [((5, 4, 0, 0), 0), ((2, 4, 0, 0), 0), ((3, 4, 0, 0), 0), ((4, 4, 0, 0), 0), ((6, 4, 0, 0), 0), ((5, 5, 0, 0), 0), ((2, 5, 0, 0), 0), ((3, 5, 0, 0), 0), ((4, 5, 0, 0), 0), ((6, 5, 0, 0), 0)], [(5, (0, 0)), (2, (0, 0)), (3, (0, 0)), (4, (0, 0)), (6, (0, 0))], [⟨4, 5, 0, 0, 0, 0, 0, 0⟩, ⟨5, 5, 0, 0, 0, 0, 0, 0⟩], [(4, 0), (5, 0)], 5, 7, [], [], []⟩, ⟨0, 1, 1, 7, 32, none, none, some ⟨-1, 7, 7⟩, [7], [], [], [], [((6, 4, 0, 0), 0), ((2, 4, 0, 0), 0), ((3, 4, 0, 0), 0), ((4, 4, 0, 0), 0), ((5, 4, 0, 0), 0), ((6, 5, 0, 0), 0), ((2, 5, 0, 0), 0), ((3, 5, 0, 0), 0), ((4, 5, 0, 0), 0), ((5, 5, 0, 0), 0)], [(6, (0, 0)), (2, (0, 0)), (3, (0, 0)), (4, (0, 0)), (5, (0, 0))], [⟨4, 6, 0, 0, 0, 0, 0, 0⟩, ⟨5, 6, 0, 0, 0, 0, 0, 0⟩], [(4, 0), (5, 0)], 6, 7, [], [], []⟩]
def ck2 : List (SZ 7) := [⟨0, 0, 1, 0, 0, none, none, some ⟨-1, 5, 5⟩, [5], [], [], [], [], [], [], [], 0, 7, [], [], []⟩, ⟨0, 0, 1, 0, 0, none, none, some ⟨-1, 4, 4⟩, [4], [], [], [], [], [], [], [], 1, 7, [], [], []⟩, ⟨0, 1, 4, 6, 56, none, none, some ⟨-1, 6, 6⟩, [6], [], [], [], [((2, 4, 0, 0), 0), ((3, 4, 0, 0), 0), ((4, 4, 0, 0), 0), ((5, 4, 0, 0), 0), ((6, 4, 0, 0), 0), ((2, 5, 0, 0), 0), ((3, 5, 0, 0), 0), ((4, 5, 0, 0), 0), ((5, 5, 0, 0), 0), ((6, 5, 0, 0), 0), ((2, 4, 0, 1), 0), ((3, 4, 0, 1), 0), ((4, 4, 0, 1), 0), ((5, 4, 0, 1), 0), ((6, 4, 0, 1), 0), ((2, 5, 0, 1), 0), ((3, 5, 0, 1), 0), ((4, 5, 0, 1), 0), ((5, 5, 0, 1), 0), ((6, 5, 0, 1), 0)], [(2, (1, 1)), (3, (1, 1)), (4, (1, 1)), (5, (1, 1)), (6, (1, 1))], [⟨4, 2, 0, 0, 0, 0, 0, 0⟩, ⟨5, 2, 0, 0, 0, 0, 0, 0⟩, ⟨4, 2, 0, 0, 1, 0, 0, 0⟩, ⟨5, 2, 0, 0, 1, 0, 0, 0⟩], [(4, 0), (5, 0), (4, 1), (5, 1)], 2, 7, [], [], []⟩, ⟨0, 1, 4, 6, 56, none, none, some ⟨-1, 3, 3⟩, [3], [], [], [], [((3, 4, 0, 0), 0), ((2, 4, 0, 0), 0), ((4, 4, 0, 0), 0), ((5, 4, 0, 0), 0), ((6, 4, 0, 0), 0), ((3, 5, 0, 0), 0), ((2, 5, 0, 0), 0), ((4, 5, 0, 0), 0), ((5, 5, 0, 0), 0), ((6, 5, 0, 0), 0), ((3, 4, 0, 1), 0), ((2, 4, 0, 1), 0), ((4, 4, 0, 1), 0), ((5, 4, 0, 1), 0), ((6, 4, 0, 1), 0), ((3, 5, 0, 1), 0), ((2, 5, 0, 1), 0), ((4, 5, 0, 1), 0), ((5, 5, 0, 1), 0), ((6, 5, 0, 1), 0)], [(3, (1, 1)), (2, (1, 1)), (4, (1, 1)), (5, (1, 1)), (6, (1, 1))], [⟨4, 3, 0, 0, 0, 0, 0, 0⟩, ⟨5, 3, 0, 0, 0, 0, 0, 0⟩, ⟨4, 3, 0, 0, 1, 0, 0, 0⟩, ⟨5, 3, 0, 0, 1, 0, 0, 0⟩], [(4, 0), (5, 0), (4, 1), (5, 1)], 3, 7, [], [], []⟩, ⟨0, 1, 4, 6, 56, none, none, some ⟨-1, 1, 1⟩, [1], [], [], [], [((4, 4, 0, 0), 0), ((2, 4, 0, 0), 0), ((3, 4, 0, 0), 0), ((5, 4, 0, 0), 0), ((6, 4, 0, 0), 0), ((4, 5, 0, 0), 0), ((2, 5, 0, 0), 0), ((3, 5, 0, 0), 0), ((5, 5, 0, 0), 0), ((6, 5, 0, 0), 0), ((4, 4, 0, 1), 0), ((2, 4, 0, 1), 0), ((3, 4, 0, 1), 0), ((5, 4, 0, 1), 0), ((6, 4, 0, 1), 0), ((4, 5, 0, 1), 0), ((2, 5, 0, 1), 0), ((3, 5, 0, 1), 0), ((5, 5, 0, 1), 0), ((6, 5, 0, 1), 0)], [(4, (1, 1)), (2, (1, 1)), (3, (1, 1)), (5, (1, 1)), (6, (1, 1))], [⟨4, 4, 0, 0, 0, 0, 0, 0⟩, ⟨5, 4, 0, 0, 0, 0, 0, 0⟩, ⟨4, 4, 0, 0, 1, 0, 0, 0⟩, ⟨5, 4, 0, 0, 1, 0, 0, 0⟩], [(4, 0), (5, 0), (4, 1), (5, 1)], 4, 7, [], [], []⟩, ⟨0, 1, 4, 6, 56, none, none, some ⟨-1, 2, 2⟩, [2], [], [], [], [((5, 4, 0, 0), 0), ((2, 4, 0, 0), 0), ((3, 4, 0, 0), 0), ((4, 4, 0, 0), 0), ((6, 4, 0, 0), 0), ((5, 5, 0, 0), 0), ((2, 5, 0, 0), 0), ((3, 5, 0, 0), 0), ((4, 5, 0, 0), 0), ((6, 5, 0, 0), 0), ((5, 4, 0, 1), 0), ((2, 4, 0, 1), 0), ((3, 4, 0, 1), 0), ((4, 4, 0, 1), 0), ((6, 4, 0, 1), 0), ((5, 5, 0, 1), 0), ((2, 5, 0, 1), 0), ((3, 5, 0, 1), 0), ((4, 5, 0, 1), 0), ((6, 5, 0, 1), 0)], [(5, (1, 1)), (2, (1, 1)), (3, (1, 1)), (4, (1, 1)), (6, (1, 1))], [⟨4, 5, 0, 0, 0, 0, 0, 0⟩, ⟨5, 5, 0, 0, 0, 0, 0, 0⟩, ⟨4, 5, 0, 0, 1, 0, 0, 0⟩, ⟨5, 5, 0, 0, 1, 0, 0, 0⟩], [(4, 0), (5, 0), (4, 1), (5, 1)], 5, 7, [], [], []⟩, ⟨0, 1, 4, 6, 56, none, none, some ⟨-1, 7, 7⟩, [7], [], [], [], [((6, 4, 0, 0), 0), ((2, 4, 0, 0), 0), ((3, 4, 0, 0), 0), ((4, 4, 0, 0), 0), ((5, 4, 0, 0), 0), ((6, 5, 0, 0), 0), ((2, 5, 0, 0), 0), ((3, 5, 0, 0), 0), ((4, 5, 0, 0), 0), ((5, 5, 0, 0), 0), ((6, 4, 0, 1), 0), ((2, 4, 0, 1), 0), ((3, 4, 0, 1), 0), ((4, 4, 0, 1), 0), ((5, 4, 0, 1), 0), ((6, 5, 0, 1), 0), ((2, 5, 0, 1), 0), ((3, 5, 0, 1), 0), ((4, 5, 0, 1), 0), ((5, 5, 0, 1), 0)], [(6, (1, 1)), (2, (1, 1)), (3, (1, 1)), (4, (1, 1)), (5, (1, 1))], [⟨4, 6, 0, 0, 0, 0, 0, 0⟩, ⟨5, 6, 0, 0, 0, 0, 0, 0⟩, ⟨4, 6, 0, 0, 1, 0, 0, 0⟩, ⟨5, 6, 0, 0, 1, 0, 0, 0⟩], [(4, 0), (5, 0), (4, 1), (5, 1)], 6, 7, [], [], []⟩]
set_option maxRecDepth 100000 in
theorem part1 : partIs (silPart 7 (silNth 7 2 0) 32 (startZ 7 codeZ)) ck1 = true := by decide +kernel
set_option maxRecDepth 100000 in
theorem part2 : partIs (silPart 7 (silNth 7 2 0) 24 ck1) ck2 = true := by decide +kernel
set_option maxRecDepth 100000 in
theorem part3 : (match silRun 7 (silNth 7 2 0) 200 ck2 with | none => false | some fin => silDone 7 (silNth 7 2 0) codeZ fin) = true := by decide +kernel

theorem silent70 : ∃ fin, SilGood 7 (silNth 7 2 0) (startZ 7 codeZ) fin ∧ silDone 7 (silNth 7 2 0) codeZ fin = true := by
  have e1 : silPart 7 (silNth 7 2 0) 32 (startZ 7 codeZ) = some ck1 := partIs_eq part1
  have e2 : silPart 7 (silNth 7 2 0) 24 ck1 = some ck2 := partIs_eq part2
  have i0 := startZ_inv (n := 7) (by omega) codeZ
  have i1 := (part_good (fin := ck1) 32 _ _ (by omega) i0 e1).1
  have i2 := (part_good (fin := ck1) 24 _ _ (by omega) i1 e2).1
  have h := part3
  split at h
  · cases h
  · rename_i fin hr
    have g3 := sil_ok 7 (silNth 7 2 0) 200 ck2 fin i2 hr
    have g1 := good_part (by omega) i0 e1 (good_part (by omega) i1 e2 g3)
    obtain ⟨q, k, b1, b2⟩ := g1
    exact ⟨fin, ⟨q, k, by omega, b2⟩, h⟩
/-- whichever are silent -/
theorem silent_all {n k : Nat} (h4 : 4 ≤ n) (h7 : n ≤ 7) (hk : k < n) : ∃ fin, SilGood (n : Int) (silNth n ((n - 1) / 3) k) (startZ n codeZ) fin ∧ silDone n (silNth n ((n - 1) / 3) k) codeZ fin = true := by
  obtain rfl | rfl | rfl | rfl : n = 4 ∨ n = 5 ∨ n = 6 ∨ n = 7 := by omega
  · exact silentQ_good (by omega) (List.all_eq_true.1 silent4 k (List.mem_range.2 hk))
  · exact silentQ_good (by omega) (List.all_eq_true.1 silent5 k (List.mem_range.2 hk))
  · exact silentQ_good (by omega) (List.all_eq_true.1 silent6 k (List.mem_range.2 hk))
  · by_cases hz : k = 0
    · subst hz; exact silent70
    · have := List.all_eq_true.1 silent7 k (List.mem_range.2 hk)
      rw [Bool.or_eq_true] at this
      rcases this with q | q
      · exact absurd (by simpa using q) hz
      · exact silentQ_good (by omega) q
end Go.Proofs.YtifcdjmcoibblaaGreatDoor
