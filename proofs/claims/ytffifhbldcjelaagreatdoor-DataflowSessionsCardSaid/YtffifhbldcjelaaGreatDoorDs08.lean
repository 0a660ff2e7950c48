/-
  A flow in plain words: what depends on what; Put; the order of stale names; what every flow keeps.
-/
import Derived.Test.YtffifhbldcjelaaGreatDoorDs07

/-! A flow in plain words: what depends on what; Put; the order of stale names; what every flow keeps. -/
namespace Go.Proofs.YtffifhbldcjelaaGreatDoor
set_option linter.unusedVariables false

/-- x is y, or depends on it -/
inductive Rch (F : List En) : ByteArray → ByteArray → Prop
  | refl (x : ByteArray) : Rch F x x
  | step {x y r : ByteArray} {e : En} : atF F x = some e → r ∈ e.rds → Rch F r y → Rch F x y

theorem Rch.trans {F : List En} {x y z : ByteArray} (h : Rch F x y) (h2 : Rch F y z) : Rch F x z := by
  induction h with
  | refl => exact h2
  | step h1 h3 _ ih => exact .step h1 h3 (ih h2)

def rchB (F : List En) : Nat → ByteArray → ByteArray → Bool
  | 0, x, y => decide (x = y)
  | k + 1, x, y => decide (x = y) || (match atF F x with | some e => e.rds.any (fun r => rchB F k r y) | none => false)

theorem rchB_sound {F : List En} : ∀ (k : Nat) (x y : ByteArray), rchB F k x y = true → Rch F x y
  | 0, x, y, h => by
    simp [rchB] at h; subst h; exact .refl _
  | k + 1, x, y, h => by
    unfold rchB at h
    rw [Bool.or_eq_true, decide_eq_true_eq] at h
    rcases h with h | h
    · subst h; exact .refl _
    · rcases he : atF F x with _ | e
      · rw [he] at h; simp at h
      · rw [he] at h
        simp only [List.any_eq_true] at h
        obtain ⟨r, hr, h⟩ := h
        exact .step he hr (rchB_sound k r y h)

theorem rchB_complete {F : List En} {rk : ByteArray → Nat} (hK : Ranked F rk) {x y : ByteArray} (h : Rch F x y) : ∀ k, rk x ≤ k → rchB F k x y = true := by
  induction h with
  | refl x => intro k _; cases k <;> simp [rchB]
  | @step x y r e h1 h2 _ ih =>
    intro k hk
    obtain ⟨heF, hen⟩ := atF_some h1
    have h3 := hK e heF r h2
    rw [hen] at h3
    obtain ⟨k', rfl⟩ : ∃ k', k = k' + 1 := ⟨k - 1, by omega⟩
    unfold rchB
    rw [h1, Bool.or_eq_true]
    refine .inr ?_
    simp only [List.any_eq_true]
    exact ⟨r, h2, ih k' (by omega)⟩

/-! ranks -/
theorem filter_lt {α : Type} {p q : α → Bool} : ∀ {l : List α}, (∀ x ∈ l, p x = true → q x = true) → (∃ x ∈ l, q x = true ∧ p x = false) → (l.filter p).length < (l.filter q).length
  | [], _, h => by obtain ⟨x, hx, _⟩ := h; cases hx
  | a :: l, h, hx => by
    have hle : ∀ (m : List α), (∀ x ∈ m, p x = true → q x = true) → (m.filter p).length ≤ (m.filter q).length := fun m hm => by
      induction m with
      | nil => simp
      | cons b m ih =>
        have := ih (fun x hx => hm x (by simp [hx]))
        rw [List.filter_cons, List.filter_cons]
        by_cases hb : p b = true
        · rw [if_pos hb, if_pos (hm b (by simp) hb)]; simp; exact this
        · rw [if_neg hb]; split
          · simp; omega
          · exact this
    have h' : ∀ x ∈ l, p x = true → q x = true := fun x hx => h x (by simp [hx])
    rw [List.filter_cons, List.filter_cons]
    obtain ⟨x, hx, h1, h2⟩ := hx
    rcases List.mem_cons.1 hx with rfl | hx
    · rw [if_neg (by rw [h2]; simp), if_pos h1]
      have := hle l h'
      simp; omega
    · have ih := filter_lt h' ⟨x, hx, h1, h2⟩
      by_cases hb : p a = true
      · rw [if_pos hb, if_pos (h a (by simp) hb)]; simp; exact ih
      · rw [if_neg hb]; split
        · simp; omega
        · exact ih

def rnk (F : List En) (rk : ByteArray → Nat) (x : ByteArray) : Nat := (F.filter (fun e => decide (rk e.nm < rk x))).length
theorem rnk_le (F : List En) (rk : ByteArray → Nat) (x : ByteArray) : rnk F rk x ≤ F.length := List.length_filter_le _ _
theorem ranked_norm {F : List En} {rk : ByteArray → Nat} (hC : Closed F) (h : Ranked F rk) : Ranked F (rnk F rk) := fun e he r hr => by
  obtain ⟨e', he', hn'⟩ := hC e he r hr
  have h1 := h e he r hr
  refine filter_lt (fun x _ hx => ?_) ⟨e', he', ?_, ?_⟩
  · simp at hx ⊢; omega
  · simp [hn', h1]
  · simp [hn']

/-! lists of names, ascending, each once -/
def insU (x : ByteArray) : List ByteArray → List ByteArray
  | [] => [x]
  | y :: r => if ltB x y then x :: y :: r else if x = y then y :: r else y :: insU x r
def sortU : List ByteArray → List ByteArray
  | [] => []
  | x :: r => insU x (sortU r)

theorem mem_insU {x z : ByteArray} : ∀ {l : List ByteArray}, z ∈ insU x l ↔ z = x ∨ z ∈ l
  | [] => by simp [insU]
  | y :: r => by
    unfold insU
    split
    · simp
    · split
      · rename_i h; subst h; simp
      · rw [List.mem_cons, mem_insU (l := r), List.mem_cons]
        constructor <;> (intro h; rcases h with h | h | h <;> simp [h])
theorem insU_sorted {x : ByteArray} : ∀ {l : List ByteArray}, l.Pairwise ltB → (insU x l).Pairwise ltB
  | [], _ => by simp [insU]
  | y :: r, h => by
    obtain ⟨h1, h2⟩ := List.pairwise_cons.1 h
    unfold insU
    split
    · rename_i hlt
      exact List.pairwise_cons.2 ⟨fun z hz => by
        rcases List.mem_cons.1 hz with rfl | hz
        · exact hlt
        · exact ltB_trans hlt (h1 z hz), h⟩
    · split
      · exact h
      · rename_i hlt hne
        refine List.pairwise_cons.2 ⟨fun z hz => ?_, insU_sorted h2⟩
        rcases mem_insU.1 hz with rfl | hz
        · rcases ltB_tri y z with q | q | q
          · exact q
          · exact absurd q.symm hne
          · exact absurd q hlt
        · exact h1 z hz
theorem mem_sortU {z : ByteArray} : ∀ {l : List ByteArray}, z ∈ sortU l ↔ z ∈ l
  | [] => by simp [sortU]
  | x :: r => by unfold sortU; rw [mem_insU, mem_sortU (l := r), List.mem_cons]
theorem sortU_sorted : ∀ (l : List ByteArray), (sortU l).Pairwise ltB
  | [] => by simp [sortU]
  | x :: r => insU_sorted (sortU_sorted r)

/-- an ascending list is known by its members -/
theorem asc_ext : ∀ {a b : List ByteArray}, a.Pairwise ltB → b.Pairwise ltB → (∀ z, z ∈ a ↔ z ∈ b) → a = b
  | [], [], _, _, _ => rfl
  | [], y :: b, _, _, h => by have := (h y).2 (by simp); cases this
  | x :: a, [], _, _, h => by have := (h x).1 (by simp); cases this
  | x :: a, y :: b, ha, hb, h => by
    obtain ⟨a1, a2⟩ := List.pairwise_cons.1 ha
    obtain ⟨b1, b2⟩ := List.pairwise_cons.1 hb
    have hxy : x = y := by
      have hx := (h x).1 (by simp)
      have hy := (h y).2 (by simp)
      rcases List.mem_cons.1 hx with q | q
      · exact q
      · rcases List.mem_cons.1 hy with q2 | q2
        · exact q2.symm
        · exact absurd (ltB_trans (b1 x q) (a1 y q2)) (ltB_irr _)
    subst hxy
    congr 1
    refine asc_ext a2 b2 (fun z => ?_)
    have hz := h z
    rw [List.mem_cons, List.mem_cons] at hz
    constructor
    · intro q
      rcases hz.1 (.inr q) with q2 | q2
      · subst q2; exact absurd (a1 z q) (ltB_irr _)
      · exact q2
    · intro q
      rcases hz.2 (.inr q) with q2 | q2
      · subst q2; exact absurd (b1 z q) (ltB_irr _)
      · exact q2

theorem asc_nodup {l : List ByteArray} (h : l.Pairwise ltB) : l.Nodup := h.imp (fun hlt e => by subst e; exact ltB_irr _ hlt)

/-- what holds of every flow -/
structure Good (F : List En) : Prop where
  srt : SortedF F
  closed : Closed F
  ranked : ∃ rk, Ranked F rk
  rsrt : ∀ e ∈ F, e.rds.Pairwise ltB
  inp : ∀ e ∈ F, e.node = false → e.rds = [] ∧ e.stale = false

theorem Good.rank {F : List En} (h : Good F) : ∃ rk, Ranked F rk ∧ ∀ x, rk x ≤ F.length := by
  obtain ⟨rk, hk⟩ := h.ranked
  exact ⟨rnk F rk, ranked_norm h.closed hk, rnk_le F rk⟩

theorem Good.rch {F : List En} (h : Good F) (x y : ByteArray) : rchB F F.length x y = true ↔ Rch F x y := by
  obtain ⟨rk, hk, hl⟩ := h.rank
  exact ⟨rchB_sound _ _ _, fun q => rchB_complete hk q _ (hl x)⟩

/-- a nodup list inside another is no longer -/
theorem nodup_len {α : Type} [DecidableEq α] : ∀ {a b : List α}, a.Nodup → (∀ x ∈ a, x ∈ b) → a.length ≤ b.length
  | [], _, _, _ => by simp
  | x :: a, b, hn, h => by
    rw [List.nodup_cons] at hn
    have h2 : ∀ y ∈ a, y ∈ b.erase x := fun y hy => (List.mem_erase_of_ne (fun e => hn.1 (by rw [← e]; exact hy))).2 (h y (by simp [hy]))
    have ih := nodup_len hn.2 h2
    have hx := h x (by simp)
    rw [List.length_erase_of_mem hx] at ih
    have : 0 < b.length := List.length_pos_of_mem hx
    simp; omega

theorem Good.rlen {F : List En} (h : Good F) : ∀ e ∈ F, e.rds.length ≤ F.length := fun e he => by
  have := nodup_len (b := F.map (·.nm)) (asc_nodup (h.rsrt e he)) (fun r hr => by
    obtain ⟨e', he', hn⟩ := h.closed e he r hr
    exact List.mem_map.2 ⟨e', he', hn⟩)
  simpa using this

theorem good_nil : Good [] := ⟨List.Pairwise.nil, (fun e he => by cases he), ⟨fun _ => 0, (fun e he => by cases he)⟩, (fun e he => by cases he), (fun e he => by cases he)⟩

/-- names, reads and kinds stay -/
theorem Good.mapped {F : List En} (h : Good F) (g : En → En) (hg : ∀ e ∈ F, (g e).nm = e.nm ∧ (g e).rds = e.rds ∧ (g e).node = e.node) (hs : ∀ e ∈ F, e.node = false → (g e).stale = e.stale) : Good (F.map g) := by
  obtain ⟨rk, hk⟩ := h.ranked
  refine ⟨?_, fun e he r hr => ?_, ⟨rk, fun e he r hr => ?_⟩, fun e he => ?_, fun e he hn => ?_⟩
  · exact List.pairwise_map.2 (List.Pairwise.imp_of_mem (fun {a b} ha hb hlt => by rw [(hg a ha).1, (hg b hb).1]; exact hlt) h.srt)
  · obtain ⟨e0, h0, rfl⟩ := List.mem_map.1 he
    rw [(hg e0 h0).2.1] at hr
    obtain ⟨e', he', hn'⟩ := h.closed e0 h0 r hr
    exact ⟨g e', List.mem_map.2 ⟨e', he', rfl⟩, by rw [(hg e' he').1, hn']⟩
  · obtain ⟨e0, h0, rfl⟩ := List.mem_map.1 he
    rw [(hg e0 h0).2.1] at hr
    rw [(hg e0 h0).1]; exact hk e0 h0 r hr
  · obtain ⟨e0, h0, rfl⟩ := List.mem_map.1 he
    rw [(hg e0 h0).2.1]; exact h.rsrt e0 h0
  · obtain ⟨e0, h0, rfl⟩ := List.mem_map.1 he
    rw [(hg e0 h0).2.2] at hn
    rw [(hg e0 h0).2.1, hs e0 h0 hn]; exact h.inp e0 h0 hn

theorem Good.chg {F : List En} (h : Good F) (n v : ByteArray) : Good (chgF F n v) := by
  unfold chgF
  rcases he : atF F n with _ | e
  · exact h
  · simp only
    split
    · exact h
    · have h1 : Good (updF F n fun e => { e with val := v }) := h.mapped _ (fun e _ => by split <;> exact ⟨rfl, rfl, rfl⟩) (fun e _ _ => by split <;> rfl)
      refine h1.mapped _ (fun e _ => by split <;> exact ⟨rfl, rfl, rfl⟩) (fun e he hn => ?_)
      split
      · rename_i hr
        rw [hasR_iff, (h1.inp e he hn).1] at hr; cases hr
      · rfl

theorem Good.ins {F : List En} (h : Good F) (x : En) (hn : atF F x.nm = none) (hr : x.rds.Pairwise ltB) (hin : ∀ r ∈ x.rds, ∃ e ∈ F, e.nm = r) (hi : x.node = false → x.rds = [] ∧ x.stale = false) : Good (insF x F) := by
  obtain ⟨rk, hk, hl⟩ := h.rank
  have hne := atF_none hn
  refine ⟨insF_sorted h.srt hne, fun e he r hr' => ?_, ⟨fun y => if y = x.nm then F.length + 1 else rk y, fun e he r hr' => ?_⟩, fun e he => ?_, fun e he hnd => ?_⟩
  · rcases mem_insF.1 he with rfl | he
    · obtain ⟨e', he', q⟩ := hin r hr'
      exact ⟨e', mem_insF.2 (.inr he'), q⟩
    · obtain ⟨e', he', q⟩ := h.closed e he r hr'
      exact ⟨e', mem_insF.2 (.inr he'), q⟩
  · rcases mem_insF.1 he with rfl | he
    · obtain ⟨e', he', q⟩ := hin r hr'
      have : r ≠ e.nm := by rw [← q]; exact hne e' he'
      simp only [if_neg this, if_true]
      have := hl r; omega
    · obtain ⟨e', he', q⟩ := h.closed e he r hr'
      have : r ≠ x.nm := by rw [← q]; exact hne e' he'
      simp only [if_neg this, if_neg (hne e he)]
      exact hk e he r hr'
  · rcases mem_insF.1 he with rfl | he
    · exact hr
    · exact h.rsrt e he
  · rcases mem_insF.1 he with rfl | he
    · exact hi hnd
    · exact h.inp e he hnd

theorem Good.setF {F : List En} (h : Good F) (n v : ByteArray) : Good (setF F n v) := by
  unfold Go.Proofs.YtffifhbldcjelaaGreatDoor.setF
  split
  · rcases he : atF F n with _ | e
    · exact h.ins _ he List.Pairwise.nil (fun r hr => by cases hr) (fun _ => ⟨rfl, rfl⟩)
    · exact h.chg n v
  · exact h

theorem Good.dropF {F : List En} (h : Good F) (n : ByteArray) : Good (dropF F n) := by
  unfold Go.Proofs.YtffifhbldcjelaaGreatDoor.dropF
  split
  · rename_i hok
    unfold dropOk at hok
    rw [Bool.and_eq_true] at hok
    have hnr : ∀ e ∈ F, n ∉ e.rds := fun e he hr => by
      have h1 := List.isEmpty_iff.1 hok.2
      have h2 : e ∈ F.filter (hasR · n) := List.mem_filter.2 ⟨he, hasR_iff.2 hr⟩
      rw [h1] at h2; cases h2
    have hsub : ∀ {x : En}, x ∈ outF F n → x ∈ F := fun hx => (List.mem_filter.1 hx).1
    obtain ⟨rk, hk⟩ := h.ranked
    refine ⟨h.srt.sublist List.filter_sublist, fun e he r hr => ?_, ⟨rk, fun e he => hk e (hsub he)⟩, fun e he => h.rsrt e (hsub he), fun e he => h.inp e (hsub he)⟩
    obtain ⟨e', he', q⟩ := h.closed e (hsub he) r hr
    exact ⟨e', List.mem_filter.2 ⟨he', by
      simp only [Bool.not_eq_true', decide_eq_false_iff_not]
      intro q2; exact hnr e (hsub he) (by rw [← q2, q]; exact hr)⟩, q⟩
  · exact h

/-! Put -/
/-- may n read r -/
def rdOk (F : List En) (n r : ByteArray) : Bool := match atF F r with | some e => !e.stale && !rchB F F.length r n | none => false
def resOk (F : List En) (n : ByteArray) (l : List ByteArray) : Bool := l.all (rdOk F n)
def putOk (F : List En) (n : ByteArray) (l : List ByteArray) : Bool :=
  !n.toList.isEmpty && (match atF F n with | some e => e.node | none => true) && resOk F n l
def putF (F : List En) (n : ByteArray) (l : List ByteArray) (v : ByteArray) : List En :=
  if putOk F n l = true then (match atF F n with
    | some e => chgF (updF F n fun e => { e with rds := sortU l, stale := false }) n v
    | none => insF ⟨n, v, true, false, sortU l⟩ F) else F

theorem rdOk_in {F : List En} {n r : ByteArray} (h : rdOk F n r = true) : ∃ e, atF F r = some e ∧ e.stale = false ∧ rchB F F.length r n = false := by
  unfold rdOk at h
  rcases he : atF F r with _ | e
  · rw [he] at h; cases h
  · rw [he] at h; simp at h; exact ⟨e, rfl, h.1, h.2⟩
theorem resOk_mem {F : List En} {n : ByteArray} {l : List ByteArray} (h : resOk F n l = true) {r : ByteArray} (hr : r ∈ l) : rdOk F n r = true := List.all_eq_true.1 h r hr
theorem resOk_sort (F : List En) (n : ByteArray) (l : List ByteArray) : resOk F n (sortU l) = resOk F n l := by
  rw [Bool.eq_iff_iff]; unfold resOk
  simp only [List.all_eq_true, mem_sortU]

theorem Good.re {F : List En} (h : Good F) {n : ByteArray} {e : En} (he : atF F n = some e) (hnd : e.node = true) {l : List ByteArray} (hl : resOk F n l = true) (g : En → En) (hg : ∀ x, (g x).nm = x.nm ∧ (g x).rds = sortU l ∧ (g x).node = x.node) : Good (updF F n g) := by
  obtain ⟨rk, hk, hb⟩ := h.rank
  obtain ⟨heF, hen⟩ := atF_some he
  have hnr : ∀ r ∈ l, ¬ Rch F r n := fun r hr q => by
    obtain ⟨_, _, _, h3⟩ := rdOk_in (resOk_mem hl hr)
    rw [(h.rch r n).2 q] at h3; cases h3
  have hin : ∀ {y : En}, y ∈ updF F n g → ∃ x ∈ F, y = (if x.nm = n then g x else x) := fun hy => by
    obtain ⟨x, hx, rfl⟩ := List.mem_map.1 hy; exact ⟨x, hx, rfl⟩
  have hnm : ∀ x : En, (if x.nm = n then g x else x : En).nm = x.nm := fun x => by split; exact (hg x).1; rfl
  have hcl : ∀ r, (∃ x ∈ F, x.nm = r) → ∃ e' ∈ updF F n g, e'.nm = r := fun r ⟨x, hx, q⟩ => ⟨_, List.mem_map.2 ⟨x, hx, rfl⟩, by rw [hnm]; exact q⟩
  refine ⟨?_, fun y hy r hr => ?_, ⟨open Classical in fun y => if Rch F y n then rk y + F.length + 1 else rk y, fun y hy r hr => ?_⟩, fun y hy => ?_, fun y hy hny => ?_⟩
  · unfold updF
    refine List.pairwise_map.2 (h.srt.imp (fun {a b} hlt => ?_))
    rw [hnm, hnm]; exact hlt
  · obtain ⟨x, hx, rfl⟩ := hin hy
    split at hr
    · rw [(hg x).2.1, mem_sortU] at hr
      obtain ⟨e', h1, _⟩ := rdOk_in (resOk_mem hl hr)
      exact hcl r ⟨e', atF_some h1⟩
    · exact hcl r (h.closed x hx r hr)
  · obtain ⟨x, hx, rfl⟩ := hin hy
    rw [hnm]
    by_cases hxn : x.nm = n
    · rw [if_pos hxn, (hg x).2.1, mem_sortU] at hr
      have h1 := hnr r hr
      have h2 : Rch F x.nm n := by rw [hxn]; exact .refl _
      simp only [if_neg h1, if_pos h2]
      have := hb r; omega
    · rw [if_neg hxn] at hr
      have h1 := hk x hx r hr
      by_cases h2 : Rch F r n
      · have h3 : Rch F x.nm n := .step (atF_mem h.srt hx) hr h2
        simp only [if_pos h2, if_pos h3]; omega
      · simp only [if_neg h2]
        split <;> omega
  · obtain ⟨x, hx, rfl⟩ := hin hy
    split
    · rw [(hg x).2.1]; exact sortU_sorted l
    · exact h.rsrt x hx
  · obtain ⟨x, hx, rfl⟩ := hin hy
    by_cases hxn : x.nm = n
    · rw [if_pos hxn] at hny ⊢
      rw [(hg x).2.2, h.srt.inj x hx e heF (hxn.trans hen.symm), hnd] at hny; cases hny
    · rw [if_neg hxn] at hny ⊢
      exact h.inp x hx hny

theorem Good.putF {F : List En} (h : Good F) (n : ByteArray) (l : List ByteArray) (v : ByteArray) : Good (putF F n l v) := by
  unfold Go.Proofs.YtffifhbldcjelaaGreatDoor.putF
  split
  · rename_i hok
    unfold putOk at hok
    rw [Bool.and_eq_true, Bool.and_eq_true] at hok
    obtain ⟨⟨_, h1⟩, h2⟩ := hok
    rcases he : atF F n with _ | e
    · refine h.ins _ he (sortU_sorted l) (fun r hr => ?_) (fun q => by cases q)
      obtain ⟨e', h3, _⟩ := rdOk_in (resOk_mem h2 (mem_sortU.1 hr))
      exact ⟨e', atF_some h3⟩
    · rw [he] at h1
      exact (h.re he h1 h2 (fun e => { e with rds := sortU l, stale := false }) (fun x => ⟨rfl, rfl, rfl⟩)).chg n v
  · exact h

/-! the order of stale names -/
def depth (F : List En) (n : ByteArray) : Nat := depF F (F.length + 1) n
theorem Good.depth {F : List En} (h : Good F) {rk : ByteArray → Nat} (hK : Ranked F rk) (hl : ∀ x, rk x ≤ F.length) (n : ByteArray) : dp F rk n = depth F n := by
  unfold dp Go.Proofs.YtffifhbldcjelaaGreatDoor.depth
  exact (depF_stable hK (F.length + 1) n (by have := hl n; omega)).symm

def ltD (F : List En) (x y : ByteArray) : Prop := depth F x < depth F y ∨ (depth F x = depth F y ∧ ltB x y)
instance (F : List En) (x y : ByteArray) : Decidable (ltD F x y) := by unfold ltD; exact inferInstance
def insD (F : List En) (x : ByteArray) : List ByteArray → List ByteArray
  | [] => [x]
  | y :: r => if ltD F x y then x :: y :: r else y :: insD F x r
def sortD (F : List En) : List ByteArray → List ByteArray
  | [] => []
  | x :: r => insD F x (sortD F r)
def staleF (F : List En) : List ByteArray := sortD F ((F.filter (·.stale)).map (·.nm))

theorem ltD_irr (F : List En) (x : ByteArray) : ¬ ltD F x x := fun h => by
  rcases h with h | ⟨_, h⟩
  · omega
  · exact ltB_irr _ h
theorem ltD_trans {F : List En} {a b c : ByteArray} (h1 : ltD F a b) (h2 : ltD F b c) : ltD F a c := by
  unfold ltD at *
  rcases h1 with h1 | ⟨h1, q1⟩ <;> rcases h2 with h2 | ⟨h2, q2⟩
  · exact .inl (by omega)
  · exact .inl (by omega)
  · exact .inl (by omega)
  · exact .inr ⟨by omega, ltB_trans q1 q2⟩
theorem ltD_tot (F : List En) {a b : ByteArray} (hne : a ≠ b) (h : ¬ ltD F a b) : ltD F b a := by
  unfold ltD at *
  rcases Nat.lt_trichotomy (depth F a) (depth F b) with q | q | q
  · exact absurd (.inl q) h
  · rcases ltB_tri a b with r | r | r
    · exact absurd (.inr ⟨q, r⟩) h
    · exact absurd r hne
    · exact .inr ⟨q.symm, r⟩
  · exact .inl q
theorem insD_perm (F : List En) (x : ByteArray) : ∀ (l : List ByteArray), (insD F x l).Perm (x :: l)
  | [] => List.Perm.refl _
  | y :: r => by
    unfold insD
    split
    · exact List.Perm.refl _
    · exact ((insD_perm F x r).cons y).trans (List.Perm.swap x y r)
theorem sortD_perm (F : List En) : ∀ (l : List ByteArray), (sortD F l).Perm l
  | [] => List.Perm.refl _
  | x :: r => (insD_perm F x _).trans ((sortD_perm F r).cons x)
theorem insD_sorted (F : List En) {x : ByteArray} : ∀ {l : List ByteArray}, (∀ y ∈ l, y ≠ x) → l.Pairwise (ltD F) → (insD F x l).Pairwise (ltD F)
  | [], _, _ => by simp [insD]
  | y :: r, hne, h => by
    obtain ⟨h1, h2⟩ := List.pairwise_cons.1 h
    unfold insD
    split
    · rename_i hlt
      exact List.pairwise_cons.2 ⟨fun z hz => by
        rcases List.mem_cons.1 hz with rfl | hz
        · exact hlt
        · exact ltD_trans hlt (h1 z hz), h⟩
    · rename_i hlt
      refine List.pairwise_cons.2 ⟨fun z hz => ?_, insD_sorted F (fun z hz => hne z (by simp [hz])) h2⟩
      rcases List.mem_cons.1 ((insD_perm F x r).mem_iff.1 hz) with rfl | hz
      · exact ltD_tot F (fun e => hne y (by simp) e.symm) hlt
      · exact h1 z hz
theorem sortD_sorted (F : List En) : ∀ {l : List ByteArray}, l.Nodup → (sortD F l).Pairwise (ltD F)
  | [], _ => by simp [sortD]
  | x :: r, h => by
    rw [List.nodup_cons] at h
    exact insD_sorted F (fun y hy e => h.1 (by rw [← e]; exact (sortD_perm F r).mem_iff.1 hy)) (sortD_sorted F h.2)

theorem stale_nodup {F : List En} (h : SortedF F) : ((F.filter (·.stale)).map (·.nm)).Nodup := by
  refine List.pairwise_map.2 ?_
  exact (h.sublist List.filter_sublist).imp (fun hlt e => by rw [e] at hlt; exact ltB_irr _ hlt)
theorem staleF_perm (F : List En) : (staleF F).Perm ((F.filter (·.stale)).map (·.nm)) := sortD_perm F _
theorem staleF_sorted {F : List En} (h : SortedF F) : (staleF F).Pairwise (ltD F) := sortD_sorted F (stale_nodup h)
theorem mem_staleF {F : List En} {n : ByteArray} : n ∈ staleF F ↔ ∃ e ∈ F, e.stale = true ∧ e.nm = n := by
  rw [(staleF_perm F).mem_iff, List.mem_map]
  constructor
  · rintro ⟨e, he, q⟩
    obtain ⟨h1, h2⟩ := List.mem_filter.1 he
    exact ⟨e, h1, h2, q⟩
  · rintro ⟨e, h1, h2, q⟩
    exact ⟨e, List.mem_filter.2 ⟨h1, h2⟩, q⟩
theorem staleF_uniq {F : List En} (h : SortedF F) {s : List ByteArray} (hp : s.Perm ((F.filter (·.stale)).map (·.nm))) (hs : s.Pairwise (ltD F)) : s = staleF F :=
  List.Perm.eq_of_pairwise (fun a b _ _ h1 h2 => absurd (ltD_trans h1 h2) (ltD_irr F a)) hs (staleF_sorted h) (hp.trans (staleF_perm F).symm)

end Go.Proofs.YtffifhbldcjelaaGreatDoor
