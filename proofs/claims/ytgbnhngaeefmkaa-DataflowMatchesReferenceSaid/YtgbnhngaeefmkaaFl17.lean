import Derived.Test.YtgbnhngaeefmkaaFl16
import Derived.Outline

/-! Flows: slices.SortFunc at no more than twelve names. -/
namespace Go.Proofs.Ytgbnhngaeefmkaa
set_option linter.unusedVariables false
set_option linter.unusedSimpArgs false
open Go.RowKit Go.Shelf Go.Lib

def cmpV (bx : Nat) : Value := .func (.func 49) #[] #[.pointer (some ⟨bx, 0, none⟩)]

section
variable {F : List En} {rk bl : ByteArray → Nat} {W0 W : World} {m g o bx : Nat}

set_option maxRecDepth 100000 in
theorem isort_nil (ao : Option Addr) (cap : Nat) (v : Value) (W : World) : Calls Try.prog 71 #[.slice ao 0 cap, .int .i64 0, .int .i64 0, v] W fun e w' => e = .returned (.tuple #[]) ∧ W = w' := by
  go_enter Try.func71, Try.ntmps71
  go_wp2
  refine wp_loop_rounds 1 ?_
  rw [rounds_succ]
  go_wp2
  go_end0
  exact ⟨rfl, rfl⟩

set_option maxRecDepth 100000 in
set_option maxHeartbeats 1000000 in
theorem pdq_12 (R : Ending → World → Prop) (sv : Value) (n : Nat) (hn : n ≤ 12) (lim : Int) (v : Value) (W : World) (h : Calls Try.prog 71 #[sv, .int .i64 0, .int .i64 n, v] W fun e w' => e = .returned (.tuple #[]) ∧ R e w') :
    Calls Try.prog 60 #[sv, .int .i64 0, .int .i64 n, .int .i64 lim, v] W fun e w' => e = .returned (.tuple #[]) ∧ R e w' := by
  have H := Lib.hid h
  have h1 : (n : Int) ≤ 12 := by omega
  clear h
  go_enter Try.func60, Try.ntmps60
  go_wp2
  refine wp_loop_rounds 1 ?_
  rw [rounds_succ]
  go_wp2_with (go_at_call 71; refine H.out.mono ?_; rintro e w' ⟨rfl, hr⟩; have HR := Lib.hid hr; clear hr)

  exact bodyPost_ret (results_none rfl _ _ _) rfl ⟨rfl, HR.out⟩

set_option maxRecDepth 100000 in
set_option maxHeartbeats 1000000 in
theorem sortf_12 (R : Ending → World → Prop) (ao : Option Addr) (cap n : Nat) (hn : n ≤ 12) (v : Value) (W : World) (h : Calls Try.prog 71 #[.slice ao n cap, .int .i64 0, .int .i64 n, v] W fun e w' => e = .returned (.tuple #[]) ∧ R e w') :
    Calls Try.prog 48 #[.slice ao n cap, v] W fun e w' => e = .returned (.tuple #[]) ∧ R e w' := by
  have H := Lib.hid (fun lim => pdq_12 R _ n hn lim v W h)
  have h1 : (n : Int) ≤ 12 := by omega
  have h2 : (0 : Int) ≤ (n : Int) := by omega
  clear h
  go_enter Try.func48, Try.ntmps48
  go_wp2_with (first
    | (go_at_call 61; refine (Try.bits_Len _ _ ?_ ?_).mono ?_; omega; omega; rintro e w' ⟨rfl, rfl⟩)
    | (go_at_call 60; refine (H.out _).mono ?_; rintro e w' ⟨rfl, hr⟩; have HR := Lib.hid hr; clear hr))
  go_end0
  exact ⟨rfl, HR.out⟩


def encE (bl : ByteArray → Nat) (e : En) : List Value := [.pointer (some ⟨bl e.nm, 0, none⟩)]
theorem flat_encE (bl : ByteArray → Nat) (l : List En) : l.flatMap (encE bl) = l.map fun e => ptr (bl e.nm) := by
  induction l with
  | nil => rfl
  | cons a r ih => rw [List.flatMap_cons, ih]; rfl

/-- slices.SortFunc at the stale names -/
theorem sortl_any {B f M : Nat} {rb : ByteArray → Nat} {sl : ByteArray → Value} (h : Rep B W0 f M bl rb sl F) (hC : Closed F) (hK : Ranked F rk) (hR : ∀ e ∈ F, e.rds.length ≤ 1000) (hk : ∀ e ∈ F, rk e.nm ≤ 1000) (l0 : List En) (hl : ∀ x ∈ l0, x ∈ F) (hnd : l0.Pairwise (fun a b => a.nm ≠ b.nm)) (h12 : l0.length ≤ 12)
    (v : Value) (W4 : World) (hb : Below W0.heap.size W0 W4) (hrow : W4.ownsRow W0.heap.size 75 1 v l0.length (l0.flatMap (encE bl))) (hm : W0.heap.size ≤ m) (hmap : W4.heap[m]? = some (.map #[] 0))
    (hbx : W4.cell? ⟨bx, 0, none⟩ = some (.func (.func 47) #[.map (some m)] #[])) (hxv : v.ownBlock ≠ some bx) :
    Calls Try.prog 48 #[v, cmpV bx] W4 fun e w' => e = .returned (.tuple #[]) ∧ (Below W0.heap.size W0 w' ∧ (w'.os = W4.os ∧ W4.heap.size ≤ w'.heap.size) ∧ (∀ k, k < W4.heap.size → k ≠ m → v.ownBlock ≠ some k → w'.heap[k]? = W4.heap[k]?) ∧ ∃ s : List En, s.Perm l0 ∧ s.Pairwise (ltE F rk) ∧ RowP w' v (s.map fun e => bl e.nm)) := by
  have hxm : bx ≠ m := fun e => by
    unfold World.cell? at hbx
    rw [e] at hbx
    simp only [hmap] at hbx; cases hbx
  obtain ⟨h1, h2 | ⟨g, cap, cur, rfl, hg1, hg2, hg3, hg4, hg5, hg6⟩⟩ := hrow
  · obtain ⟨rfl, h0⟩ := h2
    have h0 : l0 = [] := by rcases l0 with _ | ⟨a, r⟩; rfl; simp at h0
    subst h0
    refine (sortf_12 (fun e w' => W4 = w') none 0 0 (by omega) _ W4 (isort_nil none 0 _ W4)).mono ?_
    rintro e w' ⟨rfl, rfl⟩
    exact ⟨rfl, hb, ⟨rfl, Nat.le_refl _⟩, fun _ _ _ _ => rfl, [], List.Perm.refl _, List.Pairwise.nil, RowP.nil _⟩
  · have hgm : g ≠ m := fun e => by rw [e, hmap] at hg2; cases hg2
    have hxg : bx ≠ g := fun e => hxv (by rw [e]; rfl)
    have hcur : ∀ i x, l0[i]? = some x → cur[0 + i]? = some (ptr (bl x.nm)) := fun i x hx => by
      have hi : i < l0.length := (List.getElem?_eq_some_iff.1 hx).1
      have h3 : (l0.flatMap (encE bl))[i]? = some (ptr (bl x.nm)) := by rw [flat_encE, List.getElem?_map, hx]; rfl
      rw [← hg6, List.getElem?_take_of_lt (by omega), Array.getElem?_toList] at h3
      rw [Nat.zero_add]; exact h3
    have hM0 : Memo F rk bl W4 m := ⟨[], ⟨#[], 0, hmap, rfl, by simp, by simp⟩, by simp, (fun p hp => by cases hp)⟩
    have hS : SG F rk bl W0 W4 m g 0 W4 l0 := ⟨hb, hM0, rfl, rfl, rfl, Nat.le_refl _, fun _ _ _ _ => rfl, cur, hg2, by omega, hcur⟩
    have hO : CmpOk F rk bl W0 m bx := fun x hx y hy w' hb' hm' hc' => cmp_any h hC hK hR hk m hm bx hxm x y hx hy w' hb' hm' hc'
    have fin : ∀ w' s, SG F rk bl W0 W4 m g 0 w' s → s.Perm l0 → RowP w' (.slice (some ⟨g, 0, none⟩) l0.length cap) (s.map fun e => bl e.nm) := fun w' s hs hp => by
      obtain ⟨cur', q1, _, q3⟩ := hs.row
      refine ⟨_, cap, by rw [List.length_map, hp.length_eq], ⟨(fun e => by cases e), by rw [List.length_map, hp.length_eq]; exact hg3⟩, .inr ⟨g, 0, cur', _, rfl, q1, fun i p hp' => ?_⟩⟩
      rw [List.getElem?_map] at hp'
      obtain ⟨x, hx, rfl⟩ := Option.map_eq_some_iff.1 hp'
      exact q3 i x hx
    have hfr : ∀ w' s, SG F rk bl W0 W4 m g 0 w' s → ∀ k, k < W4.heap.size → k ≠ m → (Value.slice (some ⟨g, 0, none⟩) l0.length cap).ownBlock ≠ some k → w'.heap[k]? = W4.heap[k]? := fun w' s hs k hk n1 n2 => hs.block k hk n1 (fun e => n2 (by rw [e]; rfl))
    rcases Nat.eq_zero_or_pos l0.length with h0 | h0
    · have hl0 : l0 = [] := List.eq_nil_of_length_eq_zero h0
      subst hl0
      refine (sortf_12 (fun e w' => W4 = w') (some ⟨g, 0, none⟩) cap 0 (by omega) _ W4 (isort_nil _ cap _ W4)).mono ?_
      rintro e w' ⟨rfl, rfl⟩
      exact ⟨rfl, hb, ⟨rfl, Nat.le_refl _⟩, fun _ _ _ _ => rfl, [], List.Perm.refl _, List.Pairwise.nil, fin _ _ hS (List.Perm.refl _)⟩
    · refine (sortf_12 (fun e w' => ∃ s, SG F rk bl W0 W4 m g 0 w' s ∧ s.Perm l0 ∧ s.Pairwise (ltE F rk)) (some ⟨g, 0, none⟩) cap l0.length h12 _ W4 (isort_any hO l0 _ cap rfl h12 hl hnd hgm hg1 hxm hxg hS hbx h0)).mono ?_
      rintro e w' ⟨rfl, s, h5, h6, h7⟩
      exact ⟨rfl, h5.low, ⟨h5.os, h5.size⟩, hfr _ _ h5, s, h6, h7, fin _ _ h5 h6⟩
end

end Go.Proofs.Ytgbnhngaeefmkaa
