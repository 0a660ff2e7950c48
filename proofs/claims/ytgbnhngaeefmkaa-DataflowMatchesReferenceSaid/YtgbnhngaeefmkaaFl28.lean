import Derived.Test.YtgbnhngaeefmkaaFl27

/-! Flows: Put. -/
namespace Go.Proofs.Ytgbnhngaeefmkaa
set_option linter.unusedVariables false
set_option linter.unusedSimpArgs false
open Go.RowKit

theorem updF_ins {x : En} {g : En → En} (hg : (g x).nm = x.nm) : ∀ {F : List En}, (∀ e ∈ F, e.nm ≠ x.nm) → updF (insF x F) x.nm g = insF (g x) F
  | [], _ => by simp [insF, updF]
  | a :: r, h => by
    have h1 := h a (by simp)
    unfold insF
    rw [hg]
    by_cases hlt : ltB x.nm a.nm
    · rw [if_pos hlt, if_pos hlt]
      unfold updF
      simp only [List.map_cons, if_true]
      rw [if_neg h1]
      congr 2
      conv => rhs; rw [← List.map_id r]
      exact List.map_congr_left fun y hy => by rw [if_neg (h y (by simp [hy]))]; rfl
    · rw [if_neg hlt, if_neg hlt]
      have ih := updF_ins hg (F := r) (fun e he => h e (by simp [he]))
      unfold updF at ih ⊢
      simp only [List.map_cons]
      rw [if_neg h1, ih]

theorem updF_upd (F : List En) (n : ByteArray) (g h : En → En) (hg : ∀ e, e.nm = n → (g e).nm = n) : updF (updF F n g) n h = updF F n (fun e => h (g e)) := by
  unfold updF
  rw [List.map_map]
  refine List.map_congr_left fun e he => ?_
  show (if (if e.nm = n then g e else e).nm = n then h (if e.nm = n then g e else e) else (if e.nm = n then g e else e)) = if e.nm = n then h (g e) else e
  by_cases hq : e.nm = n
  · rw [if_pos hq, if_pos (hg e hq), if_pos hq]
  · rw [if_neg hq, if_neg hq, if_neg hq]

theorem updF_one {F : List En} (hs : SortedF F) {e : En} (he : e ∈ F) (g : En → En) : updF F e.nm (fun _ => g e) = updF F e.nm g := by
  unfold updF
  refine List.map_congr_left fun x hx => ?_
  by_cases hq : x.nm = e.nm
  · rw [if_pos hq, if_pos hq, hs.inj x hx e he hq]
  · rw [if_neg hq, if_neg hq]

theorem atF_upd {F : List En} (hs : SortedF F) {e : En} {n : ByteArray} (he : atF F n = some e) (g : En → En) (hg : ∀ e, (g e).nm = e.nm) : atF (updF F n g) n = some (g e) := by
  obtain ⟨h1, h2⟩ := atF_some he
  have hs2 : SortedF (updF F n g) := by
    unfold SortedF updF
    refine List.pairwise_map.2 (hs.imp (fun {a b} hlt => ?_))
    have key : ∀ x : En, (if x.nm = n then g x else x).nm = x.nm := fun x => by split; exact hg x; rfl
    rw [key, key]; exact hlt
  have := atF_mem hs2 (e := g e) (List.mem_map.2 ⟨e, h1, by rw [if_pos h2]⟩)
  rw [hg, h2] at this; exact this

theorem chgF_same {F : List En} {n v : ByteArray} {e : En} (he : atF F n = some e) (hv : e.val = v) : chgF F n v = F := by unfold chgF; rw [he]; simp [hv]

section
variable {B : Nat} {W : World} {f M : Nat} {bl rb : ByteArray → Nat} {sl : ByteArray → Value} {F : List En}

theorem RowP.later {W W' : World} {v : Value} {ps : List Nat} (h : RowP W v ps) (hb : Below W.heap.size W W') : RowP W' v ps := h.kept (fun g _ _ hg => hb.block g (lt_of_blk hg))

/-- behind resolve, at a known node -/
theorem put_known (h : Rep B W f M bl rb sl F) (hG : Good F) (hF : F.length ≤ 1000) {n v : ByteArray} {e : En} (he : atF F n = some e) (l : List ByteArray) (hin : ∀ r ∈ sortU l, ∃ d ∈ F, d.nm = r) (hl2 : (sortU l).length ≤ 1000) (ao : Option Addr) (cap : Nat) (hrow : RowP W (.slice ao (sortU l).length cap) ((sortU l).map bl)) :
    Calls Try.prog 41 #[.pointer (some ⟨bl n, 0, none⟩), .slice ao (sortU l).length cap] W fun e' w1 => e' = .returned (.tuple #[]) ∧ Mv B W w1 ∧
      w1.cell? ⟨bl n, 3, none⟩ = some (.bool e.stale) ∧ w1.frozen? ⟨bl n, 3, none⟩ = false ∧ Calls Try.prog 36 #[.pointer (some ⟨bl n, 0, none⟩), .string v] (w1.setCell ⟨bl n, 3, none⟩ (.bool false)) fun e' w2 => e' = .returned (.tuple #[]) ∧ ∃ sl', Rep B w2 f M bl rb sl' (chgF (updF F n fun e => { e with rds := sortU l, stale := false }) n v) ∧ Mv B W w2 := by
  obtain ⟨heF, hen⟩ := atF_some he
  subst hen
  refine (read_any h hG.closed heF rfl ao _ cap (sortU l) hrow hin (asc_nodup (sortU_sorted l)) (Nat.le_trans (hG.rlen e heF) hF) hl2).mono ?_
  · rintro e' w1 ⟨rfl, hr, hm⟩
    have he1 : atF (updF F e.nm fun x => { x with rds := sortU l }) e.nm = some { e with rds := sortU l } := atF_upd h.srt he (fun x => { x with rds := sortU l }) (fun _ => rfl)
    obtain ⟨h1, h2⟩ := atF_some he1
    obtain ⟨c0, c1, c2, c3, c4, c5, fz⟩ := hr.cells he1
    obtain ⟨r1, m1⟩ := hr.setOne h1 3 (.bool false) { e with rds := sortU l, stale := false } rfl rfl rfl
    have hF2 : updF (updF F e.nm fun x => { x with rds := sortU l }) e.nm (fun _ => ({ e with rds := sortU l, stale := false } : En)) = updF F e.nm fun e => { e with rds := sortU l, stale := false } := by
      rw [updF_upd F e.nm (fun x => { x with rds := sortU l }) _ (fun e he => he)]
      exact updF_one h.srt heF (fun e => { e with rds := sortU l, stale := false })
    dsimp only at r1 m1
    rw [hF2] at r1
    have he2 : atF (updF F e.nm fun e => { e with rds := sortU l, stale := false }) e.nm = some { e with rds := sortU l, stale := false } := atF_upd h.srt he (fun e => { e with rds := sortU l, stale := false }) (fun _ => rfl)
    refine ⟨rfl, hm, c3, fz 3, (change_any r1 he2 v).mono ?_⟩
    rintro e' w2 ⟨rfl, r2, m2⟩
    exact ⟨rfl, _, r2, (hm.trans m1).trans m2⟩

/-- behind resolve, at a new name -/
theorem put_new (h : Rep B W f M bl rb sl F) (hB : B ≤ W.heap.size) (hG : Good F) (hF : F.length ≤ 999) {n v : ByteArray} (he : atF F n = none) (l : List ByteArray) (hin : ∀ r ∈ sortU l, ∃ d ∈ F, d.nm = r) (hl2 : (sortU l).length ≤ 1000) (ao : Option Addr) (cap : Nat) (hrow : RowP W (.slice ao (sortU l).length cap) ((sortU l).map bl)) :
    Calls Try.prog 37 #[.pointer (some ⟨f, 0, none⟩), .string n, .string v] W fun e' w0 => ∃ b, e' = .returned (.pointer (some ⟨b, 0, none⟩)) ∧ w0.cell? ⟨b, 2, none⟩ = some (.bool false) ∧ w0.frozen? ⟨b, 2, none⟩ = false ∧
    Calls Try.prog 41 #[.pointer (some ⟨b, 0, none⟩), .slice ao (sortU l).length cap] (w0.setCell ⟨b, 2, none⟩ (.bool true)) fun e' w1 => e' = .returned (.tuple #[]) ∧
      w1.cell? ⟨b, 3, none⟩ = some (.bool false) ∧ w1.frozen? ⟨b, 3, none⟩ = false ∧ Calls Try.prog 36 #[.pointer (some ⟨b, 0, none⟩), .string v] (w1.setCell ⟨b, 3, none⟩ (.bool false)) fun e' w2 => e' = .returned (.tuple #[]) ∧ ∃ bl' rb' sl', Rep B w2 f M bl' rb' sl' (insF ⟨n, v, true, false, sortU l⟩ F) ∧ Mv B W w2 := by
  have hne := atF_none he
  have hnr := hG.closed.none he
  refine (add_any h hB n v he hnr).mono ?_
  rintro e' w0 ⟨rfl, hr, hm, hsz⟩
  have hx1 : (⟨n, v, false, false, []⟩ : En) ∈ insF ⟨n, v, false, false, []⟩ F := mem_insF.2 (.inl rfl)
  have hce := cells_ent (hr.ent _ hx1)
  dsimp only at hce
  rw [upB_same] at hce
  obtain ⟨r1, m1⟩ := hr.setOne hx1 2 (.bool true) ⟨n, v, true, false, []⟩ rfl rfl rfl
  dsimp only at r1 m1
  have hF2 : updF (insF ⟨n, v, false, false, []⟩ F) n (fun _ => (⟨n, v, true, false, []⟩ : En)) = insF ⟨n, v, true, false, []⟩ F := updF_ins (x := ⟨n, v, false, false, []⟩) (g := fun _ => ⟨n, v, true, false, []⟩) rfl hne
  rw [hF2, upB_same] at r1
  rw [upB_same] at m1
  have hG2 : Good (insF ⟨n, v, true, false, []⟩ F) := hG.ins _ he List.Pairwise.nil (fun r hr => by cases hr) (fun q => by cases q)
  have he2 : atF (insF ⟨n, v, true, false, []⟩ F) n = some ⟨n, v, true, false, []⟩ := atF_mem (e := ⟨n, v, true, false, []⟩) hG2.srt (mem_insF.2 (.inl rfl))
  have hmap : (sortU l).map (upB bl n (W.heap.size + 1)) = (sortU l).map bl := List.map_congr_left (fun r hr => by
    obtain ⟨d, hd, hdn⟩ := hin r hr
    exact upB_other (by rw [← hdn]; exact hne d hd))
  have hrow2 : RowP (w0.setCell ⟨W.heap.size + 1, 2, none⟩ (.bool true)) (.slice ao (sortU l).length cap) ((sortU l).map (upB bl n (W.heap.size + 1))) := by
    rw [hmap]; exact hrow.mv (hm.trans m1)
  have hk := put_known r1 hG2 (by rw [insF_length]; omega) (v := v) he2 l (fun r hr => by
    obtain ⟨d, hd, hdn⟩ := hin r hr
    exact ⟨d, mem_insF.2 (.inr hd), hdn⟩) hl2 ao cap hrow2
  rw [upB_same] at hk
  refine ⟨_, rfl, hce.c2, hce.fz 2, hk.mono ?_⟩
  rintro e' w1 ⟨rfl, hm2, q3, q4, q5⟩
  refine ⟨rfl, q3, q4, q5.mono ?_⟩
  rintro e' w2 ⟨rfl, sl', r2, m2⟩
  have hF3 : updF (insF ⟨n, v, true, false, []⟩ F) n (fun e => { e with rds := sortU l, stale := false }) = insF ⟨n, v, true, false, sortU l⟩ F := updF_ins (x := ⟨n, v, true, false, []⟩) (g := fun e => { e with rds := sortU l, stale := false }) rfl hne
  rw [hF3] at r2
  have he3 : atF (insF ⟨n, v, true, false, sortU l⟩ F) n = some ⟨n, v, true, false, sortU l⟩ := by
    have hG3 : SortedF (insF ⟨n, v, true, false, sortU l⟩ F) := insF_sorted hG.srt hne
    exact atF_mem (e := ⟨n, v, true, false, sortU l⟩) hG3 (mem_insF.2 (.inl rfl))
  rw [chgF_same he3 rfl] at r2
  exact ⟨rfl, _, _, _, r2, (hm.trans m1).trans m2⟩
end

end Go.Proofs.Ytgbnhngaeefmkaa
