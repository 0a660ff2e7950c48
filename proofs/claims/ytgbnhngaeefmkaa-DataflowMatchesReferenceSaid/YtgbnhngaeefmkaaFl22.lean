import Derived.Test.YtgbnhngaeefmkaaFl21

/-! Flows: below, as an iterator. -/
namespace Go.Proofs.Ytgbnhngaeefmkaa
set_option linter.unusedVariables false
set_option linter.unusedSimpArgs false
open Go.RowKit

attribute [local go_sem] Oper.semAt_some

section
variable {B : Nat} {w : World} {f M : Nat} {bl rb : ByteArray → Nat} {sl : ByteArray → Value} {F : List En}

theorem four_allocs (W : World) (a b c d : Obj) : ((((W.alloc a).alloc b).alloc c).alloc d).heap[W.heap.size]? = some a ∧ ((((W.alloc a).alloc b).alloc c).alloc d).heap[W.heap.size + 1]? = some b ∧ ((((W.alloc a).alloc b).alloc c).alloc d).heap[W.heap.size + 2]? = some c ∧ ((((W.alloc a).alloc b).alloc c).alloc d).heap[W.heap.size + 3]? = some d := by
  have s1 : (W.alloc a).heap.size = W.heap.size + 1 := by simp
  have s2 : ((W.alloc a).alloc b).heap.size = W.heap.size + 2 := by simp
  have s3 : (((W.alloc a).alloc b).alloc c).heap.size = W.heap.size + 3 := by simp
  refine ⟨?_, ?_, ?_, ?_⟩
  · rw [Below.heap_alloc _ d _ (by omega), Below.heap_alloc _ c _ (by omega), Below.heap_alloc _ b _ (by omega)]; exact World.alloc_heap_new W a
  · rw [Below.heap_alloc _ d _ (by omega), Below.heap_alloc _ c _ (by omega)]; have := World.alloc_heap_new (W.alloc a) b; rwa [s1] at this
  · rw [Below.heap_alloc _ d _ (by omega)]; have := World.alloc_heap_new ((W.alloc a).alloc b) c; rwa [s2] at this
  · have := World.alloc_heap_new (((W.alloc a).alloc b).alloc c) d; rwa [s3] at this

theorem below_any (b : Nat) (w : World) :
    Calls Try.prog 58 #[.pointer (some ⟨b, 0, none⟩)] w fun e w' => e = .returned (.func (.func 67) #[] #[.pointer (some ⟨w.heap.size, 0, none⟩)]) ∧ w' = w.alloc (.cells #[.pointer (some ⟨b, 0, none⟩)] 75) := by
  go_enter Try.func58, Try.ntmps58
  go_wp2
  go_ret
  exact ⟨rfl, rfl⟩

set_option maxRecDepth 100000 in
set_option maxHeartbeats 4000000 in
theorem below_seq (h : Rep B w f M bl rb sl F) (hG : Good F) (hF : F.length ≤ 1000) {r : ByteArray} {e : En} (he : atF F r = some e) (bx : Nat) (hbx : w.cell? ⟨bx, 0, none⟩ = some (.pointer (some ⟨bl r, 0, none⟩))) :
    SeqStop Try.prog 67 #[.pointer (some ⟨bx, 0, none⟩)] (encP bl) (isIn F) (fun xs => ∀ y, Rch F r y → y ∈ xs) (fun pre => ∃ p y, pre = p ++ [y] ∧ Rch F r y) w := by
  intro n l J Jx W hW hJ hJx hY h0
  have hmm := @run_makeMap Try.prog
  have eg : ∀ args w, (callFunc 68 args).run Try.prog w = .ok (.enter 68 args) w := enters_of Try.func68 (by kernel_rfl) rfl
  obtain ⟨rk, hK⟩ := hG.ranked
  have hbc : W.cell? ⟨bx, 0, none⟩ = some (.pointer (some ⟨bl r, 0, none⟩)) := by rw [hW.cell (p := ⟨bx, 0, none⟩) (World.block_lt_of_cell? _ _ hbx)]; exact hbx
  obtain ⟨V0, hV0⟩ : ∃ V0 : World, V0 = (((W.alloc (.cells #[.func (.yield l) #[] #[]] 112)).alloc (.map #[] 0)).alloc (.cells #[.map (some (W.heap.size + 1))] 78)).alloc (.cells #[.nilFunc] 112) := ⟨_, rfl⟩
  have hV0s : V0.heap.size = W.heap.size + 4 := by rw [hV0]; simp
  obtain ⟨hb0, hb1, hb2, hb3⟩ := four_allocs W (.cells #[.func (.yield l) #[] #[]] 112) (.map #[] 0) (.cells #[.map (some (W.heap.size + 1))] 78) (.cells #[.nilFunc] 112)
  rw [← hV0] at hb0 hb1 hb2 hb3
  have hB0 : Below W.heap.size W V0 := by rw [hV0]; exact ((((Below.refl _ W).alloc (Nat.le_refl _) _).alloc (by simp) _).alloc (by simp; omega) _).alloc (by simp; omega) _
  obtain ⟨V, hV⟩ : ∃ V : World, V = V0.setCell ⟨W.heap.size + 1 + 1 + 1, 0, none⟩ (.func (.func 68) #[] #[.pointer (some ⟨W.heap.size + 1 + 1, 0, none⟩), .pointer (some ⟨W.heap.size, 0, none⟩), .pointer (some ⟨W.heap.size + 1 + 1 + 1, 0, none⟩)]) := ⟨_, rfl⟩
  have hst : (store ⟨W.heap.size + 1 + 1 + 1, 0, none⟩ (.func (.func 68) #[] #[.pointer (some ⟨W.heap.size + 1 + 1, 0, none⟩), .pointer (some ⟨W.heap.size, 0, none⟩), .pointer (some ⟨W.heap.size + 1 + 1 + 1, 0, none⟩)])).run Try.prog ((((W.alloc (.cells #[.func (.yield l) #[] #[]] 112)).alloc (.map #[] 0)).alloc (.cells #[.map (some (W.heap.size + 1))] 78)).alloc (.cells #[.nilFunc] 112)) = .ok () V := by
    rw [← hV0, run_store _ _ _ _ _ rfl, cell_blk (b := W.heap.size + 1 + 1 + 1) hb3 rfl, frz_blk (b := W.heap.size + 1 + 1 + 1) hb3, hV]; rfl
  have hVc : V.cell? ⟨W.heap.size + 1 + 1 + 1, 0, none⟩ = some (.func (.func 68) #[] #[.pointer (some ⟨W.heap.size + 1 + 1, 0, none⟩), .pointer (some ⟨W.heap.size, 0, none⟩), .pointer (some ⟨W.heap.size + 1 + 1 + 1, 0, none⟩)]) := by
    rw [hV]; exact cell_blk (heap_setC hb3 _) rfl
  have hVk : ∀ k, k ≠ W.heap.size + 3 → V.heap[k]? = V0.heap[k]? := fun k hk => by rw [hV]; exact Below.heap_setCell V0 ⟨W.heap.size + 1 + 1 + 1, 0, none⟩ _ k hk
  have hVB : Below W.heap.size W V := by rw [hV]; exact hB0.setCell (p := ⟨W.heap.size + 1 + 1 + 1, 0, none⟩) (by simp; omega) _
  have hVx : V.cell? ⟨bx, 0, none⟩ = some (.pointer (some ⟨bl r, 0, none⟩)) := by rw [hVB.cell (p := ⟨bx, 0, none⟩) (World.block_lt_of_cell? _ _ hbc)]; exact hbc
  have hJV : J [] V := hJ _ _ _ (fun k => W.heap.size ≤ k) h0 (Chg.of_below hVB (fun k hk _ => hk)) (fun k hk => hk)
  have hIT : ItS w F bl l (W.heap.size + 1 + 1) W.heap.size (W.heap.size + 1 + 1 + 1) (W.heap.size + 1) J [] V := by
    refine ⟨hW.trans (hVB.mono hW.size), cell_blk (by rw [hVk _ (by omega)]; exact hb2) rfl, cell_blk (by rw [hVk _ (by omega)]; exact hb0) rfl, hVc, ⟨#[], 0, by rw [hVk _ (by omega)]; exact hb1, rfl, by simp, by simp⟩, (fun t ht => by cases ht), hJV⟩
  have VI := Lib.hid (fun m => visit_any (Jx := Jx) h hG hF hK (show W.heap.size ≤ W.heap.size + 1 by omega) hJ hW.size hY _ r e [] V m (Nat.lt_succ_self _) he hIT)
  clear hV0 hV hW h hG hJ hJx hY h0 hb0 hb1 hb2 hb3 hB0 hV0s hVk hVB hJV hIT
  refine callsIn_of_wp Try.func67 rfl trivial ?_ rfl
  simp only [Try.ntmps67, List.size_toArray, List.length_cons, List.length_nil, Nat.reduceAdd, Nat.reduceSub, Array.replicate_succ, Array.replicate_zero, List.push_toArray, List.append_toArray, List.nil_append, List.cons_append]
  gi_wp2
  refine ⟨trivial, fun h => absurd h (by simp [Fence.wide]), (VI.out _).mono ?_⟩
  rintro e4 W3 (⟨rfl, T', h3, h4⟩ | ⟨rfl, p, y, h3, h4⟩)
  · have FIN := Lib.hid (show (∃ xs, (∀ (y : ByteArray), Rch F r y → y ∈ xs) ∧ J xs W3) from ⟨T', fun y hy => h4.all hy, h3.j⟩)
    clear h3 h4
    gi_wp2
    go_end0
    exact ⟨⟨_, rfl⟩, .inl FIN.out⟩
  · have FIN := Lib.hid (show (∃ pre, (∃ p y, pre = p ++ [y] ∧ Rch F r y) ∧ Jx pre W3) from ⟨_, ⟨p, y, rfl, h3⟩, h4⟩)
    clear h3 h4
    gi_wp2
    go_end0
    exact ⟨⟨_, rfl⟩, .inr FIN.out⟩
end

end Go.Proofs.Ytgbnhngaeefmkaa
