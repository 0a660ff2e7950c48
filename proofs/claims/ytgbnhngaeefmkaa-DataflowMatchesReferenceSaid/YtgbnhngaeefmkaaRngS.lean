import Derived.Test.YtgbnhngaeefmkaaRange

/-! A range over a function whose rounds may leave by 'return': the body reads, and stores only as it leaves. -/
namespace Go.Proofs.Ytgbnhngaeefmkaa
set_option linter.unusedVariables false
open Go.RowKit

/-- an iterator whose rounds may stop it: S of what it gave if it went through, Sp if it was stopped -/
def SeqStop {α : Type} (P : Program) (g : Nat) (lb : Array Value) (encs : α → Array Value) (ok : α → Prop) (S Sp : List α → Prop) (w : World) : Prop :=
  ∀ (n l : Nat) (J Jx : List α → World → Prop) (W : World), Below w.heap.size w W →
    (∀ s A B C, J s A → Chg C A B → (∀ k, C k → W.heap.size ≤ k) → J s B) →
    (∀ s A B C, Jx s A → Chg C A B → (∀ k, C k → W.heap.size ≤ k) → Jx s B) →
    (∀ m pre x W1, ok x → J pre W1 → YieldAt Fence.wide m P l (encs x) W1 fun e W' =>
      (e = .returned (.bool true) ∧ J (pre ++ [x]) W' ∧ Chg (fun _ => False) W1 W') ∨ (e = .returned (.bool false) ∧ Jx (pre ++ [x]) W')) →
    J [] W →
    CallsIn Fence.wide n P g (#[.func (.yield l) #[] #[]] ++ lb) W fun e W' => (∃ v, e = .returned v) ∧ ((∃ xs, S xs ∧ J xs W') ∨ ∃ pre, Sp pre ∧ Jx pre W')

/-- how a round's body is left: off its end, with nothing turned; or by a return, with older blocks turned -/
def stopPost {α : Type} (B : Nat) (I Ix : List α → World → Prop) (xs : List α) (W : World) : Exit → Act → World → Prop
  | .normal, _, W' => I xs W' ∧ Chg (fun _ => False) W W'
  | .ret, _, W' => Ix xs W' ∧ Chg (fun k => k < B) W W'
  | _, _, _ => False

theorem wpIn_range_stop {α : Type} {n : Nat} {P : Program} {g : Operand} {ps : Array Tmp} {assign body : Code} {Q : Exit → Act → World → Prop} {a : Act} {w : World}
    {gf : Nat} {lb : Array Value} (hg : a.eval g = .func (.func gf) #[] lb) (eg : ∀ args w, (callFunc gf args).run P w = .ok (.enter gf args) w)
    {encs : α → Array Value} {ok : α → Prop} {S Sp : List α → Prop} (hseq : SeqStop P gf lb encs ok S Sp w) (hps : ∀ x, (encs x).size = ps.size)
    (I Ix : List α → World → Prop) (hI : ∀ s A B C, I s A → Chg C A B → (∀ k, C k → w.heap.size ≤ k) → I s B) (hIx : ∀ s A B C, Ix s A → Chg C A B → (∀ k, C k → w.heap.size ≤ k) → Ix s B) (h0 : I [] w)
    (a₁ : α → Act)
    (hassign : ∀ (l m : Nat) (x : α) (W : World) (K : Act → World → Prop), K (a₁ x) W →
      assign.wpIn (Fence.wide.inRound l) m P (Exit.then K (fun _ _ _ => False)) { tmps := (ps.zip (encs x)).foldl (fun t (p, v) => t.setIfInBounds p v) a.tmps, defers := [] } W)
    (hbody : ∀ (l m : Nat) (pre : List α) (x : α) (W : World), ok x → I pre W → body.wpIn (Fence.wide.inRound l) m P (stopPost w.heap.size I Ix (pre ++ [x]) W) (a₁ x) W)
    (hdone : ∀ (D : Nat) (xs : List α) (W : World), w.heap.size ≤ D → S xs → I xs W → W.heap[D]? = some (.deferred (some [])) → Q .normal { a with defers := { target := .collected D, args := #[] } :: a.defers } W)
    (hstop : ∀ (D : Nat) (pre : List α) (W : World), w.heap.size ≤ D → Sp pre → Ix pre W → W.heap[D]? = some (.deferred (some [])) → Code.ret.wpIn Fence.wide n P Q { a with defers := { target := .collected D, args := #[] } :: a.defers } W) :
    (Code.rangeFunc g ps assign body).wpIn Fence.wide n P Q a w := by
  refine wpIn_rangeFunc ?_
  intro fn hfn
  rw [show Fence.wide.round = none from rfl]
  obtain ⟨rc, hrc⟩ : ∃ rc : LoopState → Option Code → Loop, rc = fun st pe => { state := st, pending := pe, fn, tmps := a.tmps, params := ps, assign, body, defers := w.heap.size } := ⟨_, rfl⟩
  obtain ⟨V, hV⟩ : ∃ V, (w.alloc (.deferred (some []))).alloc (.loop (rc .ready none)) = V := ⟨_, rfl⟩
  have hVs : V.heap.size = w.heap.size + 2 := by rw [← hV]; simp
  have hVl : V.heap[w.heap.size + 1]? = some (.loop (rc .ready none)) := by
    rw [← hV]; have := World.alloc_heap_new (w.alloc (.deferred (some []))) (.loop (rc .ready none)); rwa [World.size_alloc] at this
  have hVd : V.heap[w.heap.size]? = some (.deferred (some [])) := by
    rw [← hV, Below.heap_alloc _ _ _ (by simp)]; exact World.alloc_heap_new w _
  have hcV : Chg (fun _ => False) w V := by rw [← hV]; exact (Chg.alloc _ _ _).trans (Chg.alloc _ _ _)
  have hIV : I [] V := hI _ _ _ _ h0 hcV (fun k h => h.elim)
  refine ⟨w.heap.size + 1, [{ target := .collected w.heap.size, args := #[] }], V, { target := .fn (.func gf) lb, args := #[.func (.yield (w.heap.size + 1)) #[] #[]] }, V, gf,
    #[.func (.yield (w.heap.size + 1)) #[] #[]] ++ lb, V, ?_, ?_, fun _ _ => trivial, ?_, fun h => by simp [Fence.wide] at h, ?_⟩
  · rw [← hV, hrc]; exact run_enterLoop_outer _ _ _ _ _
  · simp only [resolve, hg]
    simp [go_sem]
  · simp [invoke, go_sem, eg]
  · refine (hseq _ (w.heap.size + 1)
      (fun pre W => I pre W ∧ W.heap[w.heap.size + 1]? = some (.loop (rc .ready none)) ∧ W.heap[w.heap.size]? = some (.deferred (some [])))
      (fun pre W => Ix pre W ∧ W.heap[w.heap.size + 1]? = some (.loop (rc .done (some .ret))) ∧ W.heap[w.heap.size]? = some (.deferred (some [])))
      V (hcV.below (Nat.le_refl _) (fun k h => h.elim)) ?_ ?_ ?_ ⟨hIV, hVl, hVd⟩).mono ?_
    · rintro s A B C ⟨h1, h2, h3⟩ hc hC
      refine ⟨hI _ _ _ _ h1 hc (fun k hk => by have := hC k hk; omega), ?_, ?_⟩
      · rw [hc.block _ (Array.getElem?_eq_some_iff.1 h2).1 (fun h => by have := hC _ h; omega)]; exact h2
      · rw [hc.block _ (Array.getElem?_eq_some_iff.1 h3).1 (fun h => by have := hC _ h; omega)]; exact h3
    · rintro s A B C ⟨h1, h2, h3⟩ hc hC
      refine ⟨hIx _ _ _ _ h1 hc (fun k hk => by have := hC k hk; omega), ?_, ?_⟩
      · rw [hc.block _ (Array.getElem?_eq_some_iff.1 h2).1 (fun h => by have := hC _ h; omega)]; exact h2
      · rw [hc.block _ (Array.getElem?_eq_some_iff.1 h3).1 (fun h => by have := hC _ h; omega)]; exact h3
    · rintro m pre x W hok ⟨hi, hl, hd⟩
      have hlt : w.heap.size + 1 < W.heap.size := (Array.getElem?_eq_some_iff.1 hl).1
      have hy := run_yield (P := P) (args := encs x) hl (by rw [hrc]; exact hps x)
      rw [hrc] at hy
      refine ⟨fn, _, assign, body, hy, roundIn_of_wpIn hfn (hassign _ _ x W _ ?_)⟩
      refine ⟨_, run_beginRound hl (by rw [hrc]), ?_⟩
      obtain ⟨V2, hV2⟩ : ∃ V2, W.putObj (w.heap.size + 1) (.loop { rc .ready none with state := .busy }) = V2 := ⟨_, rfl⟩
      have hl2 : V2.heap[w.heap.size + 1]? = some (.loop (rc .busy none)) := by rw [← hV2, World.putObj_heap_same hlt, hrc]
      have hd2 : V2.heap[w.heap.size]? = some (.deferred (some [])) := by rw [← hV2, World.putObj_heap_other (by omega)]; exact hd
      have hc2 : Chg (fun k => k = w.heap.size + 1) W V2 := by rw [← hV2]; exact Chg.put _ _ _ rfl
      have hs2 : V2.heap.size = W.heap.size := by rw [← hV2]; simp
      rw [hV2]
      have hi2 := hI _ _ _ _ hi hc2 (fun k hk => by subst hk; omega)
      refine wpIn_mono (hbody _ _ pre x V2 hok hi2) ?_
      rintro e a3 W3 hp
      cases e with
      | normal =>
        obtain ⟨hi3, hc3⟩ := hp
        have hl3 : W3.heap[w.heap.size + 1]? = some (.loop (rc .busy none)) := by rw [hc3.block _ (by omega) (fun h => h)]; exact hl2
        have hd3 : W3.heap[w.heap.size]? = some (.deferred (some [])) := by rw [hc3.block _ (by omega) (fun h => h)]; exact hd2
        have hlt3 := (Array.getElem?_eq_some_iff.1 hl3).1
        have her : ({ rc .busy none with state := if (none : Option Code).isNone then .ready else .done, pending := none } : Loop) = rc .ready none := by rw [hrc]; rfl
        have hre := run_endRound (P := P) none hl3
        rw [her] at hre
        refine ⟨_, _, hre, .inl ⟨rfl, ⟨hI _ _ _ (fun k => k = w.heap.size + 1) hi3 (Chg.put _ _ _ rfl) (fun k hk => by subst hk; omega), World.putObj_heap_same hlt3, by rw [World.putObj_heap_other (by omega)]; exact hd3⟩, ?_⟩⟩
        refine ⟨hc3.os.trans hc2.os, hc3.tape.trans hc2.tape, hc3.output.trans hc2.output, by rw [World.putObj_size]; have := hc3.size; omega, fun k hk hn => ?_⟩
        by_cases e : k = w.heap.size + 1
        · subst e; rw [World.putObj_heap_same hlt3]; exact hl.symm
        · rw [World.putObj_heap_other e, hc3.block k (by omega) (fun h => h), hc2.block k (by omega) e]
      | ret =>
        obtain ⟨hi3, hc3⟩ := hp
        have hl3 : W3.heap[w.heap.size + 1]? = some (.loop (rc .busy none)) := by rw [hc3.block _ (by omega) (fun h => by omega)]; exact hl2
        have hd3 : W3.heap[w.heap.size]? = some (.deferred (some [])) := by rw [hc3.block _ (by omega) (fun h => by omega)]; exact hd2
        have hlt3 := (Array.getElem?_eq_some_iff.1 hl3).1
        have her : ({ rc .busy none with state := if (some Code.ret).isNone then .ready else .done, pending := some Code.ret } : Loop) = rc .done (some .ret) := by rw [hrc]; rfl
        have hre := run_endRound (P := P) (some .ret) hl3
        rw [her] at hre
        exact ⟨_, _, hre, .inr ⟨rfl, hIx _ _ _ (fun k => k = w.heap.size + 1) hi3 (Chg.put _ _ _ rfl) (fun k hk => by subst hk; omega), World.putObj_heap_same hlt3, by rw [World.putObj_heap_other (by omega)]; exact hd3⟩⟩
      | exit id => exact hp.elim
      | goto t => exact hp.elim
      | panic ch => exact hp.elim
      | outgrown => exact hp.elim
    · rintro e W2 ⟨⟨v, rfl⟩, (⟨xs, hS, hi, hl, hd⟩ | ⟨pre, hSp, hi, hl, hd⟩)⟩
      · have hre := run_endLoop (P := P) hl (by rw [hrc]; simp)
        rw [show (rc .ready none).pending = none by rw [hrc]] at hre
        refine ⟨none, _, hre, hdone _ xs _ (Nat.le_refl _) hS (hI _ _ _ (fun k => k = w.heap.size + 1) hi (Chg.put _ _ _ rfl) (fun k hk => by subst hk; omega)) ?_⟩
        rw [World.putObj_heap_other (by omega)]; exact hd
      · have hre := run_endLoop (P := P) hl (by rw [hrc]; simp)
        rw [show (rc .done (some .ret)).pending = some .ret by rw [hrc]] at hre
        refine ⟨some .ret, _, hre, hstop _ pre _ (Nat.le_refl _) hSp (hIx _ _ _ (fun k => k = w.heap.size + 1) hi (Chg.put _ _ _ rfl) (fun k hk => by subst hk; omega)) ?_⟩
        rw [World.putObj_heap_other (by omega)]; exact hd

end Go.Proofs.Ytgbnhngaeefmkaa
