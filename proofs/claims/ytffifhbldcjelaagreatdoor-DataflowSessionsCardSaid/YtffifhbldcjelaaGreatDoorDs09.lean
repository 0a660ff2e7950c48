/-
  A range over a function, with ownership: the caller names the blocks that are its own; the body turns those alone, and new ones; the iterator turns new ones of its own. A range over an iterator that gives its elements in an order of its own, with ownership. Maps as their entries lie, inside a fence.
-/
import Derived.RangeFuncNested
import Derived.RangeFuncLeaves
import Derived.Shelf.Abstract
import Derived.WalkKit
import Derived.OwnWalkIn
import Derived.TacticsInMore
import Derived.LoopNIn
import Derived.LoopIn
import Derived.Maps.OwnIn
import Derived.Lib.Hide
import Derived.Test.YtffifhbldcjelaaGreatDoorDs02

/-
  A range over a function, with ownership: the caller names the blocks that are its own; the body turns those alone, and new ones; the iterator turns new ones of its own.
-/
namespace Go.Proofs.YtffifhbldcjelaaGreatDoor
set_option linter.unusedVariables false
open Go.RowKit

/-- W' is W but for new blocks and the blocks that C names -/
structure Chg (C : Nat → Prop) (W W' : World) : Prop where
  os : W'.os = W.os
  tape : W'.tape = W.tape
  output : W'.output = W.output
  size : W.heap.size ≤ W'.heap.size
  block : ∀ k, k < W.heap.size → ¬ C k → W'.heap[k]? = W.heap[k]?

theorem Chg.refl (C : Nat → Prop) (W : World) : Chg C W W := ⟨rfl, rfl, rfl, Nat.le_refl _, fun _ _ _ => rfl⟩
theorem Chg.mono {C C' : Nat → Prop} {W W' : World} (h : Chg C W W') (hc : ∀ k, k < W.heap.size → C k → C' k) : Chg C' W W' := ⟨h.os, h.tape, h.output, h.size, fun k hk hn => h.block k hk (fun c => hn (hc k hk c))⟩
theorem Chg.trans {C : Nat → Prop} {X Y Z : World} (h : Chg C X Y) (h2 : Chg (fun k => C k ∨ X.heap.size ≤ k) Y Z) : Chg C X Z :=
  ⟨h2.os.trans h.os, h2.tape.trans h.tape, h2.output.trans h.output, Nat.le_trans h.size h2.size, fun k hk hn => (h2.block k (Nat.lt_of_lt_of_le hk h.size) (fun c => by rcases c with c | c; exact hn c; omega)).trans (h.block k hk hn)⟩
theorem Chg.alloc (C : Nat → Prop) (W : World) (o : Obj) : Chg C W (W.alloc o) := ⟨rfl, rfl, rfl, by simp, fun k hk _ => Below.heap_alloc W o k hk⟩
theorem Chg.drew (C : Nat → Prop) (W : World) : Chg C W W.drew := ⟨rfl, rfl, rfl, Nat.le_refl _, fun _ _ _ => rfl⟩
theorem Chg.grown {C : Nat → Prop} {W W' : World} {row : Option Nat} (h : W.grownBy W' row) (hc : ∀ k, row = some k → C k) : Chg C W W' := ⟨h.os, h.tape, h.output, h.size, fun k hk hn => h.block k hk (fun e => hn (hc k e.symm))⟩
theorem Chg.of_below {C : Nat → Prop} {B : Nat} {W W' : World} (h : Below B W W') (hc : ∀ k, B ≤ k → k < W.heap.size → C k) : Chg C W W' :=
  ⟨h.os, h.tape, h.output, h.size, fun k hk hn => h.block k (by rcases Nat.lt_or_ge k B with h1 | h1; exact h1; exact absurd (hc k h1 hk) hn)⟩
theorem Chg.below {C : Nat → Prop} {B : Nat} {W W' : World} (h : Chg C W W') (hB : B ≤ W.heap.size) (hc : ∀ k, C k → B ≤ k) : Below B W W' :=
  ⟨h.os, h.tape, h.output, h.size, fun k hk => h.block k (by omega) (fun c => by have := hc k c; omega)⟩
theorem Chg.put {C : Nat → Prop} (W : World) (l : Nat) (o : Obj) (hc : C l) : Chg C W (W.putObj l o) := Chg.grown (grownBy_putObj' W l o) (fun k e => by cases e; exact hc)
theorem Chg.cell {C : Nat → Prop} {W W' : World} (h : Chg C W W') {p : Addr} {v : Value} (hv : W.cell? p = some v) (hn : ¬ C p.block) : W'.cell? p = some v := by
  rw [World.cell?_of_block (w := W) (h.block p.block (World.block_lt_of_cell? _ _ hv) hn)]; exact hv

/-- a call inside the wide fence, by a plain contract -/
theorem wide_call {n : Nat} {P : Program} {f : FuncId} {args : Array Value} {w : World} {R R' : Ending → World → Prop} (h : Calls P f args w R) (hR : ∀ e w', R e w' → R' e w') : Fence.wide.fn f ∧ (Fence.wide.depth.isSome = true → 1 ≤ n) ∧ CallsIn Fence.wide (n - 1) P f args w R' :=
  ⟨trivial, fun h => absurd h (by simp [Fence.wide]), (callsIn_wide.2 h).mono hR⟩
theorem wide_callR {l n : Nat} {P : Program} {f : FuncId} {args : Array Value} {w : World} {R R' : Ending → World → Prop} (h : Calls P f args w R) (hR : ∀ e w', R e w' → R' e w') : (Fence.wide.inRound l).fn f ∧ ((Fence.wide.inRound l).depth.isSome = true → 1 ≤ n) ∧ CallsIn (Fence.wide.inRound l) (n - 1) P f args w R' :=
  ⟨trivial, fun h => absurd h (by simp [Fence.wide, Fence.inRound]), ((callsIn_wide.2 h).inRound l).mono hR⟩

/-- an iterator that gives xs, whatever the caller's own blocks hold: X: what it reads between two rounds -/
def SeqAll {α : Type} (n : Nat) (P : Program) (g : Nat) (lb : Array Value) (encs : α → Array Value) (X : Nat → Prop) (xs : List α) (w : World) : Prop :=
  ∀ (l : Nat) (J : List α → (Nat → Prop) → World → Prop) (O : Nat → Prop) (W : World), Below w.heap.size w W → (∀ k, O k → k < w.heap.size ∧ ¬ X k) →
    (∀ s O A B C, J s O A → Chg C A B → (∀ k, C k → W.heap.size ≤ k ∧ ¬ O k) → J s O B) →
    (∀ pre x rest O1 W1, xs = pre ++ x :: rest → J pre O1 W1 → YieldAt Fence.wide (n - 1) P l (encs x) W1 fun e W' =>
      e = .returned (.bool true) ∧ ∃ O2, J (pre ++ [x]) O2 W' ∧ Chg O1 W1 W' ∧ ∀ k, O2 k → O1 k ∨ W1.heap.size ≤ k) →
    J [] O W →
    CallsIn Fence.wide n P g (#[.func (.yield l) #[] #[]] ++ lb) W fun e W' => (∃ v, e = .returned v) ∧ ∃ O', J xs O' W'

/-- how a round's body is left: off its end -/
def roundEnd {α : Type} (I : List α → (Nat → Prop) → World → Prop) (xs : List α) (O : Nat → Prop) (W : World) : Exit → Act → World → Prop
  | .normal, _, W' => ∃ O', I xs O' W' ∧ Chg O W W' ∧ ∀ k, O' k → O k ∨ W.heap.size ≤ k
  | _, _, _ => False

/-- the statement 'for .. := range g': the body is walked once, at the next element of xs -/
theorem wpIn_range_all {α : Type} {n : Nat} {P : Program} {g : Operand} {ps : Array Tmp} {assign body : Code} {Q : Exit → Act → World → Prop} {a : Act} {w : World}
    {gf : Nat} {lb : Array Value} (hg : a.eval g = .func (.func gf) #[] lb) (eg : ∀ args w, (callFunc gf args).run P w = .ok (.enter gf args) w)
    {encs : α → Array Value} {X : Nat → Prop} {xs : List α} (hseq : SeqAll (n - 1) P gf lb encs X xs w) (hps : ∀ x, (encs x).size = ps.size)
    (I : List α → (Nat → Prop) → World → Prop) (O0 : Nat → Prop) (hO0 : ∀ k, O0 k → k < w.heap.size ∧ ¬ X k)
    (hI : ∀ s O A B C, I s O A → Chg C A B → (∀ k, C k → w.heap.size ≤ k ∧ ¬ O k) → I s O B) (h0 : I [] O0 w)
    (M : List α → α → Act → (Nat → Prop) → World → Prop) (hM : ∀ s x a' O A B C, M s x a' O A → Chg C A B → (∀ k, C k → w.heap.size ≤ k ∧ ¬ O k) → M s x a' O B)
    (hassign : ∀ (l : Nat) (pre : List α) (x : α) (rest : List α) (O : Nat → Prop) (W : World) (K : Act → World → Prop), xs = pre ++ x :: rest → I pre O W → (∀ a' O' W', M pre x a' O' W' → Chg O W W' → (∀ k, O' k → O k ∨ W.heap.size ≤ k) → K a' W') →
      assign.wpIn (Fence.wide.inRound l) (n - 1 - 1) P (Exit.then K (fun _ _ _ => False)) { tmps := (ps.zip (encs x)).foldl (fun t (p, v) => t.setIfInBounds p v) a.tmps, defers := [] } W)
    (hbody : ∀ (l : Nat) (pre : List α) (x : α) (rest : List α) (a' : Act) (O : Nat → Prop) (W : World), xs = pre ++ x :: rest → M pre x a' O W → body.wpIn (Fence.wide.inRound l) (n - 1 - 1) P (roundEnd I (pre ++ [x]) O W) a' W)
    (hdone : ∀ (D : Nat) (O : Nat → Prop) (W : World), w.heap.size ≤ D → ¬ O D → I xs O W → W.heap[D]? = some (.deferred (some [])) → Q .normal { a with defers := { target := .collected D, args := #[] } :: a.defers } W) :
    (Code.rangeFunc g ps assign body).wpIn Fence.wide n P Q a w := by
  refine wpIn_rangeFunc ?_
  intro fn hfn
  rw [show Fence.wide.round = none from rfl]
  obtain ⟨rc, hrc⟩ : ∃ rc : LoopState → Loop, rc = fun st => { state := st, pending := none, fn, tmps := a.tmps, params := ps, assign, body, defers := w.heap.size } := ⟨_, rfl⟩
  obtain ⟨V, hV⟩ : ∃ V, (w.alloc (.deferred (some []))).alloc (.loop (rc .ready)) = V := ⟨_, rfl⟩
  have hVs : V.heap.size = w.heap.size + 2 := by rw [← hV]; simp
  have hVl : V.heap[w.heap.size + 1]? = some (.loop (rc .ready)) := by
    rw [← hV]; have := World.alloc_heap_new (w.alloc (.deferred (some []))) (.loop (rc .ready)); rwa [World.size_alloc] at this
  have hVd : V.heap[w.heap.size]? = some (.deferred (some [])) := by
    rw [← hV, Below.heap_alloc _ _ _ (by simp)]; exact World.alloc_heap_new w _
  have hcV : Chg (fun _ => False) w V := by rw [← hV]; exact (Chg.alloc _ _ _).trans (Chg.alloc _ _ _)
  have hIV : I [] O0 V := hI _ _ _ _ _ h0 hcV (fun k h => h.elim)
  refine ⟨w.heap.size + 1, [{ target := .collected w.heap.size, args := #[] }], V, { target := .fn (.func gf) lb, args := #[.func (.yield (w.heap.size + 1)) #[] #[]] }, V, gf,
    #[.func (.yield (w.heap.size + 1)) #[] #[]] ++ lb, V, ?_, ?_, fun _ _ => trivial, ?_, fun h => by simp [Fence.wide] at h, ?_⟩
  · rw [← hV, hrc]; exact run_enterLoop_outer _ _ _ _ _
  · simp only [resolve, hg]
    simp [go_sem]
  · simp [invoke, go_sem, eg]
  · refine (hseq (w.heap.size + 1)
      (fun pre O W => I pre O W ∧ W.heap[w.heap.size + 1]? = some (.loop (rc .ready)) ∧ W.heap[w.heap.size]? = some (.deferred (some [])) ∧ ¬ O (w.heap.size + 1) ∧ ¬ O w.heap.size)
      O0 V (hcV.below (Nat.le_refl _) (fun k h => h.elim)) hO0 ?_ ?_ ⟨hIV, hVl, hVd, fun h => by have := (hO0 _ h).1; omega, fun h => by have := (hO0 _ h).1; omega⟩).mono ?_
    · rintro s O A B C ⟨h1, h2, h3, h4, h5⟩ hc hC
      refine ⟨hI _ _ _ _ _ h1 hc (fun k hk => ⟨by have := (hC k hk).1; omega, (hC k hk).2⟩), ?_, ?_, h4, h5⟩
      · rw [hc.block _ (Array.getElem?_eq_some_iff.1 h2).1 (fun h => by have := (hC _ h).1; omega)]; exact h2
      · rw [hc.block _ (Array.getElem?_eq_some_iff.1 h3).1 (fun h => by have := (hC _ h).1; omega)]; exact h3
    · rintro pre x rest O W hxs ⟨hi, hl, hd, nl, nd⟩
      have hlt : w.heap.size + 1 < W.heap.size := (Array.getElem?_eq_some_iff.1 hl).1
      have hy := run_yield (P := P) (args := encs x) hl (by rw [hrc]; exact hps x)
      rw [hrc] at hy
      refine ⟨fn, _, assign, body, hy, roundIn_of_wpIn hfn (hassign _ pre x rest O W _ hxs hi ?_)⟩
      intro a' Oa Wa hm hca hoa
      have hla : Wa.heap[w.heap.size + 1]? = some (.loop (rc .ready)) := by rw [hca.block _ hlt nl]; exact hl
      have hda : Wa.heap[w.heap.size]? = some (.deferred (some [])) := by rw [hca.block _ (by omega) nd]; exact hd
      have hlta := (Array.getElem?_eq_some_iff.1 hla).1
      have nla : ¬ Oa (w.heap.size + 1) := fun h => by rcases hoa _ h with h | h; exact nl h; omega
      have nda : ¬ Oa w.heap.size := fun h => by rcases hoa _ h with h | h; exact nd h; omega
      refine ⟨_, run_beginRound hla (by rw [hrc]), ?_⟩
      obtain ⟨V2, hV2⟩ : ∃ V2, Wa.putObj (w.heap.size + 1) (.loop { rc .ready with state := .busy }) = V2 := ⟨_, rfl⟩
      have hl2 : V2.heap[w.heap.size + 1]? = some (.loop (rc .busy)) := by rw [← hV2, World.putObj_heap_same hlta, hrc]
      have hd2 : V2.heap[w.heap.size]? = some (.deferred (some [])) := by rw [← hV2, World.putObj_heap_other (by omega)]; exact hda
      have hc2 : Chg (fun k => k = w.heap.size + 1) Wa V2 := by rw [← hV2]; exact Chg.put _ _ _ rfl
      have hs2 : V2.heap.size = Wa.heap.size := by rw [← hV2]; simp
      rw [hV2]
      have hm2 := hM _ _ _ _ _ _ _ hm hc2 (fun k hk => by subst hk; exact ⟨by omega, nla⟩)
      refine wpIn_mono (hbody _ pre x rest a' Oa V2 hxs hm2) ?_
      rintro e a3 W3 hp
      have hsa := hca.size
      cases e with
      | normal =>
        obtain ⟨O', hi3, hc3, ho3⟩ := hp
        have hl3 : W3.heap[w.heap.size + 1]? = some (.loop (rc .busy)) := by rw [hc3.block _ (by omega) nla]; exact hl2
        have hd3 : W3.heap[w.heap.size]? = some (.deferred (some [])) := by rw [hc3.block _ (by omega) nda]; exact hd2
        have hlt3 := (Array.getElem?_eq_some_iff.1 hl3).1
        have nl' : ¬ O' (w.heap.size + 1) := fun h => by rcases ho3 _ h with h | h; exact nla h; omega
        have nd' : ¬ O' w.heap.size := fun h => by rcases ho3 _ h with h | h; exact nda h; omega
        have her : ({ rc .busy with state := if (none : Option Code).isNone then .ready else .done, pending := none } : Loop) = rc .ready := by rw [hrc]; rfl
        have hre := run_endRound (P := P) none hl3
        rw [her] at hre
        refine ⟨_, _, hre, rfl, O', ⟨hI _ _ _ _ (fun k => k = w.heap.size + 1) hi3 (Chg.put _ _ _ rfl) (fun k hk => by subst hk; exact ⟨by omega, nl'⟩), World.putObj_heap_same hlt3, by rw [World.putObj_heap_other (by omega)]; exact hd3, nl', nd'⟩, ?_, fun k hk => ?_⟩
        · refine ⟨hc3.os.trans (hc2.os.trans hca.os), hc3.tape.trans (hc2.tape.trans hca.tape), hc3.output.trans (hc2.output.trans hca.output), by rw [World.putObj_size]; have := hc3.size; omega, fun k hk hn => ?_⟩
          by_cases e : k = w.heap.size + 1
          · subst e; rw [World.putObj_heap_same hlt3]; exact hl.symm
          · rw [World.putObj_heap_other e, hc3.block k (by omega) (fun h => by rcases hoa k h with h | h; exact hn h; omega), hc2.block k (by omega) e, hca.block k hk hn]
        · rcases ho3 k hk with h | h
          · exact hoa k h
          · exact .inr (by omega)
      | ret => exact hp.elim
      | exit id => exact hp.elim
      | goto t => exact hp.elim
      | panic ch => exact hp.elim
      | outgrown => exact hp.elim
    · rintro e W2 ⟨⟨v, rfl⟩, O', hi, hl, hd, nl, nd⟩
      have hre := run_endLoop (P := P) hl (by rw [hrc]; simp)
      rw [show (rc .ready).pending = none by rw [hrc]] at hre
      refine ⟨none, _, hre, hdone _ O' _ (Nat.le_refl _) nd (hI _ _ _ _ (fun k => k = w.heap.size + 1) hi (Chg.put _ _ _ rfl) (fun k hk => by subst hk; exact ⟨by omega, nl⟩)) ?_⟩
      rw [World.putObj_heap_other (by omega)]; exact hd

end Go.Proofs.YtffifhbldcjelaaGreatDoor

/-! A range over an iterator that gives its elements in an order of its own, with ownership. -/
namespace Go.Proofs.YtffifhbldcjelaaGreatDoor
set_option linter.unusedVariables false
open Go.RowKit

/-- an iterator that gives elements in an order of its own, S of them all; X: what it reads between two rounds -/
def SeqOwn {α : Type} (n : Nat) (P : Program) (g : Nat) (lb : Array Value) (encs : α → Array Value) (ok : List α → α → Prop) (X : Nat → Prop) (S : List α → Prop) (w : World) : Prop :=
  ∀ (l : Nat) (J : List α → (Nat → Prop) → World → Prop) (O : Nat → Prop) (W : World), Below w.heap.size w W → (∀ k, O k → k < w.heap.size ∧ ¬ X k) →
    (∀ s O A B C, J s O A → Chg C A B → (∀ k, C k → W.heap.size ≤ k ∧ ¬ O k) → J s O B) →
    (∀ pre x O1 W1, ok pre x → J pre O1 W1 → YieldAt Fence.wide (n - 1) P l (encs x) W1 fun e W' =>
      e = .returned (.bool true) ∧ ∃ O2, J (pre ++ [x]) O2 W' ∧ Chg O1 W1 W' ∧ ∀ k, O2 k → O1 k ∨ W1.heap.size ≤ k) →
    J [] O W →
    CallsIn Fence.wide n P g (#[.func (.yield l) #[] #[]] ++ lb) W fun e W' => (∃ v, e = .returned v) ∧ ∃ xs O', S xs ∧ J xs O' W'

/-- the statement 'for .. := range g': the body is walked once, at the next element of xs -/
theorem wpIn_range_own {α : Type} {n : Nat} {P : Program} {g : Operand} {ps : Array Tmp} {assign body : Code} {Q : Exit → Act → World → Prop} {a : Act} {w : World}
    {gf : Nat} {lb : Array Value} (hg : a.eval g = .func (.func gf) #[] lb) (eg : ∀ args w, (callFunc gf args).run P w = .ok (.enter gf args) w)
    {encs : α → Array Value} {ok : List α → α → Prop} {X : Nat → Prop} {S : List α → Prop} (hseq : SeqOwn (n - 1) P gf lb encs ok X S w) (hps : ∀ x, (encs x).size = ps.size)
    (I : List α → (Nat → Prop) → World → Prop) (O0 : Nat → Prop) (hO0 : ∀ k, O0 k → k < w.heap.size ∧ ¬ X k)
    (hI : ∀ s O A B C, I s O A → Chg C A B → (∀ k, C k → w.heap.size ≤ k ∧ ¬ O k) → I s O B) (h0 : I [] O0 w)
    (M : List α → α → Act → (Nat → Prop) → World → Prop) (hM : ∀ s x a' O A B C, M s x a' O A → Chg C A B → (∀ k, C k → w.heap.size ≤ k ∧ ¬ O k) → M s x a' O B)
    (hassign : ∀ (l : Nat) (pre : List α) (x : α) (O : Nat → Prop) (W : World) (K : Act → World → Prop), ok pre x → I pre O W → (∀ a' O' W', M pre x a' O' W' → Chg O W W' → (∀ k, O' k → O k ∨ W.heap.size ≤ k) → K a' W') →
      assign.wpIn (Fence.wide.inRound l) (n - 1 - 1) P (Exit.then K (fun _ _ _ => False)) { tmps := (ps.zip (encs x)).foldl (fun t (p, v) => t.setIfInBounds p v) a.tmps, defers := [] } W)
    (hbody : ∀ (l : Nat) (pre : List α) (x : α) (a' : Act) (O : Nat → Prop) (W : World), ok pre x → M pre x a' O W → body.wpIn (Fence.wide.inRound l) (n - 1 - 1) P (roundEnd I (pre ++ [x]) O W) a' W)
    (hdone : ∀ (D : Nat) (xs : List α) (O : Nat → Prop) (W : World), w.heap.size ≤ D → ¬ O D → S xs → I xs O W → W.heap[D]? = some (.deferred (some [])) → Q .normal { a with defers := { target := .collected D, args := #[] } :: a.defers } W) :
    (Code.rangeFunc g ps assign body).wpIn Fence.wide n P Q a w := by
  refine wpIn_rangeFunc ?_
  intro fn hfn
  rw [show Fence.wide.round = none from rfl]
  obtain ⟨rc, hrc⟩ : ∃ rc : LoopState → Loop, rc = fun st => { state := st, pending := none, fn, tmps := a.tmps, params := ps, assign, body, defers := w.heap.size } := ⟨_, rfl⟩
  obtain ⟨V, hV⟩ : ∃ V, (w.alloc (.deferred (some []))).alloc (.loop (rc .ready)) = V := ⟨_, rfl⟩
  have hVs : V.heap.size = w.heap.size + 2 := by rw [← hV]; simp
  have hVl : V.heap[w.heap.size + 1]? = some (.loop (rc .ready)) := by
    rw [← hV]; have := World.alloc_heap_new (w.alloc (.deferred (some []))) (.loop (rc .ready)); rwa [World.size_alloc] at this
  have hVd : V.heap[w.heap.size]? = some (.deferred (some [])) := by
    rw [← hV, Below.heap_alloc _ _ _ (by simp)]; exact World.alloc_heap_new w _
  have hcV : Chg (fun _ => False) w V := by rw [← hV]; exact (Chg.alloc _ _ _).trans (Chg.alloc _ _ _)
  have hIV : I [] O0 V := hI _ _ _ _ _ h0 hcV (fun k h => h.elim)
  refine ⟨w.heap.size + 1, [{ target := .collected w.heap.size, args := #[] }], V, { target := .fn (.func gf) lb, args := #[.func (.yield (w.heap.size + 1)) #[] #[]] }, V, gf,
    #[.func (.yield (w.heap.size + 1)) #[] #[]] ++ lb, V, ?_, ?_, fun _ _ => trivial, ?_, fun h => by simp [Fence.wide] at h, ?_⟩
  · rw [← hV, hrc]; exact run_enterLoop_outer _ _ _ _ _
  · simp only [resolve, hg]
    simp [go_sem]
  · simp [invoke, go_sem, eg]
  · refine (hseq (w.heap.size + 1)
      (fun pre O W => I pre O W ∧ W.heap[w.heap.size + 1]? = some (.loop (rc .ready)) ∧ W.heap[w.heap.size]? = some (.deferred (some [])) ∧ ¬ O (w.heap.size + 1) ∧ ¬ O w.heap.size)
      O0 V (hcV.below (Nat.le_refl _) (fun k h => h.elim)) hO0 ?_ ?_ ⟨hIV, hVl, hVd, fun h => by have := (hO0 _ h).1; omega, fun h => by have := (hO0 _ h).1; omega⟩).mono ?_
    · rintro s O A B C ⟨h1, h2, h3, h4, h5⟩ hc hC
      refine ⟨hI _ _ _ _ _ h1 hc (fun k hk => ⟨by have := (hC k hk).1; omega, (hC k hk).2⟩), ?_, ?_, h4, h5⟩
      · rw [hc.block _ (Array.getElem?_eq_some_iff.1 h2).1 (fun h => by have := (hC _ h).1; omega)]; exact h2
      · rw [hc.block _ (Array.getElem?_eq_some_iff.1 h3).1 (fun h => by have := (hC _ h).1; omega)]; exact h3
    · rintro pre x O W hok ⟨hi, hl, hd, nl, nd⟩
      have hlt : w.heap.size + 1 < W.heap.size := (Array.getElem?_eq_some_iff.1 hl).1
      have hy := run_yield (P := P) (args := encs x) hl (by rw [hrc]; exact hps x)
      rw [hrc] at hy
      refine ⟨fn, _, assign, body, hy, roundIn_of_wpIn hfn (hassign _ pre x O W _ hok hi ?_)⟩
      intro a' Oa Wa hm hca hoa
      have hla : Wa.heap[w.heap.size + 1]? = some (.loop (rc .ready)) := by rw [hca.block _ hlt nl]; exact hl
      have hda : Wa.heap[w.heap.size]? = some (.deferred (some [])) := by rw [hca.block _ (by omega) nd]; exact hd
      have hlta := (Array.getElem?_eq_some_iff.1 hla).1
      have nla : ¬ Oa (w.heap.size + 1) := fun h => by rcases hoa _ h with h | h; exact nl h; omega
      have nda : ¬ Oa w.heap.size := fun h => by rcases hoa _ h with h | h; exact nd h; omega
      refine ⟨_, run_beginRound hla (by rw [hrc]), ?_⟩
      obtain ⟨V2, hV2⟩ : ∃ V2, Wa.putObj (w.heap.size + 1) (.loop { rc .ready with state := .busy }) = V2 := ⟨_, rfl⟩
      have hl2 : V2.heap[w.heap.size + 1]? = some (.loop (rc .busy)) := by rw [← hV2, World.putObj_heap_same hlta, hrc]
      have hd2 : V2.heap[w.heap.size]? = some (.deferred (some [])) := by rw [← hV2, World.putObj_heap_other (by omega)]; exact hda
      have hc2 : Chg (fun k => k = w.heap.size + 1) Wa V2 := by rw [← hV2]; exact Chg.put _ _ _ rfl
      have hs2 : V2.heap.size = Wa.heap.size := by rw [← hV2]; simp
      rw [hV2]
      have hm2 := hM _ _ _ _ _ _ _ hm hc2 (fun k hk => by subst hk; exact ⟨by omega, nla⟩)
      refine wpIn_mono (hbody _ pre x a' Oa V2 hok hm2) ?_
      rintro e a3 W3 hp
      have hsa := hca.size
      cases e with
      | normal =>
        obtain ⟨O', hi3, hc3, ho3⟩ := hp
        have hl3 : W3.heap[w.heap.size + 1]? = some (.loop (rc .busy)) := by rw [hc3.block _ (by omega) nla]; exact hl2
        have hd3 : W3.heap[w.heap.size]? = some (.deferred (some [])) := by rw [hc3.block _ (by omega) nda]; exact hd2
        have hlt3 := (Array.getElem?_eq_some_iff.1 hl3).1
        have nl' : ¬ O' (w.heap.size + 1) := fun h => by rcases ho3 _ h with h | h; exact nla h; omega
        have nd' : ¬ O' w.heap.size := fun h => by rcases ho3 _ h with h | h; exact nda h; omega
        have her : ({ rc .busy with state := if (none : Option Code).isNone then .ready else .done, pending := none } : Loop) = rc .ready := by rw [hrc]; rfl
        have hre := run_endRound (P := P) none hl3
        rw [her] at hre
        refine ⟨_, _, hre, rfl, O', ⟨hI _ _ _ _ (fun k => k = w.heap.size + 1) hi3 (Chg.put _ _ _ rfl) (fun k hk => by subst hk; exact ⟨by omega, nl'⟩), World.putObj_heap_same hlt3, by rw [World.putObj_heap_other (by omega)]; exact hd3, nl', nd'⟩, ?_, fun k hk => ?_⟩
        · refine ⟨hc3.os.trans (hc2.os.trans hca.os), hc3.tape.trans (hc2.tape.trans hca.tape), hc3.output.trans (hc2.output.trans hca.output), by rw [World.putObj_size]; have := hc3.size; omega, fun k hk hn => ?_⟩
          by_cases e : k = w.heap.size + 1
          · subst e; rw [World.putObj_heap_same hlt3]; exact hl.symm
          · rw [World.putObj_heap_other e, hc3.block k (by omega) (fun h => by rcases hoa k h with h | h; exact hn h; omega), hc2.block k (by omega) e, hca.block k hk hn]
        · rcases ho3 k hk with h | h
          · exact hoa k h
          · exact .inr (by omega)
      | ret => exact hp.elim
      | exit id => exact hp.elim
      | goto t => exact hp.elim
      | panic ch => exact hp.elim
      | outgrown => exact hp.elim
    · rintro e W2 ⟨⟨v, rfl⟩, xs, O', hS, hi, hl, hd, nl, nd⟩
      have hre := run_endLoop (P := P) hl (by rw [hrc]; simp)
      rw [show (rc .ready).pending = none by rw [hrc]] at hre
      refine ⟨none, _, hre, hdone _ xs O' _ (Nat.le_refl _) nd hS (hI _ _ _ _ (fun k => k = w.heap.size + 1) hi (Chg.put _ _ _ rfl) (fun k hk => by subst hk; exact ⟨by omega, nl⟩)) ?_⟩
      rw [World.putObj_heap_other (by omega)]; exact hd

end Go.Proofs.YtffifhbldcjelaaGreatDoor

/-! Maps as their entries lie, inside a fence. -/
namespace Go.Proofs.YtffifhbldcjelaaGreatDoor
set_option linter.unusedVariables false
set_option linter.unusedSimpArgs false

section
variable {F : Fence} {nF : Nat} {P : Program} (w : World) {ops : Array Oper} {rest : List Oper} {o : Oper} {a : Act} {Q : Exit → Act → World → Prop}

theorem wpListIn_next_raw (hg : o.guard = none) (it : Operand) (hop : o.op = Op.next it false) (b r : Nat) (L left : List (Value × Value))
    (hit : a.eval it = .pointer (some ⟨r, 0, none⟩)) (h : RawRange w b r L left)
    (hDone : left = [] → wpListIn F nF P ops Q rest (a.put o.dst (.tuple #[.bool false])) w)
    (hMore : ∀ k v pre post w', left = pre ++ (k, v) :: post → (k, v) ∈ L → RawRange w' b r L (pre ++ post) → w.grownBy w' (some r) → w'.heap.size = w.heap.size → (Instr.entry (.pointer (some ⟨r, 0, none⟩))).run P w' = .ok (.tuple #[k, v]) w' → wpListIn F nF P ops Q rest (a.put o.dst (.tuple #[.bool true, k, v])) w') :
    wpListIn F nF P ops Q (o :: rest) a w := by
  refine wpListIn_plain hg fun K' hK' => ?_
  unfold Oper.wpIn
  refine ⟨by simp [Oper.about, hop], ?_⟩
  rw [Oper.semAt_plain F _ _ (by rw [hop]; intro c hc'; cases hc')]
  rcases h.next (P := P) o.type with ⟨h0, hrun⟩ | ⟨k, v, pre, post, w', hl, hm, hrun, hrg, hgr, hsz, hen⟩
  · simp [execOp, hop, hit, hrun, Result.andThen]
    exact hK' _ _ (hDone h0)
  · simp [execOp, hop, hit, hrun, Result.andThen]
    exact hK' _ _ (hMore k v pre post w' hl hm hrg hgr hsz hen)

theorem wpListIn_mapUpdate_raw (hg : o.guard = none) (m x v : Operand) (t : TypeId) (hop : o.op = Op.mapUpdate t m x v) (k e : TypeId) (ht : P.underlying t = some (.map k e)) {good : World → Value → Prop} (R : RawKey P k good) (b : Nat) (L : List (Value × Value)) (hm : a.eval m = .map (some b)) (h : RawMap w b L) (hgd : KeysGood good w L)
    (key val : Value) (hx : a.eval x = key) (hv : a.eval v = val) (hkey : good w key)
    (hK : ∀ ob, RawMap (w.putObj b ob) b (putV key val L) → wpListIn F nF P ops Q rest (a.put o.dst undef) (w.putObj b ob)) : wpListIn F nF P ops Q (o :: rest) a w := by
  refine wpListIn_plain hg fun K' hK' => ?_
  obtain ⟨ob, hrun, hr⟩ := h.update R ht hgd hkey val
  unfold Oper.wpIn
  refine ⟨by simp [Oper.about, hop], ?_⟩
  rw [Oper.semAt_plain F _ _ (by rw [hop]; intro c hc'; cases hc')]
  simp [execOp, hop, hm, hx, hv, hrun, Result.andThen]
  exact hK' _ _ (hK ob (hr _ (World.putObj_heap_same h.lt)))

theorem wpListIn_range_raw (hg : o.guard = none) (m : Operand) (t : TypeId) (hop : o.op = Op.range t m) (k e : TypeId) (ht : P.underlying t = some (.map k e)) (b : Nat) (L : List (Value × Value)) (hm : a.eval m = .map (some b)) (h : RawMap w b L)
    (hK : ∀ ob, RawRange (w.alloc ob) b w.heap.size L L → wpListIn F nF P ops Q rest (a.put o.dst (.pointer (some ⟨w.heap.size, 0, none⟩))) (w.alloc ob)) : wpListIn F nF P ops Q (o :: rest) a w := by
  refine wpListIn_plain hg fun K' hK' => ?_
  obtain ⟨ob, hrun, hr⟩ := h.range (P := P) ht
  unfold Oper.wpIn
  refine ⟨by simp [Oper.about, hop], ?_⟩
  rw [Oper.semAt_plain F _ _ (by rw [hop]; intro c hc'; cases hc')]
  simp [execOp, hop, hm, hrun, Result.andThen]
  exact hK' _ _ (hK ob hr)
end

end Go.Proofs.YtffifhbldcjelaaGreatDoor
