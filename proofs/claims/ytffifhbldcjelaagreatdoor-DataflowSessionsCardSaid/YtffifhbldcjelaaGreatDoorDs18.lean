/-
  The flow of the law on sessions, in plain words. A range over a function whose iterator writes what it has captured. A range over a function whose elements are told by what they are like: the list is not known ahead.
-/
import Derived.Test.YtffifhbldcjelaaGreatDoorDs17
import Derived.Test.YtffifhbldcjelaaGreatDoorDs09

/-! The flow of the law on sessions, in plain words. -/
namespace Go.Proofs.YtffifhbldcjelaaGreatDoor
set_option linter.unusedVariables false
open Go.RowKit

def sumB : ByteArray := ⟨#[115, 117, 109]⟩
def nA : Nat → ByteArray
  | 0 => ⟨#[97]⟩
  | 1 => ⟨#[98]⟩
  | _ => ⟨#[99]⟩
def nX : Nat → ByteArray
  | 0 => ⟨#[120]⟩
  | 1 => ⟨#[121]⟩
  | _ => ⟨#[122]⟩
def upd {α : Type} (f : Nat → α) (d : Nat) (u : α) : Nat → α := fun k => if k = d then u else f k
/-- three inputs, three nodes, their sum -/
def sesL (t0 t1 t2 v0 v1 v2 vs : ByteArray) (s0 s1 s2 ss : Bool) : List En :=
  [⟨⟨#[97]⟩, t0, false, false, []⟩, ⟨⟨#[98]⟩, t1, false, false, []⟩, ⟨⟨#[99]⟩, t2, false, false, []⟩, ⟨⟨#[115, 117, 109]⟩, vs, true, ss, [⟨#[120]⟩, ⟨#[121]⟩, ⟨#[122]⟩]⟩,
    ⟨⟨#[120]⟩, v0, true, s0, [⟨#[97]⟩]⟩, ⟨⟨#[121]⟩, v1, true, s1, [⟨#[98]⟩]⟩, ⟨⟨#[122]⟩, v2, true, s2, [⟨#[99]⟩]⟩]
def sesF (t v : Nat → ByteArray) (st : Nat → Bool) (vs : ByteArray) (ss : Bool) : List En := sesL (t 0) (t 1) (t 2) (v 0) (v 1) (v 2) vs (st 0) (st 1) (st 2) ss
def onlyD (d : Nat) : Nat → Bool := fun k => decide (k = d)
def noneD : Nat → Bool := fun _ => false

theorem set_ses {t v : Nat → ByteArray} {vs u : ByteArray} {d : Nat} (hd : d < 3) (h : t d ≠ u) : setOk (sesF t v noneD vs false) (nA d) = true ∧ setF (sesF t v noneD vs false) (nA d) u = sesF (upd t d u) v (onlyD d) vs false := by
  have e : ∀ (e : En) (F : List En) (n v : ByteArray), atF F n = some e → e.val ≠ v → chgF F n v = markF (updF F n fun e => { e with val := v }) n := fun e F n v h1 h2 => by
    unfold chgF
    rw [h1]
    simp only
    rw [if_neg h2]
  match d, hd with
  | 0, _ =>
    refine ⟨by kernel_rfl, ?_⟩
    have h1 : setF (sesF t v noneD vs false) (nA 0) u = chgF (sesF t v noneD vs false) (nA 0) u := by kernel_rfl
    rw [h1, e ⟨⟨#[97]⟩, t 0, false, false, []⟩ _ _ _ (by kernel_rfl) h]
    show _ = _
    kernel_rfl
  | 1, _ =>
    refine ⟨by kernel_rfl, ?_⟩
    have h1 : setF (sesF t v noneD vs false) (nA 1) u = chgF (sesF t v noneD vs false) (nA 1) u := by kernel_rfl
    rw [h1, e ⟨⟨#[98]⟩, t 1, false, false, []⟩ _ _ _ (by kernel_rfl) h]
    show _ = _
    kernel_rfl
  | 2, _ =>
    refine ⟨by kernel_rfl, ?_⟩
    have h1 : setF (sesF t v noneD vs false) (nA 2) u = chgF (sesF t v noneD vs false) (nA 2) u := by kernel_rfl
    rw [h1, e ⟨⟨#[99]⟩, t 2, false, false, []⟩ _ _ _ (by kernel_rfl) h]
    show _ = _
    kernel_rfl
theorem stale_d {t v : Nat → ByteArray} {vs : ByteArray} {d : Nat} (hd : d < 3) : staleF (sesF t v (onlyD d) vs false) = [nX d] := by
  match d, hd with
  | 0, _ => show _ = _; kernel_rfl
  | 1, _ => show _ = _; kernel_rfl
  | 2, _ => show _ = _; kernel_rfl
theorem stale_s {t v : Nat → ByteArray} {vs : ByteArray} : staleF (sesF t v noneD vs true) = [sumB] := by kernel_rfl
theorem stale_n {t v : Nat → ByteArray} {vs : ByteArray} : staleF (sesF t v noneD vs false) = [] := by kernel_rfl
theorem val_x {t v : Nat → ByteArray} {vs : ByteArray} {ss : Bool} {k : Nat} (hk : k < 3) : valF (sesF t v noneD vs ss) (nX k) = (v k, true) := by
  match k, hk with
  | 0, _ => show _ = _; kernel_rfl
  | 1, _ => show _ = _; kernel_rfl
  | 2, _ => show _ = _; kernel_rfl
theorem put_x {t v : Nat → ByteArray} {vs u : ByteArray} {d : Nat} (hd : d < 3) : putOk (sesF t v (onlyD d) vs false) (nX d) [nA d] = true ∧ ∃ ss, putF (sesF t v (onlyD d) vs false) (nX d) [nA d] u = sesF t (upd v d u) noneD vs ss ∧ (ss = false → v d = u) := by
  have e : ∀ (e : En) (F : List En) (n v : ByteArray), atF F n = some e → e.val ≠ v → chgF F n v = markF (updF F n fun e => { e with val := v }) n := fun e F n v h1 h2 => by
    unfold chgF
    rw [h1]
    simp only
    rw [if_neg h2]
  have e2 : ∀ (e : En) (F : List En) (n v : ByteArray), atF F n = some e → e.val = v → chgF F n v = F := fun e F n v h1 h2 => by
    unfold chgF
    rw [h1]
    simp only
    rw [if_pos h2]
  have eu : ∀ d, upd v d (v d) = v := fun d => by
    funext k
    unfold upd
    split
    · rename_i h; rw [h]
    · rfl
  match d, hd with
  | 0, _ =>
    refine ⟨by kernel_rfl, ?_⟩
    have h1 : putF (sesF t v (onlyD 0) vs false) (nX 0) [nA 0] u = chgF (sesF t v noneD vs false) (nX 0) u := by kernel_rfl
    by_cases h : v 0 = u
    · exact ⟨false, by rw [h1, e2 ⟨⟨#[120]⟩, v 0, true, false, [⟨#[97]⟩]⟩ _ _ _ (by kernel_rfl) h, ← h, eu], fun _ => h⟩
    · exact ⟨true, by rw [h1, e ⟨⟨#[120]⟩, v 0, true, false, [⟨#[97]⟩]⟩ _ _ _ (by kernel_rfl) h]; show _ = _; kernel_rfl, fun q => by cases q⟩
  | 1, _ =>
    refine ⟨by kernel_rfl, ?_⟩
    have h1 : putF (sesF t v (onlyD 1) vs false) (nX 1) [nA 1] u = chgF (sesF t v noneD vs false) (nX 1) u := by kernel_rfl
    by_cases h : v 1 = u
    · exact ⟨false, by rw [h1, e2 ⟨⟨#[121]⟩, v 1, true, false, [⟨#[98]⟩]⟩ _ _ _ (by kernel_rfl) h, ← h, eu], fun _ => h⟩
    · exact ⟨true, by rw [h1, e ⟨⟨#[121]⟩, v 1, true, false, [⟨#[98]⟩]⟩ _ _ _ (by kernel_rfl) h]; show _ = _; kernel_rfl, fun q => by cases q⟩
  | 2, _ =>
    refine ⟨by kernel_rfl, ?_⟩
    have h1 : putF (sesF t v (onlyD 2) vs false) (nX 2) [nA 2] u = chgF (sesF t v noneD vs false) (nX 2) u := by kernel_rfl
    by_cases h : v 2 = u
    · exact ⟨false, by rw [h1, e2 ⟨⟨#[122]⟩, v 2, true, false, [⟨#[99]⟩]⟩ _ _ _ (by kernel_rfl) h, ← h, eu], fun _ => h⟩
    · exact ⟨true, by rw [h1, e ⟨⟨#[122]⟩, v 2, true, false, [⟨#[99]⟩]⟩ _ _ _ (by kernel_rfl) h]; show _ = _; kernel_rfl, fun q => by cases q⟩
theorem put_sum {t v : Nat → ByteArray} {vs u : ByteArray} : putOk (sesF t v noneD vs true) sumB [nX 0, nX 1, nX 2] = true ∧ putF (sesF t v noneD vs true) sumB [nX 0, nX 1, nX 2] u = sesF t v noneD u false := by
  refine ⟨by kernel_rfl, ?_⟩
  have h1 : putF (sesF t v noneD vs true) sumB [nX 0, nX 1, nX 2] u = chgF (sesF t v noneD vs false) sumB u := by kernel_rfl
  rw [h1]
  unfold chgF
  have h2 : atF (sesF t v noneD vs false) sumB = some ⟨⟨#[115, 117, 109]⟩, vs, true, false, [⟨#[120]⟩, ⟨#[121]⟩, ⟨#[122]⟩]⟩ := by kernel_rfl
  rw [h2]
  simp only
  by_cases h : vs = u
  · rw [if_pos h, h]
  · rw [if_neg h]
    show _ = _
    kernel_rfl
/-- as the flow is laid -/
def iniF : Nat → List En
  | 0 => []
  | 1 => [⟨⟨#[97]⟩, ⟨#[]⟩, false, false, []⟩, ⟨⟨#[120]⟩, ⟨#[48, 48, 48, 48]⟩, true, false, [⟨#[97]⟩]⟩]
  | 2 => [⟨⟨#[97]⟩, ⟨#[]⟩, false, false, []⟩, ⟨⟨#[98]⟩, ⟨#[]⟩, false, false, []⟩, ⟨⟨#[120]⟩, ⟨#[48, 48, 48, 48]⟩, true, false, [⟨#[97]⟩]⟩, ⟨⟨#[121]⟩, ⟨#[48, 48, 48, 48]⟩, true, false, [⟨#[98]⟩]⟩]
  | _ => [⟨⟨#[97]⟩, ⟨#[]⟩, false, false, []⟩, ⟨⟨#[98]⟩, ⟨#[]⟩, false, false, []⟩, ⟨⟨#[99]⟩, ⟨#[]⟩, false, false, []⟩, ⟨⟨#[120]⟩, ⟨#[48, 48, 48, 48]⟩, true, false, [⟨#[97]⟩]⟩, ⟨⟨#[121]⟩, ⟨#[48, 48, 48, 48]⟩, true, false, [⟨#[98]⟩]⟩, ⟨⟨#[122]⟩, ⟨#[48, 48, 48, 48]⟩, true, false, [⟨#[99]⟩]⟩]
theorem ini_set {d : Nat} (hd : d < 3) : setOk (iniF d) (nA d) = true ∧ putOk (setF (iniF d) (nA d) ⟨#[]⟩) (nX d) [nA d] = true ∧ putF (setF (iniF d) (nA d) ⟨#[]⟩) (nX d) [nA d] ⟨#[48, 48, 48, 48]⟩ = iniF (d + 1) := by
  match d, hd with
  | 0, _ => exact ⟨by kernel_rfl, by kernel_rfl, by kernel_rfl⟩
  | 1, _ => exact ⟨by kernel_rfl, by kernel_rfl, by kernel_rfl⟩
  | 2, _ => exact ⟨by kernel_rfl, by kernel_rfl, by kernel_rfl⟩
theorem ini_sum : putOk (iniF 3) sumB [nX 0, nX 1, nX 2] = true ∧ putF (iniF 3) sumB [nX 0, nX 1, nX 2] ⟨#[48, 48, 48, 48]⟩ = sesF (fun _ => ⟨#[]⟩) (fun _ => ⟨#[48, 48, 48, 48]⟩) noneD ⟨#[48, 48, 48, 48]⟩ false := ⟨by kernel_rfl, by kernel_rfl⟩
theorem val_sum {t v : Nat → ByteArray} {vs : ByteArray} : valF (sesF t v noneD vs false) sumB = (vs, true) := by kernel_rfl

end Go.Proofs.YtffifhbldcjelaaGreatDoor

/-! A range over a function whose iterator writes what it has captured. -/
namespace Go.Proofs.YtffifhbldcjelaaGreatDoor
set_option linter.unusedVariables false
open Go.RowKit

/-- an iterator that gives xs and writes blocks of its own, X, between two rounds -/
def SeqOwx {α : Type} (n : Nat) (P : Program) (g : Nat) (lb : Array Value) (encs : α → Array Value) (X : Nat → Prop) (xs : List α) (w : World) : Prop :=
  ∀ (l : Nat) (J : List α → (Nat → Prop) → World → Prop) (O : Nat → Prop) (W : World), Below w.heap.size w W → (∀ k, O k → k < w.heap.size ∧ ¬ X k) →
    (∀ s O A B C, J s O A → Chg C A B → (∀ k, C k → (W.heap.size ≤ k ∨ X k) ∧ ¬ O k) → J s O B) →
    (∀ pre x rest O1 W1, xs = pre ++ x :: rest → J pre O1 W1 → YieldAt Fence.wide (n - 1) P l (encs x) W1 fun e W' =>
      e = .returned (.bool true) ∧ ∃ O2, J (pre ++ [x]) O2 W' ∧ Chg O1 W1 W' ∧ ∀ k, O2 k → O1 k ∨ W1.heap.size ≤ k) →
    J [] O W →
    CallsIn Fence.wide n P g (#[.func (.yield l) #[] #[]] ++ lb) W fun e W' => (∃ v, e = .returned v) ∧ ∃ O', J xs O' W'

/-- the statement 'for .. := range g': the body is walked once, at the next element of xs -/
theorem wpIn_range_owx {α : Type} {n : Nat} {P : Program} {g : Operand} {ps : Array Tmp} {assign body : Code} {Q : Exit → Act → World → Prop} {a : Act} {w : World}
    {gf : Nat} {lb : Array Value} (hg : a.eval g = .func (.func gf) #[] lb) (eg : ∀ args w, (callFunc gf args).run P w = .ok (.enter gf args) w)
    {encs : α → Array Value} {X : Nat → Prop} {xs : List α} (hseq : SeqOwx (n - 1) P gf lb encs X xs w) (hps : ∀ x, (encs x).size = ps.size) (hX : ∀ k, X k → k < w.heap.size)
    (I : List α → (Nat → Prop) → World → Prop) (O0 : Nat → Prop) (hO0 : ∀ k, O0 k → k < w.heap.size ∧ ¬ X k)
    (hI : ∀ s O A B C, I s O A → Chg C A B → (∀ k, C k → (w.heap.size ≤ k ∨ X k) ∧ ¬ O k) → I s O B) (h0 : I [] O0 w)
    (M : List α → α → Act → (Nat → Prop) → World → Prop) (hM : ∀ s x a' O A B C, M s x a' O A → Chg C A B → (∀ k, C k → (w.heap.size ≤ k ∨ X k) ∧ ¬ O k) → M s x a' O B)
    (hassign : ∀ (l : Nat) (pre : List α) (x : α) (rest : List α) (O : Nat → Prop) (W : World) (K : Act → World → Prop), xs = pre ++ x :: rest → I pre O W → (∀ a' O' W', M pre x a' O' W' → Chg O W W' → (∀ k, O' k → O k ∨ W.heap.size ≤ k) → K a' W') →
      assign.wpIn (Fence.wide.inRound l) (n - 1 - 1) P (Exit.then K (fun _ _ _ => False)) { tmps := (ps.zip (encs x)).foldl (fun t (p, v) => t.setIfInBounds p v) a.tmps, defers := [] } W)
    (hbody : ∀ (l : Nat) (pre : List α) (x : α) (rest : List α) (a' : Act) (O : Nat → Prop) (W : World), xs = pre ++ x :: rest → M pre x a' O W → body.wpIn (Fence.wide.inRound l) (n - 1 - 1) P (roundEnd I (pre ++ [x]) O W) a' W)
    (hdone : ∀ (D : Nat) (O : Nat → Prop) (W : World), w.heap.size ≤ D → ¬ O D → I xs O W → W.heap[D]? = some (.deferred (some [])) → Q .normal { a with defers := { target := .collected D, args := #[] } :: a.defers } W) :
    (Code.rangeFunc g ps assign body).wpIn Fence.wide n P Q a w := by
  refine wpIn_rangeFunc ?_
  intro fn hfn
  rw [show Fence.wide.round = none from rfl]
  obtain ⟨rc, hrc⟩ : ∃ rc : LoopState → Loop, rc = fun st => { state := st, pending := none, fn, tmps := a.tmps, params := ps, assign, body, defers := w.heap.size } := ⟨_, rfl⟩
  obtain ⟨V, hV⟩ : ∃ V, (w.alloc (.deferred (some []))).alloc (.loop (rc .ready)) = V := ⟨_, rfl⟩
  have hVs : V.heap.size = w.heap.size + 2 := by rw [← hV]; simp
  have hVl : V.heap[w.heap.size + 1]? = some (.loop (rc .ready)) := by
    rw [← hV]; have := World.alloc_heap_new (w.alloc (.deferred (some []))) (.loop (rc .ready)); rwa [World.size_alloc] at this
  have hVd : V.heap[w.heap.size]? = some (.deferred (some [])) := by
    rw [← hV, Below.heap_alloc _ _ _ (by simp)]; exact World.alloc_heap_new w _
  have hcV : Chg (fun _ => False) w V := by rw [← hV]; exact (Chg.alloc _ _ _).trans (Chg.alloc _ _ _)
  have hIV : I [] O0 V := hI _ _ _ _ _ h0 hcV (fun k h => h.elim)
  refine ⟨w.heap.size + 1, [{ target := .collected w.heap.size, args := #[] }], V, { target := .fn (.func gf) lb, args := #[.func (.yield (w.heap.size + 1)) #[] #[]] }, V, gf,
    #[.func (.yield (w.heap.size + 1)) #[] #[]] ++ lb, V, ?_, ?_, fun _ _ => trivial, ?_, fun h => by simp [Fence.wide] at h, ?_⟩
  · rw [← hV, hrc]; exact run_enterLoop_outer _ _ _ _ _
  · simp only [resolve, hg]
    simp [go_sem]
  · simp [invoke, go_sem, eg]
  · refine (hseq (w.heap.size + 1)
      (fun pre O W => I pre O W ∧ W.heap[w.heap.size + 1]? = some (.loop (rc .ready)) ∧ W.heap[w.heap.size]? = some (.deferred (some [])) ∧ ¬ O (w.heap.size + 1) ∧ ¬ O w.heap.size)
      O0 V (hcV.below (Nat.le_refl _) (fun k h => h.elim)) hO0 ?_ ?_ ⟨hIV, hVl, hVd, fun h => by have := (hO0 _ h).1; omega, fun h => by have := (hO0 _ h).1; omega⟩).mono ?_
    · rintro s O A B C ⟨h1, h2, h3, h4, h5⟩ hc hC
      refine ⟨hI _ _ _ _ _ h1 hc (fun k hk => ⟨by rcases (hC k hk).1 with q | q; exact .inl (by omega); exact .inr q, (hC k hk).2⟩), ?_, ?_, h4, h5⟩
      · rw [hc.block _ (Array.getElem?_eq_some_iff.1 h2).1 (fun h => by rcases (hC _ h).1 with q | q; omega; have := hX _ q; omega)]; exact h2
      · rw [hc.block _ (Array.getElem?_eq_some_iff.1 h3).1 (fun h => by rcases (hC _ h).1 with q | q; omega; have := hX _ q; omega)]; exact h3
    · rintro pre x rest O W hxs ⟨hi, hl, hd, nl, nd⟩
      have hlt : w.heap.size + 1 < W.heap.size := (Array.getElem?_eq_some_iff.1 hl).1
      have hy := run_yield (P := P) (args := encs x) hl (by rw [hrc]; exact hps x)
      rw [hrc] at hy
      refine ⟨fn, _, assign, body, hy, roundIn_of_wpIn hfn (hassign _ pre x rest O W _ hxs hi ?_)⟩
      intro a' Oa Wa hm hca hoa
      have hla : Wa.heap[w.heap.size + 1]? = some (.loop (rc .ready)) := by rw [hca.block _ hlt nl]; exact hl
      have hda : Wa.heap[w.heap.size]? = some (.deferred (some [])) := by rw [hca.block _ (by omega) nd]; exact hd
      have hlta := (Array.getElem?_eq_some_iff.1 hla).1
      have nla : ¬ Oa (w.heap.size + 1) := fun h => by rcases hoa _ h with h | h; exact nl h; omega
      have nda : ¬ Oa w.heap.size := fun h => by rcases hoa _ h with h | h; exact nd h; omega
      refine ⟨_, run_beginRound hla (by rw [hrc]), ?_⟩
      obtain ⟨V2, hV2⟩ : ∃ V2, Wa.putObj (w.heap.size + 1) (.loop { rc .ready with state := .busy }) = V2 := ⟨_, rfl⟩
      have hl2 : V2.heap[w.heap.size + 1]? = some (.loop (rc .busy)) := by rw [← hV2, World.putObj_heap_same hlta, hrc]
      have hd2 : V2.heap[w.heap.size]? = some (.deferred (some [])) := by rw [← hV2, World.putObj_heap_other (by omega)]; exact hda
      have hc2 : Chg (fun k => k = w.heap.size + 1) Wa V2 := by rw [← hV2]; exact Chg.put _ _ _ rfl
      have hs2 : V2.heap.size = Wa.heap.size := by rw [← hV2]; simp
      rw [hV2]
      have hm2 := hM _ _ _ _ _ _ _ hm hc2 (fun k hk => by subst hk; exact ⟨.inl (by omega), nla⟩)
      refine wpIn_mono (hbody _ pre x rest a' Oa V2 hxs hm2) ?_
      rintro e a3 W3 hp
      have hsa := hca.size
      cases e with
      | normal =>
        obtain ⟨O', hi3, hc3, ho3⟩ := hp
        have hl3 : W3.heap[w.heap.size + 1]? = some (.loop (rc .busy)) := by rw [hc3.block _ (by omega) nla]; exact hl2
        have hd3 : W3.heap[w.heap.size]? = some (.deferred (some [])) := by rw [hc3.block _ (by omega) nda]; exact hd2
        have hlt3 := (Array.getElem?_eq_some_iff.1 hl3).1
        have nl' : ¬ O' (w.heap.size + 1) := fun h => by rcases ho3 _ h with h | h; exact nla h; omega
        have nd' : ¬ O' w.heap.size := fun h => by rcases ho3 _ h with h | h; exact nda h; omega
        have her : ({ rc .busy with state := if (none : Option Code).isNone then .ready else .done, pending := none } : Loop) = rc .ready := by rw [hrc]; rfl
        have hre := run_endRound (P := P) none hl3
        rw [her] at hre
        refine ⟨_, _, hre, rfl, O', ⟨hI _ _ _ _ (fun k => k = w.heap.size + 1) hi3 (Chg.put _ _ _ rfl) (fun k hk => by subst hk; exact ⟨.inl (by omega), nl'⟩), World.putObj_heap_same hlt3, by rw [World.putObj_heap_other (by omega)]; exact hd3, nl', nd'⟩, ?_, fun k hk => ?_⟩
        · refine ⟨hc3.os.trans (hc2.os.trans hca.os), hc3.tape.trans (hc2.tape.trans hca.tape), hc3.output.trans (hc2.output.trans hca.output), by rw [World.putObj_size]; have := hc3.size; omega, fun k hk hn => ?_⟩
          by_cases e : k = w.heap.size + 1
          · subst e; rw [World.putObj_heap_same hlt3]; exact hl.symm
          · rw [World.putObj_heap_other e, hc3.block k (by omega) (fun h => by rcases hoa k h with h | h; exact hn h; omega), hc2.block k (by omega) e, hca.block k hk hn]
        · rcases ho3 k hk with h | h
          · exact hoa k h
          · exact .inr (by omega)
      | ret => exact hp.elim
      | exit id => exact hp.elim
      | goto t => exact hp.elim
      | panic ch => exact hp.elim
      | outgrown => exact hp.elim
    · rintro e W2 ⟨⟨v, rfl⟩, O', hi, hl, hd, nl, nd⟩
      have hre := run_endLoop (P := P) hl (by rw [hrc]; simp)
      rw [show (rc .ready).pending = none by rw [hrc]] at hre
      refine ⟨none, _, hre, hdone _ O' _ (Nat.le_refl _) nd (hI _ _ _ _ (fun k => k = w.heap.size + 1) hi (Chg.put _ _ _ rfl) (fun k hk => by subst hk; exact ⟨.inl (by omega), nl⟩)) ?_⟩
      rw [World.putObj_heap_other (by omega)]; exact hd

end Go.Proofs.YtffifhbldcjelaaGreatDoor

/-! A range over a function whose elements are told by what they are like: the list is not known ahead. -/
namespace Go.Proofs.YtffifhbldcjelaaGreatDoor
set_option linter.unusedVariables false
open Go.RowKit

/-- an iterator that gives xs and writes blocks of its own, X, between two rounds -/
def SeqRel {α : Type} (n : Nat) (P : Program) (g : Nat) (lb : Array Value) (encs : α → Array Value) (X : Nat → Prop) (Ok : List α → α → Prop) (Fin : List α → Prop) (w : World) : Prop :=
  ∀ (l : Nat) (J : List α → (Nat → Prop) → World → Prop) (O : Nat → Prop) (W : World), Below w.heap.size w W → (∀ k, O k → k < w.heap.size ∧ ¬ X k) →
    (∀ s O A B C, J s O A → Chg C A B → (∀ k, C k → W.heap.size ≤ k ∧ ¬ O k) → J s O B) → (∀ s O A, J s O A → ∀ k, O k → k < A.heap.size) →
    (∀ pre x O1 W1, Ok pre x → J pre O1 W1 → YieldAt Fence.wide (n - 1) P l (encs x) W1 fun e W' =>
      e = .returned (.bool true) ∧ ∃ O2, J (pre ++ [x]) O2 W' ∧ Chg O1 W1 W' ∧ ∀ k, O2 k → O1 k ∨ W1.heap.size ≤ k) →
    J [] O W →
    CallsIn Fence.wide n P g (#[.func (.yield l) #[] #[]] ++ lb) W fun e W' => (∃ v, e = .returned v) ∧ ∃ xs O', Fin xs ∧ J xs O' W'

/-- the statement 'for .. := range g': the body is walked once, at the next element of xs -/
theorem wpIn_range_rel {α : Type} {n : Nat} {P : Program} {g : Operand} {ps : Array Tmp} {assign body : Code} {Q : Exit → Act → World → Prop} {a : Act} {w : World}
    {gf : Nat} {lb : Array Value} (hg : a.eval g = .func (.func gf) #[] lb) (eg : ∀ args w, (callFunc gf args).run P w = .ok (.enter gf args) w)
    {encs : α → Array Value} {X : Nat → Prop} {Ok : List α → α → Prop} {Fin : List α → Prop} (hseq : SeqRel (n - 1) P gf lb encs X Ok Fin w) (hps : ∀ x, (encs x).size = ps.size) 
    (I : List α → (Nat → Prop) → World → Prop) (O0 : Nat → Prop) (hO0 : ∀ k, O0 k → k < w.heap.size ∧ ¬ X k)
    (hI : ∀ s O A B C, I s O A → Chg C A B → (∀ k, C k → w.heap.size ≤ k ∧ ¬ O k) → I s O B) (hIO : ∀ s O A, I s O A → ∀ k, O k → k < A.heap.size) (h0 : I [] O0 w)
    (M : List α → α → Act → (Nat → Prop) → World → Prop) (hM : ∀ s x a' O A B C, M s x a' O A → Chg C A B → (∀ k, C k → w.heap.size ≤ k ∧ ¬ O k) → M s x a' O B)
    (hassign : ∀ (l : Nat) (pre : List α) (x : α) (O : Nat → Prop) (W : World) (K : Act → World → Prop), Ok pre x → I pre O W → (∀ a' O' W', M pre x a' O' W' → Chg O W W' → (∀ k, O' k → O k ∨ W.heap.size ≤ k) → K a' W') →
      assign.wpIn (Fence.wide.inRound l) (n - 1 - 1) P (Exit.then K (fun _ _ _ => False)) { tmps := (ps.zip (encs x)).foldl (fun t (p, v) => t.setIfInBounds p v) a.tmps, defers := [] } W)
    (hbody : ∀ (l : Nat) (pre : List α) (x : α) (a' : Act) (O : Nat → Prop) (W : World), Ok pre x → M pre x a' O W → body.wpIn (Fence.wide.inRound l) (n - 1 - 1) P (roundEnd I (pre ++ [x]) O W) a' W)
    (hdone : ∀ (xs : List α) (D : Nat) (O : Nat → Prop) (W : World), Fin xs → w.heap.size ≤ D → ¬ O D → I xs O W → W.heap[D]? = some (.deferred (some [])) → Q .normal { a with defers := { target := .collected D, args := #[] } :: a.defers } W) :
    (Code.rangeFunc g ps assign body).wpIn Fence.wide n P Q a w := by
  refine wpIn_rangeFunc ?_
  intro fn hfn
  rw [show Fence.wide.round = none from rfl]
  obtain ⟨rc, hrc⟩ : ∃ rc : LoopState → Loop, rc = fun st => { state := st, pending := none, fn, tmps := a.tmps, params := ps, assign, body, defers := w.heap.size } := ⟨_, rfl⟩
  obtain ⟨V, hV⟩ : ∃ V, (w.alloc (.deferred (some []))).alloc (.loop (rc .ready)) = V := ⟨_, rfl⟩
  have hVs : V.heap.size = w.heap.size + 2 := by rw [← hV]; simp
  have hVl : V.heap[w.heap.size + 1]? = some (.loop (rc .ready)) := by
    rw [← hV]; have := World.alloc_heap_new (w.alloc (.deferred (some []))) (.loop (rc .ready)); rwa [World.size_alloc] at this
  have hVd : V.heap[w.heap.size]? = some (.deferred (some [])) := by
    rw [← hV, Below.heap_alloc _ _ _ (by simp)]; exact World.alloc_heap_new w _
  have hcV : Chg (fun _ => False) w V := by rw [← hV]; exact (Chg.alloc _ _ _).trans (Chg.alloc _ _ _)
  have hIV : I [] O0 V := hI _ _ _ _ _ h0 hcV (fun k h => h.elim)
  refine ⟨w.heap.size + 1, [{ target := .collected w.heap.size, args := #[] }], V, { target := .fn (.func gf) lb, args := #[.func (.yield (w.heap.size + 1)) #[] #[]] }, V, gf,
    #[.func (.yield (w.heap.size + 1)) #[] #[]] ++ lb, V, ?_, ?_, fun _ _ => trivial, ?_, fun h => by simp [Fence.wide] at h, ?_⟩
  · rw [← hV, hrc]; exact run_enterLoop_outer _ _ _ _ _
  · simp only [resolve, hg]
    simp [go_sem]
  · simp [invoke, go_sem, eg]
  · refine (hseq (w.heap.size + 1)
      (fun pre O W => I pre O W ∧ W.heap[w.heap.size + 1]? = some (.loop (rc .ready)) ∧ W.heap[w.heap.size]? = some (.deferred (some [])) ∧ ¬ O (w.heap.size + 1) ∧ ¬ O w.heap.size)
      O0 V (hcV.below (Nat.le_refl _) (fun k h => h.elim)) hO0 ?_ (fun _ _ _ h => hIO _ _ _ h.1) ?_ ⟨hIV, hVl, hVd, fun h => by have := (hO0 _ h).1; omega, fun h => by have := (hO0 _ h).1; omega⟩).mono ?_
    · rintro s O A B C ⟨h1, h2, h3, h4, h5⟩ hc hC
      refine ⟨hI _ _ _ _ _ h1 hc (fun k hk => ⟨by have := (hC k hk).1; omega, (hC k hk).2⟩), ?_, ?_, h4, h5⟩
      · rw [hc.block _ (Array.getElem?_eq_some_iff.1 h2).1 (fun h => by have := (hC _ h).1; omega)]; exact h2
      · rw [hc.block _ (Array.getElem?_eq_some_iff.1 h3).1 (fun h => by have := (hC _ h).1; omega)]; exact h3
    · rintro pre x O W hxs ⟨hi, hl, hd, nl, nd⟩
      have hlt : w.heap.size + 1 < W.heap.size := (Array.getElem?_eq_some_iff.1 hl).1
      have hy := run_yield (P := P) (args := encs x) hl (by rw [hrc]; exact hps x)
      rw [hrc] at hy
      refine ⟨fn, _, assign, body, hy, roundIn_of_wpIn hfn (hassign _ pre x O W _ hxs hi ?_)⟩
      intro a' Oa Wa hm hca hoa
      have hla : Wa.heap[w.heap.size + 1]? = some (.loop (rc .ready)) := by rw [hca.block _ hlt nl]; exact hl
      have hda : Wa.heap[w.heap.size]? = some (.deferred (some [])) := by rw [hca.block _ (by omega) nd]; exact hd
      have hlta := (Array.getElem?_eq_some_iff.1 hla).1
      have nla : ¬ Oa (w.heap.size + 1) := fun h => by rcases hoa _ h with h | h; exact nl h; omega
      have nda : ¬ Oa w.heap.size := fun h => by rcases hoa _ h with h | h; exact nd h; omega
      refine ⟨_, run_beginRound hla (by rw [hrc]), ?_⟩
      obtain ⟨V2, hV2⟩ : ∃ V2, Wa.putObj (w.heap.size + 1) (.loop { rc .ready with state := .busy }) = V2 := ⟨_, rfl⟩
      have hl2 : V2.heap[w.heap.size + 1]? = some (.loop (rc .busy)) := by rw [← hV2, World.putObj_heap_same hlta, hrc]
      have hd2 : V2.heap[w.heap.size]? = some (.deferred (some [])) := by rw [← hV2, World.putObj_heap_other (by omega)]; exact hda
      have hc2 : Chg (fun k => k = w.heap.size + 1) Wa V2 := by rw [← hV2]; exact Chg.put _ _ _ rfl
      have hs2 : V2.heap.size = Wa.heap.size := by rw [← hV2]; simp
      rw [hV2]
      have hm2 := hM _ _ _ _ _ _ _ hm hc2 (fun k hk => by subst hk; exact ⟨by omega, nla⟩)
      refine wpIn_mono (hbody _ pre x a' Oa V2 hxs hm2) ?_
      rintro e a3 W3 hp
      have hsa := hca.size
      cases e with
      | normal =>
        obtain ⟨O', hi3, hc3, ho3⟩ := hp
        have hl3 : W3.heap[w.heap.size + 1]? = some (.loop (rc .busy)) := by rw [hc3.block _ (by omega) nla]; exact hl2
        have hd3 : W3.heap[w.heap.size]? = some (.deferred (some [])) := by rw [hc3.block _ (by omega) nda]; exact hd2
        have hlt3 := (Array.getElem?_eq_some_iff.1 hl3).1
        have nl' : ¬ O' (w.heap.size + 1) := fun h => by rcases ho3 _ h with h | h; exact nla h; omega
        have nd' : ¬ O' w.heap.size := fun h => by rcases ho3 _ h with h | h; exact nda h; omega
        have her : ({ rc .busy with state := if (none : Option Code).isNone then .ready else .done, pending := none } : Loop) = rc .ready := by rw [hrc]; rfl
        have hre := run_endRound (P := P) none hl3
        rw [her] at hre
        refine ⟨_, _, hre, rfl, O', ⟨hI _ _ _ _ (fun k => k = w.heap.size + 1) hi3 (Chg.put _ _ _ rfl) (fun k hk => by subst hk; exact ⟨by omega, nl'⟩), World.putObj_heap_same hlt3, by rw [World.putObj_heap_other (by omega)]; exact hd3, nl', nd'⟩, ?_, fun k hk => ?_⟩
        · refine ⟨hc3.os.trans (hc2.os.trans hca.os), hc3.tape.trans (hc2.tape.trans hca.tape), hc3.output.trans (hc2.output.trans hca.output), by rw [World.putObj_size]; have := hc3.size; omega, fun k hk hn => ?_⟩
          by_cases e : k = w.heap.size + 1
          · subst e; rw [World.putObj_heap_same hlt3]; exact hl.symm
          · rw [World.putObj_heap_other e, hc3.block k (by omega) (fun h => by rcases hoa k h with h | h; exact hn h; omega), hc2.block k (by omega) e, hca.block k hk hn]
        · rcases ho3 k hk with h | h
          · exact hoa k h
          · exact .inr (by omega)
      | ret => exact hp.elim
      | exit id => exact hp.elim
      | goto t => exact hp.elim
      | panic ch => exact hp.elim
      | outgrown => exact hp.elim
    · rintro e W2 ⟨⟨v, rfl⟩, xs, O', hfin, hi, hl, hd, nl, nd⟩
      have hre := run_endLoop (P := P) hl (by rw [hrc]; simp)
      rw [show (rc .ready).pending = none by rw [hrc]] at hre
      refine ⟨none, _, hre, hdone _ _ O' _ hfin (Nat.le_refl _) nd (hI _ _ _ _ (fun k => k = w.heap.size + 1) hi (Chg.put _ _ _ rfl) (fun k hk => by subst hk; exact ⟨by omega, nl⟩)) ?_⟩
      rw [World.putObj_heap_other (by omega)]; exact hd

end Go.Proofs.YtffifhbldcjelaaGreatDoor
