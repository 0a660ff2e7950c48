/-
  Flows: maps.Values over the names, as an iterator. A range over a function whose rounds may leave by 'return': the body reads, and stores only as it leaves. Flows: what an entry depends on: IndexFunc, ContainsFunc.
-/
import Derived.Test.YtffifhbldcjelaaGreatDoorDs08
import Derived.Test.YtffifhbldcjelaaGreatDoorDs09

/-! Flows: maps.Values over the names, as an iterator. -/
namespace Go.Proofs.YtffifhbldcjelaaGreatDoor
set_option linter.unusedVariables false
set_option linter.unusedSimpArgs false
open Go.RowKit

attribute [local go_sem] Oper.semAt_some

def encPt (bl : ByteArray → Nat) (n : ByteArray) : Array Value := #[.pointer (some ⟨bl n, 0, none⟩)]
def isIn (F : List En) (n : ByteArray) : Prop := ∃ e ∈ F, e.nm = n

/-- the names given so far, and those that are left -/
def Part (F : List En) (bl : ByteArray → Nat) (pre : List ByteArray) (left : List (Value × Value)) : Prop :=
  ((pre.map fun n => ((.string n, ptr (bl n)) : Value × Value)) ++ left).Perm (F.map fun e => (.string e.nm, ptr (bl e.nm)))

theorem Part.step {F : List En} {bl : ByteArray → Nat} {pre : List ByteArray} {left p post : List (Value × Value)} {k v : Value} (h : Part F bl pre left) (hl : left = p ++ (k, v) :: post) :
    ∃ e ∈ F, v = .pointer (some ⟨bl e.nm, 0, none⟩) ∧ pre.length < F.length ∧ Part F bl (pre ++ [e.nm]) (p ++ post) := by
  subst hl
  obtain ⟨e, he, hq⟩ := List.mem_map.1 (h.mem_iff.1 (show (k, v) ∈ _ by simp))
  injection hq with h1 h2
  refine ⟨e, he, h2.symm, by have := h.length_eq; simp at this; omega, ?_⟩
  unfold Part at *
  refine List.Perm.trans ?_ h
  rw [← h1, ← h2, List.map_append, List.append_assoc]
  refine List.Perm.append_left _ ?_
  exact (List.perm_middle (a := ((Value.string e.nm, ptr (bl e.nm)) : Value × Value)) (l₁ := p) (l₂ := post)).symm

def unS : Value × Value → ByteArray
  | (.string s, _) => s
  | _ => ByteArray.mk #[]

theorem Part.fin {F : List En} {bl : ByteArray → Nat} {pre : List ByteArray} (h : Part F bl pre []) : pre.Perm (F.map (·.nm)) := by
  unfold Part at h
  rw [List.append_nil] at h
  have := h.map unS
  rw [List.map_map, List.map_map] at this
  have e1 : pre.map (unS ∘ fun n => ((.string n, ptr (bl n)) : Value × Value)) = pre := by
    conv => rhs; rw [← List.map_id pre]
    exact List.map_congr_left fun x _ => rfl
  rw [e1] at this
  exact this

theorem values_any (M : Nat) (w : World) :
    Calls Tryz.prog 30 #[.map (some M)] w fun e w' => e = .returned (.func (.func 47) #[] #[.pointer (some ⟨w.heap.size, 0, none⟩)]) ∧ w' = w.alloc (.cells #[.map (some M)] 50) := by
  go_enter Tryz.func30, Tryz.ntmps30
  go_wp2
  go_ret
  exact ⟨rfl, rfl⟩

section
variable {B : Nat} {w : World} {f M : Nat} {bl rb : ByteArray → Nat} {sl : ByteArray → Value} {F : List En}

set_option maxRecDepth 100000 in
set_option maxHeartbeats 2000000 in
theorem values_seq (n : Nat) (h : Rep B w f M bl rb sl F) (bx : Nat) (hbx : w.cell? ⟨bx, 0, none⟩ = some (.map (some M))) :
    SeqOwn n Tryz.prog 47 #[.pointer (some ⟨bx, 0, none⟩)] (encPt bl) (fun pre x => isIn F x ∧ pre.length < F.length) (fun k => k = M) (fun xs => xs.Perm (F.map (·.nm))) w := by
  intro lp J O W hW hO hJ hY h0
  obtain ⟨L, hL0, hp⟩ := h.names
  have hL : RawMap W M L := hL0.kept (hW.block M hL0.lt)
  have hbc : W.cell? ⟨bx, 0, none⟩ = some (.map (some M)) := by rw [hW.cell (p := ⟨bx, 0, none⟩) (World.block_lt_of_cell? _ _ hbx)]; exact hbx
  have HJ := Lib.hid hJ
  have HY := Lib.hid hY
  have HL := Lib.hid hL
  have HOM := Lib.hid (show ¬ O M from fun q => (hO M q).2 rfl)
  have HOB := Lib.hid (show ¬ O W.heap.size from fun q => by have := (hO _ q).1; have := hW.size; omega)
  have HP := Lib.hid (show Part F bl [] L from by unfold Part; simpa using hp)
  have H0 := Lib.hid h0
  have HMS := Lib.hid (show M < W.heap.size from hL.lt)
  clear hJ hY hL0 hL hbx hO h0 hW h hp
  refine callsIn_of_wp Tryz.func47 rfl trivial ?_ rfl
  simp only [Tryz.ntmps47, List.size_toArray, List.length_cons, List.length_nil, Nat.reduceAdd, Nat.reduceSub, Array.replicate_succ, Array.replicate_zero, List.push_toArray, List.append_toArray, List.nil_append, List.cons_append]
  gi_wp2_with (gi_at_range; refine wpListIn_range_raw _ rfl _ 50 (by rfl) 9 53 Tryz.underlying50 M L (by rfl) HL.out ?_; intro ob hob; have RG0 := Lib.hid hob; have JJ0 := Lib.hid (HJ.out _ _ _ _ _ H0.out (Chg.alloc (fun _ => False) W ob) (fun k h => h.elim)); clear hob)
  obtain ⟨it, hit⟩ : ∃ it, W.heap.size = it := ⟨_, rfl⟩
  rw [hit] at RG0 HOB ⊢
  have HIT := Lib.hid hit
  clear hit
  try go_frame
  gi_loopw [] (fun wr => ∃ (pre : List ByteArray) (left : List (Value × Value)) (O1 : Nat → Prop), J pre O1 wr ∧ RawRange wr M it L left ∧ Part F bl pre left ∧ ¬ O1 M ∧ ¬ O1 it) (fun wr => wr.rangeLeft M it)
  case atStart => exact ⟨[], L, O, JJ0.out, RG0.out, HP.out, HOM.out, HOB.out⟩
  case round =>
    obtain ⟨pre, left, O1, hj, hrg, hpt, hom, hoi⟩ := hrel
    have JJ := Lib.hid hj
    have RG := Lib.hid hrg
    have LEN := Lib.hid hrg.left_len
    have PT := Lib.hid hpt
    have OM := Lib.hid hom
    have OI := Lib.hid hoi
    clear hj hrg hpt hom hoi
    gi_wp2_with (gi_at_next; refine wpListIn_next_raw _ rfl _ (by rfl) M it L left (by rfl) RG.out ?_ ?_)
    · intro hl
      subst hl
      gi_wp2
      go_end0
      exact ⟨⟨_, rfl⟩, _, _, PT.out.fin, JJ.out⟩
    · intro k x p post w2 hl hm hr2 hg2 hs2 hen2
      obtain ⟨e, he, rfl, hpl, hpt2⟩ := PT.out.step hl
      have HLL := Lib.hid hl
      have PT2 := Lib.hid hpt2
      have RG2 := Lib.hid hr2
      have J2 := Lib.hid (HJ.out _ _ _ _ _ JJ.out (Chg.grown (C := fun k => k = it) hg2 (fun k e => by cases e; rfl)) (fun k hk => by subst hk; exact ⟨by rw [HIT.out]; exact Nat.le_refl _, OI.out⟩))
      obtain ⟨fn, tmps, assign, body, hy, hR⟩ := HY.out _ _ _ _ ⟨⟨e, he, rfl⟩, hpl⟩ J2.out
      dsimp only [encPt] at hy
      have HRD := Lib.hid hR
      clear hl hm hr2 hg2 hs2 hpt2 hR
      gi_wp2
      refine ⟨fun h => absurd h (by simp [Fence.wide]), HRD.out.mono ?_⟩
      rintro e3 W3 ⟨rfl, O2, hj3, hc3, ho3⟩
      have RR := Lib.hid (show RawRange W3 M it L (p ++ post) ∧ ¬ O2 M ∧ ¬ O2 it from ⟨RG2.out.kept (hc3.block _ RG2.out.map.lt OM.out) (hc3.block _ (by obtain ⟨_, _, _, _, _, _, _, _, _, q, _⟩ := RG2.out; exact lt_of_blk q) OI.out), (fun q => by rcases ho3 _ q with q | q; exact OM.out q; have := RG2.out.map.lt; omega), (fun q => by rcases ho3 _ q with q | q; exact OI.out q; obtain ⟨_, _, _, _, _, _, _, _, _, q2, _⟩ := RG2.out; have := lt_of_blk q2; omega)⟩)
      have J3 := Lib.hid hj3
      clear hj3 hc3 ho3
      gi_wp2
      go_roundw
      case rel => exact ⟨_, _, O2, J3.out, RR.out.1, PT2.out, RR.out.2.1, RR.out.2.2⟩
      case measure => rw [RR.out.1.left_len, LEN.out, HLL.out]; simp
end

end Go.Proofs.YtffifhbldcjelaaGreatDoor

/-! A range over a function whose rounds may leave by 'return': the body reads, and stores only as it leaves. -/
namespace Go.Proofs.YtffifhbldcjelaaGreatDoor
set_option linter.unusedVariables false
open Go.RowKit

/-- an iterator whose rounds may stop it: S of what it gave if it went through, Sp if it was stopped -/
def SeqStop {α : Type} (P : Program) (g : Nat) (lb : Array Value) (encs : α → Array Value) (ok : α → Prop) (S Sp : List α → Prop) (w : World) : Prop :=
  ∀ (n l : Nat) (J Jx : List α → World → Prop) (W : World), Below w.heap.size w W →
    (∀ s A B C, J s A → Chg C A B → (∀ k, C k → W.heap.size ≤ k) → J s B) →
    (∀ s A B C, Jx s A → Chg C A B → (∀ k, C k → W.heap.size ≤ k) → Jx s B) →
    (∀ m pre x W1, ok x → J pre W1 → YieldAt Fence.wide m P l (encs x) W1 fun e W' =>
      (e = .returned (.bool true) ∧ J (pre ++ [x]) W' ∧ Chg (fun _ => False) W1 W') ∨ (e = .returned (.bool false) ∧ Jx (pre ++ [x]) W')) →
    J [] W →
    CallsIn Fence.wide n P g (#[.func (.yield l) #[] #[]] ++ lb) W fun e W' => (∃ v, e = .returned v) ∧ ((∃ xs, S xs ∧ J xs W') ∨ ∃ pre, Sp pre ∧ Jx pre W')

/-- how a round's body is left: off its end, with nothing turned; or by a return, with older blocks turned -/
def stopPost {α : Type} (B : Nat) (I Ix : List α → World → Prop) (xs : List α) (W : World) : Exit → Act → World → Prop
  | .normal, _, W' => I xs W' ∧ Chg (fun _ => False) W W'
  | .ret, _, W' => Ix xs W' ∧ Chg (fun k => k < B) W W'
  | _, _, _ => False

theorem wpIn_range_stop {α : Type} {n : Nat} {P : Program} {g : Operand} {ps : Array Tmp} {assign body : Code} {Q : Exit → Act → World → Prop} {a : Act} {w : World}
    {gf : Nat} {lb : Array Value} (hg : a.eval g = .func (.func gf) #[] lb) (eg : ∀ args w, (callFunc gf args).run P w = .ok (.enter gf args) w)
    {encs : α → Array Value} {ok : α → Prop} {S Sp : List α → Prop} (hseq : SeqStop P gf lb encs ok S Sp w) (hps : ∀ x, (encs x).size = ps.size)
    (I Ix : List α → World → Prop) (hI : ∀ s A B C, I s A → Chg C A B → (∀ k, C k → w.heap.size ≤ k) → I s B) (hIx : ∀ s A B C, Ix s A → Chg C A B → (∀ k, C k → w.heap.size ≤ k) → Ix s B) (h0 : I [] w)
    (a₁ : α → Act)
    (hassign : ∀ (l m : Nat) (x : α) (W : World) (K : Act → World → Prop), K (a₁ x) W →
      assign.wpIn (Fence.wide.inRound l) m P (Exit.then K (fun _ _ _ => False)) { tmps := (ps.zip (encs x)).foldl (fun t (p, v) => t.setIfInBounds p v) a.tmps, defers := [] } W)
    (hbody : ∀ (l m : Nat) (pre : List α) (x : α) (W : World), ok x → I pre W → body.wpIn (Fence.wide.inRound l) m P (stopPost w.heap.size I Ix (pre ++ [x]) W) (a₁ x) W)
    (hdone : ∀ (D : Nat) (xs : List α) (W : World), w.heap.size ≤ D → S xs → I xs W → W.heap[D]? = some (.deferred (some [])) → Q .normal { a with defers := { target := .collected D, args := #[] } :: a.defers } W)
    (hstop : ∀ (D : Nat) (pre : List α) (W : World), w.heap.size ≤ D → Sp pre → Ix pre W → W.heap[D]? = some (.deferred (some [])) → Code.ret.wpIn Fence.wide n P Q { a with defers := { target := .collected D, args := #[] } :: a.defers } W) :
    (Code.rangeFunc g ps assign body).wpIn Fence.wide n P Q a w := by
  refine wpIn_rangeFunc ?_
  intro fn hfn
  rw [show Fence.wide.round = none from rfl]
  obtain ⟨rc, hrc⟩ : ∃ rc : LoopState → Option Code → Loop, rc = fun st pe => { state := st, pending := pe, fn, tmps := a.tmps, params := ps, assign, body, defers := w.heap.size } := ⟨_, rfl⟩
  obtain ⟨V, hV⟩ : ∃ V, (w.alloc (.deferred (some []))).alloc (.loop (rc .ready none)) = V := ⟨_, rfl⟩
  have hVs : V.heap.size = w.heap.size + 2 := by rw [← hV]; simp
  have hVl : V.heap[w.heap.size + 1]? = some (.loop (rc .ready none)) := by
    rw [← hV]; have := World.alloc_heap_new (w.alloc (.deferred (some []))) (.loop (rc .ready none)); rwa [World.size_alloc] at this
  have hVd : V.heap[w.heap.size]? = some (.deferred (some [])) := by
    rw [← hV, Below.heap_alloc _ _ _ (by simp)]; exact World.alloc_heap_new w _
  have hcV : Chg (fun _ => False) w V := by rw [← hV]; exact (Chg.alloc _ _ _).trans (Chg.alloc _ _ _)
  have hIV : I [] V := hI _ _ _ _ h0 hcV (fun k h => h.elim)
  refine ⟨w.heap.size + 1, [{ target := .collected w.heap.size, args := #[] }], V, { target := .fn (.func gf) lb, args := #[.func (.yield (w.heap.size + 1)) #[] #[]] }, V, gf,
    #[.func (.yield (w.heap.size + 1)) #[] #[]] ++ lb, V, ?_, ?_, fun _ _ => trivial, ?_, fun h => by simp [Fence.wide] at h, ?_⟩
  · rw [← hV, hrc]; exact run_enterLoop_outer _ _ _ _ _
  · simp only [resolve, hg]
    simp [go_sem]
  · simp [invoke, go_sem, eg]
  · refine (hseq _ (w.heap.size + 1)
      (fun pre W => I pre W ∧ W.heap[w.heap.size + 1]? = some (.loop (rc .ready none)) ∧ W.heap[w.heap.size]? = some (.deferred (some [])))
      (fun pre W => Ix pre W ∧ W.heap[w.heap.size + 1]? = some (.loop (rc .done (some .ret))) ∧ W.heap[w.heap.size]? = some (.deferred (some [])))
      V (hcV.below (Nat.le_refl _) (fun k h => h.elim)) ?_ ?_ ?_ ⟨hIV, hVl, hVd⟩).mono ?_
    · rintro s A B C ⟨h1, h2, h3⟩ hc hC
      refine ⟨hI _ _ _ _ h1 hc (fun k hk => by have := hC k hk; omega), ?_, ?_⟩
      · rw [hc.block _ (Array.getElem?_eq_some_iff.1 h2).1 (fun h => by have := hC _ h; omega)]; exact h2
      · rw [hc.block _ (Array.getElem?_eq_some_iff.1 h3).1 (fun h => by have := hC _ h; omega)]; exact h3
    · rintro s A B C ⟨h1, h2, h3⟩ hc hC
      refine ⟨hIx _ _ _ _ h1 hc (fun k hk => by have := hC k hk; omega), ?_, ?_⟩
      · rw [hc.block _ (Array.getElem?_eq_some_iff.1 h2).1 (fun h => by have := hC _ h; omega)]; exact h2
      · rw [hc.block _ (Array.getElem?_eq_some_iff.1 h3).1 (fun h => by have := hC _ h; omega)]; exact h3
    · rintro m pre x W hok ⟨hi, hl, hd⟩
      have hlt : w.heap.size + 1 < W.heap.size := (Array.getElem?_eq_some_iff.1 hl).1
      have hy := run_yield (P := P) (args := encs x) hl (by rw [hrc]; exact hps x)
      rw [hrc] at hy
      refine ⟨fn, _, assign, body, hy, roundIn_of_wpIn hfn (hassign _ _ x W _ ?_)⟩
      refine ⟨_, run_beginRound hl (by rw [hrc]), ?_⟩
      obtain ⟨V2, hV2⟩ : ∃ V2, W.putObj (w.heap.size + 1) (.loop { rc .ready none with state := .busy }) = V2 := ⟨_, rfl⟩
      have hl2 : V2.heap[w.heap.size + 1]? = some (.loop (rc .busy none)) := by rw [← hV2, World.putObj_heap_same hlt, hrc]
      have hd2 : V2.heap[w.heap.size]? = some (.deferred (some [])) := by rw [← hV2, World.putObj_heap_other (by omega)]; exact hd
      have hc2 : Chg (fun k => k = w.heap.size + 1) W V2 := by rw [← hV2]; exact Chg.put _ _ _ rfl
      have hs2 : V2.heap.size = W.heap.size := by rw [← hV2]; simp
      rw [hV2]
      have hi2 := hI _ _ _ _ hi hc2 (fun k hk => by subst hk; omega)
      refine wpIn_mono (hbody _ _ pre x V2 hok hi2) ?_
      rintro e a3 W3 hp
      cases e with
      | normal =>
        obtain ⟨hi3, hc3⟩ := hp
        have hl3 : W3.heap[w.heap.size + 1]? = some (.loop (rc .busy none)) := by rw [hc3.block _ (by omega) (fun h => h)]; exact hl2
        have hd3 : W3.heap[w.heap.size]? = some (.deferred (some [])) := by rw [hc3.block _ (by omega) (fun h => h)]; exact hd2
        have hlt3 := (Array.getElem?_eq_some_iff.1 hl3).1
        have her : ({ rc .busy none with state := if (none : Option Code).isNone then .ready else .done, pending := none } : Loop) = rc .ready none := by rw [hrc]; rfl
        have hre := run_endRound (P := P) none hl3
        rw [her] at hre
        refine ⟨_, _, hre, .inl ⟨rfl, ⟨hI _ _ _ (fun k => k = w.heap.size + 1) hi3 (Chg.put _ _ _ rfl) (fun k hk => by subst hk; omega), World.putObj_heap_same hlt3, by rw [World.putObj_heap_other (by omega)]; exact hd3⟩, ?_⟩⟩
        refine ⟨hc3.os.trans hc2.os, hc3.tape.trans hc2.tape, hc3.output.trans hc2.output, by rw [World.putObj_size]; have := hc3.size; omega, fun k hk hn => ?_⟩
        by_cases e : k = w.heap.size + 1
        · subst e; rw [World.putObj_heap_same hlt3]; exact hl.symm
        · rw [World.putObj_heap_other e, hc3.block k (by omega) (fun h => h), hc2.block k (by omega) e]
      | ret =>
        obtain ⟨hi3, hc3⟩ := hp
        have hl3 : W3.heap[w.heap.size + 1]? = some (.loop (rc .busy none)) := by rw [hc3.block _ (by omega) (fun h => by omega)]; exact hl2
        have hd3 : W3.heap[w.heap.size]? = some (.deferred (some [])) := by rw [hc3.block _ (by omega) (fun h => by omega)]; exact hd2
        have hlt3 := (Array.getElem?_eq_some_iff.1 hl3).1
        have her : ({ rc .busy none with state := if (some Code.ret).isNone then .ready else .done, pending := some Code.ret } : Loop) = rc .done (some .ret) := by rw [hrc]; rfl
        have hre := run_endRound (P := P) (some .ret) hl3
        rw [her] at hre
        exact ⟨_, _, hre, .inr ⟨rfl, hIx _ _ _ (fun k => k = w.heap.size + 1) hi3 (Chg.put _ _ _ rfl) (fun k hk => by subst hk; omega), World.putObj_heap_same hlt3, by rw [World.putObj_heap_other (by omega)]; exact hd3⟩⟩
      | exit id => exact hp.elim
      | goto t => exact hp.elim
      | panic ch => exact hp.elim
      | outgrown => exact hp.elim
    · rintro e W2 ⟨⟨v, rfl⟩, (⟨xs, hS, hi, hl, hd⟩ | ⟨pre, hSp, hi, hl, hd⟩)⟩
      · have hre := run_endLoop (P := P) hl (by rw [hrc]; simp)
        rw [show (rc .ready none).pending = none by rw [hrc]] at hre
        refine ⟨none, _, hre, hdone _ xs _ (Nat.le_refl _) hS (hI _ _ _ (fun k => k = w.heap.size + 1) hi (Chg.put _ _ _ rfl) (fun k hk => by subst hk; omega)) ?_⟩
        rw [World.putObj_heap_other (by omega)]; exact hd
      · have hre := run_endLoop (P := P) hl (by rw [hrc]; simp)
        rw [show (rc .done (some .ret)).pending = some .ret by rw [hrc]] at hre
        refine ⟨some .ret, _, hre, hstop _ pre _ (Nat.le_refl _) hSp (hIx _ _ _ (fun k => k = w.heap.size + 1) hi (Chg.put _ _ _ rfl) (fun k hk => by subst hk; omega)) ?_⟩
        rw [World.putObj_heap_other (by omega)]; exact hd

end Go.Proofs.YtffifhbldcjelaaGreatDoor

/-! Flows: what an entry depends on: IndexFunc, ContainsFunc. -/
namespace Go.Proofs.YtffifhbldcjelaaGreatDoor
set_option linter.unusedVariables false
set_option linter.unusedSimpArgs false
open Go.RowKit

attribute [local go_sem] Oper.semAt_some

def fnV (bv : Nat) : Value := .func (.func 64) #[] #[.pointer (some ⟨bv, 0, none⟩)]

theorem index_any (n : Nat) (ao : Option Addr) (ln cap : Nat) (ps : List Nat) (bv : Nat) (I : Nat → World → Prop) (X : World → Prop) (W : World) (hln : ps.length = ln) (hn : ln ≤ 1000)
    (hrow : ∀ i W', I i W' → RowP W' (.slice ao ln cap) ps) (h0 : I 0 W)
    (hstep : ∀ i p W' m, ps[i]? = some p → I i W' → CallsIn Fence.wide m Tryz.prog 64 #[.pointer (some ⟨p, 0, none⟩), .pointer (some ⟨bv, 0, none⟩)] W' fun e W2 => (e = .returned (.bool false) ∧ I (i + 1) W2) ∨ (e = .returned (.bool true) ∧ X W2)) :
    CallsIn Fence.wide n Tryz.prog 101 #[.slice ao ln cap, fnV bv] W fun e W2 => (e = .returned (.int .i64 (-1)) ∧ I ln W2) ∨ (∃ k : Nat, e = .returned (.int .i64 k) ∧ X W2) := by
  have eg : ∀ args w, (callFunc 64 args).run Tryz.prog w = .ok (.enter 64 args) w := enters_of Tryz.func64 (by kernel_rfl) rfl
  have HL := Lib.hid hln
  have HR := Lib.hid hrow
  have H0 := Lib.hid h0
  have HS := Lib.hid hstep
  clear hln hrow h0 hstep
  unfold fnV
  refine callsIn_of_wp Tryz.func101 rfl trivial ?_ rfl
  simp only [Tryz.ntmps101, List.size_toArray, List.length_cons, List.length_nil, Nat.reduceAdd, Nat.reduceSub, Array.replicate_succ, Array.replicate_zero, List.push_toArray, List.append_toArray, List.nil_append, List.cons_append]
  gi_wp2
  gi_loopw [8] (fun i wr => ∃ k : Nat, k ≤ ln ∧ i = .int .i64 k ∧ I k wr) (fun i _ => ln - (intOf i).toNat)
  case atStart => exact ⟨0, Nat.zero_le _, rfl, H0.out⟩
  case round =>
    obtain ⟨k, hk, rfl, hi⟩ := hrel
    have HI := Lib.hid hi
    clear hi
    by_cases hlt : k < ln
    · have hkl : k < ps.length := by rw [HL.out]; exact hlt
      obtain ⟨b0, off, rfl, hce⟩ := (HR.out _ _ HI.out).at (i := k) (p := ps[k]) (List.getElem?_eq_getElem hkl)
      have ST := Lib.hid (fun m => HS.out k ps[k] wr m (List.getElem?_eq_getElem hkl) HI.out)
      obtain ⟨p, hp⟩ : ∃ p, ps[k] = p := ⟨_, rfl⟩
      rw [hp] at hce ST
      have k0 : (0 : Int) ≤ (k : Int) := by omega
      have k1 : (k : Int) < (ln : Int) := by omega
      clear hp hkl
      gi_wp2
      refine ⟨trivial, fun h => absurd h (by simp [Fence.wide]), (ST.out _).mono ?_⟩
      rintro e W2 (⟨rfl, hi2⟩ | ⟨rfl, hx⟩)
      · have H2 := Lib.hid hi2
        clear hi2
        gi_wp2
        go_roundw
        case rel => exact ⟨k + 1, by omega, by go_num, H2.out⟩
        case measure => simp [intOf]; omega
      · have H2 := Lib.hid hx
        clear hx
        gi_wp2
        go_ret
        exact .inr ⟨k, rfl, H2.out⟩
    · have hkn : k = ln := by omega
      subst hkn
      gi_wp2
      go_ret
      exact .inl ⟨rfl, HI.out⟩

theorem contains_any (n : Nat) (ao : Option Addr) (ln cap : Nat) (ps : List Nat) (bv : Nat) (I : Nat → World → Prop) (X : World → Prop) (W : World) (hln : ps.length = ln) (hn : ln ≤ 1000)
    (hrow : ∀ i W', I i W' → RowP W' (.slice ao ln cap) ps) (h0 : I 0 W)
    (hstep : ∀ i p W' m, ps[i]? = some p → I i W' → CallsIn Fence.wide m Tryz.prog 64 #[.pointer (some ⟨p, 0, none⟩), .pointer (some ⟨bv, 0, none⟩)] W' fun e W2 => (e = .returned (.bool false) ∧ I (i + 1) W2) ∨ (e = .returned (.bool true) ∧ X W2)) :
    CallsIn Fence.wide n Tryz.prog 63 #[.slice ao ln cap, fnV bv] W fun e W2 => (e = .returned (.bool false) ∧ I ln W2) ∨ (e = .returned (.bool true) ∧ X W2) := by
  have HI := Lib.hid (fun m => index_any m ao ln cap ps bv I X W hln hn hrow h0 hstep)
  clear hln hrow h0 hstep
  unfold fnV at *
  refine callsIn_of_wp Tryz.func63 rfl trivial ?_ rfl
  simp only [Tryz.ntmps63, List.size_toArray, List.length_cons, List.length_nil, Nat.reduceAdd, Nat.reduceSub, Array.replicate_succ, Array.replicate_zero, List.push_toArray, List.append_toArray, List.nil_append, List.cons_append]
  gi_wp2
  refine ⟨trivial, fun h => absurd h (by simp [Fence.wide]), (HI.out _).mono ?_⟩
  rintro e W2 (⟨rfl, hi2⟩ | ⟨k, rfl, hx⟩)
  · have H2 := Lib.hid hi2
    clear hi2
    gi_wp2
    go_ret
    exact .inl ⟨rfl, H2.out⟩
  · have H2 := Lib.hid hx
    have k0 : (0 : Int) ≤ (k : Int) := by omega
    clear hx
    gi_wp2
    go_ret
    exact .inr ⟨rfl, H2.out⟩

end Go.Proofs.YtffifhbldcjelaaGreatDoor
