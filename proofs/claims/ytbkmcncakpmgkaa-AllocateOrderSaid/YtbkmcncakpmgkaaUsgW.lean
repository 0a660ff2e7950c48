/-
  Usages: the map of pointers to usages, as the walk carries it.
-/
import Derived.Test.YtbkmcncakpmgkaaUsgT
namespace Go.Proofs.Ytbkmcncakpmgkaa
set_option linter.unusedVariables false
open Go.ChangeShapes Go.WideShapes Go.ChangeAt Go.RowKit Go.Shelf Go.Maps

/-- how an element that is a pointer reads: its block's number; -1 for nil -/
def RP (v : Value) : Option (DataW Unit × List MemPlace) :=
  match v with
  | .pointer (some ⟨b, 0, none⟩) => some (.lit (.int .i64 (b : Int)), [])
  | .pointer none => some (.lit (.int .i64 (-1)), [])
  | _ => none

def mkP (o : Option Nat) : Value := .pointer (o.map fun b => ⟨b, 0, none⟩)

theorem RP_inv {v : Value} {y : DataW Unit × List MemPlace} (h : RP v = some y) : ∃ o, v = mkP o ∧ y = (.lit (.int .i64 (match o with | some b => (b : Int) | none => -1)), []) := by
  unfold RP at h
  split at h
  · cases h; exact ⟨some _, rfl, rfl⟩
  · cases h; exact ⟨none, rfl, rfl⟩
  · cases h

def zP : DataW Unit := .lit (.int .i64 (-1))

structure UG (z : Nat) (W : World) (B n : Nat) (D : DataW Unit) (bl : Int → Int → Nat) (S : List Us) : Prop where
  own : W.ownsMap Try.prog 69 RP B n D
  hit : ∀ u ∈ S, ∀ kl, keyOf Try.prog 69 (kv u.acc u.rcd) = some kl → has D kl = true ∧ D.atKey kl zP = .lit (.int .i64 (bl u.acc u.rcd))
  cel : ∀ u ∈ S, z ≤ bl u.acc u.rcd ∧ W.heap[bl u.acc u.rcd]? = some (.cells #[.int .i64 u.acc, .int .i64 u.rcd, .int .i64 u.val, .int .i64 u.held] 42 (0, 0))
  wf : ∀ u ∈ S, (Lit.int .i64 u.acc).wf = true ∧ (Lit.int .i64 u.rcd).wf = true
  miss : ∀ a r kl, keyOf Try.prog 69 (kv a r) = some kl → findU a r S = none → has D kl = false
  inj : ∀ u ∈ S, ∀ v ∈ S, bl u.acc u.rcd = bl v.acc v.rcd → u.acc = v.acc ∧ u.rcd = v.rcd
  srt : SortedU S

theorem UG.made (w : World) (z : Nat) : UG z (w.alloc (.map #[] 0)) w.heap.size 0 (.map []) (fun _ _ => 0) [] :=
  ⟨World.ownsMap_made _ _ _ _, (fun u hu => by simp at hu), (fun u hu => by simp at hu), (fun u hu => by simp at hu), fun a r kl _ _ => rfl, (fun u hu => by simp at hu), by simp [SortedU]⟩

section
variable {z : Nat} {W W' : World} {B n : Nat} {D : DataW Unit} {bl : Int → Int → Nat} {S : List Us}

theorem UG.kept (h : UG z W B n D bl S) (hB : W'.heap[B]? = W.heap[B]?) (hc : ∀ u ∈ S, W'.heap[bl u.acc u.rcd]? = W.heap[bl u.acc u.rcd]?) : UG z W' B n D bl S := by
  obtain ⟨es, cl, h1, h2⟩ := h.own
  exact ⟨⟨es, cl, hB.trans h1, h2⟩, h.hit, fun u hu => ⟨(h.cel u hu).1, (hc u hu).trans (h.cel u hu).2⟩, h.wf, h.miss, h.inj, h.srt⟩
theorem UG.lt (h : UG z W B n D bl S) {u : Us} (hu : u ∈ S) : bl u.acc u.rcd < W.heap.size := (Array.getElem?_eq_some_iff.1 (h.cel u hu).2).1
theorem UG.later (h : UG z W B n D bl S) (hb : Below W.heap.size W W') : UG z W' B n D bl S := h.kept (hb.block B h.own.lt) (fun u hu => hb.block _ (h.lt hu))
theorem UG.mono (h : UG z W B n D bl S) {n' : Nat} (hn : n ≤ n') : UG z W B n' D bl S := ⟨h.own.mono hn, h.hit, h.cel, h.wf, h.miss, h.inj, h.srt⟩

theorem UG.ne (h : UG z W B n D bl S) {u : Us} (hu : u ∈ S) : bl u.acc u.rcd ≠ B := fun e => by
  obtain ⟨es, cl, h1, _⟩ := h.own
  have := (h.cel u hu).2
  rw [e, h1] at this
  cases this

theorem UG.look_hit (h : UG z W B n D bl S) {u : Us} (hu : u ∈ S) : (Instr.lookup 67 (.map (some B)) (.agg #[.int .i64 u.acc, .int .i64 u.rcd]) false).run Try.prog W = .ok (.pointer (some ⟨bl u.acc u.rcd, 0, none⟩)) W := by
  obtain ⟨kl, hk⟩ := key_mk u.acc u.rcd (h.wf u hu).1 (h.wf u hu).2
  obtain ⟨v, ps, hrun, hv⟩ := h.own.lookup keyedS Try.underlying67 (Try.zeroValue70 _) (z := .pointer none) (zd := zP) (zp := []) rfl hk
  obtain ⟨o, rfl, hy⟩ := RP_inv hv
  rw [(h.hit u hu kl hk).2] at hy
  simp only [Prod.mk.injEq, DataW.lit.injEq, Lit.int.injEq, true_and] at hy
  cases o with
  | none => have := hy.1; dsimp only at this; omega
  | some b =>
    have e : b = bl u.acc u.rcd := by have := hy.1; dsimp only at this; omega
    rw [e] at hrun
    exact hrun

theorem UG.look_miss (h : UG z W B n D bl S) {a r : Int} (ha : (Lit.int .i64 a).wf = true) (hr : (Lit.int .i64 r).wf = true) (hf : findU a r S = none) : (Instr.lookup 67 (.map (some B)) (.agg #[.int .i64 a, .int .i64 r]) false).run Try.prog W = .ok (.pointer none) W := by
  obtain ⟨kl, hk⟩ := key_mk a r ha hr
  obtain ⟨v, ps, hrun, hv⟩ := h.own.lookup keyedS Try.underlying67 (Try.zeroValue70 _) (z := .pointer none) (zd := zP) (zp := []) rfl hk
  obtain ⟨o, rfl, hy⟩ := RP_inv hv
  rw [atKey_of_not_has (h.miss a r kl hk hf)] at hy
  unfold zP at hy
  simp only [Prod.mk.injEq, DataW.lit.injEq, Lit.int.injEq, true_and] at hy
  cases o with
  | none => exact hrun
  | some b => have := hy.1; dsimp only at this; omega

theorem kv_inj {a r a' r' : Int} {kl : Lit} (h1 : keyOf Try.prog 69 (kv a r) = some kl) (h2 : keyOf Try.prog 69 (kv a' r') = some kl) : a = a' ∧ r = r' := by
  have := keyedS.inj h1 h2
  simpa [kv] using this

/-- a new usage -/
theorem UG.new (h : UG z W B n D bl S) {a r : Int} (ha : (Lit.int .i64 a).wf = true) (hr : (Lit.int .i64 r).wf = true) (hf : findU a r S = none) (hz : z ≤ W.heap.size) {kl : Lit} (hk : keyOf Try.prog 69 (kv a r) = some kl)
    (hg : (W.alloc (.cells #[.int .i64 a, .int .i64 r, .int .i64 0, .int .i64 0] 42)).grownBy W' (some B)) (ho : W'.ownsMap Try.prog 69 RP B (n + 1) (D.put kl (.lit (.int .i64 (W.heap.size : Int))))) :
    UG z W' B (n + 1) (D.put kl (.lit (.int .i64 (W.heap.size : Int)))) (fun a' r' => if a' = a ∧ r' = r then W.heap.size else bl a' r') (bumpU a r 0 0 S) := by
  have hBl := h.own.lt
  have hkk := keyedS.key hk
  have hm : IsMap D := by
    obtain ⟨es, cl, _, _, _, e⟩ := h.own
    exact ⟨_, e⟩
  have hmem : ∀ u ∈ bumpU a r 0 0 S, u = ⟨a, r, 0, 0⟩ ∨ (u ∈ S ∧ ¬ (u.acc = a ∧ u.rcd = r)) := fun u hu => by
    by_cases e : u.acc = a ∧ u.rcd = r
    · left
      have h1 := findU_mem (bump_sorted h.srt) hu
      rw [e.1, e.2, find_same h.srt, hf] at h1
      simpa [bumped] using h1.symm
    · rcases bump_mem hu with q | q
      · exact absurd q e
      · exact .inr ⟨q, e⟩
  refine ⟨ho, fun u hu kl' hk' => ?_, fun u hu => ?_, fun u hu => ?_, fun a' r' kl' hk' hf' => ?_, fun u hu v hv e => ?_, bump_sorted h.srt⟩
  · rcases hmem u hu with rfl | ⟨hu, hne⟩
    · dsimp only at hk' ⊢
      rw [hk] at hk'; cases hk'
      rw [if_pos ⟨rfl, rfl⟩]
      exact ⟨has_put_same hm hkk _, atKey_put_same hm hkk _ _⟩
    · have hn : kl' ≠ kl := fun e => by subst e; exact hne (kv_inj hk' hk)
      rw [if_neg hne, has_put_other hn, atKey_put_other hn]
      exact h.hit u hu kl' hk'
  · rcases hmem u hu with rfl | ⟨hu, hne⟩
    · dsimp only
      rw [if_pos ⟨rfl, rfl⟩]
      refine ⟨hz, ?_⟩
      rw [hg.block _ (by simp) (fun e => by simp only [Option.some.injEq] at e; omega)]
      exact World.alloc_heap_new W _
    · rw [if_neg hne]
      have hlt := h.lt hu
      refine ⟨(h.cel u hu).1, ?_⟩
      rw [hg.block _ (by simp; omega) (fun e => h.ne hu (by simpa using e)), Below.heap_alloc _ _ _ hlt]
      exact (h.cel u hu).2
  · rcases hmem u hu with rfl | ⟨hu, hne⟩
    · exact ⟨ha, hr⟩
    · exact h.wf u hu
  · by_cases e : a' = a ∧ r' = r
    · rw [e.1, e.2, find_same h.srt] at hf'; cases hf'
    · rw [find_other e] at hf'
      have hn : kl' ≠ kl := fun e2 => by subst e2; exact e (kv_inj hk' hk)
      rw [has_put_other hn]
      exact h.miss a' r' kl' hk' hf'
  · rcases hmem u hu with rfl | ⟨hu, hne⟩
    · rcases hmem v hv with rfl | ⟨hv, hnv⟩
      · exact ⟨rfl, rfl⟩
      · dsimp only at e
        rw [if_pos ⟨rfl, rfl⟩, if_neg hnv] at e
        have := h.lt hv; omega
    · rcases hmem v hv with rfl | ⟨hv, hnv⟩
      · dsimp only at e
        rw [if_neg hne, if_pos ⟨rfl, rfl⟩] at e
        have := h.lt hu; omega
      · rw [if_neg hne, if_neg hnv] at e
        exact h.inj u hu v hv e

theorem heap_set {W : World} {b o : Nat} {cs : Array Value} {t : TypeId} {fr : Nat × Nat} (h : W.heap[b]? = some (.cells cs t fr)) (v : Value) : (W.setCell ⟨b, o, none⟩ v).heap[b]? = some (.cells (cs.setIfInBounds o v) t fr) := by
  obtain ⟨hlt, hk⟩ := Array.getElem?_eq_some_iff.1 h
  show (W.heap.modify b _)[b]? = _
  rw [Array.getElem?_eq_getElem (by rw [Array.size_modify]; exact hlt), Array.getElem_modify_self, hk]
  rfl

/-- one more stream -/
theorem UG.bump (h : UG z W B n D bl S) {u : Us} (hu : u ∈ S) (v hh : Int) (hW : ∃ o x, W' = W.setCell ⟨bl u.acc u.rcd, o, none⟩ x ∧ (#[Value.int .i64 u.acc, .int .i64 u.rcd, .int .i64 u.val, .int .i64 u.held]).setIfInBounds o x = #[.int .i64 u.acc, .int .i64 u.rcd, .int .i64 (u.val + v), .int .i64 (u.held + hh)]) :
    UG z W' B n D bl (bumpU u.acc u.rcd v hh S) := by
  obtain ⟨o, x, rfl, hcs⟩ := hW
  have hmem : ∀ q ∈ bumpU u.acc u.rcd v hh S, q = ⟨u.acc, u.rcd, u.val + v, u.held + hh⟩ ∨ (q ∈ S ∧ ¬ (q.acc = u.acc ∧ q.rcd = u.rcd)) := fun q hq => by
    by_cases e : q.acc = u.acc ∧ q.rcd = u.rcd
    · left
      have h1 := findU_mem (bump_sorted h.srt) hq
      rw [e.1, e.2, find_same h.srt, findU_mem h.srt hu] at h1
      simpa [bumped] using h1.symm
    · rcases bump_mem hq with g | g
      · exact absurd g e
      · exact .inr ⟨g, e⟩
  have hother : ∀ k, k ≠ bl u.acc u.rcd → (W.setCell ⟨bl u.acc u.rcd, o, none⟩ x).heap[k]? = W.heap[k]? := fun k hk => Below.heap_setCell _ _ _ _ hk
  refine ⟨?_, fun q hq kl hk => ?_, fun q hq => ?_, fun q hq => ?_, fun a r kl hk hf => ?_, fun q hq p hp e => ?_, bump_sorted h.srt⟩
  · obtain ⟨es, cl, h1, h2⟩ := h.own
    exact ⟨es, cl, (hother B (h.ne hu).symm).trans h1, h2⟩
  · rcases hmem q hq with rfl | ⟨hq, _⟩
    · exact h.hit u hu kl hk
    · exact h.hit q hq kl hk
  · rcases hmem q hq with rfl | ⟨hq, hne⟩
    · refine ⟨(h.cel u hu).1, ?_⟩
      dsimp only
      rw [heap_set (h.cel u hu).2, hcs]
    · refine ⟨(h.cel q hq).1, ?_⟩
      rw [hother _ (fun e => hne (h.inj q hq u hu e))]
      exact (h.cel q hq).2
  · rcases hmem q hq with rfl | ⟨hq, _⟩
    · exact h.wf u hu
    · exact h.wf q hq
  · by_cases e : a = u.acc ∧ r = u.rcd
    · rw [e.1, e.2, find_same h.srt] at hf; cases hf
    · rw [find_other e] at hf
      exact h.miss a r kl hk hf
  · have hk : ∀ q ∈ bumpU u.acc u.rcd v hh S, ∃ q' ∈ S, q'.acc = q.acc ∧ q'.rcd = q.rcd := fun q hq => by
      rcases hmem q hq with rfl | ⟨hq, _⟩
      · exact ⟨u, hu, rfl, rfl⟩
      · exact ⟨q, hq, rfl, rfl⟩
    obtain ⟨q', hq', e1, e2⟩ := hk q hq
    obtain ⟨p', hp', e3, e4⟩ := hk p hp
    rw [← e1, ← e2, ← e3, ← e4] at e ⊢
    exact h.inj q' hq' p' hp' e
end

theorem bump_bump {a r v h : Int} : ∀ {S : List Us}, bumpU a r v h (bumpU a r 0 0 S) = bumpU a r v h S
  | [] => by simp [bumpU, ltK]
  | w :: t => by
    conv => rhs; unfold bumpU
    by_cases h1 : ltK a r w.acc w.rcd
    · rw [if_pos h1]
      conv => lhs; rw [show bumpU a r 0 0 (w :: t) = ⟨a, r, 0, 0⟩ :: w :: t by unfold bumpU; rw [if_pos h1]]
      simp [bumpU, ltK]
    · rw [if_neg h1]
      by_cases h2 : w.acc = a ∧ w.rcd = r
      · rw [if_pos h2]
        conv => lhs; rw [show bumpU a r 0 0 (w :: t) = ⟨a, r, w.val + 0, w.held + 0⟩ :: t by unfold bumpU; rw [if_neg h1, if_pos h2]]
        simp [bumpU, ltK]
      · rw [if_neg h2]
        have e1 : ∀ (v h : Int) (t' : List Us), bumpU a r v h (w :: t') = w :: bumpU a r v h t' := fun v h t' => by
          show (if ltK a r w.acc w.rcd then _ else if w.acc = a ∧ w.rcd = r then _ else _) = _
          rw [if_neg h1, if_neg h2]
        rw [e1, e1, bump_bump]

/-! the range -/
/-- what has been met so far -/
def ColU (S : List Us) (left : Lit → Bool) (L : List Us) : Prop := L.Nodup ∧ ∀ u, u ∈ L ↔ (u ∈ S ∧ ∀ kl, keyOf Try.prog 69 (kv u.acc u.rcd) = some kl → left kl = false)

theorem ColU.start {z : Nat} {W : World} {B n : Nat} {D : DataW Unit} {bl : Int → Int → Nat} {S : List Us} (h : UG z W B n D bl S) : ColU S (has D) [] :=
  ⟨List.nodup_nil, fun u => ⟨fun hu => by simp at hu, fun ⟨hu, hl⟩ => by
    obtain ⟨kl, hk⟩ := key_mk u.acc u.rcd (h.wf u hu).1 (h.wf u hu).2
    have := hl kl hk
    rw [(h.hit u hu kl hk).1] at this; cases this⟩⟩

theorem ColU.step {S : List Us} (hS : SortedU S) {left : Lit → Bool} {L : List Us} (h : ColU S left L) {u : Us} (hu : u ∈ S) {kl : Lit} (hk : keyOf Try.prog 69 (kv u.acc u.rcd) = some kl) (hl : left kl = true) :
    ColU S (fun x => left x && !x.sameKey kl) (L ++ [u]) := by
  have hnew : u ∉ L := fun hx => by have := ((h.2 u).1 hx).2 kl hk; rw [hl] at this; cases this
  have hkk := WideAt.sameKey_self (keyedS.key hk)
  refine ⟨List.nodup_append.2 ⟨h.1, by simp, fun a ha b hb => by simp at hb; subst hb; exact fun e => hnew (e ▸ ha)⟩, fun v => ?_⟩
  rw [List.mem_append, List.mem_singleton]
  constructor
  · rintro (hv | rfl)
    · obtain ⟨h1, h2⟩ := (h.2 v).1 hv
      exact ⟨h1, fun kl' hk' => by dsimp only; rw [h2 kl' hk']; rfl⟩
    · exact ⟨hu, fun kl' hk' => by rw [hk] at hk'; cases hk'; dsimp only; rw [hkk]; simp⟩
  · rintro ⟨hv, hl'⟩
    by_cases e : v = u
    · exact .inr e
    · left
      refine (h.2 v).2 ⟨hv, fun kl' hk' => ?_⟩
      have := hl' kl' hk'
      dsimp only at this
      have hn : kl'.sameKey kl = false := sameKey_ne (fun e2 => e (by
        subst e2
        have := kv_inj hk' hk
        have f1 := findU_mem hS hv
        have f2 := findU_mem hS hu
        rw [this.1, this.2, f2] at f1
        exact (Option.some.inj f1).symm))
      rw [hn] at this
      simpa using this

theorem ColU.perm {S : List Us} (hS : SortedU S) {left : Lit → Bool} {L : List Us} (h : ColU S left L) (hl : ∀ kl, left kl = false) : L.Perm S := by
  refine (List.perm_ext_iff_of_nodup h.1 ?_).2 fun u => by rw [h.2 u]; exact ⟨fun q => q.1, fun q => ⟨q, fun kl _ => hl kl⟩⟩
  exact List.Pairwise.imp (fun {u v} h e => by subst e; unfold ltK at h; omega) hS

theorem size_le {W : World} {B n : Nat} {D : DataW Unit} (h : W.ownsMap Try.prog 69 RP B n D) : Maps.size D ≤ n := by
  obtain ⟨es, cl, _, _, h1, rfl⟩ := h
  rw [size_eq, length_sorted]; simpa using h1

end Go.Proofs.Ytbkmcncakpmgkaa
