/-
  A map of maps: the weights of recordings, by account.
-/
import Derived.Test.YtbkmcncakpmgkaaHld
namespace Go.Proofs.Ytbkmcncakpmgkaa
set_option linter.unusedVariables false
open Go.ChangeShapes Go.WideShapes Go.ChangeAt Go.RowKit Go.Shelf Go.Maps Go.Sort

/-- how an element that is a map reads: its block's number; -1 for nil -/
def RM (v : Value) : Option (DataW Unit × List MemPlace) :=
  match v with
  | .map (some b) => some (.lit (.int .i64 (b : Int)), [])
  | .map none => some (.lit (.int .i64 (-1)), [])
  | _ => none

theorem RM_inv {v : Value} {z : Int} {ps : List MemPlace} (h : RM v = some (.lit (.int .i64 z), ps)) : (z = -1 ∧ v = .map none) ∨ ∃ b : Nat, z = b ∧ v = .map (some b) := by
  unfold RM at h
  split at h
  · simp at h; exact .inr ⟨_, h.1.symm, rfl⟩
  · simp at h; exact .inl ⟨h.1.symm, rfl⟩
  · cases h

def getZ (z : Int) : List (Int × Int) → Int → Int
  | [], _ => z
  | p :: t, r => if p.1 = r then p.2 else getZ z t r

theorem md_atZ (z : Int) (l : List (Int × Int)) (r : Int) : (MD l).atKey (.int .i64 r) (.lit (.int .i64 z)) = .lit (.int .i64 (getZ z l r)) := by
  induction l with
  | nil => rfl
  | cons s t ih =>
    unfold MD DataW.atKey at ih ⊢
    dsimp only at ih ⊢
    unfold getZ
    by_cases h : s.1 = r
    · simp [encE, Lit.sameKey, h]
    · rw [if_neg h, ← ih]
      simp [encE, Lit.sameKey, h]
theorem getZ_no {z r : Int} : ∀ {l : List (Int × Int)}, (∀ p ∈ l, p.1 ≠ r) → getZ z l r = z
  | [], _ => rfl
  | p :: t, h => by
    unfold getZ
    rw [if_neg (h p (by simp)), getZ_no (fun q hq => h q (by simp [hq]))]
theorem getZ_mem {z : Int} {l : List (Int × Int)} (ha : Asc l) {p : Int × Int} (hp : p ∈ l) : getZ z l p.1 = p.2 := by
  induction l with
  | nil => simp at hp
  | cons s t ih =>
    obtain ⟨h1, h2⟩ := List.pairwise_cons.1 ha
    rcases List.mem_cons.1 hp with rfl | hp
    · simp [getZ]
    · have := h1 p hp
      unfold getZ
      rw [if_neg (by omega)]
      exact ih h2 hp

theorem mem_addGo_new {r n : Int} {p : Int × Int} : ∀ {l : List (Int × Int)}, Asc l → (∀ p ∈ l, p.1 ≠ r) → (p ∈ addGo r n false l ↔ p = (r, n) ∨ p ∈ l)
  | [], _, _ => by simp [addGo]
  | s :: t, ha, h => by
    obtain ⟨h1, h2⟩ := List.pairwise_cons.1 ha
    have hs := h s (by simp)
    unfold addGo
    rcases Int.lt_trichotomy r s.1 with q | q | q
    · rw [if_pos ⟨rfl, q⟩, if_neg (by omega), decide_eq_true q]
      simp only [Bool.false_or, Bool.true_or, List.cons_append, List.nil_append]
      rw [addGo_true (fun p hp => h p (by simp [hp]))]
      simp
    · exact absurd q.symm hs
    · rw [if_neg (by omega), if_neg (by omega), decide_eq_false (by omega), decide_eq_false (by omega)]
      simp only [Bool.or_false, List.nil_append]
      rw [List.mem_cons, mem_addGo_new h2 (fun p hp => h p (by simp [hp])), List.mem_cons]
      constructor
      · rintro (e | e | e)
        · exact .inr (.inl e)
        · exact .inl e
        · exact .inr (.inr e)
      · rintro (e | e | e)
        · exact .inr (.inl e)
        · exact .inl e
        · exact .inr (.inr e)

/-- the outer map -/
def OwnsO (w : World) (b n : Nat) (l : List (Int × Int)) : Prop := w.ownsMap (H := Unit) Try.prog 3 RM b n (MD l) ∧ Asc l
theorem OwnsO.kept {w w' : World} {b n : Nat} {l : List (Int × Int)} (h : OwnsO w b n l) (hb : w'.heap[b]? = w.heap[b]?) : OwnsO w' b n l := by
  obtain ⟨⟨es, cl, h1, h2⟩, h3⟩ := h
  exact ⟨⟨es, cl, hb.trans h1, h2⟩, h3⟩
theorem OwnsO.lt {w : World} {b n : Nat} {l : List (Int × Int)} (h : OwnsO w b n l) : b < w.heap.size := h.1.lt

theorem OwnsO.look {w : World} {b n : Nat} {l : List (Int × Int)} (h : OwnsO w b n l) (r : Int) (hw : (Lit.int .i64 r).wf = true) :
    ∃ mo : Option Nat, (Instr.lookup 53 (.map (some b)) (.int .i64 r) false).run Try.prog w = .ok (.map mo) w ∧ ((mo = none ∧ getZ (-1) l r = -1) ∨ ∃ k : Nat, mo = some k ∧ getZ (-1) l r = k) := by
  obtain ⟨v, ps, hrun, hv⟩ := h.1.lookup keyed Try.underlying53 (Try.zeroValue57 _) (z := .map none) (zd := .lit (.int .i64 (-1))) (zp := []) rfl (keyOf_int_mk Try.underlying3 hw)
  rw [md_atZ] at hv
  rcases RM_inv hv with ⟨h1, rfl⟩ | ⟨k, h1, rfl⟩
  · exact ⟨none, hrun, .inl ⟨rfl, h1⟩⟩
  · exact ⟨some k, hrun, .inr ⟨k, rfl, h1⟩⟩

/-- the weights of one account -/
def wgA (a : Int) (l : List Us) : List (Int × Int) := wgU (l.filter fun u => u.acc == a)
theorem wgA_snoc (a : Int) (l : List Us) (u : Us) : wgA a (l ++ [u]) = if u.acc = a then addGo u.rcd (u.val + u.held) false (wgA a l) else wgA a l := by
  unfold wgA
  rw [List.filter_append]
  by_cases h : u.acc = a
  · rw [if_pos h, show [u].filter (fun u => u.acc == a) = [u] by simp [h], wgU_snoc]
  · rw [if_neg h, show [u].filter (fun u => u.acc == a) = [] by simp [h], List.append_nil]

theorem wgA_cnt (a : Int) (l : List Us) : wgA a (cntL l) = weightsL false a l := by
  have H : ∀ (l : List Us) (o : List (Int × Int)), ((cntL l).filter fun u => u.acc == a).foldl wgtStep o = l.foldl (wStep false a) o := by
    intro l
    induction l with
    | nil => intro o; rfl
    | cons u t ih =>
      intro o
      unfold cntL at ih ⊢
      by_cases h : countsB u = true
      · rw [List.filter_cons_of_pos h]
        by_cases h2 : u.acc = a
        · rw [List.filter_cons_of_pos (by simp [h2]), List.foldl_cons, List.foldl_cons, ih]
          congr 1
          unfold wStep; rw [if_pos ⟨h, .inr h2⟩]; rfl
        · rw [List.filter_cons_of_neg (by simp [h2]), List.foldl_cons, ih]
          congr 1
          unfold wStep; rw [if_neg (fun q => by rcases q.2 with q | q; cases q; exact h2 q)]
      · rw [List.filter_cons_of_neg h, List.foldl_cons, ih]
        congr 1
        unfold wStep; rw [if_neg (fun q => h q.1)]
  exact H l []

theorem wgA_bd (a : Int) {xs : List Us} (hc : ∀ u ∈ xs, countsB u = true) : AmtLe (2000000000 * xs.length) (wgA a xs) ∧ (wgA a xs).length ≤ xs.length ∧ Asc (wgA a xs) := by
  have := wgU_bd (xs := xs.filter fun u => u.acc == a) (fun u hu => hc u (List.mem_filter.1 hu).1)
  have hl := List.length_filter_le (fun u : Us => u.acc == a) xs
  exact ⟨this.1.mono (by omega), by unfold wgA; omega, this.2.2⟩

/-- between two rounds -/
structure UI (V W : World) (B : Nat) (pre : List Us) (om : List (Int × Int)) (O : Nat → Prop) : Prop where
  out : OwnsO W B pre.length om
  inn : ∀ p ∈ om, ∃ k : Nat, p.2 = k ∧ V.heap.size ≤ k ∧ OwnsM W k pre.length (wgA p.1 pre)
  inj : ∀ p ∈ om, ∀ q ∈ om, p.2 = q.2 → p.1 = q.1
  non : ∀ a, (∀ p ∈ om, p.1 ≠ a) → wgA a pre = []
  own : ∀ k, O k ↔ k = B ∨ ∃ p ∈ om, p.2 = (k : Int)
  chg : Chg (fun k => k = B) V W

theorem UI.abide {V W W' : World} {B : Nat} {pre : List Us} {om : List (Int × Int)} {O C : Nat → Prop} (h : UI V W B pre om O) (hc : Chg C W W') (hC : ∀ k, C k → V.heap.size ≤ k ∧ ¬ O k) : UI V W' B pre om O :=
  ⟨h.out.kept (hc.block _ h.out.lt (fun c => (hC _ c).2 ((h.own _).2 (.inl rfl)))),
    fun p hp => by
      obtain ⟨k, h1, h2, h3⟩ := h.inn p hp
      exact ⟨k, h1, h2, h3.kept (hc.block _ h3.lt (fun c => (hC _ c).2 ((h.own _).2 (.inr ⟨p, hp, h1⟩))))⟩,
    h.inj, h.non, h.own, h.chg.trans (hc.mono (fun k _ c => .inr (hC k c).1))⟩

/-- a usage of an account that is there -/
theorem UI.add {V W W' : World} {B k : Nat} {pre : List Us} {om : List (Int × Int)} {O : Nat → Prop} (h : UI V W B pre om O) (hB : B < V.heap.size) (u : Us) (hp : (u.acc, (k : Int)) ∈ om) (hg : W.grownBy W' (some k)) (ho : OwnsM W' k (pre.length + 1) (addGo u.rcd (u.val + u.held) false (wgA u.acc pre))) : UI V W' B (pre ++ [u]) om O := by
  have hkV : V.heap.size ≤ k := by
    obtain ⟨k', e, h2, _⟩ := h.inn _ hp
    have e' : (k : Int) = k' := e
    omega
  refine ⟨?_, fun p hp' => ?_, h.inj, fun a ha => ?_, h.own, h.chg.trans (Chg.grown hg (fun j e => by cases e; exact .inr hkV))⟩
  · have := h.out.kept (hg.block B h.out.lt (fun e => by cases e; omega))
    exact ⟨this.1.mono (by rw [List.length_append]; omega), this.2⟩
  · obtain ⟨k', h1, h2, h3⟩ := h.inn p hp'
    refine ⟨k', h1, h2, ?_⟩
    by_cases e : k' = k
    · subst e
      have hpa := h.inj p hp' _ hp (by rw [h1])
      dsimp only at hpa
      rw [wgA_snoc, if_pos hpa.symm, hpa, List.length_append]
      exact ho
    · have hne : p.1 ≠ u.acc := fun e2 => e (by
        have m1 := getZ_mem (z := 0) h.out.2 hp'
        have m2 := getZ_mem (z := 0) h.out.2 hp
        dsimp only at m2
        rw [e2, m2, h1] at m1
        omega)
      rw [wgA_snoc, if_neg (fun e => hne e.symm), List.length_append]
      exact (h3.kept (hg.block k' h3.lt (fun e' => e (by cases e'; rfl)))).mono (by omega)
  · rw [wgA_snoc, if_neg (fun e => ha _ hp e)]
    exact h.non a ha

/-- an account that is new -/
theorem UI.new {V W W' : World} {B : Nat} {pre : List Us} {om : List (Int × Int)} {O : Nat → Prop} (h : UI V W B pre om O) (hB : B < V.heap.size) (a : Int) (hn : ∀ p ∈ om, p.1 ≠ a) (hg : (W.alloc (.map #[] 0)).grownBy W' (some B)) (ho : OwnsO W' B (pre.length + 1) (addGo a (W.heap.size : Int) false om)) :
    OwnsM W' W.heap.size 0 [] ∧ (a, (W.heap.size : Int)) ∈ addGo a (W.heap.size : Int) false om ∧
    (∀ u W'', W'.grownBy W'' (some W.heap.size) → OwnsM W'' W.heap.size (pre.length + 1) (addGo u.rcd (u.val + u.held) false []) → u.acc = a → UI V W'' B (pre ++ [u]) (addGo a (W.heap.size : Int) false om) (fun k => k = B ∨ ∃ p ∈ addGo a (W.heap.size : Int) false om, p.2 = (k : Int))) := by
  have hBW : B < W.heap.size := h.out.lt
  have hVW := h.chg.size
  have hmade : OwnsM W' W.heap.size 0 [] := (OwnsM.made W).kept (hg.block _ (by simp) (fun e => by cases e; omega))
  refine ⟨hmade, (mem_addGo_new h.out.2 hn).2 (.inl rfl), fun u W'' hg2 ho2 hua => ?_⟩
  subst hua
  refine ⟨?_, fun p hp => ?_, fun p hp q hq e => ?_, fun a ha => ?_, fun k => Iff.rfl, (h.chg.trans (Chg.alloc _ _ _)).trans ((Chg.grown hg (fun j e => by cases e; exact .inl rfl)).trans (Chg.grown hg2 (fun j e => by cases e; exact .inl (.inr (by omega)))))⟩
  · have := ho.kept (hg2.block B ho.lt (fun e => by cases e; omega))
    rw [List.length_append]; exact this
  · rcases (mem_addGo_new h.out.2 hn).1 hp with rfl | hp
    · refine ⟨W.heap.size, rfl, hVW, ?_⟩
      dsimp only
      rw [wgA_snoc, if_pos rfl, List.length_append, h.non u.acc hn]
      exact ho2
    · obtain ⟨k', h1, h2, h3⟩ := h.inn p hp
      have hlt := h3.lt
      refine ⟨k', h1, h2, ?_⟩
      rw [wgA_snoc, if_neg (fun e => hn p hp e.symm), List.length_append]
      refine (h3.kept ?_).mono (by omega)
      rw [hg2.block k' (by have := hg.size; simp at this; omega) (fun e => by cases e; omega), hg.block k' (by simp; omega) (fun e => by cases e; omega), Below.heap_alloc _ _ _ hlt]
  · rcases (mem_addGo_new h.out.2 hn).1 hp with rfl | hp
    · rcases (mem_addGo_new h.out.2 hn).1 hq with rfl | hq
      · rfl
      · obtain ⟨k', h1, _, h3⟩ := h.inn q hq
        have := h3.lt
        dsimp only at e; omega
    · rcases (mem_addGo_new h.out.2 hn).1 hq with rfl | hq
      · obtain ⟨k', h1, _, h3⟩ := h.inn p hp
        have := h3.lt
        dsimp only at e; omega
      · exact h.inj p hp q hq e
  · rw [wgA_snoc, if_neg (fun e => ha (u.acc, (W.heap.size : Int)) ((mem_addGo_new h.out.2 hn).2 (.inl rfl)) e)]
    exact h.non a (fun p hp => ha p ((mem_addGo_new h.out.2 hn).2 (.inr hp)))

end Go.Proofs.Ytbkmcncakpmgkaa
