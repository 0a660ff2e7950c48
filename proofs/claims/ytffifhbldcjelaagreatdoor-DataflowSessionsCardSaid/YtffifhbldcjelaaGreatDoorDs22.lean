/-
  A region that draws its order inside a fence: reads first, in whatever order, then what hangs on all of them.
-/
import Derived.Test.YtffifhbldcjelaaGreatDoorDs21
import Derived.Test.YtffifhbldcjelaaGreatDoorDs18

/-! A region that draws its order inside a fence: reads first, in whatever order, then what hangs on all of them. -/
namespace Go.Proofs.YtffifhbldcjelaaGreatDoor
set_option linter.unusedVariables false
open Go.RowKit

def unl : List Bool → Nat
  | [] => 0
  | b :: t => (if b = true then 0 else 1) + unl t
theorem unl_set : ∀ (l : List Bool) (i : Nat), l[i]? = some false → unl (l.set i true) + 1 = unl l
  | [], i, h => by simp at h
  | b :: t, 0, h => by simp at h; subst h; simp [unl]; omega
  | b :: t, i + 1, h => by
    have := unl_set t i (by simpa using h)
    simp only [List.set_cons_succ, unl]; omega
theorem unl_zero : ∀ (l : List Bool) (i : Nat), unl l = 0 → l[i]? ≠ some false
  | [], i, h => by simp
  | b :: t, 0, h => by unfold unl at h; cases b <;> simp at h ⊢
  | b :: t, i + 1, h => by unfold unl at h; simpa using unl_zero t i (by omega)
theorem ready_mem {md : Region.Mode} {ops : Array Oper} {listed : Array Bool} {i : Nat} : i ∈ Region.ready md ops listed ↔ i < ops.size ∧ listed[i]? = some false ∧ ((ops[i]?).map (·.after.all fun e => !Region.binds md e || listed.getD e.on false)).getD false = true := by
  unfold Region.ready
  rw [List.mem_filter, List.mem_range, Bool.and_eq_true]
  refine and_congr_right fun h1 => and_congr_left fun h3 => ?_
  rw [Array.getD_eq_getD_getElem?]
  cases hx : listed[i]? with
  | none => simp
  | some b => cases b <;> simp

def depOn (md : Region.Mode) (o : Oper) (j : Nat) : Bool := o.after.any fun e => Region.binds md e && decide (e.on = j)
def isSel : Op → Bool
  | .select _ _ => true
  | _ => false
def rdA (md : Region.Mode) (ops : Array Oper) (base k i : Nat) : Bool :=
  match ops[i]? with
  | none => false
  | some o => decide (o.dst = some (base + i)) && o.guard.isNone && !isSel o.op && (o.op.operands.toList.all fun x => match x with | .tmp t => decide (t < base) || decide (base + k ≤ t) || depOn md o (t - base) | _ => true) && o.after.toList.all fun e => !Region.binds md e || decide (e.on < i)
def rdB (md : Region.Mode) (ops : Array Oper) (k j : Nat) : Bool := (List.range (k + 1)).any fun i => decide (j < i) && (match ops[i]? with | none => false | some o => depOn md o j)
def rdC (md : Region.Mode) (ops : Array Oper) (k i : Nat) : Bool := decide (i ≤ k) || (match ops[i]? with | none => false | some o => o.after.toList.any fun e => Region.binds md e && decide (k ≤ e.on))
def rdChk (md : Region.Mode) (ops : Array Oper) (base k : Nat) : Bool :=
  (List.range k).all (rdA md ops base k) && (List.range k).all (rdB md ops k) && (List.range ops.size).all (rdC md ops k) && decide (k < ops.size)

/-- the first k are listed, the others not -/
def Lk (n k : Nat) : Array Bool := (Array.range n).map fun i => decide (i < k)

theorem wpAnyIn_reads {F : Fence} {n : Nat} {P : Program} {md : Region.Mode} {ops : Array Oper} {Q : Exit → Act → World → Prop} {base k : Nat} {a0 af : Act} {W : World}
    (hro : F.round = none) (hc : rdChk md ops base k = true) (hsz : af.tmps.size = a0.tmps.size) (hbk : base + k ≤ a0.tmps.size) (hdf : af.defers = a0.defers) (hot : ∀ s, s < base ∨ base + k ≤ s → af.tmps[s]? = a0.tmps[s]?)
    (hrun : ∀ i, i < k → ∃ o, ops[i]? = some o ∧ (execOp af.eval o).run P W = .ok (.value (af.tmps.getD (base + i) undef)) W ∧ o.about P W af.eval = none)
    (h : wpAnyIn F n P md ops Q (unl (Lk ops.size k).toList) (Lk ops.size k) af W) :
    wpAnyIn F n P md ops Q (unl (Array.replicate ops.size false).toList) (Array.replicate ops.size false) a0 W := by
  unfold rdChk at hc
  simp only [Bool.and_eq_true, List.all_eq_true, List.mem_range, decide_eq_true_eq] at hc
  obtain ⟨⟨⟨hA, hB⟩, hC⟩, hk⟩ := hc
  have listD : ∀ (L : Array Bool) (j : Nat), L.getD j false = true ↔ L[j]? = some true := fun L j => by
    rw [Array.getD_eq_getD_getElem?]
    cases L[j]? with
    | none => simp
    | some b => cases b <;> simp
  have main : ∀ (fuel : Nat) (listed : Array Bool) (a : Act), unl listed.toList = fuel → listed.size = ops.size → (∀ j, k ≤ j → listed[j]? ≠ some true) →
      (∀ j : Nat, listed[j]? = some true → ∀ o : Oper, ops[j]? = some o → ∀ e ∈ o.after.toList, Region.binds md e = true → listed[e.on]? = some true) →
      a.defers = a0.defers → a.tmps.size = a0.tmps.size → (∀ s : Nat, a.tmps[s]? = if base ≤ s ∧ s < base + k ∧ listed[s - base]? = some true then af.tmps[s]? else a0.tmps[s]?) →
      wpAnyIn F n P md ops Q fuel listed a W := by
    intro fuel
    induction fuel with
    | zero =>
      intro listed a hu hls hnk hcl hd hs ht
      have : listed[k]? = some false := by
        have h1 : k < listed.size := by omega
        have h2 := hnk k (Nat.le_refl _)
        rw [Array.getElem?_eq_getElem h1] at h2 ⊢
        cases hb : listed[k]
        · rfl
        · rw [hb] at h2; exact absurd rfl h2
      exact absurd (by rw [Array.getElem?_toList]; exact this) (unl_zero listed.toList k hu)
    | succ fuel ih =>
      intro listed a hu hls hnk hcl hd hs ht
      by_cases hall : ∀ j, j < k → listed[j]? = some true
      · have e1 : listed = Lk ops.size k := by
          apply Array.ext
          · simp [Lk, hls]
          · intro j h1 h2
            have h3 : j < ops.size := by omega
            simp only [Lk, Array.getElem_map, Array.getElem_range]
            by_cases hj : j < k
            · have := hall j hj
              rw [Array.getElem?_eq_getElem h1] at this
              rw [decide_eq_true hj]; exact Option.some.inj this
            · have := hnk j (by omega)
              rw [Array.getElem?_eq_getElem h1] at this
              rw [decide_eq_false hj]
              cases hb : listed[j]
              · rfl
              · rw [hb] at this; exact absurd rfl this
        have e2 : a = af := by
          obtain ⟨at', ad'⟩ := a
          obtain ⟨aft, afd⟩ := af
          simp only at *
          have : at' = aft := by
            apply Array.ext_getElem?
            intro s
            rw [ht s]
            by_cases hr : base ≤ s ∧ s < base + k
            · rw [if_pos ⟨hr.1, hr.2, hall _ (by omega)⟩]
            · rw [if_neg (fun q => hr ⟨q.1, q.2.1⟩), hot s (by omega)]
          rw [this, hd, hdf]
        rw [← hu, e1, e2]
        exact h
      · have hall' : ∃ j, j < k ∧ listed[j]? ≠ some true := Classical.byContradiction fun q => hall fun j hj => Classical.byContradiction fun q2 => q ⟨j, hj, q2⟩
        have asF : ∀ j, j < ops.size → listed[j]? ≠ some true → listed[j]? = some false := fun j hj hn => by
          have h1 : j < listed.size := by omega
          rw [Array.getElem?_eq_getElem h1] at hn ⊢
          cases hb : listed[j]
          · rfl
          · rw [hb] at hn; exact absurd rfl hn
        refine ⟨fun hnil => ?_, fun i hi => ?_⟩
        · exfalso
          obtain ⟨j0, hj0, hn0⟩ := hall'
          obtain ⟨j, hjk, hjn, hmin⟩ : ∃ j, j < k ∧ listed[j]? ≠ some true ∧ ∀ i, i < j → listed[i]? = some true := by
            have : ∀ m, ∀ j0, j0 ≤ m → j0 < k → listed[j0]? ≠ some true → ∃ j, j < k ∧ listed[j]? ≠ some true ∧ ∀ i, i < j → listed[i]? = some true := by
              intro m
              induction m with
              | zero =>
                intro j0 h1 h2 h3
                exact ⟨j0, h2, h3, fun i hi => by omega⟩
              | succ m ihm =>
                intro j0 h1 h2 h3
                by_cases q : ∀ i, i < j0 → listed[i]? = some true
                · exact ⟨j0, h2, h3, q⟩
                · obtain ⟨i, hi1, hi2⟩ : ∃ i, i < j0 ∧ listed[i]? ≠ some true := Classical.byContradiction fun q1 => q fun i hi => Classical.byContradiction fun q2 => q1 ⟨i, hi, q2⟩
                  exact ihm i (by omega) (by omega) hi2
            exact this j0 j0 (Nat.le_refl _) hj0 hn0
          have hrd : j ∈ Region.ready md ops listed := by
            rw [ready_mem]
            refine ⟨by omega, asF j (by omega) hjn, ?_⟩
            have hAj := hA j hjk
            unfold rdA at hAj
            cases ho : ops[j]? with
            | none => rw [ho] at hAj; cases hAj
            | some o =>
              rw [ho] at hAj
              simp only [Bool.and_eq_true, List.all_eq_true] at hAj
              simp only [Option.map_some, Option.getD_some]
              rw [← Array.all_toList, List.all_eq_true]
              intro e he
              have := hAj.2 e he
              rw [Bool.or_eq_true] at this ⊢
              rcases this with q | q
              · exact .inl q
              · exact .inr ((listD _ _).2 (hmin _ (of_decide_eq_true q)))
          rw [hnil] at hrd
          cases hrd
        · obtain ⟨hi1, hi2, hi3⟩ := ready_mem.1 hi
          have dep : ∀ o : Oper, ops[i]? = some o → ∀ e ∈ o.after.toList, Region.binds md e = true → listed[e.on]? = some true := fun o ho e he hb => by
            rw [ho] at hi3
            simp only [Option.map_some, Option.getD_some] at hi3
            rw [← Array.all_toList, List.all_eq_true] at hi3
            have := hi3 e he
            rw [Bool.or_eq_true] at this
            rcases this with q | q
            · rw [hb] at q; cases q
            · exact (listD _ _).1 q
          by_cases hik : i < k
          · obtain ⟨o, ho, hex, hab⟩ := hrun i hik
            have hAi := hA i hik
            unfold rdA at hAi
            rw [ho] at hAi
            simp only [Bool.and_eq_true, List.all_eq_true, decide_eq_true_eq] at hAi
            obtain ⟨⟨⟨⟨c1, c2⟩, c3⟩, c4⟩, c5⟩ := hAi
            have hsel : ∀ cs b, o.op ≠ .select cs b := fun cs b q => by rw [q] at c3; cases c3
            have hev : ∀ x ∈ o.op.operands, a.eval x = af.eval x := fun x hx => by
              have hx4 := c4 x (by simpa using hx)
              cases x with
              | tmp t =>
                show a.tmps.getD t undef = af.tmps.getD t undef
                rw [Array.getD_eq_getD_getElem?, Array.getD_eq_getD_getElem?, ht t]
                by_cases hr : @LE.le Nat _ base t ∧ @LT.lt Nat _ t (base + k)
                · have hdp : depOn md o (t - base) = true := by
                    simp only [Bool.or_eq_true, decide_eq_true_eq] at hx4
                    rcases hx4 with (q | q) | q
                    · exact absurd hr.1 (Nat.not_le_of_lt q)
                    · exact absurd hr.2 (Nat.not_lt_of_le q)
                    · exact q
                  unfold depOn at hdp
                  rw [← Array.any_toList, List.any_eq_true] at hdp
                  obtain ⟨e, he, hbe⟩ := hdp
                  rw [Bool.and_eq_true, decide_eq_true_eq] at hbe
                  have := dep o ho e he hbe.1
                  rw [hbe.2] at this
                  rw [if_pos ⟨hr.1, hr.2, this⟩]
                · rw [if_neg (fun q => hr ⟨q.1, q.2.1⟩), hot t ((Nat.lt_or_ge t base).imp id fun q => Nat.le_of_not_lt fun q2 => hr ⟨q, q2⟩)]
              | const v => rfl
              | global g => rfl
              | func f => rfl
            unfold wpOpIn
            rw [ho]
            have hw : Region.wanted o (yielded ops a.tmps) = true := by
              unfold Region.wanted
              rw [Option.isNone_iff_eq_none.1 c2]
            simp only [hw, if_true]
            unfold Oper.wpIn
            refine ⟨fun f hf => (by rw [about_congr o W hev, hab] at hf; cases hf), ?_⟩
            rw [hro, Oper.semAt_none, execOp_congr o hsel hev, hex, Oper.uponIn_value, c1]
            have hus := unl_set listed.toList i (by rw [Array.getElem?_toList]; exact hi2)
            rw [← Array.toList_setIfInBounds] at hus
            have gset : ∀ j, (listed.setIfInBounds i true)[j]? = if j = i then some true else listed[j]? := fun j => by
              rw [Array.getElem?_setIfInBounds]
              by_cases e : i = j
              · subst e
                rw [if_pos rfl, if_pos (by omega), if_pos rfl]
              · rw [if_neg e, if_neg (fun q => e q.symm)]
            refine ih _ _ (by omega) (by simp [hls]) (fun j hj => ?_) (fun j hj o' ho' e he hb => ?_) hd (by simp [Act.put, hs]) (fun s => ?_)
            · rw [gset, if_neg (by omega)]; exact hnk j hj
            · rw [gset]
              by_cases e1 : e.on = i
              · rw [if_pos e1]
              · rw [if_neg e1]
                rw [gset] at hj
                by_cases e2 : j = i
                · subst e2
                  rw [ho] at ho'
                  cases ho'
                  exact dep o ho e he hb
                · rw [if_neg e2] at hj
                  exact hcl j hj o' ho' e he hb
            · show (a.tmps.setIfInBounds (base + i) _)[s]? = _
              rw [Array.getElem?_setIfInBounds, gset]
              by_cases e1 : base + i = s
              · subst e1
                rw [if_pos rfl, if_pos (by omega), if_pos ⟨by omega, by omega, by rw [if_pos (by omega)]⟩, Array.getD_eq_getD_getElem?, Array.getElem?_eq_getElem (by omega)]
                rfl
              · rw [if_neg e1, ht s]
                by_cases hr : base ≤ s ∧ s < base + k
                · rw [if_neg (show ¬ s - base = i by omega)]
                · rw [if_neg (fun q => hr ⟨q.1, q.2.1⟩), if_neg (fun q => hr ⟨q.1, q.2.1⟩)]
          · exfalso
            cases ho : ops[i]? with
            | none => rw [Array.getElem?_eq_none_iff] at ho; omega
            | some o =>
              by_cases e1 : i = k
              · subst e1
                have up : ∀ m, ∀ j, j < i → i - j ≤ m → listed[j]? = some true := by
                  intro m
                  induction m with
                  | zero => intro j h1 h2; omega
                  | succ m ihm =>
                    intro j h1 h2
                    have hBj := hB j h1
                    unfold rdB at hBj
                    rw [List.any_eq_true] at hBj
                    obtain ⟨q, hq, hq2⟩ := hBj
                    rw [List.mem_range] at hq
                    rw [Bool.and_eq_true, decide_eq_true_eq] at hq2
                    obtain ⟨hq2, hq3⟩ := hq2
                    cases hoq : ops[q]? with
                    | none => rw [hoq] at hq3; cases hq3
                    | some oq =>
                      rw [hoq] at hq3
                      simp only at hq3
                      unfold depOn at hq3
                      rw [← Array.any_toList, List.any_eq_true] at hq3
                      obtain ⟨e, he, hbe⟩ := hq3
                      rw [Bool.and_eq_true, decide_eq_true_eq] at hbe
                      rw [← hbe.2]
                      by_cases e2 : q = i
                      · subst e2
                        exact dep oq hoq e he hbe.1
                      · exact hcl q (ihm q (by omega) (by omega)) oq hoq e he hbe.1
                exact hall fun j hj => up i j hj (by omega)
              · have hCi := hC i hi1
                unfold rdC at hCi
                rw [Bool.or_eq_true, decide_eq_true_eq, ho] at hCi
                rcases hCi with q | q
                · omega
                · simp only at q
                  rw [List.any_eq_true] at q
                  obtain ⟨e, he, hbe⟩ := q
                  rw [Bool.and_eq_true, decide_eq_true_eq] at hbe
                  exact hnk _ hbe.2 (dep o ho e he hbe.1)
  refine main _ _ a0 rfl (by simp) (fun j _ q => ?_) (fun j q => ?_) rfl rfl (fun s => ?_)
  · rw [Array.getElem?_replicate] at q
    split at q <;> simp at q
  · rw [Array.getElem?_replicate] at q
    split at q <;> simp at q
  · rw [if_neg]
    rintro ⟨_, _, q⟩
    rw [Array.getElem?_replicate] at q
    split at q <;> simp at q

theorem unl_rep : ∀ n : Nat, unl (Array.replicate n false).toList = n := fun n => by
  rw [Array.toList_replicate]
  induction n with
  | zero => rfl
  | succ n ih => rw [List.replicate_succ]; show (if false = true then 0 else 1) + unl _ = _; rw [ih]; simp; omega
def setAll (t : Array Value) : Nat → List Value → Array Value
  | _, [] => t
  | b, v :: r => setAll (t.setIfInBounds b v) (b + 1) r
theorem setAll_size : ∀ (vs : List Value) (t : Array Value) (b : Nat), (setAll t b vs).size = t.size
  | [], _, _ => rfl
  | v :: r, t, b => by rw [setAll, setAll_size r]; simp
theorem setAll_other : ∀ (vs : List Value) (t : Array Value) (b s : Nat), s < b ∨ b + vs.length ≤ s → (setAll t b vs)[s]? = t[s]?
  | [], _, _, _, _ => rfl
  | v :: r, t, b, s, h => by
    simp only [List.length_cons] at h
    rw [setAll, setAll_other r _ _ s (by omega), Array.getElem?_setIfInBounds, if_neg (by omega)]
/-- the region, written so that a walk can use it: vs are what the reads yield -/
theorem wpIn_region_reads {F : Fence} {n : Nat} {P : Program} {id : Nat} {ops : Array Oper} {Q : Exit → Act → World → Prop} {base m : Nat} {L : Array Bool} {t0 : Array Value} {df : List Deferred} {W : World} (vs : List Value)
    (hm : P.follows .mixedOrders = true) (hro : F.round = none) (hc : rdChk .any ops base vs.length = true) (hbk : base + vs.length ≤ t0.size) (hL : Lk ops.size vs.length = L) (hu : unl L.toList = m)
    (hrun : ∀ i, i < vs.length → ∃ o, ops[i]? = some o ∧ (execOp (Act.eval { tmps := setAll t0 base vs, defers := df }) o).run P W.drew = .ok (.value ((setAll t0 base vs).getD (base + i) undef)) W.drew ∧ o.about P W.drew (Act.eval { tmps := setAll t0 base vs, defers := df }) = none)
    (h : wpAnyIn F n P .any ops Q m L { tmps := setAll t0 base vs, defers := df } W.drew) : (Code.region id ops true).wpIn F n P Q { tmps := t0, defers := df } W := by
  refine wpIn_region_any hm ?_
  have := wpAnyIn_reads (F := F) (n := n) (P := P) (md := .any) (ops := ops) (Q := Q) (base := base) (k := vs.length) (a0 := { tmps := t0, defers := df }) (af := { tmps := setAll t0 base vs, defers := df }) (W := W.drew) hro hc (setAll_size _ _ _) hbk rfl (fun s hs => setAll_other vs t0 base s hs) hrun (by rw [hL, hu]; exact h)
  rw [unl_rep] at this
  exact this

end Go.Proofs.YtffifhbldcjelaaGreatDoor
