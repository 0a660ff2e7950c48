/-
  Maps as their entries lie: keys that are strings or pointers; look-up, store, delete, the next entry.
-/
import Derived.WalkKit
import Derived.LaidEqlPtr
import Derived.ChangeMaps4
import Derived.MapFrom
import Derived.Lib.Hide
import Derived.Below
import Derived.RangeFuncRecord
import Derived.Maps.RangeWalk

/-! Maps as their entries lie: keys that are strings or pointers; look-up, store, delete, the next entry. -/
namespace Go.Proofs.YtffifhbldcjelaaGreatDoor
set_option linter.unusedVariables false
set_option linter.unusedSimpArgs false
open Go.MapKept (bytes_beq)

open Classical in
/-- the first entry with the key x -/
noncomputable def findE (x : Value) : List MapEntry → Nat → Option (Nat × Value)
  | [], _ => none
  | e :: es, i => if e.key = x then some (i, e.val) else findE x es (i + 1)

/-- what a look-up needs of a key's type -/
structure RawKey (P : Program) (K : TypeId) (good : World → Value → Prop) : Prop where
  find : ∀ w x es, good w x → (∀ e ∈ es, good w e.key) → (Instr.findKey K x es).run P w = .ok (findE x es 0) w
  check : ∀ w em x, good w x → (Instr.checkKey em 10000 K x).run P w = .ok () w
  stays : ∀ w x, good w x → (Instr.keyThatStays x x).run P w = .ok x w

def goodS (w : World) (x : Value) : Prop := ∃ s, x = .string s
/-- a pointer to a block of cells -/
def goodP (w : World) (x : Value) : Prop := ∃ b cs t, x = .pointer (some ⟨b, 0, none⟩) ∧ w.heap[b]? = some (.cells cs t (0, 0))

theorem findNow_string (x : ByteArray) : ∀ (es : List MapEntry) (i : Nat), (∀ e ∈ es, ∃ s, e.key = .string s) → Instr.findNow .string (.string x) es i = some (findE (.string x) es i)
  | [], i, _ => rfl
  | e :: es, i, h => by
    obtain ⟨s, hs⟩ := h e (by simp)
    have ih := findNow_string x es (i + 1) (fun e he => h e (by simp [he]))
    unfold Instr.findNow findE
    rw [hs]
    by_cases hx : x = s
    · subst hx
      have hb : (x == x) = true := (bytes_beq x x).2 rfl
      simp [Instr.sameNow, hb]
    · have hne : ¬ s = x := fun h => hx h.symm
      have hb : (x == s) = false := by rw [Bool.eq_false_iff]; exact fun h => hx ((bytes_beq x s).1 h)
      simp [Instr.sameNow, hb, hne, ih]

theorem rawString {P : Program} {K : TypeId} (hK : P.underlying K = some .string) : RawKey P K goodS where
  find := fun w x es ⟨s, hs⟩ h => by
    subst hs
    simp [Instr.findKey, run_underlying hK, findNow_string s es 0 h]
  check := fun w em x ⟨s, hs⟩ => by
    subst hs
    show (Instr.checkKey em (9999 + 1) K _).run P w = _
    unfold Instr.checkKey
    simp only [Sem.run_bind, run_underlying hK, Result.andThen]
    rfl
  stays := fun w x ⟨s, hs⟩ => by
    subst hs
    have hb : (s == s) = true := (bytes_beq s s).2 rfl
    simp [Instr.keyThatStays, Instr.sameBits, hb]

theorem findAsking_ptr {P : Program} {K te : TypeId} {j : TypeInfo} (hK : P.underlying K = some (.pointer te)) (hte : P.info? te = some j) (hsz : j.size ≠ 0) (w : World) (b : Nat) (cs : Array Value) (t : TypeId) (hb : w.heap[b]? = some (.cells cs t (0, 0))) :
    ∀ (es : List MapEntry) (i : Nat), (∀ e ∈ es, goodP w e.key) → (Instr.findAsking K (.pointer (some ⟨b, 0, none⟩)) es i).run P w = .ok (findE (.pointer (some ⟨b, 0, none⟩)) es i) w
  | [], i, _ => by simp [Instr.findAsking, findE]
  | e :: es, i, h => by
    obtain ⟨b', cs', t', hk, hb'⟩ := h e (by simp)
    have ih := findAsking_ptr hK hte hsz w b cs t hb es (i + 1) (fun e he => h e (by simp [he]))
    unfold Instr.findAsking findE
    rw [hk]
    by_cases e1 : b = b'
    · subst e1
      have he0 : ∀ d : Nat, (Op.equalIn (d + 1) K (.pointer (some ⟨b, 0, none⟩)) (.pointer (some ⟨b, 0, none⟩))).run P w = .ok true w := fun d => by
        simp [Op.equalIn, run_underlying hK, sizeOf, typeInfo, hte, run_sameAddr_same]
      have he : (Op.equal K (.pointer (some ⟨b, 0, none⟩)) (.pointer (some ⟨b, 0, none⟩))).run P w = .ok true w := he0 9999
      simp [he]
    · have hne : (⟨b, 0, none⟩ : Addr) ≠ ⟨b', 0, none⟩ := fun h => e1 (by injection h)
      have he0 : ∀ d : Nat, (Op.equalIn (d + 1) K (.pointer (some ⟨b, 0, none⟩)) (.pointer (some ⟨b', 0, none⟩))).run P w = .ok false w := fun d => by
        simp [Op.equalIn, run_underlying hK, sizeOf, typeInfo, hte, hsz, run_sameAddr_other w hne hb hb']
      have he : (Op.equal K (.pointer (some ⟨b, 0, none⟩)) (.pointer (some ⟨b', 0, none⟩))).run P w = .ok false w := he0 9999
      have e2 : ¬ b' = b := fun h => e1 h.symm
      simp [he, e2, ih]

theorem findNow_ptr (te : TypeId) (x : Option Addr) (e : MapEntry) (es : List MapEntry) (i : Nat) : Instr.findNow (.pointer te) (.pointer x) (e :: es) i = none := by
  unfold Instr.findNow; simp [Instr.sameNow]

theorem rawPtr {P : Program} {K te : TypeId} {j : TypeInfo} (hK : P.underlying K = some (.pointer te)) (hte : P.info? te = some j) (hsz : j.size ≠ 0) : RawKey P K goodP where
  find := fun w x es ⟨b, cs, t, hx, hb⟩ h => by
    subst hx
    rcases es with _ | ⟨e, es⟩
    · simp [Instr.findKey, run_underlying hK, Instr.findNow, findE]
    · have := findAsking_ptr hK hte hsz w b cs t hb (e :: es) 0 h
      simp only [Instr.findKey, Sem.run_bind, run_underlying hK, Result.andThen_ok, findNow_ptr]
      exact this
  check := fun w em x ⟨b, cs, t, hx, hb⟩ => by
    subst hx
    show (Instr.checkKey em (9999 + 1) K _).run P w = _
    unfold Instr.checkKey
    simp only [Sem.run_bind, run_underlying hK, Result.andThen]
    rfl
  stays := fun w x ⟨b, cs, t, hx, hb⟩ => by subst hx; simp [Instr.keyThatStays, Instr.sameBits]

/-- BLOCK b IS A MAP WITH THE ENTRIES L, in the order in which they were made -/
def RawMap (w : World) (b : Nat) (L : List (Value × Value)) : Prop :=
  ∃ es clk, w.heap[b]? = some (.map es clk) ∧ es.toList.map (fun e => (e.key, e.val)) = L ∧ (es.toList.map (·.born)).Pairwise (· < ·) ∧ ∀ e ∈ es.toList, e.born < clk

open Classical in
/-- what stands at a key -/
noncomputable def getV (x : Value) : List (Value × Value) → Option Value
  | [] => none
  | p :: l => if p.1 = x then some p.2 else getV x l
open Classical in
/-- a store -/
noncomputable def putV (x v : Value) : List (Value × Value) → List (Value × Value)
  | [] => [(x, v)]
  | p :: l => if p.1 = x then (x, v) :: l else p :: putV x v l
open Classical in
/-- a delete -/
noncomputable def delV (x : Value) : List (Value × Value) → List (Value × Value)
  | [] => []
  | p :: l => if p.1 = x then l else p :: delV x l

theorem findE_get (x : Value) : ∀ (es : List MapEntry) (i : Nat), (findE x es i).map (·.2) = getV x (es.map fun e => (e.key, e.val))
  | [], i => rfl
  | e :: es, i => by
    unfold findE; simp only [List.map_cons, getV]
    split
    · rfl
    · exact findE_get x es (i + 1)

theorem findE_some (x : Value) : ∀ (es : List MapEntry) (i j : Nat) (v : Value), findE x es i = some (j, v) → ∃ (k : Nat) (e : MapEntry), j = i + k ∧ es[k]? = some e ∧ e.key = x ∧ e.val = v ∧ getV x (es.map fun e => (e.key, e.val)) = some v ∧ (∀ nv, putV x nv (es.map fun e => (e.key, e.val)) = (es.modify k (fun e => { e with key := x, val := nv })).map fun e => (e.key, e.val)) ∧ delV x (es.map fun e => (e.key, e.val)) = (es.eraseIdx k).map fun e => (e.key, e.val)
  | [], i, j, v, h => by simp [findE] at h
  | e :: es, i, j, v, h => by
    unfold findE at h
    split at h
    · rename_i hk
      simp only [Option.some.injEq, Prod.mk.injEq] at h
      obtain ⟨rfl, rfl⟩ := h
      exact ⟨0, e, rfl, rfl, hk, rfl, by simp [getV, hk], fun nv => by simp [putV, hk], by simp [delV, hk]⟩
    · rename_i hk
      obtain ⟨k, e', h1, h2, h3, h4, h5, h6, h7⟩ := findE_some x es (i + 1) j v h
      exact ⟨k + 1, e', by omega, by simpa using h2, h3, h4, by simpa [getV, hk] using h5, fun nv => by simpa [putV, hk] using h6 nv, by simpa [delV, hk] using h7⟩

theorem findE_none (x : Value) : ∀ (es : List MapEntry) (i : Nat), findE x es i = none → getV x (es.map fun e => (e.key, e.val)) = none ∧ (∀ nv, putV x nv (es.map fun e => (e.key, e.val)) = (es.map fun e => (e.key, e.val)) ++ [(x, nv)]) ∧ delV x (es.map fun e => (e.key, e.val)) = es.map fun e => (e.key, e.val)
  | [], i, _ => ⟨rfl, fun _ => rfl, rfl⟩
  | e :: es, i, h => by
    unfold findE at h
    split at h
    · cases h
    · rename_i hk
      obtain ⟨h1, h2, h3⟩ := findE_none x es (i + 1) h
      exact ⟨by simpa [getV, hk] using h1, fun nv => by simpa [putV, hk] using h2 nv, by simpa [delV, hk] using h3⟩

def KeysGood (good : World → Value → Prop) (w : World) (L : List (Value × Value)) : Prop := ∀ p ∈ L, good w p.1

theorem KeysGood.es {good : World → Value → Prop} {w : World} {es : Array MapEntry} (h : KeysGood good w (es.toList.map fun e => (e.key, e.val))) : ∀ e ∈ es.toList, good w e.key := fun e he => h (e.key, e.val) (List.mem_map.2 ⟨e, he, rfl⟩)

theorem RawMap.lookup {P : Program} {T K E : TypeId} {good : World → Value → Prop} (R : RawKey P K good) (hT : P.underlying T = some (.map K E)) {w : World} {b : Nat} {L : List (Value × Value)} (h : RawMap w b L) (hg : KeysGood good w L) {x : Value} (hx : good w x) {z : Value} (hz : (zeroValue E).run P w = .ok z w) (ok : Bool) :
    (Instr.lookup T (.map (some b)) x ok).run P w = .ok (if ok then .tuple #[(getV x L).getD z, .bool (getV x L).isSome] else (getV x L).getD z) w := by
  obtain ⟨es, clk, hb, rfl, _, _⟩ := h
  have h1 := R.find w x es.toList hx hg.es
  have h2 := findE_get x es.toList 0
  rcases hf : findE x es.toList 0 with _ | ⟨j, v⟩
  · rw [hf] at h1 h2
    simp only [Option.map_none] at h2
    simp [Instr.lookup, run_underlying hT, MapKept.run_getObj_map hb, R.check w _ x hx, h1, hz, ← h2]
  · rw [hf] at h1 h2
    simp only [Option.map_some] at h2
    simp [Instr.lookup, run_underlying hT, MapKept.run_getObj_map hb, R.check w _ x hx, h1, ← h2]

theorem lookup_nil {P : Program} {T K E : TypeId} {good : World → Value → Prop} (R : RawKey P K good) (hT : P.underlying T = some (.map K E)) {w : World} {x : Value} (hx : good w x) {z : Value} (hz : (zeroValue E).run P w = .ok z w) (ok : Bool) :
    (Instr.lookup T (.map none) x ok).run P w = .ok (if ok then .tuple #[z, .bool false] else z) w := by
  have h1 := R.find w x [] hx (by simp)
  simp only [findE] at h1
  simp [Instr.lookup, run_underlying hT, R.check w _ x hx, h1, hz]

theorem pairwise_modify {es : List MapEntry} {k : Nat} {f : MapEntry → MapEntry} (hf : ∀ e, (f e).born = e.born) : (es.modify k f).map (·.born) = es.map (·.born) := by
  induction es generalizing k with
  | nil => simp
  | cons e es ih =>
    rcases k with _ | k
    · simp [hf]
    · simp [ih]

theorem RawMap.update {P : Program} {T K E : TypeId} {good : World → Value → Prop} (R : RawKey P K good) (hT : P.underlying T = some (.map K E)) {w : World} {b : Nat} {L : List (Value × Value)} (h : RawMap w b L) (hg : KeysGood good w L) {x : Value} (hx : good w x) (v : Value) :
    ∃ o, (Instr.mapUpdate T (.map (some b)) x v).run P w = .ok () (w.putObj b o) ∧ ∀ W : World, W.heap[b]? = some o → RawMap W b (putV x v L) := by
  obtain ⟨es, clk, hb, rfl, hp, hc⟩ := h
  have h1 := R.find w x es.toList hx hg.es
  rcases hf : findE x es.toList 0 with _ | ⟨j, v0⟩
  · rw [hf] at h1
    obtain ⟨_, h3, _⟩ := findE_none x es.toList 0 hf
    refine ⟨.map (es.push { key := x, val := v, born := clk }) (clk + 1), ?_, fun W hW => ⟨_, _, hW, ?_, ?_, ?_⟩⟩
    · simp [Instr.mapUpdate, run_underlying hT, MapKept.run_getObj_map hb, R.check w _ x hx, h1, MapKept.run_setObj_map _ hb, World.putObj]
    · rw [h3]; simp
    · simp only [Array.toList_push, List.map_append, List.map_cons, List.map_nil]
      rw [List.pairwise_append]
      refine ⟨hp, by simp, fun a ha c hc' => ?_⟩
      obtain ⟨e, he, rfl⟩ := List.mem_map.1 ha
      simp at hc'; subst hc'
      exact hc e he
    · intro e he
      simp only [Array.toList_push, List.mem_append, List.mem_singleton] at he
      rcases he with he | rfl
      · have := hc e he; omega
      · show clk < clk + 1; omega
  · rw [hf] at h1
    obtain ⟨k, e, hj, hk, h3, h4, _, h6, _⟩ := findE_some x es.toList 0 j v0 hf
    rw [Nat.zero_add] at hj
    subst hj
    have hk' : es[j]? = some e := by simpa using hk
    refine ⟨.map (es.modify j fun e => { e with key := x, val := v }) clk, ?_, fun W hW => ⟨_, _, hW, ?_, ?_, ?_⟩⟩
    · simp [Instr.mapUpdate, run_underlying hT, MapKept.run_getObj_map hb, R.check w _ x hx, h1, hk', h3, R.stays w x hx, MapKept.run_setObj_map _ hb, World.putObj]
    · rw [h6 v, Array.toList_modify]
    · rw [Array.toList_modify, pairwise_modify (f := fun e => { e with key := x, val := v }) (fun _ => rfl)]; exact hp
    · intro e' he'
      rw [Array.toList_modify] at he'
      have : e'.born ∈ (es.toList.modify j fun e => { e with key := x, val := v }).map (·.born) := List.mem_map.2 ⟨e', he', rfl⟩
      rw [pairwise_modify (f := fun e => { e with key := x, val := v }) (fun _ => rfl)] at this
      obtain ⟨e2, h2, h5⟩ := List.mem_map.1 this
      rw [← h5]; exact hc e2 h2

theorem RawMap.delete {P : Program} {T K E : TypeId} {good : World → Value → Prop} (R : RawKey P K good) (hT : P.underlying T = some (.map K E)) {w : World} {b : Nat} {L : List (Value × Value)} (h : RawMap w b L) (hg : KeysGood good w L) {x : Value} (hx : good w x) (t : TypeId) (ts : Array TypeId) (hts : ts[0]? = some T) :
    ∃ o, (Builtin.delete_ ts t #[.map (some b), x]).run P w = .ok (.tuple #[]) (w.putObj b o) ∧ ∀ W : World, W.heap[b]? = some o → RawMap W b (delV x L) := by
  obtain ⟨es, clk, hb, rfl, hp, hc⟩ := h
  have h1 := R.find w x es.toList hx hg.es
  rcases hf : findE x es.toList 0 with _ | ⟨j, v0⟩
  · rw [hf] at h1
    obtain ⟨_, _, h3⟩ := findE_none x es.toList 0 hf
    refine ⟨.map es clk, ?_, fun W hW => ⟨es, clk, hW, h3.symm, hp, hc⟩⟩
    simp [Builtin.delete_, hts, run_underlying hT, MapKept.run_getObj_map hb, R.check w _ x hx, h1, MapKept.run_setObj_map _ hb, World.putObj]
  · rw [hf] at h1
    obtain ⟨k, e, hj, hk, h3, h4, _, _, h7⟩ := findE_some x es.toList 0 j v0 hf
    rw [Nat.zero_add] at hj
    subst hj
    have hlt : j < es.size := by simpa using (List.getElem?_eq_some_iff.1 hk).1
    have he : (es.eraseIdxIfInBounds j).toList = es.toList.eraseIdx j := by
      simp [Array.eraseIdxIfInBounds, hlt]
    refine ⟨.map (es.eraseIdxIfInBounds j) clk, ?_, fun W hW => ⟨_, _, hW, ?_, ?_, ?_⟩⟩
    · simp [Builtin.delete_, hts, run_underlying hT, MapKept.run_getObj_map hb, R.check w _ x hx, h1, MapKept.run_setObj_map _ hb, World.putObj]
    · rw [he, h7]
    · rw [he]; exact List.Pairwise.sublist ((List.eraseIdx_sublist _ _).map _) hp
    · intro e' he'
      rw [he] at he'
      exact hc e' (List.mem_of_mem_eraseIdx he')

/-- 'for .. range m', under way: block r is the iterator over block b; 'left' is still to come -/
def RawRange (w : World) (b r : Nat) (L left : List (Value × Value)) : Prop :=
  ∃ es clk since seen c0, w.heap[b]? = some (.map es clk) ∧ es.toList.map (fun e => (e.key, e.val)) = L ∧ (es.toList.map (·.born)).Pairwise (· < ·) ∧ (∀ e ∈ es.toList, e.born < clk) ∧
    w.heap[r]? = some (.mapIter (some b) since seen c0) ∧ (∀ x ∈ es.toList, x.born < since) ∧ since ≤ c0 ∧ since ≤ clk ∧ (es.toList.filter (fun e => !seen.contains e.born)).map (fun e => (e.key, e.val)) = left

theorem RawRange.map {w : World} {b r : Nat} {L left : List (Value × Value)} (h : RawRange w b r L left) : RawMap w b L := by
  obtain ⟨es, clk, since, seen, c0, h1, h2, h3, h4, _⟩ := h
  exact ⟨es, clk, h1, h2, h3, h4⟩

theorem RawRange.ne {w : World} {b r : Nat} {L left : List (Value × Value)} (h : RawRange w b r L left) : r ≠ b := by
  obtain ⟨es, clk, since, seen, c0, h1, _, _, _, h5, _⟩ := h
  intro e; subst e; rw [h1] at h5; cases h5

theorem RawRange.kept {w w' : World} {b r : Nat} {L left : List (Value × Value)} (h : RawRange w b r L left) (hb : w'.heap[b]? = w.heap[b]?) (hr : w'.heap[r]? = w.heap[r]?) : RawRange w' b r L left := by
  obtain ⟨es, clk, since, seen, c0, h1, h2, h3, h4, h5, h6⟩ := h
  exact ⟨es, clk, since, seen, c0, hb.trans h1, h2, h3, h4, hr.trans h5, h6⟩

theorem RawMap.kept {w w' : World} {b : Nat} {L : List (Value × Value)} (h : RawMap w b L) (hb : w'.heap[b]? = w.heap[b]?) : RawMap w' b L := by
  obtain ⟨es, clk, h1, h2⟩ := h
  exact ⟨es, clk, hb.trans h1, h2⟩
theorem RawMap.lt {w : World} {b : Nat} {L : List (Value × Value)} (h : RawMap w b L) : b < w.heap.size := by
  obtain ⟨es, clk, h1, _⟩ := h
  exact (Array.getElem?_eq_some_iff.1 h1).1

theorem RawMap.made (w : World) : RawMap (w.alloc (.map #[] 0)) w.heap.size [] := ⟨#[], 0, World.alloc_heap_new w _, rfl, List.Pairwise.nil, by simp⟩

theorem RawMap.range {P : Program} {T K E : TypeId} (hT : P.underlying T = some (.map K E)) {w : World} {b : Nat} {L : List (Value × Value)} (h : RawMap w b L) :
    ∃ o, (Instr.range T (.map (some b))).run P w = .ok (.pointer (some ⟨w.heap.size, 0, none⟩)) (w.alloc o) ∧ RawRange (w.alloc o) b w.heap.size L L := by
  have hlt := h.lt
  obtain ⟨es, clk, hb, rfl, hp, hc⟩ := h
  refine ⟨.mapIter (some b) clk #[] clk, run_range_map w T K E b es clk hT hb, es, clk, clk, #[], clk, ((MapKept.heap_alloc w _).2 b hlt).trans hb, rfl, hp, hc, World.alloc_heap_new w _, hc, Nat.le_refl _, Nat.le_refl _, ?_⟩
  congr 1
  exact List.filter_eq_self.2 (fun e _ => by simp)

theorem heap_setO {w : World} {r : Nat} {o o' : Obj} (h : w.heap[r]? = some o) : (ChangeMaps.setBlock w r o').heap[r]? = some o' ∧ ∀ i, i ≠ r → (ChangeMaps.setBlock w r o').heap[i]? = w.heap[i]? := by
  have hlt := (Array.getElem?_eq_some_iff.1 h).1
  refine ⟨by simp [ChangeMaps.setBlock, hlt], fun i hi => ?_⟩
  simp [ChangeMaps.setBlock, Array.getElem?_setIfInBounds_ne (Ne.symm hi)]

theorem nodup_of_lt {l : List Nat} (h : l.Pairwise (· < ·)) : l.Nodup := h.imp (fun h => Nat.ne_of_lt h)

theorem filter_push {es : List MapEntry} (hn : (es.map (·.born)).Nodup) {seen : Array Nat} {e : MapEntry} (he : e ∈ es) (hs : seen.contains e.born = false) :
    ∃ pre post, es.filter (fun x => !seen.contains x.born) = pre ++ e :: post ∧ es.filter (fun x => !(seen.push e.born).contains x.born) = pre ++ post := by
  have hc : ∀ x : MapEntry, (!(seen.push e.born).contains x.born) = ((!seen.contains x.born) && (x.born != e.born)) := fun x => by
    rw [Bool.eq_iff_iff]; simp [Array.mem_push, not_or]
  obtain ⟨l1, l2, rfl⟩ := List.append_of_mem he
  have hn' := hn
  rw [List.map_append, List.map_cons, List.nodup_append] at hn'
  obtain ⟨_, h2, h3⟩ := hn'
  rw [List.nodup_cons] at h2
  refine ⟨l1.filter (fun x => !seen.contains x.born), l2.filter (fun x => !seen.contains x.born), ?_, ?_⟩
  · rw [List.filter_append, List.filter_cons, hs]; simp
  · rw [List.filter_append, List.filter_cons]
    have e0 : (!(seen.push e.born).contains e.born) = false := by simp
    rw [e0]
    have f : ∀ l : List MapEntry, (∀ x ∈ l, x.born ≠ e.born) → l.filter (fun x => !(seen.push e.born).contains x.born) = l.filter (fun x => !seen.contains x.born) := fun l hl => by
      refine List.filter_congr fun x hx => ?_
      rw [hc x]
      have := hl x hx
      simp [this]
    rw [f l1 (fun x hx h => h3 x.born (List.mem_map.2 ⟨x, hx, rfl⟩) e.born (by simp) h), f l2 (fun x hx h => h2.1 (h ▸ List.mem_map.2 ⟨x, hx, rfl⟩))]
    simp

theorem RawRange.next {P : Program} {w : World} {b r : Nat} {L left : List (Value × Value)} (h : RawRange w b r L left) (ty : TypeId) :
    (left = [] ∧ (Instr.next (.pointer (some ⟨r, 0, none⟩)) false ty).run P w = .ok (.tuple #[.bool false]) w) ∨
    ∃ k v pre post w', left = pre ++ (k, v) :: post ∧ (k, v) ∈ L ∧ (Instr.next (.pointer (some ⟨r, 0, none⟩)) false ty).run P w = .ok (.tuple #[.bool true, k, v]) w' ∧ RawRange w' b r L (pre ++ post) ∧ w.grownBy w' (some r) ∧ w'.heap.size = w.heap.size ∧
      (Instr.entry (.pointer (some ⟨r, 0, none⟩))).run P w' = .ok (.tuple #[k, v]) w' := by
  have hne := h.ne
  obtain ⟨es, clk, since, seen, c0, hb, rfl, hp, hc, hr, hold, hsc, hsk, rfl⟩ := h
  have hleft : (leftOf es seen).toList = es.toList.filter (fun e => !seen.contains e.born) := by unfold leftOf; simp
  rcases run_next_at (P := P) w ty r b since c0 seen es clk hr hb hold hsc with ⟨h0, hrun⟩ | ⟨e, he, w1, hal, hrun⟩
  · refine .inl ⟨?_, hrun⟩
    have h1 : (leftOf es seen).toList = [] := List.eq_nil_of_length_eq_zero (by simpa using h0)
    rw [← hleft, h1]; rfl
  · rw [hleft] at he
    obtain ⟨hem, hes⟩ := List.mem_filter.1 he
    have hes' : seen.contains e.born = false := by simpa using hes
    obtain ⟨pre, post, f1, f2⟩ := filter_push (nodup_of_lt hp) hem hes'
    have hr1 : w1.heap[r]? = some (.mapIter (some b) since seen c0) := by rcases hal with rfl | rfl <;> exact hr
    have hb1 : w1.heap[b]? = some (.map es clk) := by rcases hal with rfl | rfl <;> exact hb
    have hset := heap_setO (o' := .mapIter (some b) since (seen.push e.born) clk) hr1
    have hb' : (ChangeMaps.setBlock w1 r (.mapIter (some b) since (seen.push e.born) clk)).heap[b]? = some (.map es clk) := (hset.2 b (fun e1 => hne e1.symm)).trans hb1
    refine .inr ⟨e.key, e.val, pre.map (fun e => (e.key, e.val)), post.map (fun e => (e.key, e.val)), _, by rw [f1]; simp, List.mem_map.2 ⟨e, hem, rfl⟩, hrun, ⟨es, clk, since, seen.push e.born, clk, hb', rfl, hp, hc, hset.1, hold, hsk, hsk, by rw [f2]; simp⟩, ?_, ?_,
      run_entry_at _ r b since seen es clk e hset.1 hb' hem (nodup_of_lt hp)⟩
    · rcases hal with rfl | rfl <;> exact ⟨rfl, rfl, rfl, by simp [ChangeMaps.setBlock], fun i _ hi => hset.2 i (fun e1 => hi (by rw [e1]))⟩
    · rcases hal with rfl | rfl <;> simp [ChangeMaps.setBlock]

theorem wpList_next_raw {P : Program} (w : World) {ops : Array Oper} {rest : List Oper} {o : Oper} {a : Act} {Q : Exit → Act → World → Prop} (hg : o.guard = none) (it : Operand) (hop : o.op = Op.next it false) (b r : Nat) (L left : List (Value × Value))
    (hit : a.eval it = .pointer (some ⟨r, 0, none⟩)) (h : RawRange w b r L left)
    (hDone : left = [] → wpList P ops Q rest (a.put o.dst (.tuple #[.bool false])) w)
    (hMore : ∀ k v pre post w', left = pre ++ (k, v) :: post → (k, v) ∈ L → RawRange w' b r L (pre ++ post) → w.grownBy w' (some r) → w'.heap.size = w.heap.size → (Instr.entry (.pointer (some ⟨r, 0, none⟩))).run P w' = .ok (.tuple #[k, v]) w' → wpList P ops Q rest (a.put o.dst (.tuple #[.bool true, k, v])) w') :
    wpList P ops Q (o :: rest) a w := by
  refine wpList_plain hg fun K' hK' => ?_
  unfold Oper.wp
  rcases h.next (P := P) o.type with ⟨h0, hrun⟩ | ⟨k, v, pre, post, w', hl, hm, hrun, hrg, hgr, hsz, hen⟩
  · simp [execOp, hop, hit, hrun, Result.andThen]
    exact hK' _ _ (hDone h0)
  · simp [execOp, hop, hit, hrun, Result.andThen]
    exact hK' _ _ (hMore k v pre post w' hl hm hrg hgr hsz hen)

theorem len_map {P : Program} {w : World} {b : Nat} {L : List (Value × Value)} (h : RawMap w b L) : ∃ es clk, w.heap[b]? = some (.map es clk) ∧ es.size = L.length := by
  obtain ⟨es, clk, hb, rfl, _⟩ := h
  exact ⟨es, clk, hb, by simp⟩

theorem RawMap.len {P : Program} {T K E : TypeId} (hT : P.underlying T = some (.map K E)) {w : World} {b : Nat} {L : List (Value × Value)} (h : RawMap w b L) (ty : TypeId) : (Builtin.len_ #[T] ty #[.map (some b)]).run P w = .ok (.int .i64 L.length) w := by
  obtain ⟨es, clk, hb, rfl, _⟩ := h
  simp [Builtin.len_, run_underlying hT, MapKept.run_getObj_map hb, goInt]

section
variable {P : Program} (w : World) {ops : Array Oper} {rest : List Oper} {o : Oper} {a : Act} {Q : Exit → Act → World → Prop}

theorem wpList_len_raw (hg : o.guard = none) (m : Operand) (t : TypeId) (hop : o.op = Op.call { callee := Callee.builtin Builtin.len, args := #[m], argTypes := #[t] }) (k e : TypeId) (ht : P.underlying t = some (.map k e)) (b : Nat) (L : List (Value × Value)) (hm : a.eval m = .map (some b)) (h : RawMap w b L)
    (hK : wpList P ops Q rest (a.put o.dst (.int .i64 L.length)) w) : wpList P ops Q (o :: rest) a w := by
  refine wpList_plain hg fun K' hK' => ?_
  unfold Oper.wp
  simp [execOp, hop, resolve, invoke, builtin, hm, h.len ht o.type, Result.andThen]
  exact hK' _ _ hK

theorem wpList_mapUpdate_raw (hg : o.guard = none) (m x v : Operand) (t : TypeId) (hop : o.op = Op.mapUpdate t m x v) (k e : TypeId) (ht : P.underlying t = some (.map k e)) {good : World → Value → Prop} (R : RawKey P k good) (b : Nat) (L : List (Value × Value)) (hm : a.eval m = .map (some b)) (h : RawMap w b L) (hgd : KeysGood good w L)
    (key val : Value) (hx : a.eval x = key) (hv : a.eval v = val) (hkey : good w key)
    (hK : ∀ ob, RawMap (w.putObj b ob) b (putV key val L) → wpList P ops Q rest (a.put o.dst undef) (w.putObj b ob)) : wpList P ops Q (o :: rest) a w := by
  refine wpList_plain hg fun K' hK' => ?_
  obtain ⟨ob, hrun, hr⟩ := h.update R ht hgd hkey val
  unfold Oper.wp
  simp [execOp, hop, hm, hx, hv, hrun, Result.andThen]
  exact hK' _ _ (hK ob (hr _ (World.putObj_heap_same h.lt)))

theorem wpList_delete_raw (hg : o.guard = none) (m x : Operand) (t k e : TypeId) (hop : o.op = Op.call { callee := Callee.builtin Builtin.delete, args := #[m, x], argTypes := #[t, k] }) (ht : P.underlying t = some (.map k e)) {good : World → Value → Prop} (R : RawKey P k good) (b : Nat) (L : List (Value × Value)) (hm : a.eval m = .map (some b)) (h : RawMap w b L) (hgd : KeysGood good w L)
    (key : Value) (hx : a.eval x = key) (hkey : good w key)
    (hK : ∀ ob, RawMap (w.putObj b ob) b (delV key L) → wpList P ops Q rest (a.put o.dst (.tuple #[])) (w.putObj b ob)) : wpList P ops Q (o :: rest) a w := by
  refine wpList_plain hg fun K' hK' => ?_
  obtain ⟨ob, hrun, hr⟩ := h.delete R ht hgd hkey o.type #[t, k] rfl
  unfold Oper.wp
  simp [execOp, hop, resolve, invoke, builtin, hm, hx, hrun, Result.andThen]
  exact hK' _ _ (hK ob (hr _ (World.putObj_heap_same h.lt)))

theorem wpList_range_raw (hg : o.guard = none) (m : Operand) (t : TypeId) (hop : o.op = Op.range t m) (k e : TypeId) (ht : P.underlying t = some (.map k e)) (b : Nat) (L : List (Value × Value)) (hm : a.eval m = .map (some b)) (h : RawMap w b L)
    (hK : ∀ ob, RawRange (w.alloc ob) b w.heap.size L L → wpList P ops Q rest (a.put o.dst (.pointer (some ⟨w.heap.size, 0, none⟩))) (w.alloc ob)) : wpList P ops Q (o :: rest) a w := by
  refine wpList_plain hg fun K' hK' => ?_
  obtain ⟨ob, hrun, hr⟩ := h.range (P := P) ht
  unfold Oper.wp
  simp [execOp, hop, hm, hrun, Result.andThen]
  exact hK' _ _ (hK ob hr)
end

end Go.Proofs.YtffifhbldcjelaaGreatDoor
