/-
  Flows: change. Flows: Set. Flows: read (what a node reads is replaced): the readers while they turn.
-/
import Derived.Test.YtffifhbldcjelaaGreatDoorDs03
import Derived.Lib.SlicesS

/-! Flows: change. -/
namespace Go.Proofs.YtffifhbldcjelaaGreatDoor
set_option linter.unusedVariables false
set_option linter.unusedSimpArgs false
open Go.RowKit

theorem RawRange.left_len {w : World} {b r : Nat} {L left : List (Value × Value)} (h : RawRange w b r L left) : w.rangeLeft b r = left.length := by
  obtain ⟨es, clk, since, seen, c0, h1, _, _, _, h5, _, _, _, rfl⟩ := h
  unfold World.rangeLeft
  rw [h1, h5]
  simp only [List.length_map]
  unfold leftOf
  rw [← Array.length_toList, Array.toList_filter]

section
variable {B : Nat} {W : World} {f M : Nat} {bl rb : ByteArray → Nat} {sl : ByteArray → Value} {F : List En}

/-- names and reads stay, the words of some names turn -/
theorem Rep.mapped {W' : World} (h : Rep B W f M bl rb sl F) (g : En → En) (hg : ∀ e ∈ F, (g e).nm = e.nm ∧ (g e).rds = e.rds) (he : ∀ e ∈ F, W'.heap[bl e.nm]? = some (entC (g e) (sl e.nm) (rb e.nm)))
    (hk : ∀ k, k < W.heap.size → (∀ e ∈ F, k ≠ bl e.nm) → W'.heap[k]? = W.heap[k]?) : Rep B W' f M bl rb sl (F.map g) := by
  have hcell : ∀ {k : Nat} {cs : Array Value} {t : TypeId} {fr : Nat × Nat}, W.heap[k]? = some (.cells cs t fr) → t ≠ 58 → ∀ e ∈ F, k ≠ bl e.nm := fun hkk ht e he' e1 => by
    rw [e1, h.ent e he'] at hkk
    unfold entC at hkk
    cases hkk; exact ht rfl
  have hmap : ∀ {k : Nat} {es : Array MapEntry} {c : Nat}, W.heap[k]? = some (.map es c) → ∀ e ∈ F, k ≠ bl e.nm := fun hkk e he' e1 => by
    rw [e1, h.ent e he'] at hkk; cases hkk
  have hfil : ∀ m : ByteArray, ((F.map g).filter (hasR · m)) = (F.filter (hasR · m)).map g := fun m => by
    rw [List.filter_map]
    congr 1
    refine List.filter_congr fun e he' => ?_
    show hasR (g e) m = hasR e m
    unfold hasR; rw [(hg e he').2]
  obtain ⟨L, hL, hp⟩ := h.names
  obtain ⟨es0, c0, hm0⟩ := h.mapM
  refine ⟨(hk f h.ltF (hcell h.flow (by decide))).trans h.flow, ⟨L, hL.kept (hk M hL.lt (hmap hm0)), ?_⟩, fun e he' => ?_, fun e he' => ?_, fun e he' => ?_, fun a ha b hb e => ?_, fun a ha b hb e => ?_, fun e he' => ?_, h.baseM, fun e he' => ?_, fun e he' => ?_, ?_⟩
  · rw [List.map_map]
    rw [List.map_congr_left (g := fun e => ((.string e.nm, ptr (bl e.nm)) : Value × Value)) (fun e he' => by simp [(hg e he').1])]
    exact hp
  · obtain ⟨e0, h0, rfl⟩ := List.mem_map.1 he'
    rw [(hg e0 h0).1]; exact he e0 h0
  · obtain ⟨e0, h0, rfl⟩ := List.mem_map.1 he'
    rw [(hg e0 h0).1, (hg e0 h0).2]
    exact (h.row e0 h0).kept (fun g' cur fr hg' => hk g' (lt_of_blk hg') (hcell hg' (by decide)))
  · obtain ⟨e0, h0, rfl⟩ := List.mem_map.1 he'
    rw [(hg e0 h0).1]
    obtain ⟨L', hL', hp'⟩ := h.rdr e0 h0
    obtain ⟨es1, c1, hm1⟩ := h.mapR h0
    refine ⟨L', hL'.kept (hk _ hL'.lt (hmap hm1)), ?_⟩
    rw [hfil, List.map_map]
    rw [List.map_congr_left (g := fun x => ((ptr (bl x.nm), .bool true) : Value × Value)) (fun e he' => by simp [(hg e (List.mem_filter.1 he').1).1])]
    exact hp'
  · obtain ⟨a0, q0, rfl⟩ := List.mem_map.1 ha
    obtain ⟨b0, q1, rfl⟩ := List.mem_map.1 hb
    rw [(hg a0 q0).1, (hg b0 q1).1] at e ⊢
    exact h.injB a0 q0 b0 q1 e
  · obtain ⟨a0, q0, rfl⟩ := List.mem_map.1 ha
    obtain ⟨b0, q1, rfl⟩ := List.mem_map.1 hb
    rw [(hg a0 q0).1, (hg b0 q1).1] at e ⊢
    exact h.injR a0 q0 b0 q1 e
  · obtain ⟨e0, h0, rfl⟩ := List.mem_map.1 he'
    rw [(hg e0 h0).1]; exact h.rbM e0 h0
  · obtain ⟨e0, h0, rfl⟩ := List.mem_map.1 he'
    rw [(hg e0 h0).1]; exact h.baseB e0 h0
  · obtain ⟨e0, h0, rfl⟩ := List.mem_map.1 he'
    rw [(hg e0 h0).1]; exact h.baseR e0 h0
  · unfold SortedF
    refine List.pairwise_map.2 ?_
    refine List.Pairwise.imp_of_mem (fun {a b} ha hb hlt => ?_) h.srt
    rw [(hg a ha).1, (hg b hb).1]; exact hlt

theorem heap_setC {W : World} {b o : Nat} {cs : Array Value} {t : TypeId} {fr : Nat × Nat} (h : W.heap[b]? = some (.cells cs t fr)) (v : Value) : (W.setCell ⟨b, o, none⟩ v).heap[b]? = some (.cells (cs.setIfInBounds o v) t fr) := by
  obtain ⟨hlt, hg⟩ := Array.getElem?_eq_some_iff.1 h
  simp [World.setCell, hlt, Array.getElem_modify, hg]

/-- one word of one name turns -/
theorem Rep.setOne (h : Rep B W f M bl rb sl F) {e : En} (he : e ∈ F) (o : Nat) (v : Value) (e' : En) (hn : e'.nm = e.nm) (hr : e'.rds = e.rds)
    (hc : (#[Value.string e.nm, .string e.val, .bool e.node, .bool e.stale, sl e.nm, .map (some (rb e.nm))]).setIfInBounds o v = #[Value.string e'.nm, .string e'.val, .bool e'.node, .bool e'.stale, sl e.nm, .map (some (rb e.nm))]) :
    Rep B (W.setCell ⟨bl e.nm, o, none⟩ v) f M bl rb sl (updF F e.nm (fun _ => e')) ∧ Mv B W (W.setCell ⟨bl e.nm, o, none⟩ v) := by
  have hb := h.ent e he
  refine ⟨h.mapped (fun x => if x.nm = e.nm then e' else x) (fun x hx => ?_) (fun x hx => ?_) (fun k hk hne => Below.heap_setCell W ⟨bl e.nm, o, none⟩ v k (hne e he)), ?_⟩
  · split
    · rename_i hq
      obtain rfl := h.srt.inj x hx e he hq
      exact ⟨hn, hr⟩
    · exact ⟨rfl, rfl⟩
  · by_cases hq : x.nm = e.nm
    · obtain rfl := h.srt.inj x hx e he hq
      rw [if_pos rfl, heap_setC hb, hc]; rfl
    · rw [if_neg hq, Below.heap_setCell W ⟨bl e.nm, o, none⟩ v (bl x.nm) (fun e1 => hq (h.injB x hx e he e1))]
      exact h.ent x hx
  · refine ⟨rfl, rfl, rfl, by simp, fun k hk hnm => Below.heap_setCell W ⟨bl e.nm, o, none⟩ v k (fun e1 => hnm ?_)⟩
    have : k = bl e.nm := e1
    rw [this]; exact h.mineB he
end

/-- those that D says are stale -/
def stF (F : List En) (D : ByteArray → Bool) : List En := F.map fun e => if D e.nm = true then { e with stale := true } else e

theorem stF_none (F : List En) : stF F (fun _ => false) = F := by unfold stF; simp

theorem stF_step (F : List En) (D : ByteArray → Bool) (m : ByteArray) : updF (stF F D) m (fun e => { e with stale := true }) = stF F (fun k => D k || decide (k = m)) := by
  unfold updF stF
  rw [List.map_map]
  refine List.map_congr_left fun e he => ?_
  show (if (if D e.nm = true then _ else e : En).nm = m then _ else _) = _
  by_cases h2 : e.nm = m
  · subst h2
    by_cases h1 : D e.nm = true
    · simp [h1]
    · simp [h1]
  · by_cases h1 : D e.nm = true
    · simp [h1, h2]
    · simp [h1, h2]

theorem stF_all {F : List En} {n : ByteArray} {D : ByteArray → Bool} (h : ∀ e ∈ F, D e.nm = hasR e n) : stF F D = markF F n := by
  unfold stF markF
  exact List.map_congr_left fun e he => by rw [h e he]

section
variable {B : Nat} {W : World} {f M : Nat} {bl rb : ByteArray → Nat} {sl : ByteArray → Value} {F : List En}

theorem Rep.goodR (h : Rep B W f M bl rb sl F) {n : ByteArray} {L : List (Value × Value)} (hp : L.Perm ((F.filter (hasR · n)).map fun x => (ptr (bl x.nm), .bool true))) : KeysGood goodP W L := fun p hp' => by
  obtain ⟨x, hx, rfl⟩ := List.mem_map.1 (hp.mem_iff.1 hp')
  exact ⟨bl x.nm, _, _, rfl, h.ent x (List.mem_filter.1 hx).1⟩

/-- the loop of change -/
structure ChgR (B : Nat) (W : World) (f M : Nat) (bl rb : ByteArray → Nat) (sl : ByteArray → Value) (F : List En) (n : ByteArray) (it : Nat) (L : List (Value × Value)) (wr : World) (D : ByteArray → Bool) (left : List (Value × Value)) : Prop where
  rng : RawRange wr (rb n) it L left
  rep : Rep B wr f M bl rb sl (stF F D)
  sub : ∀ p ∈ left, ∃ x ∈ F, hasR x n = true ∧ p = (ptr (bl x.nm), .bool true)
  todo : ∀ e ∈ F, D e.nm = true ∨ (ptr (bl e.nm), Value.bool true) ∈ left ∨ hasR e n = false
  done : ∀ e ∈ F, D e.nm = true → hasR e n = true
  mv : Mv B W wr
  itS : W.heap.size ≤ it

def ChgP (B : Nat) (W : World) (f M : Nat) (bl rb : ByteArray → Nat) (sl : ByteArray → Value) (F : List En) (n v : ByteArray) (e : Ending) (w' : World) : Prop :=
  e = .returned (.tuple #[]) ∧ Rep B w' f M bl rb sl (chgF F n v) ∧ Mv B W w'

theorem stF_nm {F : List En} {D : ByteArray → Bool} {e : En} (he : e ∈ F) : ∃ e' ∈ stF F D, e'.nm = e.nm ∧ e'.rds = e.rds ∧ e' = (if D e.nm = true then { e with stale := true } else e) := ⟨_, List.mem_map.2 ⟨e, he, rfl⟩, by split <;> rfl, by split <;> rfl, rfl⟩

theorem Rep.kept2 {W' : World} (h : Rep B W f M bl rb sl F) (hk : ∀ (k : Nat), ((∃ cs t fr, W.heap[k]? = some (Obj.cells cs t fr)) ∨ ∃ es c, W.heap[k]? = some (Obj.map es c)) → W'.heap[k]? = W.heap[k]?) : Rep B W' f M bl rb sl F := by
  obtain ⟨L, hL, hp⟩ := h.names
  obtain ⟨es0, c0, hm0⟩ := h.mapM
  refine ⟨(hk f (.inl ⟨_, _, _, h.flow⟩)).trans h.flow, ⟨L, hL.kept (hk M (.inr ⟨es0, c0, hm0⟩)), hp⟩, fun e he => (hk _ (.inl ⟨_, _, _, h.ent e he⟩)).trans (h.ent e he), fun e he => (h.row e he).kept (fun g cur fr hg => hk g (.inl ⟨_, _, _, hg⟩)), fun e he => ?_, h.injB, h.injR, h.rbM, h.baseM, h.baseB, h.baseR, h.srt⟩
  obtain ⟨L', hL', hp'⟩ := h.rdr e he
  exact ⟨L', hL'.kept (hk _ (.inr (h.mapR he))), hp'⟩

theorem ChgR.next {n : ByteArray} {it : Nat} {L : List (Value × Value)} {wr w' : World} {D : ByteArray → Bool} {left pre post : List (Value × Value)} {k x : Value} (h : ChgR B W f M bl rb sl F n it L wr D left) (hl : left = pre ++ (k, x) :: post) (hr : RawRange w' (rb n) it L (pre ++ post)) (hg : wr.grownBy w' (some it)) (hs : w'.heap.size = wr.heap.size) :
    ∃ (b : Nat) (y : En) (s : Value) (r : Nat) (D' : ByteArray → Bool), k = .pointer (some ⟨b, 0, none⟩) ∧ x = .bool true ∧ Cells w' b y s r ∧ ChgR B W f M bl rb sl F n it L (w'.setCell ⟨b, 3, none⟩ (.bool true)) D' (pre ++ post) := by
  subst hl
  obtain ⟨z, hz, hzn, hkz⟩ := h.sub (k, x) (by simp)
  injection hkz with hk hx
  obtain ⟨y, hy, hyn, hyr, hye⟩ := stF_nm (D := D) hz
  have hit : ∀ (j : Nat), ((∃ cs t fr, wr.heap[j]? = some (Obj.cells cs t fr)) ∨ ∃ es c, wr.heap[j]? = some (Obj.map es c)) → w'.heap[j]? = wr.heap[j]? := fun j hj => by
    refine hg.block j (by rcases hj with ⟨_, _, _, q⟩ | ⟨_, _, q⟩ <;> exact lt_of_blk q) (fun e1 => ?_)
    cases e1
    obtain ⟨es, clk, since, seen, c0, _, _, _, _, q5, _⟩ := h.rng
    rcases hj with ⟨_, _, _, q⟩ | ⟨_, _, q⟩ <;> (rw [q5] at q; cases q)
  have hrep := h.rep.kept2 hit
  have hmv : Mv B W w' := h.mv.grown hg (.inr h.itS)
  obtain ⟨r1, r2⟩ := hrep.setOne hy 3 (.bool true) { y with stale := true } rfl rfl rfl
  have hcs := cells_ent (hrep.ent y hy)
  rw [hyn] at r1 r2 hcs
  have hcell := hrep.ent y hy
  rw [hyn] at hcell
  have hnb : rb n ≠ bl z.nm := fun e1 => by
    obtain ⟨es, clk, since, seen, c0, q1, _⟩ := hr
    rw [e1, hcell] at q1; cases q1
  have hni : it ≠ bl z.nm := fun e1 => by
    obtain ⟨es, clk, since, seen, c0, _, _, _, _, q5, _⟩ := hr
    rw [e1, hcell] at q5; cases q5
  have hst : updF (stF F D) z.nm (fun _ => { nm := z.nm, val := y.val, node := y.node, stale := true, rds := y.rds }) = stF F (fun m => D m || decide (m = z.nm)) := by
    rw [← stF_step]
    unfold updF
    refine List.map_congr_left fun u hu => ?_
    by_cases hq : u.nm = z.nm
    · rw [if_pos hq, if_pos hq, hrep.srt.inj u hu y hy (hq.trans hyn.symm)]
      dsimp only
      rw [← hyn]
    · rw [if_neg hq, if_neg hq]
  refine ⟨bl z.nm, y, _, _, fun m => D m || decide (m = z.nm), hk, hx, hcs, hr.kept (Below.heap_setCell w' ⟨bl z.nm, 3, none⟩ _ _ hnb) (Below.heap_setCell w' ⟨bl z.nm, 3, none⟩ _ _ hni), by rw [← hst]; exact r1, fun p hp => h.sub p ?_, fun e he => ?_, fun e he hd => ?_, hmv.trans r2, h.itS⟩
  · rcases List.mem_append.1 hp with q | q <;> simp [q]
  · rcases h.todo e he with q | q | q
    · exact .inl (by simp [q])
    · rcases List.mem_append.1 q with q | q
      · exact .inr (.inl (by simp [q]))
      · rcases List.mem_cons.1 q with q | q
        · have hb : ptr (bl e.nm) = ptr (bl z.nm) := by rw [hk] at q; injection q
          obtain ⟨e', he', hn', _⟩ := stF_nm (D := D) he
          have hnm : e'.nm = y.nm := hrep.injB e' he' y hy (by rw [hn', hyn]; exact ptr_inj hb)
          rw [hn', hyn] at hnm
          exact .inl (by simp [hnm])
        · exact .inr (.inl (by simp [q]))
    · exact .inr (.inr q)
  · simp only [Bool.or_eq_true, decide_eq_true_eq] at hd
    rcases hd with q | q
    · exact h.done e he q
    · obtain ⟨e', he', hn', hr', _⟩ := stF_nm (D := D) he
      have : e' = y := hrep.srt.inj e' he' y hy (by rw [hn', hyn, q])
      have hrr : e.rds = z.rds := by rw [← hr', this, hyr]
      unfold hasR at hzn ⊢
      rw [hrr]; exact hzn

set_option maxRecDepth 100000 in
set_option maxHeartbeats 2000000 in
theorem change_any (h : Rep B W f M bl rb sl F) {n : ByteArray} {e : En} (he : atF F n = some e) (v : ByteArray) :
    Calls Tryz.prog 20 #[.pointer (some ⟨bl n, 0, none⟩), .string v] W (ChgP B W f M bl rb sl F n v) := by
  obtain ⟨heF, hen⟩ := atF_some he
  obtain ⟨c0, c1, c2, c3, c4, c5, fz⟩ := h.cells he
  have f1 := fz 1
  by_cases hv : e.val = v
  · have hb : (e.val.toList == v.toList) = true := by rw [hv]; simp
    have FIN := Lib.hid (show ChgP B W f M bl rb sl F n v (.returned (.tuple #[])) W from ⟨rfl, by unfold chgF; rw [he]; simp only [hv, if_true]; exact h, Mv.refl _ _⟩)
    clear h fz he hv
    go_enter Tryz.func20, Tryz.ntmps20
    go_wp2
    go_end0
    exact FIN.out
  · have hb : (e.val.toList == v.toList) = false := (Lib.bytes_beq_false_iff _ _).2 hv
    obtain ⟨h1, hm1⟩ := h.setOne heF 1 (.string v) { e with val := v } rfl rfl rfl
    rw [hen] at h1 hm1
    obtain ⟨W1, hW1⟩ : ∃ W1 : World, W1 = W.setCell ⟨bl n, 1, none⟩ (.string v) := ⟨_, rfl⟩
    rw [← hW1] at h1 hm1
    have e5 : (W.setCell ⟨bl n, 1, none⟩ (.string v)).cell? ⟨bl n, 5, none⟩ = some (.map (some (rb n))) := by go_simp
    have HW1 := Lib.hid hW1
    have hF1 : updF F n (fun _ => { nm := n, val := v, node := e.node, stale := e.stale, rds := e.rds }) = updF F n (fun x => { x with val := v }) := by
      unfold updF
      refine List.map_congr_left fun x hx => ?_
      by_cases hq : x.nm = n
      · rw [if_pos hq, if_pos hq, h.srt.inj x hx e heF (hq.trans hen.symm)]
        dsimp only
        rw [← hen]
      · rw [if_neg hq, if_neg hq]
    rw [hF1] at h1
    obtain ⟨F1, hF1e⟩ : ∃ F1, updF F n (fun x => { x with val := v }) = F1 := ⟨_, rfl⟩
    rw [hF1e] at h1
    have hchg : chgF F n v = markF F1 n := by unfold chgF; rw [he]; simp only [hv, if_false]; rw [hF1e]
    have hn1 : ∃ e1 ∈ F1, e1.nm = n := ⟨{ e with val := v }, by rw [← hF1e]; exact List.mem_map.2 ⟨e, heF, by rw [if_pos hen]⟩, hen⟩
    obtain ⟨e1, he1, hen1⟩ := hn1
    obtain ⟨L, hL, hp⟩ := h1.rdr e1 he1
    rw [hen1] at hL hp
    have hsz : W1.heap.size = W.heap.size := by rw [hW1]; simp
    have ST := Lib.hid (show ∀ ob, RawRange (W1.alloc ob) (rb n) W1.heap.size L L → ChgR B W f M bl rb sl F1 n W1.heap.size L (W1.alloc ob) (fun _ => false) L from fun ob hob => by
      refine ⟨hob, by rw [stF_none]; exact h1.later ((Below.refl _ _).alloc (Nat.le_refl _) ob), fun p hp' => ?_, fun x hx => ?_, (fun x hx hd => by cases hd), hm1.trans (Mv.of_below ((Below.refl _ _).alloc (Nat.le_refl _) ob)), by omega⟩
      · obtain ⟨x, hx, rfl⟩ := List.mem_map.1 (hp.mem_iff.1 hp')
        exact ⟨x, (List.mem_filter.1 hx).1, by simpa using (List.mem_filter.1 hx).2, rfl⟩
      · by_cases hh : hasR x n = true
        · exact .inr (.inl (hp.mem_iff.2 (List.mem_map.2 ⟨x, List.mem_filter.2 ⟨hx, hh⟩, rfl⟩)))
        · exact .inr (.inr (by simpa using hh)))
    have FIN := Lib.hid (show ∀ wr D, ChgR B W f M bl rb sl F1 n W1.heap.size L wr D [] → ChgP B W f M bl rb sl F n v (.returned (.tuple #[])) wr from fun wr D hr => by
      refine ⟨rfl, ?_, hr.mv⟩
      rw [hchg, ← stF_all (D := D) (fun x hx => ?_)]
      · exact hr.rep
      · rcases hr.todo x hx with q | q | q
        · rw [q, hr.done x hx q]
        · cases q
        · rcases hd : D x.nm with _ | _
          · exact q.symm
          · rw [hr.done x hx hd])
    have HL := Lib.hid hL
    obtain ⟨it, hit⟩ : ∃ it, W1.heap.size = it := ⟨_, rfl⟩
    clear fz h h1 hp hL hm1 hchg hF1 hF1e he1 hen1 he heF hen hv hW1 hsz
    go_enter Tryz.func20, Tryz.ntmps20
    go_wp2_with (rw [← HW1.out]; refine wpList_range_raw _ rfl (.tmp 18) 56 (by rfl) 53 4 Tryz.underlying56 (rb n) L (by rfl) HL.out ?_; intro ob hob; have S0 := Lib.hid (ST.out ob hob); clear hob)
    rw [hit] at ST FIN S0 ⊢
    clear hit
    go_frame
    go_loopw [] (fun wr => ∃ D left, ChgR B W f M bl rb sl F1 n it L wr D left) (fun wr => wr.rangeLeft (rb n) it)
    case atStart => exact ⟨_, _, S0.out⟩
    case round =>
      obtain ⟨D, left, hr⟩ := hrel
      have RR := Lib.hid hr
      have RNG := Lib.hid hr.rng
      have LEN := Lib.hid hr.rng.left_len
      clear hr
      go_wp2_with (at_next; refine wpList_next_raw _ rfl (.tmp 19) (by rfl) (rb n) it L left (by rfl) RNG.out ?_ ?_)
      · intro hl
        subst hl
        go_wp2
        go_end0
        exact FIN.out _ _ RR.out
      · intro k x pre post w2 hl hm hr2 hg2 hs2 hen2
        obtain ⟨b, y, s, r, D', rfl, rfl, hcs, hnx⟩ := RR.out.next hl hr2 hg2 hs2
        have NX := Lib.hid hnx
        have HLL := Lib.hid hl
        have cy := hcs.c3
        have fy := hcs.fz 3
        clear hl hm hr2 hg2 hs2 hcs hnx
        go_wp2
        go_roundw
        case rel => exact ⟨_, _, NX.out⟩
        case measure => rw [NX.out.rng.left_len, LEN.out, HLL.out]; simp
end

end Go.Proofs.YtffifhbldcjelaaGreatDoor

/-! Flows: Set. -/
namespace Go.Proofs.YtffifhbldcjelaaGreatDoor
set_option linter.unusedVariables false
set_option linter.unusedSimpArgs false
open Go.RowKit

/-- may an input n be set -/
def setOk (F : List En) (n : ByteArray) : Bool :=
  !n.toList.isEmpty && (match atF F n with | some e => !e.node | none => true)
def setF (F : List En) (n v : ByteArray) : List En :=
  if setOk F n = true then (match atF F n with | some e => chgF F n v | none => insF ⟨n, v, false, false, []⟩ F) else F

/-- what a name reads is there -/
def Closed (F : List En) : Prop := ∀ e ∈ F, ∀ r ∈ e.rds, ∃ e' ∈ F, e'.nm = r

theorem Closed.none {F : List En} (h : Closed F) {n : ByteArray} (hn : atF F n = none) : ∀ e ∈ F, n ∉ e.rds := fun e he hr => by
  obtain ⟨e', he', hn'⟩ := h e he n hr
  exact atF_none hn e' he' hn'

def StP (B : Nat) (W : World) (f M : Nat) (F' : List En) (c : Int) (e : Ending) (w' : World) : Prop :=
  ∃ bl rb sl, e = .returned (.int .i64 c) ∧ Rep B w' f M bl rb sl F' ∧ Mv B W w'

section
variable {B : Nat} {W : World} {f M : Nat} {bl rb : ByteArray → Nat} {sl : ByteArray → Value} {F : List En}

set_option maxRecDepth 100000 in
set_option maxHeartbeats 2000000 in
theorem set_any (h : Rep B W f M bl rb sl F) (hB : B ≤ W.heap.size) (hC : Closed F) (hF : F.length ≤ 1000) (n v : ByteArray) :
    Calls Tryz.prog 6 #[.pointer (some ⟨f, 0, none⟩), .string n, .string v] W (StP B W f M (setF F n v) (if setOk F n = true then 0 else 200)) := by
  have hc := h.cellM
  rcases he : atF F n with _ | e
  · have hl := h.look_miss he true
    rcases hn : n.toList.isEmpty with _ | _
    · have hn2 : (n.toList == []) = false := by rcases hh : n.toList with _ | ⟨a, r⟩ <;> simp_all
      have hok : setOk F n = true := by unfold setOk; rw [he, hn]; rfl
      have hsf : setF F n v = insF ⟨n, v, false, false, []⟩ F := by unfold setF; rw [if_pos hok, he]
      rw [hok, hsf]
      have RM := Lib.hid (room_any h hF)
      have AD := Lib.hid (add_any h hB n v he (hC.none he))
      clear h he hok hsf hC
      go_enter Tryz.func6, Tryz.ntmps6
      go_wp2_with (first
        | (go_at_call 19; refine RM.out.mono ?_; rintro e w' ⟨rfl, rfl⟩)
        | (go_at_call 21; refine AD.out.mono ?_; rintro e w' ⟨rfl, hr, hm, hs⟩; have HR := Lib.hid hr; have HM := Lib.hid hm; clear hr hm hs))
      go_ret
      exact ⟨_, _, _, rfl, HR.out, HM.out⟩
    · have hn2 : (n.toList == []) = true := by rcases hh : n.toList with _ | ⟨a, r⟩ <;> simp_all
      have hok : ¬ setOk F n = true := by unfold setOk; rw [hn]; simp
      have hsf : setF F n v = F := by unfold setF; rw [if_neg hok]
      rw [if_neg hok, hsf]
      have H := Lib.hid h
      clear h he hok hsf hC
      go_enter Tryz.func6, Tryz.ntmps6
      go_wp2
      go_ret
      exact ⟨_, _, _, rfl, H.out, Mv.refl _ _⟩
  · have hl := h.look_hit he true
    obtain ⟨c0, c1, c2, c3, c4, c5, fz⟩ := h.cells he
    rcases hn : n.toList.isEmpty with _ | _
    · have hn2 : (n.toList == []) = false := by rcases hh : n.toList with _ | ⟨a, r⟩ <;> simp_all
      rcases hnd : e.node with _ | _
      · have hok : setOk F n = true := by unfold setOk; rw [he, hn]; simp [hnd]
        have hsf : setF F n v = chgF F n v := by unfold setF; rw [if_pos hok, he]
        rw [hok, hsf]
        rw [hnd] at c2
        have CH := Lib.hid (change_any h he v)
        clear h he hok hsf hC hnd fz
        go_enter Tryz.func6, Tryz.ntmps6
        go_wp2_with (go_at_call 20; refine CH.out.mono ?_; rintro e w' ⟨rfl, hr, hm⟩; have HR := Lib.hid hr; have HM := Lib.hid hm; clear hr hm)
        go_ret
        exact ⟨_, _, _, rfl, HR.out, HM.out⟩
      · have hok : ¬ setOk F n = true := by unfold setOk; rw [he, hn]; simp [hnd]
        have hsf : setF F n v = F := by unfold setF; rw [if_neg hok]
        rw [if_neg hok, hsf]
        rw [hnd] at c2
        have H := Lib.hid h
        clear h he hok hsf hC hnd fz
        go_enter Tryz.func6, Tryz.ntmps6
        go_wp2
        go_ret
        exact ⟨_, _, _, rfl, H.out, Mv.refl _ _⟩
    · have hn2 : (n.toList == []) = true := by rcases hh : n.toList with _ | ⟨a, r⟩ <;> simp_all
      have hok : ¬ setOk F n = true := by unfold setOk; rw [hn]; simp
      have hsf : setF F n v = F := by unfold setF; rw [if_neg hok]
      rw [if_neg hok, hsf]
      have H := Lib.hid h
      clear h he hok hsf hC fz
      go_enter Tryz.func6, Tryz.ntmps6
      go_wp2
      go_ret
      exact ⟨_, _, _, rfl, H.out, Mv.refl _ _⟩
end

end Go.Proofs.YtffifhbldcjelaaGreatDoor

/-! Flows: read (what a node reads is replaced): the readers while they turn. -/
namespace Go.Proofs.YtffifhbldcjelaaGreatDoor
set_option linter.unusedVariables false
set_option linter.unusedSimpArgs false
open Go.RowKit

/-- a flow whose readers are as Q says: x is among those of m if Q m x -/
structure RepQ (B : Nat) (W : World) (f M : Nat) (bl rb : ByteArray → Nat) (sl : ByteArray → Value) (F : List En) (Q : ByteArray → En → Bool) : Prop where
  flow : W.heap[f]? = some (.cells #[.map (some M)] 52 (0, 0))
  names : ∃ L, RawMap W M L ∧ L.Perm (F.map fun e => (.string e.nm, ptr (bl e.nm)))
  ent : ∀ e ∈ F, W.heap[bl e.nm]? = some (entC e (sl e.nm) (rb e.nm))
  row : ∀ e ∈ F, RowP W (sl e.nm) (e.rds.map bl)
  rdr : ∀ e ∈ F, ∃ L, RawMap W (rb e.nm) L ∧ L.Perm ((F.filter (Q e.nm)).map fun x => (ptr (bl x.nm), .bool true))
  injB : ∀ a ∈ F, ∀ b ∈ F, bl a.nm = bl b.nm → a.nm = b.nm
  injR : ∀ a ∈ F, ∀ b ∈ F, rb a.nm = rb b.nm → a.nm = b.nm
  rbM : ∀ e ∈ F, rb e.nm ≠ M
  baseM : B ≤ M
  baseB : ∀ e ∈ F, B ≤ bl e.nm
  baseR : ∀ e ∈ F, B ≤ rb e.nm
  srt : SortedF F

section
variable {B : Nat} {W : World} {f M : Nat} {bl rb : ByteArray → Nat} {sl : ByteArray → Value} {F : List En} {Q : ByteArray → En → Bool}

theorem Rep.toQ (h : Rep B W f M bl rb sl F) : RepQ B W f M bl rb sl F (fun m x => hasR x m) := ⟨h.flow, h.names, h.ent, h.row, h.rdr, h.injB, h.injR, h.rbM, h.baseM, h.baseB, h.baseR, h.srt⟩

theorem RepQ.cong (h : RepQ B W f M bl rb sl F Q) {Q' : ByteArray → En → Bool} (hq : ∀ e ∈ F, ∀ x ∈ F, Q e.nm x = Q' e.nm x) : RepQ B W f M bl rb sl F Q' :=
  ⟨h.flow, h.names, h.ent, h.row, fun e he => by
    obtain ⟨L, h1, h2⟩ := h.rdr e he
    refine ⟨L, h1, ?_⟩
    rw [← List.filter_congr (fun x hx => hq e he x hx)]; exact h2, h.injB, h.injR, h.rbM, h.baseM, h.baseB, h.baseR, h.srt⟩

theorem RepQ.toRep (h : RepQ B W f M bl rb sl F Q) (hq : ∀ e ∈ F, ∀ x ∈ F, Q e.nm x = hasR x e.nm) : Rep B W f M bl rb sl F := by
  have := h.cong (Q' := fun m x => hasR x m) hq
  exact ⟨this.flow, this.names, this.ent, this.row, this.rdr, this.injB, this.injR, this.rbM, this.baseM, this.baseB, this.baseR, this.srt⟩

theorem RepQ.mapR (h : RepQ B W f M bl rb sl F Q) {e : En} (he : e ∈ F) : ∃ es c, W.heap[rb e.nm]? = some (.map es c) := by obtain ⟨L, ⟨es, c, h1, _⟩, _⟩ := h.rdr e he; exact ⟨es, c, h1⟩
theorem RepQ.good (h : RepQ B W f M bl rb sl F Q) {m : ByteArray} {L : List (Value × Value)} (hp : L.Perm ((F.filter (Q m)).map fun x => (ptr (bl x.nm), .bool true))) : KeysGood goodP W L := fun p hp' => by
  obtain ⟨x, hx, rfl⟩ := List.mem_map.1 (hp.mem_iff.1 hp')
  exact ⟨bl x.nm, _, _, rfl, h.ent x (List.mem_filter.1 hx).1⟩
theorem RepQ.goodE (h : RepQ B W f M bl rb sl F Q) {e : En} (he : e ∈ F) : goodP W (.pointer (some ⟨bl e.nm, 0, none⟩)) := ⟨bl e.nm, _, _, rfl, h.ent e he⟩

theorem ptrs_nodup {F : List En} {bl : ByteArray → Nat} (hs : SortedF F) (hi : ∀ a ∈ F, ∀ b ∈ F, bl a.nm = bl b.nm → a.nm = b.nm) (p : En → Bool) : (((F.filter p).map fun x => ((ptr (bl x.nm), .bool true) : Value × Value)).map (·.1)).Nodup := by
  rw [List.map_map]
  refine List.pairwise_map.2 (List.Pairwise.imp_of_mem (fun {a b} ha hb hne e => ?_) ((pw_ne hs).sublist List.filter_sublist))
  exact hne (hi a (List.mem_filter.1 ha).1 b (List.mem_filter.1 hb).1 (ptr_inj e))

open Classical in
theorem delV_filter {k : Value} : ∀ {L : List (Value × Value)}, (L.map (·.1)).Nodup → delV k L = L.filter (fun p => decide (p.1 ≠ k))
  | [], _ => rfl
  | p :: L, hn => by
    rw [List.map_cons, List.nodup_cons] at hn
    unfold delV
    split
    · rename_i h
      rw [List.filter_cons, if_neg (by simp [h])]
      refine (List.filter_eq_self.2 fun q hq => ?_).symm
      simp only [decide_eq_true_eq]
      intro e; exact hn.1 (by rw [h, ← e]; exact List.mem_map.2 ⟨q, hq, rfl⟩)
    · rename_i h
      rw [List.filter_cons, if_pos (by simpa using h), delV_filter hn.2]

/-- a reader less -/
theorem del_perm (h : RepQ B W f M bl rb sl F Q) {m n : ByteArray} {L : List (Value × Value)} (hp : L.Perm ((F.filter (Q m)).map fun x => (ptr (bl x.nm), .bool true))) {e : En} (he : e ∈ F) (hn : e.nm = n) :
    (delV (ptr (bl n)) L).Perm ((F.filter (fun x => Q m x && !decide (x.nm = n))).map fun x => (ptr (bl x.nm), .bool true)) := by
  have hnd := ptrs_nodup h.srt h.injB (Q m)
  rw [delV_filter ((hp.map _).nodup_iff.2 hnd)]
  refine (hp.filter _).trans ?_
  rw [List.filter_map, ← List.filter_filter]
  refine List.Perm.of_eq ?_
  congr 1
  rw [List.filter_filter, List.filter_filter]
  refine List.filter_congr fun x hx => ?_
  rw [Bool.and_comm]
  congr 1
  rw [Bool.eq_iff_iff]
  simp only [Function.comp, decide_eq_true_eq, Bool.not_eq_true', decide_eq_false_iff_not]
  constructor
  · intro q e1; exact q (by rw [e1])
  · intro q e1; exact q (by have := h.injB x hx e he (by rw [hn]; exact ptr_inj e1); rw [this, hn])

/-- a reader more -/
theorem put_perm (h : RepQ B W f M bl rb sl F Q) {m n : ByteArray} {L : List (Value × Value)} (hp : L.Perm ((F.filter (Q m)).map fun x => (ptr (bl x.nm), .bool true))) {e : En} (he : e ∈ F) (hn : e.nm = n) (hq : Q m e = false) :
    (putV (ptr (bl n)) (.bool true) L).Perm ((F.filter (fun x => Q m x || decide (x.nm = n))).map fun x => (ptr (bl x.nm), .bool true)) := by
  have hk : ∀ p ∈ L, p.1 ≠ ptr (bl n) := fun p hp' e1 => by
    obtain ⟨x, hx, rfl⟩ := List.mem_map.1 (hp.mem_iff.1 hp')
    obtain ⟨h1, h2⟩ := List.mem_filter.1 hx
    have := h.srt.inj x h1 e he (h.injB x h1 e he (by rw [hn]; exact ptr_inj e1))
    rw [this, hq] at h2; cases h2
  rw [putV_new hk]
  have hsplit : (F.filter (fun x => Q m x || decide (x.nm = n))).Perm (F.filter (Q m) ++ [e]) := by
    have key : ∀ (G : List En), SortedF G → (∀ x ∈ G, x.nm = n → x = e) → e ∈ G → (G.filter (fun x => Q m x || decide (x.nm = n))).Perm (G.filter (Q m) ++ [e]) := by
      intro G hG hu heG
      induction G with
      | nil => cases heG
      | cons y r ih =>
        obtain ⟨g1, g2⟩ := List.pairwise_cons.1 hG
        by_cases hy : y.nm = n
        · have hye : y = e := hu y (by simp) hy
          have hr : ∀ x ∈ r, ¬ x.nm = n := fun x hx e1 => by
            have h3 := g1 x hx
            rw [e1, hy] at h3; exact ltB_irr _ h3
          have e2 : r.filter (fun x => Q m x || decide (x.nm = n)) = r.filter (Q m) := List.filter_congr fun x hx => by simp [hr x hx]
          rw [List.filter_cons, if_pos (by simp [hy]), List.filter_cons, if_neg (by rw [hye, hq]; simp), e2, hye]
          exact (List.perm_append_singleton e _).symm
        · have her : e ∈ r := by
            rcases List.mem_cons.1 heG with q | q
            · exact absurd (by rw [← q]; exact hn) hy
            · exact q
          have ih' := ih g2 (fun x hx => hu x (by simp [hx])) her
          rw [List.filter_cons, List.filter_cons]
          by_cases hqy : Q m y = true
          · rw [if_pos (by simp [hqy]), if_pos hqy]; exact ih'.cons y
          · rw [if_neg (by simp [hqy, hy]), if_neg hqy]; exact ih'
    exact key F h.srt (fun x hx hxn => h.srt.inj x hx e he (hxn.trans hn.symm)) he
  refine List.Perm.trans ?_ ((hsplit.map _).symm)
  rw [List.map_append]
  simp only [List.map_cons, List.map_nil, hn]
  exact hp.append_right _

/-- the readers of one name turn -/
theorem RepQ.turn (h : RepQ B W f M bl rb sl F Q) {d : En} (hd : d ∈ F) (ob : Obj) {L : List (Value × Value)} {q : En → Bool} (hL : RawMap (W.putObj (rb d.nm) ob) (rb d.nm) L) (hp : L.Perm ((F.filter q).map fun x => (ptr (bl x.nm), .bool true))) :
    RepQ B (W.putObj (rb d.nm) ob) f M bl rb sl F (fun m x => if m = d.nm then q x else Q m x) ∧ Mv B W (W.putObj (rb d.nm) ob) := by
  obtain ⟨es, c, hm⟩ := h.mapR hd
  have hc : ∀ {k : Nat} {cs : Array Value} {t : TypeId} {fr : Nat × Nat}, W.heap[k]? = some (.cells cs t fr) → (W.putObj (rb d.nm) ob).heap[k]? = W.heap[k]? := fun hk => World.putObj_heap_other (fun e1 => by rw [e1, hm] at hk; cases hk)
  obtain ⟨LM, hLM, hpM⟩ := h.names
  refine ⟨⟨(hc h.flow).trans h.flow, ⟨LM, hLM.kept (World.putObj_heap_other (fun e1 => h.rbM d hd e1.symm)), hpM⟩, fun e he => (hc (h.ent e he)).trans (h.ent e he), fun e he => (h.row e he).kept (fun g cur fr hg => hc hg), fun e he => ?_, h.injB, h.injR, h.rbM, h.baseM, h.baseB, h.baseR, h.srt⟩, (Mv.refl B W).put ob (.inl ⟨h.baseR d hd, .inl ⟨es, c, hm⟩⟩)⟩
  by_cases hq : e.nm = d.nm
  · refine ⟨L, by rw [hq]; exact hL, ?_⟩
    simp only [hq, if_true]; exact hp
  · obtain ⟨L', hL', hp'⟩ := h.rdr e he
    refine ⟨L', hL'.kept (World.putObj_heap_other (fun e1 => hq (h.injR e he d hd e1))), ?_⟩
    simp only [hq, if_false]; exact hp'
end

end Go.Proofs.YtffifhbldcjelaaGreatDoor
