import Derived.Test.YtgbnhngaeefmkaaFl2
import Derived.Lib.SlicesS

/-! Flows: change. -/
namespace Go.Proofs.Ytgbnhngaeefmkaa
set_option linter.unusedVariables false
set_option linter.unusedSimpArgs false
open Go.RowKit

theorem RawRange.left_len {w : World} {b r : Nat} {L left : List (Value × Value)} (h : RawRange w b r L left) : w.rangeLeft b r = left.length := by
  obtain ⟨es, clk, since, seen, c0, h1, _, _, _, h5, _, _, _, rfl⟩ := h
  unfold World.rangeLeft
  rw [h1, h5]
  simp only [List.length_map]
  unfold leftOf
  rw [← Array.length_toList, Array.toList_filter]

section
variable {B : Nat} {W : World} {f M : Nat} {bl rb : ByteArray → Nat} {sl : ByteArray → Value} {F : List En}

/-- names and reads stay, the words of some names turn -/
theorem Rep.mapped {W' : World} (h : Rep B W f M bl rb sl F) (g : En → En) (hg : ∀ e ∈ F, (g e).nm = e.nm ∧ (g e).rds = e.rds) (he : ∀ e ∈ F, W'.heap[bl e.nm]? = some (entC (g e) (sl e.nm) (rb e.nm)))
    (hk : ∀ k, k < W.heap.size → (∀ e ∈ F, k ≠ bl e.nm) → W'.heap[k]? = W.heap[k]?) : Rep B W' f M bl rb sl (F.map g) := by
  have hcell : ∀ {k : Nat} {cs : Array Value} {t : TypeId} {fr : Nat × Nat}, W.heap[k]? = some (.cells cs t fr) → t ≠ 80 → ∀ e ∈ F, k ≠ bl e.nm := fun hkk ht e he' e1 => by
    rw [e1, h.ent e he'] at hkk
    unfold entC at hkk
    cases hkk; exact ht rfl
  have hmap : ∀ {k : Nat} {es : Array MapEntry} {c : Nat}, W.heap[k]? = some (.map es c) → ∀ e ∈ F, k ≠ bl e.nm := fun hkk e he' e1 => by
    rw [e1, h.ent e he'] at hkk; cases hkk
  have hfil : ∀ m : ByteArray, ((F.map g).filter (hasR · m)) = (F.filter (hasR · m)).map g := fun m => by
    rw [List.filter_map]
    congr 1
    refine List.filter_congr fun e he' => ?_
    show hasR (g e) m = hasR e m
    unfold hasR; rw [(hg e he').2]
  obtain ⟨L, hL, hp⟩ := h.names
  obtain ⟨es0, c0, hm0⟩ := h.mapM
  refine ⟨(hk f h.ltF (hcell h.flow (by decide))).trans h.flow, ⟨L, hL.kept (hk M hL.lt (hmap hm0)), ?_⟩, fun e he' => ?_, fun e he' => ?_, fun e he' => ?_, fun a ha b hb e => ?_, fun a ha b hb e => ?_, fun e he' => ?_, h.baseM, fun e he' => ?_, fun e he' => ?_, ?_⟩
  · rw [List.map_map]
    rw [List.map_congr_left (g := fun e => ((.string e.nm, ptr (bl e.nm)) : Value × Value)) (fun e he' => by simp [(hg e he').1])]
    exact hp
  · obtain ⟨e0, h0, rfl⟩ := List.mem_map.1 he'
    rw [(hg e0 h0).1]; exact he e0 h0
  · obtain ⟨e0, h0, rfl⟩ := List.mem_map.1 he'
    rw [(hg e0 h0).1, (hg e0 h0).2]
    exact (h.row e0 h0).kept (fun g' cur fr hg' => hk g' (lt_of_blk hg') (hcell hg' (by decide)))
  · obtain ⟨e0, h0, rfl⟩ := List.mem_map.1 he'
    rw [(hg e0 h0).1]
    obtain ⟨L', hL', hp'⟩ := h.rdr e0 h0
    obtain ⟨es1, c1, hm1⟩ := h.mapR h0
    refine ⟨L', hL'.kept (hk _ hL'.lt (hmap hm1)), ?_⟩
    rw [hfil, List.map_map]
    rw [List.map_congr_left (g := fun x => ((ptr (bl x.nm), .bool true) : Value × Value)) (fun e he' => by simp [(hg e (List.mem_filter.1 he').1).1])]
    exact hp'
  · obtain ⟨a0, q0, rfl⟩ := List.mem_map.1 ha
    obtain ⟨b0, q1, rfl⟩ := List.mem_map.1 hb
    rw [(hg a0 q0).1, (hg b0 q1).1] at e ⊢
    exact h.injB a0 q0 b0 q1 e
  · obtain ⟨a0, q0, rfl⟩ := List.mem_map.1 ha
    obtain ⟨b0, q1, rfl⟩ := List.mem_map.1 hb
    rw [(hg a0 q0).1, (hg b0 q1).1] at e ⊢
    exact h.injR a0 q0 b0 q1 e
  · obtain ⟨e0, h0, rfl⟩ := List.mem_map.1 he'
    rw [(hg e0 h0).1]; exact h.rbM e0 h0
  · obtain ⟨e0, h0, rfl⟩ := List.mem_map.1 he'
    rw [(hg e0 h0).1]; exact h.baseB e0 h0
  · obtain ⟨e0, h0, rfl⟩ := List.mem_map.1 he'
    rw [(hg e0 h0).1]; exact h.baseR e0 h0
  · unfold SortedF
    refine List.pairwise_map.2 ?_
    refine List.Pairwise.imp_of_mem (fun {a b} ha hb hlt => ?_) h.srt
    rw [(hg a ha).1, (hg b hb).1]; exact hlt

theorem heap_setC {W : World} {b o : Nat} {cs : Array Value} {t : TypeId} {fr : Nat × Nat} (h : W.heap[b]? = some (.cells cs t fr)) (v : Value) : (W.setCell ⟨b, o, none⟩ v).heap[b]? = some (.cells (cs.setIfInBounds o v) t fr) := by
  obtain ⟨hlt, hg⟩ := Array.getElem?_eq_some_iff.1 h
  simp [World.setCell, hlt, Array.getElem_modify, hg]

/-- one word of one name turns -/
theorem Rep.setOne (h : Rep B W f M bl rb sl F) {e : En} (he : e ∈ F) (o : Nat) (v : Value) (e' : En) (hn : e'.nm = e.nm) (hr : e'.rds = e.rds)
    (hc : (#[Value.string e.nm, .string e.val, .bool e.node, .bool e.stale, sl e.nm, .map (some (rb e.nm))]).setIfInBounds o v = #[Value.string e'.nm, .string e'.val, .bool e'.node, .bool e'.stale, sl e.nm, .map (some (rb e.nm))]) :
    Rep B (W.setCell ⟨bl e.nm, o, none⟩ v) f M bl rb sl (updF F e.nm (fun _ => e')) ∧ Mv B W (W.setCell ⟨bl e.nm, o, none⟩ v) := by
  have hb := h.ent e he
  refine ⟨h.mapped (fun x => if x.nm = e.nm then e' else x) (fun x hx => ?_) (fun x hx => ?_) (fun k hk hne => Below.heap_setCell W ⟨bl e.nm, o, none⟩ v k (hne e he)), ?_⟩
  · split
    · rename_i hq
      obtain rfl := h.srt.inj x hx e he hq
      exact ⟨hn, hr⟩
    · exact ⟨rfl, rfl⟩
  · by_cases hq : x.nm = e.nm
    · obtain rfl := h.srt.inj x hx e he hq
      rw [if_pos rfl, heap_setC hb, hc]; rfl
    · rw [if_neg hq, Below.heap_setCell W ⟨bl e.nm, o, none⟩ v (bl x.nm) (fun e1 => hq (h.injB x hx e he e1))]
      exact h.ent x hx
  · refine ⟨rfl, rfl, rfl, by simp, fun k hk hnm => Below.heap_setCell W ⟨bl e.nm, o, none⟩ v k (fun e1 => hnm ?_)⟩
    have : k = bl e.nm := e1
    rw [this]; exact h.mineB he
end

/-- those that D says are stale -/
def stF (F : List En) (D : ByteArray → Bool) : List En := F.map fun e => if D e.nm = true then { e with stale := true } else e

theorem stF_none (F : List En) : stF F (fun _ => false) = F := by unfold stF; simp

theorem stF_step (F : List En) (D : ByteArray → Bool) (m : ByteArray) : updF (stF F D) m (fun e => { e with stale := true }) = stF F (fun k => D k || decide (k = m)) := by
  unfold updF stF
  rw [List.map_map]
  refine List.map_congr_left fun e he => ?_
  show (if (if D e.nm = true then _ else e : En).nm = m then _ else _) = _
  by_cases h2 : e.nm = m
  · subst h2
    by_cases h1 : D e.nm = true
    · simp [h1]
    · simp [h1]
  · by_cases h1 : D e.nm = true
    · simp [h1, h2]
    · simp [h1, h2]

theorem stF_all {F : List En} {n : ByteArray} {D : ByteArray → Bool} (h : ∀ e ∈ F, D e.nm = hasR e n) : stF F D = markF F n := by
  unfold stF markF
  exact List.map_congr_left fun e he => by rw [h e he]

section
variable {B : Nat} {W : World} {f M : Nat} {bl rb : ByteArray → Nat} {sl : ByteArray → Value} {F : List En}

theorem Rep.goodR (h : Rep B W f M bl rb sl F) {n : ByteArray} {L : List (Value × Value)} (hp : L.Perm ((F.filter (hasR · n)).map fun x => (ptr (bl x.nm), .bool true))) : KeysGood goodP W L := fun p hp' => by
  obtain ⟨x, hx, rfl⟩ := List.mem_map.1 (hp.mem_iff.1 hp')
  exact ⟨bl x.nm, _, _, rfl, h.ent x (List.mem_filter.1 hx).1⟩

/-- the loop of change -/
structure ChgR (B : Nat) (W : World) (f M : Nat) (bl rb : ByteArray → Nat) (sl : ByteArray → Value) (F : List En) (n : ByteArray) (it : Nat) (L : List (Value × Value)) (wr : World) (D : ByteArray → Bool) (left : List (Value × Value)) : Prop where
  rng : RawRange wr (rb n) it L left
  rep : Rep B wr f M bl rb sl (stF F D)
  sub : ∀ p ∈ left, ∃ x ∈ F, hasR x n = true ∧ p = (ptr (bl x.nm), .bool true)
  todo : ∀ e ∈ F, D e.nm = true ∨ (ptr (bl e.nm), Value.bool true) ∈ left ∨ hasR e n = false
  done : ∀ e ∈ F, D e.nm = true → hasR e n = true
  mv : Mv B W wr
  itS : W.heap.size ≤ it

def ChgP (B : Nat) (W : World) (f M : Nat) (bl rb : ByteArray → Nat) (sl : ByteArray → Value) (F : List En) (n v : ByteArray) (e : Ending) (w' : World) : Prop :=
  e = .returned (.tuple #[]) ∧ Rep B w' f M bl rb sl (chgF F n v) ∧ Mv B W w'

theorem stF_nm {F : List En} {D : ByteArray → Bool} {e : En} (he : e ∈ F) : ∃ e' ∈ stF F D, e'.nm = e.nm ∧ e'.rds = e.rds ∧ e' = (if D e.nm = true then { e with stale := true } else e) := ⟨_, List.mem_map.2 ⟨e, he, rfl⟩, by split <;> rfl, by split <;> rfl, rfl⟩

theorem Rep.kept2 {W' : World} (h : Rep B W f M bl rb sl F) (hk : ∀ (k : Nat), ((∃ cs t fr, W.heap[k]? = some (Obj.cells cs t fr)) ∨ ∃ es c, W.heap[k]? = some (Obj.map es c)) → W'.heap[k]? = W.heap[k]?) : Rep B W' f M bl rb sl F := by
  obtain ⟨L, hL, hp⟩ := h.names
  obtain ⟨es0, c0, hm0⟩ := h.mapM
  refine ⟨(hk f (.inl ⟨_, _, _, h.flow⟩)).trans h.flow, ⟨L, hL.kept (hk M (.inr ⟨es0, c0, hm0⟩)), hp⟩, fun e he => (hk _ (.inl ⟨_, _, _, h.ent e he⟩)).trans (h.ent e he), fun e he => (h.row e he).kept (fun g cur fr hg => hk g (.inl ⟨_, _, _, hg⟩)), fun e he => ?_, h.injB, h.injR, h.rbM, h.baseM, h.baseB, h.baseR, h.srt⟩
  obtain ⟨L', hL', hp'⟩ := h.rdr e he
  exact ⟨L', hL'.kept (hk _ (.inr (h.mapR he))), hp'⟩

theorem ChgR.next {n : ByteArray} {it : Nat} {L : List (Value × Value)} {wr w' : World} {D : ByteArray → Bool} {left pre post : List (Value × Value)} {k x : Value} (h : ChgR B W f M bl rb sl F n it L wr D left) (hl : left = pre ++ (k, x) :: post) (hr : RawRange w' (rb n) it L (pre ++ post)) (hg : wr.grownBy w' (some it)) (hs : w'.heap.size = wr.heap.size) :
    ∃ (b : Nat) (y : En) (s : Value) (r : Nat) (D' : ByteArray → Bool), k = .pointer (some ⟨b, 0, none⟩) ∧ x = .bool true ∧ Cells w' b y s r ∧ ChgR B W f M bl rb sl F n it L (w'.setCell ⟨b, 3, none⟩ (.bool true)) D' (pre ++ post) := by
  subst hl
  obtain ⟨z, hz, hzn, hkz⟩ := h.sub (k, x) (by simp)
  injection hkz with hk hx
  obtain ⟨y, hy, hyn, hyr, hye⟩ := stF_nm (D := D) hz
  have hit : ∀ (j : Nat), ((∃ cs t fr, wr.heap[j]? = some (Obj.cells cs t fr)) ∨ ∃ es c, wr.heap[j]? = some (Obj.map es c)) → w'.heap[j]? = wr.heap[j]? := fun j hj => by
    refine hg.block j (by rcases hj with ⟨_, _, _, q⟩ | ⟨_, _, q⟩ <;> exact lt_of_blk q) (fun e1 => ?_)
    cases e1
    obtain ⟨es, clk, since, seen, c0, _, _, _, _, q5, _⟩ := h.rng
    rcases hj with ⟨_, _, _, q⟩ | ⟨_, _, q⟩ <;> (rw [q5] at q; cases q)
  have hrep := h.rep.kept2 hit
  have hmv : Mv B W w' := h.mv.grown hg (.inr h.itS)
  obtain ⟨r1, r2⟩ := hrep.setOne hy 3 (.bool true) { y with stale := true } rfl rfl rfl
  have hcs := cells_ent (hrep.ent y hy)
  rw [hyn] at r1 r2 hcs
  have hcell := hrep.ent y hy
  rw [hyn] at hcell
  have hnb : rb n ≠ bl z.nm := fun e1 => by
    obtain ⟨es, clk, since, seen, c0, q1, _⟩ := hr
    rw [e1, hcell] at q1; cases q1
  have hni : it ≠ bl z.nm := fun e1 => by
    obtain ⟨es, clk, since, seen, c0, _, _, _, _, q5, _⟩ := hr
    rw [e1, hcell] at q5; cases q5
  have hst : updF (stF F D) z.nm (fun _ => { nm := z.nm, val := y.val, node := y.node, stale := true, rds := y.rds }) = stF F (fun m => D m || decide (m = z.nm)) := by
    rw [← stF_step]
    unfold updF
    refine List.map_congr_left fun u hu => ?_
    by_cases hq : u.nm = z.nm
    · rw [if_pos hq, if_pos hq, hrep.srt.inj u hu y hy (hq.trans hyn.symm)]
      dsimp only
      rw [← hyn]
    · rw [if_neg hq, if_neg hq]
  refine ⟨bl z.nm, y, _, _, fun m => D m || decide (m = z.nm), hk, hx, hcs, hr.kept (Below.heap_setCell w' ⟨bl z.nm, 3, none⟩ _ _ hnb) (Below.heap_setCell w' ⟨bl z.nm, 3, none⟩ _ _ hni), by rw [← hst]; exact r1, fun p hp => h.sub p ?_, fun e he => ?_, fun e he hd => ?_, hmv.trans r2, h.itS⟩
  · rcases List.mem_append.1 hp with q | q <;> simp [q]
  · rcases h.todo e he with q | q | q
    · exact .inl (by simp [q])
    · rcases List.mem_append.1 q with q | q
      · exact .inr (.inl (by simp [q]))
      · rcases List.mem_cons.1 q with q | q
        · have hb : ptr (bl e.nm) = ptr (bl z.nm) := by rw [hk] at q; injection q
          obtain ⟨e', he', hn', _⟩ := stF_nm (D := D) he
          have hnm : e'.nm = y.nm := hrep.injB e' he' y hy (by rw [hn', hyn]; exact ptr_inj hb)
          rw [hn', hyn] at hnm
          exact .inl (by simp [hnm])
        · exact .inr (.inl (by simp [q]))
    · exact .inr (.inr q)
  · simp only [Bool.or_eq_true, decide_eq_true_eq] at hd
    rcases hd with q | q
    · exact h.done e he q
    · obtain ⟨e', he', hn', hr', _⟩ := stF_nm (D := D) he
      have : e' = y := hrep.srt.inj e' he' y hy (by rw [hn', hyn, q])
      have hrr : e.rds = z.rds := by rw [← hr', this, hyr]
      unfold hasR at hzn ⊢
      rw [hrr]; exact hzn

set_option maxRecDepth 100000 in
set_option maxHeartbeats 2000000 in
theorem change_any (h : Rep B W f M bl rb sl F) {n : ByteArray} {e : En} (he : atF F n = some e) (v : ByteArray) :
    Calls Try.prog 36 #[.pointer (some ⟨bl n, 0, none⟩), .string v] W (ChgP B W f M bl rb sl F n v) := by
  obtain ⟨heF, hen⟩ := atF_some he
  obtain ⟨c0, c1, c2, c3, c4, c5, fz⟩ := h.cells he
  have f1 := fz 1
  by_cases hv : e.val = v
  · have hb : (e.val.toList == v.toList) = true := by rw [hv]; simp
    have FIN := Lib.hid (show ChgP B W f M bl rb sl F n v (.returned (.tuple #[])) W from ⟨rfl, by unfold chgF; rw [he]; simp only [hv, if_true]; exact h, Mv.refl _ _⟩)
    clear h fz he hv
    go_enter Try.func36, Try.ntmps36
    go_wp2
    go_end0
    exact FIN.out
  · have hb : (e.val.toList == v.toList) = false := (Lib.bytes_beq_false_iff _ _).2 hv
    obtain ⟨h1, hm1⟩ := h.setOne heF 1 (.string v) { e with val := v } rfl rfl rfl
    rw [hen] at h1 hm1
    obtain ⟨W1, hW1⟩ : ∃ W1 : World, W1 = W.setCell ⟨bl n, 1, none⟩ (.string v) := ⟨_, rfl⟩
    rw [← hW1] at h1 hm1
    have e5 : (W.setCell ⟨bl n, 1, none⟩ (.string v)).cell? ⟨bl n, 5, none⟩ = some (.map (some (rb n))) := by go_simp
    have HW1 := Lib.hid hW1
    have hF1 : updF F n (fun _ => { nm := n, val := v, node := e.node, stale := e.stale, rds := e.rds }) = updF F n (fun x => { x with val := v }) := by
      unfold updF
      refine List.map_congr_left fun x hx => ?_
      by_cases hq : x.nm = n
      · rw [if_pos hq, if_pos hq, h.srt.inj x hx e heF (hq.trans hen.symm)]
        dsimp only
        rw [← hen]
      · rw [if_neg hq, if_neg hq]
    rw [hF1] at h1
    obtain ⟨F1, hF1e⟩ : ∃ F1, updF F n (fun x => { x with val := v }) = F1 := ⟨_, rfl⟩
    rw [hF1e] at h1
    have hchg : chgF F n v = markF F1 n := by unfold chgF; rw [he]; simp only [hv, if_false]; rw [hF1e]
    have hn1 : ∃ e1 ∈ F1, e1.nm = n := ⟨{ e with val := v }, by rw [← hF1e]; exact List.mem_map.2 ⟨e, heF, by rw [if_pos hen]⟩, hen⟩
    obtain ⟨e1, he1, hen1⟩ := hn1
    obtain ⟨L, hL, hp⟩ := h1.rdr e1 he1
    rw [hen1] at hL hp
    have hsz : W1.heap.size = W.heap.size := by rw [hW1]; simp
    have ST := Lib.hid (show ∀ ob, RawRange (W1.alloc ob) (rb n) W1.heap.size L L → ChgR B W f M bl rb sl F1 n W1.heap.size L (W1.alloc ob) (fun _ => false) L from fun ob hob => by
      refine ⟨hob, by rw [stF_none]; exact h1.later ((Below.refl _ _).alloc (Nat.le_refl _) ob), fun p hp' => ?_, fun x hx => ?_, (fun x hx hd => by cases hd), hm1.trans (Mv.of_below ((Below.refl _ _).alloc (Nat.le_refl _) ob)), by omega⟩
      · obtain ⟨x, hx, rfl⟩ := List.mem_map.1 (hp.mem_iff.1 hp')
        exact ⟨x, (List.mem_filter.1 hx).1, by simpa using (List.mem_filter.1 hx).2, rfl⟩
      · by_cases hh : hasR x n = true
        · exact .inr (.inl (hp.mem_iff.2 (List.mem_map.2 ⟨x, List.mem_filter.2 ⟨hx, hh⟩, rfl⟩)))
        · exact .inr (.inr (by simpa using hh)))
    have FIN := Lib.hid (show ∀ wr D, ChgR B W f M bl rb sl F1 n W1.heap.size L wr D [] → ChgP B W f M bl rb sl F n v (.returned (.tuple #[])) wr from fun wr D hr => by
      refine ⟨rfl, ?_, hr.mv⟩
      rw [hchg, ← stF_all (D := D) (fun x hx => ?_)]
      · exact hr.rep
      · rcases hr.todo x hx with q | q | q
        · rw [q, hr.done x hx q]
        · cases q
        · rcases hd : D x.nm with _ | _
          · exact q.symm
          · rw [hr.done x hx hd])
    have HL := Lib.hid hL
    obtain ⟨it, hit⟩ : ∃ it, W1.heap.size = it := ⟨_, rfl⟩
    clear fz h h1 hp hL hm1 hchg hF1 hF1e he1 hen1 he heF hen hv hW1 hsz
    go_enter Try.func36, Try.ntmps36
    go_wp2_with (rw [← HW1.out]; refine wpList_range_raw _ rfl (.tmp 18) 78 (by rfl) 75 4 Try.underlying78 (rb n) L (by rfl) HL.out ?_; intro ob hob; have S0 := Lib.hid (ST.out ob hob); clear hob)
    rw [hit] at ST FIN S0 ⊢
    clear hit
    go_frame
    go_loopw [] (fun wr => ∃ D left, ChgR B W f M bl rb sl F1 n it L wr D left) (fun wr => wr.rangeLeft (rb n) it)
    case atStart => exact ⟨_, _, S0.out⟩
    case round =>
      obtain ⟨D, left, hr⟩ := hrel
      have RR := Lib.hid hr
      have RNG := Lib.hid hr.rng
      have LEN := Lib.hid hr.rng.left_len
      clear hr
      go_wp2_with (at_next; refine wpList_next_raw _ rfl (.tmp 19) (by rfl) (rb n) it L left (by rfl) RNG.out ?_ ?_)
      · intro hl
        subst hl
        go_wp2
        go_end0
        exact FIN.out _ _ RR.out
      · intro k x pre post w2 hl hm hr2 hg2 hs2 hen2
        obtain ⟨b, y, s, r, D', rfl, rfl, hcs, hnx⟩ := RR.out.next hl hr2 hg2 hs2
        have NX := Lib.hid hnx
        have HLL := Lib.hid hl
        have cy := hcs.c3
        have fy := hcs.fz 3
        clear hl hm hr2 hg2 hs2 hcs hnx
        go_wp2
        go_roundw
        case rel => exact ⟨_, _, NX.out⟩
        case measure => rw [NX.out.rng.left_len, LEN.out, HLL.out]; simp
end

end Go.Proofs.Ytgbnhngaeefmkaa
