import Derived.Test.YtgbnhngaeefmkaaFl25

/-! Flows: resolve. -/
namespace Go.Proofs.Ytgbnhngaeefmkaa
set_option linter.unusedVariables false
set_option linter.unusedSimpArgs false
open Go.RowKit

attribute [local go_sem] Oper.semAt_some

theorem leaves_marks {n : Nat} {P : Program} {fn : Func} {tmps : Array Value} {R : Ending → World → Prop} : ∀ (Ds : List Nat) (w : World), Ds.Nodup → (∀ D ∈ Ds, w.heap[D]? = some (.deferred (some []))) →
    (∀ w', Chg (fun k => k ∈ Ds) w w' → LeavesInM Fence.wide n P fn tmps R [] .returning w') → LeavesInM Fence.wide n P fn tmps R (Ds.map fun D => ({ target := .collected D, args := #[] } : Deferred)) .returning w
  | [], w, _, _, h => h w (Chg.refl _ _)
  | D :: Ds, w, hn, hD, h => by
    rw [List.nodup_cons] at hn
    refine ⟨by simp, .inl ⟨D, _, rfl, run_takeDeferred (hD D (by simp)), leaves_marks Ds _ hn.2 (fun D' hD' => ?_) (fun w' hc => h w' ?_)⟩⟩
    · rw [World.putObj_heap_other (fun e => hn.1 (by rw [← e]; exact hD'))]; exact hD D' (by simp [hD'])
    · refine (Chg.put (C := fun k => k ∈ D :: Ds) w D _ (by simp)).trans (hc.mono (fun k _ hk => .inl (by simp [hk])))

theorem results_cells2 {P : Program} {fn : Func} {a b : Tmp} {t u : TypeId} {pa pb : Addr} {va vb : Value} {tmps : Array Value} {w : World} (h : fn.results = #[.cell a t, .cell b u]) (ha : tmps.getD a undef = .pointer (some pa)) (hb : tmps.getD b undef = .pointer (some pb))
    (hta : (isAgg t).run P w = .ok false w) (hub : (isAgg u).run P w = .ok false w) (hca : w.cell? pa = some va) (hcb : w.cell? pb = some vb) : (results fn tmps).run P w = .ok (.tuple #[va, vb]) w := by
  have e1 : asAddr (tmps.getD a undef) = pure pa := by rw [ha]; rfl
  have e2 : asAddr (tmps.getD b undef) = pure pb := by rw [hb]; rfl
  unfold results
  rw [h]
  simp only [List.mapM_toArray, List.mapM_cons, List.mapM_nil, e1, e2]
  simp [loadVar, hta, hub, run_load, hca, hcb]

section
variable {B : Nat} {W : World} {f M : Nat} {bl rb : ByteArray → Nat} {sl : ByteArray → Value} {F : List En}

/-- the rounds of resolve: k names are looked at; W5: the world as the loop begins; bo, bk: the boxes of the results -/
structure ResI (F : List En) (bl : ByteArray → Nat) (W5 : World) (bo bk : Nat) (n : ByteArray) (names : List ByteArray) (k : Nat) (wr : World) (Ds : List Nat) (v : Value) : Prop where
  box : Boxed wr bo 77 v
  row : wr.ownsRow W5.heap.size 75 1 v k ((names.take k).map fun r => ptr (bl r))
  keep : Chg (fun j => j = bo) W5 wr
  ds : ∀ D ∈ Ds, W5.heap.size ≤ D ∧ wr.heap[D]? = some (.deferred (some []))
  nd : Ds.Nodup
  acc : ∀ r ∈ names.take k, rdOk F n r = true

def ResP (W : World) (F : List En) (bl : ByteArray → Nat) (n : ByteArray) (l : List ByteArray) (e : Ending) (w' : World) : Prop :=
  Below W.heap.size W w' ∧ ((resOk F n l = true ∧ ∃ ao cap, e = .returned (.tuple #[.slice ao l.length cap, .bool true]) ∧ RowP w' (.slice ao l.length cap) (l.map bl)) ∨ (resOk F n l = false ∧ e = .returned (.tuple #[.slice none 0 0, .bool false])))

theorem Rep.kept4 {W' : World} (h : Rep B W f M bl rb sl F) (hk : ∀ (k : Nat), ((∃ cs t fr, W.heap[k]? = some (Obj.cells cs t fr) ∧ t ≠ 77) ∨ ∃ es c, W.heap[k]? = some (Obj.map es c)) → W'.heap[k]? = W.heap[k]?) : Rep B W' f M bl rb sl F := by
  obtain ⟨L, hL, hp⟩ := h.names
  obtain ⟨es0, c0, hm0⟩ := h.mapM
  refine ⟨(hk f (.inl ⟨_, _, _, h.flow, by decide⟩)).trans h.flow, ⟨L, hL.kept (hk M (.inr ⟨es0, c0, hm0⟩)), hp⟩, fun e he => (hk _ (.inl ⟨_, _, _, h.ent e he, by decide⟩)).trans (h.ent e he), fun e he => (h.row e he).kept (fun g cur fr hg => hk g (.inl ⟨_, _, _, hg, by decide⟩)), fun e he => ?_, h.injB, h.injR, h.rbM, h.baseM, h.baseB, h.baseR, h.srt⟩
  obtain ⟨L', hL', hp'⟩ := h.rdr e he
  exact ⟨L', hL'.kept (hk _ (.inr (h.mapR he))), hp'⟩

/-- one box turns -/
theorem Rep.keptB {W' : World} (h : Rep B W f M bl rb sl F) {bo : Nat} {v : Value} (hb : Boxed W bo 77 v) (hc : Chg (fun j => j = bo) W W') : Rep B W' f M bl rb sl F :=
  h.kept4 (fun k hk => by
    refine hc.block k (by rcases hk with ⟨_, _, _, q, _⟩ | ⟨_, _, q⟩ <;> exact lt_of_blk q) (fun e => ?_)
    subst e
    rcases hk with ⟨_, _, _, q, q2⟩ | ⟨_, _, q⟩
    · rw [show W.heap[k]? = _ from hb] at q; cases q; exact q2 rfl
    · rw [show W.heap[k]? = _ from hb] at q; cases q)

theorem ResI.next {W5 wr W' w1 : World} {bo bk k D : Nat} {n : ByteArray} {names : List ByteArray} {Ds : List Nat} {v v' : Value} {tmp : Obj} (h : ResI F bl W5 bo bk n names k wr Ds v) (hbo : bo < W5.heap.size) (hk : k < names.length) (hW' : Below wr.heap.size wr W') (hD : wr.heap.size ≤ D) (hDd : W'.heap[D]? = some (.deferred (some [])))
    (own' : w1.ownsRow W5.heap.size 75 1 v' (k + 1) (((names.take k).map fun r => ptr (bl r)) ++ [ptr (bl names[k])])) (gr : (W'.alloc tmp).grownBy w1 v.ownBlock) (hok : rdOk F n names[k] = true) :
    Boxed w1 bo 77 v ∧ ResI F bl W5 bo bk n names (k + 1) (w1.setCell ⟨bo, 0, none⟩ v') (D :: Ds) v' := by
  have hne : some bo ≠ v.ownBlock := h.box.not_row (by decide) h.row
  have hvl : ∀ g, v.ownBlock = some g → W5.heap.size ≤ g ∧ g < wr.heap.size := fun g hg => owns_ltK h.row g hg
  have hb1 : Boxed w1 bo 77 v := ((Boxed.blk h.box (hW'.block bo h.box.lt)).alloc tmp).kept gr hne
  have hw1 : ∀ j, j < W'.heap.size → v.ownBlock ≠ some j → w1.heap[j]? = W'.heap[j]? := fun j hj hn => (gr.block j (by simp; omega) (fun e => hn e.symm)).trans (Below.heap_alloc _ _ _ hj)
  have hset : ∀ j, j ≠ bo → (w1.setCell ⟨bo, 0, none⟩ v').heap[j]? = w1.heap[j]? := fun j hj => Below.heap_setCell w1 ⟨bo, 0, none⟩ v' j hj
  have htk : names.take (k + 1) = names.take k ++ [names[k]] := List.take_succ_eq_append_getElem hk
  have hchg : Chg (fun j => j = bo ∨ v.ownBlock = some j) wr (w1.setCell ⟨bo, 0, none⟩ v') :=
    ⟨gr.os.trans hW'.os, gr.tape.trans hW'.tape, gr.output.trans hW'.output, by have := gr.size; have := hW'.size; simp at *; omega, fun j hj hn => by
      rw [hset j (fun e => hn (.inl e)), hw1 j (Nat.lt_of_lt_of_le hj hW'.size) (fun e => hn (.inr e))]; exact hW'.block j hj⟩
  refine ⟨hb1, hb1.set v', ?_, ?_, fun D' hD' => ?_, ?_, fun r hr => ?_⟩
  · rw [htk, List.map_append]
    exact own'.kept (grownBy_setCell' w1 bo v') (.inr (hb1.not_row (by decide) own').symm)
  · refine h.keep.trans (hchg.mono (fun j hj q => ?_))
    rcases q with q | q
    · exact .inl q
    · exact .inr (hvl j q).1
  · rcases List.mem_cons.1 hD' with q | q
    · subst q
      have hDl := lt_of_blk hDd
      refine ⟨by have := h.keep.size; omega, ?_⟩
      rw [hset D' (fun e => by have := h.box.lt; omega), hw1 D' hDl (fun e => by have := (hvl D' e).2; omega)]; exact hDd
    · obtain ⟨h1, h2⟩ := h.ds D' q
      refine ⟨h1, ?_⟩
      rw [hchg.block D' (lt_of_blk h2) (fun e => ?_)]; exact h2
      rcases e with e | e
      · omega
      · obtain ⟨_, h3 | ⟨g, cap, cur, rfl, _, h4, _⟩⟩ := h.row
        · rw [h3.1] at e; simp [Value.ownBlock] at e
        · simp [Value.ownBlock] at e; subst e; rw [h2] at h4; cases h4
  · exact List.nodup_cons.2 ⟨fun q => by have := lt_of_blk (h.ds D q).2; omega, h.nd⟩
  · rw [htk] at hr
    rcases List.mem_append.1 hr with q | q
    · exact h.acc r q
    · rw [List.mem_singleton.1 q]; exact hok

theorem RowP_of_owns {w : World} {base n : Nat} {v : Value} {ps : List Nat} (h : w.ownsRow base 75 1 v n (ps.map ptr)) : RowP w v ps := by
  obtain ⟨h1, h2 | ⟨g, cap, cur, rfl, h3, h4, h5, h6, h7, h8⟩⟩ := h
  · obtain ⟨rfl, rfl⟩ := h2
    rcases ps with _ | ⟨a, r⟩
    · exact RowP.nil w
    · simp at h1
  · rw [List.length_map, Nat.mul_one] at h1
    subst h1
    refine ⟨some ⟨g, 0, none⟩, cap, rfl, ⟨(fun e => by cases e), h5⟩, .inr ⟨g, 0, cur, (0, 0), rfl, h4, fun i p hp => ?_⟩⟩
    have hi : i < ps.length := (List.getElem?_eq_some_iff.1 hp).1
    have h9 : (ps.map ptr)[i]? = some (ptr p) := by rw [List.getElem?_map, hp]; rfl
    rw [← h8, Nat.mul_one, List.getElem?_take_of_lt hi, Array.getElem?_toList] at h9
    rw [Nat.zero_add]; exact h9

/-- a return -/
theorem leave_res {m : Nat} {tmps : Array Value} {R : Ending → World → Prop} {bo bk : Nat} {va vb : Value} {w' : World} {Ds : List Nat} (h4 : tmps.getD 4 undef = .pointer (some ⟨bo, 0, none⟩)) (h5 : tmps.getD 5 undef = .pointer (some ⟨bk, 0, none⟩)) (hnd : Ds.Nodup) (hds : ∀ D ∈ Ds, w'.heap[D]? = some (.deferred (some [])))
    (h1 : Boxed w' bo 77 va) (h2 : Boxed w' bk 4 vb) (hR : ∀ w'', Chg (fun k => k ∈ Ds) w' w'' → R (.returned (.tuple #[va, vb])) w'') :
    LeavesInM Fence.wide m Try.prog Try.f43 tmps R (Ds.map fun D => ({ target := .collected D, args := #[] } : Deferred)) .returning w' := by
  refine leaves_marks Ds w' hnd hds (fun w'' hc => ?_)
  have hno : ∀ {b : Nat} {t : TypeId} {v : Value}, Boxed w' b t v → ¬ b ∈ Ds := fun hb hm => by
    have := hds _ hm
    rw [show w'.heap[_]? = _ from hb] at this; cases this
  refine ⟨_, results_cells2 (a := 4) (b := 5) rfl h4 h5 (by kernel_rfl) (by kernel_rfl) (Boxed.cell (Boxed.blk h1 (hc.block bo h1.lt (hno h1)))) (Boxed.cell (Boxed.blk h2 (hc.block bk h2.lt (hno h2)))), hR w'' hc⟩
end

end Go.Proofs.Ytgbnhngaeefmkaa
