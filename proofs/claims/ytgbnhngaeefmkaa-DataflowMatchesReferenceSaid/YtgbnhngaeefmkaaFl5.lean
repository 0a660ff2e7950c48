import Derived.Test.YtgbnhngaeefmkaaFl4

/-! Flows: read (what a node reads is replaced): the readers while they turn. -/
namespace Go.Proofs.Ytgbnhngaeefmkaa
set_option linter.unusedVariables false
set_option linter.unusedSimpArgs false
open Go.RowKit

/-- a flow whose readers are as Q says: x is among those of m if Q m x -/
structure RepQ (B : Nat) (W : World) (f M : Nat) (bl rb : ByteArray → Nat) (sl : ByteArray → Value) (F : List En) (Q : ByteArray → En → Bool) : Prop where
  flow : W.heap[f]? = some (.cells #[.map (some M)] 74 (0, 0))
  names : ∃ L, RawMap W M L ∧ L.Perm (F.map fun e => (.string e.nm, ptr (bl e.nm)))
  ent : ∀ e ∈ F, W.heap[bl e.nm]? = some (entC e (sl e.nm) (rb e.nm))
  row : ∀ e ∈ F, RowP W (sl e.nm) (e.rds.map bl)
  rdr : ∀ e ∈ F, ∃ L, RawMap W (rb e.nm) L ∧ L.Perm ((F.filter (Q e.nm)).map fun x => (ptr (bl x.nm), .bool true))
  injB : ∀ a ∈ F, ∀ b ∈ F, bl a.nm = bl b.nm → a.nm = b.nm
  injR : ∀ a ∈ F, ∀ b ∈ F, rb a.nm = rb b.nm → a.nm = b.nm
  rbM : ∀ e ∈ F, rb e.nm ≠ M
  baseM : B ≤ M
  baseB : ∀ e ∈ F, B ≤ bl e.nm
  baseR : ∀ e ∈ F, B ≤ rb e.nm
  srt : SortedF F

section
variable {B : Nat} {W : World} {f M : Nat} {bl rb : ByteArray → Nat} {sl : ByteArray → Value} {F : List En} {Q : ByteArray → En → Bool}

theorem Rep.toQ (h : Rep B W f M bl rb sl F) : RepQ B W f M bl rb sl F (fun m x => hasR x m) := ⟨h.flow, h.names, h.ent, h.row, h.rdr, h.injB, h.injR, h.rbM, h.baseM, h.baseB, h.baseR, h.srt⟩

theorem RepQ.cong (h : RepQ B W f M bl rb sl F Q) {Q' : ByteArray → En → Bool} (hq : ∀ e ∈ F, ∀ x ∈ F, Q e.nm x = Q' e.nm x) : RepQ B W f M bl rb sl F Q' :=
  ⟨h.flow, h.names, h.ent, h.row, fun e he => by
    obtain ⟨L, h1, h2⟩ := h.rdr e he
    refine ⟨L, h1, ?_⟩
    rw [← List.filter_congr (fun x hx => hq e he x hx)]; exact h2, h.injB, h.injR, h.rbM, h.baseM, h.baseB, h.baseR, h.srt⟩

theorem RepQ.toRep (h : RepQ B W f M bl rb sl F Q) (hq : ∀ e ∈ F, ∀ x ∈ F, Q e.nm x = hasR x e.nm) : Rep B W f M bl rb sl F := by
  have := h.cong (Q' := fun m x => hasR x m) hq
  exact ⟨this.flow, this.names, this.ent, this.row, this.rdr, this.injB, this.injR, this.rbM, this.baseM, this.baseB, this.baseR, this.srt⟩

theorem RepQ.mapR (h : RepQ B W f M bl rb sl F Q) {e : En} (he : e ∈ F) : ∃ es c, W.heap[rb e.nm]? = some (.map es c) := by obtain ⟨L, ⟨es, c, h1, _⟩, _⟩ := h.rdr e he; exact ⟨es, c, h1⟩
theorem RepQ.good (h : RepQ B W f M bl rb sl F Q) {m : ByteArray} {L : List (Value × Value)} (hp : L.Perm ((F.filter (Q m)).map fun x => (ptr (bl x.nm), .bool true))) : KeysGood goodP W L := fun p hp' => by
  obtain ⟨x, hx, rfl⟩ := List.mem_map.1 (hp.mem_iff.1 hp')
  exact ⟨bl x.nm, _, _, rfl, h.ent x (List.mem_filter.1 hx).1⟩
theorem RepQ.goodE (h : RepQ B W f M bl rb sl F Q) {e : En} (he : e ∈ F) : goodP W (.pointer (some ⟨bl e.nm, 0, none⟩)) := ⟨bl e.nm, _, _, rfl, h.ent e he⟩

theorem ptrs_nodup {F : List En} {bl : ByteArray → Nat} (hs : SortedF F) (hi : ∀ a ∈ F, ∀ b ∈ F, bl a.nm = bl b.nm → a.nm = b.nm) (p : En → Bool) : (((F.filter p).map fun x => ((ptr (bl x.nm), .bool true) : Value × Value)).map (·.1)).Nodup := by
  rw [List.map_map]
  refine List.pairwise_map.2 (List.Pairwise.imp_of_mem (fun {a b} ha hb hne e => ?_) ((pw_ne hs).sublist List.filter_sublist))
  exact hne (hi a (List.mem_filter.1 ha).1 b (List.mem_filter.1 hb).1 (ptr_inj e))

open Classical in
theorem delV_filter {k : Value} : ∀ {L : List (Value × Value)}, (L.map (·.1)).Nodup → delV k L = L.filter (fun p => decide (p.1 ≠ k))
  | [], _ => rfl
  | p :: L, hn => by
    rw [List.map_cons, List.nodup_cons] at hn
    unfold delV
    split
    · rename_i h
      rw [List.filter_cons, if_neg (by simp [h])]
      refine (List.filter_eq_self.2 fun q hq => ?_).symm
      simp only [decide_eq_true_eq]
      intro e; exact hn.1 (by rw [h, ← e]; exact List.mem_map.2 ⟨q, hq, rfl⟩)
    · rename_i h
      rw [List.filter_cons, if_pos (by simpa using h), delV_filter hn.2]

/-- a reader less -/
theorem del_perm (h : RepQ B W f M bl rb sl F Q) {m n : ByteArray} {L : List (Value × Value)} (hp : L.Perm ((F.filter (Q m)).map fun x => (ptr (bl x.nm), .bool true))) {e : En} (he : e ∈ F) (hn : e.nm = n) :
    (delV (ptr (bl n)) L).Perm ((F.filter (fun x => Q m x && !decide (x.nm = n))).map fun x => (ptr (bl x.nm), .bool true)) := by
  have hnd := ptrs_nodup h.srt h.injB (Q m)
  rw [delV_filter ((hp.map _).nodup_iff.2 hnd)]
  refine (hp.filter _).trans ?_
  rw [List.filter_map, ← List.filter_filter]
  refine List.Perm.of_eq ?_
  congr 1
  rw [List.filter_filter, List.filter_filter]
  refine List.filter_congr fun x hx => ?_
  rw [Bool.and_comm]
  congr 1
  rw [Bool.eq_iff_iff]
  simp only [Function.comp, decide_eq_true_eq, Bool.not_eq_true', decide_eq_false_iff_not]
  constructor
  · intro q e1; exact q (by rw [e1])
  · intro q e1; exact q (by have := h.injB x hx e he (by rw [hn]; exact ptr_inj e1); rw [this, hn])

/-- a reader more -/
theorem put_perm (h : RepQ B W f M bl rb sl F Q) {m n : ByteArray} {L : List (Value × Value)} (hp : L.Perm ((F.filter (Q m)).map fun x => (ptr (bl x.nm), .bool true))) {e : En} (he : e ∈ F) (hn : e.nm = n) (hq : Q m e = false) :
    (putV (ptr (bl n)) (.bool true) L).Perm ((F.filter (fun x => Q m x || decide (x.nm = n))).map fun x => (ptr (bl x.nm), .bool true)) := by
  have hk : ∀ p ∈ L, p.1 ≠ ptr (bl n) := fun p hp' e1 => by
    obtain ⟨x, hx, rfl⟩ := List.mem_map.1 (hp.mem_iff.1 hp')
    obtain ⟨h1, h2⟩ := List.mem_filter.1 hx
    have := h.srt.inj x h1 e he (h.injB x h1 e he (by rw [hn]; exact ptr_inj e1))
    rw [this, hq] at h2; cases h2
  rw [putV_new hk]
  have hsplit : (F.filter (fun x => Q m x || decide (x.nm = n))).Perm (F.filter (Q m) ++ [e]) := by
    have key : ∀ (G : List En), SortedF G → (∀ x ∈ G, x.nm = n → x = e) → e ∈ G → (G.filter (fun x => Q m x || decide (x.nm = n))).Perm (G.filter (Q m) ++ [e]) := by
      intro G hG hu heG
      induction G with
      | nil => cases heG
      | cons y r ih =>
        obtain ⟨g1, g2⟩ := List.pairwise_cons.1 hG
        by_cases hy : y.nm = n
        · have hye : y = e := hu y (by simp) hy
          have hr : ∀ x ∈ r, ¬ x.nm = n := fun x hx e1 => by
            have h3 := g1 x hx
            rw [e1, hy] at h3; exact ltB_irr _ h3
          have e2 : r.filter (fun x => Q m x || decide (x.nm = n)) = r.filter (Q m) := List.filter_congr fun x hx => by simp [hr x hx]
          rw [List.filter_cons, if_pos (by simp [hy]), List.filter_cons, if_neg (by rw [hye, hq]; simp), e2, hye]
          exact (List.perm_append_singleton e _).symm
        · have her : e ∈ r := by
            rcases List.mem_cons.1 heG with q | q
            · exact absurd (by rw [← q]; exact hn) hy
            · exact q
          have ih' := ih g2 (fun x hx => hu x (by simp [hx])) her
          rw [List.filter_cons, List.filter_cons]
          by_cases hqy : Q m y = true
          · rw [if_pos (by simp [hqy]), if_pos hqy]; exact ih'.cons y
          · rw [if_neg (by simp [hqy, hy]), if_neg hqy]; exact ih'
    exact key F h.srt (fun x hx hxn => h.srt.inj x hx e he (hxn.trans hn.symm)) he
  refine List.Perm.trans ?_ ((hsplit.map _).symm)
  rw [List.map_append]
  simp only [List.map_cons, List.map_nil, hn]
  exact hp.append_right _

/-- the readers of one name turn -/
theorem RepQ.turn (h : RepQ B W f M bl rb sl F Q) {d : En} (hd : d ∈ F) (ob : Obj) {L : List (Value × Value)} {q : En → Bool} (hL : RawMap (W.putObj (rb d.nm) ob) (rb d.nm) L) (hp : L.Perm ((F.filter q).map fun x => (ptr (bl x.nm), .bool true))) :
    RepQ B (W.putObj (rb d.nm) ob) f M bl rb sl F (fun m x => if m = d.nm then q x else Q m x) ∧ Mv B W (W.putObj (rb d.nm) ob) := by
  obtain ⟨es, c, hm⟩ := h.mapR hd
  have hc : ∀ {k : Nat} {cs : Array Value} {t : TypeId} {fr : Nat × Nat}, W.heap[k]? = some (.cells cs t fr) → (W.putObj (rb d.nm) ob).heap[k]? = W.heap[k]? := fun hk => World.putObj_heap_other (fun e1 => by rw [e1, hm] at hk; cases hk)
  obtain ⟨LM, hLM, hpM⟩ := h.names
  refine ⟨⟨(hc h.flow).trans h.flow, ⟨LM, hLM.kept (World.putObj_heap_other (fun e1 => h.rbM d hd e1.symm)), hpM⟩, fun e he => (hc (h.ent e he)).trans (h.ent e he), fun e he => (h.row e he).kept (fun g cur fr hg => hc hg), fun e he => ?_, h.injB, h.injR, h.rbM, h.baseM, h.baseB, h.baseR, h.srt⟩, (Mv.refl B W).put ob (.inl ⟨h.baseR d hd, .inl ⟨es, c, hm⟩⟩)⟩
  by_cases hq : e.nm = d.nm
  · refine ⟨L, by rw [hq]; exact hL, ?_⟩
    simp only [hq, if_true]; exact hp
  · obtain ⟨L', hL', hp'⟩ := h.rdr e he
    refine ⟨L', hL'.kept (World.putObj_heap_other (fun e1 => hq (h.injR e he d hd e1))), ?_⟩
    simp only [hq, if_false]; exact hp'
end

end Go.Proofs.Ytgbnhngaeefmkaa
