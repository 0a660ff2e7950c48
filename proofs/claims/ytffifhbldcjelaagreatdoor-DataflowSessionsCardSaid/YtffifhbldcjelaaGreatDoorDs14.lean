/-
  Flows: slices.SortFunc at no more than twelve names. Flows: Stale.
-/
import Derived.Test.YtffifhbldcjelaaGreatDoorDs13
import Derived.Outline
import Derived.Test.YtffifhbldcjelaaGreatDoorDs10
import Derived.Test.YtffifhbldcjelaaGreatDoorDs12

/-! Flows: slices.SortFunc at no more than twelve names. -/
namespace Go.Proofs.YtffifhbldcjelaaGreatDoor
set_option linter.unusedVariables false
set_option linter.unusedSimpArgs false
open Go.RowKit Go.Shelf Go.Lib

def cmpV (bx : Nat) : Value := .func (.func 33) #[] #[.pointer (some ⟨bx, 0, none⟩)]

section
variable {F : List En} {rk bl : ByteArray → Nat} {W0 W : World} {m g o bx : Nat}

set_option maxRecDepth 100000 in
theorem isort_nilE (ao : Option Addr) (cap : Nat) (v : Value) (W : World) : Calls Tryz.prog 84 #[.slice ao 0 cap, .int .i64 0, .int .i64 0, v] W fun e w' => e = .returned (.tuple #[]) ∧ W = w' := by
  go_enter Tryz.func84, Tryz.ntmps84
  go_wp2
  refine wp_loop_rounds 1 ?_
  rw [rounds_succ]
  go_wp2
  go_end0
  exact ⟨rfl, rfl⟩

set_option maxRecDepth 100000 in
set_option maxHeartbeats 1000000 in
theorem pdq_12 (R : Ending → World → Prop) (sv : Value) (n : Nat) (hn : n ≤ 12) (lim : Int) (v : Value) (W : World) (h : Calls Tryz.prog 84 #[sv, .int .i64 0, .int .i64 n, v] W fun e w' => e = .returned (.tuple #[]) ∧ R e w') :
    Calls Tryz.prog 48 #[sv, .int .i64 0, .int .i64 n, .int .i64 lim, v] W fun e w' => e = .returned (.tuple #[]) ∧ R e w' := by
  have H := Lib.hid h
  have h1 : (n : Int) ≤ 12 := by omega
  clear h
  go_enter Tryz.func48, Tryz.ntmps48
  go_wp2
  refine wp_loop_rounds 1 ?_
  rw [rounds_succ]
  go_wp2_with (go_at_call 84; refine H.out.mono ?_; rintro e w' ⟨rfl, hr⟩; have HR := Lib.hid hr; clear hr)

  exact bodyPost_ret (results_none rfl _ _ _) rfl ⟨rfl, HR.out⟩

set_option maxRecDepth 100000 in
set_option maxHeartbeats 1000000 in
theorem sortf_12 (R : Ending → World → Prop) (ao : Option Addr) (cap n : Nat) (hn : n ≤ 12) (v : Value) (W : World) (h : Calls Tryz.prog 84 #[.slice ao n cap, .int .i64 0, .int .i64 n, v] W fun e w' => e = .returned (.tuple #[]) ∧ R e w') :
    Calls Tryz.prog 32 #[.slice ao n cap, v] W fun e w' => e = .returned (.tuple #[]) ∧ R e w' := by
  have H := Lib.hid (fun lim => pdq_12 R _ n hn lim v W h)
  have h1 : (n : Int) ≤ 12 := by omega
  have h2 : (0 : Int) ≤ (n : Int) := by omega
  clear h
  go_enter Tryz.func32, Tryz.ntmps32
  go_wp2_with (first
    | (go_at_call 49; refine (Tryz.bits_Len _ _ ?_ ?_).mono ?_; omega; omega; rintro e w' ⟨rfl, rfl⟩)
    | (go_at_call 48; refine (H.out _).mono ?_; rintro e w' ⟨rfl, hr⟩; have HR := Lib.hid hr; clear hr))
  go_end0
  exact ⟨rfl, HR.out⟩


def encE (bl : ByteArray → Nat) (e : En) : List Value := [.pointer (some ⟨bl e.nm, 0, none⟩)]
theorem flat_encE (bl : ByteArray → Nat) (l : List En) : l.flatMap (encE bl) = l.map fun e => ptr (bl e.nm) := by
  induction l with
  | nil => rfl
  | cons a r ih => rw [List.flatMap_cons, ih]; rfl

/-- slices.SortFunc at the stale names -/
theorem sortl_any {B f M : Nat} {rb : ByteArray → Nat} {sl : ByteArray → Value} (h : Rep B W0 f M bl rb sl F) (hC : Closed F) (hK : Ranked F rk) (hR : ∀ e ∈ F, e.rds.length ≤ 1000) (hk : ∀ e ∈ F, rk e.nm ≤ 1000) (l0 : List En) (hl : ∀ x ∈ l0, x ∈ F) (hnd : l0.Pairwise (fun a b => a.nm ≠ b.nm)) (h12 : l0.length ≤ 12)
    (v : Value) (W4 : World) (hb : Below W0.heap.size W0 W4) (hrow : W4.ownsRow W0.heap.size 53 1 v l0.length (l0.flatMap (encE bl))) (hm : W0.heap.size ≤ m) (hmap : W4.heap[m]? = some (.map #[] 0))
    (hbx : W4.cell? ⟨bx, 0, none⟩ = some (.func (.func 31) #[.map (some m)] #[])) (hxv : v.ownBlock ≠ some bx) :
    Calls Tryz.prog 32 #[v, cmpV bx] W4 fun e w' => e = .returned (.tuple #[]) ∧ (Below W0.heap.size W0 w' ∧ (w'.os = W4.os ∧ W4.heap.size ≤ w'.heap.size) ∧ (∀ k, k < W4.heap.size → k ≠ m → v.ownBlock ≠ some k → w'.heap[k]? = W4.heap[k]?) ∧ ∃ s : List En, s.Perm l0 ∧ s.Pairwise (ltE F rk) ∧ RowP w' v (s.map fun e => bl e.nm)) := by
  have hxm : bx ≠ m := fun e => by
    unfold World.cell? at hbx
    rw [e] at hbx
    simp only [hmap] at hbx; cases hbx
  obtain ⟨h1, h2 | ⟨g, cap, cur, rfl, hg1, hg2, hg3, hg4, hg5, hg6⟩⟩ := hrow
  · obtain ⟨rfl, h0⟩ := h2
    have h0 : l0 = [] := by rcases l0 with _ | ⟨a, r⟩; rfl; simp at h0
    subst h0
    refine (sortf_12 (fun e w' => W4 = w') none 0 0 (by omega) _ W4 (isort_nilE none 0 _ W4)).mono ?_
    rintro e w' ⟨rfl, rfl⟩
    exact ⟨rfl, hb, ⟨rfl, Nat.le_refl _⟩, fun _ _ _ _ => rfl, [], List.Perm.refl _, List.Pairwise.nil, RowP.nil _⟩
  · have hgm : g ≠ m := fun e => by rw [e, hmap] at hg2; cases hg2
    have hxg : bx ≠ g := fun e => hxv (by rw [e]; rfl)
    have hcur : ∀ i x, l0[i]? = some x → cur[0 + i]? = some (ptr (bl x.nm)) := fun i x hx => by
      have hi : i < l0.length := (List.getElem?_eq_some_iff.1 hx).1
      have h3 : (l0.flatMap (encE bl))[i]? = some (ptr (bl x.nm)) := by rw [flat_encE, List.getElem?_map, hx]; rfl
      rw [← hg6, List.getElem?_take_of_lt (by omega), Array.getElem?_toList] at h3
      rw [Nat.zero_add]; exact h3
    have hM0 : Memo F rk bl W4 m := ⟨[], ⟨#[], 0, hmap, rfl, by simp, by simp⟩, by simp, (fun p hp => by cases hp)⟩
    have hS : SG F rk bl W0 W4 m g 0 W4 l0 := ⟨hb, hM0, rfl, rfl, rfl, Nat.le_refl _, fun _ _ _ _ => rfl, cur, hg2, by omega, hcur⟩
    have hO : CmpOk F rk bl W0 m bx := fun x hx y hy w' hb' hm' hc' => cmp_any h hC hK hR hk m hm bx hxm x y hx hy w' hb' hm' hc'
    have fin : ∀ w' s, SG F rk bl W0 W4 m g 0 w' s → s.Perm l0 → RowP w' (.slice (some ⟨g, 0, none⟩) l0.length cap) (s.map fun e => bl e.nm) := fun w' s hs hp => by
      obtain ⟨cur', q1, _, q3⟩ := hs.row
      refine ⟨_, cap, by rw [List.length_map, hp.length_eq], ⟨(fun e => by cases e), by rw [List.length_map, hp.length_eq]; exact hg3⟩, .inr ⟨g, 0, cur', _, rfl, q1, fun i p hp' => ?_⟩⟩
      rw [List.getElem?_map] at hp'
      obtain ⟨x, hx, rfl⟩ := Option.map_eq_some_iff.1 hp'
      exact q3 i x hx
    have hfr : ∀ w' s, SG F rk bl W0 W4 m g 0 w' s → ∀ k, k < W4.heap.size → k ≠ m → (Value.slice (some ⟨g, 0, none⟩) l0.length cap).ownBlock ≠ some k → w'.heap[k]? = W4.heap[k]? := fun w' s hs k hk n1 n2 => hs.block k hk n1 (fun e => n2 (by rw [e]; rfl))
    rcases Nat.eq_zero_or_pos l0.length with h0 | h0
    · have hl0 : l0 = [] := List.eq_nil_of_length_eq_zero h0
      subst hl0
      refine (sortf_12 (fun e w' => W4 = w') (some ⟨g, 0, none⟩) cap 0 (by omega) _ W4 (isort_nilE _ cap _ W4)).mono ?_
      rintro e w' ⟨rfl, rfl⟩
      exact ⟨rfl, hb, ⟨rfl, Nat.le_refl _⟩, fun _ _ _ _ => rfl, [], List.Perm.refl _, List.Pairwise.nil, fin _ _ hS (List.Perm.refl _)⟩
    · refine (sortf_12 (fun e w' => ∃ s, SG F rk bl W0 W4 m g 0 w' s ∧ s.Perm l0 ∧ s.Pairwise (ltE F rk)) (some ⟨g, 0, none⟩) cap l0.length h12 _ W4 (isort_any hO l0 _ cap rfl h12 hl hnd hgm hg1 hxm hxg hS hbx h0)).mono ?_
      rintro e w' ⟨rfl, s, h5, h6, h7⟩
      exact ⟨rfl, h5.low, ⟨h5.os, h5.size⟩, hfr _ _ h5, s, h6, h7, fin _ _ h5 h6⟩
end

end Go.Proofs.YtffifhbldcjelaaGreatDoor

/-! Flows: Stale. -/
namespace Go.Proofs.YtffifhbldcjelaaGreatDoor
set_option linter.unusedVariables false
set_option linter.unusedSimpArgs false
open Go.RowKit Go.Shelf Go.Lib

attribute [local go_sem] Oper.semAt_some

/-- the stale ones of some names -/
def stOf (F : List En) (n : ByteArray) : Option En := match atF F n with | some e => if e.stale = true then some e else none | none => none
def stl (F : List En) (xs : List ByteArray) : List En := xs.filterMap (stOf F)
theorem stl_snoc (F : List En) (xs : List ByteArray) (n : ByteArray) : stl F (xs ++ [n]) = stl F xs ++ (stOf F n).toList := by
  unfold stl; rw [List.filterMap_append]; congr 1
theorem stl_all {F : List En} (hs : SortedF F) {xs : List ByteArray} (h : xs.Perm (F.map (·.nm))) : (stl F xs).Perm (F.filter (·.stale)) := by
  refine (h.filterMap (stOf F)).trans (List.Perm.of_eq ?_)
  rw [List.filterMap_map]
  have key : ∀ (G : List En), (∀ e ∈ G, e ∈ F) → G.filterMap (stOf F ∘ (·.nm)) = G.filter (·.stale) := by
    intro G
    induction G with
    | nil => intro _; rfl
    | cons e r ih =>
      intro hG
      have h1 : (stOf F ∘ (·.nm)) e = if e.stale = true then some e else none := by
        show stOf F e.nm = _
        unfold stOf; rw [atF_mem hs (hG e (by simp))]
      rw [List.filterMap_cons, h1, List.filter_cons, ih (fun e he => hG e (by simp [he]))]
      by_cases hst : e.stale = true
      · rw [if_pos hst, if_pos hst]
      · rw [if_neg hst, if_neg hst]
  exact key F (fun _ h => h)

/-- a row of names of the call's own -/
def SlcT (w : World) (l : List ByteArray) (e : Ending) (w' : World) : Prop := ∃ v, e = .returned v ∧ w'.ownsRow w.heap.size 9 1 v l.length (l.flatMap encT) ∧ Below w.heap.size w w'

theorem ownsRow_low {w : World} {base base' e size n : Nat} {v : Value} {xs : List Value} (h : w.ownsRow base e size v n xs) (hb : base' ≤ base) : w.ownsRow base' e size v n xs := by
  obtain ⟨h1, h2 | ⟨g, cap, cur, h3, h4, h5⟩⟩ := h
  · exact ⟨h1, .inl h2⟩
  · exact ⟨h1, .inr ⟨g, cap, cur, h3, Nat.le_trans hb h4, h5⟩⟩

theorem infoPtr : (Tryz.prog.info? 53).map (fun i => (i.zero, i.size, i.bytes)) = some (some (.pointer none), 1, 8) := by kernel_rfl
theorem encE_len (bl : ByteArray → Nat) (x : En) : ([.pointer (some ⟨bl x.nm, 0, none⟩)] : List Value).length = 1 := rfl


section
variable {B : Nat} {W : World} {f M : Nat} {bl rb : ByteArray → Nat} {sl : ByteArray → Value} {F : List En}

set_option maxRecDepth 100000 in
set_option maxHeartbeats 4000000 in
theorem stale_any (h : Rep B W f M bl rb sl F) (hG : Good F) (hF : F.length ≤ 1000) (h12 : (F.filter (·.stale)).length ≤ 12) :
    Calls Tryz.prog 11 #[.pointer (some ⟨f, 0, none⟩)] W (SlcT W (staleF F)) := by
  have hmm := @run_makeMap Tryz.prog
  have hc := cell_up h.cellM (.cells #[.slice none 0 0] 55)
  have H := Lib.hid h
  have HG := Lib.hid hG
  clear h hG
  obtain ⟨i0, hi, hz0, hz1, hz2⟩ := info_parts infoPtr
  obtain ⟨i1, hi1, hy0, hy1, hy2⟩ := info_parts Tryz.infoStr
  suffices HH : ∀ n, CallsIn Fence.wide n Tryz.prog 11 #[.pointer (some ⟨f, 0, none⟩)] W (SlcT W (staleF F)) from (callsIn_wide (n := 5)).1 (HH 5)
  intro n
  refine callsIn_of_wp_marks Tryz.func11 rfl trivial ?_ rfl
  simp only [Tryz.ntmps11, List.size_toArray, List.length_cons, List.length_nil, Nat.reduceAdd, Nat.reduceSub, Array.replicate_succ, Array.replicate_zero, List.push_toArray, List.append_toArray, List.nil_append, List.cons_append]
  gi_wp2
  refine wide_call (values_any _ _) ?_
  rintro e w' ⟨rfl, rfl⟩
  gi_wp2
  obtain ⟨W2, hW2⟩ : ∃ W2, (W.alloc (.cells #[.slice none 0 0] 55)).alloc (.cells #[.map (some M)] 50) = W2 := ⟨_, rfl⟩
  have hs2 : W2.heap.size = W.heap.size + 2 := by rw [← hW2]; simp
  have B2 := Lib.hid (show Below W.heap.size W W2 by rw [← hW2]; exact ((Below.refl _ W).alloc (Nat.le_refl _) _).alloc (by simp) _)
  have BX := Lib.hid (show Boxed W2 W.heap.size 55 (.slice none 0 0) by rw [← hW2]; exact (Boxed.new W _ _).alloc _)
  have BM := Lib.hid (show W2.cell? ⟨W.heap.size + 1, 0, none⟩ = some (.map (some M)) by rw [← hW2]; exact cell_box _ _ _ 0 _ rfl _ (by simp))
  rw [hW2]
  have HS2 := Lib.hid hs2
  clear hW2 hs2 hc
  refine wpIn_range_own (gf := 47) (lb := #[.pointer (some ⟨W.heap.size + 1, 0, none⟩)]) rfl (enters_of Tryz.func47 (by kernel_rfl) rfl)
    (values_seq _ (H.out.later B2.out) (W.heap.size + 1) BM.out) (fun _ => rfl)
    (fun pre O W' => ∃ v, BoxRow W W' W.heap.size 55 53 1 (stl F pre).length v ((stl F pre).flatMap (encE bl)) O) (fun k => k = W.heap.size ∨ (Value.slice none 0 0).ownBlock = some k) ?hO0 ?hI ?h0
    (fun pre x a' O W' => a' = { tmps := #[.pointer (some ⟨f, 0, none⟩), undef, .slice none 0 0, .pointer (some ⟨W.heap.size, 0, none⟩), .pointer (some ⟨bl x, 0, none⟩), undef, undef, undef, .pointer (some ⟨f, 0, none⟩), .bool false, .pointer (some ⟨f, 0, none⟩), .pointer (some ⟨f, 0, none⟩), .pointer (some ⟨f, 0, none⟩), .map (some M), .func (.func 47) #[] #[.pointer (some ⟨W.heap.size + 1, 0, none⟩)], .pointer (some ⟨bl x, 0, none⟩), undef, undef, undef, undef, undef, undef, undef, undef, undef, undef, undef, undef, undef, undef, undef, undef, undef, undef, undef, undef, undef, undef, undef, undef, undef, undef, undef, undef], defers := [] } ∧
      ∃ v, BoxRow W W' W.heap.size 55 53 1 (stl F pre).length v ((stl F pre).flatMap (encE bl)) O) ?hM ?assign ?body ?done
  case hO0 =>
    intro k hk
    rcases hk with rfl | hk
    · exact ⟨by have := HS2.out; omega, fun e => by have := H.out.ltM; omega⟩
    · simp [Value.ownBlock] at hk
  case hI => rintro s O A A' C ⟨v, h⟩ hc hC; exact ⟨v, h.chg hc (fun k hk => ⟨by have := (hC k hk).1; have := HS2.out; omega, (hC k hk).2⟩)⟩
  case h0 => exact ⟨_, fun k => Iff.rfl, BX.out, World.ownsRow_nil _ _ _ _, B2.out, Nat.le_refl _⟩
  case hM => rintro s x a' O A A' C ⟨e, v, h⟩ hc hC; exact ⟨e, v, h.chg hc (fun k hk => ⟨by have := (hC k hk).1; have := HS2.out; omega, (hC k hk).2⟩)⟩
  case assign =>
    intro l' pre x O W' K hx hi hK
    dsimp only [encPt]
    gi_wp2
    exact hK _ O W' ⟨rfl, hi⟩ (Chg.refl _ _) (fun k h => .inl h)
  case body =>
    rintro l' pre x a' O W' ⟨⟨e, he, rfl⟩, hpl⟩ ⟨rfl, v, hbr⟩
    have hsl : (stl F pre).length ≤ 1000 := by
      have : (stl F pre).length ≤ pre.length := List.length_filterMap_le _ _
      omega
    have hcell := hbr.box.cell
    have hst := (cells_ent ((H.out.later hbr.bel).ent e he)).c3
    have BR := Lib.hid hbr
    have hso : stOf F e.nm = if e.stale = true then some e else none := by unfold stOf; rw [atF_mem H.out.srt he]
    have HSN := Lib.hid (stl_snoc F pre e.nm)
    clear hbr
    rcases hes : e.stale with _ | _
    · have HN := Lib.hid (show stl F (pre ++ [e.nm]) = stl F pre by rw [HSN.out, hso, hes]; simp)
      rw [hes] at hst
      clear hso hes
      gi_wp2
      exact ⟨O, ⟨v, by rw [HN.out]; exact BR.out⟩, Chg.refl _ _, fun k h => .inl h⟩
    · have HN := Lib.hid (show stl F (pre ++ [e.nm]) = stl F pre ++ [e] by rw [HSN.out, hso, hes]; simp)
      rw [hes] at hst
      clear hso hes
      obtain ⟨bx, hbx⟩ : ∃ bx, bl e.nm = bx := ⟨_, rfl⟩
      have HEE := Lib.hid (show encE bl e = [.pointer (some ⟨bx, 0, none⟩)] by rw [← hbx]; rfl)
      rw [hbx] at hst ⊢
      clear hbx
      gi_wp2_with (first
        | (gi_at_builtin; refine wpListIn_append_own_at _ rfl _ _ 55 rfl W.heap.size 53 i0 (.pointer none) 1 8 Tryz.underlying55 hi hz0 hz1 hz2 rfl (by decide) _ _ _ rfl (BR.out.row.alloc _) ⟨W'.heap.size, 0, none⟩ 1 1 [.pointer (some ⟨bx, 0, none⟩)] rfl rfl (cells_at _ _ _ _ rfl) (by simp [Value.oneCell']) (by unfold maxLen; omega) (by omega) (by have := BR.out.bel.size; simp; omega) ?_; intro v' w1 own gr hnil hloc; obtain ⟨g', cap', rfl⟩ := ownsRow_succ own; obtain ⟨hv1, hap⟩ := BR.out.appended (by decide) own gr hloc; have AP := Lib.hid hap; have hc1 := hv1.cell; have hf1 := hv1.frozen; clear own gr hnil hloc hap hv1)
        | gi_in)
      obtain ⟨O', h1, h2, h3⟩ := AP.out
      exact ⟨O', ⟨_, by rw [HN.out, flat_snoc, List.length_append, HEE.out]; exact h1⟩, h2, h3⟩
  case done =>
    rintro D xs O W3 hD hnD hS ⟨v, hbr⟩ hD3
    obtain ⟨rk, hK, hrk⟩ := HG.out.rank
    have hsp := stl_all H.out.srt hS
    have hl12 : (stl F xs).length ≤ 12 := by rw [hsp.length_eq]; exact h12
    have hin : ∀ x ∈ stl F xs, x ∈ F := fun x hx => (List.mem_filter.1 (hsp.mem_iff.1 hx)).1
    have hnd : (stl F xs).Pairwise (fun a b => a.nm ≠ b.nm) := by
      have h1 : ((stl F xs).map (·.nm)).Nodup := (hsp.map _).nodup_iff.2 (stale_nodup H.out.srt)
      exact List.pairwise_map.1 h1
    obtain ⟨V0, hV0⟩ : ∃ V0 : World, V0 = (W3.alloc (.map #[] 0)).alloc (.cells #[.nilFunc] 85) := ⟨_, rfl⟩
    have hb1 : V0.heap[W3.heap.size]? = some (.map #[] 0) := by rw [hV0, Below.heap_alloc _ _ _ (by simp)]; exact World.alloc_heap_new W3 _
    have hb2 : V0.heap[W3.heap.size + 1]? = some (.cells #[.nilFunc] 85 (0, 0)) := by
      rw [hV0]; have := World.alloc_heap_new (W3.alloc (.map #[] 0)) (.cells #[.nilFunc] 85); simpa using this
    have hB0 : Below W3.heap.size W3 V0 := by rw [hV0]; exact ((Below.refl _ W3).alloc (Nat.le_refl _) _).alloc (by simp) _
    obtain ⟨V, hV⟩ : ∃ V : World, V = V0.setCell ⟨W3.heap.size + 1, 0, none⟩ (.func (.func 31) #[.map (some W3.heap.size)] #[]) := ⟨_, rfl⟩
    have hst : (store ⟨W3.heap.size + 1, 0, none⟩ (.func (.func 31) #[.map (some W3.heap.size)] #[])).run Tryz.prog ((W3.alloc (.map #[] 0)).alloc (.cells #[.nilFunc] 85)) = .ok () V := by
      rw [← hV0, run_store _ _ _ _ _ rfl, cell_blk hb2 rfl, frz_blk hb2, hV]; rfl
    have hVk : ∀ k, k ≠ W3.heap.size + 1 → V.heap[k]? = V0.heap[k]? := fun k hk => by rw [hV]; exact Below.heap_setCell V0 ⟨W3.heap.size + 1, 0, none⟩ _ k hk
    have hV3 : Below W3.heap.size W3 V := by rw [hV]; exact hB0.setCell (p := ⟨W3.heap.size + 1, 0, none⟩) (by simp) _
    have hVb : V.heap[W3.heap.size + 1]? = some (.cells #[.func (.func 31) #[.map (some W3.heap.size)] #[]] 85 (0, 0)) := by rw [hV]; exact heap_setC hb2 _
    have hVm : V.heap[W3.heap.size]? = some (.map #[] 0) := by rw [hVk _ (by omega)]; exact hb1
    have hbsz := hbr.bel.size
    have hVW : Below W.heap.size W V := hbr.bel.trans (hV3.mono hbsz)
    have hBoxV : Boxed V W.heap.size 55 v := Boxed.blk hbr.box (hV3.block _ hbr.box.lt)
    have hrowV : V.ownsRow W.heap.size 53 1 v (stl F xs).length ((stl F xs).flatMap (encE bl)) := ownsRow_blk hbr.row (fun g _ hg => hV3.block g hg)
    have hxv : v.ownBlock ≠ some (W3.heap.size + 1) := fun e => by have := (owns_ltK hbr.row _ e).2; omega
    have hvB : v.ownBlock ≠ some W.heap.size := (hbr.box.not_row (by decide) hbr.row).symm
    have hcellV := hBoxV.cell
    have hsort := sortl_any H.out HG.out.closed hK (fun e he => Nat.le_trans (HG.out.rlen e he) hF) (fun e he => Nat.le_trans (hrk e.nm) hF) (stl F xs) hin hnd hl12 v V hVW hrowV (show W.heap.size ≤ W3.heap.size by omega) hVm (cell_blk hVb rfl) hxv
    unfold cmpV at hsort
    have SORT := Lib.hid hsort
    have HD := Lib.hid (show V.heap[D]? = some (.deferred (some [])) from by rw [hV3.block D (lt_of_blk hD3)]; exact hD3)
    have HDO := Lib.hid (show v.ownBlock ≠ some D from fun e => hnD ((hbr.own D).2 (.inr e)))
    have HDW := Lib.hid (show W2.heap.size ≤ D from hD)
    have HL := Lib.hid (lt_of_blk hD3)
    have HBX := Lib.hid hBoxV
    have HVB := Lib.hid hvB
    have HSZ := Lib.hid (show W.heap.size < W3.heap.size ∧ W3.heap.size ≤ V.heap.size from ⟨hbr.box.lt, hV3.size⟩)
    have HFIN := Lib.hid (show ∀ s : List En, s.Perm (stl F xs) → s.Pairwise (ltE F rk) → s.map (·.nm) = staleF F from fun s hp hs => by
      refine staleF_uniq H.out.srt ((hp.trans hsp).map _) (List.pairwise_map.2 (hs.imp (fun {a b} hlt => ?_)))
      unfold ltE at hlt
      rw [cmpE_iff, HG.out.depth hK hrk, HG.out.depth hK hrk] at hlt
      exact hlt)
    have HSF := Lib.hid (show ∀ s : List En, s.Perm (stl F xs) → ∀ x ∈ s, x ∈ F from fun s hp x hx => hin x (hp.mem_iff.1 hx))
    have HLN := Lib.hid hrowV
    clear hsort hV0 hV hb1 hb2 hB0 hVk hV3 hVb hVm hVW hrowV hBoxV hxv hvB hbr hS hsp hin hnd hK hrk hD3 hD hnD hbsz
    gi_wp2
    refine wide_call SORT.out ?_
    rintro e w5 ⟨rfl, hbl, ⟨hos5, hsz5⟩, hfr, s, hp, hs, hrow5⟩
    have hc5 : w5.cell? ⟨W.heap.size, 0, none⟩ = some v := by
      rw [World.cell?_of_block (w := V) (hfr W.heap.size (by have := HSZ.out; omega) (by have := HSZ.out; omega) HVB.out)]; exact HBX.out.cell
    have hD5 : w5.heap[D]? = some (.deferred (some [])) := by rw [hfr D (lt_of_blk HD.out) (by have := HL.out; omega) HDO.out]; exact HD.out
    obtain ⟨ao, cap, hv, _, _⟩ := id hrow5
    subst hv
    rw [List.length_map] at hrow5 hc5 ⊢
    have hs12 : s.length ≤ 12 := by rw [hp.length_eq]; exact hl12
    have HF5 := Lib.hid (HFIN.out s hp hs)
    have HS5 := Lib.hid (HSF.out s hp)
    have R5 := Lib.hid (H.out.later hbl)
    have B5 := Lib.hid hbl
    have ROW := Lib.hid hrow5
    have HD5 := Lib.hid hD5
    have HW5 := Lib.hid (show W.heap.size ≤ w5.heap.size from hbl.size)
    obtain ⟨q, hq⟩ : ∃ q, s.length = q := ⟨_, rfl⟩
    rw [hq] at hs12 hc5 ROW ⊢
    have HQ := Lib.hid hq
    clear hbl hos5 hsz5 hfr hp hs hrow5 hD5 SORT HBX HVB HDO HD HFIN HSF HLN hcellV hst hl12 hq
    gi_wp2
    gi_loopw [2, 31] (fun u i wr => ∃ k : Nat, k ≤ q ∧ i = .int .i64 k ∧ wr.ownsRow w5.heap.size 9 1 u k (((s.map (·.nm)).take k).flatMap encT) ∧ Below w5.heap.size w5 wr) (fun _ i _ => q - (intOf i).toNat)
    case atStart => exact ⟨0, Nat.zero_le _, rfl, World.ownsRow_nil _ _ _ _, Below.refl _ _⟩
    case round =>
      obtain ⟨k, hk, rfl, hown, hb⟩ := hrel
      have OWN := Lib.hid hown
      have HB := Lib.hid hb
      clear hown hb
      by_cases hlt : k < q
      · have hke : k < s.length := by rw [HQ.out]; exact hlt
        obtain ⟨b0, off, rfl, hce⟩ := ROW.out.at (i := k) (p := bl s[k].nm) (by rw [List.getElem?_map, List.getElem?_eq_getElem hke]; rfl)
        have hc0 := (cells_ent (R5.out.ent s[k] (HS5.out _ (List.getElem_mem hke)))).c0
        have hlb := World.block_lt_of_cell? _ _ hce
        have hld := World.block_lt_of_cell? _ _ hc0
        have e1 : wr.cell? ⟨b0, off + k, none⟩ = some (.pointer (some ⟨bl s[k].nm, 0, none⟩)) := by rw [HB.out.cell (p := ⟨b0, off + k, none⟩) hlb]; exact hce
        have e2 : wr.cell? ⟨bl s[k].nm, 0, none⟩ = some (.string s[k].nm) := by rw [HB.out.cell (p := ⟨bl s[k].nm, 0, none⟩) hld]; exact hc0
        have hft := flat_take (l := s.map (·.nm)) (k := k) (by rw [List.length_map]; exact hke)
        rw [List.getElem_map] at hft
        have FT := Lib.hid hft
        obtain ⟨x, hx⟩ : ∃ x, s[k].nm = x := ⟨_, rfl⟩
        rw [hx] at e1 e2 FT
        obtain ⟨bx, hbx⟩ : ∃ bx, bl x = bx := ⟨_, rfl⟩
        rw [hbx] at e1 e2
        have k0 : (0 : Int) ≤ (k : Int) := by omega
        have k1 : (k : Int) < (q : Int) := by omega
        clear hce hc0 hx hbx hlb hld hft
        gi_wp2_with (first
          | (gi_at_builtin; refine wpListIn_append_own _ rfl (.tmp 35) (.tmp 40) 26 rfl w5.heap.size 9 i1 (.string (ByteArray.mk #[])) 1 16 Tryz.underlying26 hi1 hy0 hy1 hy2 rfl (by decide) _ _ _ rfl (OWN.out.alloc _) ⟨wr.heap.size, 0, none⟩ 1 1 (encT x) rfl rfl (cells_at _ _ _ _ rfl) (encT_one _) (by unfold maxLen; omega) (by omega) (by have := HB.out.size; simp; omega) ?_; intro v' w1 own gr _h; have OWN' := Lib.hid own; have HB' := Lib.hid (grown_own (HB.out.alloc HB.out.size _) (Nat.le_refl _) (OWN.out.alloc _) gr); clear own gr _h; go_frame)
          | gi_in)
        go_roundw
        case rel => exact ⟨k + 1, by omega, by go_num, by rw [FT.out]; exact OWN'.out, HB'.out⟩
        case measure => simp [intOf]; omega
      · have hkm : k = q := by omega
        have ho := OWN.out
        rw [hkm, List.take_of_length_le (by rw [List.length_map, HQ.out]; exact Nat.le_refl _), HF5.out] at ho
        have HO := Lib.hid ho
        have hDr : wr.heap[D]? = some (.deferred (some [])) := by rw [HB.out.block D (lt_of_blk HD5.out)]; exact HD5.out
        have HDr := Lib.hid hDr
        clear hkm ho OWN hDr
        gi_wp2
        refine ⟨by simp, .inl ⟨_, _, rfl, run_takeDeferred HDr.out, ?_⟩⟩
        have hDlt : D < w5.heap.size := lt_of_blk HD5.out
        have hfin := ownsRow_blk (w' := wr.putObj D (.deferred none)) HO.out (fun g hg _ => World.putObj_heap_other (fun e => by have := (owns_ltK HO.out g hg).1; omega))
        obtain ⟨ao2, cap2, hu, h1, h2⟩ := rowK_of_owns encT_len (by decide) hfin
        subst hu
        have hbf : Below W.heap.size W (wr.putObj D (.deferred none)) :=
          (B5.out.trans (HB.out.mono HW5.out)).trans ((Chg.put (C := fun k => k = D) wr D _ rfl).below (Nat.le_trans HW5.out HB.out.size) (fun k hk => by subst hk; have := HDW.out; have := HS2.out; omega))
        have hlen : (staleF F).length = q := by rw [← HF5.out, List.length_map, HQ.out]
        refine ⟨_, results_tmp rfl _ _ _, .slice ao2 (staleF F).length cap2, rfl, ?_, hbf⟩
        have h9 := ownsRow_low hfin HW5.out
        rw [show q = (staleF F).length from hlen.symm] at h9
        exact h9
end

end Go.Proofs.YtffifhbldcjelaaGreatDoor
