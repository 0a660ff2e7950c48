import Derived.Test.YtgbnhngaeefmkaaFl20

/-! Flows: below, the walk from an entry to all that it depends on. -/
namespace Go.Proofs.Ytgbnhngaeefmkaa
set_option linter.unusedVariables false
set_option linter.unusedSimpArgs false
open Go.RowKit

attribute [local go_sem] Oper.semAt_some

/-- T' is T and what was reached from x, closed -/
structure Ext (F : List En) (T T' : List ByteArray) (x : ByteArray) : Prop where
  pre : ∃ s, T' = T ++ s ∧ (∀ y ∈ s, Rch F x y) ∧ ∀ y ∈ s, ∀ e, atF F y = some e → ∀ r ∈ e.rds, r ∈ T'
  at' : x ∈ T'

theorem Ext.all {F : List En} {T' : List ByteArray} {x : ByteArray} (h : Ext F [] T' x) {y : ByteArray} (hy : Rch F x y) : y ∈ T' := by
  obtain ⟨s, hs, _, h3⟩ := h.pre
  rw [List.nil_append] at hs
  subst hs
  have key : ∀ a b, Rch F a b → a ∈ T' → b ∈ T' := by
    intro a b hab
    induction hab with
    | refl => exact id
    | step h1 h2 _ ih => intro ha; exact ih (h3 _ ha _ h1 _ h2)
  exact key _ _ hy h.at'

/-- the reads of x, some of them done -/
structure Some' (F : List En) (T T' : List ByteArray) (x : ByteArray) (done : List ByteArray) : Prop where
  pre : ∃ s, T' = T ++ [x] ++ s ∧ (∀ y ∈ s, Rch F x y) ∧ ∀ y ∈ s, ∀ e, atF F y = some e → ∀ r ∈ e.rds, r ∈ T'
  dn : ∀ r ∈ done, r ∈ T'

theorem Some'.step {F : List En} {T T1 T2 : List ByteArray} {x r : ByteArray} {e : En} {done : List ByteArray} (h : Some' F T T1 x done) (he : atF F x = some e) (hr : r ∈ e.rds) (h2 : Ext F T1 T2 r) : Some' F T T2 x (done ++ [r]) := by
  obtain ⟨s, hs, h3, h4⟩ := h.pre
  obtain ⟨s2, hs2, h5, h6⟩ := h2.pre
  have sub : ∀ y ∈ T1, y ∈ T2 := fun y hy => by rw [hs2]; exact List.mem_append_left _ hy
  refine ⟨⟨s ++ s2, by rw [hs2, hs, List.append_assoc], fun y hy => ?_, fun y hy e' he' r' hr' => ?_⟩, fun r' hr' => ?_⟩
  · rcases List.mem_append.1 hy with q | q
    · exact h3 y q
    · exact .step he hr (h5 y q)
  · rcases List.mem_append.1 hy with q | q
    · exact sub _ (h4 y q e' he' r' hr')
    · exact h6 y q e' he' r' hr'
  · rcases List.mem_append.1 hr' with q | q
    · exact sub _ (h.dn r' q)
    · rw [List.mem_singleton.1 q]; exact h2.at'

theorem Some'.fin {F : List En} {T T' : List ByteArray} {x : ByteArray} {e : En} (h : Some' F T T' x e.rds) (he : atF F x = some e) : Ext F T T' x := by
  obtain ⟨s, hs, h3, h4⟩ := h.pre
  refine ⟨⟨x :: s, by rw [hs]; simp, fun y hy => ?_, fun y hy e' he' r hr => ?_⟩, by rw [hs]; simp⟩
  · rcases List.mem_cons.1 hy with q | q
    · rw [q]; exact .refl _
    · exact h3 y q
  · rcases List.mem_cons.1 hy with q | q
    · rw [q, he] at he'; cases he'; exact h.dn r hr
    · exact h4 y q e' he' r hr

/-- the iterator under way: T are the names that it has seen -/
structure ItS (w : World) (F : List En) (bl : ByteArray → Nat) (l sb yb vb m : Nat) (J : List ByteArray → World → Prop) (T : List ByteArray) (W' : World) : Prop where
  low : Below w.heap.size w W'
  seen : W'.cell? ⟨sb, 0, none⟩ = some (.map (some m))
  yld : W'.cell? ⟨yb, 0, none⟩ = some (.func (.yield l) #[] #[])
  vis : W'.cell? ⟨vb, 0, none⟩ = some (.func (.func 68) #[] #[.pointer (some ⟨sb, 0, none⟩), .pointer (some ⟨yb, 0, none⟩), .pointer (some ⟨vb, 0, none⟩)])
  map : RawMap W' m (T.map fun t => (ptr (bl t), .bool true))
  sub : ∀ t ∈ T, isIn F t
  j : J T W'

def VisP (w : World) (F : List En) (bl : ByteArray → Nat) (l sb yb vb m : Nat) (J Jx : List ByteArray → World → Prop) (T : List ByteArray) (x : ByteArray) (e : Ending) (W2 : World) : Prop :=
  (e = .returned (.bool true) ∧ ∃ T', ItS w F bl l sb yb vb m J T' W2 ∧ Ext F T T' x) ∨ (e = .returned (.bool false) ∧ ∃ p y, Rch F x y ∧ Jx (p ++ [y]) W2)

theorem getV_seen {F : List En} {bl : ByteArray → Nat} (hi : ∀ a ∈ F, ∀ b ∈ F, bl a.nm = bl b.nm → a.nm = b.nm) {x : ByteArray} (hx : isIn F x) : ∀ {T : List ByteArray}, (∀ t ∈ T, isIn F t) →
    (x ∈ T → getV (ptr (bl x)) (T.map fun t => ((ptr (bl t), Value.bool true) : Value × Value)) = some (Value.bool true)) ∧ (x ∉ T → getV (ptr (bl x)) (T.map fun t => ((ptr (bl t), Value.bool true) : Value × Value)) = none)
  | [], _ => ⟨(fun h => by cases h), fun _ => by simp [getV]⟩
  | t :: T, h => by
    obtain ⟨a, ha, rfl⟩ := hx
    obtain ⟨b, hb, rfl⟩ := h t (by simp)
    simp only [List.map_cons]
    unfold getV
    have ih := getV_seen hi ⟨a, ha, rfl⟩ (T := T) (fun t ht => h t (by simp [ht]))
    by_cases e : b.nm = a.nm
    · rw [if_pos (by rw [e])]
      exact ⟨fun _ => rfl, fun q => absurd (by rw [e]; simp) q⟩
    · rw [if_neg (fun q => e (hi b hb a ha (ptr_inj q)))]
      refine ⟨fun q => ih.1 ?_, fun q => ih.2 (fun q2 => q (List.mem_cons_of_mem _ q2))⟩
      rcases List.mem_cons.1 q with q | q
      · exact absurd q.symm e
      · exact q

section
variable {B : Nat} {w W : World} {f M : Nat} {bl rb : ByteArray → Nat} {sl : ByteArray → Value} {F : List En} {rk : ByteArray → Nat} {l sb yb vb m : Nat} {J Jx : List ByteArray → World → Prop}

theorem not_any (n : Nat) (T : List ByteArray) (r : ByteArray) (W' : World) (hv : W'.cell? ⟨vb, 0, none⟩ = some (.func (.func 68) #[] #[.pointer (some ⟨sb, 0, none⟩), .pointer (some ⟨yb, 0, none⟩), .pointer (some ⟨vb, 0, none⟩)]))
    (h : ∀ n, CallsIn Fence.wide n Try.prog 68 #[.pointer (some ⟨bl r, 0, none⟩), .pointer (some ⟨sb, 0, none⟩), .pointer (some ⟨yb, 0, none⟩), .pointer (some ⟨vb, 0, none⟩)] W' (VisP w F bl l sb yb vb m J Jx T r)) :
    CallsIn Fence.wide n Try.prog 70 #[.pointer (some ⟨bl r, 0, none⟩), .pointer (some ⟨vb, 0, none⟩)] W' fun e W2 => (e = .returned (.bool false) ∧ ∃ T', ItS w F bl l sb yb vb m J T' W2 ∧ Ext F T T' r) ∨ (e = .returned (.bool true) ∧ ∃ p y, Rch F r y ∧ Jx (p ++ [y]) W2) := by
  have eg : ∀ args w, (callFunc 68 args).run Try.prog w = .ok (.enter 68 args) w := enters_of Try.func68 (by kernel_rfl) rfl
  have H := Lib.hid h
  clear h
  obtain ⟨b, hb⟩ : ∃ b, bl r = b := ⟨_, rfl⟩
  rw [hb] at H ⊢
  refine callsIn_of_wp Try.func70 rfl trivial ?_ rfl
  simp only [Try.ntmps70, List.size_toArray, List.length_cons, List.length_nil, Nat.reduceAdd, Nat.reduceSub, Array.replicate_succ, Array.replicate_zero, List.push_toArray, List.append_toArray, List.nil_append, List.cons_append]
  gi_wp2
  refine ⟨trivial, fun h => absurd h (by simp [Fence.wide]), (H.out _).mono ?_⟩
  rintro e W2 (⟨rfl, h2⟩ | ⟨rfl, h2⟩)
  · have H2 := Lib.hid h2
    clear h2
    gi_wp2
    go_ret
    exact .inl ⟨rfl, H2.out⟩
  · have H2 := Lib.hid h2
    clear h2
    gi_wp2
    go_ret
    exact .inr ⟨rfl, H2.out⟩

set_option maxRecDepth 100000 in
set_option maxHeartbeats 4000000 in
theorem visit_any (h : Rep B w f M bl rb sl F) (hG : Good F) (hF : F.length ≤ 1000) (hK : Ranked F rk) (hm : W.heap.size ≤ m)
    (hJ : ∀ s A B C, J s A → Chg C A B → (∀ k, C k → W.heap.size ≤ k) → J s B) (hWw : w.heap.size ≤ W.heap.size)
    (hY : ∀ k pre x W1, isIn F x → J pre W1 → YieldAt Fence.wide k Try.prog l (encP bl x) W1 fun e W' =>
      (e = .returned (.bool true) ∧ J (pre ++ [x]) W' ∧ Chg (fun _ => False) W1 W') ∨ (e = .returned (.bool false) ∧ Jx (pre ++ [x]) W')) :
    ∀ (K : Nat) (x : ByteArray) (e : En) (T : List ByteArray) (W' : World) (n : Nat), rk x < K → atF F x = some e → ItS w F bl l sb yb vb m J T W' →
      CallsIn Fence.wide n Try.prog 68 #[.pointer (some ⟨bl x, 0, none⟩), .pointer (some ⟨sb, 0, none⟩), .pointer (some ⟨yb, 0, none⟩), .pointer (some ⟨vb, 0, none⟩)] W' (VisP w F bl l sb yb vb m J Jx T x) := by
  intro K
  induction K with
  | zero => intro x e T W' n hk; omega
  | succ K ih =>
    intro x e T W' n hrk he hit
    obtain ⟨heF, hen⟩ := atF_some he
    have hin : isIn F x := ⟨e, heF, hen⟩
    have hR' := h.later hit.low
    have hgood : KeysGood goodP W' (T.map fun t => (ptr (bl t), .bool true)) := fun p hp => by
      obtain ⟨t, ht, rfl⟩ := List.mem_map.1 hp
      obtain ⟨a, ha, rfl⟩ := hit.sub t ht
      exact ⟨_, _, _, rfl, hR'.ent a ha⟩
    have hkey : goodP W' (.pointer (some ⟨bl x, 0, none⟩)) := ⟨_, _, _, rfl, by have := hR'.ent e heF; rw [hen] at this; exact this⟩
    have hlook := hit.map.lookup keyP Try.underlying78 hgood hkey (zeroB W') false
    have hg := getV_seen h.injB hin hit.sub
    unfold ptr at hg
    unfold ptr at hlook
    have hs := hit.seen
    by_cases hxT : x ∈ T
    · rw [hg.1 hxT] at hlook
      simp only [Option.getD_some, Bool.false_eq_true, if_false] at hlook
      have FIN := Lib.hid (show ∃ T', ItS w F bl l sb yb vb m J T' W' ∧ Ext F T T' x from ⟨T, hit, ⟨[], by simp, (fun y hy => by cases hy), (fun y hy => by cases hy)⟩, hxT⟩)
      clear hit hgood hkey hg hR' ih hY hJ h hG hK
      refine callsIn_of_wp Try.func68 rfl trivial ?_ rfl
      simp only [Try.ntmps68, List.size_toArray, List.length_cons, List.length_nil, Nat.reduceAdd, Nat.reduceSub, Array.replicate_succ, Array.replicate_zero, List.push_toArray, List.append_toArray, List.nil_append, List.cons_append]
      gi_wp2
      go_ret
      exact .inl ⟨rfl, FIN.out⟩
    · rw [hg.2 hxT] at hlook
      simp only [Option.getD_none, Bool.false_eq_true, if_false] at hlook
      have hmS : ∀ {b : Nat} {v : Value}, W'.cell? ⟨b, 0, none⟩ = some v → b ≠ m := fun hc e1 => by
        obtain ⟨es, c, q, _⟩ := hit.map
        rw [e1] at hc
        unfold World.cell? at hc
        rw [q] at hc; cases hc
      have HM := Lib.hid hit.map
      have HG := Lib.hid hgood
      have HK := Lib.hid hkey
      have hput : putV (.pointer (some ⟨bl x, 0, none⟩)) (.bool true) (T.map fun t => ((ptr (bl t), .bool true) : Value × Value)) = (T ++ [x]).map fun t => (ptr (bl t), .bool true) := by
        rw [putV_new (fun p hp e1 => ?_), List.map_append]; rfl
        obtain ⟨t, ht, rfl⟩ := List.mem_map.1 hp
        obtain ⟨a, ha, rfl⟩ := hit.sub t ht
        have := h.injB a ha e heF (by rw [hen]; exact ptr_inj e1)
        exact hxT (by rw [← hen, ← this]; exact ht)
      have UP := Lib.hid (show ∀ ob, RawMap (W'.putObj m ob) m (putV (.pointer (some ⟨bl x, 0, none⟩)) (.bool true) (T.map fun t => ((ptr (bl t), .bool true) : Value × Value))) →
          (W'.putObj m ob).cell? ⟨yb, 0, none⟩ = some (.func (.yield l) #[] #[]) ∧ J T (W'.putObj m ob) ∧ ∀ W2, Chg (fun _ => False) (W'.putObj m ob) W2 → J (T ++ [x]) W2 → ItS w F bl l sb yb vb m J (T ++ [x]) W2 from fun ob hob => by
        have hk : ∀ b, b ≠ m → (W'.putObj m ob).heap[b]? = W'.heap[b]? := fun b hb => World.putObj_heap_other hb
        have hc : ∀ {b : Nat} {v : Value}, W'.cell? ⟨b, 0, none⟩ = some v → (W'.putObj m ob).cell? ⟨b, 0, none⟩ = some v := fun {b v} hc => by
          rw [World.cell?_of_block (w := W') (hk b (hmS hc))]; exact hc
        refine ⟨hc hit.yld, hJ _ _ _ _ hit.j (Chg.put (C := fun k => k = m) _ _ _ rfl) (fun k hk => by subst hk; exact hm), fun W2 hc2 hj2 => ?_⟩
        have hc3 : ∀ {b : Nat} {v : Value}, W'.cell? ⟨b, 0, none⟩ = some v → W2.cell? ⟨b, 0, none⟩ = some v := fun hh => hc2.cell (hc hh) (fun q => q)
        rw [hput] at hob
        refine ⟨?_, hc3 hit.seen, hc3 hit.yld, hc3 hit.vis, hob.kept (hc2.block m hob.lt (fun q => q)), fun t ht => ?_, hj2⟩
        · exact (hit.low.trans ((Chg.put (C := fun k => k = m) W' m ob rfl).below hit.low.size (fun k hk => by subst hk; omega))).trans (hc2.below (by rw [World.putObj_size]; exact hit.low.size) (fun k q => q.elim))
        · rcases List.mem_append.1 ht with q | q
          · exact hit.sub t q
          · rw [List.mem_singleton.1 q]; exact hin)
      have HY := Lib.hid (fun ob (hj : J T (W'.putObj m ob)) => hY (n - 1) T x (W'.putObj m ob) hin hj)
      have RL := Lib.hid (show ∀ W2, ItS w F bl l sb yb vb m J (T ++ [x]) W2 → Cells W2 (bl x) e (sl x) (rb x) from fun W2 h2 => by
        have := cells_ent ((h.later h2.low).ent e heF); rwa [hen] at this)
      obtain ⟨ao, cap, hso, _, _⟩ := h.row e heF
      rw [List.length_map, hen] at hso
      have hrl : e.rds.length ≤ 1000 := Nat.le_trans (hG.rlen e heF) hF
      have CT := Lib.hid (show ∀ W2 k, ItS w F bl l sb yb vb m J (T ++ [x]) W2 → CallsIn Fence.wide k Try.prog 69 #[.slice ao e.rds.length cap, .func (.func 70) #[] #[.pointer (some ⟨vb, 0, none⟩)]] W2 fun e' W3 => (e' = .returned (.bool false) ∧ ∃ T', ItS w F bl l sb yb vb m J T' W3 ∧ Ext F T T' x) ∨ (e' = .returned (.bool true) ∧ ∃ p y, Rch F x y ∧ Jx (p ++ [y]) W3) from fun W2 k h2 => by
        refine (contains_any k ao e.rds.length cap (e.rds.map bl) vb (fun i W3 => ∃ T', ItS w F bl l sb yb vb m J T' W3 ∧ Some' F T T' x (e.rds.take i)) (fun W3 => ∃ p y, Rch F x y ∧ Jx (p ++ [y]) W3) W2 (by simp) hrl (fun i W3 ⟨T', h3, _⟩ => ?_) ⟨T ++ [x], h2, ⟨[], by simp, (fun y hy => by cases hy), (fun y hy => by cases hy)⟩, by simp⟩ (fun i p W3 k' hp ⟨T', h3, h4⟩ => ?_)).mono ?_
        · have := (h.later h3.low).row e heF
          rw [hen, hso] at this; exact this
        · rw [List.getElem?_map] at hp
          obtain ⟨r, hr, rfl⟩ := Option.map_eq_some_iff.1 hp
          have hil : i < e.rds.length := (List.getElem?_eq_some_iff.1 hr).1
          have hri : e.rds[i] = r := (List.getElem?_eq_some_iff.1 hr).2
          have hrm : r ∈ e.rds := by rw [← hri]; exact List.getElem_mem hil
          obtain ⟨d, hd, hdn⟩ := hG.closed e heF r hrm
          have hdr := hK e heF r hrm
          rw [hen] at hdr
          refine (not_any k' T' r W3 h3.vis (fun k2 => ih r d T' W3 k2 (by omega) (by rw [← hdn]; exact atF_mem h.srt hd) h3)).mono ?_
          rintro e' W4 (⟨rfl, T2, h5, h6⟩ | ⟨rfl, p, y, h5, h6⟩)
          · refine .inl ⟨rfl, T2, h5, ?_⟩
            rw [List.take_succ_eq_append_getElem hil, hri]
            exact h4.step he hrm h6
          · exact .inr ⟨rfl, p, y, .step he hrm h5, h6⟩
        · rintro e' W4 (⟨rfl, T2, h5, h6⟩ | ⟨rfl, h5⟩)
          · rw [List.take_length] at h6
            exact .inl ⟨rfl, T2, h5, h6.fin he⟩
          · exact .inr ⟨rfl, h5⟩)
      rw [hso] at RL
      obtain ⟨q, hq⟩ : ∃ q, e.rds.length = q := ⟨_, rfl⟩
      rw [hq] at CT RL hrl
      obtain ⟨bx, hbx⟩ : ∃ bx, bl x = bx := ⟨_, rfl⟩
      have ENC := Lib.hid (show encP bl x = #[.pointer (some ⟨bx, 0, none⟩)] from by unfold encP; rw [hbx])
      rw [hbx] at UP HK RL hlook ⊢
      clear hit hgood hkey hg hR' ih hY hJ h hG hK hput hmS hso hq hbx heF hen hin he
      refine callsIn_of_wp Try.func68 rfl trivial ?_ rfl
      simp only [Try.ntmps68, List.size_toArray, List.length_cons, List.length_nil, Nat.reduceAdd, Nat.reduceSub, Array.replicate_succ, Array.replicate_zero, List.push_toArray, List.append_toArray, List.nil_append, List.cons_append]
      gi_wp2_with (first
        | (refine wpListIn_mapUpdate_raw _ rfl (.tmp 9) (.tmp 10) (.const (.bool true)) 78 (by rfl) 75 4 Try.underlying78 keyP m _ (by rfl) HM.out HG.out (.pointer (some ⟨bx, 0, none⟩)) (.bool true) (by rfl) (by rfl) HK.out ?_; intro ob hob; obtain ⟨hyb, hj, hnx⟩ := UP.out ob hob; have HJ1 := Lib.hid hj; have NX := Lib.hid hnx; clear hob hj hnx; obtain ⟨fn, tmps, assign, body, hy, hR⟩ := HY.out ob HJ1.out; rw [ENC.out] at hy; have HRD := Lib.hid hR; clear hR)
        | gi_in)
      refine ⟨fun h => absurd h (by simp [Fence.wide]), HRD.out.mono ?_⟩
      rintro e3 W2 (⟨rfl, hj2, hc2⟩ | ⟨rfl, hx2⟩)
      · have h2 := NX.out W2 hc2 hj2
        obtain ⟨d0, d1, d2, d3, d4, d5, fz⟩ := RL.out W2 h2
        have CT2 := Lib.hid (fun k => CT.out W2 k h2)
        clear hj2 hc2 h2 d0 d1 d2 d3 d5 fz
        gi_wp2
        refine ⟨trivial, fun h => absurd h (by simp [Fence.wide]), (CT2.out _).mono ?_⟩
        rintro e4 W3 (⟨rfl, h3⟩ | ⟨rfl, h3⟩)
        · have H3 := Lib.hid h3
          clear h3
          gi_wp2
          go_ret
          exact .inl ⟨rfl, H3.out⟩
        · have H3 := Lib.hid h3
          clear h3
          gi_wp2
          go_ret
          exact .inr ⟨rfl, H3.out⟩
      · have H2 := Lib.hid hx2
        clear hx2
        gi_wp2
        go_ret
        exact .inr ⟨rfl, T, x, .refl _, H2.out⟩
end

end Go.Proofs.Ytgbnhngaeefmkaa
