/-
  Flows: below, the walk from an entry to all that it depends on. Flows: below, as an iterator. Compact of a sorted list of names: ascending, each once.
-/
import Derived.Test.YtffifhbldcjelaaGreatDoorDs10
import Derived.Test.YtffifhbldcjelaaGreatDoorDs08
import Derived.Sort.OwnSorted
import Derived.Lib.SmallJoins
import Derived.Lib.SlicesCompact
import Derived.Lib.RowBridge

/-! Flows: below, the walk from an entry to all that it depends on. -/
namespace Go.Proofs.YtffifhbldcjelaaGreatDoor
set_option linter.unusedVariables false
set_option linter.unusedSimpArgs false
open Go.RowKit

attribute [local go_sem] Oper.semAt_some

/-- T' is T and what was reached from x, closed -/
structure Ext (F : List En) (T T' : List ByteArray) (x : ByteArray) : Prop where
  pre : ∃ s, T' = T ++ s ∧ (∀ y ∈ s, Rch F x y) ∧ ∀ y ∈ s, ∀ e, atF F y = some e → ∀ r ∈ e.rds, r ∈ T'
  at' : x ∈ T'

theorem Ext.all {F : List En} {T' : List ByteArray} {x : ByteArray} (h : Ext F [] T' x) {y : ByteArray} (hy : Rch F x y) : y ∈ T' := by
  obtain ⟨s, hs, _, h3⟩ := h.pre
  rw [List.nil_append] at hs
  subst hs
  have key : ∀ a b, Rch F a b → a ∈ T' → b ∈ T' := by
    intro a b hab
    induction hab with
    | refl => exact id
    | step h1 h2 _ ih => intro ha; exact ih (h3 _ ha _ h1 _ h2)
  exact key _ _ hy h.at'

/-- the reads of x, some of them done -/
structure Some' (F : List En) (T T' : List ByteArray) (x : ByteArray) (done : List ByteArray) : Prop where
  pre : ∃ s, T' = T ++ [x] ++ s ∧ (∀ y ∈ s, Rch F x y) ∧ ∀ y ∈ s, ∀ e, atF F y = some e → ∀ r ∈ e.rds, r ∈ T'
  dn : ∀ r ∈ done, r ∈ T'

theorem Some'.step {F : List En} {T T1 T2 : List ByteArray} {x r : ByteArray} {e : En} {done : List ByteArray} (h : Some' F T T1 x done) (he : atF F x = some e) (hr : r ∈ e.rds) (h2 : Ext F T1 T2 r) : Some' F T T2 x (done ++ [r]) := by
  obtain ⟨s, hs, h3, h4⟩ := h.pre
  obtain ⟨s2, hs2, h5, h6⟩ := h2.pre
  have sub : ∀ y ∈ T1, y ∈ T2 := fun y hy => by rw [hs2]; exact List.mem_append_left _ hy
  refine ⟨⟨s ++ s2, by rw [hs2, hs, List.append_assoc], fun y hy => ?_, fun y hy e' he' r' hr' => ?_⟩, fun r' hr' => ?_⟩
  · rcases List.mem_append.1 hy with q | q
    · exact h3 y q
    · exact .step he hr (h5 y q)
  · rcases List.mem_append.1 hy with q | q
    · exact sub _ (h4 y q e' he' r' hr')
    · exact h6 y q e' he' r' hr'
  · rcases List.mem_append.1 hr' with q | q
    · exact sub _ (h.dn r' q)
    · rw [List.mem_singleton.1 q]; exact h2.at'

theorem Some'.fin {F : List En} {T T' : List ByteArray} {x : ByteArray} {e : En} (h : Some' F T T' x e.rds) (he : atF F x = some e) : Ext F T T' x := by
  obtain ⟨s, hs, h3, h4⟩ := h.pre
  refine ⟨⟨x :: s, by rw [hs]; simp, fun y hy => ?_, fun y hy e' he' r hr => ?_⟩, by rw [hs]; simp⟩
  · rcases List.mem_cons.1 hy with q | q
    · rw [q]; exact .refl _
    · exact h3 y q
  · rcases List.mem_cons.1 hy with q | q
    · rw [q, he] at he'; cases he'; exact h.dn r hr
    · exact h4 y q e' he' r hr

/-- the iterator under way: T are the names that it has seen -/
structure ItS (w : World) (F : List En) (bl : ByteArray → Nat) (l sb yb vb m : Nat) (J : List ByteArray → World → Prop) (T : List ByteArray) (W' : World) : Prop where
  low : Below w.heap.size w W'
  seen : W'.cell? ⟨sb, 0, none⟩ = some (.map (some m))
  yld : W'.cell? ⟨yb, 0, none⟩ = some (.func (.yield l) #[] #[])
  vis : W'.cell? ⟨vb, 0, none⟩ = some (.func (.func 62) #[] #[.pointer (some ⟨sb, 0, none⟩), .pointer (some ⟨yb, 0, none⟩), .pointer (some ⟨vb, 0, none⟩)])
  map : RawMap W' m (T.map fun t => (ptr (bl t), .bool true))
  sub : ∀ t ∈ T, isIn F t
  j : J T W'

def VisP (w : World) (F : List En) (bl : ByteArray → Nat) (l sb yb vb m : Nat) (J Jx : List ByteArray → World → Prop) (T : List ByteArray) (x : ByteArray) (e : Ending) (W2 : World) : Prop :=
  (e = .returned (.bool true) ∧ ∃ T', ItS w F bl l sb yb vb m J T' W2 ∧ Ext F T T' x) ∨ (e = .returned (.bool false) ∧ ∃ p y, Rch F x y ∧ Jx (p ++ [y]) W2)

theorem getV_seen {F : List En} {bl : ByteArray → Nat} (hi : ∀ a ∈ F, ∀ b ∈ F, bl a.nm = bl b.nm → a.nm = b.nm) {x : ByteArray} (hx : isIn F x) : ∀ {T : List ByteArray}, (∀ t ∈ T, isIn F t) →
    (x ∈ T → getV (ptr (bl x)) (T.map fun t => ((ptr (bl t), Value.bool true) : Value × Value)) = some (Value.bool true)) ∧ (x ∉ T → getV (ptr (bl x)) (T.map fun t => ((ptr (bl t), Value.bool true) : Value × Value)) = none)
  | [], _ => ⟨(fun h => by cases h), fun _ => by simp [getV]⟩
  | t :: T, h => by
    obtain ⟨a, ha, rfl⟩ := hx
    obtain ⟨b, hb, rfl⟩ := h t (by simp)
    simp only [List.map_cons]
    unfold getV
    have ih := getV_seen hi ⟨a, ha, rfl⟩ (T := T) (fun t ht => h t (by simp [ht]))
    by_cases e : b.nm = a.nm
    · rw [if_pos (by rw [e])]
      exact ⟨fun _ => rfl, fun q => absurd (by rw [e]; simp) q⟩
    · rw [if_neg (fun q => e (hi b hb a ha (ptr_inj q)))]
      refine ⟨fun q => ih.1 ?_, fun q => ih.2 (fun q2 => q (List.mem_cons_of_mem _ q2))⟩
      rcases List.mem_cons.1 q with q | q
      · exact absurd q.symm e
      · exact q

section
variable {B : Nat} {w W : World} {f M : Nat} {bl rb : ByteArray → Nat} {sl : ByteArray → Value} {F : List En} {rk : ByteArray → Nat} {l sb yb vb m : Nat} {J Jx : List ByteArray → World → Prop}

theorem not_any (n : Nat) (T : List ByteArray) (r : ByteArray) (W' : World) (hv : W'.cell? ⟨vb, 0, none⟩ = some (.func (.func 62) #[] #[.pointer (some ⟨sb, 0, none⟩), .pointer (some ⟨yb, 0, none⟩), .pointer (some ⟨vb, 0, none⟩)]))
    (h : ∀ n, CallsIn Fence.wide n Tryz.prog 62 #[.pointer (some ⟨bl r, 0, none⟩), .pointer (some ⟨sb, 0, none⟩), .pointer (some ⟨yb, 0, none⟩), .pointer (some ⟨vb, 0, none⟩)] W' (VisP w F bl l sb yb vb m J Jx T r)) :
    CallsIn Fence.wide n Tryz.prog 64 #[.pointer (some ⟨bl r, 0, none⟩), .pointer (some ⟨vb, 0, none⟩)] W' fun e W2 => (e = .returned (.bool false) ∧ ∃ T', ItS w F bl l sb yb vb m J T' W2 ∧ Ext F T T' r) ∨ (e = .returned (.bool true) ∧ ∃ p y, Rch F r y ∧ Jx (p ++ [y]) W2) := by
  have eg : ∀ args w, (callFunc 62 args).run Tryz.prog w = .ok (.enter 62 args) w := enters_of Tryz.func62 (by kernel_rfl) rfl
  have H := Lib.hid h
  clear h
  obtain ⟨b, hb⟩ : ∃ b, bl r = b := ⟨_, rfl⟩
  rw [hb] at H ⊢
  refine callsIn_of_wp Tryz.func64 rfl trivial ?_ rfl
  simp only [Tryz.ntmps64, List.size_toArray, List.length_cons, List.length_nil, Nat.reduceAdd, Nat.reduceSub, Array.replicate_succ, Array.replicate_zero, List.push_toArray, List.append_toArray, List.nil_append, List.cons_append]
  gi_wp2
  refine ⟨trivial, fun h => absurd h (by simp [Fence.wide]), (H.out _).mono ?_⟩
  rintro e W2 (⟨rfl, h2⟩ | ⟨rfl, h2⟩)
  · have H2 := Lib.hid h2
    clear h2
    gi_wp2
    go_ret
    exact .inl ⟨rfl, H2.out⟩
  · have H2 := Lib.hid h2
    clear h2
    gi_wp2
    go_ret
    exact .inr ⟨rfl, H2.out⟩

set_option maxRecDepth 100000 in
set_option maxHeartbeats 4000000 in
theorem visit_any (h : Rep B w f M bl rb sl F) (hG : Good F) (hF : F.length ≤ 1000) (hK : Ranked F rk) (hm : W.heap.size ≤ m)
    (hJ : ∀ s A B C, J s A → Chg C A B → (∀ k, C k → W.heap.size ≤ k) → J s B) (hWw : w.heap.size ≤ W.heap.size)
    (hY : ∀ k pre x W1, isIn F x → J pre W1 → YieldAt Fence.wide k Tryz.prog l (encPt bl x) W1 fun e W' =>
      (e = .returned (.bool true) ∧ J (pre ++ [x]) W' ∧ Chg (fun _ => False) W1 W') ∨ (e = .returned (.bool false) ∧ Jx (pre ++ [x]) W')) :
    ∀ (K : Nat) (x : ByteArray) (e : En) (T : List ByteArray) (W' : World) (n : Nat), rk x < K → atF F x = some e → ItS w F bl l sb yb vb m J T W' →
      CallsIn Fence.wide n Tryz.prog 62 #[.pointer (some ⟨bl x, 0, none⟩), .pointer (some ⟨sb, 0, none⟩), .pointer (some ⟨yb, 0, none⟩), .pointer (some ⟨vb, 0, none⟩)] W' (VisP w F bl l sb yb vb m J Jx T x) := by
  intro K
  induction K with
  | zero => intro x e T W' n hk; omega
  | succ K ih =>
    intro x e T W' n hrk he hit
    obtain ⟨heF, hen⟩ := atF_some he
    have hin : isIn F x := ⟨e, heF, hen⟩
    have hR' := h.later hit.low
    have hgood : KeysGood goodP W' (T.map fun t => (ptr (bl t), .bool true)) := fun p hp => by
      obtain ⟨t, ht, rfl⟩ := List.mem_map.1 hp
      obtain ⟨a, ha, rfl⟩ := hit.sub t ht
      exact ⟨_, _, _, rfl, hR'.ent a ha⟩
    have hkey : goodP W' (.pointer (some ⟨bl x, 0, none⟩)) := ⟨_, _, _, rfl, by have := hR'.ent e heF; rw [hen] at this; exact this⟩
    have hlook := hit.map.lookup keyP Tryz.underlying56 hgood hkey (zeroB W') false
    have hg := getV_seen h.injB hin hit.sub
    unfold ptr at hg
    unfold ptr at hlook
    have hs := hit.seen
    by_cases hxT : x ∈ T
    · rw [hg.1 hxT] at hlook
      simp only [Option.getD_some, Bool.false_eq_true, if_false] at hlook
      have FIN := Lib.hid (show ∃ T', ItS w F bl l sb yb vb m J T' W' ∧ Ext F T T' x from ⟨T, hit, ⟨[], by simp, (fun y hy => by cases hy), (fun y hy => by cases hy)⟩, hxT⟩)
      clear hit hgood hkey hg hR' ih hY hJ h hG hK
      refine callsIn_of_wp Tryz.func62 rfl trivial ?_ rfl
      simp only [Tryz.ntmps62, List.size_toArray, List.length_cons, List.length_nil, Nat.reduceAdd, Nat.reduceSub, Array.replicate_succ, Array.replicate_zero, List.push_toArray, List.append_toArray, List.nil_append, List.cons_append]
      gi_wp2
      go_ret
      exact .inl ⟨rfl, FIN.out⟩
    · rw [hg.2 hxT] at hlook
      simp only [Option.getD_none, Bool.false_eq_true, if_false] at hlook
      have hmS : ∀ {b : Nat} {v : Value}, W'.cell? ⟨b, 0, none⟩ = some v → b ≠ m := fun hc e1 => by
        obtain ⟨es, c, q, _⟩ := hit.map
        rw [e1] at hc
        unfold World.cell? at hc
        rw [q] at hc; cases hc
      have HM := Lib.hid hit.map
      have HG := Lib.hid hgood
      have HK := Lib.hid hkey
      have hput : putV (.pointer (some ⟨bl x, 0, none⟩)) (.bool true) (T.map fun t => ((ptr (bl t), .bool true) : Value × Value)) = (T ++ [x]).map fun t => (ptr (bl t), .bool true) := by
        rw [putV_new (fun p hp e1 => ?_), List.map_append]; rfl
        obtain ⟨t, ht, rfl⟩ := List.mem_map.1 hp
        obtain ⟨a, ha, rfl⟩ := hit.sub t ht
        have := h.injB a ha e heF (by rw [hen]; exact ptr_inj e1)
        exact hxT (by rw [← hen, ← this]; exact ht)
      have UP := Lib.hid (show ∀ ob, RawMap (W'.putObj m ob) m (putV (.pointer (some ⟨bl x, 0, none⟩)) (.bool true) (T.map fun t => ((ptr (bl t), .bool true) : Value × Value))) →
          (W'.putObj m ob).cell? ⟨yb, 0, none⟩ = some (.func (.yield l) #[] #[]) ∧ J T (W'.putObj m ob) ∧ ∀ W2, Chg (fun _ => False) (W'.putObj m ob) W2 → J (T ++ [x]) W2 → ItS w F bl l sb yb vb m J (T ++ [x]) W2 from fun ob hob => by
        have hk : ∀ b, b ≠ m → (W'.putObj m ob).heap[b]? = W'.heap[b]? := fun b hb => World.putObj_heap_other hb
        have hc : ∀ {b : Nat} {v : Value}, W'.cell? ⟨b, 0, none⟩ = some v → (W'.putObj m ob).cell? ⟨b, 0, none⟩ = some v := fun {b v} hc => by
          rw [World.cell?_of_block (w := W') (hk b (hmS hc))]; exact hc
        refine ⟨hc hit.yld, hJ _ _ _ _ hit.j (Chg.put (C := fun k => k = m) _ _ _ rfl) (fun k hk => by subst hk; exact hm), fun W2 hc2 hj2 => ?_⟩
        have hc3 : ∀ {b : Nat} {v : Value}, W'.cell? ⟨b, 0, none⟩ = some v → W2.cell? ⟨b, 0, none⟩ = some v := fun hh => hc2.cell (hc hh) (fun q => q)
        rw [hput] at hob
        refine ⟨?_, hc3 hit.seen, hc3 hit.yld, hc3 hit.vis, hob.kept (hc2.block m hob.lt (fun q => q)), fun t ht => ?_, hj2⟩
        · exact (hit.low.trans ((Chg.put (C := fun k => k = m) W' m ob rfl).below hit.low.size (fun k hk => by subst hk; omega))).trans (hc2.below (by rw [World.putObj_size]; exact hit.low.size) (fun k q => q.elim))
        · rcases List.mem_append.1 ht with q | q
          · exact hit.sub t q
          · rw [List.mem_singleton.1 q]; exact hin)
      have HY := Lib.hid (fun ob (hj : J T (W'.putObj m ob)) => hY (n - 1) T x (W'.putObj m ob) hin hj)
      have RL := Lib.hid (show ∀ W2, ItS w F bl l sb yb vb m J (T ++ [x]) W2 → Cells W2 (bl x) e (sl x) (rb x) from fun W2 h2 => by
        have := cells_ent ((h.later h2.low).ent e heF); rwa [hen] at this)
      obtain ⟨ao, cap, hso, _, _⟩ := h.row e heF
      rw [List.length_map, hen] at hso
      have hrl : e.rds.length ≤ 1000 := Nat.le_trans (hG.rlen e heF) hF
      have CT := Lib.hid (show ∀ W2 k, ItS w F bl l sb yb vb m J (T ++ [x]) W2 → CallsIn Fence.wide k Tryz.prog 63 #[.slice ao e.rds.length cap, .func (.func 64) #[] #[.pointer (some ⟨vb, 0, none⟩)]] W2 fun e' W3 => (e' = .returned (.bool false) ∧ ∃ T', ItS w F bl l sb yb vb m J T' W3 ∧ Ext F T T' x) ∨ (e' = .returned (.bool true) ∧ ∃ p y, Rch F x y ∧ Jx (p ++ [y]) W3) from fun W2 k h2 => by
        refine (contains_any k ao e.rds.length cap (e.rds.map bl) vb (fun i W3 => ∃ T', ItS w F bl l sb yb vb m J T' W3 ∧ Some' F T T' x (e.rds.take i)) (fun W3 => ∃ p y, Rch F x y ∧ Jx (p ++ [y]) W3) W2 (by simp) hrl (fun i W3 ⟨T', h3, _⟩ => ?_) ⟨T ++ [x], h2, ⟨[], by simp, (fun y hy => by cases hy), (fun y hy => by cases hy)⟩, by simp⟩ (fun i p W3 k' hp ⟨T', h3, h4⟩ => ?_)).mono ?_
        · have := (h.later h3.low).row e heF
          rw [hen, hso] at this; exact this
        · rw [List.getElem?_map] at hp
          obtain ⟨r, hr, rfl⟩ := Option.map_eq_some_iff.1 hp
          have hil : i < e.rds.length := (List.getElem?_eq_some_iff.1 hr).1
          have hri : e.rds[i] = r := (List.getElem?_eq_some_iff.1 hr).2
          have hrm : r ∈ e.rds := by rw [← hri]; exact List.getElem_mem hil
          obtain ⟨d, hd, hdn⟩ := hG.closed e heF r hrm
          have hdr := hK e heF r hrm
          rw [hen] at hdr
          refine (not_any k' T' r W3 h3.vis (fun k2 => ih r d T' W3 k2 (by omega) (by rw [← hdn]; exact atF_mem h.srt hd) h3)).mono ?_
          rintro e' W4 (⟨rfl, T2, h5, h6⟩ | ⟨rfl, p, y, h5, h6⟩)
          · refine .inl ⟨rfl, T2, h5, ?_⟩
            rw [List.take_succ_eq_append_getElem hil, hri]
            exact h4.step he hrm h6
          · exact .inr ⟨rfl, p, y, .step he hrm h5, h6⟩
        · rintro e' W4 (⟨rfl, T2, h5, h6⟩ | ⟨rfl, h5⟩)
          · rw [List.take_length] at h6
            exact .inl ⟨rfl, T2, h5, h6.fin he⟩
          · exact .inr ⟨rfl, h5⟩)
      rw [hso] at RL
      obtain ⟨q, hq⟩ : ∃ q, e.rds.length = q := ⟨_, rfl⟩
      rw [hq] at CT RL hrl
      obtain ⟨bx, hbx⟩ : ∃ bx, bl x = bx := ⟨_, rfl⟩
      have ENC := Lib.hid (show encPt bl x = #[.pointer (some ⟨bx, 0, none⟩)] from by unfold encPt; rw [hbx])
      rw [hbx] at UP HK RL hlook ⊢
      clear hit hgood hkey hg hR' ih hY hJ h hG hK hput hmS hso hq hbx heF hen hin he
      refine callsIn_of_wp Tryz.func62 rfl trivial ?_ rfl
      simp only [Tryz.ntmps62, List.size_toArray, List.length_cons, List.length_nil, Nat.reduceAdd, Nat.reduceSub, Array.replicate_succ, Array.replicate_zero, List.push_toArray, List.append_toArray, List.nil_append, List.cons_append]
      gi_wp2_with (first
        | (refine wpListIn_mapUpdate_raw _ rfl (.tmp 9) (.tmp 10) (.const (.bool true)) 56 (by rfl) 53 4 Tryz.underlying56 keyP m _ (by rfl) HM.out HG.out (.pointer (some ⟨bx, 0, none⟩)) (.bool true) (by rfl) (by rfl) HK.out ?_; intro ob hob; obtain ⟨hyb, hj, hnx⟩ := UP.out ob hob; have HJ1 := Lib.hid hj; have NX := Lib.hid hnx; clear hob hj hnx; obtain ⟨fn, tmps, assign, body, hy, hR⟩ := HY.out ob HJ1.out; rw [ENC.out] at hy; have HRD := Lib.hid hR; clear hR)
        | gi_in)
      refine ⟨fun h => absurd h (by simp [Fence.wide]), HRD.out.mono ?_⟩
      rintro e3 W2 (⟨rfl, hj2, hc2⟩ | ⟨rfl, hx2⟩)
      · have h2 := NX.out W2 hc2 hj2
        obtain ⟨d0, d1, d2, d3, d4, d5, fz⟩ := RL.out W2 h2
        have CT2 := Lib.hid (fun k => CT.out W2 k h2)
        clear hj2 hc2 h2 d0 d1 d2 d3 d5 fz
        gi_wp2
        refine ⟨trivial, fun h => absurd h (by simp [Fence.wide]), (CT2.out _).mono ?_⟩
        rintro e4 W3 (⟨rfl, h3⟩ | ⟨rfl, h3⟩)
        · have H3 := Lib.hid h3
          clear h3
          gi_wp2
          go_ret
          exact .inl ⟨rfl, H3.out⟩
        · have H3 := Lib.hid h3
          clear h3
          gi_wp2
          go_ret
          exact .inr ⟨rfl, H3.out⟩
      · have H2 := Lib.hid hx2
        clear hx2
        gi_wp2
        go_ret
        exact .inr ⟨rfl, T, x, .refl _, H2.out⟩
end

end Go.Proofs.YtffifhbldcjelaaGreatDoor

/-! Flows: below, as an iterator. -/
namespace Go.Proofs.YtffifhbldcjelaaGreatDoor
set_option linter.unusedVariables false
set_option linter.unusedSimpArgs false
open Go.RowKit

attribute [local go_sem] Oper.semAt_some

section
variable {B : Nat} {w : World} {f M : Nat} {bl rb : ByteArray → Nat} {sl : ByteArray → Value} {F : List En}

theorem four_allocs (W : World) (a b c d : Obj) : ((((W.alloc a).alloc b).alloc c).alloc d).heap[W.heap.size]? = some a ∧ ((((W.alloc a).alloc b).alloc c).alloc d).heap[W.heap.size + 1]? = some b ∧ ((((W.alloc a).alloc b).alloc c).alloc d).heap[W.heap.size + 2]? = some c ∧ ((((W.alloc a).alloc b).alloc c).alloc d).heap[W.heap.size + 3]? = some d := by
  have s1 : (W.alloc a).heap.size = W.heap.size + 1 := by simp
  have s2 : ((W.alloc a).alloc b).heap.size = W.heap.size + 2 := by simp
  have s3 : (((W.alloc a).alloc b).alloc c).heap.size = W.heap.size + 3 := by simp
  refine ⟨?_, ?_, ?_, ?_⟩
  · rw [Below.heap_alloc _ d _ (by omega), Below.heap_alloc _ c _ (by omega), Below.heap_alloc _ b _ (by omega)]; exact World.alloc_heap_new W a
  · rw [Below.heap_alloc _ d _ (by omega), Below.heap_alloc _ c _ (by omega)]; have := World.alloc_heap_new (W.alloc a) b; rwa [s1] at this
  · rw [Below.heap_alloc _ d _ (by omega)]; have := World.alloc_heap_new ((W.alloc a).alloc b) c; rwa [s2] at this
  · have := World.alloc_heap_new (((W.alloc a).alloc b).alloc c) d; rwa [s3] at this

theorem below_any (b : Nat) (w : World) :
    Calls Tryz.prog 42 #[.pointer (some ⟨b, 0, none⟩)] w fun e w' => e = .returned (.func (.func 61) #[] #[.pointer (some ⟨w.heap.size, 0, none⟩)]) ∧ w' = w.alloc (.cells #[.pointer (some ⟨b, 0, none⟩)] 53) := by
  go_enter Tryz.func42, Tryz.ntmps42
  go_wp2
  go_ret
  exact ⟨rfl, rfl⟩

set_option maxRecDepth 100000 in
set_option maxHeartbeats 4000000 in
theorem below_seq (h : Rep B w f M bl rb sl F) (hG : Good F) (hF : F.length ≤ 1000) {r : ByteArray} {e : En} (he : atF F r = some e) (bx : Nat) (hbx : w.cell? ⟨bx, 0, none⟩ = some (.pointer (some ⟨bl r, 0, none⟩))) :
    SeqStop Tryz.prog 61 #[.pointer (some ⟨bx, 0, none⟩)] (encPt bl) (isIn F) (fun xs => ∀ y, Rch F r y → y ∈ xs) (fun pre => ∃ p y, pre = p ++ [y] ∧ Rch F r y) w := by
  intro n l J Jx W hW hJ hJx hY h0
  have hmm := @run_makeMap Tryz.prog
  have eg : ∀ args w, (callFunc 62 args).run Tryz.prog w = .ok (.enter 62 args) w := enters_of Tryz.func62 (by kernel_rfl) rfl
  obtain ⟨rk, hK⟩ := hG.ranked
  have hbc : W.cell? ⟨bx, 0, none⟩ = some (.pointer (some ⟨bl r, 0, none⟩)) := by rw [hW.cell (p := ⟨bx, 0, none⟩) (World.block_lt_of_cell? _ _ hbx)]; exact hbx
  obtain ⟨V0, hV0⟩ : ∃ V0 : World, V0 = (((W.alloc (.cells #[.func (.yield l) #[] #[]] 122)).alloc (.map #[] 0)).alloc (.cells #[.map (some (W.heap.size + 1))] 56)).alloc (.cells #[.nilFunc] 122) := ⟨_, rfl⟩
  have hV0s : V0.heap.size = W.heap.size + 4 := by rw [hV0]; simp
  obtain ⟨hb0, hb1, hb2, hb3⟩ := four_allocs W (.cells #[.func (.yield l) #[] #[]] 122) (.map #[] 0) (.cells #[.map (some (W.heap.size + 1))] 56) (.cells #[.nilFunc] 122)
  rw [← hV0] at hb0 hb1 hb2 hb3
  have hB0 : Below W.heap.size W V0 := by rw [hV0]; exact ((((Below.refl _ W).alloc (Nat.le_refl _) _).alloc (by simp) _).alloc (by simp; omega) _).alloc (by simp; omega) _
  obtain ⟨V, hV⟩ : ∃ V : World, V = V0.setCell ⟨W.heap.size + 1 + 1 + 1, 0, none⟩ (.func (.func 62) #[] #[.pointer (some ⟨W.heap.size + 1 + 1, 0, none⟩), .pointer (some ⟨W.heap.size, 0, none⟩), .pointer (some ⟨W.heap.size + 1 + 1 + 1, 0, none⟩)]) := ⟨_, rfl⟩
  have hst : (store ⟨W.heap.size + 1 + 1 + 1, 0, none⟩ (.func (.func 62) #[] #[.pointer (some ⟨W.heap.size + 1 + 1, 0, none⟩), .pointer (some ⟨W.heap.size, 0, none⟩), .pointer (some ⟨W.heap.size + 1 + 1 + 1, 0, none⟩)])).run Tryz.prog ((((W.alloc (.cells #[.func (.yield l) #[] #[]] 122)).alloc (.map #[] 0)).alloc (.cells #[.map (some (W.heap.size + 1))] 56)).alloc (.cells #[.nilFunc] 122)) = .ok () V := by
    rw [← hV0, run_store _ _ _ _ _ rfl, cell_blk (b := W.heap.size + 1 + 1 + 1) hb3 rfl, frz_blk (b := W.heap.size + 1 + 1 + 1) hb3, hV]; rfl
  have hVc : V.cell? ⟨W.heap.size + 1 + 1 + 1, 0, none⟩ = some (.func (.func 62) #[] #[.pointer (some ⟨W.heap.size + 1 + 1, 0, none⟩), .pointer (some ⟨W.heap.size, 0, none⟩), .pointer (some ⟨W.heap.size + 1 + 1 + 1, 0, none⟩)]) := by
    rw [hV]; exact cell_blk (heap_setC hb3 _) rfl
  have hVk : ∀ k, k ≠ W.heap.size + 3 → V.heap[k]? = V0.heap[k]? := fun k hk => by rw [hV]; exact Below.heap_setCell V0 ⟨W.heap.size + 1 + 1 + 1, 0, none⟩ _ k hk
  have hVB : Below W.heap.size W V := by rw [hV]; exact hB0.setCell (p := ⟨W.heap.size + 1 + 1 + 1, 0, none⟩) (by simp; omega) _
  have hVx : V.cell? ⟨bx, 0, none⟩ = some (.pointer (some ⟨bl r, 0, none⟩)) := by rw [hVB.cell (p := ⟨bx, 0, none⟩) (World.block_lt_of_cell? _ _ hbc)]; exact hbc
  have hJV : J [] V := hJ _ _ _ (fun k => W.heap.size ≤ k) h0 (Chg.of_below hVB (fun k hk _ => hk)) (fun k hk => hk)
  have hIT : ItS w F bl l (W.heap.size + 1 + 1) W.heap.size (W.heap.size + 1 + 1 + 1) (W.heap.size + 1) J [] V := by
    refine ⟨hW.trans (hVB.mono hW.size), cell_blk (by rw [hVk _ (by omega)]; exact hb2) rfl, cell_blk (by rw [hVk _ (by omega)]; exact hb0) rfl, hVc, ⟨#[], 0, by rw [hVk _ (by omega)]; exact hb1, rfl, by simp, by simp⟩, (fun t ht => by cases ht), hJV⟩
  have VI := Lib.hid (fun m => visit_any (Jx := Jx) h hG hF hK (show W.heap.size ≤ W.heap.size + 1 by omega) hJ hW.size hY _ r e [] V m (Nat.lt_succ_self _) he hIT)
  clear hV0 hV hW h hG hJ hJx hY h0 hb0 hb1 hb2 hb3 hB0 hV0s hVk hVB hJV hIT
  refine callsIn_of_wp Tryz.func61 rfl trivial ?_ rfl
  simp only [Tryz.ntmps61, List.size_toArray, List.length_cons, List.length_nil, Nat.reduceAdd, Nat.reduceSub, Array.replicate_succ, Array.replicate_zero, List.push_toArray, List.append_toArray, List.nil_append, List.cons_append]
  gi_wp2
  refine ⟨trivial, fun h => absurd h (by simp [Fence.wide]), (VI.out _).mono ?_⟩
  rintro e4 W3 (⟨rfl, T', h3, h4⟩ | ⟨rfl, p, y, h3, h4⟩)
  · have FIN := Lib.hid (show (∃ xs, (∀ (y : ByteArray), Rch F r y → y ∈ xs) ∧ J xs W3) from ⟨T', fun y hy => h4.all hy, h3.j⟩)
    clear h3 h4
    gi_wp2
    go_end0
    exact ⟨⟨_, rfl⟩, .inl FIN.out⟩
  · have FIN := Lib.hid (show (∃ pre, (∃ p y, pre = p ++ [y] ∧ Rch F r y) ∧ Jx pre W3) from ⟨_, ⟨p, y, rfl, h3⟩, h4⟩)
    clear h3 h4
    gi_wp2
    go_end0
    exact ⟨⟨_, rfl⟩, .inr FIN.out⟩
end

end Go.Proofs.YtffifhbldcjelaaGreatDoor

/-! Compact of a sorted list of names: ascending, each once. -/
namespace Go.Proofs.YtffifhbldcjelaaGreatDoor
set_option linter.unusedVariables false
open Go.Lib Go.Sort

theorem bytes_lt_of {a b : List UInt8} (h : a ≤ b) (hne : a ≠ b) : a < b := by
  rcases Decidable.em (a < b) with h1 | h1
  · exact h1
  · exact absurd (List.le_antisymm h (List.not_lt.1 h1)) hne

/-- of the first m of a sorted list: what is kept -/
theorem compactUpTo_asc {d : Array (List UInt8)} (hs : d.toList.Pairwise (· ≤ ·)) : ∀ m, m ≤ d.size → (compactUpTo d m).Pairwise (· < ·) ∧ (∀ x, x ∈ compactUpTo d m ↔ ∃ i, i < m ∧ d[i]! = x)
  | 0, _ => ⟨by simp [compactUpTo], fun x => by simp [compactUpTo]⟩
  | m + 1, hm => by
    obtain ⟨h1, h2⟩ := compactUpTo_asc hs m (by omega)
    have hle : ∀ i j, i < j → j < d.size → d[i]! ≤ d[j]! := fun i j hij hj => by
      have := List.pairwise_iff_getElem.1 hs i j (by simp; omega) (by simpa using hj) hij
      rw [getElem!_pos d i (by omega), getElem!_pos d j hj]
      simpa using this
    rw [compactUpTo_succ]
    by_cases hk : keeps d m = true
    · rw [if_pos hk]
      refine ⟨List.pairwise_append.2 ⟨h1, by simp, fun a ha b hb => ?_⟩, fun x => ?_⟩
      · rw [List.mem_singleton] at hb
        subst hb
        obtain ⟨i, hi, rfl⟩ := (h2 a).1 ha
        unfold keeps at hk
        rw [decide_eq_true_eq] at hk
        rcases hk with hk | hk
        · omega
        · have h3 := bytes_lt_of (hle (m - 1) m (by omega) (by omega)) (fun e => hk e.symm)
          rcases Nat.lt_or_ge i (m - 1) with q | q
          · exact List.lt_of_le_of_lt (hle i (m - 1) q (by omega)) h3
          · have : i = m - 1 := by omega
            rw [this]; exact h3
      · rw [List.mem_append, h2, List.mem_singleton]
        constructor
        · rintro (⟨i, hi, e⟩ | e)
          · exact ⟨i, by omega, e⟩
          · exact ⟨m, by omega, e.symm⟩
        · rintro ⟨i, hi, e⟩
          rcases Nat.lt_or_ge i m with q | q
          · exact .inl ⟨i, q, e⟩
          · have : i = m := by omega
            subst this; exact .inr e.symm
    · rw [if_neg hk, List.append_nil]
      refine ⟨h1, fun x => ?_⟩
      rw [h2]
      constructor
      · rintro ⟨i, hi, e⟩; exact ⟨i, by omega, e⟩
      · rintro ⟨i, hi, e⟩
        rcases Nat.lt_or_ge i m with q | q
        · exact ⟨i, q, e⟩
        · have : i = m := by omega
          subst this
          unfold keeps at hk
          rw [decide_eq_true_eq] at hk
          have hi0 : ¬ i = 0 := fun e => hk (.inl e)
          have he : d[i]! = d[i - 1]! := Classical.byContradiction fun e => hk (.inr e)
          exact ⟨i - 1, by omega, by rw [← he]; exact e⟩

def unB (l : List UInt8) : ByteArray := ⟨l.toArray⟩
theorem unB_data (s : ByteArray) : unB s.data.toList = s := by cases s; simp [unB]
theorem data_unB (l : List UInt8) : (unB l).data.toList = l := by simp [unB]
theorem ltB_data (a b : ByteArray) : ltB a b ↔ a.data.toList < b.data.toList := by unfold ltB; rw [Go.ByteArray.toList_eq, Go.ByteArray.toList_eq]

def rows (xs : List ByteArray) : List (List UInt8) := xs.map (·.data.toList)
def sortedL (xs : List ByteArray) : List (List UInt8) := (rows xs).mergeSort fun x y => decide (x ≤ y)

theorem sortedL_len (xs : List ByteArray) : (sortedL xs).length = xs.length := by unfold sortedL rows; rw [List.length_mergeSort, List.length_map]
theorem sortedL_mem (xs : List ByteArray) (x : List UInt8) : x ∈ sortedL xs ↔ x ∈ rows xs := by unfold sortedL; rw [List.mem_mergeSort]
theorem sortedL_asc (xs : List ByteArray) : (sortedL xs).Pairwise (· ≤ ·) := by
  have := List.pairwise_mergeSort (le := fun x y : List UInt8 => decide (x ≤ y)) (fun a b c h1 h2 => by
    rw [decide_eq_true_eq] at *; exact List.le_trans h1 h2) (fun a b => by
    rw [Bool.or_eq_true, decide_eq_true_eq, decide_eq_true_eq]; exact List.le_total a b) (rows xs)
  exact this.imp (fun h => by simpa using h)

/-- slices.Compact(slices.Sorted(..)) -/
theorem compact_sortU (xs : List ByteArray) : (compact (sortedL xs)).map unB = sortU xs := by
  obtain ⟨h1, h2⟩ := compactUpTo_asc (d := (sortedL xs).toArray) (by simpa using sortedL_asc xs) (sortedL xs).length (by simp)
  refine asc_ext (List.pairwise_map.2 (h1.imp (fun {a b} h => by rw [ltB_data, data_unB, data_unB]; exact h))) (sortU_sorted xs) (fun z => ?_)
  rw [mem_sortU, List.mem_map]
  have hmem : ∀ y, y ∈ compact (sortedL xs) ↔ y ∈ sortedL xs := fun y => by
    unfold compact
    rw [h2, List.mem_iff_getElem]
    constructor
    · rintro ⟨i, hi, e⟩
      exact ⟨i, hi, by rw [getElem!_pos _ i (by simpa using hi)] at e; simpa using e⟩
    · rintro ⟨i, hi, e⟩
      exact ⟨i, hi, by rw [getElem!_pos _ i (by simpa using hi)]; simpa using e⟩
  constructor
  · rintro ⟨y, hy, rfl⟩
    rw [hmem, sortedL_mem] at hy
    obtain ⟨x, hx, rfl⟩ := List.mem_map.1 hy
    rw [unB_data]; exact hx
  · intro hz
    exact ⟨z.data.toList, by rw [hmem, sortedL_mem]; exact List.mem_map.2 ⟨z, hz, rfl⟩, unB_data z⟩

theorem flat_encT (l : List ByteArray) : l.flatMap encT = l.map Value.string := by
  induction l with
  | nil => rfl
  | cons a r ih => rw [List.flatMap_cons, ih]; rfl

theorem rows_enc (xs : List ByteArray) : xs.flatMap encT = (rows xs).map encStr := by rw [flat_encT]; exact Go.Joins.strings_enc xs
theorem enc_rows (ys : List (List UInt8)) : ys.map encStr = (ys.map unB).flatMap encT := by
  have e : rows (ys.map unB) = ys := by
    unfold rows; rw [List.map_map]
    conv => rhs; rw [← List.map_id ys]
    exact List.map_congr_left fun y _ => data_unB y
  rw [rows_enc, e]

end Go.Proofs.YtffifhbldcjelaaGreatDoor
