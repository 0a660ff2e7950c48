/-
  divide: the parts of an amount, added to a map.
-/
import Derived.Test.YtbkmcncakpmgkaaDivT
namespace Go.Proofs.Ytbkmcncakpmgkaa
set_option linter.unusedVariables false
open Go.ChangeShapes Go.WideShapes Go.ChangeAt Go.RowKit Go.Shelf Go.Maps Go.Sort

attribute [local go_sem] Oper.semAt_some

def WM (w : World) (mo : Option Nat) (c : Nat) (ws : List (Int × Int)) : Prop :=
  match mo with
  | some b => OwnsM w b c ws
  | none => ws = []
theorem WM.later {w w' : World} {mo : Option Nat} {c : Nat} {ws : List (Int × Int)} (h : WM w mo c ws) (hb : Below w.heap.size w w') : WM w' mo c ws := by
  cases mo with
  | none => exact h
  | some b => exact OwnsM.later h hb
theorem WM.lt {w : World} {b : Nat} {c : Nat} {ws : List (Int × Int)} (h : WM w (some b) c ws) : b < w.heap.size := OwnsM.lt h
theorem WM.seq {w : World} {mo : Option Nat} {c : Nat} {ws : List (Int × Int)} (h : WM w mo c ws) (hl : ws.length ≤ 1000000) (n B : Nat) (hB : w.cell? ⟨B, 0, none⟩ = some (.map mo)) :
    SeqAll n Try.prog 53 #[.pointer (some ⟨B, 0, none⟩)] encP (fun k => mo = some k ∨ k = B) ws w := by
  cases mo with
  | none => obtain rfl : ws = [] := h; exact asc_nil n B _ w hB
  | some b =>
    have := asc_all n B b c ws w hl hB h
    simpa [eq_comm] using this

def DivP (w : World) (b c : Nat) (l : List (Int × Int)) (bb : Bool) (e : Ending) (w' : World) : Prop := e = .returned (.bool bb) ∧ OwnsM w' b c l ∧ Chg (fun k => k = b) w w'

theorem getL_bd {B : Int} {l : List (Int × Int)} (h : AmtLe B l) (hB : 0 ≤ B) (r : Int) : 0 ≤ getL l r ∧ getL l r ≤ B := by
  induction l with
  | nil => exact ⟨Int.le_refl _, hB⟩
  | cons p t ih =>
    unfold getL
    split
    · exact h p (by simp)
    · exact ih (fun s hs => h s (by simp [hs]))

theorem div_get (t : Int) (l : List (Int × Int)) (k : Nat) (h : k < (divL t l).length) (h1 : k < l.length) (h2 : k < (apV t (amts l)).length) : (divL t l)[k] = (l[k].1, (apV t (amts l)).getD k 0) := by
  have e : (divL t l)[k]? = some (l[k].1, (apV t (amts l)).getD k 0) := by
    unfold divL; rw [List.getElem?_zipWith]; simp [h1, h2]
  rw [List.getElem?_eq_getElem h] at e
  exact Option.some.inj e

theorem one_at {W : World} {g : Nat} {v : Value} (h : W.cell? ⟨g, 0, none⟩ = some v) : ∀ j u, [v][j]? = some u → W.cell? ((⟨g, 0, none⟩ : Addr).add j) = some u := by
  intro j u hu
  cases j with
  | zero => simp at hu; subst hu; simpa [Addr.add] using h
  | succ j => simp at hu

theorem ready_nil {md : Region.Mode} {ops : Array Oper} {listed : Array Bool} (h : Region.ready md ops listed = []) (i : Nat) (hi : i < ops.size) (hl : listed[i]? = some false) : ((ops[i]?).map (·.after.all fun e => !Region.binds md e || listed.getD e.on false)).getD false = false := by
  cases hc : ((ops[i]?).map (·.after.all fun e => !Region.binds md e || listed.getD e.on false)).getD false with
  | false => rfl
  | true =>
    have : i ∈ Region.ready md ops listed := by
      unfold Region.ready
      rw [List.mem_filter, List.mem_range, Bool.and_eq_true]
      exact ⟨hi, by rw [Array.getD_eq_getD_getElem?, hl]; rfl, hc⟩
    rw [h] at this; cases this

set_option maxRecDepth 100000 in
set_option maxHeartbeats 4000000 in
theorem adivide_any (t : Int) (mo : Option Nat) (b c cw : Nat) (out ws : List (Int × Int)) (w : World) (hm : WM w mo cw ws) (hne : mo ≠ some b) (hb : OwnsM w b c out) (hws : ws.length ≤ 1000) (hc : c ≤ 1000000) (Bd : Int) (hBd : 0 ≤ Bd) (ho : AmtLe Bd out) (hsum : Bd + 1000000000000000 * ws.length ≤ 9223372036854775807) (h64 : I64s (amts ws)) :
    Calls Try.prog 28 #[.map (some b), .int .i64 t, .map mo] w (DivP w b (c + ws.length) (addAll out (divL t ws)) (apB t (amts ws))) := by
  have HM := Lib.hid hm
  have HB := Lib.hid hb
  have HNE := Lib.hid hne
  have HO := Lib.hid ho
  have H64 := Lib.hid h64
  have hbl := hb.lt
  have HML := Lib.hid (show ∀ k, mo = some k → k < w.heap.size from fun k e => by subst e; exact WM.lt hm)
  clear hm hb hne ho h64
  obtain ⟨i0, hi, hz0, hz1, hz2⟩ := info_parts Try.info3
  suffices H : ∀ n, CallsIn Fence.wide n Try.prog 28 #[.map (some b), .int .i64 t, .map mo] w (DivP w b (c + ws.length) (addAll out (divL t ws)) (apB t (amts ws))) from (callsIn_wide (n := 5)).1 (H 5)
  intro n
  refine callsIn_of_wp_marks Try.func28 rfl trivial ?_ rfl
  simp only [Try.ntmps28, List.size_toArray, List.length_cons, List.length_nil, Nat.reduceAdd, Nat.reduceSub, Array.replicate_succ, Array.replicate_zero, List.push_toArray, List.append_toArray, List.nil_append, List.cons_append]
  gi_wp2
  refine wide_call (ascending_any _ _) ?_
  rintro e w' ⟨rfl, rfl⟩
  gi_wp2
  obtain ⟨W2, hW2⟩ : ∃ W2, ((w.alloc (.cells #[.slice none 0 0] 34)).alloc (.cells #[.slice none 0 0] 34)).alloc (.cells #[.map mo] 57) = W2 := ⟨_, rfl⟩
  have hs2 : W2.heap.size = w.heap.size + 3 := by rw [← hW2]; simp
  have B2 := Lib.hid (show Below w.heap.size w W2 by rw [← hW2]; exact (((Below.refl _ w).alloc (Nat.le_refl _) _).alloc (by simp) _).alloc (by simp; omega) _)
  have BX := Lib.hid (show Boxed W2 w.heap.size 34 (.slice none 0 0) by rw [← hW2]; exact ((Boxed.new w _ _).alloc _).alloc _)
  have BY := Lib.hid (show Boxed W2 (w.heap.size + 1) 34 (.slice none 0 0) by rw [← hW2]; have := (Boxed.new (w.alloc (.cells #[.slice none 0 0] 34)) 34 (.slice none 0 0)).alloc (.cells #[.map mo] 57); simpa using this)
  have BM := Lib.hid (show W2.cell? ⟨w.heap.size + 1 + 1, 0, none⟩ = some (.map mo) by rw [← hW2]; exact cell_box _ _ _ 0 _ rfl _ (by simp))
  rw [hW2]
  have HS2 := Lib.hid hs2
  clear hW2 hs2
  refine wpIn_range_all (gf := 53) (lb := #[.pointer (some ⟨w.heap.size + 1 + 1, 0, none⟩)]) rfl (enters_of Try.func53 (by kernel_rfl) rfl)
    ((HM.out.later B2.out).seq (by omega) _ (w.heap.size + 1 + 1) BM.out) (fun _ => rfl)
    (fun pre O W => ∃ v1 v2, TwoR w W w.heap.size (w.heap.size + 1) v1 v2 (pre.map (·.1)) (pre.map (·.2)) O) (fun k => k = w.heap.size ∨ k = w.heap.size + 1 ∨ (Value.slice none 0 0).ownBlock = some k ∨ (Value.slice none 0 0).ownBlock = some k) ?hO0 ?hI ?h0
    (fun pre x a' O W => a' = { tmps := #[.map (some b), .int .i64 t, .map mo, undef, undef, undef, .bool false, .pointer (some ⟨w.heap.size, 0, none⟩), .pointer (some ⟨w.heap.size + 1, 0, none⟩), .int .i64 x.1, .int .i64 x.2, undef, undef, undef, undef, .map mo, .func (.func 53) #[] #[.pointer (some ⟨w.heap.size + 1 + 1, 0, none⟩)], .int .i64 x.1, .int .i64 x.2, undef, undef, undef, undef, undef, undef, undef, undef, undef, undef, undef, undef, undef, undef, undef, undef, undef, undef, undef, undef, undef, undef, undef, undef, undef, undef, undef, undef, undef, undef, undef], defers := [] } ∧
      ∃ v1 v2, TwoR w W w.heap.size (w.heap.size + 1) v1 v2 (pre.map (·.1)) (pre.map (·.2)) O) ?hM ?assign ?body ?done
  case hO0 =>
    intro k hk
    rcases hk with rfl | rfl | hk | hk
    · exact ⟨by have := HS2.out; omega, fun h => by rcases h with h | h; have := HML.out _ h; omega; omega⟩
    · exact ⟨by have := HS2.out; omega, fun h => by rcases h with h | h; have := HML.out _ h; omega; omega⟩
    · simp [Value.ownBlock] at hk
    · simp [Value.ownBlock] at hk
  case hI => rintro s O A A' C ⟨v1, v2, h⟩ hc hC; exact ⟨v1, v2, h.chg hc (fun k hk => ⟨by have := (hC k hk).1; have := HS2.out; omega, (hC k hk).2⟩)⟩
  case h0 => exact ⟨_, _, fun k => Iff.rfl, BX.out, BY.out, World.ownsRow_nil _ _ _ _, World.ownsRow_nil _ _ _ _, fun g hg => by simp [Value.ownBlock] at hg, by omega, B2.out, Nat.le_refl _, by omega⟩
  case hM => rintro s x a' O A A' C ⟨e, v1, v2, h⟩ hc hC; exact ⟨e, v1, v2, h.chg hc (fun k hk => ⟨by have := (hC k hk).1; have := HS2.out; omega, (hC k hk).2⟩)⟩
  case assign =>
    intro l' pre x rest O W K hx hi hK
    dsimp only [encP]
    gi_wp2
    exact hK _ O W ⟨rfl, hi⟩ (Chg.refl _ _) (fun k h => .inl h)
  case body =>
    rintro l' pre ⟨r, y⟩ rest a' O V hx ⟨rfl, v1, v2, htwo⟩
    have HT := Lib.hid htwo
    have hpl : pre.length ≤ 1000 := by
      have h2 : pre.length ≤ ws.length := by rw [hx]; simp
      omega
    clear htwo hx
    gi_wp2
    refine wpIn_region_any (by kernel_rfl) ?_
    refine wpAnyIn_inv (fun listed a W => ∃ b0 b1 b2 b3 b4 b5 b6 b7 b8 b9, listed = #[b0, b1, b2, b3, b4, b5, b6, b7, b8, b9] ∧ ∃ u1 u2 g2 g6, TV a w.heap.size (w.heap.size + 1) r y v1 v2 u1 u2 g2 g6 b0 b1 b2 b3 b4 b5 b6 b7 ∧ WV w.heap.size V W w.heap.size (w.heap.size + 1) r y v1 v2 u1 u2 (pre.map (·.1)) (pre.map (·.2)) O g2 g6 b2 b3 b6 b7 b8 b9 ∧
      ((b3 = true → b0 = true ∧ b2 = true) ∧ (b7 = true → b3 = true ∧ b4 = true ∧ b6 = true) ∧ (b8 = true → b7 = true) ∧ (b9 = true → b8 = true))) ?step ?fin _ _ _ _ (by decide) ?start
    case start => exact ⟨_, _, _, _, _, _, _, _, _, _, rfl, v1, v2, 0, 0, ⟨rfl, rfl, rfl, rfl, rfl, (fun h => by cases h), (fun h => by cases h), (fun h => by cases h), (fun h => by cases h), (fun h => by cases h), (fun h => by cases h), (fun h => by cases h), (fun h => by cases h)⟩, WV.start HT.out 0 0, (fun h => by cases h), (fun h => by cases h), (fun h => by cases h), (fun h => by cases h)⟩
    case fin =>
      rintro listed a W ⟨b0, b1, b2, b3, b4, b5, b6, b7, b8, b9, rfl, u1, u2, g2, g6, tv, wv, o3, o7, o8, o9⟩ hn
      have a0 : b0 = true := by cases b0; (have q := ready_nil hn 0 (by decide) rfl; simp [Region.binds] at q); rfl
      subst a0
      have a1 : b1 = true := by cases b1; (have q := ready_nil hn 1 (by decide) rfl; simp [Region.binds] at q); rfl
      subst a1
      have a2 : b2 = true := by cases b2; (have q := ready_nil hn 2 (by decide) rfl; simp [Region.binds] at q); rfl
      subst a2
      have a3 : b3 = true := by cases b3; (have q := ready_nil hn 3 (by decide) rfl; simp [Region.binds] at q); rfl
      subst a3
      have a4 : b4 = true := by cases b4; (have q := ready_nil hn 4 (by decide) rfl; simp [Region.binds] at q); rfl
      subst a4
      have a5 : b5 = true := by cases b5; (have q := ready_nil hn 5 (by decide) rfl; simp [Region.binds] at q); rfl
      subst a5
      have a6 : b6 = true := by cases b6; (have q := ready_nil hn 6 (by decide) rfl; simp [Region.binds] at q); rfl
      subst a6
      have a7 : b7 = true := by cases b7; (have q := ready_nil hn 7 (by decide) rfl; simp [Region.binds] at q); rfl
      subst a7
      have a8 : b8 = true := by cases b8; (have q := ready_nil hn 8 (by decide) rfl; simp [Region.binds] at q); rfl
      subst a8
      have a9 : b9 = true := by cases b9; (have q := ready_nil hn 9 (by decide) rfl; simp [Region.binds] at q); rfl
      subst a9
      obtain ⟨O', ⟨q1, q2, h1⟩, h2, h3⟩ := wv.fin HT.out
      exact ⟨O', ⟨q1, q2, by simpa using h1⟩, h2, h3⟩
    case step =>
      rintro listed a W i ⟨b0, b1, b2, b3, b4, b5, b6, b7, b8, b9, rfl, u1, u2, g2, g6, tv, wv, o3, o7, o8, o9⟩ hi
      obtain ⟨hlt, hf, hdep⟩ := ready_mem hi
      have hlt' : i < 10 := hlt
      have hcs : i = 0 ∨ i = 1 ∨ i = 2 ∨ i = 3 ∨ i = 4 ∨ i = 5 ∨ i = 6 ∨ i = 7 ∨ i = 8 ∨ i = 9 := by omega
      clear hlt hlt' hi
      rcases hcs with rfl | rfl | rfl | rfl | rfl | rfl | rfl | rfl | rfl | rfl
      · have hb0 : b0 = false := by simpa using hf
        have hb3 : b3 = false := by cases b3; rfl; have := (o3 rfl).1; rw [hb0] at this; cases this
        have hb8 : b8 = false := by cases b8; rfl; have := (o7 (o8 rfl)).1; rw [hb3] at this; cases this
        have x1 := wv.x1
        rw [hb8, if_neg (by simp)] at x1
        refine stepR (v := v1) (w' := W) rfl rfl (by intro c h; cases h) ?_ ⟨true, b1, b2, b3, b4, b5, b6, b7, b8, b9, rfl, u1, u2, g2, g6, tv.p0, wv, fun h => ⟨rfl, (o3 h).2⟩, o7, o8, o9⟩
        have hc := x1.cell
        have ht := tv.t7
        generalize a.eval = ev at ht ⊢
        simp [execOp, ht, go_sem, hc]
      · refine stepR (v := .int .i64 r) (w' := W) rfl rfl (by intro c h; cases h) ?_ ⟨b0, true, b2, b3, b4, b5, b6, b7, b8, b9, rfl, u1, u2, g2, g6, tv.p1, wv, o3, o7, o8, o9⟩
        have ht := tv.t9
        generalize a.eval = ev at ht ⊢
        simp [execOp, ht, go_sem]
      · have hb1 : b1 = true := by simpa [Region.binds] using hdep
        refine stepR (v := .slice (some ⟨W.heap.size, 0, none⟩) 1 1) (w' := W.alloc (.cells #[.int .i64 r] 3)) rfl rfl (by intro c h; cases h) ?_ ⟨b0, b1, true, b3, b4, b5, b6, b7, b8, b9, rfl, u1, u2, W.heap.size, g6, tv.p2 _, wv.s2 _, fun h => ⟨(o3 h).1, rfl⟩, o7, o8, o9⟩
        have ht := tv.f1 hb1
        generalize a.eval = ev at ht ⊢
        simp [execOp, ht, go_sem]
      · have hbd : b0 = true ∧ b2 = true := by simpa [Region.binds] using hdep
        have hb3 : b3 = false := by simpa using hf
        obtain ⟨rfl, rfl⟩ := hbd
        subst hb3
        have hb7 : b7 = false := by cases b7; rfl; have := (o7 rfl).1; cases this
        subst hb7
        have hb8 : b8 = false := by cases b8; rfl; have := o8 rfl; cases this
        subst hb8
        have hb9 : b9 = false := by cases b9; rfl; have := o9 rfl; cases this
        subst hb9
        have r1 := wv.r1
        rw [wv.n3 rfl, if_neg (by simp)] at r1
        obtain ⟨cg, cc⟩ := wv.c2 rfl rfl
        obtain ⟨u', W', hrun, hown', hg, _, hloc⟩ := run_append_own_at (P := Try.prog) W w.heap.size 34 34 3 i0 (.int .i64 0) 1 8 Try.underlying34 hi hz0 hz1 hz2 rfl (by decide) v1 _ _ r1 ⟨g2, 0, none⟩ 1 1 [.int .i64 r] rfl (one_at cc) (by simp [Value.oneCell']) (by simp; unfold maxLen; omega) (by simp; omega) (Nat.le_trans HT.out.bel.size wv.chg.size)
        refine stepR (v := u') (w' := W') rfl rfl (by intro c h; cases h) ?_ ⟨true, b1, true, true, b4, b5, b6, false, false, false, rfl, u', u2, g2, g6, tv.p3 u', wv.s3 HT.out hown' hg hloc, fun _ => ⟨rfl, rfl⟩, (fun h => by cases h), (fun h => by cases h), (fun h => by cases h)⟩
        have h0 := tv.f0 rfl
        have h2 := tv.f2 rfl
        generalize a.eval = ev at h0 h2 ⊢
        simp [execOp, resolve, invoke, builtin, h0, h2, hrun, Result.andThen]
      · have hb4 : b4 = false := by simpa using hf
        have hb7 : b7 = false := by cases b7; rfl; have := (o7 rfl).2.1; rw [hb4] at this; cases this
        have hb8 : b8 = false := by cases b8; rfl; have := o8 rfl; rw [hb7] at this; cases this
        have hb9 : b9 = false := by cases b9; rfl; have := o9 rfl; rw [hb8] at this; cases this
        have x2 := wv.x2
        rw [hb9, if_neg (by simp)] at x2
        refine stepR (v := v2) (w' := W) rfl rfl (by intro c h; cases h) ?_ ⟨b0, b1, b2, b3, true, b5, b6, b7, b8, b9, rfl, u1, u2, g2, g6, tv.p4, wv, o3, fun h => ⟨(o7 h).1, rfl, (o7 h).2.2⟩, o8, o9⟩
        have hc := x2.cell
        have ht := tv.t8
        generalize a.eval = ev at ht ⊢
        simp [execOp, ht, go_sem, hc]
      · refine stepR (v := .int .i64 y) (w' := W) rfl rfl (by intro c h; cases h) ?_ ⟨b0, b1, b2, b3, b4, true, b6, b7, b8, b9, rfl, u1, u2, g2, g6, tv.p5, wv, o3, o7, o8, o9⟩
        have ht := tv.t10
        generalize a.eval = ev at ht ⊢
        simp [execOp, ht, go_sem]
      · have hb5 : b5 = true := by simpa [Region.binds] using hdep
        refine stepR (v := .slice (some ⟨W.heap.size, 0, none⟩) 1 1) (w' := W.alloc (.cells #[.int .i64 y] 3)) rfl rfl (by intro c h; cases h) ?_ ⟨b0, b1, b2, b3, b4, b5, true, b7, b8, b9, rfl, u1, u2, g2, W.heap.size, tv.p6 _, wv.s6 _, o3, fun h => ⟨(o7 h).1, (o7 h).2.1, rfl⟩, o8, o9⟩
        have ht := tv.f5 hb5
        generalize a.eval = ev at ht ⊢
        simp [execOp, ht, go_sem]
      · have hbd : b4 = true ∧ b6 = true ∧ b3 = true := by simpa [Region.binds] using hdep
        have hb7 : b7 = false := by simpa using hf
        obtain ⟨rfl, rfl, rfl⟩ := hbd
        subst hb7
        have hb8 : b8 = false := by cases b8; rfl; have := o8 rfl; cases this
        subst hb8
        have hb9 : b9 = false := by cases b9; rfl; have := o9 rfl; cases this
        subst hb9
        have r2 := wv.r2
        rw [wv.n7 rfl, if_neg (by simp)] at r2
        obtain ⟨cg, cc⟩ := wv.c6 rfl rfl
        obtain ⟨u', W', hrun, hown', hg, _, hloc⟩ := run_append_own_at (P := Try.prog) W w.heap.size 34 34 3 i0 (.int .i64 0) 1 8 Try.underlying34 hi hz0 hz1 hz2 rfl (by decide) v2 _ _ r2 ⟨g6, 0, none⟩ 1 1 [.int .i64 y] rfl (one_at cc) (by simp [Value.oneCell']) (by simp; unfold maxLen; omega) (by simp; omega) (Nat.le_trans HT.out.bel.size wv.chg.size)
        refine stepR (v := u') (w' := W') rfl rfl (by intro c h; cases h) ?_ ⟨b0, b1, b2, true, true, b5, true, true, false, false, rfl, u1, u', g2, g6, tv.p7 u', wv.s7 HT.out hown' hg hloc, o3, fun _ => ⟨rfl, rfl, rfl⟩, fun _ => rfl, (fun h => by cases h)⟩
        have h0 := tv.f4 rfl
        have h2 := tv.f6 rfl
        generalize a.eval = ev at h0 h2 ⊢
        simp [execOp, resolve, invoke, builtin, h0, h2, hrun, Result.andThen]
      · have hb8 : b8 = false := by simpa using hf
        subst hb8
        have hb7 : b7 = true := by cases b7; simp [Region.binds] at hdep; rfl
        subst hb7
        obtain ⟨rfl, rfl, rfl⟩ := o7 rfl
        have hb9 : b9 = false := by cases b9; rfl; have := o9 rfl; cases this
        subst hb9
        have x1 := wv.x1
        rw [if_neg (by simp)] at x1
        refine stepS (w' := W.setCell ⟨w.heap.size, 0, none⟩ u1) rfl rfl (by intro c h; cases h) ?_ ⟨b0, b1, b2, true, true, b5, true, true, true, false, rfl, u1, u2, g2, g6, tv, wv.s8 HT.out, o3, fun _ => ⟨rfl, rfl, rfl⟩, fun _ => rfl, (fun h => by cases h)⟩
        have hc := x1.cell
        have hfz := x1.frozen
        have h0 := tv.f3 rfl
        have h2 := tv.t7
        obtain ⟨ao, cap, hv, _⟩ := row_of_owns wv.r1
        subst hv
        generalize a.eval = ev at h0 h2 ⊢
        simp [execOp, h0, h2, go_sem, hc, hfz]
      · have hb9 : b9 = false := by simpa using hf
        subst hb9
        have hb8 : b8 = true := by cases b8; simp [Region.binds] at hdep; rfl
        subst hb8
        have hb7 := o8 rfl
        subst hb7
        obtain ⟨rfl, rfl, rfl⟩ := o7 rfl
        have x2 := wv.x2
        rw [if_neg (by simp)] at x2
        refine stepS (w' := W.setCell ⟨w.heap.size + 1, 0, none⟩ u2) rfl rfl (by intro c h; cases h) ?_ ⟨b0, b1, b2, true, true, b5, true, true, true, true, rfl, u1, u2, g2, g6, tv, wv.s9 HT.out, o3, fun _ => ⟨rfl, rfl, rfl⟩, fun _ => rfl, fun _ => rfl⟩
        have hc := x2.cell
        have hfz := x2.frozen
        have h0 := tv.f7 rfl
        have h2 := tv.t8
        obtain ⟨ao, cap, hv, _⟩ := row_of_owns wv.r2
        subst hv
        generalize a.eval = ev at h0 h2 ⊢
        simp [execOp, h0, h2, go_sem, hc, hfz]
  case done =>
    rintro D O W hD hnD ⟨v1, v2, htwo⟩ hK
    have TW := Lib.hid htwo
    have hBel := htwo.bel
    have hwW := hBel.size
    obtain ⟨ao1, cap1, hv1, hcp1, hr1⟩ := row_of_owns htwo.row1
    obtain ⟨ao2, cap2, hv2, hcp2, hr2⟩ := row_of_owns htwo.row2
    subst hv1 hv2
    have c7 := htwo.box1.cell
    have c8 := htwo.box2.cell
    have hl1 : (ws.map (·.1)).length = ws.length := by simp
    have hl2 : (ws.map (·.2)).length = ws.length := by simp
    obtain ⟨m, hmw⟩ : ∃ m, ws.length = m := ⟨_, rfl⟩
    rw [hl1, hmw] at c7 hcp1
    rw [hl2, hmw] at c8 hcp2
    have HAP := Lib.hid (apportion_any t ao2 cap2 m (amts ws) W (by omega) (by rw [amts_len]; exact hmw) hr2 H64.out)
    have HR1 := Lib.hid hr1
    have HMW := Lib.hid hmw
    have HK := Lib.hid hK
    have OUTS := Lib.hid (show ∀ k, k < m → ∃ g off, ao1 = some ⟨g, off, none⟩ ∧ w.heap.size ≤ g from fun k hk => by
      obtain ⟨g, off, e, hgl, _⟩ := hr1 k (by rw [hl1, hmw]; exact hk)
      subst e
      have := (owns_ltK htwo.row1 g rfl).1
      exact ⟨g, off, rfl, this⟩)
    have hmk : m ≤ 1000 := by omega
    have hsum' : Bd + 1000000000000000 * (m : Int) ≤ 9223372036854775807 := by rw [← hmw]; exact hsum
    have hDW : D < W.heap.size := (Array.getElem?_eq_some_iff.1 hK).1
    have hDw : w.heap.size + 3 ≤ D := by have := HS2.out; omega
    have OB := Lib.hid (show OwnsM W b c out from HB.out.later hBel)
    have HBEL := Lib.hid hBel
    clear htwo hr1 hr2 hl1 hl2 hcp1 hcp2 hK hBel hD hnD hmw hsum
    gi_wp2
    refine wide_call HAP.out ?_
    rintro e w5 ⟨ao5, cap5, rfl, hcap5, hrow5, hb5⟩
    obtain ⟨q, hq⟩ : ∃ q, (apV t (amts ws)).length = q := ⟨_, rfl⟩
    have hqm : q ≤ m := by have := apV_len t (amts ws); rw [amts_len, HMW.out] at this; omega
    rw [hq] at hcap5 ⊢
    have HQ := Lib.hid hq
    have HR5 := Lib.hid hrow5
    have HB5 := Lib.hid hb5
    have O5 := Lib.hid (OB.out.later hb5)
    have hb5s := hb5.size
    have d7 : w5.cell? ⟨w.heap.size, 0, none⟩ = some (.slice ao1 m cap1) := by rw [hb5.cell (p := ⟨w.heap.size, 0, none⟩) (World.block_lt_of_cell? _ _ c7)]; exact c7
    have D7 := Lib.hid d7
    clear hq hrow5 hb5 hcap5 c7 c8 d7
    gi_wp2
    gi_loopw [35] (fun i wr => ∃ k : Nat, i = .int .i64 k ∧ k ≤ q ∧ OwnsM wr b (c + k) (addAll out ((divL t ws).take k)) ∧ Chg (fun x => x = b) w5 wr) (fun i _ => q - (intOf i).toNat)
    case atStart => exact ⟨0, rfl, Nat.zero_le _, by simpa [addAll] using O5.out, Chg.refl _ _⟩
    case round =>
      obtain ⟨k, rfl, hk, hok, hck⟩ := hrel
      have OK := Lib.hid hok
      have CK := Lib.hid hck
      have hws5 := hck.size
      clear hok hck
      by_cases hlt : k < q
      · have hkm : k < m := by omega
        have hkl : k < ws.length := by rw [HMW.out]; exact hkm
        have hkd : k < (divL t ws).length := by rw [div_len, HQ.out]; exact hlt
        obtain ⟨g, off, rfl, hg⟩ := OUTS.out k hkm
        obtain ⟨g', off', e', _, hkey⟩ := HR1.out k (by simpa using hkl)
        cases e'
        have ck : wr.cell? ⟨g, off + k, none⟩ = some (.int .i64 ws[k].1) := by
          have h1 : W.cell? ⟨g, off + k, none⟩ = some (.int .i64 ws[k].1) := by simpa [hkl] using hkey
          have h2 : w5.cell? ⟨g, off + k, none⟩ = some (.int .i64 ws[k].1) := by rw [HB5.out.cell (p := ⟨g, off + k, none⟩) (World.block_lt_of_cell? _ _ h1)]; exact h1
          exact CK.out.cell h2 (by dsimp only; omega)
        obtain ⟨pb, po, hpe, _, hpc⟩ := HR5.out k (by rw [HQ.out]; exact hlt)
        have hpb : pb ≠ b := fun e => by
          subst e
          obtain ⟨es, cl, hmap⟩ := O5.out.isMap
          simp [World.cell?, hmap] at hpc
        have cp : wr.cell? ⟨pb, po + k, none⟩ = some (.int .i64 ((apV t (amts ws)).getD k 0)) := CK.out.cell hpc hpb
        subst hpe
        have c7 : wr.cell? ⟨w.heap.size, 0, none⟩ = some (.slice (some ⟨g, off, none⟩) m cap1) := CK.out.cell D7.out (by dsimp only; omega)
        have hpd : 0 ≤ (apV t (amts ws)).getD k 0 ∧ (apV t (amts ws)).getD k 0 ≤ 1000000000000000 := by
          have hk' : k < (apV t (amts ws)).length := by rw [HQ.out]; exact hlt
          have := apV_bd t (amts ws) ((apV t (amts ws))[k]) (List.getElem_mem hk')
          simpa [hk'] using this
        have hwfk : (Lit.int .i64 ws[k].1).wf = true := by
          have := HM.out
          cases mo with
          | none => have e : ws = [] := this; subst e; simp at hkl
          | some b' => exact OwnsM.wf this _ (List.getElem_mem hkl)
        have hlk := (OK.out.look ws[k].1 hwfk).1
        have hbd := (addAll_bd hBd HO.out (div_bd t ws) k (by omega)).1
        have hgb := getL_bd hbd (by omega) ws[k].1
        have hput := md_put OK.out.2 ws[k].1 ((apV t (amts ws)).getD k 0)
        have hasc := asc_add OK.out.2 ws[k].1 ((apV t (amts ws)).getD k 0)
        have hnext : addAll out ((divL t ws).take (k + 1)) = addGo ws[k].1 ((apV t (amts ws)).getD k 0) false (addAll out ((divL t ws).take k)) := by
          rw [addAll_take out _ k hkd]
          have hk' : k < (apV t (amts ws)).length := by rw [HQ.out]; exact hlt
          rw [div_get t ws k hkd hkl hk']
        obtain ⟨L, hL⟩ : ∃ L, addAll out ((divL t ws).take k) = L := ⟨_, rfl⟩
        rw [hL] at hlk hgb hput hasc hnext OK
        obtain ⟨x, hx⟩ : ∃ x, ws[k].1 = x := ⟨_, rfl⟩
        obtain ⟨p, hp⟩ : ∃ p, (apV t (amts ws)).getD k 0 = p := ⟨_, rfl⟩
        rw [hx] at ck hwfk hlk hgb hput hasc hnext
        rw [hp] at cp hpd hput hasc hnext
        obtain ⟨G, hG⟩ : ∃ G, getL L x = G := ⟨_, rfl⟩
        rw [hG] at hlk hgb hput
        have hwf := keyOf_int_mk Try.underlying3 hwfk
        have HPUT := Lib.hid hput
        have HASC := Lib.hid hasc
        have HNX := Lib.hid hnext
        have hG2 : G + p ≤ 9223372036854775807 := by omega
        have hG3 : 0 ≤ G + p := by omega
        clear hput hasc hnext hL hx hp hG hkey hpc hbd hwfk
        gi_wp2_with (gi_at_mapUpdate; refine wpListIn_mapUpdate_own _ rfl _ _ _ 57 rfl 3 3 keyed Try.underlying57 _ b (c + k) _ rfl OK.out.1 (by unfold maxLen; omega) _ _ _ rfl rfl hwf _ [] (plainElem_int Try.underlying3 (WalkArith.wf_i64 (by omega))) ?_; intro w6 hown6 hgr6)
        have R : OwnsM w6 b (c + (k + 1)) (addAll out ((divL t ws).take (k + 1))) ∧ Chg (fun x => x = b) w5 w6 := by
          rw [HPUT.out] at hown6
          exact ⟨by rw [HNX.out]; exact ⟨hown6, HASC.out⟩, CK.out.trans (Chg.grown hgr6 (fun j e => by cases e; exact .inl rfl))⟩
        have RR := Lib.hid R
        clear R hown6 hgr6
        gi_wp2
        go_roundw
        case rel => exact ⟨k + 1, by go_num, by omega, RR.out.1, RR.out.2⟩
        case measure => simp [intOf]; omega
      · have hkq : k = q := by omega
        have HT := Lib.hid (show (divL t ws).take k = divL t ws from List.take_of_length_le (by rw [div_len, HQ.out]; omega))
        have hKr : wr.heap[D]? = some (.deferred (some [])) := by
          rw [CK.out.block D (by omega) (by omega), HB5.out.block D hDW]; exact HK.out
        have HKR := Lib.hid hKr
        clear hKr hkq
        gi_wp2
        refine ⟨by simp, .inl ⟨_, _, rfl, run_takeDeferred HKR.out, ?_⟩⟩
        refine ⟨_, results_tmp rfl _ _ _, rfl, ?_, ?_⟩
        · have := OK.out
          rw [HT.out] at this
          exact (this.kept (World.putObj_heap_other (by omega))).mono (by rw [HMW.out]; omega)
        · refine (Chg.of_below (C := fun x => x = b) HBEL.out (fun k h1 h2 => by omega)).trans ?_
          refine (Chg.of_below (B := W.heap.size) HB5.out (fun k h1 h2 => by omega)).trans ?_
          refine (CK.out.mono (fun k _ h => .inl (.inl h))).trans ?_
          exact Chg.put _ _ _ (.inl (.inl (.inr (by omega))))

end Go.Proofs.Ytbkmcncakpmgkaa
