/-
  Held: the walk.
-/
import Derived.Test.YtbkmcncakpmgkaaHldT
import Derived.RegionIn
namespace Go.Proofs.Ytbkmcncakpmgkaa
set_option linter.unusedVariables false
open Go.ChangeShapes Go.WideShapes Go.ChangeAt Go.RowKit Go.Shelf Go.Maps Go.Sort

attribute [local go_sem] Oper.semAt_some

set_option maxRecDepth 100000 in
set_option maxHeartbeats 4000000 in
theorem held_any (t r : Int) (uo : Option Addr) (cap m : Nat) (l : List Us) (w : World) (hm : m ≤ 1000) (hl : l.length = m) (hr : RowK 4 encU w uo l) :
    Calls Try.prog 18 #[.int .i64 t, .int .i64 r, .slice uo m cap] w fun e w' => e = .returned (.tuple #[.int .i64 (heldP t (heldS r l).1 (heldS r l).2).1, .int .i64 (heldP t (heldS r l).1 (heldS r l).2).2]) ∧ Below w.heap.size w w' := by
  have HR := Lib.hid hr
  have HL := Lib.hid hl
  have HUB := Lib.hid (show ∀ k off, uo = some ⟨k, off, none⟩ → l ≠ [] → k < w.heap.size from fun k off e hne => by
    rcases l with _ | ⟨u, r⟩
    · exact absurd rfl hne
    · obtain ⟨b', off', e', hb', _⟩ := hr 0 u rfl
      rw [e] at e'; cases e'; exact hb')
  clear hr hl
  suffices H : ∀ n, CallsIn Fence.wide n Try.prog 18 #[.int .i64 t, .int .i64 r, .slice uo m cap] w (fun e w' => e = .returned (.tuple #[.int .i64 (heldP t (heldS r l).1 (heldS r l).2).1, .int .i64 (heldP t (heldS r l).1 (heldS r l).2).2]) ∧ Below w.heap.size w w') from (callsIn_wide (n := 5)).1 (H 5)
  intro n
  refine callsIn_of_wp_marks Try.func18 rfl trivial ?_ rfl
  simp only [Try.ntmps18, List.size_toArray, List.length_cons, List.length_nil, Nat.reduceAdd, Nat.reduceSub, Array.replicate_succ, Array.replicate_zero, List.push_toArray, List.append_toArray, List.nil_append, List.cons_append]
  gi_wp2
  refine wide_call (counting_any _ _ _ _) ?_
  rintro e w' ⟨rfl, rfl⟩
  gi_wp2
  obtain ⟨W2, hW2⟩ : ∃ W2, (((w.alloc (.cells #[.int .i64 r] 3)).alloc (.cells #[.int .i64 0] 3)).alloc (.cells #[.int .i64 0] 3)).alloc (.cells #[.slice uo m cap] 22) = W2 := ⟨_, rfl⟩
  have hs2 : W2.heap.size = w.heap.size + 4 := by rw [← hW2]; simp
  have B2 := Lib.hid (show Below w.heap.size w W2 by rw [← hW2]; exact ((((Below.refl _ w).alloc (Nat.le_refl _) _).alloc (by simp) _).alloc (by simp; omega) _).alloc (by simp; omega) _)
  have X4 := Lib.hid (show Boxed W2 w.heap.size 3 (.int .i64 r) by rw [← hW2]; exact (((Boxed.new w _ _).alloc _).alloc _).alloc _)
  have X8 := Lib.hid (show Boxed W2 (w.heap.size + 1) 3 (.int .i64 0) by rw [← hW2]; have := ((Boxed.new (w.alloc (.cells #[.int .i64 r] 3)) 3 (.int .i64 0)).alloc (.cells #[.int .i64 0] 3)).alloc (.cells #[.slice uo m cap] 22); simpa using this)
  have X9 := Lib.hid (show Boxed W2 (w.heap.size + 1 + 1) 3 (.int .i64 0) by rw [← hW2]; have := (Boxed.new ((w.alloc (.cells #[.int .i64 r] 3)).alloc (.cells #[.int .i64 0] 3)) 3 (.int .i64 0)).alloc (.cells #[.slice uo m cap] 22); simpa using this)
  have BC := Lib.hid (show W2.cell? ⟨w.heap.size + 1 + 1 + 1, 0, none⟩ = some (.slice uo m cap) by rw [← hW2]; exact cell_box _ _ _ 0 _ rfl _ (by simp))
  rw [hW2]
  have HS2 := Lib.hid hs2
  clear hW2 hs2
  refine wpIn_range_all (gf := 41) (lb := #[.pointer (some ⟨w.heap.size + 1 + 1 + 1, 0, none⟩)]) rfl (enters_of Try.func41 (by kernel_rfl) rfl)
    (cnt_all _ (w.heap.size + 1 + 1 + 1) uo cap m l W2 (by omega) HL.out (HR.out.later B2.out) BC.out) (fun _ => rfl)
    (fun pre O W => (∀ k, O k ↔ k = w.heap.size + 1 ∨ k = w.heap.size + 1 + 1) ∧ Boxed W (w.heap.size + 1) 3 (.int .i64 (heldS r pre).1) ∧ Boxed W (w.heap.size + 1 + 1) 3 (.int .i64 (heldS r pre).2) ∧ Chg (fun k => k = w.heap.size + 1 ∨ k = w.heap.size + 1 + 1) W2 W) (fun k => k = w.heap.size + 1 ∨ k = w.heap.size + 1 + 1) ?hO0 ?hI ?h0
    (fun pre x a' O W => ∃ Bu, W2.heap.size ≤ Bu ∧ a' = { tmps := #[.int .i64 t, .int .i64 r, .slice uo m cap, undef, .pointer (some ⟨w.heap.size, 0, none⟩), undef, .int .i64 0, .int .i64 0, .pointer (some ⟨w.heap.size + 1, 0, none⟩), .pointer (some ⟨w.heap.size + 1 + 1, 0, none⟩), .pointer (some ⟨Bu, 0, none⟩), undef, undef, .slice uo m cap, .func (.func 41) #[] #[.pointer (some ⟨w.heap.size + 1 + 1 + 1, 0, none⟩)], .agg #[.int .i64 x.acc, .int .i64 x.rcd, .int .i64 x.val, .int .i64 x.held], .int .i64 (x.val + x.held), undef, undef, undef, undef, undef, undef, undef, undef, undef, undef, undef, undef, undef, undef, undef, undef, undef, undef, undef, undef, undef, undef, undef, undef, undef, undef, undef, undef], defers := [] } ∧
      (∀ k, O k ↔ k = w.heap.size + 1 ∨ k = w.heap.size + 1 + 1 ∨ k = Bu) ∧ W.heap[Bu]? = some (.cells #[.int .i64 x.acc, .int .i64 x.rcd, .int .i64 x.val, .int .i64 x.held] 42 (0, 0)) ∧ Boxed W (w.heap.size + 1) 3 (.int .i64 (heldS r pre).1) ∧ Boxed W (w.heap.size + 1 + 1) 3 (.int .i64 (heldS r pre).2) ∧ Chg (fun k => k = w.heap.size + 1 ∨ k = w.heap.size + 1 + 1) W2 W) ?hM ?assign ?body ?done
  case hO0 =>
    rintro k (rfl | rfl)
    · exact ⟨by have := HS2.out; omega, fun ⟨h1, off, h2⟩ => by have := HUB.out _ off h2 (fun e => by rw [← HL.out, e] at h1; simp at h1); omega⟩
    · exact ⟨by have := HS2.out; omega, fun ⟨h1, off, h2⟩ => by have := HUB.out _ off h2 (fun e => by rw [← HL.out, e] at h1; simp at h1); omega⟩
  case hI =>
    rintro s O A A' C ⟨h1, h2, h3, h4⟩ hc hC
    exact ⟨h1, Boxed.blk h2 (hc.block _ h2.lt (fun c => (hC _ c).2 ((h1 _).2 (.inl rfl)))), Boxed.blk h3 (hc.block _ h3.lt (fun c => (hC _ c).2 ((h1 _).2 (.inr rfl)))), h4.trans (hc.mono (fun k _ h => .inr (hC k h).1))⟩
  case h0 => exact ⟨fun k => Iff.rfl, X8.out, X9.out, Chg.refl _ _⟩
  case hM =>
    rintro s x a' O A A' C ⟨Bu, h1, h2, h3, h4, h5, h6, h7⟩ hc hC
    exact ⟨Bu, h1, h2, h3, by rw [hc.block _ (Array.getElem?_eq_some_iff.1 h4).1 (fun c => (hC _ c).2 ((h3 _).2 (.inr (.inr rfl))))]; exact h4, Boxed.blk h5 (hc.block _ h5.lt (fun c => (hC _ c).2 ((h3 _).2 (.inl rfl)))), Boxed.blk h6 (hc.block _ h6.lt (fun c => (hC _ c).2 ((h3 _).2 (.inr (.inl rfl))))), h7.trans (hc.mono (fun k _ h => .inr (hC k h).1))⟩
  case assign =>
    rintro l' pre ⟨ua, ur, uv, uh⟩ rest O W K hx ⟨h1, h2, h3, h4⟩ hK
    dsimp only [encC]
    gi_wp2
    refine hK _ (fun k => k = w.heap.size + 1 ∨ k = w.heap.size + 1 + 1 ∨ k = W.heap.size) _ ⟨W.heap.size, h4.size, rfl, fun k => Iff.rfl, World.alloc_heap_new W _, h2.alloc _, h3.alloc _, h4.trans (Chg.alloc _ _ _)⟩ (Chg.alloc _ _ _) ?_
    rintro k (rfl | rfl | rfl)
    · exact .inl ((h1 _).2 (.inl rfl))
    · exact .inl ((h1 _).2 (.inr rfl))
    · exact .inr (Nat.le_refl _)
  case body =>
    rintro l' pre ⟨ua, ur, uv, uh⟩ rest a' O V hx ⟨Bu, hBu, rfl, hO, hbu, hx1, hx2, hch⟩
    dsimp only
    have hmem : (⟨ua, ur, uv, uh⟩ : Us) ∈ cntL l := by rw [hx]; simp
    obtain ⟨hml, hcb⟩ := cnt_mem hmem
    have hcd := counts_bd hcb
    dsimp only at hcd
    have hpl : pre.length ≤ 1000 := by
      have h1 := cnt_len l
      rw [hx, HL.out] at h1
      simp at h1; omega
    have hbd := held_bd' r pre
    have hst := held_snoc r pre ⟨ua, ur, uv, uh⟩
    unfold hStep at hst
    dsimp only at hst
    have hW2 := HS2.out
    have c4 : V.cell? ⟨w.heap.size, 0, none⟩ = some (.int .i64 r) := hch.cell X4.out.cell (by dsimp only; omega)
    have cb1 : V.cell? ⟨Bu, 1, none⟩ = some (.int .i64 ur) := by simp [World.cell?, hbu]
    obtain ⟨x, hxx⟩ : ∃ x, (heldS r pre).1 = x := ⟨_, rfl⟩
    obtain ⟨y, hyy⟩ : ∃ y, (heldS r pre).2 = y := ⟨_, rfl⟩
    rw [hxx] at hbd hx1 hst
    rw [hyy] at hbd hx2 hst
    have HPR := Lib.hid (show heldS r pre = (x, y) by rw [← hxx, ← hyy])
    have HST := Lib.hid hst
    have HCH := Lib.hid hch
    have HOO := Lib.hid hO
    have HBUC := Lib.hid hbu
    have HX1 := Lib.hid hx1
    have HX2 := Lib.hid hx2
    have HCB := Lib.hid hcb
    clear hmem hml hcb hx hst hch hO hbu hx1 hx2 hxx hyy
    by_cases hrr : ur = r
    · subst hrr
      have HN := Lib.hid (show heldS ur (pre ++ [⟨ua, ur, uv, uh⟩]) = (x + uv, y + uh) by rw [HST.out, if_pos ⟨HCB.out, rfl⟩])
      clear HST
      gi_wp2
      refine wpIn_region_any (by kernel_rfl) ?_
      refine wpAnyIn_inv (fun listed a W => ∃ b0 b1 b2 b3 b4 b5 b6 b7 b8 b9, listed = #[b0, b1, b2, b3, b4, b5, b6, b7, b8, b9] ∧ TH a (w.heap.size + 1) (w.heap.size + 1 + 1) Bu x y uv uh b0 b1 b2 b3 b4 b5 b6 b7 ∧ WH V W (w.heap.size + 1) (w.heap.size + 1 + 1) Bu x y ua ur uv uh b8 b9 ∧
        ((b3 = true → b0 = true) ∧ (b7 = true → b4 = true) ∧ (b8 = true → b3 = true) ∧ (b9 = true → b7 = true))) ?step ?fin _ _ _ _ (by decide) ?start
      case start => exact ⟨_, _, _, _, _, _, _, _, _, _, rfl, ⟨rfl, rfl, rfl, rfl, (fun h => by cases h), (fun h => by cases h), (fun h => by cases h), (fun h => by cases h), (fun h => by cases h), (fun h => by cases h), (fun h => by cases h), (fun h => by cases h)⟩, ⟨HX1.out, HX2.out, HBUC.out, Chg.drew _ _⟩, (fun h => by cases h), (fun h => by cases h), (fun h => by cases h), (fun h => by cases h)⟩
      case fin =>
        rintro listed a W ⟨b0, b1, b2, b3, b4, b5, b6, b7, b8, b9, rfl, tv, wv, o3, o7, o8, o9⟩ hn
        have a0 : b0 = true := by cases b0; (have q := ready_nil hn 0 (by decide) rfl; simp [Region.binds] at q); rfl
        subst a0
        have a1 : b1 = true := by cases b1; (have q := ready_nil hn 1 (by decide) rfl; simp [Region.binds] at q); rfl
        subst a1
        have a2 : b2 = true := by cases b2; (have q := ready_nil hn 2 (by decide) rfl; simp [Region.binds] at q); rfl
        subst a2
        have a3 : b3 = true := by cases b3; (have q := ready_nil hn 3 (by decide) rfl; simp [Region.binds] at q); rfl
        subst a3
        have a4 : b4 = true := by cases b4; (have q := ready_nil hn 4 (by decide) rfl; simp [Region.binds] at q); rfl
        subst a4
        have a5 : b5 = true := by cases b5; (have q := ready_nil hn 5 (by decide) rfl; simp [Region.binds] at q); rfl
        subst a5
        have a6 : b6 = true := by cases b6; (have q := ready_nil hn 6 (by decide) rfl; simp [Region.binds] at q); rfl
        subst a6
        have a7 : b7 = true := by cases b7; (have q := ready_nil hn 7 (by decide) rfl; simp [Region.binds] at q); rfl
        subst a7
        have a8 : b8 = true := by cases b8; (have q := ready_nil hn 8 (by decide) rfl; simp [Region.binds] at q); rfl
        subst a8
        have a9 : b9 = true := by cases b9; (have q := ready_nil hn 9 (by decide) rfl; simp [Region.binds] at q); rfl
        subst a9
        have x1 := wv.x1
        have x2 := wv.x2
        rw [if_pos rfl] at x1 x2
        refine ⟨fun k => k = w.heap.size + 1 ∨ k = w.heap.size + 1 + 1, ⟨fun k => Iff.rfl, by rw [HN.out]; exact x1, by rw [HN.out]; exact x2, HCH.out.trans (wv.chg.mono (fun k _ h => .inl h))⟩, wv.chg.mono (fun k _ h => (HOO.out k).2 (by rcases h with h | h; exact .inl h; exact .inr (.inl h))), fun k h => .inl ((HOO.out k).2 (by rcases h with h | h; exact .inl h; exact .inr (.inl h)))⟩
      case step =>
        rintro listed a W i ⟨b0, b1, b2, b3, b4, b5, b6, b7, b8, b9, rfl, tv, wv, o3, o7, o8, o9⟩ hi
        obtain ⟨hlt, hf, hdep⟩ := ready_mem hi
        have hlt' : i < 10 := hlt
        have hcs : i = 0 ∨ i = 1 ∨ i = 2 ∨ i = 3 ∨ i = 4 ∨ i = 5 ∨ i = 6 ∨ i = 7 ∨ i = 8 ∨ i = 9 := by omega
        clear hlt hlt' hi
        rcases hcs with rfl | rfl | rfl | rfl | rfl | rfl | rfl | rfl | rfl | rfl
        · have hb0 : b0 = false := by simpa using hf
          have hb3 : b3 = false := by cases b3; rfl; have := o3 rfl; rw [hb0] at this; cases this
          have hb8 : b8 = false := by cases b8; rfl; have := o8 rfl; rw [hb3] at this; cases this
          have x1 := wv.x1
          rw [hb8, if_neg (by simp)] at x1
          refine stepR (v := .int .i64 x) (w' := W) rfl rfl (by intro c h; cases h) ?_ ⟨true, b1, b2, b3, b4, b5, b6, b7, b8, b9, rfl, tv.p0, wv, fun _ => rfl, o7, o8, o9⟩
          have hc := x1.cell
          have ht := tv.t8
          generalize a.eval = ev at ht ⊢
          simp [execOp, ht, go_sem, hc]
        · refine stepR (v := .pointer (some ⟨Bu, 2, none⟩)) (w' := W) rfl rfl (by intro c h; cases h) ?_ ⟨b0, true, b2, b3, b4, b5, b6, b7, b8, b9, rfl, tv.p1, wv, o3, o7, o8, o9⟩
          have ht := tv.t10
          generalize a.eval = ev at ht ⊢
          simp [execOp, ht, go_sem]
        · have hb1 : b1 = true := by simpa [Region.binds] using hdep
          refine stepR (v := .int .i64 uv) (w' := W) rfl rfl (by intro c h; cases h) ?_ ⟨b0, b1, true, b3, b4, b5, b6, b7, b8, b9, rfl, tv.p2, wv, o3, o7, o8, o9⟩
          have hc : W.cell? ⟨Bu, 2, none⟩ = some (.int .i64 uv) := by simp [World.cell?, wv.u]
          have ht := tv.f1 hb1
          generalize a.eval = ev at ht ⊢
          simp [execOp, ht, go_sem, hc]
        · have hbd : b0 = true ∧ b2 = true := by simpa [Region.binds] using hdep
          refine stepR (v := .int .i64 (x + uv)) (w' := W) rfl rfl (by intro c h; cases h) ?_ ⟨b0, b1, b2, true, b4, b5, b6, b7, b8, b9, rfl, tv.p3, wv, fun _ => hbd.1, o7, fun h => rfl, o9⟩
          have ht := tv.f0 hbd.1
          have ht2 := tv.f2 hbd.2
          have hwr : IntKind.i64.wrap (x + uv) = x + uv := IntWalk.i64_in _ (by omega)
          generalize a.eval = ev at ht ht2 ⊢
          simp [execOp, ht, ht2, go_sem, hwr]
        · have hb4 : b4 = false := by simpa using hf
          have hb7 : b7 = false := by cases b7; rfl; have := o7 rfl; rw [hb4] at this; cases this
          have hb9 : b9 = false := by cases b9; rfl; have := o9 rfl; rw [hb7] at this; cases this
          have x2 := wv.x2
          rw [hb9, if_neg (by simp)] at x2
          refine stepR (v := .int .i64 y) (w' := W) rfl rfl (by intro c h; cases h) ?_ ⟨b0, b1, b2, b3, true, b5, b6, b7, b8, b9, rfl, tv.p4, wv, o3, fun _ => rfl, o8, o9⟩
          have hc := x2.cell
          have ht := tv.t9
          generalize a.eval = ev at ht ⊢
          simp [execOp, ht, go_sem, hc]
        · refine stepR (v := .pointer (some ⟨Bu, 3, none⟩)) (w' := W) rfl rfl (by intro c h; cases h) ?_ ⟨b0, b1, b2, b3, b4, true, b6, b7, b8, b9, rfl, tv.p5, wv, o3, o7, o8, o9⟩
          have ht := tv.t10
          generalize a.eval = ev at ht ⊢
          simp [execOp, ht, go_sem]
        · have hb5 : b5 = true := by simpa [Region.binds] using hdep
          refine stepR (v := .int .i64 uh) (w' := W) rfl rfl (by intro c h; cases h) ?_ ⟨b0, b1, b2, b3, b4, b5, true, b7, b8, b9, rfl, tv.p6, wv, o3, o7, o8, o9⟩
          have hc : W.cell? ⟨Bu, 3, none⟩ = some (.int .i64 uh) := by simp [World.cell?, wv.u]
          have ht := tv.f5 hb5
          generalize a.eval = ev at ht ⊢
          simp [execOp, ht, go_sem, hc]
        · have hbd : b4 = true ∧ b6 = true := by simpa [Region.binds] using hdep
          refine stepR (v := .int .i64 (y + uh)) (w' := W) rfl rfl (by intro c h; cases h) ?_ ⟨b0, b1, b2, b3, b4, b5, b6, true, b8, b9, rfl, tv.p7, wv, o3, fun _ => hbd.1, o8, fun h => rfl⟩
          have ht := tv.f4 hbd.1
          have ht2 := tv.f6 hbd.2
          have hwr : IntKind.i64.wrap (y + uh) = y + uh := IntWalk.i64_in _ (by omega)
          generalize a.eval = ev at ht ht2 ⊢
          simp [execOp, ht, ht2, go_sem, hwr]
        · have hb3 : b3 = true := by cases b3; simp [Region.binds] at hdep; rfl
          subst hb3
          refine stepS (w' := W.setCell ⟨w.heap.size + 1, 0, none⟩ (.int .i64 (x + uv))) rfl rfl (by intro c h; cases h) ?_ ⟨b0, b1, b2, true, b4, b5, b6, b7, true, b9, rfl, tv, wv.s8 (by omega) (by omega), o3, o7, fun _ => rfl, o9⟩
          have hc := wv.x1.cell
          have hfz := wv.x1.frozen
          have h0 := tv.f3 rfl
          have h2 := tv.t8
          generalize a.eval = ev at h0 h2 ⊢
          simp [execOp, h0, h2, go_sem, hc, hfz]
        · have hb7 : b7 = true := by cases b7; simp [Region.binds] at hdep; rfl
          subst hb7
          refine stepS (w' := W.setCell ⟨w.heap.size + 1 + 1, 0, none⟩ (.int .i64 (y + uh))) rfl rfl (by intro c h; cases h) ?_ ⟨b0, b1, b2, b3, b4, b5, b6, true, b8, true, rfl, tv, wv.s9 (by omega) (by omega), o3, o7, o8, fun _ => rfl⟩
          have hc := wv.x2.cell
          have hfz := wv.x2.frozen
          have h0 := tv.f7 rfl
          have h2 := tv.t9
          generalize a.eval = ev at h0 h2 ⊢
          simp [execOp, h0, h2, go_sem, hc, hfz]
    · have HN := Lib.hid (show heldS r (pre ++ [⟨ua, ur, uv, uh⟩]) = (x, y) by rw [HST.out, if_neg (by simp [hrr]), HPR.out])
      have hq : (ur == r) = false := beq_eq_false_iff_ne.2 hrr
      clear HST
      gi_wp2
      refine ⟨fun k => k = w.heap.size + 1 ∨ k = w.heap.size + 1 + 1, ⟨fun k => Iff.rfl, by rw [HN.out]; exact HX1.out, by rw [HN.out]; exact HX2.out, HCH.out⟩, Chg.refl _ _, fun k h => .inl ((HOO.out k).2 (by rcases h with h | h; exact .inl h; exact .inr (.inl h)))⟩
  case done =>
    rintro D O W hD hnD ⟨hO, hx1, hx2, hch⟩ hK
    have hW2 := HS2.out
    have hcs := hch.size
    have hDW : D < W.heap.size := (Array.getElem?_eq_some_iff.1 hK).1
    have hbd := held_bd' r l
    rw [held_cnt] at hx1 hx2
    obtain ⟨x, hxx⟩ : ∃ x, (heldS r l).1 = x := ⟨_, rfl⟩
    obtain ⟨y, hyy⟩ : ∃ y, (heldS r l).2 = y := ⟨_, rfl⟩
    rw [hxx] at hbd hx1
    rw [hyy] at hbd hx2
    have HXY := Lib.hid (show (heldS r l).1 = x ∧ (heldS r l).2 = y from ⟨hxx, hyy⟩)
    rw [HL.out] at hbd
    have c8 := hx1.cell
    have c9 := hx2.cell
    have BEL := Lib.hid (B2.out.trans (hch.below (by omega) (fun k h => by omega)))
    have HK := Lib.hid hK
    have HAP := Lib.hid (apportion_any t (some ⟨W.heap.size, 0, none⟩) 2 2 [x, y] (W.alloc (.cells #[.int .i64 x, .int .i64 y] 3)) (by omega) rfl (two_row W x y _) (two_i64 (by omega)))
    clear hO hx1 hx2 hch hxx hyy hK hnD
    rcases hab : apB t [x, y] with _ | _
    · have HP := Lib.hid (show heldP t (heldS r l).1 (heldS r l).2 = (0, 0) by rw [HXY.out.1, HXY.out.2]; unfold heldP; rw [if_neg (by rw [hab]; simp)])
      rw [hab] at HAP
      clear hab
      gi_wp2
      refine wide_call HAP.out ?_
      rintro e w5 ⟨ao5, cap5, rfl, hcap5, hrow5, hb5⟩
      have hK5 : w5.heap[D]? = some (.deferred (some [])) := by rw [hb5.block D (by simp; omega), Below.heap_alloc _ _ _ hDW]; exact HK.out
      have HK5 := Lib.hid hK5
      have HB5 := Lib.hid hb5
      clear hcap5 hrow5 hb5 hK5
      gi_wp2
      refine ⟨by simp, .inl ⟨_, _, rfl, run_takeDeferred HK5.out, ?_⟩⟩
      refine ⟨_, results_tmp2 rfl _ _ _, by rw [HP.out]; rfl, ?_⟩
      refine BEL.out.trans (((Below.refl _ W).alloc BEL.out.size _).trans ((HB5.out.mono (by simp; have := BEL.out.size; omega)).trans ?_))
      exact (Chg.put w5 D _ (C := fun k => k = D) rfl).below (by have := HB5.out.size; have := BEL.out.size; simp at *; omega) (fun k h => by omega)
    · have HP := Lib.hid (show heldP t (heldS r l).1 (heldS r l).2 = ((apV t [x, y]).getD 0 0, (apV t [x, y]).getD 1 0) by rw [HXY.out.1, HXY.out.2]; unfold heldP; rw [if_pos hab])
      have HLN := Lib.hid (apV_two hab)
      rw [hab] at HAP
      clear hab
      gi_wp2
      refine wide_call HAP.out ?_
      rintro e w5 ⟨ao5, cap5, rfl, hcap5, hrow5, hb5⟩
      have hK5 : w5.heap[D]? = some (.deferred (some [])) := by rw [hb5.block D (by simp; omega), Below.heap_alloc _ _ _ hDW]; exact HK.out
      have HK5 := Lib.hid hK5
      have HB5 := Lib.hid hb5
      obtain ⟨pb, po, rfl, hpb, hp0⟩ := hrow5 0 (by rw [HLN.out]; omega)
      obtain ⟨pb', po', hpp, hpb', hp1⟩ := hrow5 1 (by rw [HLN.out]; omega)
      cases hpp
      rw [HLN.out]
      rw [Nat.add_zero] at hp0
      clear hcap5 hrow5 hb5 hK5
      have hmix : Try.prog.follows .mixedOrders = true := by kernel_rfl
      gi_wp2
      gi_region
      all_goals
        gi_wp2
        refine ⟨by simp, .inl ⟨_, _, rfl, run_takeDeferred (show _ = _ from HK5.out), ?_⟩⟩
        refine ⟨_, results_tmp2 rfl _ _ _, by rw [HP.out]; rfl, ?_⟩
        refine BEL.out.trans (((Below.refl _ W).alloc BEL.out.size _).trans ((HB5.out.mono (by simp; have := BEL.out.size; omega)).trans ?_))
        refine Below.trans (b := w5.drew) ((Below.refl _ w5).drew) ?_
        exact (Chg.put w5.drew D _ (C := fun k => k = D) rfl).below (by have := HB5.out.size; have := BEL.out.size; simp at *; omega) (fun k h => by omega)

end Go.Proofs.Ytbkmcncakpmgkaa
