/-
  session.Streams: how many. The streams of all plays are those of each device, one after another (plain). wire.PutInt at any number.
-/
import Derived.Test.YtffifhbldcjelaaGreatDoorDs32
import Derived.Test.YtffifhbldcjelaaGreatDoorDs18
import Derived.Test.YtffifhbldcjelaaGreatDoorDs12
import Derived.Laws.BytesArg
import Derived.Laws.BitsLemmas

/-! session.Streams: how many. -/
namespace Go.Proofs.YtffifhbldcjelaaGreatDoor
set_option linter.unusedVariables false
set_option linter.unusedSimpArgs false
set_option linter.unusedSectionVars false
open Go.RowKit Go.Shelf Go.Lib Go.Sort

attribute [local go_sem] Oper.semAt_some

theorem Tryz.infoStm : (Tryz.prog.info? 99).map (fun i => (i.zero, i.size, i.bytes)) = some (some (.agg #[.int .i64 0, .int .i64 0, .int .i64 0, .int .i64 0, .int .i64 0, .int .i64 0, .int .i64 0, .int .i64 0, .int .i64 0]), 9, 72) := by kernel_rfl
theorem encSl_len (x : StE) : (encSl x).length = 9 := rfl
theorem encSl_one (x : StE) : ∀ u ∈ encSl x, u.oneCell' = true := by
  intro u hu
  simp only [encSl, List.mem_cons, List.not_mem_nil, or_false] at hu
  rcases hu with rfl | rfl | rfl | rfl | rfl | rfl | rfl | rfl | rfl <;> rfl

theorem results_cellS {P : Program} {fn : Func} {a : Tmp} {t : TypeId} {pa : Addr} {va : Value} {tmps : Array Value} {w : World} (h : fn.results = #[.cell a t]) (ha : tmps.getD a undef = .pointer (some pa))
    (hta : (isAgg t).run P w = .ok false w) (hca : w.cell? pa = some va) : (results fn tmps).run P w = .ok va w := by
  have e1 : asAddr (tmps.getD a undef) = pure pa := by rw [ha]; rfl
  unfold results
  rw [h]
  simp only [List.mapM_toArray, List.mapM_cons, List.mapM_nil, e1]
  simp [loadVar, hta, run_load, hca]
set_option maxRecDepth 100000 in
set_option maxHeartbeats 4000000 in
theorem streams_any (L : List PF) (ao : Option Addr) (ln cap : Nat) (w : World) (hl : L.length = ln) (hn : ln ≤ 39) (hrow : RowK 18 encP w ao L) (hlen : LensAt w) (h0 : 0 < w.heap.size) :
    Calls Tryz.prog 12 #[.slice ao ln cap] w fun e w' => ∃ ao' cap', e = .returned (.slice ao' (strm s0L (ordL L)) cap') ∧ Below w.heap.size w w' := by
  obtain ⟨i0, hi, hz0, hz1, hz2⟩ := info_parts Tryz.infoStm
  have HL := Lib.hid hl
  have RW := Lib.hid hrow
  have LE := Lib.hid hlen
  have H0 := Lib.hid h0
  have B0 := Lib.hid ((Below.refl w.heap.size w).alloc (Nat.le_refl _) (.cells #[.slice none 0 0] 40))
  have OA := Lib.hid (ordered_any L ao ln cap _ hl hn (hrow.later B0.out))
  have X0 := Lib.hid (Boxed.new w 40 (.slice none 0 0))
  clear hl hrow hlen h0
  suffices HH : ∀ k, CallsIn Fence.wide k Tryz.prog 12 #[.slice ao ln cap] w (fun e w' => ∃ ao' cap', e = .returned (.slice ao' (strm s0L (ordL L)) cap') ∧ Below w.heap.size w w') from (callsIn_wide (n := 5)).1 (HH 5)
  intro nF
  refine callsIn_of_wp_marks Tryz.func12 rfl trivial ?_ rfl
  simp only [Tryz.ntmps12, List.size_toArray, List.length_cons, List.length_nil, Nat.reduceAdd, Nat.reduceSub, Array.replicate_succ, Array.replicate_zero, List.push_toArray, List.append_toArray, List.nil_append, List.cons_append]
  gi_wp2
  refine wide_call OA.out ?_
  rintro e w2 ⟨a2, cap2, rfl, h2, h3, h4⟩
  have R2 := Lib.hid h2
  have B2 := Lib.hid h3
  have N2 := Lib.hid h4
  clear h2 h3 h4 OA
  gi_wp2
  refine wide_call (counted_any _ ⟨_, _, _, rfl⟩ _) ?_
  rintro e w3 ⟨rfl, h3⟩
  obtain ⟨S, hS⟩ : ∃ S, S = ordL L := ⟨_, rfl⟩
  have HSE := Lib.hid hS
  rw [← hS] at R2 h3 ⊢
  have HSL := Lib.hid (show S.length ≤ 39 from by
    rw [hS]
    unfold ordL
    rw [(isort_perm _ (L.filter isPlayB) rfl).length_eq]
    have := List.length_filter_le isPlayB L
    have := HL.out
    omega)
  obtain ⟨bx, hbx⟩ : ∃ bx, bx = w2.heap.size := ⟨_, rfl⟩
  have S1 := Lib.hid (show (w.alloc (.cells #[.slice none 0 0] 40)).heap.size = w.heap.size + 1 by simp)
  have B3 := Lib.hid (show Below w2.heap.size w2 w3 by rw [h3]; exact (Below.refl _ _).alloc (Nat.le_refl _) _)
  have X3 := Lib.hid (show Boxed w3 bx 96 (.slice a2 S.length cap2) by rw [h3, hbx]; exact Boxed.new w2 _ _)
  have HBX := Lib.hid (show w.heap.size < bx ∧ bx < w3.heap.size by
    refine ⟨?_, X3.out.lt⟩
    have := B2.out.size; have := S1.out
    omega)
  have N3 := Lib.hid (show ∀ k off, a2 = some ⟨k, off, none⟩ → w.heap.size < k ∧ k < w3.heap.size from fun k off e => by
    have h := N2.out k off e
    have := S1.out
    have := B3.out.size
    exact ⟨by omega, by omega⟩)
  have R3 := Lib.hid (R2.out.later B3.out)
  have Y3 := Lib.hid (show Boxed w3 w.heap.size 40 (.slice none 0 0) from Boxed.blk (Boxed.blk X0.out (B2.out.block _ (by have := S1.out; omega))) (B3.out.block _ (by have := B2.out.size; have := S1.out; omega)))
  have BW := Lib.hid (show Below w.heap.size w w3 from (B0.out.trans (B2.out.mono (by have := S1.out; omega))).trans (B3.out.mono (by have := B2.out.size; have := S1.out; omega)))
  have LE3 := Lib.hid (show LensAt w3 from fun i hi => by
    obtain ⟨m, h1, h2, h3⟩ := LE.out i hi
    exact ⟨m, h1, h2, by rw [BW.out.cell (p := ⟨0, i, none⟩) (by exact H0.out)]; exact h3⟩)
  rw [← hbx]
  clear hbx h3 hS R2 N2 B3 B2 X0 B0 LE RW HL S1
  gi_wp2
  refine wpIn_range_rel (gf := 52) (lb := #[.pointer (some ⟨bx, 0, none⟩)]) ?hg ?eg
    (counted_seq _ bx S.length cap2 a2 S w3 rfl HSL.out X3.out R3.out LE3.out ?hx) ?hps
    (fun pre O W => ∃ v, BoxRow w W w.heap.size 40 99 9 pre.length v (pre.flatMap encSl) O) (fun k => k = w.heap.size ∨ (Value.slice none 0 0).ownBlock = some k) ?hO0 ?hI ?hIO ?h0
    (fun pre x a' O W => ∃ Bs v, a' = { tmps := #[.slice ao ln cap, undef, .pointer (some ⟨w.heap.size, 0, none⟩), .pointer (some ⟨Bs, 0, none⟩), .slice ao ln cap, .slice a2 S.length cap2, .func (.func 52) #[] #[.pointer (some ⟨bx, 0, none⟩)], .agg #[.int .i64 x.dev, .int .i64 x.id, .int .i64 x.acc, .int .i64 x.rcd, .int .i64 x.ter, .int .i64 x.sec, .int .i64 x.per, .int .i64 x.ses, .int .i64 x.mrk], undef, undef, undef, undef, undef], defers := [] } ∧
      (∀ k, O k ↔ (k = w.heap.size ∨ v.ownBlock = some k) ∨ k = Bs) ∧ BoxRow w W w.heap.size 40 99 9 pre.length v (pre.flatMap encSl) (fun k => k = w.heap.size ∨ v.ownBlock = some k) ∧ W.heap[Bs]? = some (.cells #[.int .i64 x.dev, .int .i64 x.id, .int .i64 x.acc, .int .i64 x.rcd, .int .i64 x.ter, .int .i64 x.sec, .int .i64 x.per, .int .i64 x.ses, .int .i64 x.mrk] 99 (0, 0))) ?hM ?assign ?body ?done
  case hg => rfl
  case eg => exact enters_of Tryz.func52 (by kernel_rfl) rfl
  case hx =>
    rintro k ((rfl | ⟨off, e⟩) | rfl)
    · exact HBX.out.2
    · exact (N3.out k off e).2
    · have := H0.out; have := BW.out.size; omega
  case hps => exact fun _ => rfl
  case hO0 =>
    intro k hk
    rcases hk with rfl | hk
    · refine ⟨Y3.out.lt, ?_⟩
      rintro ((e | ⟨off, e⟩) | e)
      · have := HBX.out.1; omega
      · have := (N3.out _ off e).1; omega
      · have := H0.out; omega
    · simp [Value.ownBlock] at hk
  case hI => rintro s O A A' C ⟨v, h⟩ hc hC; exact ⟨v, h.chg hc (fun k hk => ⟨by have := (hC k hk).1; have := BW.out.size; omega, (hC k hk).2⟩)⟩
  case hIO =>
    rintro s O A ⟨v, h⟩ k hk
    rcases (h.own k).1 hk with rfl | hk
    · exact h.box.lt
    · exact (owns_ltK h.row k hk).2
  case h0 => exact ⟨_, fun k => Iff.rfl, Y3.out, World.ownsRow_nil _ _ _ _, BW.out, Nat.le_refl _⟩
  case hM =>
    rintro s x a' O A A' C ⟨Bs, v, h2, h3, h4, h5⟩ hc hC
    exact ⟨Bs, v, h2, h3, h4.chg hc (fun k hk => ⟨by have := (hC k hk).1; have := BW.out.size; omega, fun q => (hC k hk).2 ((h3 k).2 (.inl q))⟩), by rw [hc.block _ (Array.getElem?_eq_some_iff.1 h5).1 (fun c => (hC _ c).2 ((h3 _).2 (.inr rfl)))]; exact h5⟩
  case assign =>
    rintro l' pre x O W K hx ⟨v, hbr⟩ hK
    dsimp only [encSt]
    gi_wp2
    have hbr2 := hbr.chg (Chg.alloc (fun _ => False) W (.cells #[.int .i64 x.dev, .int .i64 x.id, .int .i64 x.acc, .int .i64 x.rcd, .int .i64 x.ter, .int .i64 x.sec, .int .i64 x.per, .int .i64 x.ses, .int .i64 x.mrk] 99)) (fun k hk => hk.elim)
    refine hK _ (fun k => (k = w.heap.size ∨ v.ownBlock = some k) ∨ k = W.heap.size) _ ⟨W.heap.size, v, rfl, fun k => Iff.rfl, ⟨fun k => Iff.rfl, hbr2.box, hbr2.row, hbr2.bel, hbr2.bas⟩, World.alloc_heap_new W _⟩ (Chg.alloc _ _ _) ?_
    rintro k (hk | rfl)
    · exact .inl ((hbr.own k).2 hk)
    · exact .inr (Nat.le_refl _)
  case body =>
    rintro l' pre x a' O V hx ⟨Bs, v, rfl, hO, hbr, hbs⟩
    have BR := Lib.hid hbr
    have HO := Lib.hid hO
    have hcell := hbr.box.cell
    have hx39 : pre.length < 39 := hx
    have s0 := cell_blk (o := 0) hbs rfl
    have s1 := cell_blk (o := 1) hbs rfl
    have s2 := cell_blk (o := 2) hbs rfl
    have s3 := cell_blk (o := 3) hbs rfl
    have s4 := cell_blk (o := 4) hbs rfl
    have s5 := cell_blk (o := 5) hbs rfl
    have s6 := cell_blk (o := 6) hbs rfl
    have s7 := cell_blk (o := 7) hbs rfl
    have s8 := cell_blk (o := 8) hbs rfl
    clear hbr hx hbs hO
    gi_wp2_with (first
      | (gi_at_builtin; refine wpListIn_append_own_at _ rfl _ _ 40 rfl w.heap.size 99 i0 _ 9 72 Tryz.underlying40 hi hz0 hz1 hz2 rfl (by decide) _ _ _ rfl (BR.out.row.alloc _) ⟨V.heap.size, 0, none⟩ 1 1 (encSl x) rfl rfl (cells_at _ _ _ _ rfl) (encSl_one _) (by unfold maxLen; omega) (by omega) (by have := BR.out.bel.size; simp; omega) ?_; intro v' w1 own gr hnil hloc; obtain ⟨g', cap', rfl⟩ := ownsRow_succ own; obtain ⟨hv1, hap⟩ := BR.out.appended (by decide) own gr hloc; have AP := Lib.hid hap; have hc1 := hv1.cell; have hf1 := hv1.frozen; clear own gr hnil hloc hap hv1)
      | gi_in)
    obtain ⟨O', h1, h2, h3⟩ := AP.out
    exact ⟨O', ⟨_, by rw [flat_snoc, List.length_append]; exact h1⟩, h2.mono (fun k _ q => (HO.out k).2 (.inl q)), fun k hk => (h3 k hk).imp (fun q => (HO.out k).2 (.inl q)) id⟩
  case done =>
    rintro xs D O W hfin hD hnD ⟨v, hbr⟩ hK
    have hcell := hbr.box.cell
    have hfz := hbr.box.frozen
    have BR := Lib.hid hbr
    obtain ⟨ao3, cap3, hv, h1, h2⟩ := rowK_of_owns encSl_len (by decide) hbr.row
    subst hv
    have HD := Lib.hid (show D ≠ w.heap.size from fun q => hnD (q ▸ (hbr.own _).2 (.inl rfl)))
    have HF := Lib.hid hfin
    clear hbr hfin h1 h2
    gi_wp2
    have hK2 : (W.setCell ⟨w.heap.size, 0, none⟩ (.slice ao3 xs.length cap3)).heap[D]? = some (.deferred (some [])) := (Below.heap_setCell _ _ _ _ HD.out).trans hK
    refine ⟨by simp, .inl ⟨_, _, rfl, run_takeDeferred hK2, ?_⟩⟩
    have hX := Boxed.set (.slice ao3 xs.length cap3) BR.out.box
    have hX2 : Boxed ((W.setCell ⟨w.heap.size, 0, none⟩ (.slice ao3 xs.length cap3)).putObj D (.deferred none)) w.heap.size 40 (.slice ao3 xs.length cap3) := Boxed.blk hX (World.putObj_heap_other (fun q => HD.out q.symm))
    have hB : Below w.heap.size w ((W.setCell ⟨w.heap.size, 0, none⟩ (.slice ao3 xs.length cap3)).putObj D (.deferred none)) := Below.putNew (BR.out.bel.setCell (p := ⟨w.heap.size, 0, none⟩) (Nat.le_refl _) _) (by have := BW.out.size; omega) _
    refine ⟨_, results_cellS (a := 2) rfl rfl (by kernel_rfl) hX2.cell, ao3, cap3, ?_, hB⟩
    rw [← HSE.out, ← HF.out]

end Go.Proofs.YtffifhbldcjelaaGreatDoor

/-! The streams of all plays are those of each device, one after another (plain). -/
namespace Go.Proofs.YtffifhbldcjelaaGreatDoor
set_option linter.unusedVariables false
open Go.RowKit Go.Shelf Go.Lib Go.Sort

theorem strm_app : ∀ (a b : List PF) (s : LS), strm s (a ++ b) = strm s a + strm (runS s a) b
  | [], b, s => by simp [strm, runS]
  | p :: a, b, s => by
    show _ + strm (lookS s p) (a ++ b) = _ + strm (lookS s p) a + strm (runS (lookS s p) a) b
    rw [strm_app a b, Nat.add_assoc]
theorem look1_dev (s : LS) (p : PF) : (look1 s p).dev = p.n 6 := by
  unfold look1
  split
  · rename_i h; exact h
  · rfl
theorem lookS_dev (s : LS) (p : PF) : (lookS s p).dev = p.n 6 := by
  have h2 : (look2 (look1 s p) p).dev = p.n 6 := by
    unfold look2
    split
    · exact look1_dev s p
    · exact look1_dev s p
  unfold lookS
  split
  · exact h2
  · exact h2
theorem runS_dev {d : Int} : ∀ (l : List PF) (s : LS), (∀ p ∈ l, p.n 6 = d) → s.dev = d ∨ l ≠ [] → (runS s l).dev = d
  | [], s, _, h => by
    rcases h with h | h
    · exact h
    · exact absurd rfl h
  | p :: l, s, h, _ => runS_dev l (lookS s p) (fun q hq => h q (List.mem_cons_of_mem _ hq)) (.inl (by rw [lookS_dev]; exact h p (List.mem_cons_self ..)))
/-- at another device the look begins anew -/
theorem look1_new {s t : LS} {p : PF} (h1 : s.dev ≠ p.n 6) (h2 : t.dev ≠ p.n 6) : look1 s p = look1 t p := by
  unfold look1
  rw [if_neg h1, if_neg h2]
theorem lookB_new {s t : LS} {p : PF} (h1 : s.dev ≠ p.n 6) (h2 : t.dev ≠ p.n 6) : lookB s p = lookB t p ∧ lookS s p = lookS t p := by
  have e := look1_new h1 h2
  have hb : lookB s p = lookB t p := by unfold lookB; rw [e]
  exact ⟨hb, by unfold lookS; rw [hb, e]⟩
theorem strm_new {d : Int} {l : List PF} {s t : LS} (hl : ∀ p ∈ l, p.n 6 = d) (h1 : s.dev ≠ d) (h2 : t.dev ≠ d) : strm s l = strm t l := by
  rcases l with _ | ⟨p, l⟩
  · rfl
  · have hp := hl p (List.mem_cons_self ..)
    obtain ⟨e1, e2⟩ := lookB_new (p := p) (s := s) (t := t) (by rw [hp]; exact h1) (by rw [hp]; exact h2)
    show _ + _ = _ + _
    rw [e1, e2]
theorem runS_other {d : Int} {l : List PF} {s : LS} {e : Int} (hl : ∀ p ∈ l, p.n 6 = d) (hs : s.dev ≠ e) (hd : d ≠ e) : (runS s l).dev ≠ e := by
  rcases l with _ | ⟨p, l⟩
  · exact hs
  · rw [runS_dev (d := d) (p :: l) s hl (.inr (by simp))]
    exact hd
theorem ltP_dev {x y : PF} (h : x.n 6 < y.n 6) : ltOf cfP x y = true := (ltP_iff x y).2 (.inl h)

/-- the plays of a device -/
def devL (d : Int) (L : List PF) : List PF := L.filter fun p => decide (p.n 6 = d)
theorem ordL_dev (d : Int) (L : List PF) : (ordL L).filter (fun p => decide (p.n 6 = d)) = ordL (devL d L) := by
  unfold ordL devL
  rw [isort_filter wko_cfP _ _ _ rfl, List.filter_filter, List.filter_filter]
  congr 1
  apply List.filter_congr
  intro x _
  exact Bool.and_comm _ _
theorem mem_ordL {p : PF} {L : List PF} (h : p ∈ ordL L) : p ∈ L := (List.mem_filter.1 ((isort_perm _ _ rfl).mem_iff.1 h)).1
theorem streams_split (L : List PF) (h : ∀ p ∈ L, p.n 6 = 1 ∨ p.n 6 = 2 ∨ p.n 6 = 3) :
    strm s0L (ordL L) = strm s0L (ordL (devL 1 L)) + (strm s0L (ordL (devL 2 L)) + strm s0L (ordL (devL 3 L))) := by
  have h3 := three_parts (dev := fun p : PF => p.n 6) (fun x y h => ltP_dev h) (ordL L) (isort_sorted wko_cfP _) (fun x hx => h x (mem_ordL hx))
  have hd : ∀ d, ∀ p ∈ ordL (devL d L), p.n 6 = d := fun d p hp => by
    have := (List.mem_filter.1 (mem_ordL hp)).2
    exact of_decide_eq_true this
  rw [show (fun x : PF => decide ((fun p : PF => p.n 6) x = 1)) = (fun p => decide (p.n 6 = 1)) from rfl, show (fun x : PF => decide ((fun p : PF => p.n 6) x = 2)) = (fun p => decide (p.n 6 = 2)) from rfl, show (fun x : PF => decide ((fun p : PF => p.n 6) x = 3)) = (fun p => decide (p.n 6 = 3)) from rfl, ordL_dev, ordL_dev, ordL_dev] at h3
  rw [h3, strm_app, strm_app]
  have s0 : s0L.dev = 0 := rfl
  have d1 : ∀ e : Int, e ≠ 0 → e ≠ 1 → (runS s0L (ordL (devL 1 L))).dev ≠ e := fun e h1 h2 => runS_other (hd 1) (by rw [s0]; exact fun q => h1 q.symm) (fun q => h2 q.symm)
  rw [strm_new (hd 2) (d1 2 (by decide) (by decide)) (show s0L.dev ≠ 2 by decide)]
  rw [strm_new (hd 3) (runS_other (hd 2) (d1 3 (by decide) (by decide)) (by decide)) (show s0L.dev ≠ 3 by decide)]

end Go.Proofs.YtffifhbldcjelaaGreatDoor

/-! wire.PutInt at any number. -/
namespace Go.Proofs.YtffifhbldcjelaaGreatDoor
set_option linter.unusedVariables false
set_option linter.unusedSimpArgs false
set_option linter.unusedSectionVars false
open Go.RowKit

attribute [local go_sem] Oper.semAt_some

theorem groups_any (z : Int) (w : World) :
    Calls Tryz.prog 45 #[.int .u64 z] w fun e w' => e = .returned (.func (.func 82) #[] #[.pointer (some ⟨w.heap.size, 0, none⟩)]) ∧ w' = w.alloc (.cells #[.int .u64 z] 119) := by
  go_enter Tryz.func45, Tryz.ntmps45
  go_wp2
  go_ret
  exact ⟨rfl, rfl⟩

/-- the groups of seven bits, and which is the last -/
def grp (z : Nat) : List (Nat × Bool) := if h : z < 128 then [(z, true)] else (z % 128, false) :: grp (z / 128)
termination_by z
decreasing_by omega
theorem grp_low {z : Nat} (h : z < 128) : grp z = [(z, true)] := by rw [grp, dif_pos h]
theorem grp_high {z : Nat} (h : ¬ z < 128) : grp z = (z % 128, false) :: grp (z / 128) := by rw [grp, dif_neg h]
theorem grp_len : ∀ (k z : Nat), z < 128 ^ (k + 1) → (grp z).length ≤ k + 1
  | 0, z, h => by rw [grp_low (by simpa using h)]; simp
  | k + 1, z, h => by
    by_cases q : z < 128
    · rw [grp_low q]; simp
    · rw [grp_high q]
      have := grp_len k (z / 128) (by rw [Nat.div_lt_iff_lt_mul (by omega)]; rw [Nat.pow_succ] at h; exact h)
      simpa using this
theorem grp_pos (z : Nat) : 1 ≤ (grp z).length := by
  rw [grp]
  split <;> simp
def encG (g : Nat × Bool) : Array Value := #[.int .u8 (g.1 : Int), .bool g.2]
theorem wraps_u64 (n : Int) (h0 : 0 ≤ n) (h1 : n < 2 ^ 64) : IntKind.u64.wrap n = n := by
  have : IntKind.u64.wrap n = n % 18446744073709551616 := by simp [IntKind.wrap, IntKind.bits, IntKind.signed]
  rw [this]
  have e : (2 : Int) ^ 64 = 18446744073709551616 := by decide
  rw [e] at h1
  exact Int.emod_eq_of_lt h0 h1
theorem and127 (z : Int) (h0 : 0 ≤ z) (h1 : z < 18446744073709551616) : bits .and .u64 z 127 = z % 128 := by
  have e : (2 : Int) ^ 64 = 18446744073709551616 := by decide
  exact bits_mask .u64 64 (by decide) wraps_u64 7 (by decide) z h0 (by rw [e]; exact h1)

set_option maxRecDepth 100000 in
set_option maxHeartbeats 2000000 in
theorem groups_seq (n bx z : Nat) (w : World) (hz : z < 18446744073709551616) (hb : Boxed w bx 119 (.int .u64 (z : Int))) :
    SeqOwx n Tryz.prog 82 #[.pointer (some ⟨bx, 0, none⟩)] encG (fun k => k = bx) (grp z) w := by
  intro lp J O W hW hO hJ hY h0
  have HBX := Lib.hid (show Boxed W bx 119 (.int .u64 (z : Int)) from Boxed.blk hb (hW.block bx (Boxed.lt hb)))
  have HNO := Lib.hid (show ¬ O bx from fun q => (hO bx q).2 rfl)
  have HJ := Lib.hid hJ
  have HY := Lib.hid hY
  have H0 := Lib.hid h0
  have HS := Lib.hid hW.size
  clear hJ hY h0 hO hW hb
  refine callsIn_of_wp Tryz.func82 rfl trivial ?_ rfl
  simp only [Tryz.ntmps82, List.size_toArray, List.length_cons, List.length_nil, Nat.reduceAdd, Nat.reduceSub, Array.replicate_succ, Array.replicate_zero, List.push_toArray, List.append_toArray, List.nil_append, List.cons_append]
  gi_wp2
  gi_loopw [3] (fun i wr => ∃ (z1 : Nat) (pre : List (Nat × Bool)) (O1 : Nat → Prop), z1 < 18446744073709551616 ∧ grp z = pre ++ grp z1 ∧ J pre O1 wr ∧ ¬ O1 bx ∧ Boxed wr bx 119 (.int .u64 (z1 : Int))) (fun _ wr => match wr.cell? ⟨bx, 0, none⟩ with | some (.int _ v) => v.toNat | _ => 0)
  case atStart => exact ⟨z, [], O, hz, rfl, H0.out, HNO.out, HBX.out⟩
  case round =>
    obtain ⟨z1, pre, O1, hz1, hg, hj, hno, hbx⟩ := hrel
    have hcb : wr.cell? ⟨bx, 0, none⟩ = some (.int .u64 (z1 : Int)) := Boxed.cell hbx
    have ha := and127 (z1 : Int) (by omega) (by omega)
    by_cases q : z1 < 128
    · obtain ⟨fn, tmps, assign, body, hy, hR⟩ := HY.out pre (z1, true) [] O1 wr (by rw [hg, grp_low q]) hj
      dsimp only [encG] at hy
      have HRD := Lib.hid hR
      have z0 : (0 : Int) ≤ (z1 : Int) := by omega
      have z2 : (z1 : Int) < 128 := by omega
      have zm : (z1 : Int) % 128 = (z1 : Int) := by omega
      have zw : IntKind.u8.wrap (z1 : Int) = (z1 : Int) := by rw [IntKind.wrap_u8]; omega
      have HG := Lib.hid (show grp z = pre ++ [(z1, true)] from by rw [hg, grp_low q])
      rw [zm] at ha
      clear hR hg hj hbx
      gi_wp2
      refine ⟨fun h => absurd h (by simp [Fence.wide]), HRD.out.mono ?_⟩
      rintro e W3 ⟨rfl, O2, hj3, hc3, ho3⟩
      have H3 := Lib.hid hj3
      clear hj3 hc3 ho3
      gi_wp2
      refine bodyPost_ret (v := .tuple #[]) (results_none rfl _ _ _) rfl ⟨⟨_, rfl⟩, O2, ?_⟩
      rw [HG.out]
      exact H3.out
    · obtain ⟨fn, tmps, assign, body, hy, hR⟩ := HY.out pre (z1 % 128, false) (grp (z1 / 128)) O1 wr (by rw [hg, grp_high q]) hj
      dsimp only [encG] at hy
      have HRD := Lib.hid hR
      have z0 : (0 : Int) ≤ (z1 : Int) := by omega
      have z2 : ¬ (z1 : Int) < 128 := by omega
      have zw : IntKind.u8.wrap ((z1 : Int) % 128) = (z1 : Int) % 128 := by rw [IntKind.wrap_u8]; omega
      have HG := Lib.hid (show grp z = (pre ++ [(z1 % 128, false)]) ++ grp (z1 / 128) from by rw [hg, grp_high q]; simp)
      have hy2 : ((z1 % 128 : Nat) : Int) = (z1 : Int) % 128 := by omega
      rw [hy2] at hy
      have HB := Lib.hid hbx
      have HN := Lib.hid hno
      clear hR hg hj hbx hno hy2
      gi_wp2
      refine ⟨fun h => absurd h (by simp [Fence.wide]), HRD.out.mono ?_⟩
      rintro e W3 ⟨rfl, O2, hj3, hc3, ho3⟩
      have B3 := Lib.hid (show Boxed W3 bx 119 (.int .u64 (z1 : Int)) from Boxed.blk HB.out (hc3.block bx (Boxed.lt HB.out) HN.out))
      have N3 := Lib.hid (show ¬ O2 bx from fun q => by
        rcases ho3 bx q with q | q
        · exact HN.out q
        · have := Boxed.lt HB.out; omega)
      have J3 := Lib.hid hj3
      have c3 : W3.cell? ⟨bx, 0, none⟩ = some (.int .u64 (z1 : Int)) := Boxed.cell B3.out
      have f3 : W3.frozen? ⟨bx, 0, none⟩ = false := Boxed.frozen B3.out
      clear hj3 hc3 ho3 hcb ha
      gi_wp2
      have hc9 : Chg (fun k => k = bx) W3 (W3.setCell ⟨bx, 0, none⟩ (.int .u64 ((z1 : Int) / 128))) := Chg.grown (grownBy_setCell' W3 bx _) (fun k e => by cases e; rfl)
      have e9 : (z1 : Int) / 128 = ((z1 / 128 : Nat) : Int) := by omega
      refine ⟨⟨z1 / 128, _, O2, by omega, HG.out, HJ.out _ _ _ _ _ J3.out hc9 (fun k hk => ⟨.inr hk, by subst hk; exact N3.out⟩), N3.out, ?_⟩, ?_⟩
      · rw [← e9]
        exact Boxed.set _ B3.out
      · rw [Boxed.cell (Boxed.set _ B3.out), Boxed.cell HB.out]
        show ((z1 : Int) / 128).toNat < (z1 : Int).toNat
        omega

end Go.Proofs.YtffifhbldcjelaaGreatDoor
