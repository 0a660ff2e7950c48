/-
  The keys of the node's proposals, sorted. maps.Clone of the digests that are accepted. The node's Asked.
-/
import Derived.Test.YtifcdjmcoibblaaGreatDoorG28
import Derived.Test.YtifcdjmcoibblaaGreatDoorG06
import Derived.Laws.Externs
import Derived.MapKept
import Derived.Test.YtifcdjmcoibblaaGreatDoorG18
import Derived.Test.YtifcdjmcoibblaaGreatDoorG22
import Derived.Test.YtifcdjmcoibblaaGreatDoorG07
import Derived.Test.YtifcdjmcoibblaaGreatDoorG29

/-! The keys of the node's proposals, sorted. -/
namespace Go.Proofs.YtifcdjmcoibblaaGreatDoor
set_option linter.unusedVariables false
set_option linter.unusedSimpArgs false
open Go.RowKit Go.Sort Go.Lib

attribute [local go_sem] Oper.semAt_some

def encIV (p : Int × Value) : Value × Value := (.int .i64 p.1, p.2)

/-- the keys given so far, and the entries that are left -/
def PartM (l : List (Int × Value)) (pre : List Int) (left : List (Value × Value)) : Prop :=
 ∃ lf : List (Int × Value), left = lf.map encIV ∧ (pre ++ lf.map (·.1)).Perm (l.map (·.1))

theorem PartM.step {l : List (Int × Value)} {pre : List Int} {left p post : List (Value × Value)} {k v : Value} (h : PartM l pre left) (hl : left = p ++ (k, v) :: post) :
  ∃ i, k = .int .i64 i ∧ i ∈ l.map (·.1) ∧ pre.length < l.length ∧ PartM l (pre ++ [i]) (p ++ post) := by
 obtain ⟨lf, rfl, hp⟩ := h
 obtain ⟨lp, ⟨i, a⟩, lq, rfl, e2, rfl, rfl⟩ := map_split hl
 cases e2
 have hm : i ∈ l.map (·.1) := hp.mem_iff.1 (by simp)
 refine ⟨i, rfl, hm, by have := hp.length_eq; simp at this; omega, lp ++ lq, by rw [List.map_append], ?_⟩
 refine List.Perm.trans ?_ hp
 rw [List.append_assoc]
 refine List.Perm.append_left _ ?_
 simpa using (List.perm_middle (a := i) (l₁ := lp.map (·.1)) (l₂ := lq.map (·.1))).symm
theorem PartM.fin {l : List (Int × Value)} {pre : List Int} (h : PartM l pre []) : pre.Perm (l.map (·.1)) := by
 obtain ⟨lf, e, hp⟩ := h
 have : lf = [] := by simpa using e.symm
 subst this
 simpa using hp

theorem mkeys_any (M : Nat) (w : World) :
  Calls Tryz.prog 84 #[.map (some M)] w fun e w' => e = .returned (.func (.func 140) #[] #[.pointer (some ⟨w.heap.size, 0, none⟩)]) ∧ w' = w.alloc (.cells #[.map (some M)] 110) := by
 go_enter Tryz.func84, Tryz.ntmps84
 go_wp2
 go_ret
 exact ⟨rfl, rfl⟩

set_option maxRecDepth 100000 in
set_option maxHeartbeats 2000000 in
theorem mkeys_seq {w : World} {M : Nat} {l : List (Int × Value)} (n : Nat) (h : RawMap w M (l.map encIV)) (bx : Nat) (hbx : w.cell? ⟨bx, 0, none⟩ = some (.map (some M))) :
  SeqOwn n Tryz.prog 140 #[.pointer (some ⟨bx, 0, none⟩)] encKI (fun pre x => x ∈ l.map (·.1) ∧ pre.length < l.length) (fun k => k = M) (fun xs => xs.Perm (l.map (·.1))) w := by
 intro lp J O W hW hO hJ hY h0
 obtain ⟨L, hLL⟩ : ∃ L, L = l.map encIV := ⟨_, rfl⟩
 have HP := Lib.hid (show PartM l [] L from ⟨l, hLL, by simp⟩)
 rw [← hLL] at h
 have hL : RawMap W M L := h.kept (hW.block M h.lt)
 have hbc : W.cell? ⟨bx, 0, none⟩ = some (.map (some M)) := by rw [hW.cell (p := ⟨bx, 0, none⟩) (World.block_lt_of_cell? _ _ hbx)]; exact hbx
 have HJ := Lib.hid hJ
 have HY := Lib.hid hY
 have HL := Lib.hid hL
 have HOM := Lib.hid (show ¬ O M from fun q => (hO M q).2 rfl)
 have HOB := Lib.hid (show ¬ O W.heap.size from fun q => by have := (hO _ q).1; have := hW.size; omega)
 have H0 := Lib.hid h0
 have HMS := Lib.hid (show M < W.heap.size from hL.lt)
 clear hJ hY hLL hL hbx hO h0 hW h
 refine callsIn_of_wp Tryz.func140 rfl trivial ?_ rfl
 simp only [Tryz.ntmps140, List.size_toArray, List.length_cons, List.length_nil, Nat.reduceAdd, Nat.reduceSub, Array.replicate_succ, Array.replicate_zero, List.push_toArray, List.append_toArray, List.nil_append, List.cons_append]
 gi_wp2_with (gi_at_range; refine wpListIn_range_raw _ rfl _ 110 (by rfl) 3 36 Tryz.underlying110 M L (by rfl) HL.out ?_; intro ob hob; have RG0 := Lib.hid hob; have JJ0 := Lib.hid (HJ.out _ _ _ _ _ H0.out (Chg.alloc (fun _ => False) W ob) (fun k h => h.elim)); clear hob)
 obtain ⟨it, hit⟩ : ∃ it, W.heap.size = it := ⟨_, rfl⟩
 rw [hit] at RG0 HOB ⊢
 have HIT := Lib.hid hit
 clear hit
 try go_frame
 gi_loopw [] (fun wr => ∃ (pre : List Int) (left : List (Value × Value)) (O1 : Nat → Prop), J pre O1 wr ∧ RawRange wr M it L left ∧ PartM l pre left ∧ ¬ O1 M ∧ ¬ O1 it) (fun wr => wr.rangeLeft M it)
 case atStart => exact ⟨[], L, O, JJ0.out, RG0.out, HP.out, HOM.out, HOB.out⟩
 case round =>
  obtain ⟨pre, left, O1, hj, hrg, hpt, hom, hoi⟩ := hrel
  have JJ := Lib.hid hj
  have RG := Lib.hid hrg
  have LEN := Lib.hid hrg.left_len
  have PT := Lib.hid hpt
  have OM := Lib.hid hom
  have OI := Lib.hid hoi
  clear hj hrg hpt hom hoi
  gi_wp2_with (gi_at_next; refine wpListIn_next_raw _ rfl _ (by rfl) M it L left (by rfl) RG.out ?_ ?_)
  ·intro hl
   subst hl
   gi_wp2
   go_end0
   exact ⟨⟨_, rfl⟩, _, _, PT.out.fin, JJ.out⟩
  ·intro k x p post w2 hl hm hr2 hg2 hs2 hen2
   obtain ⟨i, rfl, he, hpl, hpt2⟩ := PT.out.step hl
   have HLL := Lib.hid hl
   have PT2 := Lib.hid hpt2
   have RG2 := Lib.hid hr2
   have J2 := Lib.hid (HJ.out _ _ _ _ _ JJ.out (Chg.grown (C := fun k => k = it) hg2 (fun k e => by cases e; rfl)) (fun k hk => by subst hk; exact ⟨by rw [HIT.out]; exact Nat.le_refl _, OI.out⟩))
   obtain ⟨fn, tmps, assign, body, hy, hR⟩ := HY.out _ _ _ _ ⟨he, hpl⟩ J2.out
   dsimp only [encKI] at hy
   have HRD := Lib.hid hR
   clear hl hm hr2 hg2 hs2 hpt2 hR
   gi_wp2
   refine ⟨fun h => absurd h (by simp [Fence.wide]), HRD.out.mono ?_⟩
   rintro e3 W3 ⟨rfl, O2, hj3, hc3, ho3⟩
   have RR := Lib.hid (show RawRange W3 M it L (p ++ post) ∧ ¬ O2 M ∧ ¬ O2 it from ⟨RG2.out.kept (hc3.block _ RG2.out.map.lt OM.out) (hc3.block _ (by obtain ⟨_, _, _, _, _, _, _, _, _, q, _⟩ := RG2.out; exact lt_of_blk q) OI.out), (fun q => by rcases ho3 _ q with q | q; exact OM.out q; have := RG2.out.map.lt; omega), (fun q => by rcases ho3 _ q with q | q; exact OI.out q; obtain ⟨_, _, _, _, _, _, _, _, _, q2, _⟩ := RG2.out; have := lt_of_blk q2; omega)⟩)
   have J3 := Lib.hid hj3
   clear hj3 hc3 ho3
   gi_wp2
   go_roundw
   case rel => exact ⟨_, _, O2, J3.out, RR.out.1, PT2.out, RR.out.2.1, RR.out.2.2⟩
   case measure => rw [RR.out.1.left_len, LEN.out, HLL.out]; simp

set_option maxRecDepth 100000 in
set_option maxHeartbeats 2000000 in
theorem mappseq_any (n bx M : Nat) (l : List (Int × Value)) (w : World) (hn : l.length ≤ 1000) (hm : RawMap w M (l.map encIV)) (hb : w.cell? ⟨bx, 0, none⟩ = some (.map (some M))) :
  CallsIn Fence.wide n Tryz.prog 184 #[.slice none 0 0, .func (.func 140) #[] #[.pointer (some ⟨bx, 0, none⟩)]] w fun e w' => ∃ (v : Value) (xs : List Int), e = .returned v ∧ xs.Perm (l.map (·.1)) ∧ w'.ownsRow w.heap.size 3 1 v xs.length (xs.flatMap encI1) ∧ Below w.heap.size w w' := by
 obtain ⟨i0, hi, hz0, hz1, hz2⟩ := info_parts Tryz.infoI1
 have HR := Lib.hid hm
 clear hm
 refine callsIn_of_wp_marks Tryz.func184 rfl trivial ?_ rfl
 simp only [Tryz.ntmps184, List.size_toArray, List.length_cons, List.length_nil, Nat.reduceAdd, Nat.reduceSub, Array.replicate_succ, Array.replicate_zero, List.push_toArray, List.append_toArray, List.nil_append, List.cons_append]
 gi_wp2
 obtain ⟨W2, hW2⟩ : ∃ W2, w.alloc (.cells #[.slice none 0 0] 47) = W2 := ⟨_, rfl⟩
 have hs2 : W2.heap.size = w.heap.size + 1 := by rw [← hW2]; simp
 have B2 := Lib.hid (show Below w.heap.size w W2 by rw [← hW2]; exact (Below.refl _ w).alloc (Nat.le_refl _) _)
 have BX := Lib.hid (show Boxed W2 w.heap.size 47 (.slice none 0 0) by rw [← hW2]; exact Boxed.new w _ _)
 have BM := Lib.hid (show W2.cell? ⟨bx, 0, none⟩ = some (.map (some M)) by rw [← hW2]; exact cell_up hb _)
 have RM := Lib.hid (show RawMap W2 M (l.map encIV) from HR.out.kept (B2.out.block M HR.out.lt))
 rw [hW2]
 have HS2 := Lib.hid hs2
 clear hW2 hs2
 refine wpIn_range_own (gf := 140) (lb := #[.pointer (some ⟨bx, 0, none⟩)]) rfl (enters_of Tryz.func140 (by kernel_rfl) rfl)
  (mkeys_seq _ RM.out bx BM.out) (fun _ => rfl)
  (fun pre O W => ∃ v, BoxRow w W w.heap.size 47 3 1 pre.length v (pre.flatMap encI1) O) (fun k => k = w.heap.size ∨ (Value.slice none 0 0).ownBlock = some k) ?hO0 ?hI ?h0
  (fun pre x a' O W => a' = { tmps := #[.slice none 0 0, .func (.func 140) #[] #[.pointer (some ⟨bx, 0, none⟩)], .pointer (some ⟨w.heap.size, 0, none⟩), undef, .slice none 0 0, .int .i64 x, .func (.func 140) #[] #[.pointer (some ⟨bx, 0, none⟩)], .int .i64 x, undef, undef, undef, undef, undef], defers := [] } ∧
   ∃ v, BoxRow w W w.heap.size 47 3 1 pre.length v (pre.flatMap encI1) O) ?hM ?assign ?body ?done
 case hO0 =>
  intro k hk
  rcases hk with rfl | hk
  ·exact ⟨by have := HS2.out; omega, fun h => by have := HR.out.lt; omega⟩
  ·simp [Value.ownBlock] at hk
 case hI => rintro s O A A' C ⟨v, h⟩ hc hC; exact ⟨v, h.chg hc (fun k hk => ⟨by have := (hC k hk).1; have := HS2.out; omega, (hC k hk).2⟩)⟩
 case h0 => exact ⟨_, fun k => Iff.rfl, BX.out, World.ownsRow_nil _ _ _ _, B2.out, Nat.le_refl _⟩
 case hM => rintro s x a' O A A' C ⟨e, v, h⟩ hc hC; exact ⟨e, v, h.chg hc (fun k hk => ⟨by have := (hC k hk).1; have := HS2.out; omega, (hC k hk).2⟩)⟩
 case assign =>
  intro l' pre x O W K hx hi hK
  dsimp only [encKI]
  gi_wp2
  exact hK _ O W ⟨rfl, hi⟩ (Chg.refl _ _) (fun k h => .inl h)
 case body =>
  rintro l' pre x a' O W hx ⟨rfl, v, hbr⟩
  have BR := Lib.hid hbr
  have hcell := hbr.box.cell
  have hpl : pre.length ≤ 1000 := by
   have := hx.2; omega
  clear hbr hx
  gi_wp2_with (first
   | (gi_at_builtin; refine wpListIn_append_own_at _ rfl _ _ 47 rfl w.heap.size 3 i0 (.int .i64 0) 1 8 Tryz.underlying47 hi hz0 hz1 hz2 rfl (by decide) _ _ _ rfl (BR.out.row.alloc _) ⟨W.heap.size, 0, none⟩ 1 1 (encI1 x) rfl rfl (cells_at _ _ _ _ rfl) (encI1_one _) (by unfold maxLen; omega) (by omega) (by have := BR.out.bel.size; simp; omega) ?_; intro v' w1 own gr hnil hloc; obtain ⟨g', cap', rfl⟩ := ownsRow_succ own; obtain ⟨hv1, hap⟩ := BR.out.appended (by decide) own gr hloc; have AP := Lib.hid hap; have hc1 := hv1.cell; have hf1 := hv1.frozen; clear own gr hnil hloc hap hv1)
   | gi_in)
  obtain ⟨O', h1, h2, h3⟩ := AP.out
  exact ⟨O', ⟨_, by rw [flat_snoc, List.length_append]; exact h1⟩, h2, h3⟩
 case done =>
  rintro D xs O W hD hnD hxs ⟨v, hbr⟩ hK
  have HXS := Lib.hid hxs
  have hcell := hbr.box.cell
  have BR := Lib.hid hbr
  obtain ⟨ao, cap, hv, h1, h2⟩ := rowK_of_owns encI1_len (by decide) hbr.row
  subst hv
  clear hbr hxs
  gi_wp2
  refine ⟨by simp, .inl ⟨_, _, rfl, run_takeDeferred hK, ?_⟩⟩
  have hB := BR.out.chg (Chg.put W D (.deferred none) (C := fun k => k = D) rfl) (fun k hk => by subst hk; exact ⟨by have := HS2.out; omega, hnD⟩)
  exact ⟨_, results_tmp rfl _ _ _, .slice ao xs.length cap, xs, rfl, HXS.out, hB.row, hB.bel⟩

theorem mcollect_any (n bx M : Nat) (l : List (Int × Value)) (w : World) (hn : l.length ≤ 1000) (hm : RawMap w M (l.map encIV)) (hb : w.cell? ⟨bx, 0, none⟩ = some (.map (some M))) :
  CallsIn Fence.wide n Tryz.prog 138 #[.func (.func 140) #[] #[.pointer (some ⟨bx, 0, none⟩)]] w fun e w' => ∃ (v : Value) (xs : List Int), e = .returned v ∧ xs.Perm (l.map (·.1)) ∧ w'.ownsRow w.heap.size 3 1 v xs.length (xs.flatMap encI1) ∧ Below w.heap.size w w' := by
 have AS := Lib.hid (fun m => mappseq_any m bx M l w hn hm hb)
 clear hm hb
 refine callsIn_of_wp Tryz.func138 rfl trivial ?_ rfl
 simp only [Tryz.ntmps138, List.size_toArray, List.length_cons, List.length_nil, Nat.reduceAdd, Nat.reduceSub, Array.replicate_succ, Array.replicate_zero, List.push_toArray, List.append_toArray, List.nil_append, List.cons_append]
 gi_wp2
 refine ⟨trivial, fun h => absurd h (by simp [Fence.wide]), (AS.out _).mono ?_⟩
 rintro e W2 ⟨v, xs, rfl, hpm, h2⟩
 have PM := Lib.hid hpm
 have H2 := Lib.hid h2
 obtain ⟨ao2, cap2, rfl, _, _⟩ := rowK_of_owns encI1_len (by decide) h2.1
 clear h2 hpm
 gi_wp2
 go_ret
 exact ⟨_, _, rfl, PM.out, H2.out⟩

/-- slices.Sorted of the keys -/
theorem msorted_any (n bx M : Nat) (l : List (Int × Value)) (w : World) (hn : l.length ≤ 1000) (hm : RawMap w M (l.map encIV)) (hb : w.cell? ⟨bx, 0, none⟩ = some (.map (some M))) :
  CallsIn Fence.wide n Tryz.prog 83 #[.func (.func 140) #[] #[.pointer (some ⟨bx, 0, none⟩)]] w fun e w' => ∃ v, e = .returned v ∧ w'.ownsRow w.heap.size 3 1 v l.length ((sortI (l.map (·.1))).map (Value.int .i64)) ∧ Below w.heap.size w w' := by
 have CO := Lib.hid (fun m => mcollect_any m bx M l w hn hm hb)
 clear hm hb
 refine callsIn_of_wp Tryz.func83 rfl trivial ?_ rfl
 simp only [Tryz.ntmps83, List.size_toArray, List.length_cons, List.length_nil, Nat.reduceAdd, Nat.reduceSub, Array.replicate_succ, Array.replicate_zero, List.push_toArray, List.append_toArray, List.nil_append, List.cons_append]
 gi_wp2
 refine ⟨trivial, fun h => absurd h (by simp [Fence.wide]), (CO.out _).mono ?_⟩
 rintro e W2 ⟨v, xs, rfl, hpm, hrow, hbl⟩
 have hxl : xs.length = l.length := by have := hpm.length_eq; simpa using this
 have hsl := merge_sortI hpm
 rw [flat_I1] at hrow
 rcases hrow.2 with ⟨rfl, hz⟩ | ⟨gb, cp, cur, rfl, hbase, hgb, r1, r2, r3, r4⟩
 ·have hx : xs = [] := List.eq_nil_of_length_eq_zero hz
  subst hx
  have hl0 : l = [] := List.eq_nil_of_length_eq_zero (by simpa using hxl.symm)
  subst hl0
  have HB := Lib.hid hbl
  clear hrow hbl hpm hxl hsl
  gi_wp2
  refine wide_call (Tryz.slices_Sort_int_none none 0 W2) ?_
  rintro e w' ⟨rfl, rfl⟩
  gi_wp2
  go_ret
  exact ⟨_, rfl, by simpa [sortI] using World.ownsRow_nil w' w.heap.size 3 1, HB.out⟩
 ·have hr4 : cur.toList.take xs.length = xs.map (Value.int .i64) := by simpa using r4
  have hH : Holds (Value.int .i64) W2 gb 0 xs.toArray := holds_of_blockI hgb hr4
  have hcall := Tryz.slices_Sort_int gb 0 cp xs W2 hH (lt_of_blk hgb) (by omega)
  rw [hsl, hxl] at hcall
  have CA := Lib.hid hcall
  have FIN := Lib.hid (show ∀ m os, (grow (putRow (Value.int .i64) (Sort.ahead W2 m) gb 0 (sortI (l.map (·.1))).toArray) os).ownsRow w.heap.size 3 1 (.slice (some ⟨gb, 0, none⟩) l.length cp) l.length ((sortI (l.map (·.1))).map (Value.int .i64)) ∧ Below w.heap.size w (grow (putRow (Value.int .i64) (Sort.ahead W2 m) gb 0 (sortI (l.map (·.1))).toArray) os) from fun m os => by
   have h1 := ownsRow_sortedI (os := os) (n := m) (ts := sortI (l.map (·.1))) (ss := xs) (by rw [← hsl, List.length_mergeSort]) hbase hgb r1 r2 r3
   rw [hxl] at h1
   exact ⟨h1, hbl.grown (grownBy_sortedI _) hbl.size (fun j hj => by cases hj; exact hbase)⟩)
  rw [hxl]
  clear hrow hbl hH hcall hr4 hgb r1 r2 r3 r4 hpm hxl hsl
  gi_wp2
  refine wide_call CA.out ?_
  rintro e w' ⟨rfl, m, os, rfl⟩
  have F2 := Lib.hid (FIN.out m os)
  gi_wp2
  go_ret
  exact ⟨_, rfl, F2.out⟩

end Go.Proofs.YtifcdjmcoibblaaGreatDoor

/-! maps.Clone of the digests that are accepted. -/
namespace Go.Proofs.YtifcdjmcoibblaaGreatDoor
set_option linter.unusedVariables false
set_option linter.unusedSimpArgs false
open Go.RowKit Go.Maps

/-- 'x.(M)' where x's dynamic type is the map type M -/
theorem run_assert_map {P : Program} (w : World) (t xT k e : TypeId) (v : Value) (h : P.underlying t = some (.map k e)) : (Instr.typeAssert (.iface t v) xT t false).run P w = .ok v w := by
 simp [Instr.typeAssert, run_underlying h, go_sem, Result.andThen]
theorem run_clone_map {P : Program} (w : World) {r : Nat} {es : Array MapEntry} {clock : Nat} (t : TypeId) (hb : w.heap[r]? = some (.map es clock)) :
  (Extern.MapsClone.clone #[.iface t (.map (some r))]).run P w = .ok (.iface t (.map (some w.heap.size))) (w.alloc (.map es clock)) := by
 have e : Extern.MapsClone.clone #[.iface t (.map (some r))] = (getObj r >>= fun o => match o with
   | .map entries clock => (newObj (.map entries clock) >>= fun n => pure (.iface t (.map (some n))))
   | _ => stuck "maps.clone: a map expected") := rfl
 rw [e]
 simp [MapKept.run_getObj_map hb, Result.andThen, go_sem]

set_option maxRecDepth 100000 in
set_option maxHeartbeats 2000000 in
theorem mclone_any {w : World} {b : Nat} {L : List (Value × Value)} (h : RawMap w b L) :
  Calls Tryz.prog 82 #[.map (some b)] w fun e w' => e = .returned (.map (some w.heap.size)) ∧ RawMap w' w.heap.size L ∧ Below w.heap.size w w' := by
 obtain ⟨es, clock, hb, h2⟩ := h
 have HB := Lib.hid hb
 have FIN := Lib.hid (show RawMap (w.alloc (.map es clock)) w.heap.size L from ⟨es, clock, World.alloc_heap_new w _, h2⟩)
 clear h2
 have qT : ∀ (w : World) (r : Option Nat), (binOp .eql 109 (.map r) (.map none)).run Tryz.prog w = .ok (.bool r.isNone) w := fun w r => run_eql_map_nil w _ _ _ r Tryz.underlying109
 go_enter Tryz.func82, Tryz.ntmps82
 go_wp2
 rw [run_callFunc_extern Tryz.func137 (by kernel_rfl) (by kernel_rfl) (by kernel_rfl) (e := Extern.MapsClone.clone) (by kernel_rfl), run_clone_map w 109 HB.out]
 simp only [Result.andThen]
 rw [Oper.upon_value]
 go_wp2
 rw [run_assert_map _ 109 _ _ _ _ Tryz.underlying109]
 simp only [Result.andThen]
 rw [Oper.upon_value]
 go_wp2
 go_ret
 exact ⟨rfl, FIN.out, (Below.refl _ _).alloc (Nat.le_refl _) _⟩

end Go.Proofs.YtifcdjmcoibblaaGreatDoor

/-! The node's Asked. -/
namespace Go.Proofs.YtifcdjmcoibblaaGreatDoor
set_option linter.unusedVariables false
set_option linter.unusedSimpArgs false
set_option linter.unusedSectionVars false
open Go.RowKit

theorem Tryz.infoSS : (Tryz.prog.info? 30).map (fun i => (i.zero, i.size, i.bytes)) = some (some (.slice none 0 0), 1, 24) := by kernel_rfl

section
variable {D L : Type} [Dg D]
theorem askedL_congr (props : List (Int × Msg D L)) : ∀ (ks : List Int) (a b : List D), (∀ d, d ∈ a ↔ d ∈ b) → askedL props ks a = askedL props ks b
 | [], _, _, _ => rfl
 | r :: ks, a, b, h => by
  unfold askedL
  rcases getA r props with _ | m
  ·exact askedL_congr props ks a b h
  ·simp only
   by_cases hm : m.dig ∈ a
   ·rw [if_pos hm, if_pos ((h _).1 hm)]
    exact askedL_congr props ks a b h
   ·rw [if_neg hm, if_neg (fun q => hm ((h _).2 q))]
    rw [askedL_congr props ks (m.dig :: a) (m.dig :: b) (fun d => by simp [h d])]
end

/-- v is a row of lists, all of it new since w -/
def RowL (w W : World) (v : Value) (ls : List (List ByteArray)) : Prop := ∃ sls, All2 (fun u l => LRow (New w W) W u l) sls ls ∧ W.ownsRow w.heap.size 30 1 v ls.length sls
theorem RowL.nil (w W : World) : RowL w W (.slice none 0 0) [] := ⟨[], .nil, World.ownsRow_nil _ _ _ _⟩
theorem RowL.later {w W W' : World} {v : Value} {ls : List (List ByteArray)} (h : RowL w W v ls) (hb : Below W.heap.size W W') : RowL w W' v ls := by
 obtain ⟨sls, h1, h2⟩ := h
 exact ⟨sls, h1.mono (fun a b q => (q.kept (fun g cur fr hr _ => hb.block g hr.2)).mono (fun k hk => ⟨hk.1, Nat.lt_of_lt_of_le hk.2 hb.size⟩)), ownsRow_blk h2 (fun g _ hl => hb.block g hl)⟩
theorem rowL_slice {w W : World} {v : Value} {ls : List (List ByteArray)} (h : RowL w W v ls) : ∃ ao cap, v = .slice ao ls.length cap := by
 obtain ⟨sls, h1, h2⟩ := h
 rcases h2.2 with ⟨e, h0⟩ | ⟨g, c, _, e, _⟩
 ·exact ⟨none, 0, by rw [e, h0]⟩
 ·exact ⟨_, _, e⟩
theorem All2.same {α β : Type} {r : α → β → Prop} {l : List α} {m : List β} (h : All2 r l m) : ∀ (q : Nat) a b, l[q]? = some a → m[q]? = some b → r a b := by
 induction h with
 | nil => intro q a b h1; simp at h1
 | cons h1 _ ih =>
  intro q a b e1 e2
  cases q with
  | zero =>
   simp at e1 e2
   subst e1 e2
   exact h1
  | succ q => exact ih q a b (by simpa using e1) (by simpa using e2)
/-- a list of the row -/
theorem RowL.nth {w W : World} {ao : Option Addr} {n cap : Nat} {ls : List (List ByteArray)} (h : RowL w W (.slice ao n cap) ls) {q : Nat} {l : List ByteArray} (hq : ls[q]? = some l) :
  ∃ g u, ao = some ⟨g, 0, none⟩ ∧ W.cell? ⟨g, q, none⟩ = some u ∧ LRow (New w W) W u l ∧ w.heap.size ≤ g ∧ g < W.heap.size := by
 obtain ⟨sls, h1, h2⟩ := h
 have hl := (List.getElem?_eq_some_iff.1 hq).1
 have hs : q < sls.length := by rw [h1.len]; exact hl
 rcases h2.2 with ⟨e, h0⟩ | ⟨g, c2, cur, e, hb, hg, _, _, _, ht⟩
 ·omega
 ·injection e with e1 e2 e3
  refine ⟨g, sls[q], e1, ?_, ?_, hb, (Array.getElem?_eq_some_iff.1 hg).1⟩
  ·have h3 : (cur.toList.take (ls.length * 1))[q]? = some sls[q] := by rw [ht]; exact List.getElem?_eq_getElem hs
   rw [List.getElem?_take_of_lt (by omega), Array.getElem?_toList] at h3
   rw [cell_of_row W g q cur _ _ hg]
   exact h3
  ·exact h1.same q _ _ (List.getElem?_eq_getElem hs) hq

theorem memD_mem {d : ByteArray} {l : List ByteArray} : memD d l = true ↔ d ∈ l := by unfold memD; simp

/-- a list is put behind the row -/
theorem rowL_push {w wr wb w5 wz w6 : World} {v v5 v6 : Value} {sb : Nat} {ls : List (List ByteArray)} {l : List ByteArray} {sls : List Value}
  (hA : All2 (fun u l => LRow (New w wr) wr u l) sls ls) (hown : wr.ownsRow w.heap.size 30 1 v ls.length sls) (h5 : LRow (New wb w5) w5 v5 l) (h0 : w.heap.size ≤ wr.heap.size) (hb : wr.heap.size ≤ wb.heap.size) (hs5 : wb.heap.size ≤ w5.heap.size) (hz : w5.heap.size ≤ wz.heap.size)
  (hsb : ∃ es clk, wr.heap[sb]? = some (.map es clk)) (hk : ∀ k, k < wr.heap.size → k ≠ sb → wz.heap[k]? = wr.heap[k]?) (hk5 : ∀ k, k < w5.heap.size → wz.heap[k]? = w5.heap[k]?)
  (own6 : w6.ownsRow w.heap.size 30 1 v6 (ls.length + 1) (sls ++ [v5])) (gr : wz.grownBy w6 v.ownBlock) : RowL w w6 v6 (ls ++ [l]) := by
 have hg6 := gr.size
 have hvb : ∀ g, v.ownBlock = some g → g < wr.heap.size ∧ ∃ cur, wr.heap[g]? = some (.cells cur 30 (0, 0)) := fun g hg => by
  rcases hown.2 with ⟨e, _⟩ | ⟨g2, c2, cur, e, _, hg2, _⟩
  ·rw [e] at hg; simp [Value.ownBlock] at hg
  ·rw [e] at hg
   have : g2 = g := by simpa [Value.ownBlock] using hg
   subst this
   exact ⟨(Array.getElem?_eq_some_iff.1 hg2).1, cur, hg2⟩
 refine ⟨sls ++ [v5], All2.app (hA.mono (fun a b q => (q.kept (fun g cur fr hr hc => ?_)).mono (fun k hk => ⟨hk.1, by have := hk.2; omega⟩))) (.cons ((h5.kept (fun g cur fr hr hc => ?_)).mono (fun k hk => ⟨by have := hk.1; omega, by have := hk.2; omega⟩)) .nil), by simpa using own6⟩
 ·have hne : g ≠ sb := fun e => by
   obtain ⟨es, clk, hm⟩ := hsb
   rw [e, hm] at hc; cases hc
  rw [gr.block g (by have := hr.2; omega) (fun e => by
   obtain ⟨_, cur2, h2⟩ := hvb g e.symm
   rw [h2] at hc
   injection hc with hc
   injection hc with _ hc _
   exact absurd hc (by decide))]
  exact hk g hr.2 hne
 ·rw [gr.block g (by have := hr.2; omega) (fun e => by
   have := (hvb g e.symm).1
   have := hr.1; omega)]
  exact hk5 g hr.2

set_option maxRecDepth 100000 in
set_option maxHeartbeats 4000000 in
theorem asked_any {R : Nat → Prop} {w : World} {x : Nat} {p : Ptr} {s : StB} (h : NodeP R w x p s) (hpl : s.props.length ≤ 1000) (hll : ∀ k m, getA k s.props = some m → m.list.length ≤ 1000) :
  Calls Tryz.prog 38 #[pv x] w fun e w' => (∃ v, e = .returned v ∧ RowL w w' v s.asked) ∧ Below w.heap.size w w' := by
 have H := Lib.hid h
 have HLL := Lib.hid hll
 obtain ⟨dn, hdn⟩ : ∃ dn, dn = s.isDec s.height := ⟨_, rfl⟩
 have IS := Lib.hid (isDecided_any h s.height)
 rw [← hdn] at IS
 have HDN := Lib.hid hdn
 have c0 := h.nc.c0
 have hfz := h.nc.fz
 unfold pv at IS
 unfold iv at IS
 obtain ⟨ks, hks⟩ : ∃ ks, ks = sortI (s.props.map (·.1)) := ⟨_, rfl⟩
 have HKS := Lib.hid hks
 obtain ⟨nk, hnk⟩ : ∃ nk, nk = ks.length := ⟨_, rfl⟩
 have HNK := Lib.hid hnk
 have nk0 : (0 : Int) ≤ (nk : Int) := by omega
 have hkl : ks.length = s.props.length := by rw [hks, sortI_len]; simp
 have nk9 : (nk : Int) ≤ 1000 := by omega
 obtain ⟨L, hL, hA⟩ := h.maps.props
 have HPL := Lib.hid hL
 obtain ⟨lv, hlv, hlk⟩ : ∃ lv : List (Int × Value), L = lv.map encIV ∧ lv.map (·.1) = s.props.map (·.1) := by
  clear hL HPL IS H HLL hnk hkl hks hpl hll h HKS HNK
  generalize s.props = ps at hA
  induction hA with
  | nil => exact ⟨[], rfl, rfl⟩
  | cons h1 _ ih =>
   obtain ⟨lv, e1, e2⟩ := ih
   rename_i a b la lb _
   exact ⟨(b.1, a.2) :: lv, by rw [List.map_cons, ← e1]; unfold encIV; rw [show (Value.int .i64 b.1) = a.1 from h1.1.symm], by rw [List.map_cons, List.map_cons, e2]⟩
 have HLV := Lib.hid hlk
 rw [hlv] at HPL
 have SRK := Lib.hid (fun W bx (hm : RawMap W p.props (lv.map encIV)) (hb : W.cell? ⟨bx, 0, none⟩ = some (.map (some p.props))) => (callsIn_wide.1 (msorted_any 5 bx p.props lv W (by
   have := congrArg List.length hlk
   rw [List.length_map, List.length_map] at this
   omega) hm hb)).mono (fun e w' q => show ∃ v, e = .returned v ∧ w'.ownsRow W.heap.size 3 1 v nk (ks.map (Value.int .i64)) ∧ Below W.heap.size W w' from by
    have e1 : lv.length = nk := by
     have := congrArg List.length hlk
     rw [List.length_map, List.length_map] at this
     omega
    rw [hks, ← hlk, ← e1]; exact q))
 clear hL hA hlv hlk hks hnk hkl hpl hll h hdn
 unfold pv
 go_enter Tryz.func38, Tryz.ntmps38
 go_upto_region 1 with (fail)
 go_cut [17] (fun t wc => t = .bool dn ∧ Below w.heap.size w wc)
 case first =>
  go_wp2_with (go_at_call 63; (with_reducible refine IS.out.mono ?_); rintro e w1 ⟨rfl, hb1⟩; have HB1 := Lib.hid hb1; clear hb1)
  go_meet
  exact ⟨rfl, HB1.out⟩
 case rest =>
 obtain ⟨rfl, hb1⟩ := hcut
 obtain ⟨w1, rfl⟩ : ∃ w1 : World, w1 = wc := ⟨_, rfl⟩
 have HB1 := Lib.hid hb1
 clear hb1 IS c0
 rcases dn with _ | _
 ·have HAS := Lib.hid (show s.asked = askedL s.props ks s.acc from by unfold NS.asked; rw [← HDN.out, HKS.out]; rfl)
  have N1 := Lib.hid (H.out.below HB1.out)
  have c8 := N1.out.nc.c8
  have CL := Lib.hid (mclone_any N1.out.maps.acc)
  unfold pv at *
  go_upto_region 4 with (go_at_call 82; (with_reducible refine CL.out.mono ?_); rintro e w2 ⟨rfl, hm2, hb2⟩; have HM2 := Lib.hid hm2; have HB2' := Lib.hid hb2; clear hm2 hb2)
  obtain ⟨sb, hsb⟩ : ∃ sb, sb = w1.heap.size := ⟨_, rfl⟩
  have HSB := Lib.hid (show w.heap.size ≤ sb from by rw [hsb]; exact HB1.out.size)
  have HB2 := Lib.hid (HB1.out.trans (HB2'.out.mono HB1.out.size))
  rw [← hsb] at HM2 ⊢
  clear hsb c8 CL
  have N2 := Lib.hid (H.out.below HB2.out)
  have c9 := N2.out.nc.c9
  have MM := Lib.hid (show RawMap (w2.alloc (.cells #[.map (some p.props)] 110)) p.props (lv.map encIV) from HPL.out.kept ((HB2.out.alloc HB2.out.size _).block p.props HPL.out.lt))
  go_upto_region 5 with (first
   | (go_at_call 84; refine (mkeys_any p.props _).mono ?_; rintro e w3 ⟨rfl, rfl⟩)
   | (go_at_call 83; go_loud (refine (SRK.out _ _ MM.out (cell_box _ _ _ _ _ rfl _ rfl)).mono ?_; rintro e w3 ⟨kv, rfl, hrow, hbl⟩; have HRW := Lib.hid hrow; have HBL := Lib.hid hbl; obtain ⟨kao, kcap, rfl, _, _⟩ := rowK_of_owns (enc := encI1) (l := ks) encI1_len (by decide) (by rw [flat_I1]; exact hrow); rw [← HNK.out] at HRW ⊢; clear hrow hbl)))
  have HB3 := Lib.hid (show Below w.heap.size w w3 from (HB2.out.alloc HB2.out.size _).trans (HBL.out.mono (by have := HB2.out.size; simp; omega)))
  have HM3 := Lib.hid (show RawMap w3 sb (s.acc.map encAcc) from (HM2.out.kept (Below.heap_alloc _ _ _ HM2.out.lt)).kept (HBL.out.block sb (by have := HM2.out.lt; simp; omega)))
  have HS3 := Lib.hid (show sb < w3.heap.size from HM3.out.lt)
  have HKC := Lib.hid (show ∀ j k, ks[j]? = some k → ∃ g, kao = some ⟨g, 0, none⟩ ∧ g < w3.heap.size ∧ (∃ cur, w3.heap[g]? = some (.cells cur 3 (0, 0))) ∧ w3.cell? ⟨g, j, none⟩ = some (.int .i64 k) from fun j k hj => by
   have hl := (List.getElem?_eq_some_iff.1 hj).1
   rcases HRW.out.2 with ⟨e, h0⟩ | ⟨g, c2, cur, e, hb, hg, _, _, _, ht⟩
   ·rw [← HNK.out] at hl; omega
   ·injection e with e1 e2 e3
    refine ⟨g, e1, (Array.getElem?_eq_some_iff.1 hg).1, ⟨cur, hg⟩, ?_⟩
    have h3 : (cur.toList.take (nk * 1))[j]? = some (.int .i64 k) := by rw [ht, List.getElem?_map, hj]; rfl
    rw [List.getElem?_take_of_lt (by rw [HNK.out]; omega), Array.getElem?_toList] at h3
    rw [cell_of_row w3 g j cur _ _ hg]
    exact h3)
  clear c9 MM HRW HBL SRK N2 HM2 N1 HB2' HB2
  go_wp2_with fail
  go_loopw [32, 2] (fun iv ov wr => ∃ (j : Nat) (sd : List ByteArray) (outl : List (List ByteArray)), j ≤ nk ∧ iv = .int .i64 (j : Int) ∧ RawMap wr sb (sd.map encAcc) ∧ RowL w wr ov outl ∧ outl.length ≤ j ∧ Chg (fun k => w.heap.size ≤ k) w3 wr ∧ (∀ g, kao = some ⟨g, 0, none⟩ → wr.heap[g]? = w3.heap[g]?) ∧ (∀ g, ov.ownBlock = some g → g ≠ sb) ∧ askedL s.props ks s.acc = outl ++ askedL s.props (ks.drop j) sd) (fun iv _ _ => nk - (intOf iv).toNat)
  case atStart => exact ⟨0, s.acc, [], Nat.zero_le _, rfl, HM3.out, RowL.nil _ _, Nat.zero_le _, Chg.refl _ _, fun _ _ => rfl, fun g hg => by simp [Value.ownBlock] at hg, rfl⟩
  case round =>
   obtain ⟨j, sd, outl, hj, rfl, hsd, hro, hol, hch, hkk, hob, heq⟩ := hrel
   obtain ⟨oao, ocap, rfl⟩ := rowL_slice hro
   have j0 : (0 : Int) ≤ (j : Int) := by omega
   have HBR := Lib.hid (HB3.out.trans (hch.below HB3.out.size (fun k hk => hk)))
   have HSD := Lib.hid hsd
   have HRO := Lib.hid hro
   have HOL := Lib.hid hol
   have HCH := Lib.hid hch
   have HKK := Lib.hid hkk
   have HOB := Lib.hid hob
   have HEQ := Lib.hid heq
   clear hsd hro hol hch hkk hob heq
   by_cases hjn : j < nk
   ·have j1 : (j : Int) < (nk : Int) := by omega
    obtain ⟨r, hr⟩ : ∃ r, ks[j]? = some r := ⟨ks[j]'(by rw [← HNK.out]; exact hjn), List.getElem?_eq_getElem _⟩
    obtain ⟨g, rfl, hgl, ⟨gcur, hgc⟩, hkc⟩ := HKC.out j r hr
    have HDR := Lib.hid (show ks.drop j = r :: ks.drop (j + 1) from by
     obtain ⟨h1, h2⟩ := List.getElem?_eq_some_iff.1 hr
     rw [List.drop_eq_getElem_cons h1, h2])
    have HGW := Lib.hid (HKK.out g rfl)
    have HGI := Lib.hid hgc
    rw [← World.cell?_of_block (w := w3) (w' := wr) (a := ⟨g, j, none⟩) HGW.out] at hkc
    have NR := Lib.hid (H.out.below HBR.out)
    obtain ⟨m, hgm⟩ : ∃ m, getA r s.props = some m := by
     rcases e : getA r s.props with _ | m
     ·rw [getA_none] at e
      refine absurd (mem_sortI (l := s.props.map (·.1)) ?_) e
      rw [← HKS.out]; exact List.mem_of_getElem? hr
     ·exact ⟨m, rfl⟩
    have HGM := Lib.hid hgm
    obtain ⟨vm, hvm, hlk⟩ : ∃ v, MsgV R wr v m ∧ (Instr.lookup 110 (.map (some p.props)) (.int .i64 r) false).run Tryz.prog wr = .ok v wr := by
     rcases NR.out.maps.look_props r false with ⟨e, _⟩ | ⟨u, v, e, hv, hl⟩
     ·rw [hgm] at e; cases e
     ·rw [hgm] at e; cases e; exact ⟨v, hv, hl⟩
    obtain ⟨sl, rfl, mao, mcap, rfl, hcp, hrw⟩ := hvm
    have HLR := Lib.hid (show LRow R wr (.slice mao m.list.length mcap) m.list from ⟨mao, mcap, rfl, hcp, hrw⟩)
    have c9 := NR.out.nc.c9
    unfold encM iv at hlk
    clear hr hgm hcp hrw hgc
    go_upto_region 8 with (fail)
    obtain ⟨mb, hmb⟩ : ∃ mb, mb = wr.heap.size := ⟨_, rfl⟩
    obtain ⟨wa, hwa⟩ : ∃ wa, wa = wr.alloc (.cells #[.int .i64 m.kind, .int .i64 m.frm, .int .i64 m.to, .int .i64 m.height, .int .i64 m.round, .int .i64 m.valid, .string m.dig, .slice mao m.list.length mcap] 36) := ⟨_, rfl⟩
    have HRA := Lib.hid (show wa.heap[mb]? = some (.cells #[.int .i64 m.kind, .int .i64 m.frm, .int .i64 m.to, .int .i64 m.height, .int .i64 m.round, .int .i64 m.valid, .string m.dig, .slice mao m.list.length mcap] 36 (0, 0)) from by rw [hwa, hmb]; exact World.alloc_heap_new wr _)
    have HBA := Lib.hid (show Below wr.heap.size wr wa from by rw [hwa]; exact (Below.refl _ wr).alloc (Nat.le_refl _) _)
    have HMB := Lib.hid (show wr.heap.size ≤ mb ∧ mb < wa.heap.size from ⟨Nat.le_of_eq hmb.symm, (Array.getElem?_eq_some_iff.1 HRA.out).1⟩)
    rw [← hmb, ← hwa]
    clear hmb hwa hkc hlk c9
    obtain ⟨c0, c1, c2, c3, c4, c5, c6, c7, fz⟩ := MRow.of HRA.out
    have HSL := Lib.hid (show sb < wr.heap.size from HSD.out.lt)
    have HSA := Lib.hid (show RawMap wa sb (sd.map encAcc) from HSD.out.kept (HBA.out.block sb HSL.out))
    have hls : (Instr.lookup 109 (.map (some sb)) (.string m.dig) false).run Tryz.prog wa = .ok (.bool (memD m.dig sd)) wa := by
     have := HSA.out.lookup (P := Tryz.prog) keyS Tryz.underlying109 (good_acc wa _) ⟨m.dig, rfl⟩ (zB wa) false
     refine this.trans ?_
     rw [← getV_mem (ek := .string) encAcc_eq str_inj]; rfl
    obtain ⟨ts, hts⟩ : ∃ ts, memD m.dig sd = ts := ⟨_, rfl⟩
    rw [hts] at hls
    have HTS := Lib.hid hts
    clear hts
    rcases ts with _ | _
    ·have HNM := Lib.hid (memD_false.1 HTS.out)
     have HE := Lib.hid (show askedL s.props ks s.acc = (outl ++ [m.list]) ++ askedL s.props (ks.drop (j + 1)) (insA m.dig sd) from by
      rw [HEQ.out, HDR.out]
      conv => lhs; arg 2; unfold askedL
      rw [HGM.out]
      simp only
      rw [if_neg HNM.out, List.append_assoc, askedL_congr s.props _ (m.dig :: sd) (insA m.dig sd) (fun d => by
       unfold insA
       rw [if_neg HNM.out]; simp [or_comm])]
      rfl)
     have HLL2 := Lib.hid (HLL.out r m HGM.out)
     go_upto_region 10 with (refine wpList_mapUpdate_raw _ rfl (.tmp 48) (.tmp 50) (.const (.bool true)) 109 (by rfl) 9 4 Tryz.underlying109 keyS sb _ (by rfl) HSA.out (good_acc _ _) (.string m.dig) (.bool true) (by rfl) (by rfl) ⟨m.dig, rfl⟩ ?_; intro ob hob; have HO := Lib.hid hob; clear hob)
     obtain ⟨wb, hwb⟩ : ∃ wb, wb = wa.putObj sb ob := ⟨_, rfl⟩
     have HSB2 := Lib.hid (show RawMap wb sb ((insA m.dig sd).map encAcc) from by
      have h3 := HO.out
      rw [putV_set (ek := .string) encAcc_eq str_inj] at h3
      rw [hwb]; exact h3)
     have HPB := Lib.hid (show (∀ k, k ≠ sb → wb.heap[k]? = wa.heap[k]?) ∧ wb.heap.size = wa.heap.size from by
      rw [hwb]; exact ⟨fun k hk => World.putObj_heap_other hk, by simp [World.putObj]⟩)
     have HCB := Lib.hid (show Chg (fun k => k = sb) wa wb from by rw [hwb]; exact Chg.put wa sb ob rfl)
     rw [← hwb]
     clear hwb HO hls
     have HMR := Lib.hid (show wb.heap[mb]? = some (.cells #[.int .i64 m.kind, .int .i64 m.frm, .int .i64 m.to, .int .i64 m.height, .int .i64 m.round, .int .i64 m.valid, .string m.dig, .slice mao m.list.length mcap] 36 (0, 0)) from (HPB.out.1 mb (by have := HMB.out.1; have := HSL.out; omega)).trans HRA.out)
     clear c0 c1 c2 c3 c4 c5 c6 c7 fz
     have c7 := (MRow.of HMR.out).c7
     have HLB := Lib.hid (show LRow R wb (.slice mao m.list.length mcap) m.list from HLR.out.kept (w' := wb) (fun g cur fr hr _ => by
      have := H.out.lt g hr
      have := HSB.out
      rw [HPB.out.1 g (by omega)]
      exact HBA.out.block g (by have := HBR.out.size; omega)))
     have CN := Lib.hid (clone_any HLB.out HLL2.out)
     obtain ⟨sls, hA, hown⟩ := HRO.out
     have HAL := Lib.hid hA
     have HOW := Lib.hid hown
     have HVB := Lib.hid (show ∀ g', (Value.slice oao outl.length ocap).ownBlock = some g' → w.heap.size ≤ g' ∧ g' < wr.heap.size ∧ ∃ cur, wr.heap[g']? = some (.cells cur 30 (0, 0)) from fun g' hg => by
      rcases hown.2 with ⟨e, _⟩ | ⟨g2, c2, cur, e, hb, hg2, _⟩
      ·rw [e] at hg; simp [Value.ownBlock] at hg
      ·rw [e] at hg
       have : g2 = g' := by simpa [Value.ownBlock] using hg
       subst this
       exact ⟨hb, (Array.getElem?_eq_some_iff.1 hg2).1, cur, hg2⟩)
     have HKB := Lib.hid (show ∀ k, k < wr.heap.size → k ≠ sb → wb.heap[k]? = wr.heap[k]? from fun k hk hne => (HPB.out.1 k hne).trans (HBA.out.block k hk))
     have HWB := Lib.hid (show wr.heap.size ≤ wb.heap.size from by have := HPB.out.2; have := HBA.out.size; omega)
     obtain ⟨ti, hti, hz0, hz1, hz2⟩ := info_parts Tryz.infoSS
     clear hA hown
     go_wp2_with (first
      | (go_at_call 67; (with_reducible refine CN.out.mono ?_); rintro e w5 ⟨v5, rfl, hr5, hb5⟩; obtain ⟨ao5, cap5, rfl, _⟩ := id hr5; have HR5 := Lib.hid hr5; have HB5 := Lib.hid hb5; have HB6 := Lib.hid ((Below.refl _ w5).alloc (Nat.le_refl _) (.cells #[.slice ao5 m.list.length cap5] 30)); have OW5 := Lib.hid (show (w5.alloc (.cells #[.slice ao5 m.list.length cap5] 30)).ownsRow w.heap.size 30 1 (.slice oao outl.length ocap) outl.length sls from ownsRow_blk HOW.out (fun g' hg hlt => (HB6.out.block g' (by have := HWB.out; have := hb5.size; omega)).trans ((hb5.block g' (by have := HWB.out; omega)).trans (HKB.out g' hlt (HOB.out g' hg))))); clear hr5 hb5)
      | (refine wpList_append_new rfl (.tmp 51) (.tmp 55) 31 (by rfl) w.heap.size 30 ti (.slice none 0 0) 1 24 Tryz.underlying31 hti hz0 hz1 hz2 (by rfl) (by decide) (.slice oao outl.length ocap) outl.length sls (by rfl) OW5.out ⟨w5.heap.size, 0, none⟩ 1 1 [.slice ao5 m.list.length cap5] (by rfl) (by rfl) (cells_at w5 [.slice ao5 m.list.length cap5] _ _ rfl) (by intro u hu; simp at hu; subst hu; rfl) (by unfold maxLen; have := HOL.out; omega) (by have := HOL.out; omega) (by have := HB6.out.size; have := HB5.out.size; have := HWB.out; have := HBR.out.size; omega) (outl.length + 1) rfl ?_; intro v6 w6 own6 gr6 loc6; have OWN6 := Lib.hid own6; have GR6 := Lib.hid gr6; have LOC6 := Lib.hid loc6; clear own6 gr6 loc6))
     have HZ := Lib.hid (show ∀ k, k < wr.heap.size → k ≠ sb → (w5.alloc (.cells #[.slice ao5 m.list.length cap5] 30)).heap[k]? = wr.heap[k]? from fun k hk hne => (HB6.out.block k (by have := HWB.out; have := HB5.out.size; omega)).trans ((HB5.out.block k (by have := HWB.out; omega)).trans (HKB.out k hk hne)))
     obtain ⟨es, clk, hsm, _⟩ := id HSD.out
     have HRL := Lib.hid (rowL_push HAL.out HOW.out HR5.out HBR.out.size HWB.out HB5.out.size HB6.out.size ⟨es, clk, hsm⟩ HZ.out (fun k hk => HB6.out.block k hk) OWN6.out GR6.out)
     have HS6 := Lib.hid (show RawMap w6 sb ((insA m.dig sd).map encAcc) from ((HSB2.out.kept (HB5.out.block sb (by have := HWB.out; have := HSL.out; omega))).kept (HB6.out.block sb (by have := HWB.out; have := HB5.out.size; have := HSL.out; omega))).kept (GR6.out.block sb (by have := HB6.out.size; have := HWB.out; have := HB5.out.size; have := HSL.out; omega) (fun e => HOB.out sb e.symm rfl)))
     have HC6 := Lib.hid (show Chg (fun k => w.heap.size ≤ k) w3 w6 from
      HCH.out.trans (((Chg.of_below (C := fun k => w.heap.size ≤ k) HBA.out (fun k h1 h2 => absurd h1 (by omega))).trans ((HCB.out.mono (fun k _ h => .inl (by rw [h]; exact HSB.out))).trans (((Chg.of_below (C := fun k => w.heap.size ≤ k) HB5.out (fun k h1 h2 => absurd h1 (by omega))).trans (((Chg.of_below (C := fun k => w.heap.size ≤ k) HB6.out (fun k h1 h2 => absurd h1 (by omega))).trans (Chg.grown GR6.out (fun k e => .inl (HVB.out k e).1))).mono (fun k _ h => .inl h))).mono (fun k _ h => .inl (.inl h))))).mono (fun k _ h => .inl h)))
     have HG6 := Lib.hid (show ∀ g', some (⟨g, 0, none⟩ : Addr) = some ⟨g', 0, none⟩ → w6.heap[g']? = w3.heap[g']? from fun g' e => by
      cases e
      have hgw := HGW.out.trans HGI.out
      have hlt := (Array.getElem?_eq_some_iff.1 hgw).1
      rw [GR6.out.block g (by have := HB6.out.size; have := HWB.out; have := HB5.out.size; omega) (fun e => by
       obtain ⟨_, _, cur2, h2⟩ := HVB.out g e.symm
       rw [hgw] at h2
       injection h2 with h2
       injection h2 with _ h2 _
       exact absurd h2 (by decide))]
      rw [HZ.out g hlt (fun e => by rw [← e, hgw] at hsm; cases hsm)]
      exact HGW.out)
     have HO6 := Lib.hid (show ∀ g', v6.ownBlock = some g' → g' ≠ sb from fun g' hg => by
      rcases LOC6.out g' hg with q | q
      ·exact HOB.out g' q
      ·have := HB6.out.size; have := HWB.out; have := HB5.out.size; have := HSL.out; omega)
     clear hsm
     go_roundw
     case rel => exact ⟨j + 1, insA m.dig sd, outl ++ [m.list], by omega, by go_num, HS6.out, HRL.out, by rw [List.length_append]; have := HOL.out; simp; omega, HC6.out, HG6.out, HO6.out, HE.out⟩
     case measure => simp [intOf]; omega
    ·have HE := Lib.hid (show askedL s.props ks s.acc = outl ++ askedL s.props (ks.drop (j + 1)) sd from by
      rw [HEQ.out, HDR.out]
      conv => lhs; arg 2; unfold askedL
      rw [HGM.out]
      simp only
      rw [if_pos (memD_true.1 HTS.out)])
     go_wp2_with fail
     go_roundw
     case rel => exact ⟨j + 1, sd, outl, by omega, by go_num, HSA.out, HRO.out.later HBA.out, by have := HOL.out; omega, HCH.out.trans ((Chg.of_below (C := fun k => w.heap.size ≤ k) HBA.out (fun k h1 h2 => absurd h1 (by omega))).mono (fun k _ h => .inl h)), fun g' hg' => (HBA.out.block g' (by
      have := (HKK.out g' hg'); cases hg'
      exact (Array.getElem?_eq_some_iff.1 (this.trans HGI.out)).1)).trans (HKK.out g' hg'), HOB.out, HE.out⟩
     case measure => simp [intOf]; omega
   ·have j1 : ¬ (j : Int) < (nk : Int) := by omega
    have HE := Lib.hid (show outl = s.asked from by
     rw [HAS.out, HEQ.out, List.drop_of_length_le (by rw [← HNK.out]; omega)]
     show outl = outl ++ []
     rw [List.append_nil])
    go_wp2_with fail
    go_ret
    exact ⟨⟨_, rfl, by rw [← HE.out]; exact HRO.out⟩, HBR.out⟩
 ·have HAS := Lib.hid (show s.asked = [] from by unfold NS.asked; rw [← HDN.out]; rfl)
  go_wp2_with fail
  go_ret
  exact ⟨⟨_, rfl, by rw [HAS.out]; exact RowL.nil _ _⟩, HB1.out⟩

end Go.Proofs.YtifcdjmcoibblaaGreatDoor
