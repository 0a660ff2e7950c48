import Derived.Test.YtbkmcncakpmgkaaMap
import Derived.Test.YtbkmcncakpmgkaaRPR
import Derived.Sort.KeysCollected
import Derived.Test.YtbkmcncakpmgkaaRange
import Derived.Test.YtbkmcncakpmgkaaShelf
import Derived.Sort.OwnSortedInts
import Derived.Sort.OwnSorted
import Derived.Maps.AppendAt
import Derived.Test.YtbkmcncakpmgkaaCnt

/-! ascending and its iterator: the entries of a map, by ascending keys. -/
namespace Go.Proofs.Ytbkmcncakpmgkaa
set_option linter.unusedVariables false
open Go.ChangeShapes Go.WideShapes Go.ChangeAt Go.RowKit Go.Shelf Go.Maps Go.Sort

attribute [local go_sem] Oper.semAt_some

def encP (p : Int × Int) : Array Value := #[.int .i64 p.1, .int .i64 p.2]

theorem ascending_any (mo : Option Nat) (w : World) :
    Calls Try.prog 42 #[.map mo] w fun e w' => e = .returned (.func (.func 53) #[] #[.pointer (some ⟨w.heap.size, 0, none⟩)]) ∧ w' = w.alloc (.cells #[.map mo] 57) := by
  go_enter Try.func42, Try.ntmps42
  go_wp2
  go_ret
  exact ⟨rfl, rfl⟩

theorem OwnsM.wf {w : World} {b n : Nat} {l : List (Int × Int)} (h : OwnsM w b n l) : ∀ p ∈ l, (Lit.int .i64 p.1).wf = true := by
  intro p hp
  obtain ⟨es, hD, hk⟩ := h.1.keysOf
  unfold MD at hD
  simp only [DataW.map.injEq] at hD
  obtain ⟨v, hv⟩ := hk (encE p) (by rw [← hD]; exact List.mem_map_of_mem hp)
  obtain ⟨x, _, hx, hw⟩ := Maps.keyOf_int_inv Try.underlying3 hv
  simp only [encE, Lit.int.injEq, true_and] at hx
  rw [hx]; exact hw

/-- the look-up, run -/
theorem OwnsM.look {w : World} {b n : Nat} {l : List (Int × Int)} (h : OwnsM w b n l) (r : Int) (hw : (Lit.int .i64 r).wf = true) :
    (Instr.lookup 57 (.map (some b)) (.int .i64 r) false).run Try.prog w = .ok (.int .i64 (getL l r)) w ∧ (Lit.int .i64 (getL l r)).wf = true := by
  obtain ⟨c, hrun, hat, hwc⟩ := h.1.lookup_int keyed Try.underlying57 Try.underlying3 (Try.zeroValue3 _) (keyOf_int_mk Try.underlying3 hw)
  rw [md_at] at hat
  simp only [DataW.lit.injEq, Lit.int.injEq, true_and] at hat
  rw [← hat] at hrun hwc
  exact ⟨hrun, hwc⟩

set_option maxRecDepth 100000 in
set_option maxHeartbeats 4000000 in
theorem asc_all (n B b c : Nat) (l : List (Int × Int)) (w : World) (hc : l.length ≤ 1000000) (hB : w.cell? ⟨B, 0, none⟩ = some (.map (some b))) (hown : OwnsM w b c l) :
    SeqAll n Try.prog 53 #[.pointer (some ⟨B, 0, none⟩)] encP (fun k => k = b ∨ k = B) l w := by
  intro lp J O W hW hO hJ hY h0
  have hBl := World.block_lt_of_cell? _ _ hB
  have hBc : W.cell? ⟨B, 0, none⟩ = some (.map (some b)) := by rw [hW.cell (p := ⟨B, 0, none⟩) hBl]; exact hB
  have hownW : OwnsM W b c l := hown.later hW
  have HW := Lib.hid hownW
  have hbW := hownW.lt
  have hBW : B < W.heap.size := Nat.lt_of_lt_of_le hBl hW.size
  have HO := Lib.hid (show (∀ k, O k → k < W.heap.size) ∧ ¬ O b ∧ ¬ O B from ⟨fun k hk => Nat.lt_of_lt_of_le (hO k hk).1 hW.size, fun h => (hO _ h).2 (.inl rfl), fun h => (hO _ h).2 (.inr rfl)⟩)
  have HJ := Lib.hid hJ
  have HY := Lib.hid hY
  have H0 := Lib.hid h0
  clear hJ hY h0 hO hB hown hBl hW hownW
  obtain ⟨i0, hi, hz0, hz1, hz2⟩ := info_parts Try.info3
  refine callsIn_of_wp Try.func53 rfl trivial ?_ rfl
  simp only [Try.ntmps53, List.size_toArray, List.length_cons, List.length_nil, Nat.reduceAdd, Nat.reduceSub, Array.replicate_succ, Array.replicate_zero, List.push_toArray, List.append_toArray, List.nil_append, List.cons_append]
  gi_wp2_with (gi_at_range; refine wpListIn_range_own _ rfl _ 57 rfl 3 3 keyed Try.underlying57 _ b c _ rfl HW.out.1 ?_; intro w0 hrg0 hg0 hs0; have RG0 := Lib.hid hrg0; have G0 := Lib.hid hg0; clear hrg0 hg0 hs0)
  go_frame
  gi_loopw [3] (fun v wr => ∃ (left : Lit → Bool) (cnt : Nat) (ks : List Int), wr.ranges (H := Unit) Try.prog 3 (plainElem Try.prog 3) b W.heap.size c (MD l) left cnt ∧ ks.length + cnt ≤ l.length ∧
      wr.ownsRow W.heap.size 3 1 v ks.length (ks.map (Value.int .i64)) ∧ CollK l left ks ∧ J [] O wr ∧ Below W.heap.size W wr)
    (fun _ wr => wr.rangeLeft b W.heap.size)
  case atStart =>
    exact ⟨_, _, [], RG0.out, by rw [md_size]; simp, World.ownsRow_nil _ _ _ _, CollK.start l, HJ.out _ _ _ _ _ H0.out (Chg.grown (C := fun _ => False) G0.out (fun k e => by cases e)) (fun k h => h.elim), (Below.refl _ _).grown G0.out (Nat.le_refl _) (fun j hj => by cases hj)⟩
  case round =>
    obtain ⟨left, cnt, ks, hrg, hcs, hrow, hC, hj, hnx⟩ := hrel
    have RG := Lib.hid hrg
    have ROW := Lib.hid hrow
    have HC := Lib.hid hC
    have JJ := Lib.hid hj
    have NX := Lib.hid hnx
    clear hrg hrow hC hj hnx
    gi_wp2_with (gi_at_next; refine wpListIn_next_ranges_ii _ rfl _ rfl 3 3 .i64 .i64 keyed Try.underlying3 Try.underlying3 b W.heap.size c _ _ _ rfl RG.out ?_ ?_)
    · intro hc0 hl0
      have PM := Lib.hid (HC.out.perm HW.out.2 hl0)
      have HLEN := Lib.hid (show ks.length = l.length by rw [PM.out.length_eq, List.length_map])
      have hkc : ks.length ≤ 1000000 := by omega
      have SK := Lib.hid (sort_keys HW.out.2 PM.out)
      clear hl0 hc0
      obtain ⟨_, hnil | ⟨g, cap, cur, hv, hbase, hb, h1, h2, h3, h4⟩⟩ := ROW.out
      · obtain ⟨rfl, hk0⟩ := hnil
        have hl0 : l = [] := List.eq_nil_of_length_eq_zero (by have := HLEN.out; omega)
        subst hl0
        gi_wp2
        refine wide_call (Try.slices_Sort_int_none none 0 wr) ?_
        rintro e w' ⟨rfl, rfl⟩
        gi_wp2
        refine wpIn_loop_rounds 1 ?_
        rw [roundsIn_succ]
        gi_wp2
        go_end0
        exact ⟨⟨_, rfl⟩, O, JJ.out⟩
      · subst hv
        have hgl : g < wr.heap.size := (Array.getElem?_eq_some_iff.1 hb).1
        have HS := Lib.hid (Try.slices_Sort_int g 0 cap ks wr (holds_of_blockI hb (by simpa using h4)) hgl (by omega))
        have ROWS := Lib.hid (fun n' os => ownsRow_sortedI (n := n') (os := os) (ss := ks) (ts := ks.mergeSort fun x y => decide (x ≤ y)) (by simp) hbase hb h1 h2 h3)
        clear hb h1 h2 h3 h4
        gi_wp2
        refine wide_call HS.out ?_
        rintro e w' ⟨rfl, nn, os, rfl⟩
        have G4 := Lib.hid (grownBy_sortedI (w := wr) (g := g) (n := nn) (os := os) (ks.mergeSort fun x y => decide (x ≤ y)).toArray)
        have R4 := Lib.hid (ROWS.out nn os)
        generalize grow (putRow (Value.int .i64) (Sort.ahead wr nn) g 0 (ks.mergeSort fun x y => decide (x ≤ y)).toArray) os = w4 at G4 R4 ⊢
        rw [SK.out] at R4
        obtain ⟨m, hm⟩ : ∃ m, ks.length = m := ⟨_, rfl⟩
        have hml : m = l.length := by have := HLEN.out; omega
        rw [hm] at R4 ⊢
        have HML := Lib.hid hml
        have hmc : m ≤ 1000000 := by omega
        have J4 := Lib.hid (HJ.out _ _ _ _ (fun k => W.heap.size ≤ k) JJ.out (Chg.grown G4.out (fun k e => by cases e; exact hbase)) (fun k h => ⟨h, fun ho => by have := HO.out.1 k ho; omega⟩))
        have hbg : b ≠ g := by omega
        have hBg : B ≠ g := by omega
        have S4 := Lib.hid (show w4.heap[b]? = W.heap[b]? ∧ w4.heap[B]? = W.heap[B]? ∧ g < w4.heap.size ∧ W.heap.size ≤ w4.heap.size from
          ⟨by rw [G4.out.block b (Nat.lt_of_lt_of_le hbW NX.out.size) (fun e => hbg (by cases e; rfl))]; exact NX.out.block b hbW, by rw [G4.out.block B (Nat.lt_of_lt_of_le hBW NX.out.size) (fun e => hBg (by cases e; rfl))]; exact NX.out.block B hBW, Nat.lt_of_lt_of_le hgl G4.out.size, Nat.le_trans NX.out.size G4.out.size⟩)
        have KEY := Lib.hid (show ∀ k (h : k < l.length), w4.cell? ⟨g, k, none⟩ = some (.int .i64 l[k].1) from fun k h => by
          obtain ⟨ao, cap', e, _, hr⟩ := row_of_owns (l := l.map (·.1)) R4.out
          obtain ⟨b', off, e2, _, h3⟩ := hr k (by simpa using h)
          simp only [Value.slice.injEq] at e
          rw [e2] at e
          simp only [Option.some.injEq, Addr.mk.injEq] at e
          obtain ⟨⟨rfl, rfl, _⟩, _⟩ := e
          simpa [h] using h3)
        clear hml hm HLEN hgl hcs hkc
        gi_wp2
        gi_loopw [21] (fun i wr => ∃ (k : Nat) (O1 : Nat → Prop), i = .int .i64 k ∧ k ≤ m ∧ J (l.take k) O1 wr ∧ (¬ O1 b ∧ ¬ O1 B ∧ ¬ O1 g) ∧ (wr.heap[b]? = W.heap[b]? ∧ wr.heap[B]? = W.heap[B]? ∧ wr.heap[g]? = w4.heap[g]?) ∧ w4.heap.size ≤ wr.heap.size) (fun i _ => m - (intOf i).toNat)
        case atStart => exact ⟨0, O, rfl, Nat.zero_le _, J4.out, ⟨HO.out.2.1, HO.out.2.2, fun h => by have := HO.out.1 g h; omega⟩, ⟨S4.out.1, S4.out.2.1, rfl⟩, Nat.le_refl _⟩
        case round =>
          rename_i wq
          obtain ⟨k, O1, rfl, hk, hj, hn, hh, hsz⟩ := hrel
          have JK := Lib.hid hj
          have HN := Lib.hid hn
          have HH := Lib.hid hh
          have HSZ := Lib.hid hsz
          clear hj hn hh hsz
          by_cases hlt : k < m
          · have hkl : k < l.length := by rw [← HML.out]; exact hlt
            have hSp := Lib.hid (show l = l.take k ++ l[k] :: l.drop (k + 1) by rw [← List.drop_eq_getElem_cons hkl, List.take_append_drop])
            have hTk := Lib.hid (show l.take (k + 1) = l.take k ++ [l[k]] from List.take_succ_eq_append_getElem hkl)
            have c1 : wr.cell? ⟨g, k, none⟩ = some (.int .i64 l[k].1) := by rw [World.cell?_of_block (w := w4) HH.out.2.2]; exact KEY.out k hkl
            have c2 : wr.cell? ⟨B, 0, none⟩ = some (.map (some b)) := by rw [World.cell?_of_block (w := W) HH.out.2.1]; exact hBc
            have hlk := ((HW.out.kept HH.out.1).look l[k].1 (HW.out.wf _ (List.getElem_mem hkl))).1
            rw [getL_mem HW.out.2 (List.getElem_mem hkl)] at hlk
            obtain ⟨fn, tmps, assign, body, hy, hR⟩ := HY.out _ _ _ _ _ hSp.out JK.out
            dsimp only [encP] at hy
            have HRD := Lib.hid hR
            obtain ⟨p, hp⟩ : ∃ p, l[k] = p := ⟨_, rfl⟩
            rw [hp] at c1 hlk hy HRD hTk
            obtain ⟨x, y⟩ := p
            dsimp only at c1 hlk hy
            clear hR hp
            gi_wp2
            refine ⟨fun h => absurd h (by simp [Fence.wide]), HRD.out.mono ?_⟩
            rintro e W3 ⟨rfl, O2, hj3, hc3, ho3⟩
            have R : J (l.take (k + 1)) O2 W3 ∧ (¬ O2 b ∧ ¬ O2 B ∧ ¬ O2 g) ∧ (W3.heap[b]? = W.heap[b]? ∧ W3.heap[B]? = W.heap[B]? ∧ W3.heap[g]? = w4.heap[g]?) ∧ w4.heap.size ≤ W3.heap.size := by
              have s4 := S4.out
              have sz := HSZ.out
              obtain ⟨n1, n2, n3⟩ := HN.out
              obtain ⟨q1, q2, q3⟩ := HH.out
              refine ⟨by rw [hTk.out]; exact hj3, ⟨fun h => ?_, fun h => ?_, fun h => ?_⟩, ⟨?_, ?_, ?_⟩, Nat.le_trans sz hc3.size⟩
              · rcases ho3 _ h with h | h; exact n1 h; omega
              · rcases ho3 _ h with h | h; exact n2 h; omega
              · rcases ho3 _ h with h | h; exact n3 h; omega
              · rw [hc3.block b (by omega) n1]; exact q1
              · rw [hc3.block B (by omega) n2]; exact q2
              · rw [hc3.block g (by omega) n3]; exact q3
            have RR := Lib.hid R
            clear R hj3 hc3 ho3
            gi_wp2
            go_roundw
            case rel => exact ⟨k + 1, O2, by go_num, by omega, RR.out.1, RR.out.2.1, RR.out.2.2.1, RR.out.2.2.2⟩
            case measure => simp [intOf]; omega
          · have HT := Lib.hid (show l.take k = l from List.take_of_length_le (by rw [← HML.out]; omega))
            gi_wp2
            go_end0
            have hj := JK.out
            rw [HT.out] at hj
            exact ⟨⟨_, rfl⟩, O1, hj⟩
    · intro x y w2 cnt2 hwx hwy hlk hat hrg2 hlt hg2 hs2 hen
      have ROW2 := Lib.hid (ROW.out.kept hg2 (Or.inr (row_ne_iter ROW.out RG.out).symm))
      have RG2 := Lib.hid hrg2
      have G2 := Lib.hid hg2
      have C2 := Lib.hid (HC.out.step hlk hat)
      have NX2 := Lib.hid (NX.out.grown hg2 NX.out.size (fun j hj => by cases hj; exact Nat.le_refl _))
      clear hs2 hrg2 hg2 hlk hat hwx hwy
      gi_wp2_with (first
        | (gi_at_builtin; refine wpListIn_append_own _ rfl _ _ 34 rfl W.heap.size 3 i0 (.int .i64 0) 1 8 Try.underlying34 hi hz0 hz1 hz2 rfl (by decide) _ _ _ rfl (ROW2.out.alloc _) ⟨w2.heap.size, 0, none⟩ 1 1 [.int .i64 x] rfl rfl (cell_one_new _ _ _) (by simp [Value.oneCell']) (by unfold maxLen; omega) (by omega) (by have := NX2.out.size; simp; omega) ?_; intro v' w3 hown' hg3 hnil3; go_frame)
        | gi_in)
      have RG3 := Lib.hid ((RG2.out.alloc _).kept hg3 (row_ne_low ROW2.out hbW) (row_ne_iter ROW2.out RG2.out))
      have J3 := Lib.hid (HJ.out _ _ _ _ (fun k => W.heap.size ≤ k) JJ.out ((Chg.grown G2.out (fun k e => by cases e; exact Nat.le_refl _)).trans ((Chg.alloc _ _ _).trans (Chg.grown hg3 (fun k e => .inl (.inl (ROW2.out.lt k e).1))))) (fun k h => ⟨h, fun ho => by have := HO.out.1 k ho; omega⟩))
      have NX3 := Lib.hid ((NX2.out.alloc NX2.out.size _).grown hg3 (by have := NX2.out.size; simp; omega) (fun j hj => (ROW2.out.lt j hj).1))
      go_roundw
      case rel => exact ⟨_, cnt2, ks ++ [x], RG3.out, by simp; omega, by simpa using hown', C2.out, J3.out, NX3.out⟩
      case measure => rw [RG3.out.left_eq, RG.out.left_eq]; exact hlt

end Go.Proofs.Ytbkmcncakpmgkaa

/-! ascending's iterator over a nil map: nothing comes. -/
namespace Go.Proofs.Ytbkmcncakpmgkaa
set_option linter.unusedVariables false
open Go.ChangeShapes Go.WideShapes Go.ChangeAt Go.RowKit Go.Shelf Go.Maps Go.Sort

attribute [local go_sem] Oper.semAt_some

set_option maxRecDepth 100000 in
set_option maxHeartbeats 1000000 in
theorem asc_nil (n B : Nat) (X : Nat → Prop) (w : World) (hB : w.cell? ⟨B, 0, none⟩ = some (.map none)) :
    SeqAll n Try.prog 53 #[.pointer (some ⟨B, 0, none⟩)] encP X [] w := by
  intro lp J O W hW hO hJ hY h0
  have hBc : W.cell? ⟨B, 0, none⟩ = some (.map none) := by rw [hW.cell (p := ⟨B, 0, none⟩) (World.block_lt_of_cell? _ _ hB)]; exact hB
  have J1 := Lib.hid (hJ _ _ _ _ _ h0 (Chg.alloc (fun _ => False) W (.mapIter none 0 #[] 0)) (fun k h => h.elim))
  clear hJ hY h0 hO hB hW
  have hrg := run_range_nilMap (P := Try.prog) W 57 3 3 Try.underlying57
  have hnx : ∀ ty, (Instr.next (.pointer (some ⟨W.heap.size, 0, none⟩)) false ty).run Try.prog (W.alloc (.mapIter none 0 #[] 0)) = _ := fun ty => run_next_nilMap _ ty 0 0 #[]
  refine callsIn_of_wp Try.func53 rfl trivial ?_ rfl
  simp only [Try.ntmps53, List.size_toArray, List.length_cons, List.length_nil, Nat.reduceAdd, Nat.reduceSub, Array.replicate_succ, Array.replicate_zero, List.push_toArray, List.append_toArray, List.nil_append, List.cons_append]
  gi_wp2
  refine wpIn_loop_rounds 1 ?_
  rw [roundsIn_succ]
  gi_wp2
  refine wide_call (Try.slices_Sort_int_none none 0 _) ?_
  rintro e w' ⟨rfl, rfl⟩
  gi_wp2
  refine wpIn_loop_rounds 1 ?_
  rw [roundsIn_succ]
  gi_wp2
  go_end0
  exact ⟨⟨_, rfl⟩, O, J1.out⟩

end Go.Proofs.Ytbkmcncakpmgkaa

/-! shares: a map as a tidy list. -/
namespace Go.Proofs.Ytbkmcncakpmgkaa
set_option linter.unusedVariables false
open Go.ChangeShapes Go.WideShapes Go.ChangeAt Go.RowKit Go.Shelf Go.Maps Go.Sort

attribute [local go_sem] Oper.semAt_some

theorem ownsRow_blk {w w' : World} {base e size n : Nat} {v : Value} {xs : List Value} (h : w.ownsRow base e size v n xs) (hb : ∀ g, v.ownBlock = some g → g < w.heap.size → w'.heap[g]? = w.heap[g]?) : w'.ownsRow base e size v n xs := by
  obtain ⟨h1, h | ⟨g, cap, cur, rfl, h2, h3, h4⟩⟩ := h
  · exact ⟨h1, .inl h⟩
  · exact ⟨h1, .inr ⟨g, cap, cur, rfl, h2, (hb g rfl (Array.getElem?_eq_some_iff.1 h3).1).trans h3, h4⟩⟩
theorem Boxed.blk {w w' : World} {B t : Nat} {v : Value} (h : Boxed w B t v) (hb : w'.heap[B]? = w.heap[B]?) : Boxed w' B t v := hb.trans h
theorem owns_ltK {w : World} {base e size n : Nat} {v : Value} {xs : List Value} (h : w.ownsRow base e size v n xs) (g : Nat) (hg : v.ownBlock = some g) : base ≤ g ∧ g < w.heap.size := by
  obtain ⟨h1, h | ⟨g', cap, cur, rfl, h2, h3, h4⟩⟩ := h
  · rw [h.1] at hg; simp [Value.ownBlock] at hg
  · simp [Value.ownBlock] at hg; subst hg
    exact ⟨h2, (Array.getElem?_eq_some_iff.1 h3).1⟩

/-- a box that holds a row of the call's own -/
structure BoxRow (w W : World) (B t e size n : Nat) (v : Value) (xs : List Value) (O : Nat → Prop) : Prop where
  own : ∀ k, O k ↔ k = B ∨ v.ownBlock = some k
  box : Boxed W B t v
  row : W.ownsRow w.heap.size e size v n xs
  bel : Below w.heap.size w W
  bas : w.heap.size ≤ B

theorem BoxRow.chg {w A A' : World} {B t e size n : Nat} {v : Value} {xs : List Value} {O C : Nat → Prop} (h : BoxRow w A B t e size n v xs O) (hc : Chg C A A') (hC : ∀ k, C k → w.heap.size ≤ k ∧ ¬ O k) : BoxRow w A' B t e size n v xs O :=
  ⟨h.own, Boxed.blk h.box (hc.block B h.box.lt (fun c => (hC B c).2 ((h.own B).2 (.inl rfl)))), ownsRow_blk h.row (fun g hg hl => hc.block g hl (fun c => (hC g c).2 ((h.own g).2 (.inr hg)))),
    h.bel.trans (hc.below h.bel.size (fun k hk => (hC k hk).1)), h.bas⟩

/-- 'out = append(out, ..)' -/
theorem BoxRow.appended {w W w1 : World} {B t e size n m : Nat} {v v' : Value} {xs ys : List Value} {tmp : Obj} {O : Nat → Prop} (h : BoxRow w W B t e size n v xs O) (hte : t ≠ e)
    (hown' : w1.ownsRow w.heap.size e size v' m ys) (hgrow : (W.alloc tmp).grownBy w1 v.ownBlock) (hloc : v'.ownBlock = v.ownBlock ∨ v'.ownBlock = some (W.alloc tmp).heap.size) :
    Boxed w1 B t v ∧ ∃ O', BoxRow w (w1.setCell ⟨B, 0, none⟩ v') B t e size m v' ys O' ∧ Chg O W (w1.setCell ⟨B, 0, none⟩ v') ∧ ∀ k, O' k → O k ∨ W.heap.size ≤ k := by
  have hv1 : Boxed w1 B t v := (h.box.alloc tmp).kept hgrow (h.box.not_row hte h.row)
  have hB : B < W.heap.size := h.box.lt
  have hg : Chg O W w1 := (Chg.alloc O W tmp).trans (Chg.grown hgrow (fun k e => .inl ((h.own k).2 (.inr e))))
  have hs : Chg O W (w1.setCell ⟨B, 0, none⟩ v') := hg.trans (Chg.grown (grownBy_setCell' w1 B v') (fun k e => by cases e; exact .inl ((h.own B).2 (.inl rfl))))
  refine ⟨hv1, fun k => k = B ∨ v'.ownBlock = some k, ⟨fun k => Iff.rfl, hv1.set v', hown'.kept (grownBy_setCell' w1 B v') (.inr (hv1.not_row hte hown').symm), ?_, h.bas⟩, hs, fun k hk => ?_⟩
  · refine h.bel.trans (hs.below h.bel.size (fun k hk => ?_))
    rcases (h.own k).1 hk with rfl | hk
    · exact h.bas
    · exact (owns_ltK h.row k hk).1
  · rcases hk with rfl | hk
    · exact .inl ((h.own k).2 (.inl rfl))
    · rcases hloc with e | e
      · exact .inl ((h.own k).2 (.inr (by rw [← e]; exact hk)))
      · rw [e] at hk; simp at hk; exact .inr (by omega)

theorem tidy_snoc (pre : List (Int × Int)) (p : Int × Int) : tidyL (pre ++ [p]) = tidyL pre ++ (if 0 < p.2 then [p] else []) := by
  unfold tidyL
  rw [List.filter_append]
  by_cases c : 0 < p.2 <;> simp [c]

set_option maxRecDepth 100000 in
set_option maxHeartbeats 2000000 in
theorem shares_any (b c : Nat) (l : List (Int × Int)) (w : World) (hc : l.length ≤ 1000000) (hown : OwnsM w b c l) :
    Calls Try.prog 29 #[.map (some b)] w (SlcK 2 encS w (tidyL l)) := by
  have HW := Lib.hid hown
  have hbl := hown.lt
  clear hown
  obtain ⟨i0, hi, hz0, hz1, hz2⟩ := info_parts Try.infoS
  suffices H : ∀ n, CallsIn Fence.wide n Try.prog 29 #[.map (some b)] w (SlcK 2 encS w (tidyL l)) from (callsIn_wide (n := 5)).1 (H 5)
  intro n
  refine callsIn_of_wp_marks Try.func29 rfl trivial ?_ rfl
  simp only [Try.ntmps29, List.size_toArray, List.length_cons, List.length_nil, Nat.reduceAdd, Nat.reduceSub, Array.replicate_succ, Array.replicate_zero, List.push_toArray, List.append_toArray, List.nil_append, List.cons_append]
  gi_wp2
  refine wide_call (ascending_any _ _) ?_
  rintro e w' ⟨rfl, rfl⟩
  gi_wp2
  obtain ⟨W2, hW2⟩ : ∃ W2, (w.alloc (.cells #[.slice none 0 0] 23)).alloc (.cells #[.map (some b)] 57) = W2 := ⟨_, rfl⟩
  have hs2 : W2.heap.size = w.heap.size + 2 := by rw [← hW2]; simp
  have B2 := Lib.hid (show Below w.heap.size w W2 by rw [← hW2]; exact ((Below.refl _ w).alloc (Nat.le_refl _) _).alloc (by simp) _)
  have BX := Lib.hid (show Boxed W2 w.heap.size 23 (.slice none 0 0) by rw [← hW2]; exact (Boxed.new w _ _).alloc _)
  have BM := Lib.hid (show W2.cell? ⟨w.heap.size + 1, 0, none⟩ = some (.map (some b)) by rw [← hW2]; exact cell_box _ _ _ 0 _ rfl _ (by simp))
  rw [hW2]
  have HS2 := Lib.hid hs2
  clear hW2 hs2
  refine wpIn_range_all (gf := 53) (lb := #[.pointer (some ⟨w.heap.size + 1, 0, none⟩)]) rfl (enters_of Try.func53 (by kernel_rfl) rfl)
    (asc_all _ (w.heap.size + 1) b c l W2 hc BM.out (HW.out.later B2.out)) (fun _ => rfl)
    (fun pre O W => ∃ v, BoxRow w W w.heap.size 23 47 2 (tidyL pre).length v ((tidyL pre).flatMap encS) O) (fun k => k = w.heap.size ∨ (Value.slice none 0 0).ownBlock = some k) ?hO0 ?hI ?h0
    (fun pre x a' O W => a' = { tmps := #[.map (some b), undef, .slice none 0 0, .pointer (some ⟨w.heap.size, 0, none⟩), .int .i64 x.1, .int .i64 x.2, .map (some b), .func (.func 53) #[] #[.pointer (some ⟨w.heap.size + 1, 0, none⟩)], .int .i64 x.1, .int .i64 x.2, undef, undef, undef, undef, undef, undef, undef, undef, undef], defers := [] } ∧
      ∃ v, BoxRow w W w.heap.size 23 47 2 (tidyL pre).length v ((tidyL pre).flatMap encS) O) ?hM ?assign ?body ?done
  case hO0 =>
    intro k hk
    rcases hk with rfl | hk
    · exact ⟨by have := HS2.out; omega, fun h => by rcases h with h | h <;> omega⟩
    · simp [Value.ownBlock] at hk
  case hI => rintro s O A A' C ⟨v, h⟩ hc hC; exact ⟨v, h.chg hc (fun k hk => ⟨by have := (hC k hk).1; have := HS2.out; omega, (hC k hk).2⟩)⟩
  case h0 => exact ⟨_, fun k => Iff.rfl, BX.out, World.ownsRow_nil _ _ _ _, B2.out, Nat.le_refl _⟩
  case hM => rintro s x a' O A A' C ⟨e, v, h⟩ hc hC; exact ⟨e, v, h.chg hc (fun k hk => ⟨by have := (hC k hk).1; have := HS2.out; omega, (hC k hk).2⟩)⟩
  case assign =>
    intro l' pre x rest O W K hx hi hK
    dsimp only [encP]
    gi_wp2
    exact hK _ O W ⟨rfl, hi⟩ (Chg.refl _ _) (fun k h => .inl h)
  case body =>
    rintro l' pre ⟨r, y⟩ rest a' O W hx ⟨rfl, v, hbr⟩
    have BR := Lib.hid hbr
    have HT := Lib.hid (tidy_snoc pre (r, y))
    have hcell := hbr.box.cell
    have hpl : (tidyL pre).length ≤ 1000000 := by
      have h1 : (tidyL pre).length ≤ pre.length := List.length_filter_le _ _
      have h2 : pre.length ≤ l.length := by rw [hx]; simp
      omega
    clear hbr hx
    by_cases hy : 0 < y
    · have HN := Lib.hid (show tidyL (pre ++ [(r, y)]) = tidyL pre ++ [(r, y)] by rw [HT.out, if_pos hy])
      gi_wp2_with (first
        | (gi_at_builtin; refine wpListIn_append_own_at _ rfl _ _ 23 rfl w.heap.size 47 i0 (.agg #[.int .i64 0, .int .i64 0]) 2 16 Try.underlying23 hi hz0 hz1 hz2 rfl (by decide) _ _ _ rfl (BR.out.row.alloc _) ⟨W.heap.size, 0, none⟩ 1 1 (encS (r, y)) rfl rfl (cells_at _ _ _ _ rfl) (encS_one _) (by unfold maxLen; omega) (by omega) (by have := BR.out.bel.size; simp; omega) ?_; intro v' w1 own gr hnil hloc; obtain ⟨g', cap', rfl⟩ := ownsRow_succ own; obtain ⟨hv1, hap⟩ := BR.out.appended (by decide) own gr hloc; have AP := Lib.hid hap; have hc1 := hv1.cell; have hf1 := hv1.frozen; clear own gr hnil hloc hap hv1)
        | gi_in)
      obtain ⟨O', h1, h2, h3⟩ := AP.out
      exact ⟨O', ⟨_, by rw [HN.out, flat_snoc, List.length_append]; exact h1⟩, h2, h3⟩
    · have HN := Lib.hid (show tidyL (pre ++ [(r, y)]) = tidyL pre by rw [HT.out, if_neg hy, List.append_nil])
      gi_wp2
      exact ⟨O, ⟨v, by rw [HN.out]; exact BR.out⟩, Chg.refl _ _, fun k h => .inl h⟩
  case done =>
    rintro D O W hD hnD ⟨v, hbr⟩ hK
    have hcell := hbr.box.cell
    have BR := Lib.hid hbr
    obtain ⟨ao, cap, hv, h1, h2⟩ := rowK_of_owns encS_len (by decide) hbr.row
    subst hv
    clear hbr
    gi_wp2
    refine ⟨by simp, .inl ⟨_, _, rfl, run_takeDeferred hK, ?_⟩⟩
    have hB := BR.out.chg (Chg.put W D (.deferred none) (C := fun k => k = D) rfl) (fun k hk => by subst hk; exact ⟨by have := HS2.out; omega, hnD⟩)
    exact ⟨_, results_tmp rfl _ _ _, fin_S hB.row hB.bel⟩

end Go.Proofs.Ytbkmcncakpmgkaa

/-! A region that draws its order, inside the wide fence, in a round: a relation that every operation that may come up hands on. -/
namespace Go.Proofs.Ytbkmcncakpmgkaa
set_option linter.unusedVariables false
open Go.ChangeShapes Go.WideShapes Go.ChangeAt Go.RowKit Go.Shelf Go.Maps Go.Sort

def unl : List Bool → Nat
  | [] => 0
  | b :: t => (if b = true then 0 else 1) + unl t

theorem unl_set : ∀ (l : List Bool) (i : Nat), l[i]? = some false → unl (l.set i true) + 1 = unl l
  | [], i, h => by simp at h
  | b :: t, 0, h => by simp at h; subst h; simp [unl]; omega
  | b :: t, i + 1, h => by
    have := unl_set t i (by simpa using h)
    simp only [List.set_cons_succ, unl]; omega
theorem unl_zero : ∀ (l : List Bool) (i : Nat), unl l = 0 → l[i]? ≠ some false
  | [], i, h => by simp
  | b :: t, 0, h => by unfold unl at h; cases b <;> simp at h ⊢
  | b :: t, i + 1, h => by unfold unl at h; simpa using unl_zero t i (by omega)

theorem ready_mem {md : Region.Mode} {ops : Array Oper} {listed : Array Bool} {i : Nat} (h : i ∈ Region.ready md ops listed) : i < ops.size ∧ listed[i]? = some false ∧ ((ops[i]?).map (·.after.all fun e => !Region.binds md e || listed.getD e.on false)).getD false = true := by
  unfold Region.ready at h
  rw [List.mem_filter, List.mem_range, Bool.and_eq_true] at h
  obtain ⟨h1, h2, h3⟩ := h
  refine ⟨h1, ?_, h3⟩
  rw [Array.getD_eq_getD_getElem?] at h2
  cases hx : listed[i]? with
  | none => rw [hx] at h2; simp at h2
  | some b => rw [hx] at h2; cases b <;> simp_all

theorem wpAnyIn_inv {F : Fence} {n : Nat} {P : Program} {md : Region.Mode} {ops : Array Oper} {Q : Exit → Act → World → Prop} (Rel : Array Bool → Act → World → Prop)
    (hstep : ∀ listed a w i, Rel listed a w → i ∈ Region.ready md ops listed → wpOpIn F n P ops Q i (Rel (listed.setIfInBounds i true)) a w)
    (hend : ∀ listed a w, Rel listed a w → Region.ready md ops listed = [] → Q .normal a w) :
    ∀ (fuel : Nat) (listed : Array Bool) (a : Act) (w : World), unl listed.toList ≤ fuel → Rel listed a w → wpAnyIn F n P md ops Q fuel listed a w
  | 0, listed, a, w, hf, hr => by
    have hn : Region.ready md ops listed = [] := by
      cases he : Region.ready md ops listed with
      | nil => rfl
      | cons i t =>
        have := (ready_mem (i := i) (by rw [he]; simp)).2.1
        rw [← Array.getElem?_toList] at this
        exact absurd this (unl_zero _ _ (by omega))
    exact ⟨hn, hend _ _ _ hr hn⟩
  | fuel + 1, listed, a, w, hf, hr => by
    refine ⟨hend _ _ _ hr, fun i hi => wpOpIn_mono (fun a' w' h => ?_) (hstep _ _ _ _ hr hi)⟩
    refine wpAnyIn_inv Rel hstep hend fuel _ a' w' ?_ h
    have := unl_set listed.toList i (by rw [Array.getElem?_toList]; exact (ready_mem hi).2.1)
    rw [Array.toList_setIfInBounds]; omega

end Go.Proofs.Ytbkmcncakpmgkaa
