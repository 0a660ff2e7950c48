/-
  A box that holds a row of the call's own. Names: slices.Values, Collect, Sorted, Compact. Names: Compact. Flows: resolve.
-/
import Derived.Test.YtffifhbldcjelaaGreatDoorDs09
import Derived.Test.YtffifhbldcjelaaGreatDoorDs06
import Derived.Test.YtffifhbldcjelaaGreatDoorDs11
import Derived.Test.YtffifhbldcjelaaGreatDoorShelf

/-! A box that holds a row of the call's own. -/
namespace Go.Proofs.YtffifhbldcjelaaGreatDoor
set_option linter.unusedVariables false
open Go.RowKit

theorem ownsRow_blk {w w' : World} {base e size n : Nat} {v : Value} {xs : List Value} (h : w.ownsRow base e size v n xs) (hb : ∀ g, v.ownBlock = some g → g < w.heap.size → w'.heap[g]? = w.heap[g]?) : w'.ownsRow base e size v n xs := by
  obtain ⟨h1, h | ⟨g, cap, cur, rfl, h2, h3, h4⟩⟩ := h
  · exact ⟨h1, .inl h⟩
  · exact ⟨h1, .inr ⟨g, cap, cur, rfl, h2, (hb g rfl (Array.getElem?_eq_some_iff.1 h3).1).trans h3, h4⟩⟩
theorem Boxed.blk {w w' : World} {B t : Nat} {v : Value} (h : Boxed w B t v) (hb : w'.heap[B]? = w.heap[B]?) : Boxed w' B t v := hb.trans h
theorem owns_ltK {w : World} {base e size n : Nat} {v : Value} {xs : List Value} (h : w.ownsRow base e size v n xs) (g : Nat) (hg : v.ownBlock = some g) : base ≤ g ∧ g < w.heap.size := by
  obtain ⟨h1, h | ⟨g', cap, cur, rfl, h2, h3, h4⟩⟩ := h
  · rw [h.1] at hg; simp [Value.ownBlock] at hg
  · simp [Value.ownBlock] at hg; subst hg
    exact ⟨h2, (Array.getElem?_eq_some_iff.1 h3).1⟩

/-- a box that holds a row of the call's own -/
structure BoxRow (w W : World) (B t e size n : Nat) (v : Value) (xs : List Value) (O : Nat → Prop) : Prop where
  own : ∀ k, O k ↔ k = B ∨ v.ownBlock = some k
  box : Boxed W B t v
  row : W.ownsRow w.heap.size e size v n xs
  bel : Below w.heap.size w W
  bas : w.heap.size ≤ B

theorem BoxRow.chg {w A A' : World} {B t e size n : Nat} {v : Value} {xs : List Value} {O C : Nat → Prop} (h : BoxRow w A B t e size n v xs O) (hc : Chg C A A') (hC : ∀ k, C k → w.heap.size ≤ k ∧ ¬ O k) : BoxRow w A' B t e size n v xs O :=
  ⟨h.own, Boxed.blk h.box (hc.block B h.box.lt (fun c => (hC B c).2 ((h.own B).2 (.inl rfl)))), ownsRow_blk h.row (fun g hg hl => hc.block g hl (fun c => (hC g c).2 ((h.own g).2 (.inr hg)))),
    h.bel.trans (hc.below h.bel.size (fun k hk => (hC k hk).1)), h.bas⟩

/-- 'out = append(out, ..)' -/
theorem BoxRow.appended {w W w1 : World} {B t e size n m : Nat} {v v' : Value} {xs ys : List Value} {tmp : Obj} {O : Nat → Prop} (h : BoxRow w W B t e size n v xs O) (hte : t ≠ e)
    (hown' : w1.ownsRow w.heap.size e size v' m ys) (hgrow : (W.alloc tmp).grownBy w1 v.ownBlock) (hloc : v'.ownBlock = v.ownBlock ∨ v'.ownBlock = some (W.alloc tmp).heap.size) :
    Boxed w1 B t v ∧ ∃ O', BoxRow w (w1.setCell ⟨B, 0, none⟩ v') B t e size m v' ys O' ∧ Chg O W (w1.setCell ⟨B, 0, none⟩ v') ∧ ∀ k, O' k → O k ∨ W.heap.size ≤ k := by
  have hv1 : Boxed w1 B t v := (h.box.alloc tmp).kept hgrow (h.box.not_row hte h.row)
  have hB : B < W.heap.size := h.box.lt
  have hg : Chg O W w1 := (Chg.alloc O W tmp).trans (Chg.grown hgrow (fun k e => .inl ((h.own k).2 (.inr e))))
  have hs : Chg O W (w1.setCell ⟨B, 0, none⟩ v') := hg.trans (Chg.grown (grownBy_setCell' w1 B v') (fun k e => by cases e; exact .inl ((h.own B).2 (.inl rfl))))
  refine ⟨hv1, fun k => k = B ∨ v'.ownBlock = some k, ⟨fun k => Iff.rfl, hv1.set v', hown'.kept (grownBy_setCell' w1 B v') (.inr (hv1.not_row hte hown').symm), ?_, h.bas⟩, hs, fun k hk => ?_⟩
  · refine h.bel.trans (hs.below h.bel.size (fun k hk => ?_))
    rcases (h.own k).1 hk with rfl | hk
    · exact h.bas
    · exact (owns_ltK h.row k hk).1
  · rcases hk with rfl | hk
    · exact .inl ((h.own k).2 (.inl rfl))
    · rcases hloc with e | e
      · exact .inl ((h.own k).2 (.inr (by rw [← e]; exact hk)))
      · rw [e] at hk; simp at hk; exact .inr (by omega)

end Go.Proofs.YtffifhbldcjelaaGreatDoor

/-! Names: slices.Values, Collect, Sorted, Compact. -/
namespace Go.Proofs.YtffifhbldcjelaaGreatDoor
set_option linter.unusedVariables false
set_option linter.unusedSimpArgs false
open Go.RowKit Go.Sort Go.Lib

attribute [local go_sem] Oper.semAt_some

theorem svalues_any (ao : Option Addr) (ln cap : Nat) (w : World) :
    Calls Tryz.prog 41 #[.slice ao ln cap] w fun e w' => e = .returned (.func (.func 60) #[] #[.pointer (some ⟨w.heap.size, 0, none⟩)]) ∧ w' = w.alloc (.cells #[.slice ao ln cap] 26) := by
  go_enter Tryz.func41, Tryz.ntmps41
  go_wp2
  go_ret
  exact ⟨rfl, rfl⟩

def encS (s : ByteArray) : Array Value := #[.string s]

theorem RowK.chg {w w' : World} {ao : Option Addr} {xs : List ByteArray} {C : Nat → Prop} (h : RowK 1 encT w ao xs) (hc : Chg C w w') (hn : xs ≠ [] → ∀ a, ao = some a → ¬ C a.block) : RowK 1 encT w' ao xs := fun i x hx => by
  obtain ⟨b, off, e, h1, h2⟩ := h i x hx
  have hne : xs ≠ [] := fun q => by rw [q] at hx; simp at hx
  exact ⟨b, off, e, Nat.lt_of_lt_of_le h1 hc.size, fun j v hv => hc.cell (h2 j v hv) (show ¬ C b from hn hne ⟨b, off, none⟩ e)⟩

set_option maxRecDepth 100000 in
set_option maxHeartbeats 2000000 in
theorem svalues_seq (n bx ln cap : Nat) (ao : Option Addr) (xs : List ByteArray) (w : World) (hln : xs.length = ln) (hn : ln ≤ 1000) (hb : w.cell? ⟨bx, 0, none⟩ = some (.slice ao ln cap)) (hrow : RowK 1 encT w ao xs) :
    SeqAll n Tryz.prog 60 #[.pointer (some ⟨bx, 0, none⟩)] encS (fun k => xs ≠ [] ∧ ∃ a, ao = some a ∧ a.block = k) xs w := by
  intro lp J O W hW hO hJ hY h0
  have hbc : W.cell? ⟨bx, 0, none⟩ = some (.slice ao ln cap) := by rw [hW.cell (p := ⟨bx, 0, none⟩) (World.block_lt_of_cell? _ _ hb)]; exact hb
  have HL := Lib.hid hln
  have HY := Lib.hid hY
  have H0 := Lib.hid h0
  have HR := Lib.hid (hrow.later hW)
  have HO := Lib.hid (show xs ≠ [] → ∀ a, ao = some a → ¬ O a.block from fun hne a e q => (hO _ q).2 ⟨hne, a, e, rfl⟩)
  clear hln hY h0 hJ hO hW hb hrow
  refine callsIn_of_wp Tryz.func60 rfl trivial ?_ rfl
  simp only [Tryz.ntmps60, List.size_toArray, List.length_cons, List.length_nil, Nat.reduceAdd, Nat.reduceSub, Array.replicate_succ, Array.replicate_zero, List.push_toArray, List.append_toArray, List.nil_append, List.cons_append]
  gi_wp2
  gi_loopw [7] (fun i wr => ∃ (k : Nat) (O1 : Nat → Prop), k ≤ ln ∧ i = .int .i64 k ∧ J (xs.take k) O1 wr ∧ (xs ≠ [] → ∀ a, ao = some a → ¬ O1 a.block) ∧ RowK 1 encT wr ao xs) (fun i _ => ln - (intOf i).toNat)
  case atStart => exact ⟨0, O, Nat.zero_le _, rfl, H0.out, HO.out, HR.out⟩
  case round =>
    obtain ⟨k, O1, hk, rfl, hj, hno, hr⟩ := hrel
    have JK := Lib.hid hj
    have HN := Lib.hid hno
    have RR := Lib.hid hr
    clear hj hno hr
    by_cases hlt : k < ln
    · have hkl : k < xs.length := by rw [HL.out]; exact hlt
      obtain ⟨b0, off, rfl, hlb, hce⟩ := RR.out.str hkl
      have hSp := Lib.hid (show xs = xs.take k ++ xs[k] :: xs.drop (k + 1) by rw [← List.drop_eq_getElem_cons hkl, List.take_append_drop])
      have hTk := Lib.hid (show xs.take (k + 1) = xs.take k ++ [xs[k]] from List.take_succ_eq_append_getElem hkl)
      obtain ⟨fn, tmps, assign, body, hy, hR⟩ := HY.out _ _ _ _ _ hSp.out JK.out
      have HRD := Lib.hid hR
      have k0 : (0 : Int) ≤ (k : Int) := by omega
      have k1 : (k : Int) < (ln : Int) := by omega
      obtain ⟨x, hx⟩ : ∃ x, xs[k] = x := ⟨_, rfl⟩
      rw [hx] at hce hy HRD hTk
      dsimp only [encS] at hy
      clear hR hx
      gi_wp2
      refine ⟨fun h => absurd h (by simp [Fence.wide]), HRD.out.mono ?_⟩
      rintro e W3 ⟨rfl, O2, hj3, hc3, ho3⟩
      have J3 := Lib.hid (show J (xs.take (k + 1)) O2 W3 ∧ (xs ≠ [] → ∀ a, some (⟨b0, off, none⟩ : Addr) = some a → ¬ O2 a.block) ∧ RowK 1 encT W3 (some ⟨b0, off, none⟩) xs from
        ⟨by rw [hTk.out]; exact hj3, fun hne a e q => by
          rcases ho3 _ q with q | q
          · exact HN.out hne a e q
          · cases e; simp only at q; omega, RR.out.chg hc3 HN.out⟩)
      clear hj3 hc3 ho3
      gi_wp2
      go_roundw
      case rel => exact ⟨k + 1, O2, by omega, by go_num, J3.out.1, J3.out.2.1, J3.out.2.2⟩
      case measure => simp [intOf]; omega
    · have hkn : k = ln := by omega
      have hj := JK.out
      rw [hkn, ← HL.out, List.take_length] at hj
      have HJ := Lib.hid hj
      clear hj hkn JK
      gi_wp2
      go_end0
      exact ⟨⟨_, rfl⟩, O1, HJ.out⟩

set_option maxRecDepth 100000 in
set_option maxHeartbeats 2000000 in
theorem appseq_any (n bx ln cap : Nat) (ao : Option Addr) (xs : List ByteArray) (w : World) (hln : xs.length = ln) (hn : ln ≤ 1000) (hb : w.cell? ⟨bx, 0, none⟩ = some (.slice ao ln cap)) (hrow : RowK 1 encT w ao xs) :
    CallsIn Fence.wide n Tryz.prog 99 #[.slice none 0 0, .func (.func 60) #[] #[.pointer (some ⟨bx, 0, none⟩)]] w fun e w' => ∃ v, e = .returned v ∧ w'.ownsRow w.heap.size 9 1 v xs.length (xs.flatMap encT) ∧ Below w.heap.size w w' := by
  obtain ⟨i0, hi, hz0, hz1, hz2⟩ := info_parts Tryz.infoStr
  have HL := Lib.hid hln
  have HR := Lib.hid hrow
  clear hln hrow
  refine callsIn_of_wp_marks Tryz.func99 rfl trivial ?_ rfl
  simp only [Tryz.ntmps99, List.size_toArray, List.length_cons, List.length_nil, Nat.reduceAdd, Nat.reduceSub, Array.replicate_succ, Array.replicate_zero, List.push_toArray, List.append_toArray, List.nil_append, List.cons_append]
  gi_wp2
  obtain ⟨W2, hW2⟩ : ∃ W2, w.alloc (.cells #[.slice none 0 0] 26) = W2 := ⟨_, rfl⟩
  have hs2 : W2.heap.size = w.heap.size + 1 := by rw [← hW2]; simp
  have B2 := Lib.hid (show Below w.heap.size w W2 by rw [← hW2]; exact (Below.refl _ w).alloc (Nat.le_refl _) _)
  have BX := Lib.hid (show Boxed W2 w.heap.size 26 (.slice none 0 0) by rw [← hW2]; exact Boxed.new w _ _)
  have BM := Lib.hid (show W2.cell? ⟨bx, 0, none⟩ = some (.slice ao ln cap) by rw [← hW2]; exact cell_up hb _)
  have RM := Lib.hid (show RowK 1 encT W2 ao xs from HR.out.later B2.out)
  have RL := Lib.hid (show ∀ a, ao = some a → xs ≠ [] → a.block < w.heap.size from fun a e hne => by
    obtain ⟨y, r, rfl⟩ := List.exists_cons_of_ne_nil hne
    obtain ⟨b, off, e2, h1, _⟩ := HR.out 0 y rfl
    rw [e] at e2; cases e2; exact h1)
  rw [hW2]
  have HS2 := Lib.hid hs2
  clear hW2 hs2
  refine wpIn_range_all (gf := 60) (lb := #[.pointer (some ⟨bx, 0, none⟩)]) rfl (enters_of Tryz.func60 (by kernel_rfl) rfl)
    (svalues_seq _ bx ln cap ao xs W2 HL.out hn BM.out RM.out) (fun _ => rfl)
    (fun pre O W => ∃ v, BoxRow w W w.heap.size 26 9 1 pre.length v (pre.flatMap encT) O) (fun k => k = w.heap.size ∨ (Value.slice none 0 0).ownBlock = some k) ?hO0 ?hI ?h0
    (fun pre x a' O W => a' = { tmps := #[.slice none 0 0, .func (.func 60) #[] #[.pointer (some ⟨bx, 0, none⟩)], .pointer (some ⟨w.heap.size, 0, none⟩), undef, .slice none 0 0, .string x, .func (.func 60) #[] #[.pointer (some ⟨bx, 0, none⟩)], .string x, undef, undef, undef, undef, undef], defers := [] } ∧
      ∃ v, BoxRow w W w.heap.size 26 9 1 pre.length v (pre.flatMap encT) O) ?hM ?assign ?body ?done
  case hO0 =>
    intro k hk
    rcases hk with rfl | hk
    · exact ⟨by have := HS2.out; omega, fun h => by obtain ⟨hne, a, e, h⟩ := h; have := RL.out a e hne; omega⟩
    · simp [Value.ownBlock] at hk
  case hI => rintro s O A A' C ⟨v, h⟩ hc hC; exact ⟨v, h.chg hc (fun k hk => ⟨by have := (hC k hk).1; have := HS2.out; omega, (hC k hk).2⟩)⟩
  case h0 => exact ⟨_, fun k => Iff.rfl, BX.out, World.ownsRow_nil _ _ _ _, B2.out, Nat.le_refl _⟩
  case hM => rintro s x a' O A A' C ⟨e, v, h⟩ hc hC; exact ⟨e, v, h.chg hc (fun k hk => ⟨by have := (hC k hk).1; have := HS2.out; omega, (hC k hk).2⟩)⟩
  case assign =>
    intro l' pre x rest O W K hx hi hK
    dsimp only [encS]
    gi_wp2
    exact hK _ O W ⟨rfl, hi⟩ (Chg.refl _ _) (fun k h => .inl h)
  case body =>
    rintro l' pre x rest a' O W hx ⟨rfl, v, hbr⟩
    have BR := Lib.hid hbr
    have hcell := hbr.box.cell
    have hpl : pre.length ≤ 1000 := by
      have h2 : pre.length ≤ xs.length := by rw [hx]; simp
      have := HL.out; omega
    clear hbr hx
    gi_wp2_with (first
      | (gi_at_builtin; refine wpListIn_append_own_at _ rfl _ _ 26 rfl w.heap.size 9 i0 (.string (ByteArray.mk #[])) 1 16 Tryz.underlying26 hi hz0 hz1 hz2 rfl (by decide) _ _ _ rfl (BR.out.row.alloc _) ⟨W.heap.size, 0, none⟩ 1 1 (encT x) rfl rfl (cells_at _ _ _ _ rfl) (encT_one _) (by unfold maxLen; omega) (by omega) (by have := BR.out.bel.size; simp; omega) ?_; intro v' w1 own gr hnil hloc; obtain ⟨g', cap', rfl⟩ := ownsRow_succ own; obtain ⟨hv1, hap⟩ := BR.out.appended (by decide) own gr hloc; have AP := Lib.hid hap; have hc1 := hv1.cell; have hf1 := hv1.frozen; clear own gr hnil hloc hap hv1)
      | gi_in)
    obtain ⟨O', h1, h2, h3⟩ := AP.out
    exact ⟨O', ⟨_, by rw [flat_snoc, List.length_append]; exact h1⟩, h2, h3⟩
  case done =>
    rintro D O W hD hnD ⟨v, hbr⟩ hK
    have hcell := hbr.box.cell
    have BR := Lib.hid hbr
    obtain ⟨ao, cap, hv, h1, h2⟩ := rowK_of_owns encT_len (by decide) hbr.row
    subst hv
    clear hbr
    gi_wp2
    refine ⟨by simp, .inl ⟨_, _, rfl, run_takeDeferred hK, ?_⟩⟩
    have hB := BR.out.chg (Chg.put W D (.deferred none) (C := fun k => k = D) rfl) (fun k hk => by subst hk; exact ⟨by have := HS2.out; omega, hnD⟩)
    exact ⟨_, results_tmp rfl _ _ _, .slice ao xs.length cap, rfl, hB.row, hB.bel⟩

theorem collect_any (n bx ln cap : Nat) (ao : Option Addr) (xs : List ByteArray) (w : World) (hln : xs.length = ln) (hn : ln ≤ 1000) (hb : w.cell? ⟨bx, 0, none⟩ = some (.slice ao ln cap)) (hrow : RowK 1 encT w ao xs) :
    CallsIn Fence.wide n Tryz.prog 58 #[.func (.func 60) #[] #[.pointer (some ⟨bx, 0, none⟩)]] w fun e w' => ∃ v, e = .returned v ∧ w'.ownsRow w.heap.size 9 1 v xs.length (xs.flatMap encT) ∧ Below w.heap.size w w' := by
  have AS := Lib.hid (fun m => appseq_any m bx ln cap ao xs w hln hn hb hrow)
  clear hln hb hrow
  refine callsIn_of_wp Tryz.func58 rfl trivial ?_ rfl
  simp only [Tryz.ntmps58, List.size_toArray, List.length_cons, List.length_nil, Nat.reduceAdd, Nat.reduceSub, Array.replicate_succ, Array.replicate_zero, List.push_toArray, List.append_toArray, List.nil_append, List.cons_append]
  gi_wp2
  refine ⟨trivial, fun h => absurd h (by simp [Fence.wide]), (AS.out _).mono ?_⟩
  rintro e W2 ⟨v, rfl, h2⟩
  have H2 := Lib.hid h2
  obtain ⟨ao2, cap2, rfl, _, _⟩ := rowK_of_owns encT_len (by decide) h2.1
  clear h2
  gi_wp2
  go_ret
  exact ⟨_, rfl, H2.out⟩

/-- slices.Sorted, then slices.Compact -/
theorem sorted_any (n bx ln cap : Nat) (ao : Option Addr) (xs : List ByteArray) (w : World) (hln : xs.length = ln) (hn : ln ≤ 1000) (hb : w.cell? ⟨bx, 0, none⟩ = some (.slice ao ln cap)) (hrow : RowK 1 encT w ao xs) :
    CallsIn Fence.wide n Tryz.prog 40 #[.func (.func 60) #[] #[.pointer (some ⟨bx, 0, none⟩)]] w fun e w' => ∃ v, e = .returned v ∧ w'.ownsRow w.heap.size 9 1 v xs.length ((sortedL xs).map encStr) ∧ Below w.heap.size w w' := by
  have CO := Lib.hid (fun m => collect_any m bx ln cap ao xs w hln hn hb hrow)
  have HL := Lib.hid hln
  clear hln hb hrow
  refine callsIn_of_wp Tryz.func40 rfl trivial ?_ rfl
  simp only [Tryz.ntmps40, List.size_toArray, List.length_cons, List.length_nil, Nat.reduceAdd, Nat.reduceSub, Array.replicate_succ, Array.replicate_zero, List.push_toArray, List.append_toArray, List.nil_append, List.cons_append]
  gi_wp2
  refine ⟨trivial, fun h => absurd h (by simp [Fence.wide]), (CO.out _).mono ?_⟩
  rintro e W2 ⟨v, rfl, hrow, hbl⟩
  rcases hrow.2 with ⟨rfl, hz⟩ | ⟨gb, cp, cur, rfl, hbase, hgb, r1, r2, r3, r4⟩
  · have hx : xs = [] := List.eq_nil_of_length_eq_zero hz
    subst hx
    have HB := Lib.hid hbl
    clear hrow hbl
    gi_wp2
    refine wide_call (Tryz.slices_Sort_string_none none 0 W2) ?_
    rintro e w' ⟨rfl, rfl⟩
    gi_wp2
    go_ret
    exact ⟨_, rfl, by simpa [sortedL, rows] using World.ownsRow_nil w' w.heap.size 9 1, HB.out⟩
  · have hr4 : cur.toList.take (rows xs).length = (rows xs).map encStr := by rw [← rows_enc, ← r4]; unfold rows; simp
    have hrl : (rows xs).length = xs.length := by unfold rows; simp
    have hH : Holds encStr W2 gb 0 (rows xs).toArray := holds_of_block hgb hr4
    have hcall := Tryz.slices_Sort_string gb 0 cp (rows xs) W2 hH (lt_of_blk hgb) (by have := HL.out; omega)
    rw [hrl] at hcall
    have CA := Lib.hid hcall
    have FIN := Lib.hid (show ∀ m os, (grow (putRow encStr (Sort.ahead W2 m) gb 0 (sortedL xs).toArray) os).ownsRow w.heap.size 9 1 (.slice (some ⟨gb, 0, none⟩) xs.length cp) xs.length ((sortedL xs).map encStr) ∧ Below w.heap.size w (grow (putRow encStr (Sort.ahead W2 m) gb 0 (sortedL xs).toArray) os) from fun m os => by
      have h1 := ownsRow_sorted (os := os) (n := m) (ts := sortedL xs) (ss := rows xs) (by rw [sortedL_len, hrl]) hbase hgb (by rw [hrl]; exact r1) r2 r3
      rw [hrl] at h1
      exact ⟨h1, hbl.grown (grownBy_sorted _) hbl.size (fun j hj => by cases hj; exact hbase)⟩)
    clear hrow hbl hH hcall hr4 hgb r1 r2 r3 r4
    gi_wp2
    refine wide_call CA.out ?_
    rintro e w' ⟨rfl, m, os, rfl⟩
    have F2 := Lib.hid (FIN.out m os)
    unfold sortedL at F2
    gi_wp2
    go_ret
    exact ⟨_, rfl, F2.out⟩

end Go.Proofs.YtffifhbldcjelaaGreatDoor

/-! Names: Compact. -/
namespace Go.Proofs.YtffifhbldcjelaaGreatDoor
set_option linter.unusedVariables false
set_option linter.unusedSimpArgs false
open Go.RowKit Go.Sort Go.Lib

theorem scompact_any (v : Value) (base : Nat) (xs : List ByteArray) (W : World) (hn : xs.length ≤ 1000) (hbW : base ≤ W.heap.size) (hrow : W.ownsRow base 9 1 v xs.length ((sortedL xs).map encStr)) :
    Calls Tryz.prog 39 #[v] W fun e w' => ∃ ao cap, e = .returned (.slice ao (sortU xs).length cap) ∧ RowK 1 encT w' ao (sortU xs) ∧ Below base W w' := by
  have hlen : (compact (sortedL xs)).length = (sortU xs).length := by rw [← compact_sortU, List.length_map]
  rcases hrow.2 with ⟨rfl, hz⟩ | ⟨gb, cp, cur, rfl, hbase, hgb, r1, r2, r3, r4⟩
  · have hx : xs = [] := List.eq_nil_of_length_eq_zero hz
    subst hx
    refine (Tryz.slices_Compact_string_empty none 0 W).mono ?_
    rintro e w' ⟨rfl, rfl⟩
    exact ⟨none, 0, rfl, RowK.nil _ _ _ _, Below.refl _ _⟩
  · have hsl := sortedL_len xs
    have hr4 : cur.toList.take (sortedL xs).length = (sortedL xs).map encStr := by rw [← r4, hsl]; simp
    have hH : Holds encStr W gb 0 (sortedL xs).toArray := holds_of_block hgb hr4
    have hcall := Tryz.slices_Compact_string gb 0 cp (sortedL xs) W hH (by rw [hsl]; omega) (by rw [hsl]; exact r1)
    rw [hsl, hlen] at hcall
    refine hcall.mono ?_
    rintro e w' ⟨rfl, q, rfl⟩
    have hle : (sortU xs).length ≤ xs.length := by rw [← hlen, ← hsl]; exact compact_length_le _
    have hsz : (compact (sortedL xs) ++ List.replicate (xs.length - (sortU xs).length) ([] : List UInt8)).toArray.size = (sortedL xs).toArray.size := by simp [hlen, hsl]; omega
    refine ⟨some ⟨gb, 0, none⟩, cp, rfl, fun i x hx => ?_, ?_⟩
    · have hi : i < (sortU xs).length := (List.getElem?_eq_some_iff.1 hx).1
      refine ⟨gb, 0, rfl, ?_, fun j u hu => ?_⟩
      · have := (grownBy_sorted (w := W) (g := gb) (n := q) (os := #[]) (compact (sortedL xs) ++ List.replicate (xs.length - (sortU xs).length) ([] : List UInt8)).toArray).size
        rw [grow_empty] at this
        exact Nat.lt_of_lt_of_le (lt_of_blk hgb) this
      · have hj : j = 0 := by
          have := (List.getElem?_eq_some_iff.1 hu).1
          simp [encT] at this; exact this
        subst hj
        simp [encT] at hu
        have hc := cell?_putRow encStr (Sort.ahead W q) gb 0 (sortedL xs).toArray (compact (sortedL xs) ++ List.replicate (xs.length - (sortU xs).length) ([] : List UInt8)).toArray (fun j hj => hH j hj) hsz i (by simp; omega)
        rw [Nat.mul_one, Nat.add_zero]
        rw [hc, ← hu]
        have h2 : (compact (sortedL xs))[i]? = some x.data.toList := by
          have h3 : ((compact (sortedL xs)).map unB)[i]? = some x := by rw [compact_sortU]; exact hx
          rw [List.getElem?_map] at h3
          obtain ⟨y, hy, rfl⟩ := Option.map_eq_some_iff.1 h3
          rw [data_unB]; exact hy
        have h4 : (compact (sortedL xs) ++ List.replicate (xs.length - (sortU xs).length) ([] : List UInt8)).toArray[i]! = x.data.toList := by
          rw [getElem!_pos _ i (by simp; omega)]
          have := (List.getElem?_eq_some_iff.1 h2)
          obtain ⟨h5, h6⟩ := this
          simp [List.getElem_append_left h5, h6]
        rw [h4]
    · have h2 := (Below.refl base W).grown (grownBy_sorted (w := W) (g := gb) (n := q) (os := #[]) (compact (sortedL xs) ++ List.replicate (xs.length - (sortU xs).length) ([] : List UInt8)).toArray) hbW (fun j hj => by cases hj; exact hbase)
      rw [grow_empty] at h2
      exact h2

end Go.Proofs.YtffifhbldcjelaaGreatDoor

/-! Flows: resolve. -/
namespace Go.Proofs.YtffifhbldcjelaaGreatDoor
set_option linter.unusedVariables false
set_option linter.unusedSimpArgs false
open Go.RowKit

attribute [local go_sem] Oper.semAt_some

theorem leaves_marks {n : Nat} {P : Program} {fn : Func} {tmps : Array Value} {R : Ending → World → Prop} : ∀ (Ds : List Nat) (w : World), Ds.Nodup → (∀ D ∈ Ds, w.heap[D]? = some (.deferred (some []))) →
    (∀ w', Chg (fun k => k ∈ Ds) w w' → LeavesInM Fence.wide n P fn tmps R [] .returning w') → LeavesInM Fence.wide n P fn tmps R (Ds.map fun D => ({ target := .collected D, args := #[] } : Deferred)) .returning w
  | [], w, _, _, h => h w (Chg.refl _ _)
  | D :: Ds, w, hn, hD, h => by
    rw [List.nodup_cons] at hn
    refine ⟨by simp, .inl ⟨D, _, rfl, run_takeDeferred (hD D (by simp)), leaves_marks Ds _ hn.2 (fun D' hD' => ?_) (fun w' hc => h w' ?_)⟩⟩
    · rw [World.putObj_heap_other (fun e => hn.1 (by rw [← e]; exact hD'))]; exact hD D' (by simp [hD'])
    · refine (Chg.put (C := fun k => k ∈ D :: Ds) w D _ (by simp)).trans (hc.mono (fun k _ hk => .inl (by simp [hk])))

theorem results_cells2 {P : Program} {fn : Func} {a b : Tmp} {t u : TypeId} {pa pb : Addr} {va vb : Value} {tmps : Array Value} {w : World} (h : fn.results = #[.cell a t, .cell b u]) (ha : tmps.getD a undef = .pointer (some pa)) (hb : tmps.getD b undef = .pointer (some pb))
    (hta : (isAgg t).run P w = .ok false w) (hub : (isAgg u).run P w = .ok false w) (hca : w.cell? pa = some va) (hcb : w.cell? pb = some vb) : (results fn tmps).run P w = .ok (.tuple #[va, vb]) w := by
  have e1 : asAddr (tmps.getD a undef) = pure pa := by rw [ha]; rfl
  have e2 : asAddr (tmps.getD b undef) = pure pb := by rw [hb]; rfl
  unfold results
  rw [h]
  simp only [List.mapM_toArray, List.mapM_cons, List.mapM_nil, e1, e2]
  simp [loadVar, hta, hub, run_load, hca, hcb]

section
variable {B : Nat} {W : World} {f M : Nat} {bl rb : ByteArray → Nat} {sl : ByteArray → Value} {F : List En}

/-- the rounds of resolve: k names are looked at; W5: the world as the loop begins; bo, bk: the boxes of the results -/
structure ResI (F : List En) (bl : ByteArray → Nat) (W5 : World) (bo bk : Nat) (n : ByteArray) (names : List ByteArray) (k : Nat) (wr : World) (Ds : List Nat) (v : Value) : Prop where
  box : Boxed wr bo 55 v
  row : wr.ownsRow W5.heap.size 53 1 v k ((names.take k).map fun r => ptr (bl r))
  keep : Chg (fun j => j = bo) W5 wr
  ds : ∀ D ∈ Ds, W5.heap.size ≤ D ∧ wr.heap[D]? = some (.deferred (some []))
  nd : Ds.Nodup
  acc : ∀ r ∈ names.take k, rdOk F n r = true

def ResP (W : World) (F : List En) (bl : ByteArray → Nat) (n : ByteArray) (l : List ByteArray) (e : Ending) (w' : World) : Prop :=
  Below W.heap.size W w' ∧ ((resOk F n l = true ∧ ∃ ao cap, e = .returned (.tuple #[.slice ao l.length cap, .bool true]) ∧ RowP w' (.slice ao l.length cap) (l.map bl)) ∨ (resOk F n l = false ∧ e = .returned (.tuple #[.slice none 0 0, .bool false])))

theorem Rep.kept4 {W' : World} (h : Rep B W f M bl rb sl F) (hk : ∀ (k : Nat), ((∃ cs t fr, W.heap[k]? = some (Obj.cells cs t fr) ∧ t ≠ 55) ∨ ∃ es c, W.heap[k]? = some (Obj.map es c)) → W'.heap[k]? = W.heap[k]?) : Rep B W' f M bl rb sl F := by
  obtain ⟨L, hL, hp⟩ := h.names
  obtain ⟨es0, c0, hm0⟩ := h.mapM
  refine ⟨(hk f (.inl ⟨_, _, _, h.flow, by decide⟩)).trans h.flow, ⟨L, hL.kept (hk M (.inr ⟨es0, c0, hm0⟩)), hp⟩, fun e he => (hk _ (.inl ⟨_, _, _, h.ent e he, by decide⟩)).trans (h.ent e he), fun e he => (h.row e he).kept (fun g cur fr hg => hk g (.inl ⟨_, _, _, hg, by decide⟩)), fun e he => ?_, h.injB, h.injR, h.rbM, h.baseM, h.baseB, h.baseR, h.srt⟩
  obtain ⟨L', hL', hp'⟩ := h.rdr e he
  exact ⟨L', hL'.kept (hk _ (.inr (h.mapR he))), hp'⟩

/-- one box turns -/
theorem Rep.keptB {W' : World} (h : Rep B W f M bl rb sl F) {bo : Nat} {v : Value} (hb : Boxed W bo 55 v) (hc : Chg (fun j => j = bo) W W') : Rep B W' f M bl rb sl F :=
  h.kept4 (fun k hk => by
    refine hc.block k (by rcases hk with ⟨_, _, _, q, _⟩ | ⟨_, _, q⟩ <;> exact lt_of_blk q) (fun e => ?_)
    subst e
    rcases hk with ⟨_, _, _, q, q2⟩ | ⟨_, _, q⟩
    · rw [show W.heap[k]? = _ from hb] at q; cases q; exact q2 rfl
    · rw [show W.heap[k]? = _ from hb] at q; cases q)

theorem ResI.next {W5 wr W' w1 : World} {bo bk k D : Nat} {n : ByteArray} {names : List ByteArray} {Ds : List Nat} {v v' : Value} {tmp : Obj} (h : ResI F bl W5 bo bk n names k wr Ds v) (hbo : bo < W5.heap.size) (hk : k < names.length) (hW' : Below wr.heap.size wr W') (hD : wr.heap.size ≤ D) (hDd : W'.heap[D]? = some (.deferred (some [])))
    (own' : w1.ownsRow W5.heap.size 53 1 v' (k + 1) (((names.take k).map fun r => ptr (bl r)) ++ [ptr (bl names[k])])) (gr : (W'.alloc tmp).grownBy w1 v.ownBlock) (hok : rdOk F n names[k] = true) :
    Boxed w1 bo 55 v ∧ ResI F bl W5 bo bk n names (k + 1) (w1.setCell ⟨bo, 0, none⟩ v') (D :: Ds) v' := by
  have hne : some bo ≠ v.ownBlock := h.box.not_row (by decide) h.row
  have hvl : ∀ g, v.ownBlock = some g → W5.heap.size ≤ g ∧ g < wr.heap.size := fun g hg => owns_ltK h.row g hg
  have hb1 : Boxed w1 bo 55 v := ((Boxed.blk h.box (hW'.block bo h.box.lt)).alloc tmp).kept gr hne
  have hw1 : ∀ j, j < W'.heap.size → v.ownBlock ≠ some j → w1.heap[j]? = W'.heap[j]? := fun j hj hn => (gr.block j (by simp; omega) (fun e => hn e.symm)).trans (Below.heap_alloc _ _ _ hj)
  have hset : ∀ j, j ≠ bo → (w1.setCell ⟨bo, 0, none⟩ v').heap[j]? = w1.heap[j]? := fun j hj => Below.heap_setCell w1 ⟨bo, 0, none⟩ v' j hj
  have htk : names.take (k + 1) = names.take k ++ [names[k]] := List.take_succ_eq_append_getElem hk
  have hchg : Chg (fun j => j = bo ∨ v.ownBlock = some j) wr (w1.setCell ⟨bo, 0, none⟩ v') :=
    ⟨gr.os.trans hW'.os, gr.tape.trans hW'.tape, gr.output.trans hW'.output, by have := gr.size; have := hW'.size; simp at *; omega, fun j hj hn => by
      rw [hset j (fun e => hn (.inl e)), hw1 j (Nat.lt_of_lt_of_le hj hW'.size) (fun e => hn (.inr e))]; exact hW'.block j hj⟩
  refine ⟨hb1, hb1.set v', ?_, ?_, fun D' hD' => ?_, ?_, fun r hr => ?_⟩
  · rw [htk, List.map_append]
    exact own'.kept (grownBy_setCell' w1 bo v') (.inr (hb1.not_row (by decide) own').symm)
  · refine h.keep.trans (hchg.mono (fun j hj q => ?_))
    rcases q with q | q
    · exact .inl q
    · exact .inr (hvl j q).1
  · rcases List.mem_cons.1 hD' with q | q
    · subst q
      have hDl := lt_of_blk hDd
      refine ⟨by have := h.keep.size; omega, ?_⟩
      rw [hset D' (fun e => by have := h.box.lt; omega), hw1 D' hDl (fun e => by have := (hvl D' e).2; omega)]; exact hDd
    · obtain ⟨h1, h2⟩ := h.ds D' q
      refine ⟨h1, ?_⟩
      rw [hchg.block D' (lt_of_blk h2) (fun e => ?_)]; exact h2
      rcases e with e | e
      · omega
      · obtain ⟨_, h3 | ⟨g, cap, cur, rfl, _, h4, _⟩⟩ := h.row
        · rw [h3.1] at e; simp [Value.ownBlock] at e
        · simp [Value.ownBlock] at e; subst e; rw [h2] at h4; cases h4
  · exact List.nodup_cons.2 ⟨fun q => by have := lt_of_blk (h.ds D q).2; omega, h.nd⟩
  · rw [htk] at hr
    rcases List.mem_append.1 hr with q | q
    · exact h.acc r q
    · rw [List.mem_singleton.1 q]; exact hok

theorem RowP_of_owns {w : World} {base n : Nat} {v : Value} {ps : List Nat} (h : w.ownsRow base 53 1 v n (ps.map ptr)) : RowP w v ps := by
  obtain ⟨h1, h2 | ⟨g, cap, cur, rfl, h3, h4, h5, h6, h7, h8⟩⟩ := h
  · obtain ⟨rfl, rfl⟩ := h2
    rcases ps with _ | ⟨a, r⟩
    · exact RowP.nil w
    · simp at h1
  · rw [List.length_map, Nat.mul_one] at h1
    subst h1
    refine ⟨some ⟨g, 0, none⟩, cap, rfl, ⟨(fun e => by cases e), h5⟩, .inr ⟨g, 0, cur, (0, 0), rfl, h4, fun i p hp => ?_⟩⟩
    have hi : i < ps.length := (List.getElem?_eq_some_iff.1 hp).1
    have h9 : (ps.map ptr)[i]? = some (ptr p) := by rw [List.getElem?_map, hp]; rfl
    rw [← h8, Nat.mul_one, List.getElem?_take_of_lt hi, Array.getElem?_toList] at h9
    rw [Nat.zero_add]; exact h9

/-- a return -/
theorem leave_res {m : Nat} {tmps : Array Value} {R : Ending → World → Prop} {bo bk : Nat} {va vb : Value} {w' : World} {Ds : List Nat} (h4 : tmps.getD 4 undef = .pointer (some ⟨bo, 0, none⟩)) (h5 : tmps.getD 5 undef = .pointer (some ⟨bk, 0, none⟩)) (hnd : Ds.Nodup) (hds : ∀ D ∈ Ds, w'.heap[D]? = some (.deferred (some [])))
    (h1 : Boxed w' bo 55 va) (h2 : Boxed w' bk 4 vb) (hR : ∀ w'', Chg (fun k => k ∈ Ds) w' w'' → R (.returned (.tuple #[va, vb])) w'') :
    LeavesInM Fence.wide m Tryz.prog Tryz.f22 tmps R (Ds.map fun D => ({ target := .collected D, args := #[] } : Deferred)) .returning w' := by
  refine leaves_marks Ds w' hnd hds (fun w'' hc => ?_)
  have hno : ∀ {b : Nat} {t : TypeId} {v : Value}, Boxed w' b t v → ¬ b ∈ Ds := fun hb hm => by
    have := hds _ hm
    rw [show w'.heap[_]? = _ from hb] at this; cases this
  refine ⟨_, results_cells2 (a := 4) (b := 5) rfl h4 h5 (by kernel_rfl) (by kernel_rfl) (Boxed.cell (Boxed.blk h1 (hc.block bo h1.lt (hno h1)))) (Boxed.cell (Boxed.blk h2 (hc.block bk h2.lt (hno h2)))), hR w'' hc⟩
end

end Go.Proofs.YtffifhbldcjelaaGreatDoor
