import Derived.Test.YtgbnhngaeefmkaaFl22
import Derived.Test.YtgbnhngaeefmkaaFl23
import Derived.Test.YtgbnhngaeefmkaaBoxR
import Derived.Test.YtgbnhngaeefmkaaShelf

/-! Names: slices.Values, Collect, Sorted, Compact. -/
namespace Go.Proofs.Ytgbnhngaeefmkaa
set_option linter.unusedVariables false
set_option linter.unusedSimpArgs false
open Go.RowKit Go.Sort Go.Lib

attribute [local go_sem] Oper.semAt_some

theorem svalues_any (ao : Option Addr) (ln cap : Nat) (w : World) :
    Calls Try.prog 57 #[.slice ao ln cap] w fun e w' => e = .returned (.func (.func 66) #[] #[.pointer (some ⟨w.heap.size, 0, none⟩)]) ∧ w' = w.alloc (.cells #[.slice ao ln cap] 28) := by
  go_enter Try.func57, Try.ntmps57
  go_wp2
  go_ret
  exact ⟨rfl, rfl⟩

def encS (s : ByteArray) : Array Value := #[.string s]

theorem RowK.chg {w w' : World} {ao : Option Addr} {xs : List ByteArray} {C : Nat → Prop} (h : RowK 1 encT w ao xs) (hc : Chg C w w') (hn : xs ≠ [] → ∀ a, ao = some a → ¬ C a.block) : RowK 1 encT w' ao xs := fun i x hx => by
  obtain ⟨b, off, e, h1, h2⟩ := h i x hx
  have hne : xs ≠ [] := fun q => by rw [q] at hx; simp at hx
  exact ⟨b, off, e, Nat.lt_of_lt_of_le h1 hc.size, fun j v hv => hc.cell (h2 j v hv) (show ¬ C b from hn hne ⟨b, off, none⟩ e)⟩

set_option maxRecDepth 100000 in
set_option maxHeartbeats 2000000 in
theorem svalues_seq (n bx ln cap : Nat) (ao : Option Addr) (xs : List ByteArray) (w : World) (hln : xs.length = ln) (hn : ln ≤ 1000) (hb : w.cell? ⟨bx, 0, none⟩ = some (.slice ao ln cap)) (hrow : RowK 1 encT w ao xs) :
    SeqAll n Try.prog 66 #[.pointer (some ⟨bx, 0, none⟩)] encS (fun k => xs ≠ [] ∧ ∃ a, ao = some a ∧ a.block = k) xs w := by
  intro lp J O W hW hO hJ hY h0
  have hbc : W.cell? ⟨bx, 0, none⟩ = some (.slice ao ln cap) := by rw [hW.cell (p := ⟨bx, 0, none⟩) (World.block_lt_of_cell? _ _ hb)]; exact hb
  have HL := Lib.hid hln
  have HY := Lib.hid hY
  have H0 := Lib.hid h0
  have HR := Lib.hid (hrow.later hW)
  have HO := Lib.hid (show xs ≠ [] → ∀ a, ao = some a → ¬ O a.block from fun hne a e q => (hO _ q).2 ⟨hne, a, e, rfl⟩)
  clear hln hY h0 hJ hO hW hb hrow
  refine callsIn_of_wp Try.func66 rfl trivial ?_ rfl
  simp only [Try.ntmps66, List.size_toArray, List.length_cons, List.length_nil, Nat.reduceAdd, Nat.reduceSub, Array.replicate_succ, Array.replicate_zero, List.push_toArray, List.append_toArray, List.nil_append, List.cons_append]
  gi_wp2
  gi_loopw [7] (fun i wr => ∃ (k : Nat) (O1 : Nat → Prop), k ≤ ln ∧ i = .int .i64 k ∧ J (xs.take k) O1 wr ∧ (xs ≠ [] → ∀ a, ao = some a → ¬ O1 a.block) ∧ RowK 1 encT wr ao xs) (fun i _ => ln - (intOf i).toNat)
  case atStart => exact ⟨0, O, Nat.zero_le _, rfl, H0.out, HO.out, HR.out⟩
  case round =>
    obtain ⟨k, O1, hk, rfl, hj, hno, hr⟩ := hrel
    have JK := Lib.hid hj
    have HN := Lib.hid hno
    have RR := Lib.hid hr
    clear hj hno hr
    by_cases hlt : k < ln
    · have hkl : k < xs.length := by rw [HL.out]; exact hlt
      obtain ⟨b0, off, rfl, hlb, hce⟩ := RR.out.str hkl
      have hSp := Lib.hid (show xs = xs.take k ++ xs[k] :: xs.drop (k + 1) by rw [← List.drop_eq_getElem_cons hkl, List.take_append_drop])
      have hTk := Lib.hid (show xs.take (k + 1) = xs.take k ++ [xs[k]] from List.take_succ_eq_append_getElem hkl)
      obtain ⟨fn, tmps, assign, body, hy, hR⟩ := HY.out _ _ _ _ _ hSp.out JK.out
      have HRD := Lib.hid hR
      have k0 : (0 : Int) ≤ (k : Int) := by omega
      have k1 : (k : Int) < (ln : Int) := by omega
      obtain ⟨x, hx⟩ : ∃ x, xs[k] = x := ⟨_, rfl⟩
      rw [hx] at hce hy HRD hTk
      dsimp only [encS] at hy
      clear hR hx
      gi_wp2
      refine ⟨fun h => absurd h (by simp [Fence.wide]), HRD.out.mono ?_⟩
      rintro e W3 ⟨rfl, O2, hj3, hc3, ho3⟩
      have J3 := Lib.hid (show J (xs.take (k + 1)) O2 W3 ∧ (xs ≠ [] → ∀ a, some (⟨b0, off, none⟩ : Addr) = some a → ¬ O2 a.block) ∧ RowK 1 encT W3 (some ⟨b0, off, none⟩) xs from
        ⟨by rw [hTk.out]; exact hj3, fun hne a e q => by
          rcases ho3 _ q with q | q
          · exact HN.out hne a e q
          · cases e; simp only at q; omega, RR.out.chg hc3 HN.out⟩)
      clear hj3 hc3 ho3
      gi_wp2
      go_roundw
      case rel => exact ⟨k + 1, O2, by omega, by go_num, J3.out.1, J3.out.2.1, J3.out.2.2⟩
      case measure => simp [intOf]; omega
    · have hkn : k = ln := by omega
      have hj := JK.out
      rw [hkn, ← HL.out, List.take_length] at hj
      have HJ := Lib.hid hj
      clear hj hkn JK
      gi_wp2
      go_end0
      exact ⟨⟨_, rfl⟩, O1, HJ.out⟩

set_option maxRecDepth 100000 in
set_option maxHeartbeats 2000000 in
theorem appseq_any (n bx ln cap : Nat) (ao : Option Addr) (xs : List ByteArray) (w : World) (hln : xs.length = ln) (hn : ln ≤ 1000) (hb : w.cell? ⟨bx, 0, none⟩ = some (.slice ao ln cap)) (hrow : RowK 1 encT w ao xs) :
    CallsIn Fence.wide n Try.prog 81 #[.slice none 0 0, .func (.func 66) #[] #[.pointer (some ⟨bx, 0, none⟩)]] w fun e w' => ∃ v, e = .returned v ∧ w'.ownsRow w.heap.size 9 1 v xs.length (xs.flatMap encT) ∧ Below w.heap.size w w' := by
  obtain ⟨i0, hi, hz0, hz1, hz2⟩ := info_parts Try.infoStr
  have HL := Lib.hid hln
  have HR := Lib.hid hrow
  clear hln hrow
  refine callsIn_of_wp_marks Try.func81 rfl trivial ?_ rfl
  simp only [Try.ntmps81, List.size_toArray, List.length_cons, List.length_nil, Nat.reduceAdd, Nat.reduceSub, Array.replicate_succ, Array.replicate_zero, List.push_toArray, List.append_toArray, List.nil_append, List.cons_append]
  gi_wp2
  obtain ⟨W2, hW2⟩ : ∃ W2, w.alloc (.cells #[.slice none 0 0] 28) = W2 := ⟨_, rfl⟩
  have hs2 : W2.heap.size = w.heap.size + 1 := by rw [← hW2]; simp
  have B2 := Lib.hid (show Below w.heap.size w W2 by rw [← hW2]; exact (Below.refl _ w).alloc (Nat.le_refl _) _)
  have BX := Lib.hid (show Boxed W2 w.heap.size 28 (.slice none 0 0) by rw [← hW2]; exact Boxed.new w _ _)
  have BM := Lib.hid (show W2.cell? ⟨bx, 0, none⟩ = some (.slice ao ln cap) by rw [← hW2]; exact cell_up hb _)
  have RM := Lib.hid (show RowK 1 encT W2 ao xs from HR.out.later B2.out)
  have RL := Lib.hid (show ∀ a, ao = some a → xs ≠ [] → a.block < w.heap.size from fun a e hne => by
    obtain ⟨y, r, rfl⟩ := List.exists_cons_of_ne_nil hne
    obtain ⟨b, off, e2, h1, _⟩ := HR.out 0 y rfl
    rw [e] at e2; cases e2; exact h1)
  rw [hW2]
  have HS2 := Lib.hid hs2
  clear hW2 hs2
  refine wpIn_range_all (gf := 66) (lb := #[.pointer (some ⟨bx, 0, none⟩)]) rfl (enters_of Try.func66 (by kernel_rfl) rfl)
    (svalues_seq _ bx ln cap ao xs W2 HL.out hn BM.out RM.out) (fun _ => rfl)
    (fun pre O W => ∃ v, BoxRow w W w.heap.size 28 9 1 pre.length v (pre.flatMap encT) O) (fun k => k = w.heap.size ∨ (Value.slice none 0 0).ownBlock = some k) ?hO0 ?hI ?h0
    (fun pre x a' O W => a' = { tmps := #[.slice none 0 0, .func (.func 66) #[] #[.pointer (some ⟨bx, 0, none⟩)], .pointer (some ⟨w.heap.size, 0, none⟩), undef, .slice none 0 0, .string x, .func (.func 66) #[] #[.pointer (some ⟨bx, 0, none⟩)], .string x, undef, undef, undef, undef, undef], defers := [] } ∧
      ∃ v, BoxRow w W w.heap.size 28 9 1 pre.length v (pre.flatMap encT) O) ?hM ?assign ?body ?done
  case hO0 =>
    intro k hk
    rcases hk with rfl | hk
    · exact ⟨by have := HS2.out; omega, fun h => by obtain ⟨hne, a, e, h⟩ := h; have := RL.out a e hne; omega⟩
    · simp [Value.ownBlock] at hk
  case hI => rintro s O A A' C ⟨v, h⟩ hc hC; exact ⟨v, h.chg hc (fun k hk => ⟨by have := (hC k hk).1; have := HS2.out; omega, (hC k hk).2⟩)⟩
  case h0 => exact ⟨_, fun k => Iff.rfl, BX.out, World.ownsRow_nil _ _ _ _, B2.out, Nat.le_refl _⟩
  case hM => rintro s x a' O A A' C ⟨e, v, h⟩ hc hC; exact ⟨e, v, h.chg hc (fun k hk => ⟨by have := (hC k hk).1; have := HS2.out; omega, (hC k hk).2⟩)⟩
  case assign =>
    intro l' pre x rest O W K hx hi hK
    dsimp only [encS]
    gi_wp2
    exact hK _ O W ⟨rfl, hi⟩ (Chg.refl _ _) (fun k h => .inl h)
  case body =>
    rintro l' pre x rest a' O W hx ⟨rfl, v, hbr⟩
    have BR := Lib.hid hbr
    have hcell := hbr.box.cell
    have hpl : pre.length ≤ 1000 := by
      have h2 : pre.length ≤ xs.length := by rw [hx]; simp
      have := HL.out; omega
    clear hbr hx
    gi_wp2_with (first
      | (gi_at_builtin; refine wpListIn_append_own_at _ rfl _ _ 28 rfl w.heap.size 9 i0 (.string (ByteArray.mk #[])) 1 16 Try.underlying28 hi hz0 hz1 hz2 rfl (by decide) _ _ _ rfl (BR.out.row.alloc _) ⟨W.heap.size, 0, none⟩ 1 1 (encT x) rfl rfl (cells_at _ _ _ _ rfl) (encT_one _) (by unfold maxLen; omega) (by omega) (by have := BR.out.bel.size; simp; omega) ?_; intro v' w1 own gr hnil hloc; obtain ⟨g', cap', rfl⟩ := ownsRow_succ own; obtain ⟨hv1, hap⟩ := BR.out.appended (by decide) own gr hloc; have AP := Lib.hid hap; have hc1 := hv1.cell; have hf1 := hv1.frozen; clear own gr hnil hloc hap hv1)
      | gi_in)
    obtain ⟨O', h1, h2, h3⟩ := AP.out
    exact ⟨O', ⟨_, by rw [flat_snoc, List.length_append]; exact h1⟩, h2, h3⟩
  case done =>
    rintro D O W hD hnD ⟨v, hbr⟩ hK
    have hcell := hbr.box.cell
    have BR := Lib.hid hbr
    obtain ⟨ao, cap, hv, h1, h2⟩ := rowK_of_owns encT_len (by decide) hbr.row
    subst hv
    clear hbr
    gi_wp2
    refine ⟨by simp, .inl ⟨_, _, rfl, run_takeDeferred hK, ?_⟩⟩
    have hB := BR.out.chg (Chg.put W D (.deferred none) (C := fun k => k = D) rfl) (fun k hk => by subst hk; exact ⟨by have := HS2.out; omega, hnD⟩)
    exact ⟨_, results_tmp rfl _ _ _, .slice ao xs.length cap, rfl, hB.row, hB.bel⟩

theorem collect_any (n bx ln cap : Nat) (ao : Option Addr) (xs : List ByteArray) (w : World) (hln : xs.length = ln) (hn : ln ≤ 1000) (hb : w.cell? ⟨bx, 0, none⟩ = some (.slice ao ln cap)) (hrow : RowK 1 encT w ao xs) :
    CallsIn Fence.wide n Try.prog 64 #[.func (.func 66) #[] #[.pointer (some ⟨bx, 0, none⟩)]] w fun e w' => ∃ v, e = .returned v ∧ w'.ownsRow w.heap.size 9 1 v xs.length (xs.flatMap encT) ∧ Below w.heap.size w w' := by
  have AS := Lib.hid (fun m => appseq_any m bx ln cap ao xs w hln hn hb hrow)
  clear hln hb hrow
  refine callsIn_of_wp Try.func64 rfl trivial ?_ rfl
  simp only [Try.ntmps64, List.size_toArray, List.length_cons, List.length_nil, Nat.reduceAdd, Nat.reduceSub, Array.replicate_succ, Array.replicate_zero, List.push_toArray, List.append_toArray, List.nil_append, List.cons_append]
  gi_wp2
  refine ⟨trivial, fun h => absurd h (by simp [Fence.wide]), (AS.out _).mono ?_⟩
  rintro e W2 ⟨v, rfl, h2⟩
  have H2 := Lib.hid h2
  obtain ⟨ao2, cap2, rfl, _, _⟩ := rowK_of_owns encT_len (by decide) h2.1
  clear h2
  gi_wp2
  go_ret
  exact ⟨_, rfl, H2.out⟩

/-- slices.Sorted, then slices.Compact -/
theorem sorted_any (n bx ln cap : Nat) (ao : Option Addr) (xs : List ByteArray) (w : World) (hln : xs.length = ln) (hn : ln ≤ 1000) (hb : w.cell? ⟨bx, 0, none⟩ = some (.slice ao ln cap)) (hrow : RowK 1 encT w ao xs) :
    CallsIn Fence.wide n Try.prog 56 #[.func (.func 66) #[] #[.pointer (some ⟨bx, 0, none⟩)]] w fun e w' => ∃ v, e = .returned v ∧ w'.ownsRow w.heap.size 9 1 v xs.length ((sortedL xs).map encStr) ∧ Below w.heap.size w w' := by
  have CO := Lib.hid (fun m => collect_any m bx ln cap ao xs w hln hn hb hrow)
  have HL := Lib.hid hln
  clear hln hb hrow
  refine callsIn_of_wp Try.func56 rfl trivial ?_ rfl
  simp only [Try.ntmps56, List.size_toArray, List.length_cons, List.length_nil, Nat.reduceAdd, Nat.reduceSub, Array.replicate_succ, Array.replicate_zero, List.push_toArray, List.append_toArray, List.nil_append, List.cons_append]
  gi_wp2
  refine ⟨trivial, fun h => absurd h (by simp [Fence.wide]), (CO.out _).mono ?_⟩
  rintro e W2 ⟨v, rfl, hrow, hbl⟩
  rcases hrow.2 with ⟨rfl, hz⟩ | ⟨gb, cp, cur, rfl, hbase, hgb, r1, r2, r3, r4⟩
  · have hx : xs = [] := List.eq_nil_of_length_eq_zero hz
    subst hx
    have HB := Lib.hid hbl
    clear hrow hbl
    gi_wp2
    refine wide_call (Try.slices_Sort_string_none none 0 W2) ?_
    rintro e w' ⟨rfl, rfl⟩
    gi_wp2
    go_ret
    exact ⟨_, rfl, by simpa [sortedL, rows] using World.ownsRow_nil w' w.heap.size 9 1, HB.out⟩
  · have hr4 : cur.toList.take (rows xs).length = (rows xs).map encStr := by rw [← rows_enc, ← r4]; unfold rows; simp
    have hrl : (rows xs).length = xs.length := by unfold rows; simp
    have hH : Holds encStr W2 gb 0 (rows xs).toArray := holds_of_block hgb hr4
    have hcall := Try.slices_Sort_string gb 0 cp (rows xs) W2 hH (lt_of_blk hgb) (by have := HL.out; omega)
    rw [hrl] at hcall
    have CA := Lib.hid hcall
    have FIN := Lib.hid (show ∀ m os, (grow (putRow encStr (Sort.ahead W2 m) gb 0 (sortedL xs).toArray) os).ownsRow w.heap.size 9 1 (.slice (some ⟨gb, 0, none⟩) xs.length cp) xs.length ((sortedL xs).map encStr) ∧ Below w.heap.size w (grow (putRow encStr (Sort.ahead W2 m) gb 0 (sortedL xs).toArray) os) from fun m os => by
      have h1 := ownsRow_sorted (os := os) (n := m) (ts := sortedL xs) (ss := rows xs) (by rw [sortedL_len, hrl]) hbase hgb (by rw [hrl]; exact r1) r2 r3
      rw [hrl] at h1
      exact ⟨h1, hbl.grown (grownBy_sorted _) hbl.size (fun j hj => by cases hj; exact hbase)⟩)
    clear hrow hbl hH hcall hr4 hgb r1 r2 r3 r4
    gi_wp2
    refine wide_call CA.out ?_
    rintro e w' ⟨rfl, m, os, rfl⟩
    have F2 := Lib.hid (FIN.out m os)
    unfold sortedL at F2
    gi_wp2
    go_ret
    exact ⟨_, rfl, F2.out⟩

end Go.Proofs.Ytgbnhngaeefmkaa
