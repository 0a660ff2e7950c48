/-
  wire.PutInt, walked; PutString. strings.Builder: copyCheck and WriteString, walked. The numbers of a record. What Encode's loop leans on.
-/
import Derived.Test.YtffifhbldcjelaaGreatDoorDs33
import Derived.Laws.Closers25b
import Derived.Test.YtffifhbldcjelaaGreatDoorDs06
import Derived.Test.YtffifhbldcjelaaGreatDoorShelf
import Derived.Shelf.Strings.Builder1
import Derived.Test.YtffifhbldcjelaaGreatDoorDs19
import Derived.StillTailTactics
import Derived.Test.YtffifhbldcjelaaGreatDoorDs20

/-! wire.PutInt, walked; PutString. -/
namespace Go.Proofs.YtffifhbldcjelaaGreatDoor
set_option linter.unusedVariables false
set_option linter.unusedSimpArgs false
set_option linter.unusedSectionVars false
open Go.RowKit

attribute [local go_sem] Oper.semAt_some

theorem Tryz.infoB : (Tryz.prog.info? 5).map (fun i => (i.zero, i.size, i.bytes)) = some (some (.int .u8 0), 1, 1) := by kernel_rfl
/-- the byte that a group becomes -/
def gB (g : Nat × Bool) : Int := if g.2 then (g.1 : Int) else bits .or .u8 (g.1 : Int) 128
def encU (g : Nat × Bool) : List Value := [.int .u8 (gB g)]
theorem encU_len (x : Nat × Bool) : (encU x).length = 1 := rfl
theorem encU_one (x : Nat × Bool) : ∀ u ∈ encU x, u.oneCell' = true := by intro u hu; simp [encU] at hu; subst hu; rfl
theorem conv_bytes {w : World} {ao : Option Addr} {l : List (Nat × Bool)} (n cap : Nat) (hn : l.length = n) (hp : 0 < n) (h : RowK 1 encU w ao l) : (convert 64 9 (.slice ao n cap)).run Tryz.prog w = .ok (.string (strOfNums (l.map gB))) w := by
  obtain ⟨g, off, rfl, _, _⟩ := h 0 l[0] (List.getElem?_eq_getElem (by omega))
  refine run_convert_bytes_arg (P := Tryz.prog) w 64 5 Tryz.underlying64 Tryz.underlying5 g off n cap (l.map gB) (by rw [List.length_map]; exact hn) (fun i hi => ?_) 9 Tryz.underlying9
  obtain ⟨g', o', e, _, hc⟩ := h i l[i] (List.getElem?_eq_getElem (by omega))
  cases e
  have := hc 0 _ rfl
  rw [Nat.mul_one, Nat.add_zero] at this
  rw [this, List.getD_eq_getElem?_getD, List.getElem?_map, List.getElem?_eq_getElem (by omega)]
  rfl
/-- the number whose groups are written -/
def zig (n : Int) : Nat := (bits .xor .u64 (IntKind.u64.wrap (IntKind.u64.wrap n * 2)) (IntKind.u64.wrap (n / 9223372036854775808))).toNat
/-- the text of a number -/
def putB (n : Int) : ByteArray := if -4611686018427387903 ≤ n ∧ n ≤ 4611686018427387903 then strOfNums ((grp (zig n)).map gB) else ⟨#[]⟩
theorem zig_lt (n : Int) : zig n < 18446744073709551616 := by
  unfold zig
  have h1 := bits_lo_u64 .xor (IntKind.u64.wrap (IntKind.u64.wrap n * 2)) (IntKind.u64.wrap (n / 9223372036854775808))
  have h2 := bits_hi_u64 .xor (IntKind.u64.wrap (IntKind.u64.wrap n * 2)) (IntKind.u64.wrap (n / 9223372036854775808))
  omega
theorem putB_len (n : Int) : (putB n).size ≤ 10 := by
  unfold putB
  split
  · rw [strOfNums_size, List.length_map]
    exact grp_len 9 _ (by have : (128 : Nat) ^ (9 + 1) = 1180591620717411303424 := by decide
                          have := zig_lt n
                          omega)
  · exact Nat.zero_le _
theorem putB_pos {n : Int} (h1 : -4611686018427387903 ≤ n) (h2 : n ≤ 4611686018427387903) : 1 ≤ (putB n).size := by
  unfold putB
  rw [if_pos ⟨h1, h2⟩, strOfNums_size, List.length_map]
  exact grp_pos _
/-- what PutInt gives: of a number that is not too great or small, at least a byte -/
def PutE (n : Int) (w : World) (e : Ending) (w' : World) : Prop := ∃ (s : ByteArray) (er : Int), e = .returned (.tuple #[.string s, .int .i64 er]) ∧ s = putB n ∧ s.size ≤ 10 ∧ (-4611686018427387903 ≤ n → n ≤ 4611686018427387903 → 1 ≤ s.size) ∧ Below w.heap.size w w'

set_option maxRecDepth 100000 in
set_option maxHeartbeats 2000000 in
theorem putint_any (n : Int) (w : World) : Calls Tryz.prog 26 #[.int .i64 n] w (PutE n w) := by
  obtain ⟨i0, hi, hz0, hz1, hz2⟩ := info_parts Tryz.infoB
  by_cases g1 : n < -4611686018427387903
  · go_enter Tryz.func26, Tryz.ntmps26
    go_wp2
    go_ret2
    exact ⟨_, _, rfl, by unfold putB; rw [if_neg (by omega)], Nat.zero_le _, fun q => by omega, Below.refl _ _⟩
  · by_cases g2 : (4611686018427387903 : Int) < n
    · go_enter Tryz.func26, Tryz.ntmps26
      go_wp2
      go_ret2
      exact ⟨_, _, rfl, by unfold putB; rw [if_neg (by omega)], Nat.zero_le _, fun _ q => by omega, Below.refl _ _⟩
    · suffices HH : ∀ k, CallsIn Fence.wide k Tryz.prog 26 #[.int .i64 n] w (PutE n w) from (callsIn_wide (n := 5)).1 (HH 5)
      intro nF
      refine callsIn_of_wp_marks Tryz.func26 rfl trivial ?_ rfl
      simp only [Tryz.ntmps26, List.size_toArray, List.length_cons, List.length_nil, Nat.reduceAdd, Nat.reduceSub, Array.replicate_succ, Array.replicate_zero, List.push_toArray, List.append_toArray, List.nil_append, List.cons_append]
      gi_wp2
      obtain ⟨v17, h17⟩ : ∃ v, n / 9223372036854775808 = v := ⟨_, rfl⟩
      obtain ⟨v14, h14⟩ : ∃ v, IntKind.u64.wrap n = v := ⟨_, rfl⟩
      rw [h17, h14]
      obtain ⟨v18, h18⟩ : ∃ v, IntKind.u64.wrap v17 = v := ⟨_, rfl⟩
      obtain ⟨v15, h15⟩ : ∃ v, IntKind.u64.wrap (v14 * 2) = v := ⟨_, rfl⟩
      rw [h18, h15]
      obtain ⟨z, hz, hzl⟩ : ∃ z : Nat, bits .xor .u64 v15 v18 = (z : Int) ∧ z < 18446744073709551616 := ⟨(bits .xor .u64 v15 v18).toNat, by
        have h1 := bits_lo_u64 .xor v15 v18
        have h2 := bits_hi_u64 .xor v15 v18
        omega⟩
      rw [hz]
      have HZ := Lib.hid (show putB n = strOfNums ((grp z).map gB) by
        unfold putB zig
        rw [if_pos (by omega), h14, h17, h15, h18, hz]
        rfl)
      have HG1 := Lib.hid g1
      have HG2 := Lib.hid g2
      clear h17 h14 h18 h15 hz g1 g2
      refine wide_call (groups_any (z : Int) _) ?_
      rintro e w' ⟨rfl, rfl⟩
      gi_wp2
      obtain ⟨W2, hW2⟩ : ∃ W2, (w.alloc (.cells #[.slice none 0 0] 64)).alloc (.cells #[.int .u64 (z : Int)] 119) = W2 := ⟨_, rfl⟩
      have HS2 := Lib.hid (show W2.heap.size = w.heap.size + 2 by rw [← hW2]; simp)
      have B2 := Lib.hid (show Below w.heap.size w W2 by rw [← hW2]; exact ((Below.refl _ w).alloc (Nat.le_refl _) _).alloc (by simp) _)
      have BX := Lib.hid (show Boxed W2 w.heap.size 64 (.slice none 0 0) by rw [← hW2]; exact (Boxed.new w _ _).alloc _)
      have BM := Lib.hid (show Boxed W2 (w.heap.size + 1) 119 (.int .u64 (z : Int)) by rw [← hW2]; have := Boxed.new (w.alloc (.cells #[.slice none 0 0] 64)) 119 (.int .u64 (z : Int)); simpa using this)
      rw [hW2]
      clear hW2
      have GL := Lib.hid (grp_len 9 z (by have : (128 : Nat) ^ (9 + 1) = 1180591620717411303424 := by decide
                                          omega))
      have GP := Lib.hid (grp_pos z)
      refine wpIn_range_owx (gf := 82) (lb := #[.pointer (some ⟨w.heap.size + 1, 0, none⟩)]) rfl (enters_of Tryz.func82 (by kernel_rfl) rfl)
        (groups_seq _ (w.heap.size + 1) z W2 hzl BM.out) (fun _ => rfl) (fun k hk => by subst hk; have := HS2.out; omega)
        (fun pre O W => ∃ v, BoxRow w W w.heap.size 64 5 1 pre.length v (pre.flatMap encU) O) (fun k => k = w.heap.size ∨ (Value.slice none 0 0).ownBlock = some k) ?hO0 ?hI ?h0
        (fun pre x a' O W => a' = { tmps := #[.int .i64 n, undef, .string { data := #[] }, .int .i64 0, .pointer (some ⟨w.heap.size, 0, none⟩), .int .u8 (x.1 : Int), .bool x.2, .int .i64 n, .bool false, .bool false, .int .i64 n, .bool false, .bool false, .int .i64 n, .int .u64 v14, .int .u64 v15, .int .i64 n, .int .i64 v17, .int .u64 v18, .int .u64 (z : Int), .func (.func 82) #[] #[.pointer (some ⟨w.heap.size + 1, 0, none⟩)], .int .u8 (x.1 : Int), .bool x.2, undef, undef, undef, undef, undef, undef, undef, undef, undef, undef], defers := [] } ∧
          ∃ v, BoxRow w W w.heap.size 64 5 1 pre.length v (pre.flatMap encU) O) ?hM ?assign ?body ?done
      case hO0 =>
        intro k hk
        rcases hk with rfl | hk
        · exact ⟨by have := HS2.out; omega, by omega⟩
        · simp [Value.ownBlock] at hk
      case hI => rintro s O A A' C ⟨v, h⟩ hc hC; exact ⟨v, h.chg hc (fun k hk => ⟨by rcases (hC k hk).1 with q | q; (have := HS2.out; omega); omega, (hC k hk).2⟩)⟩
      case h0 => exact ⟨_, fun k => Iff.rfl, BX.out, World.ownsRow_nil _ _ _ _, B2.out, Nat.le_refl _⟩
      case hM => rintro s x a' O A A' C ⟨e, v, h⟩ hc hC; exact ⟨e, v, h.chg hc (fun k hk => ⟨by rcases (hC k hk).1 with q | q; (have := HS2.out; omega); omega, (hC k hk).2⟩)⟩
      case assign =>
        intro l' pre x rest O W K hx hi hK
        dsimp only [encG]
        gi_wp2
        exact hK _ O W ⟨rfl, hi⟩ (Chg.refl _ _) (fun k h => .inl h)
      case body =>
        rintro l' pre ⟨g, b⟩ rest a' O W hx ⟨rfl, v, hbr⟩
        have BR := Lib.hid hbr
        have hcell := hbr.box.cell
        have hpl : pre.length ≤ 1000 := by
          have h2 : (grp z).length = pre.length + (rest.length + 1) := by rw [hx]; simp
          have := GL.out
          omega
        clear hbr hx
        rcases b with _ | _
        · gi_wp2_with (first
            | (gi_at_builtin; refine wpListIn_append_own_at _ rfl _ _ 64 rfl w.heap.size 5 i0 (.int .u8 0) 1 1 Tryz.underlying64 hi hz0 hz1 hz2 rfl (by decide) _ _ _ rfl (BR.out.row.alloc _) ⟨W.heap.size, 0, none⟩ 1 1 (encU (g, false)) rfl rfl (cells_at _ _ _ _ rfl) (encU_one _) (by unfold maxLen; omega) (by omega) (by have := BR.out.bel.size; simp; omega) ?_; intro v' w1 own gr hnil hloc; obtain ⟨g', cap', rfl⟩ := ownsRow_succ own; obtain ⟨hv1, hap⟩ := BR.out.appended (by decide) own gr hloc; have AP := Lib.hid hap; have hc1 := hv1.cell; have hf1 := hv1.frozen; clear own gr hnil hloc hap hv1)
            | gi_in)
          obtain ⟨O', h1, h2, h3⟩ := AP.out
          exact ⟨O', ⟨_, by rw [flat_snoc, List.length_append]; exact h1⟩, h2, h3⟩
        · gi_wp2_with (first
            | (gi_at_builtin; refine wpListIn_append_own_at _ rfl _ _ 64 rfl w.heap.size 5 i0 (.int .u8 0) 1 1 Tryz.underlying64 hi hz0 hz1 hz2 rfl (by decide) _ _ _ rfl (BR.out.row.alloc _) ⟨W.heap.size, 0, none⟩ 1 1 (encU (g, true)) rfl rfl (cells_at _ _ _ _ rfl) (encU_one _) (by unfold maxLen; omega) (by omega) (by have := BR.out.bel.size; simp; omega) ?_; intro v' w1 own gr hnil hloc; obtain ⟨g', cap', rfl⟩ := ownsRow_succ own; obtain ⟨hv1, hap⟩ := BR.out.appended (by decide) own gr hloc; have AP := Lib.hid hap; have hc1 := hv1.cell; have hf1 := hv1.frozen; clear own gr hnil hloc hap hv1)
            | gi_in)
          obtain ⟨O', h1, h2, h3⟩ := AP.out
          exact ⟨O', ⟨_, by rw [flat_snoc, List.length_append]; exact h1⟩, h2, h3⟩
      case done =>
        rintro D O W hD hnD ⟨v, hbr⟩ hK
        have hcell := hbr.box.cell
        have BR := Lib.hid hbr
        obtain ⟨ao, cap, hv, h1, h2⟩ := rowK_of_owns encU_len (by decide) hbr.row
        subst hv
        have cv := conv_bytes (grp z).length cap rfl (by have := GP.out; omega) h2
        clear hbr
        gi_wp2
        refine ⟨by simp, .inl ⟨_, _, rfl, run_takeDeferred hK, ?_⟩⟩
        have hB := BR.out.chg (Chg.put W D (.deferred none) (C := fun k => k = D) rfl) (fun k hk => by subst hk; exact ⟨by have := HS2.out; omega, hnD⟩)
        exact ⟨_, results_tmp2 rfl _ _ _, _, _, rfl, HZ.out.symm, by rw [strOfNums_size, List.length_map]; exact GL.out, fun _ _ => by rw [strOfNums_size, List.length_map]; exact GP.out, hB.bel⟩

end Go.Proofs.YtffifhbldcjelaaGreatDoor

/-! strings.Builder: copyCheck and WriteString, walked. -/
namespace Go.Proofs.YtffifhbldcjelaaGreatDoor
set_option linter.unusedVariables false
set_option linter.unusedSimpArgs false
set_option linter.unusedSectionVars false
open Go.RowKit Go.Shelf

set_option maxHeartbeats 1000000 in
set_option maxRecDepth 100000 in
theorem check_used (b : Nat) (w : World) (h0 : w.cell? ⟨b, 0, none⟩ = some (.pointer (some ⟨b, 0, none⟩))) :
    Calls Tryz.prog 46 #[.pointer (some ⟨b, 0, none⟩)] w fun e w' => e = .returned (.tuple #[]) ∧ w' = w := by
  obtain ⟨j, hj, _⟩ := Option.map_eq_some_iff.1 Tryz.Builder_Extra_169.sizeBuilder
  go_enter Tryz.func46, Tryz.ntmps46
  go_wp2
  rw [Lib.run_neq_ptr_same w _ Tryz.underlying66 hj]
  go_wp2
  go_end0
  exact ⟨rfl, rfl⟩

set_option maxHeartbeats 1000000 in
set_option maxRecDepth 100000 in
theorem check_fresh (b : Nat) (w : World) (h0 : w.cell? ⟨b, 0, none⟩ = some (.pointer none)) (hsh : w.shape? b = some (68, 2)) (hfz : w.frozen? ⟨b, 0, none⟩ = false) :
    Calls Tryz.prog 46 #[.pointer (some ⟨b, 0, none⟩)] w fun e w' => e = .returned (.tuple #[]) ∧ w' = w.setCell ⟨b, 0, none⟩ (.pointer (some ⟨b, 0, none⟩)) := by
  obtain ⟨j, hj, hjs⟩ := Option.map_eq_some_iff.1 Tryz.Builder_Extra_169.sizeBuilder
  go_enter Tryz.func46, Tryz.ntmps46
  go_wp2
  rw [Lib.run_to_unsafe w ⟨b, 0, none⟩ Tryz.underlying66 Tryz.underlying144 hj (by rw [hjs]; decide) hsh (Nat.zero_lt_succ 1)]
  simp only [Result.andThen]
  rw [Oper.upon_value]
  go_wp2
  rw [run_callFunc_extern Tryz.func83 (by kernel_rfl) (by kernel_rfl) (by kernel_rfl) (e := Extern.AbiNoEscape.same) (by kernel_rfl)]
  rw [Lib.run_noEscape]
  simp only [Result.andThen]
  rw [Oper.upon_value]
  go_wp2
  rw [Lib.run_from_unsafe w ⟨b, 0, none⟩ Tryz.underlying144 Tryz.underlying66 hj hsh Tryz.Builder_Extra_169.liesBuilder]
  simp only [Result.andThen]
  rw [Oper.upon_value]
  go_wp2
  go_end0
  exact ⟨rfl, rfl⟩

abbrev IsB (B b : Nat) (bs : List Value) (w : World) : Prop := Lib.IsBuilder 68 5 B b bs w
/-- cells of other kinds stay -/
def Keeps (b : Nat) (w w' : World) : Prop := ∀ k cs t fr, w.heap[k]? = some (.cells cs t fr) → k ≠ b → t ≠ 5 → w'.heap[k]? = some (.cells cs t fr)
theorem Keeps.trans {b : Nat} {u v w : World} (h : Keeps b u v) (h2 : Keeps b v w) : Keeps b u w := fun k cs t fr e n1 n2 => h2 k cs t fr (h k cs t fr e n1 n2) n1 n2
theorem Keeps.set {b : Nat} {w : World} (j : Nat) (v : Value) : Keeps b w (w.setCell ⟨b, j, none⟩ v) := fun k cs t fr e n1 _ => (Below.heap_setCell _ _ _ _ n1).trans e
theorem check_any (B b : Nat) (bs : List Value) (w : World) (h : IsB B b bs w) :
    Calls Tryz.prog 46 #[.pointer (some ⟨b, 0, none⟩)] w fun e w' => e = .returned (.tuple #[]) ∧ (Lib.BuilderAt 68 5 B b (.pointer (some ⟨b, 0, none⟩)) bs w' ∧ Below B w w' ∧ Keeps b w w') := by
  rcases h with h | h
  · refine (check_fresh b w h.cell0 h.shape h.frozen0).mono ?_
    rintro e w' ⟨rfl, rfl⟩
    exact ⟨rfl, h.used _, (Below.refl B w).setCell (p := ⟨b, 0, none⟩) h.1 _, Keeps.set 0 _⟩
  · refine (check_used b w h.cell0).mono ?_
    rintro e w' ⟨rfl, rfl⟩
    exact ⟨rfl, h, Below.refl B _, fun _ _ _ _ e _ _ => e⟩

set_option maxHeartbeats 2000000 in
set_option maxRecDepth 100000 in
theorem write_any (B b : Nat) (bs : List Value) (s : ByteArray) (w : World) (h : IsB B b bs w) (hlen : bs.length + s.size ≤ 140737488355328) (hBw : B ≤ w.heap.size) :
    Calls Tryz.prog 27 #[.pointer (some ⟨b, 0, none⟩), .string s] w fun e w' => e = .returned (.tuple #[.int .i64 s.size, .nilIface]) ∧ (IsB B b (bs ++ Lib.strCells s) w' ∧ Below B w w' ∧ Keeps b w w') := by
  obtain ⟨i0, hi, hz0, hz1, hz2⟩ := info_parts Tryz.Builder_Extra_169.infoByte
  have e46 : ∀ args w, (callFunc 46 args).run Tryz.prog w = .ok (.enter 46 args) w := enters_of Tryz.func46 (by kernel_rfl) rfl
  go_enter Tryz.func27, Tryz.ntmps27
  go_wp2_with (go_at_fn 46; refine (check_any B b bs _ h).mono ?_)
  rintro e w1 ⟨rfl, h1, hb1, hkp⟩
  have KP := Lib.hid hkp
  clear hkp
  obtain ⟨hB, v, hbk, hown, hne⟩ := h1
  have c0 : w1.cell? ⟨b, 0, none⟩ = some (.pointer (some ⟨b, 0, none⟩)) := by rw [Lib.cell_of_heap hbk]; rfl
  have c1 : w1.cell? ⟨b, 1, none⟩ = some v := by rw [Lib.cell_of_heap hbk]; rfl
  go_wp2_with (at_builtin; refine Lib.wpList_append_own_string _ rfl _ _ 64 9 rfl B 5 i0 Tryz.underlying64 Tryz.underlying9 hi hz0 hz1 hz2 _ _ _ rfl hown s rfl ?c3 ?c4 ?c5 ?_)
  case c3 => unfold maxLen; omega
  case c4 => omega
  case c5 => have := hb1.size; omega
  intro v' w2 hown' hgrow _
  have hlt : b < w1.heap.size := by
    rcases Nat.lt_or_ge b w1.heap.size with h' | h'
    · exact h'
    · simp [Array.getElem?_eq_none h'] at hbk
  have hb2 : w2.heap[b]? = some (.cells #[.pointer (some ⟨b, 0, none⟩), v] 68 (0, 0)) := by
    rw [hgrow.block b hlt (fun e => hne e.symm)]
    exact hbk
  have d0 : w2.cell? ⟨b, 0, none⟩ = some (.pointer (some ⟨b, 0, none⟩)) := by rw [Lib.cell_of_heap hb2]; rfl
  have d1 : w2.cell? ⟨b, 1, none⟩ = some v := by rw [Lib.cell_of_heap hb2]; rfl
  have f1 : w2.frozen? ⟨b, 1, none⟩ = false := Lib.frozen_of_heap hb2 1
  obtain ⟨ao, n', cap, rfl⟩ : ∃ ao n' cap, v' = .slice ao n' cap := by
    rcases hown'.2 with ⟨hv, _⟩ | ⟨g, cap, cur, hv, _⟩
    · exact ⟨_, _, _, hv⟩
    · exact ⟨_, _, _, hv⟩
  go_wp2
  go_ret2
  have hk2 : Keeps b w1 w2 := fun k cs t fr e n1 n2 => by
    rw [hgrow.block k (Array.getElem?_eq_some_iff.1 e).1 (fun q => ?_)]
    · exact e
    · rcases hown.2 with ⟨hv, _⟩ | ⟨g, cap, cur, hv, _, hg, _⟩
      · rw [hv] at q; simp [Value.ownBlock] at q
      · rw [hv] at q
        simp only [Value.ownBlock, Option.some.injEq] at q
        subst q
        rw [hg] at e
        simp only [Option.some.injEq, Obj.cells.injEq] at e
        exact n2 e.2.1.symm
  refine ⟨rfl, ?_, ?_, (KP.out.trans hk2).trans (Keeps.set 1 _)⟩
  · exact .inr (Lib.BuilderAt.put (T := 68) (e := 5) hB hb2 (bs' := bs ++ Lib.strCells s) (by simpa [Lib.strCells_length] using hown') (by decide))
  · exact (hb1.grown hgrow (by have := hb1.size; omega) (fun k hk => (hown.lt k hk).1)).setCell (p := ⟨b, 1, none⟩) hB _
theorem string_any (B b : Nat) (s : ByteArray) (w : World) (h : IsB B b (Lib.strCells s) w) (hBw : B ≤ w.heap.size) :
    Calls Tryz.prog 29 #[.pointer (some ⟨b, 0, none⟩)] w fun e w' => e = .returned (.string s) ∧ Below B w w' := by
  exact Tryz.Builder_String_any B b s.data.toList w h hBw

end Go.Proofs.YtffifhbldcjelaaGreatDoor

/-! The numbers of a record. -/
namespace Go.Proofs.YtffifhbldcjelaaGreatDoor
set_option linter.unusedVariables false
set_option linter.unusedSimpArgs false
set_option linter.unusedSectionVars false
open Go.RowKit

def ptrsV (b : Nat) : List Value := [.pointer (some ⟨b, 0, none⟩), .pointer (some ⟨b, 1, none⟩), .pointer (some ⟨b, 2, none⟩), .pointer (some ⟨b, 3, none⟩), .pointer (some ⟨b, 4, none⟩), .pointer (some ⟨b, 5, none⟩), .pointer (some ⟨b, 6, none⟩), .pointer (some ⟨b, 7, none⟩), .pointer (some ⟨b, 8, none⟩), .pointer (some ⟨b, 9, none⟩), .pointer (some ⟨b, 10, none⟩), .pointer (some ⟨b, 11, none⟩), .pointer (some ⟨b, 12, none⟩), .pointer (some ⟨b, 13, none⟩), .pointer (some ⟨b, 14, none⟩), .pointer (some ⟨b, 15, none⟩), .pointer (some ⟨b, 16, none⟩)]
set_option maxRecDepth 100000 in
set_option maxHeartbeats 2000000 in
theorem numbers_any (b : Nat) (w : World) : Calls Tryz.prog 25 #[.pointer (some ⟨b, 0, none⟩)] w fun e w' => e = .returned (.agg (ptrsV b).toArray) ∧ Below w.heap.size w w' := by
  have B1 := Lib.hid ((Below.refl w.heap.size w).alloc (Nat.le_refl _) (.cells (ptrsV b).toArray 73))
  have C1 := Lib.hid (cells_at w.drew (ptrsV b) 73 w.heap.size rfl)
  unfold ptrsV at B1 C1
  go_enter Tryz.func25, Tryz.ntmps25
  go_wp2
  simp only [List.append_eq, List.cons_append, List.nil_append]
  go_still_tail 69, (by kernel_rfl)
  change wpList _ _ _ _ _ (World.drew _)
  go_wp2
  exact bodyPost_ret (results_cellF rfl rfl (by kernel_rfl) (by kernel_rfl) C1.out) rfl ⟨rfl, B1.out.drew⟩

end Go.Proofs.YtffifhbldcjelaaGreatDoor

/-! What Encode's loop leans on. -/
namespace Go.Proofs.YtffifhbldcjelaaGreatDoor
set_option linter.unusedVariables false
set_option linter.unusedSimpArgs false
set_option linter.unusedSectionVars false
open Go.RowKit

theorem ownsRow_later {w w' : World} {B : Nat} {e : TypeId} {s : Nat} {v : Value} {n : Nat} {xs : List Value} (h : w.ownsRow B e s v n xs) (hb : Below w.heap.size w w') : w'.ownsRow B e s v n xs := by
  obtain ⟨h1, h2⟩ := h
  refine ⟨h1, ?_⟩
  rcases h2 with h2 | ⟨g, cap, cur, e1, e2, e3, e4⟩
  · exact .inl h2
  · exact .inr ⟨g, cap, cur, e1, e2, (hb.block g (Array.getElem?_eq_some_iff.1 e3).1).trans e3, e4⟩
theorem builderAt_later {w w' : World} {B b : Nat} {p : Value} {bs : List Value} (h : Lib.BuilderAt 68 5 B b p bs w) (hb : Below w.heap.size w w') : Lib.BuilderAt 68 5 B b p bs w' := by
  obtain ⟨h1, v, h2, h3, h4⟩ := h
  exact ⟨h1, v, (hb.block b (Array.getElem?_eq_some_iff.1 h2).1).trans h2, ownsRow_later h3 hb, h4⟩
theorem isB_later {w w' : World} {B b : Nat} {bs : List Value} (h : IsB B b bs w) (hb : Below w.heap.size w w') : IsB B b bs w' := h.imp (fun q => builderAt_later q hb) (fun q => builderAt_later q hb)
theorem strCells_app (s t : ByteArray) : Lib.strCells s ++ Lib.strCells t = Lib.strCells (s ++ t) := by
  unfold Lib.strCells
  rw [← List.map_append]
  congr 1

set_option maxRecDepth 100000 in
theorem index_ptr0 (rb : Nat) : ∀ w, (Instr.index 73 (.agg (ptrsV rb).toArray) (.int .i64 0)).run Tryz.prog w = .ok (.pointer (some ⟨rb, 0, none⟩)) w := fun _ => by kernel_rfl
set_option maxRecDepth 100000 in
theorem index_ptr1 (rb : Nat) : ∀ w, (Instr.index 73 (.agg (ptrsV rb).toArray) (.int .i64 1)).run Tryz.prog w = .ok (.pointer (some ⟨rb, 1, none⟩)) w := fun _ => by kernel_rfl
set_option maxRecDepth 100000 in
theorem index_ptr2 (rb : Nat) : ∀ w, (Instr.index 73 (.agg (ptrsV rb).toArray) (.int .i64 2)).run Tryz.prog w = .ok (.pointer (some ⟨rb, 2, none⟩)) w := fun _ => by kernel_rfl
set_option maxRecDepth 100000 in
theorem index_ptr3 (rb : Nat) : ∀ w, (Instr.index 73 (.agg (ptrsV rb).toArray) (.int .i64 3)).run Tryz.prog w = .ok (.pointer (some ⟨rb, 3, none⟩)) w := fun _ => by kernel_rfl
set_option maxRecDepth 100000 in
theorem index_ptr4 (rb : Nat) : ∀ w, (Instr.index 73 (.agg (ptrsV rb).toArray) (.int .i64 4)).run Tryz.prog w = .ok (.pointer (some ⟨rb, 4, none⟩)) w := fun _ => by kernel_rfl
set_option maxRecDepth 100000 in
theorem index_ptr5 (rb : Nat) : ∀ w, (Instr.index 73 (.agg (ptrsV rb).toArray) (.int .i64 5)).run Tryz.prog w = .ok (.pointer (some ⟨rb, 5, none⟩)) w := fun _ => by kernel_rfl
set_option maxRecDepth 100000 in
theorem index_ptr6 (rb : Nat) : ∀ w, (Instr.index 73 (.agg (ptrsV rb).toArray) (.int .i64 6)).run Tryz.prog w = .ok (.pointer (some ⟨rb, 6, none⟩)) w := fun _ => by kernel_rfl
set_option maxRecDepth 100000 in
theorem index_ptr7 (rb : Nat) : ∀ w, (Instr.index 73 (.agg (ptrsV rb).toArray) (.int .i64 7)).run Tryz.prog w = .ok (.pointer (some ⟨rb, 7, none⟩)) w := fun _ => by kernel_rfl
set_option maxRecDepth 100000 in
theorem index_ptr8 (rb : Nat) : ∀ w, (Instr.index 73 (.agg (ptrsV rb).toArray) (.int .i64 8)).run Tryz.prog w = .ok (.pointer (some ⟨rb, 8, none⟩)) w := fun _ => by kernel_rfl
set_option maxRecDepth 100000 in
theorem index_ptr9 (rb : Nat) : ∀ w, (Instr.index 73 (.agg (ptrsV rb).toArray) (.int .i64 9)).run Tryz.prog w = .ok (.pointer (some ⟨rb, 9, none⟩)) w := fun _ => by kernel_rfl
set_option maxRecDepth 100000 in
theorem index_ptr10 (rb : Nat) : ∀ w, (Instr.index 73 (.agg (ptrsV rb).toArray) (.int .i64 10)).run Tryz.prog w = .ok (.pointer (some ⟨rb, 10, none⟩)) w := fun _ => by kernel_rfl
set_option maxRecDepth 100000 in
theorem index_ptr11 (rb : Nat) : ∀ w, (Instr.index 73 (.agg (ptrsV rb).toArray) (.int .i64 11)).run Tryz.prog w = .ok (.pointer (some ⟨rb, 11, none⟩)) w := fun _ => by kernel_rfl
set_option maxRecDepth 100000 in
theorem index_ptr12 (rb : Nat) : ∀ w, (Instr.index 73 (.agg (ptrsV rb).toArray) (.int .i64 12)).run Tryz.prog w = .ok (.pointer (some ⟨rb, 12, none⟩)) w := fun _ => by kernel_rfl
set_option maxRecDepth 100000 in
theorem index_ptr13 (rb : Nat) : ∀ w, (Instr.index 73 (.agg (ptrsV rb).toArray) (.int .i64 13)).run Tryz.prog w = .ok (.pointer (some ⟨rb, 13, none⟩)) w := fun _ => by kernel_rfl
set_option maxRecDepth 100000 in
theorem index_ptr14 (rb : Nat) : ∀ w, (Instr.index 73 (.agg (ptrsV rb).toArray) (.int .i64 14)).run Tryz.prog w = .ok (.pointer (some ⟨rb, 14, none⟩)) w := fun _ => by kernel_rfl
set_option maxRecDepth 100000 in
theorem index_ptr15 (rb : Nat) : ∀ w, (Instr.index 73 (.agg (ptrsV rb).toArray) (.int .i64 15)).run Tryz.prog w = .ok (.pointer (some ⟨rb, 15, none⟩)) w := fun _ => by kernel_rfl
set_option maxRecDepth 100000 in
theorem index_ptr16 (rb : Nat) : ∀ w, (Instr.index 73 (.agg (ptrsV rb).toArray) (.int .i64 16)).run Tryz.prog w = .ok (.pointer (some ⟨rb, 16, none⟩)) w := fun _ => by kernel_rfl
theorem index_ptrs (rb : Nat) (j : Nat) (hj : j < 17) : ∀ w, (Instr.index 73 (.agg (ptrsV rb).toArray) (.int .i64 (j : Int))).run Tryz.prog w = .ok (.pointer (some ⟨rb, j, none⟩)) w := by
  have h : j = 0 ∨ j = 1 ∨ j = 2 ∨ j = 3 ∨ j = 4 ∨ j = 5 ∨ j = 6 ∨ j = 7 ∨ j = 8 ∨ j = 9 ∨ j = 10 ∨ j = 11 ∨ j = 12 ∨ j = 13 ∨ j = 14 ∨ j = 15 ∨ j = 16 := by omega
  rcases h with rfl | rfl | rfl | rfl | rfl | rfl | rfl | rfl | rfl | rfl | rfl | rfl | rfl | rfl | rfl | rfl | rfl
  · exact index_ptr0 rb
  · exact index_ptr1 rb
  · exact index_ptr2 rb
  · exact index_ptr3 rb
  · exact index_ptr4 rb
  · exact index_ptr5 rb
  · exact index_ptr6 rb
  · exact index_ptr7 rb
  · exact index_ptr8 rb
  · exact index_ptr9 rb
  · exact index_ptr10 rb
  · exact index_ptr11 rb
  · exact index_ptr12 rb
  · exact index_ptr13 rb
  · exact index_ptr14 rb
  · exact index_ptr15 rb
  · exact index_ptr16 rb

end Go.Proofs.YtffifhbldcjelaaGreatDoor
