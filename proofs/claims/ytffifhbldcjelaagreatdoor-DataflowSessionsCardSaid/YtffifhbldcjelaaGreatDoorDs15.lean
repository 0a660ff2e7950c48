/-
  Flows: resolve, walked.
-/
import Derived.Test.YtffifhbldcjelaaGreatDoorDs12
import Derived.Test.YtffifhbldcjelaaGreatDoorDs14
import Derived.BigRegionIn

/-! Flows: resolve, walked. -/
namespace Go.Proofs.YtffifhbldcjelaaGreatDoor
set_option linter.unusedVariables false
set_option linter.unusedSimpArgs false
open Go.RowKit

attribute [local go_sem] Oper.semAt_some

section
variable {B : Nat} {W : World} {f M : Nat} {bl rb : ByteArray → Nat} {sl : ByteArray → Value} {F : List En}

set_option maxRecDepth 100000 in
set_option maxHeartbeats 4000000 in
theorem resolve_any (h : Rep B W f M bl rb sl F) (hG : Good F) (hF : F.length ≤ 1000) (n : ByteArray) (ao : Option Addr) (ln cap : Nat) (xs : List ByteArray) (hln : xs.length = ln) (hn : ln ≤ 1000) (hrow : RowK 1 encT W ao xs) :
    Calls Tryz.prog 22 #[.pointer (some ⟨f, 0, none⟩), .agg #[.string n, .slice ao ln cap]] W (ResP W F bl n (sortU xs)) := by
  obtain ⟨i0, hi, hz0, hz1, hz2⟩ := info_parts infoPtr
  have H := Lib.hid h
  have HG := Lib.hid hG
  have HL := Lib.hid hln
  have HR := Lib.hid hrow
  clear h hG hln hrow
  obtain ⟨names, hnm⟩ : ∃ names, sortU xs = names := ⟨_, rfl⟩
  rw [hnm]
  suffices HH : ∀ m, CallsIn Fence.wide m Tryz.prog 22 #[.pointer (some ⟨f, 0, none⟩), .agg #[.string n, .slice ao ln cap]] W (ResP W F bl n names) from (callsIn_wide (n := 5)).1 (HH 5)
  intro m
  obtain ⟨W3, hW3⟩ : ∃ W3, ((W.alloc (.cells #[.string n, .slice ao ln cap] 31)).alloc (.cells #[.slice none 0 0] 55)).alloc (.cells #[.bool false] 4) = W3 := ⟨_, rfl⟩
  have hs3 : W3.heap.size = W.heap.size + 3 := by rw [← hW3]; simp
  have hb0 : W3.heap[W.heap.size]? = some (.cells #[.string n, .slice ao ln cap] 31 (0, 0)) := by rw [← hW3, Below.heap_alloc _ _ _ (by simp; omega), Below.heap_alloc _ _ _ (by simp)]; exact World.alloc_heap_new W _
  have hb1 : Boxed W3 (W.heap.size + 1) 55 (.slice none 0 0) := by
    rw [← hW3]; have := (Boxed.new (W.alloc (.cells #[.string n, .slice ao ln cap] 31)) 55 (.slice none 0 0)).alloc (.cells #[.bool false] 4); simpa using this
  have hb2 : Boxed W3 (W.heap.size + 2) 4 (.bool false) := by
    rw [← hW3]; have := (Boxed.new ((W.alloc (.cells #[.string n, .slice ao ln cap] 31)).alloc (.cells #[.slice none 0 0] 55)) 4 (.bool false)); simpa using this
  have hB3 : Below W.heap.size W W3 := by rw [← hW3]; exact (((Below.refl _ W).alloc (Nat.le_refl _) _).alloc (by simp) _).alloc (by simp; omega) _
  have hc1 : W3.cell? ⟨W.heap.size, 1, none⟩ = some (.slice ao ln cap) := cell_blk hb0 rfl
  have B3 := Lib.hid (And.intro hB3 (And.intro hb0 (And.intro hb1 (And.intro hb2 hs3))))
  clear hB3 hb0 hb1 hb2 hs3
  refine callsIn_of_wp_marks Tryz.func22 rfl trivial ?_ rfl
  simp only [Tryz.ntmps22, List.size_toArray, List.length_cons, List.length_nil, Nat.reduceAdd, Nat.reduceSub, Array.replicate_succ, Array.replicate_zero, List.push_toArray, List.append_toArray, List.nil_append, List.cons_append]
  gi_wp2
  refine wide_call (svalues_any ao ln cap W3) ?_
  rintro e w' ⟨rfl, rfl⟩
  gi_wp2
  refine ⟨trivial, fun h => absurd h (by simp [Fence.wide]), (sorted_any _ W3.heap.size ln cap ao xs (W3.alloc (.cells #[.slice ao ln cap] 26)) HL.out hn (cell_box _ _ _ 0 _ rfl _ rfl) ((HR.out.later B3.out.1).later ((Below.refl _ W3).alloc (Nat.le_refl _) _))).mono ?_⟩
  rintro e W4 ⟨v4, rfl, hrow4, hbl4⟩
  have hbl34 : Below W3.heap.size W3 W4 := ((Below.refl _ W3).alloc (Nat.le_refl _) (.cells #[.slice ao ln cap] 26)).trans (hbl4.mono (by simp))
  have CP := Lib.hid (scompact_any v4 W3.heap.size xs W4 (by have := HL.out; omega) hbl34.size (by
    obtain ⟨h1, h2 | ⟨g, c4, cur, h3, h4, h5⟩⟩ := hrow4
    · exact ⟨h1, .inl h2⟩
    · exact ⟨h1, .inr ⟨g, c4, cur, h3, by simp at h4; omega, h5⟩⟩))
  have HB34 := Lib.hid hbl34
  clear hrow4 hbl4 hbl34
  gi_wp2
  refine wide_call CP.out ?_
  rintro e W5 ⟨ao5, cap5, rfl, hrow5, hbl5⟩
  have hB35 : Below W3.heap.size W3 W5 := HB34.out.trans hbl5
  rw [hnm] at hrow5 ⊢
  have hq1 : names.length ≤ 1000 := by
    have h1 := compact_sortU xs
    have h2 : (sortU xs).length ≤ xs.length := by rw [← h1, List.length_map]; exact Nat.le_trans (Lib.compact_length_le _) (by rw [sortedL_len]; exact Nat.le_refl _)
    have := HL.out
    rw [← hnm]; omega
  obtain ⟨q, hq⟩ : ∃ q, names.length = q := ⟨_, rfl⟩
  rw [hq] at hq1 ⊢
  have HQ := Lib.hid hq
  have ROW5 := Lib.hid hrow5
  have R5 := Lib.hid (H.out.later (B3.out.1.trans (hB35.mono B3.out.1.size)))
  have hnb5 : W5.cell? ⟨W.heap.size, 0, none⟩ = some (.string n) := by rw [hB35.cell (p := ⟨W.heap.size, 0, none⟩) (by simp; have := B3.out.2.2.2.2; omega)]; exact cell_blk B3.out.2.1 rfl
  have hbox5 : Boxed W5 (W.heap.size + 1) 55 (.slice none 0 0) := Boxed.blk B3.out.2.2.1 (hB35.block _ (by have := B3.out.2.2.2.2; omega))
  have hok5 : Boxed W5 (W.heap.size + 2) 4 (.bool false) := Boxed.blk B3.out.2.2.2.1 (hB35.block _ (by have := B3.out.2.2.2.2; omega))
  have S5 := Lib.hid (And.intro hnb5 (And.intro hbox5 hok5))
  have BW5 := Lib.hid (show Below W.heap.size W W5 from B3.out.1.trans (hB35.mono B3.out.1.size))
  have hW5s : W.heap.size + 3 ≤ W5.heap.size := by have := B3.out.2.2.2.2; have := hB35.size; omega
  clear hnm CP HB34 hbl5 hrow5 hB35 hnb5 hbox5 hok5 hq hc1 hW3 B3 H
  gi_wp2
  refine wpIn_loop (fun a wr => ∃ (k : Nat) (Ds : List Nat) (v : Value) (u8 u9 u10 u20 u21 u22 u23 u24 u25 u26 u27 u28 u29 u30 u31 u32 u33 u34 u35 u36 u37 u38 u39 u40 u41 u50 u51 u52 u53 u54 : Value), (k ≤ q ∧ ResI F bl W5 (W.heap.size + 1) (W.heap.size + 1 + 1) n names k wr Ds v) ∧ a = { tmps := #[.pointer (some ⟨f, 0, none⟩), .agg #[.string n, .slice ao ln cap], undef, .pointer (some ⟨W.heap.size, 0, none⟩), .pointer (some ⟨W.heap.size + 1, 0, none⟩), .pointer (some ⟨W.heap.size + 1 + 1, 0, none⟩), .slice ao5 q cap5, undef, u8, u9, u10, undef, .pointer (some ⟨W.heap.size, 1, none⟩), .slice ao ln cap, .func (.func 60) #[] #[.pointer (some ⟨W3.heap.size, 0, none⟩)], v4, .slice ao5 q cap5, .slice ao5 q cap5, .int .i64 q, .int .i64 k, u20, u21, u22, u23, u24, u25, u26, u27, u28, u29, u30, u31, u32, u33, u34, u35, u36, u37, u38, u39, u40, u41, undef, undef, undef, undef, undef, undef, undef, undef, u50, u51, u52, u53, u54, undef], defers := Ds.map fun D => ({ target := .collected D, args := #[] } : Deferred) }) (fun a _ => q - (intOf (a.tmps.getD 19 undef)).toNat) ?start ?round
  case start => exact ⟨0, [], .slice none 0 0, _, _, _, _, _, _, _, _, _, _, _, _, _, _, _, _, _, _, _, _, _, _, _, _, _, _, _, _, _, _, ⟨Nat.zero_le _, S5.out.2.1, World.ownsRow_nil _ _ _ _, Chg.refl _ _, (fun D hD => by cases hD), List.nodup_nil, (fun r hr => by simp at hr)⟩, rfl⟩
  case round =>
    rintro _ wr ⟨k, Ds, v, u8, u9, u10, u20, u21, u22, u23, u24, u25, u26, u27, u28, u29, u30, u31, u32, u33, u34, u35, u36, u37, u38, u39, u40, u41, u50, u51, u52, u53, u54, ⟨hk, hI⟩, rfl⟩
    have II := Lib.hid hI
    have RR := Lib.hid (R5.out.keptB S5.out.2.1 hI.keep)
    have hcm := RR.out.cellM
    have hbl1 : W.heap.size + 1 < W5.heap.size := by omega
    have hok : Boxed wr (W.heap.size + 1 + 1) 4 (.bool false) := Boxed.blk S5.out.2.2 (hI.keep.block _ (by omega) (by omega))
    have hnb : wr.cell? ⟨W.heap.size, 0, none⟩ = some (.string n) := hI.keep.cell S5.out.1 (by simp)
    have OK := Lib.hid hok
    have NB := Lib.hid hnb
    have hcb := hI.box.cell
    have hfb := hI.box.frozen
    have hbw : Below W.heap.size W wr := BW5.out.trans (hI.keep.below BW5.out.size (fun j hj => by omega))
    have BW := Lib.hid hbw
    clear hI hok hbw
    by_cases hlt : k < q
    · have hkl : k < names.length := by rw [HQ.out]; exact hlt
      obtain ⟨b0, off, rfl, hlb, hce0⟩ := ROW5.out.str hkl
      have hb0 : b0 ≠ W.heap.size + 1 := fun e => by
        subst e
        unfold World.cell? at hce0
        rw [show W5.heap[W.heap.size + 1]? = _ from S5.out.2.1] at hce0
        rcases Nat.eq_zero_or_pos (off + k) with q0 | q0
        · simp [q0] at hce0
        · have h3 : (#[Value.slice none 0 0] : Array Value)[off + k]? = some (.string names[k]) := by simpa using hce0
          rw [Array.getElem?_eq_none (by simp; omega)] at h3; cases h3
      have hce := II.out.keep.cell (p := ⟨b0, off + k, none⟩) hce0 hb0
      have hin : names[k] ∈ names := List.getElem_mem hkl
      have k0 : (0 : Int) ≤ (k : Int) := by omega
      have k1 : (k : Int) < (q : Int) := by omega
      have hf2 : (wr.setCell ⟨W.heap.size + 1, 0, none⟩ (.slice none 0 0)).frozen? ⟨W.heap.size + 1 + 1, 0, none⟩ = false := (OK.out.other (B' := W.heap.size + 1) (by omega) (.slice none 0 0)).frozen
      have hc2 : (wr.setCell ⟨W.heap.size + 1, 0, none⟩ (.slice none 0 0)).cell? ⟨W.heap.size + 1 + 1, 0, none⟩ = some (.bool false) := (OK.out.other (B' := W.heap.size + 1) (by omega) (.slice none 0 0)).cell
      have bad : ∀ (_ : rdOk F n names[k] = false), resOk F n names = false := fun hb => by
        rw [Bool.eq_false_iff]; intro hall; rw [resOk_mem hall hin] at hb; cases hb
      rcases he : atF F names[k] with _ | e
      · have hl := RR.out.look_miss he true
        have NO := bad (by unfold rdOk; rw [he])
        have FIN := Lib.hid (show ∀ tmps : Array Value, tmps.getD 4 undef = .pointer (some ⟨W.heap.size + 1, 0, none⟩) → tmps.getD 5 undef = .pointer (some ⟨W.heap.size + 1 + 1, 0, none⟩) → LeavesInM Fence.wide m Tryz.prog Tryz.f22 tmps (ResP W F bl n names) (Ds.map fun D => ({ target := .collected D, args := #[] } : Deferred)) .returning ((wr.setCell ⟨W.heap.size + 1, 0, none⟩ (.slice none 0 0)).setCell ⟨W.heap.size + 1 + 1, 0, none⟩ (.bool false)) from fun tmps h4 h5 => by
          have e1 := (II.out.box.set (.slice none 0 0)).other (B' := W.heap.size + 1 + 1) (by omega) (.bool false)
          have e2 := (OK.out.other (B' := W.heap.size + 1) (by omega) (.slice none 0 0)).set (.bool false)
          refine leave_res h4 h5 II.out.nd (fun D hD => ?_) e1 e2 (fun w'' hc => ⟨?_, .inr ⟨NO, rfl⟩⟩)
          · obtain ⟨q1, q2⟩ := II.out.ds D hD
            rw [Below.heap_setCell _ ⟨W.heap.size + 1 + 1, 0, none⟩ _ D (fun e => by simp at e; omega), Below.heap_setCell _ ⟨W.heap.size + 1, 0, none⟩ _ D (fun e => by simp at e; omega)]; exact q2
          · exact ((BW.out.setCell (p := ⟨W.heap.size + 1, 0, none⟩) (by simp) _).setCell (p := ⟨W.heap.size + 1 + 1, 0, none⟩) (by simp; omega) _).trans (hc.below (by simp; exact BW.out.size) (fun D hD => by have := (II.out.ds D hD).1; omega)))
        obtain ⟨x, hx⟩ : ∃ x, names[k] = x := ⟨_, rfl⟩
        rw [hx] at hce hl
        clear bad NO he hce0 hlb hb0
        gi_wp2
        exact FIN.out _ rfl rfl
      · obtain ⟨heF, hen⟩ := atF_some he
        have hl := RR.out.look_hit he true
        obtain ⟨d0, d1, d2, d3, d4, d5, _⟩ := RR.out.cells he
        rcases hst : e.stale with _ | _
        · rw [hst] at d3
          have hrc : rdOk F n names[k] = !rchB F F.length names[k] n := by unfold rdOk; rw [he]; simp [hst]
          have HRC := Lib.hid hrc
          have HE := Lib.hid he
          have BAD := Lib.hid bad
          have HKL := Lib.hid hkl
          obtain ⟨x, hx⟩ : ∃ x, names[k]'hkl = x := ⟨_, rfl⟩
          rw [hx] at hce hl d3 HRC HE BAD
          have HX := Lib.hid hx
          clear bad he hce0 hlb hb0 hrc d0 d1 d2 d4 d5 heF hen hst hin
          gi_wp2
          refine wide_call (below_any (bl x) wr) ?_
          rintro e2 w' ⟨rfl, rfl⟩
          gi_wp2
          obtain ⟨w, hw⟩ : ∃ w, wr.alloc (.cells #[.pointer (some ⟨bl x, 0, none⟩)] 53) = w := ⟨_, rfl⟩
          have hws : w.heap.size = wr.heap.size + 1 := by rw [← hw]; simp
          have hwb : Below wr.heap.size wr w := by rw [← hw]; exact (Below.refl _ wr).alloc (Nat.le_refl _) _
          have hwx : w.cell? ⟨wr.heap.size, 0, none⟩ = some (.pointer (some ⟨bl x, 0, none⟩)) := by rw [← hw]; exact cell_box _ _ _ 0 _ rfl _ rfl
          have WB := Lib.hid hwb
          have WX := Lib.hid hwx
          have WS := Lib.hid hws
          have SEQ := Lib.hid (below_seq (RR.out.later hwb) HG.out hF HE.out wr.heap.size hwx)
          have hbo : Boxed w (W.heap.size + 1) 55 v := Boxed.blk II.out.box (hwb.block _ II.out.box.lt)
          have hbk : Boxed w (W.heap.size + 1 + 1) 4 (.bool false) := Boxed.blk OK.out (hwb.block _ OK.out.lt)
          have BO := Lib.hid hbo
          have BK := Lib.hid hbk
          have RW := Lib.hid (RR.out.later hwb)
          have hnw : w.cell? ⟨W.heap.size, 0, none⟩ = some (.string n) := by rw [hwb.cell (p := ⟨W.heap.size, 0, none⟩) (World.block_lt_of_cell? _ _ NB.out)]; exact NB.out
          have NW := Lib.hid hnw
          rw [hw]
          clear hw hws hwb hwx hbo hbk hnw hcm hnb hcb hfb hf2 hc2 hl hce d3
          refine wpIn_range_stop (gf := 61) (lb := #[.pointer (some ⟨wr.heap.size, 0, none⟩)]) rfl (enters_of Tryz.func61 (by kernel_rfl) rfl)
            SEQ.out (fun _ => rfl)
            (fun s W' => Below w.heap.size w W' ∧ ∀ y ∈ s, y ≠ n)
            (fun s W' => (∃ p, s = p ++ [n]) ∧ Boxed W' (W.heap.size + 1) 55 (.slice none 0 0) ∧ Boxed W' (W.heap.size + 1 + 1) 4 (.bool false) ∧ Chg (fun j => j = W.heap.size + 1 ∨ j = W.heap.size + 1 + 1) w W')
            ?hI ?hIx ?h0 (fun y => { tmps := #[.pointer (some ⟨f, 0, none⟩), .agg #[.string n, .slice ao ln cap], undef, .pointer (some ⟨W.heap.size, 0, none⟩), .pointer (some ⟨W.heap.size + 1, 0, none⟩), .pointer (some ⟨W.heap.size + 1 + 1, 0, none⟩), .slice (some ⟨b0, off, none⟩) q cap5, undef, .string x, .pointer (some ⟨bl x, 0, none⟩), .bool true, .pointer (some ⟨bl y, 0, none⟩), .pointer (some ⟨W.heap.size, 1, none⟩), .slice ao ln cap, .func (.func 60) #[] #[.pointer (some ⟨W3.heap.size, 0, none⟩)], v4, .slice (some ⟨b0, off, none⟩) q cap5, .slice (some ⟨b0, off, none⟩) q cap5, .int .i64 q, .int .i64 k, .bool true, .pointer (some ⟨b0, off + k, none⟩), .string x, .tuple #[.pointer (some ⟨bl x, 0, none⟩), .bool true], .pointer (some ⟨f, 0, none⟩), .pointer (some ⟨f, 0, none⟩), .pointer (some ⟨f, 0, none⟩), .map (some M), .string x, .tuple #[.pointer (some ⟨bl x, 0, none⟩), .bool true], .pointer (some ⟨bl x, 0, none⟩), .bool true, .bool true, .bool false, .bool false, .pointer (some ⟨bl x, 0, none⟩), .pointer (some ⟨bl x, 0, none⟩), .pointer (some ⟨bl x, 3, none⟩), .bool false, .bool false, .pointer (some ⟨bl x, 0, none⟩), .func (.func 61) #[] #[.pointer (some ⟨wr.heap.size, 0, none⟩)], .pointer (some ⟨bl y, 0, none⟩), undef, undef, undef, undef, undef, undef, undef, u50, u51, u52, u53, u54, undef], defers := [] }) ?assign ?body ?done ?stop
          case hI => rintro s A A' C ⟨h1, h2⟩ hc hC; exact ⟨h1.trans (hc.below h1.size hC), h2⟩
          case hIx =>
            rintro s A A' C ⟨h1, h2, h3, h4⟩ hc hC
            refine ⟨h1, Boxed.blk h2 (hc.block _ h2.lt (fun q => by have := hC _ q; have := BO.out.lt; omega)), Boxed.blk h3 (hc.block _ h3.lt (fun q => by have := hC _ q; have := BK.out.lt; omega)), h4.trans (hc.mono (fun j _ hj => .inr (hC j hj)))⟩
          case h0 => exact ⟨Below.refl _ _, fun y hy => by cases hy⟩
          case assign =>
            intro l' m' y W' K hK
            dsimp only [encPt]
            gi_wp2
            exact hK
          case body =>
            rintro l' m' pre y W' ⟨d, hd, rfl⟩ ⟨hb, hne⟩
            have hd0 := (cells_ent ((RW.out.later hb).ent d hd)).c0
            have hnw : W'.cell? ⟨W.heap.size, 0, none⟩ = some (.string n) := by rw [hb.cell (p := ⟨W.heap.size, 0, none⟩) (World.block_lt_of_cell? _ _ NW.out)]; exact NW.out
            have hbo : Boxed W' (W.heap.size + 1) 55 v := Boxed.blk BO.out (hb.block _ BO.out.lt)
            have hbk : Boxed W' (W.heap.size + 1 + 1) 4 (.bool false) := Boxed.blk BK.out (hb.block _ BK.out.lt)
            have HB' := Lib.hid hb
            have HNE := Lib.hid hne
            have BO' := Lib.hid hbo
            have BK' := Lib.hid hbk
            obtain ⟨y, hy⟩ : ∃ y, d.nm = y := ⟨_, rfl⟩
            rw [hy] at hd0 ⊢
            obtain ⟨by', hby⟩ : ∃ b, bl y = b := ⟨_, rfl⟩
            rw [hby] at hd0
            dsimp only
            rw [hby]
            clear hy hby hb hne hd
            by_cases hyn : y = n
            · have hq : (y.toList == n.toList) = true := by rw [hyn]; simp
              have hcb := hbo.cell
              have hfb := hbo.frozen
              have hck := hbk.cell
              have hfk := hbk.frozen
              have FIN := Lib.hid (show ∀ W2 : World, W2.heap = ((W'.setCell ⟨W.heap.size + 1, 0, none⟩ (.slice none 0 0)).setCell ⟨W.heap.size + 1 + 1, 0, none⟩ (.bool false)).heap → W2.os = W'.os → W2.tape = W'.tape → W2.output = W'.output →
                  ((∃ p, pre ++ [y] = p ++ [n]) ∧ Boxed W2 (W.heap.size + 1) 55 (.slice none 0 0) ∧ Boxed W2 (W.heap.size + 1 + 1) 4 (.bool false) ∧ Chg (fun j => j = W.heap.size + 1 ∨ j = W.heap.size + 1 + 1) w W2) ∧ Chg (fun k => k < w.heap.size) W' W2 from fun W2 q1 q2 q3 q4 => by
                have e1 := (BO'.out.set (.slice none 0 0)).other (B' := W.heap.size + 1 + 1) (by omega) (.bool false)
                have e2 := (BK'.out.other (B' := W.heap.size + 1) (by omega) (.slice none 0 0)).set (.bool false)
                have hk : ∀ j, j ≠ W.heap.size + 1 → j ≠ W.heap.size + 1 + 1 → W2.heap[j]? = W'.heap[j]? := fun j h1 h2 => by
                  rw [q1, Below.heap_setCell _ ⟨W.heap.size + 1 + 1, 0, none⟩ _ j h2, Below.heap_setCell _ ⟨W.heap.size + 1, 0, none⟩ _ j h1]
                have hsz : W2.heap.size = W'.heap.size := by rw [q1]; simp
                refine ⟨⟨⟨pre, by rw [hyn]⟩, by unfold Boxed at *; rw [q1]; exact e1, by unfold Boxed at *; rw [q1]; exact e2, ⟨q2.trans HB'.out.os, q3.trans HB'.out.tape, q4.trans HB'.out.output, by rw [hsz]; exact HB'.out.size, fun j hj hn => ?_⟩⟩, ⟨q2, q3, q4, by omega, fun j hj hn => hk j (fun e => hn ?_) (fun e => hn ?_)⟩⟩
                · rw [hk j (fun e => hn (.inl e)) (fun e => hn (.inr e))]; exact HB'.out.block j hj
                · have := BO.out.lt; omega
                · have := BK.out.lt; omega)
              clear hbo hbk
              gi_wp2
              gi_region <;> (gi_wp2; exact FIN.out _ rfl rfl rfl rfl)
            · have hq : (y.toList == n.toList) = false := (Lib.bytes_beq_false_iff _ _).2 hyn
              have FIN := Lib.hid (show (Below w.heap.size w W'.drew ∧ ∀ z ∈ pre ++ [y], z ≠ n) ∧ Chg (fun _ => False) W' W'.drew from ⟨⟨HB'.out.drew, fun z hz => by
                rcases List.mem_append.1 hz with q | q
                · exact HNE.out z q
                · rw [List.mem_singleton.1 q]; exact hyn⟩, Chg.drew _ _⟩)
              clear hbo hbk
              gi_wp2
              gi_region <;> (gi_wp2; exact FIN.out)
          case done =>
            rintro D ys W' hD hS ⟨hb, hne⟩ hD3
            have hok : rdOk F n x = true := by
              rw [HRC.out, Bool.not_eq_true']
              rw [Bool.eq_false_iff]
              intro hr
              exact hne n (hS n ((HG.out.rch x n).1 hr)) rfl
            have hbo : Boxed W' (W.heap.size + 1) 55 v := Boxed.blk BO.out (hb.block _ BO.out.lt)
            have hwr : Below wr.heap.size wr W' := WB.out.trans (hb.mono WB.out.size)
            have hrowW : W'.ownsRow W5.heap.size 53 1 v k ((names.take k).map fun r => ptr (bl r)) := ownsRow_blk II.out.row (fun g hg hl => hwr.block g hl)
            have hcb := hbo.cell
            have RWW := Lib.hid hrowW
            have HWS := Lib.hid (show W5.heap.size ≤ W'.heap.size from Nat.le_trans II.out.keep.size hwr.size)
            have NX := Lib.hid (fun (tmp : Obj) (v' : Value) (w1 : World) (own' : w1.ownsRow W5.heap.size 53 1 v' (k + 1) (((names.take k).map fun r => ptr (bl r)) ++ [ptr (bl x)])) (gr : (W'.alloc tmp).grownBy w1 v.ownBlock) => II.out.next (D := D) hbl1 HKL.out hwr (by have := WS.out; omega) hD3 (by rw [HX.out]; exact own') gr (by rw [HX.out]; exact hok))
            clear hbo hwr hrowW hb hne hS hok hD3
            gi_wp2_with (first
              | (gi_at_builtin; refine wpListIn_append_own_at _ rfl _ _ 55 rfl W5.heap.size 53 i0 (.pointer none) 1 8 Tryz.underlying55 hi hz0 hz1 hz2 rfl (by decide) _ _ _ rfl (RWW.out.alloc _) ⟨W'.heap.size, 0, none⟩ 1 1 [.pointer (some ⟨bl x, 0, none⟩)] rfl rfl (cells_at _ _ _ _ rfl) (by simp [Value.oneCell']) (by unfold maxLen; omega) (by omega) (by have := HWS.out; simp; omega) ?_; intro v' w1 own gr hnil hloc; obtain ⟨g', cap', rfl⟩ := ownsRow_succ own; obtain ⟨hv1, hap⟩ := NX.out _ _ _ own gr; have AP := Lib.hid hap; have hc1 := hv1.cell; have hf1 := hv1.frozen; clear own gr hnil hloc hap hv1)
              | gi_in)
            refine ⟨⟨k + 1, D :: Ds, _, _, _, _, _, _, _, _, _, _, _, _, _, _, _, _, _, _, _, _, _, _, _, _, _, _, _, _, _, _, _, ⟨by omega, AP.out⟩, rfl⟩, ?_⟩
            simp [intOf]; omega
          case stop =>
            rintro D pre W' hD ⟨p, y, rfl, hy⟩ ⟨⟨p2, h2⟩, h3, h4, h5⟩ hD3
            have hyn : y = n := by
              have h6 := congrArg List.getLast? h2
              simp at h6; exact h6
            subst hyn
            have NO : resOk F y names = false := BAD.out (by rw [HRC.out, (HG.out.rch x y).2 hy]; rfl)
            have FIN := Lib.hid (show ∀ tmps : Array Value, tmps.getD 4 undef = .pointer (some ⟨W.heap.size + 1, 0, none⟩) → tmps.getD 5 undef = .pointer (some ⟨W.heap.size + 1 + 1, 0, none⟩) → LeavesInM Fence.wide m Tryz.prog Tryz.f22 tmps (ResP W F bl y names) ((D :: Ds).map fun D => ({ target := .collected D, args := #[] } : Deferred)) .returning W' from fun tmps t4 t5 => by
              refine leave_res t4 t5 (List.nodup_cons.2 ⟨fun q => by have := lt_of_blk (II.out.ds D q).2; have := WS.out; omega, II.out.nd⟩) (fun D' hD' => ?_) h3 h4 (fun w'' hc => ⟨?_, .inr ⟨NO, rfl⟩⟩)
              · rcases List.mem_cons.1 hD' with q | q
                · rw [q]; exact hD3
                · obtain ⟨q1, q2⟩ := II.out.ds D' q
                  rw [h5.block D' (by have := lt_of_blk q2; have := WS.out; omega) (fun e => by omega), WB.out.block D' (lt_of_blk q2)]; exact q2
              · have g1 : Below W.heap.size W w := BW.out.trans (WB.out.mono BW.out.size)
                have g2 : Below W.heap.size W W' := g1.trans (h5.below g1.size (fun j hj => by omega))
                refine g2.trans (hc.below g2.size (fun D' hD' => ?_))
                rcases List.mem_cons.1 hD' with q | q
                · have := g1.size; omega
                · have := (II.out.ds D' q).1; omega)
            clear h2 h3 h4 h5 hy NO hD3
            gi_wp2
            exact FIN.out _ rfl rfl
        · rw [hst] at d3
          have NO := bad (by unfold rdOk; rw [he]; simp [hst])
          have FIN := Lib.hid (show ∀ tmps : Array Value, tmps.getD 4 undef = .pointer (some ⟨W.heap.size + 1, 0, none⟩) → tmps.getD 5 undef = .pointer (some ⟨W.heap.size + 1 + 1, 0, none⟩) → LeavesInM Fence.wide m Tryz.prog Tryz.f22 tmps (ResP W F bl n names) (Ds.map fun D => ({ target := .collected D, args := #[] } : Deferred)) .returning ((wr.setCell ⟨W.heap.size + 1, 0, none⟩ (.slice none 0 0)).setCell ⟨W.heap.size + 1 + 1, 0, none⟩ (.bool false)) from fun tmps h4 h5 => by
            have e1 := (II.out.box.set (.slice none 0 0)).other (B' := W.heap.size + 1 + 1) (by omega) (.bool false)
            have e2 := (OK.out.other (B' := W.heap.size + 1) (by omega) (.slice none 0 0)).set (.bool false)
            refine leave_res h4 h5 II.out.nd (fun D hD => ?_) e1 e2 (fun w'' hc => ⟨?_, .inr ⟨NO, rfl⟩⟩)
            · obtain ⟨q1, q2⟩ := II.out.ds D hD
              rw [Below.heap_setCell _ ⟨W.heap.size + 1 + 1, 0, none⟩ _ D (fun e => by simp at e; omega), Below.heap_setCell _ ⟨W.heap.size + 1, 0, none⟩ _ D (fun e => by simp at e; omega)]; exact q2
            · exact ((BW.out.setCell (p := ⟨W.heap.size + 1, 0, none⟩) (by simp) _).setCell (p := ⟨W.heap.size + 1 + 1, 0, none⟩) (by simp; omega) _).trans (hc.below (by simp; exact BW.out.size) (fun D hD => by have := (II.out.ds D hD).1; omega)))
          obtain ⟨x, hx⟩ : ∃ x, names[k]'hkl = x := ⟨_, rfl⟩
          rw [hx] at hce hl d3
          clear bad NO he hce0 hlb hb0 d0 d1 d2 d4 d5 heF hen hst hin
          gi_wp2
          exact FIN.out _ rfl rfl
    · have hkq : k = q := by omega
      obtain ⟨aoV, capV, hv⟩ : ∃ a c, v = .slice a k c := by
        rcases II.out.row.2 with ⟨h1, h2⟩ | ⟨g, cap, cur, h1, _⟩
        · exact ⟨none, 0, by rw [h1, h2]⟩
        · exact ⟨_, _, h1⟩
      subst hv
      have hall : names.take k = names := List.take_of_length_le (by rw [HQ.out]; omega)
      have FIN := Lib.hid (show ∀ tmps : Array Value, tmps.getD 4 undef = .pointer (some ⟨W.heap.size + 1, 0, none⟩) → tmps.getD 5 undef = .pointer (some ⟨W.heap.size + 1 + 1, 0, none⟩) → LeavesInM Fence.wide m Tryz.prog Tryz.f22 tmps (ResP W F bl n names) (Ds.map fun D => ({ target := .collected D, args := #[] } : Deferred)) .returning ((wr.setCell ⟨W.heap.size + 1, 0, none⟩ (.slice aoV k capV)).setCell ⟨W.heap.size + 1 + 1, 0, none⟩ (.bool true)) from fun tmps h4 h5 => by
        have e1 := (II.out.box.set (.slice aoV k capV)).other (B' := W.heap.size + 1 + 1) (by omega) (.bool true)
        have e2 := (OK.out.other (B' := W.heap.size + 1) (by omega) (.slice aoV k capV)).set (.bool true)
        have hsame : ∀ j, W5.heap.size ≤ j → ((wr.setCell ⟨W.heap.size + 1, 0, none⟩ (.slice aoV k capV)).setCell ⟨W.heap.size + 1 + 1, 0, none⟩ (.bool true)).heap[j]? = wr.heap[j]? := fun j hj => by
          rw [Below.heap_setCell _ ⟨W.heap.size + 1 + 1, 0, none⟩ _ j (fun e => by simp at e; omega), Below.heap_setCell _ ⟨W.heap.size + 1, 0, none⟩ _ j (fun e => by simp at e; omega)]
        have hds : ∀ D ∈ Ds, ((wr.setCell ⟨W.heap.size + 1, 0, none⟩ (.slice aoV k capV)).setCell ⟨W.heap.size + 1 + 1, 0, none⟩ (.bool true)).heap[D]? = some (.deferred (some [])) := fun D hD => by
          obtain ⟨q1, q2⟩ := II.out.ds D hD
          rw [hsame D q1]; exact q2
        refine leave_res h4 h5 II.out.nd hds e1 e2 (fun w'' hc => ⟨?_, .inl ⟨?_, aoV, capV, ?_, ?_⟩⟩)
        · exact ((BW.out.setCell (p := ⟨W.heap.size + 1, 0, none⟩) (by simp) _).setCell (p := ⟨W.heap.size + 1 + 1, 0, none⟩) (by simp; omega) _).trans (hc.below (by simp; exact BW.out.size) (fun D hD => by have := (II.out.ds D hD).1; omega))
        · exact List.all_eq_true.2 (fun r hr => II.out.acc r (by rw [hall]; exact hr))
        · rw [HQ.out, hkq]
        · rw [HQ.out, ← hkq]
          refine RowP_of_owns (base := W5.heap.size) (n := k) ?_
          have hrow := II.out.row
          rw [hall] at hrow
          rw [List.map_map]
          refine ownsRow_blk hrow (fun g hg hl => ?_)
          have hg5 := (owns_ltK II.out.row g hg).1
          rw [hc.block g (by simp; exact hl) (fun hm => ?_), hsame g hg5]
          have h6 := (II.out.ds g hm).2
          obtain ⟨_, h7 | ⟨g', cap', cur', h7, _, h8, _⟩⟩ := II.out.row
          · rw [h7.1] at hg; simp [Value.ownBlock] at hg
          · rw [h7] at hg; simp [Value.ownBlock] at hg; subst hg; rw [h6] at h8; cases h8)
      have hcK := OK.out.cell
      have hfK := OK.out.frozen
      subst hkq
      clear hall
      gi_wp2
      exact FIN.out _ rfl rfl
end

end Go.Proofs.YtffifhbldcjelaaGreatDoor
