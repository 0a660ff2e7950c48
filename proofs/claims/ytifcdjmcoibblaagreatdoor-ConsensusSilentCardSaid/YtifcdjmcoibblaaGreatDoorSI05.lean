/-
  SILENT: the walk.
-/
import Derived.Test.YtifcdjmcoibblaaGreatDoorSI03
import Derived.Test.YtifcdjmcoibblaaGreatDoorSI04
import Derived.Test.YtifcdjmcoibblaaGreatDoorG36
import Derived.StillTailTactics
import Derived.Deep.CutBlock
import Derived.Deep.RegionHeld3

/-! SILENT: the walk. -/
namespace Go.Proofs.YtifcdjmcoibblaaGreatDoor
set_option linter.unusedVariables false
set_option linter.unusedSimpArgs false
set_option linter.unusedSectionVars false
open Go.RowKit

theorem fam_id {i : Nat} (h : i < 7) : fam (famI i) = [idB (1 + i)] := by
  unfold fam
  rw [famI_L h]
  rfl
theorem props_len {G : ByteArray → List ByteArray → Prop} {s : StB} (hf : Fit G s) : s.props.length ≤ 100 := by
  have hb := hf.ok.inv.box
  have hn : ((s.props.map (·.1)).map Int.toNat).Nodup := by
    refine List.pairwise_map.2 (List.Pairwise.imp_of_mem (fun {a b} ha hb' hab e => hab ?_) hb.pk)
    obtain ⟨p, hp, rfl⟩ := List.mem_map.1 ha
    obtain ⟨q, hq, rfl⟩ := List.mem_map.1 hb'
    have h1 := (hb.pr p hp).1
    have h2 := (hb.pr q hq).1
    omega
  have := nodup_len 100 _ hn (fun x hx => by
    obtain ⟨a, ha, rfl⟩ := List.mem_map.1 hx
    obtain ⟨p, hp, rfl⟩ := List.mem_map.1 ha
    have h1 := hb.pr p hp
    omega)
  rw [List.length_map, List.length_map] at this
  exact this
theorem askedL_len {props : List (Int × MsgB)} : ∀ (ks : List Int) (seen : List ByteArray), (askedL props ks seen).length ≤ ks.length
  | [], _ => Nat.le_refl _
  | r :: ks, seen => by
    unfold askedL
    rw [List.length_cons]
    rcases getA r props with _ | m
    · have := askedL_len (props := props) ks seen; simp only; omega
    · simp only
      split
      · have := askedL_len (props := props) ks seen; omega
      · have := askedL_len (props := props) ks (m.dig :: seen); rw [List.length_cons]; omega
theorem asked_len {s : StB} (hf : Fit GA s) : s.asked.length ≤ 100 := by
  unfold NS.asked
  split
  · exact Nat.zero_le _
  · refine Nat.le_trans (askedL_len _ _) ?_
    rw [sortI_len, List.length_map]
    exact props_len hf
theorem nasked {G : ByteArray → List ByteArray → Prop} {base : Nat} {w : World} {xs : List Nat} {ss : List StB} {Rs : Nat → Nat → Prop} {i x : Nat} {s : StB} (gf : GFam G) (hN : Net G base w xs ss Rs) (hx : xs[i]? = some x) (hs : ss[i]? = some s) :
    Calls Tryz.prog 38 #[pv x] w fun e w' => (∃ v, e = .returned v ∧ RowL w w' v s.asked) ∧ Below w.heap.size w w' := by
  obtain ⟨p, hp⟩ := hN.node i x s hx hs
  have hf := hN.idx hx hs
  refine asked_any hp ?_ (fun k m hm => ?_)
  · have := props_len hf; omega
  · have := gf.law.len _ _ (hf.ok.gi.pg _ (getA_mem hm))
    show m.list.length ≤ 1000
    have h2 : m.list.length ≤ 60 := this
    omega

/-- i nodes have had their turn -/
def midS (sil : Nat → Bool) (i : Nat) (ns : List StB) : List StB := sMid digV sil 0 (ns.take i) ++ ns.drop i
theorem midS_zero (sil : Nat → Bool) (ns : List StB) : midS sil 0 ns = ns := by simp [midS, sMid]
theorem midS_all {sil : Nat → Bool} {i : Nat} {ns : List StB} (h : ns.length ≤ i) : midS sil i ns = sMid digV sil 0 ns := by
  unfold midS
  rw [List.take_of_length_le h, List.drop_of_length_le h, List.append_nil]
theorem midS_len (sil : Nat → Bool) (i : Nat) (ns : List StB) : (midS sil i ns).length = ns.length := by
  unfold midS
  rw [List.length_append, sMid_len, List.length_take, List.length_drop]; omega
theorem midS_at {sil : Nat → Bool} {i : Nat} {ns : List StB} (h : i < ns.length) : (midS sil i ns)[i]? = some ns[i] := by
  unfold midS
  rw [List.getElem?_append_right (by rw [sMid_len, List.length_take]; omega), sMid_len, List.length_take, Nat.min_eq_left (Nat.le_of_lt h), Nat.sub_self, List.getElem?_drop]
  simp [h]
theorem midS_next {sil : Nat → Bool} {i : Nat} {ns : List StB} (h : i < ns.length) : (midS sil i ns).set i (if sil i then accAll digV ns[i] else (accAll digV ns[i]).tick.1) = midS sil (i + 1) ns := by
  unfold midS
  have e : (sMid digV sil 0 (ns.take i)).length = i := by rw [sMid_len, List.length_take, Nat.min_eq_left (Nat.le_of_lt h)]
  rw [List.take_succ_eq_append_getElem h, sMid_app, List.drop_eq_getElem_cons h, List.set_append_right _ _ (by rw [e]; exact Nat.le_refl _), e, Nat.sub_self, List.append_assoc, List.length_take, Nat.min_eq_left (Nat.le_of_lt h), Nat.zero_add]
  rfl
theorem sOut_next {sil : Nat → Bool} {i : Nat} {ns : List StB} (h : i < ns.length) : sOut digV sil 0 (ns.take (i + 1)) = sOut digV sil 0 (ns.take i) ++ (if sil i then [] else (accAll digV ns[i]).tick.2) := by
  rw [List.take_succ_eq_append_getElem h, sOut_app, List.length_take, Nat.min_eq_left (Nat.le_of_lt h), Nat.zero_add]
  simp [sOut]
/-- j lists are accepted -/
def accN (j : Nat) (s : StB) : StB := (s.asked.take j).foldl (fun t l => t.accept (digV l)) s
theorem accN_zero (s : StB) : accN 0 s = s := rfl
theorem accN_all {j : Nat} {s : StB} (h : s.asked.length ≤ j) : accN j s = accAll digV s := by
  unfold accN accAll
  rw [List.take_of_length_le h]
theorem accN_next {j : Nat} {s : StB} {l : List ByteArray} (h : s.asked[j]? = some l) : accN (j + 1) s = (accN j s).accept (digV l) := by
  unfold accN
  obtain ⟨h1, h2⟩ := List.getElem?_eq_some_iff.1 h
  rw [List.take_succ_eq_append_getElem h1, h2, List.foldl_append]
  rfl
theorem tick_lenS {s : StB} (hf : Fit GA s) : s.tick.2.length ≤ 4000 := by
  have ha : s.answers.length ≤ 728 := by
    rw [answers_at]
    have h1 := flat_len hf.qi.q (sortI (s.ques.map (·.1)))
    have h2 := hf.qi.q.len
    rw [sortI_len, List.length_map] at h1
    omega
  by_cases hd : s.isDec s.height = true
  · rw [tick_done hd]; show s.answers.length ≤ _; omega
  · rw [tick_open (by simpa using hd)]
    show (s.answers ++ _).length ≤ _
    rw [List.length_append]
    have h1 := sends_len s.tk2 (s.tk2.mine.drop s.tkFrom)
    have h2 := (tk2_inv hf.ok.inv).num.n7
    have h3 := (tk2_inv hf.ok.inv).mine_len
    have h4 : (s.tk2.mine.drop s.tkFrom).length ≤ 400 := by rw [List.length_drop]; omega
    have h5 : s.tk2.n.toNat * (s.tk2.mine.drop s.tkFrom).length ≤ 7 * 400 := Nat.mul_le_mul (by omega) h4
    omega
theorem sOut_le (sil : Nat → Bool) : ∀ (ns : List StB) (k : Nat), (∀ s ∈ ns, Fit GA s) → (sOut digV sil k ns).length ≤ 4000 * ns.length
  | [], _, _ => by simp [sOut]
  | s :: ns, k, h => by
    have ih := sOut_le sil ns (k + 1) (fun x hx => h x (by simp [hx]))
    unfold sOut
    rw [List.length_append, List.length_cons]
    have h1 : (if sil k then [] else (accAll digV s).tick.2).length ≤ 4000 := by
      split
      · simp
      · exact tick_lenS (h s (by simp)).accAll
    omega
/-- what is asked for is of the laws' lists -/
theorem asked_GA {s : StB} (hf : Fit GA s) {l : List ByteArray} (h : l ∈ s.asked) : ascS l = true ∧ l.length ≤ 60 := by
  obtain ⟨p, hp, rfl⟩ := asked_mem h
  have hg := hf.ok.gi.pg p hp
  exact ⟨(GA.gf.val _ _ hg).1, GA.law.len _ _ hg⟩
theorem digest_asc {R : Nat → Prop} {W : World} {u : Value} {l : List ByteArray} (ha : ascS l = true) (hl : l.length ≤ 60) (hr : LRow R W u l) : Calls Tryz.prog 26 #[u] W fun e w' => e = .returned (.string (digV l)) ∧ Below W.heap.size W w' := by
  obtain ⟨a3, c3, rfl, _, hrow3⟩ := hr.row
  rw [digV_asc ha]
  exact rdigest_any a3 _ c3 l W rfl hl hrow3 ha

theorem set_same {α : Type} {l : List α} {i : Nat} {a : α} (h : l[i]? = some a) : l.set i a = l := by
  apply List.ext_getElem?
  intro j
  rw [List.getElem?_set]
  by_cases e : i = j
  · subst e
    rw [if_pos rfl, if_pos (List.getElem?_eq_some_iff.1 h).1, h]
  · rw [if_neg e]

theorem idx_id {c : Nat} (h1 : 1 ≤ c) (h7 : c ≤ 7) (W : World) : (Instr.index 9 (.string (idB c)) (.int .i64 0)).run Tryz.prog W = .ok (.int .u8 (c : Int)) W := by
  obtain rfl | rfl | rfl | rfl | rfl | rfl | rfl : c = 1 ∨ c = 2 ∨ c = 3 ∨ c = 4 ∨ c = 5 ∨ c = 6 ∨ c = 7 := by omega
  all_goals kernel_rfl
theorem idB_size (c : Nat) : (idB c).size = 32 := by unfold idB; rw [strB_size]; simp [idL]
/-- a list of one, in memory -/
theorem LRow.one {R : Nat → Prop} {W : World} {u : Value} {d : ByteArray} (h : LRow R W u [d]) : ∃ b o cp, u = .slice (some ⟨b, o, none⟩) 1 cp ∧ b < W.heap.size ∧ W.cell? ⟨b, o, none⟩ = some (.string d) := by
  obtain ⟨ao, cp, rfl, _, h3⟩ := h
  rcases h3 with h3 | ⟨g, o, cur, fr, rfl, _, hg, hc⟩
  · cases h3
  · refine ⟨g, o, cp, rfl, (Array.getElem?_eq_some_iff.1 hg).1, ?_⟩
    rw [cell_of_row W g o cur _ _ hg]
    exact hc 0 d rfl
/-- what the law has seen so far -/
def OneV (sil : Nat → Bool) (i : Nat) (d : ByteArray) (W : World) (v : Value) : Prop :=
  (v = .slice none 0 0 ∧ ∀ j, j < i → sil j = true) ∨ ∃ a cp, v = .slice (some a) 1 cp ∧ LRow (fun g => g < W.heap.size) W v [d]

section
variable (n k : Int) (w : World)
set_option maxRecDepth 100000 in
set_option maxHeartbeats 40000000 in
theorem silent_any (hn1 : -9223372036854775808 ≤ n) (hn2 : n ≤ 9223372036854775807) (hk1 : -9223372036854775808 ≤ k) (hk2 : k ≤ 9223372036854775807) (hG : Glob w) :
    Calls Tryz.prog 7 #[.int .i64 n, .int .i64 k] w fun e w' => e = .returned (.bool true) ∧ Below w.heap.size w w' := by
  have HGL := Lib.hid hG
  have SN := Lib.hid (sane_any w hG)
  obtain ⟨N1, hN1, hpn⟩ := pickZ_nat n 4 (by omega)
  obtain ⟨N, hN⟩ : ∃ N : Nat, N = 4 + N1 := ⟨_, rfl⟩
  obtain ⟨ks, hks, hpk⟩ := pickZ_nat k N (by omega)
  have PN := Lib.hid (show ∀ W, Calls Tryz.prog 14 #[.int .i64 n, .int .i64 4] W fun e w' => e = .returned (.int .i64 (N1 : Int)) ∧ w' = W from fun W => (pick_any n 4 W hn1 hn2 (by omega) (by omega)).mono fun e w' q => ⟨by rw [q.1]; exact congrArg _ (congrArg _ hpn), q.2.symm⟩)
  have PK := Lib.hid (show ∀ W, Calls Tryz.prog 14 #[.int .i64 k, .int .i64 (N : Int)] W fun e w' => e = .returned (.int .i64 (ks : Int)) ∧ w' = W from fun W => (pick_any k (N : Int) W hk1 hk2 (by omega) (by omega)).mono fun e w' q => ⟨by rw [q.1]; exact congrArg _ (congrArg _ hpk), q.2.symm⟩)
  obtain ⟨fN, hfN⟩ : ∃ fN : Nat, fN = (N - 1) / 3 := ⟨_, rfl⟩
  have FA := Lib.hid (show ∀ W, Calls Tryz.prog 33 #[.int .i64 (N : Int)] W fun e w' => e = .returned (.int .i64 (fN : Int)) ∧ w' = W from fun W => (rfaults_any (N : Int) W (by omega) (by omega)).mono fun e w' q => ⟨by rw [q.1]; exact congrArg _ (congrArg _ (by unfold faultsN; omega)), q.2⟩)
  have nn1 : (N1 : Int) < 4 := by omega
  have ew0 : IntKind.wrap .i64 (4 + (N1 : Int)) = (N : Int) := by rw [IntKind.wrap_i64]; omega
  have n1 : 1 ≤ (N : Int) := by omega
  have n4 : 4 ≤ (N : Int) := by omega
  have n7 : (N : Int) ≤ 7 := by omega
  have kk0 : (0 : Int) ≤ (ks : Int) := by omega
  have kkN : (ks : Int) < (N : Int) := by omega
  have f1 : 1 ≤ (fN : Int) := by omega
  have f2 : (fN : Int) ≤ 2 := by omega
  have HFN := Lib.hid hfN
  have HKS := Lib.hid hks
  have MKB := Lib.hid (fun W => mk_bools W (N := N) (by omega) (by omega))
  have HNN := Lib.hid (show 4 ≤ N ∧ N ≤ 7 from by omega)
  clear hG hpn hpk hN hfN hks hN1
  go_enter Tryz.func7, Tryz.ntmps7
  go_upto_region 4 with (first
    | (go_at_call 13; (with_reducible refine SN.out.mono ?_); rintro e w0 ⟨rfl, hb0⟩; have HB0 := Lib.hid hb0; clear hb0)
    | (go_at_call 14; (with_reducible refine (PN.out _).mono ?_); rintro e wq ⟨rfl, hwq⟩; rw [hwq]; clear hwq wq)
    | (go_at_call 33; (with_reducible refine (FA.out _).mono ?_); rintro e wq ⟨rfl, hwq⟩; rw [hwq]; clear hwq wq))
  clear SN
  have MKW := MKB.out w0
  obtain ⟨sb, hsb⟩ : ∃ sb, sb = w0.heap.size := ⟨_, rfl⟩
  obtain ⟨ws, hws⟩ : ∃ ws, ws = w0.alloc (.cells (boolR N fun _ => false) 4) := ⟨_, rfl⟩
  have HSB := Lib.hid (show ws.heap[sb]? = some (.cells (boolR N (silNth N 0 ks)) 4 (0, 0)) from by rw [hws, hsb]; exact World.alloc_heap_new w0 _)
  have HBS := Lib.hid (show Below w0.heap.size w0 ws from by rw [hws]; exact (Below.refl _ _).alloc (Nat.le_refl _) _)
  have HSN := Lib.hid (show w0.heap.size ≤ sb from Nat.le_of_eq hsb.symm)
  rw [← hws, ← hsb] at MKW
  clear hws hsb
  go_upto_region 5 with (fail)
  clear MKW MKB
  go_wp2_with fail
  go_loopw [8] (fun iv wr => ∃ i : Nat, i ≤ fN ∧ iv = .int .i64 (i : Int) ∧ wr.heap[sb]? = some (.cells (boolR N (silNth N i ks)) 4 (0, 0)) ∧ Below w0.heap.size w0 wr) (fun iv _ => fN - (intOf iv).toNat)
  case atStart => exact ⟨0, Nat.zero_le _, rfl, HSB.out, HBS.out⟩
  case round =>
    obtain ⟨i, hi, rfl, hsr, hbr⟩ := hrel
    have HSR := Lib.hid hsr
    have HBR := Lib.hid hbr
    have i0 : (0 : Int) ≤ (i : Int) := by omega
    clear hsr hbr HSB HBS
    by_cases hif : i < fN
    · have i1 : (i : Int) < (fN : Int) := by omega
      have i2 : (i : Int) < 2 := by omega
      obtain ⟨pp, hpp⟩ : ∃ pp, pp = (ks + i) % N := ⟨_, rfl⟩
      have hpl : pp < N := by rw [hpp]; exact Nat.mod_lt _ (by omega)
      have hw1 : IntKind.wrap .i64 ((ks : Int) + (i : Int)) = ((ks : Int) + (i : Int)) := by rw [IntKind.wrap_i64]; omega
      have hm1 : ((ks : Int) + (i : Int)).tmod (N : Int) = (pp : Int) := by rw [Int.tmod_eq_emod_of_nonneg (by omega), hpp]; push_cast; rfl
      have p0 : (0 : Int) ≤ (pp : Int) := by omega
      have p1 : (pp : Int) < (N : Int) := by omega
      have cs := cell_of_row wr sb pp _ _ _ HSR.out
      rw [boolR_get N _ hpl] at cs
      have fz := fun o => frozen_of_row wr sb o _ _ HSR.out
      have HNX := Lib.hid (show (wr.setCell ⟨sb, pp, none⟩ (.bool true)).heap[sb]? = some (.cells (boolR N (silNth N (i + 1) ks)) 4 (0, 0)) from by
        rw [heap_setC HSR.out, boolR_set]
        have e : (fun j => silNth N i ks j || pp == j) = silNth N (i + 1) ks := by
          funext j; rw [silNth_next, hpp]
        rw [e])
      clear hpp
      go_wp2_with (go_at_call 14; (with_reducible refine (PK.out _).mono ?_); rintro e wq ⟨rfl, hwq⟩; rw [hwq]; clear hwq wq)
      go_roundw
      case rel => exact ⟨i + 1, by omega, by go_num, HNX.out, HBR.out.setCell HSN.out _⟩
      case measure => simp [intOf]; omega
    · have i1 : ¬ (i : Int) < (fN : Int) := by omega
      have hif' : i = fN := by omega
      obtain ⟨w1, rfl⟩ : ∃ w1 : World, w1 = wr := ⟨_, rfl⟩
      obtain ⟨sil, hsil⟩ : ∃ sil, sil = silNth N fN ks := ⟨_, rfl⟩
      have HSL := Lib.hid (show w1.heap[sb]? = some (.cells (boolR N sil) 4 (0, 0)) from by rw [hsil, ← hif']; exact HSR.out)
      have HSI := Lib.hid hsil
      have HB1 := Lib.hid (HB0.out.trans (HBR.out.mono HB0.out.size))
      have HG1 := Lib.hid (show Glob w1 from by
        obtain ⟨t, ht⟩ := HGL.out
        exact ⟨t, (HB1.out.block 0 (Array.getElem?_eq_some_iff.1 ht).1).trans ht⟩)
      have HP1 := Lib.hid (show 0 < w1.heap.size from by
        obtain ⟨t, ht⟩ := HG1.out
        exact (Array.getElem?_eq_some_iff.1 ht).1)
      have HSX := Lib.hid (show sb < w1.heap.size from (Array.getElem?_eq_some_iff.1 HSL.out).1)
      clear hif' hsil HSR HBR HB0 HSN PK PN FA
      go_wp2_with fail
      go_loopw [9, 10] (fun v i wr => ∃ q : Nat, q ≤ N ∧ i = .int .i64 (q : Int) ∧ Dock w1.heap.size w1 N q v wr) (fun _ i _ => N - (intOf i).toNat)
      case atStart => exact ⟨0, Nat.zero_le _, rfl, Dock.nil HP1.out HG1.out N⟩
      case round =>
        obtain ⟨q, hq, rfl, hy⟩ := hrel
        have HY := Lib.hid hy
        have q0 : (0 : Int) ≤ (q : Int) := by omega
        by_cases hlt : q < N
        · have q1 : (q : Int) < (N : Int) := by omega
          have q7 : (q : Int) < 7 := by omega
          have NW := Lib.hid (dock_new hy hlt HNN.out.2)
          have HQ7 := Lib.hid (show q < 7 from by omega)
          obtain ⟨c, hc⟩ : ∃ c : Nat, c = 1 + q := ⟨_, rfl⟩
          have e1 : IntKind.wrap .i64 (1 + (q : Int)) = (c : Int) := by rw [IntKind.wrap_i64]; omega
          have e2 : IntKind.wrap .u8 (c : Int) = (c : Int) := by rw [IntKind.wrap_u8]; omega
          have ID := Lib.hid (show ∀ W, Calls Tryz.prog 37 #[.int .u8 (c : Int)] W fun e w' => e = .returned (.string (idB c)) ∧ Below W.heap.size W w' from fun W => id_any c W)
          have HFM := Lib.hid (show fam (famI q) = [idB c] from by rw [hc]; exact fam_id HQ7.out)
          obtain ⟨dc, hdc⟩ : ∃ dc, dc = idB c := ⟨_, rfl⟩
          rw [← hdc] at ID HFM
          unfold pv at NW
          clear hy hc hdc
          go_upto_region 16 with (first
            | (go_at_call 15; (with_reducible refine NW.out.mono ?_); rintro e w2 ⟨x, rfl, h2⟩; have DA := Lib.hid h2; clear h2)
            | (go_at_call 37; (with_reducible refine (ID.out _).mono ?_); rintro e w3 ⟨rfl, hb3⟩; have hba := (Below.refl _ w3).alloc (Nat.le_refl _) (.cells #[.string dc] 9); have hr3 := lrow_new (w := w3) (W := w3.alloc (.cells #[.string dc] 9)) (g := w3.heap.size) (l := [dc]) (World.alloc_heap_new w3 _) (Nat.le_refl _); have BG := Lib.hid (dock_begin (R0 := New w3 (w3.alloc (.cells #[.string dc] 9))) ((DA.out.later hb3).later hba) HQ7.out (by rw [HFM.out]; exact hr3) (fun k hk => hk.2)); unfold pv iv at BG; simp only [List.length_cons, List.length_nil, Nat.zero_add] at BG; clear hb3 hba hr3)
            | (go_at_call 16; (with_reducible refine BG.out.mono ?_); rintro e w4 ⟨rfl, h4⟩; have DB := Lib.hid h4; clear h4))
          go_wp2_with (first
            | (refine wpList_dock (x := x) (base := w1.heap.size) (w1 := w1) (N := N) (i := q) (W := w4) rfl (.tmp 73) (.tmp 75) (by rfl) (by rfl) DB.out HQ7.out (by rfl) ?_; intro v5 w5 h5; have D5 := Lib.hid h5; clear h5))
          go_roundw
          case rel => exact ⟨q + 1, by omega, by go_num, D5.out⟩
          case measure => simp [intOf]; omega
        · have q1 : ¬ (q : Int) < (N : Int) := by omega
          have hqN : q = N := by omega
          rw [hqN] at hy
          obtain ⟨gn, cap, cur, xs, Rs, rfl, hxl, hfl⟩ := hy.fleet (by omega)
          have HF := Lib.hid hfl
          have HXL := Lib.hid hxl
          clear hqN hy hfl hxl HY
          obtain ⟨T, hT⟩ : ∃ T : Nat, T = 32 * (2 * fN + 4) * (2 * fN + 5) := ⟨_, rfl⟩
          obtain ⟨g1, hg1⟩ : ∃ g1 : Int, g1 = 2 * (fN : Int) := ⟨_, rfl⟩
          obtain ⟨g2, hg2⟩ : ∃ g2 : Int, g2 = g1 + 4 := ⟨_, rfl⟩
          obtain ⟨g3, hg3⟩ : ∃ g3 : Int, g3 = 32 * g2 := ⟨_, rfl⟩
          obtain ⟨g4, hg4⟩ : ∃ g4 : Int, g4 = g1 + 5 := ⟨_, rfl⟩
          have m5 : g3 * g4 = (T : Int) := by rw [hg3, hg4, hg2, hg1, hT]; push_cast; rfl
          have HTT := Lib.hid (show 1000 ≤ T ∧ T ≤ 3000 from by
            have : fN = 1 ∨ fN = 2 := by omega
            rcases this with e | e <;> (rw [hT, e]; decide))
          have m1 : (2 : Int) * (fN : Int) = g1 := hg1.symm
          have v1 : IntKind.wrap .i64 g1 = g1 := by rw [IntKind.wrap_i64]; omega
          have m2 : g1 + 4 = g2 := hg2.symm
          have v2 : IntKind.wrap .i64 g2 = g2 := by rw [IntKind.wrap_i64]; omega
          have m3 : (32 : Int) * g2 = g3 := hg3.symm
          have v3 : IntKind.wrap .i64 g3 = g3 := by rw [IntKind.wrap_i64]; omega
          have m4 : g1 + 5 = g4 := hg4.symm
          have v4 : IntKind.wrap .i64 g4 = g4 := by rw [IntKind.wrap_i64]; omega
          have v5 : IntKind.wrap .i64 (T : Int) = (T : Int) := by have := HTT.out; rw [IntKind.wrap_i64]; omega
          have SR := Lib.hid (show ∃ who, who < N ∧ sil who = false ∧ ∀ i, i < N → sil i = false → ∃ s v, (sRnds digV sil T (startS N))[i]? = some s ∧ getA 0 s.decs = some v ∧ v.list = fam (famI who) from by
            rw [HSI.out, HFN.out]
            exact silentR HNN.out.1 HNN.out.2 HKS.out HTT.out.1)
          clear hT hg1 hg2 hg3 hg4
          go_wp2_with fail
          go_loopw [13] (fun tv wr => ∃ (t : Nat) (Rs : Nat → Nat → Prop), t ≤ T ∧ tv = .int .i64 (t : Int) ∧ Fl GA w1.heap.size w1 gn cur xs (sRnds digV sil t (startS N)) Rs wr) (fun tv _ => T - (intOf tv).toNat)
          case atStart => exact ⟨0, Rs, Nat.zero_le _, rfl, HF.out⟩
          case round =>
            clear HF
            obtain ⟨t, Rt, ht, rfl, hfl⟩ := hrel
            have HF := Lib.hid hfl
            have t0 : (0 : Int) ≤ (t : Int) := by omega
            clear hfl
            by_cases htT : t < T
            · have t1 : (t : Int) < (T : Int) := by omega
              have HCN0 := rnds_crewS HNN.out.2 sil t
              obtain ⟨ns, hns⟩ : ∃ ns, ns = sRnds digV sil t (startS N) := ⟨_, rfl⟩
              rw [← hns] at HCN0 HF
              have HCN := Lib.hid HCN0
              have HNS := Lib.hid hns
              have HNL := Lib.hid HCN0.len
              have HTL := Lib.hid (show (t : Int) ≤ 3000 from by have := HTT.out; omega)
              clear HCN0 hns
              obtain ⟨wt, rfl⟩ : ∃ wt : World, wt = wr := ⟨_, rfl⟩
              go_wp2_with fail
              go_loopw [14, 15] (fun v iv wr => ∃ (i : Nat) (Rs : Nat → Nat → Prop), i ≤ N ∧ iv = .int .i64 (i : Int) ∧ Fl GA w1.heap.size w1 gn cur xs (midS sil i ns) Rs wr ∧ OutR (AllR xs.length Rs) wt wr v (sOut digV sil 0 (ns.take i)) ∧ wt.heap.size ≤ wr.heap.size) (fun _ iv _ => N - (intOf iv).toNat)
              case atStart => exact ⟨0, Rt, Nat.zero_le _, rfl, by rw [midS_zero]; exact HF.out, OutR.nil _ _ _, Nat.le_refl _⟩
              case round =>
                obtain ⟨i, Ri, hi, rfl, hfl, hor, hsz⟩ := hrel
                obtain ⟨oao, ocap, rfl⟩ := out_slice hor
                have HFI := Lib.hid hfl
                have HOI := Lib.hid hor
                have HSZ := Lib.hid hsz
                have i0 : (0 : Int) ≤ (i : Int) := by omega
                by_cases hin : i < N
                · have i1 : (i : Int) < (N : Int) := by omega
                  have hil : i < ns.length := by rw [HNL.out]; exact hin
                  obtain ⟨x, hx⟩ : ∃ x, xs[i]? = some x := ⟨xs[i]'(by rw [HXL.out]; exact hin), List.getElem?_eq_getElem _⟩
                  obtain ⟨s, hs⟩ : ∃ s, s = ns[i] := ⟨_, rfl⟩
                  have hsm : (midS sil i ns)[i]? = some s := by rw [hs]; exact midS_at hil
                  have hfit : Fit GA s := by rw [hs]; exact HCN.out.fit _ (List.getElem_mem _)
                  have cx := hfl.cell hx
                  have AK := Lib.hid (nasked GA.gf hfl.net hx hsm)
                  have HX := Lib.hid hx
                  have HSM := Lib.hid hsm
                  have HFT := Lib.hid hfit
                  have HST := Lib.hid (show s.ticks ≤ (t : Int) from by rw [hs]; exact (HCN.out.each i _ (List.getElem?_eq_getElem hil)).2.2.1)
                  have HMN := Lib.hid (midS_next (sil := sil) hil)
                  have HON := Lib.hid (sOut_next (sil := sil) hil)
                  rw [← hs] at HMN HON
                  have HLE := Lib.hid (show (sOut digV sil 0 (ns.take i)).length ≤ 28000 from by
                    have a1 := sOut_le sil (ns.take i) 0 (fun s hs => HCN.out.fit s (List.mem_of_mem_take hs))
                    rw [List.length_take] at a1
                    have := HNL.out
                    omega)
                  have HGN := Lib.hid (show gn < wt.heap.size from HF.out.asd.1)
                  have HBT := Lib.hid HF.out.size
                  obtain ⟨od, hod⟩ : ∃ od, od = sOut digV sil 0 (ns.take i) := ⟨_, rfl⟩
                  rw [← hod] at HON HLE HOI ⊢
                  unfold pv at cx AK
                  clear hfl hor hsz hx hs hsm hfit hod
                  go_upto_region 25 with (go_at_call 38; (with_reducible refine AK.out.mono ?_); rintro e wA ⟨⟨v16, rfl, hrl⟩, hbA⟩; obtain ⟨aao, acap, rfl⟩ := rowL_slice hrl; have HRL := Lib.hid hrl; have HBA := Lib.hid hbA; clear hrl hbA)
                  obtain ⟨la, hla⟩ : ∃ la, la = s.asked.length := ⟨_, rfl⟩
                  have HLA := Lib.hid hla
                  have la0 : (0 : Int) ≤ (la : Int) := by omega
                  have la9 : (la : Int) ≤ 1000 := by have := asked_len HFT.out; omega
                  rw [← hla] at HRL ⊢
                  have HFA := Lib.hid (HFI.out.later HBA.out)
                  have HOA := Lib.hid (HOI.out.later HBA.out)
                  have HAA := Lib.hid (show ∀ g, New wr wA g → Asd xs.length Ri wA g from fun g hg => Asd.fresh HFI.out.net hg)
                  clear hla cx AK
                  obtain ⟨wi, rfl⟩ : ∃ wi : World, wi = wr := ⟨_, rfl⟩
                  go_wp2_with fail
                  go_loopw [17] (fun kv wk => ∃ (j : Nat) (R : Nat → Nat → Prop), j ≤ la ∧ kv = .int .i64 (j : Int) ∧ Fl GA w1.heap.size w1 gn cur xs ((midS sil i ns).set i (accN j s)) R wk ∧ OutR (AllR xs.length R) wt wk (.slice oao od.length ocap) od ∧ wt.heap.size ≤ wk.heap.size ∧ ∀ g, New wi wA g → Asd xs.length R wk g ∧ wk.heap[g]? = wA.heap[g]?) (fun kv _ => la - (intOf kv).toNat)
                  case atStart => exact ⟨0, Ri, Nat.zero_le _, rfl, by rw [accN_zero, set_same HSM.out]; exact HFA.out, HOA.out, Nat.le_trans HSZ.out HBA.out.size, fun g hg => ⟨HAA.out g hg, rfl⟩⟩
                  case round =>
                    clear HFI HOI HFA HOA HAA
                    obtain ⟨j, Rj, hj, rfl, hfl, hor, hsz, hnw⟩ := hrel
                    have HFJ := Lib.hid hfl
                    have HOJ := Lib.hid hor
                    have HSJ := Lib.hid hsz
                    have HNW := Lib.hid hnw
                    have j0 : (0 : Int) ≤ (j : Int) := by omega
                    have hil2 : i < (midS sil i ns).length := by rw [midS_len, HNL.out]; exact hin
                    have hsj : ((midS sil i ns).set i (accN j s))[i]? = some (accN j s) := by rw [List.getElem?_set, if_pos rfl, if_pos hil2]
                    have cx := hfl.cell HX.out
                    unfold pv at cx
                    by_cases hjl : j < la
                    · have j1 : (j : Int) < (la : Int) := by omega
                      obtain ⟨l, hl⟩ : ∃ l, s.asked[j]? = some l := ⟨s.asked[j]'(by rw [← HLA.out]; exact hjl), List.getElem?_eq_getElem _⟩
                      obtain ⟨g, u, rfl, hcu, hlr, hg1, hg2⟩ := HRL.out.nth hl
                      have hgn := hnw g ⟨hg1, hg2⟩
                      have cu : wr.cell? ⟨g, j, none⟩ = some u := by
                        rw [World.cell?_of_block (w := wA) (w' := wr) (a := ⟨g, j, none⟩) hgn.2]; exact hcu
                      have hlw := hlr.kept (w' := wr) (fun g' cur fr hr _ => (hnw g' hr).2)
                      obtain ⟨ha, hl60⟩ := asked_GA HFT.out (List.mem_of_getElem? hl)
                      have HACN := Lib.hid (accN_next hl)
                      have DG := Lib.hid (digest_asc ha hl60 (hlw.kept (w' := wr.drew) (fun _ _ _ _ _ => rfl)))
                      obtain ⟨dl, hdl⟩ : ∃ dl, dl = digV l := ⟨_, rfl⟩
                      rw [← hdl] at DG HACN
                      have AC := Lib.hid (show ∀ W, Below wr.heap.size wr W → Calls Tryz.prog 25 #[.pointer (some ⟨x, 0, none⟩), .string dl] W fun e w' => e = .returned (.tuple #[]) ∧ ∃ R', Fl GA w1.heap.size w1 gn cur xs ((midS sil i ns).set i (accN (j + 1) s)) R' w' ∧ OutR (AllR xs.length R') wt w' (.slice oao od.length ocap) od ∧ wt.heap.size ≤ w'.heap.size ∧ (∀ g, New wi wA g → Asd xs.length R' w' g ∧ w'.heap[g]? = wA.heap[g]?) ∧ w'.heap[gn]? = wr.heap[gn]? from fun W hW => by
                        have hfw := HFJ.out.later hW
                        refine (naccept hfw.net hfw.size HX.out hsj dl).mono ?_
                        rintro e w' ⟨rfl, R', hs⟩
                        rw [List.set_set, ← HACN.out] at hs
                        refine ⟨rfl, R', hfw.sail hs, (HOJ.out.later hW).sail hs, Nat.le_trans HSJ.out (Nat.le_trans hW.size hs.chg.size), fun g' hg' => ?_, ?_⟩
                        · obtain ⟨q1, q2⟩ := HNW.out g' hg'
                          have q3 := q1.later hW.size
                          exact ⟨hs.asd q3, (hs.blk q3).trans ((hW.block g' q1.1).trans q2)⟩
                        · exact (hs.blk hfw.asd).trans (hW.block gn HFJ.out.asd.1))
                      have HGW := Lib.hid (show g < wr.heap.size from hgn.1.1)
                      have HGA := Lib.hid hgn
                      have HNG := Lib.hid (show New wi wA g from ⟨hg1, hg2⟩)
                      have SK := Lib.hid (show ∀ W : World, W.heap[gn]? = wr.heap[gn]? → W.heap[g]? = wr.heap[g]? → W.cell? ⟨gn, i, none⟩ = some (.pointer (some ⟨x, 0, none⟩)) ∧ W.cell? ⟨g, j, none⟩ = some u from fun W h1 h2 => ⟨by rw [World.cell?_of_block (w := wr) (w' := W) (a := ⟨gn, i, none⟩) h1]; exact cx, by rw [World.cell?_of_block (w := wr) (w' := W) (a := ⟨g, j, none⟩) h2]; exact cu⟩)
                      clear hfl hor hsz hnw hsj hl hcu hlr hg1 hg2 hgn hlw ha hl60 hdl
                      go_upto_region 28 with (fail)
                      go_region_held3 (fun W => W.cell? ⟨gn, i, none⟩ = some (.pointer (some ⟨x, 0, none⟩)) ∧ W.cell? ⟨g, j, none⟩ = some u)
                        (first | (exact SK.out _ rfl rfl) | (exact SK.out _ G9.out.1 G9.out.2) | (exact SK.out _ G10.out.1 G10.out.2) | assumption)
                        (first
                          | (go_at_call 26; (with_reducible refine DG.out.mono ?_); rintro e w9 ⟨rfl, hb9⟩; have hbw : Below wr.heap.size wr w9 := (Below.refl _ wr).drew.trans hb9; have G9 := Lib.hid (show w9.heap[gn]? = wr.heap[gn]? ∧ w9.heap[g]? = wr.heap[g]? from ⟨hbw.block gn HFJ.out.asd.1, hbw.block g HGW.out⟩); have AD := Lib.hid (AC.out w9 hbw); clear hb9 hbw)
                          | (go_at_call 25; (with_reducible refine AD.out.mono ?_); rintro e w10 ⟨rfl, R10, f10, o10, z10, n10, g10⟩; have F10 := Lib.hid f10; have O10 := Lib.hid o10; have Z10 := Lib.hid z10; have N10 := Lib.hid n10; have G10 := Lib.hid (show w10.heap[gn]? = wr.heap[gn]? ∧ w10.heap[g]? = wr.heap[g]? from ⟨g10, (n10 g HNG.out).2.trans HGA.out.2.symm⟩); clear f10 o10 z10 n10 g10))
                      all_goals (
                        go_wp2_with fail
                        go_roundw
                        case rel => exact ⟨j + 1, R10, by omega, by go_num, F10.out, O10.out, Z10.out, N10.out⟩
                        case measure => simp [intOf]; omega)
                    · have j1 : ¬ (j : Int) < (la : Int) := by omega
                      have HAE := Lib.hid (accN_all (j := j) (s := s) (by rw [← HLA.out]; omega))
                      have HIL := Lib.hid hil2
                      clear hfl hor hsz hnw hil2
                      have csb := cell_of_row wr sb i _ _ _ ((HFJ.out.bel.block sb HSX.out).trans HSL.out)
                      rw [boolR_get N _ hin] at csb
                      rcases hsi : sil i with _ | _
                      · rw [hsi] at csb HMN HON
                        have e5 : ((midS sil i ns).set i (accAll digV s))[i]? = some (accAll digV s) := by rw [List.getElem?_set, if_pos rfl, if_pos HIL.out]
                        rw [HAE.out] at HFJ
                        have TK := Lib.hid (ntick GA.gf HFJ.out.net HFJ.out.size HX.out e5 (by
                          have := (accs_keep s.asked s).2.2.1
                          have h2 := HST.out
                          have h3 := HTL.out
                          show (accAll digV s).ticks ≤ _
                          unfold accAll
                          rw [this]; omega))
                        rw [List.set_set] at TK
                        have HMN2 := Lib.hid (show (midS sil i ns).set i (accAll digV s).tick.1 = midS sil (i + 1) ns from HMN.out)
                        have HON2 := Lib.hid (show sOut digV sil 0 (ns.take (i + 1)) = od ++ (accAll digV s).tick.2 from HON.out)
                        rw [HMN2.out] at TK
                        obtain ⟨nw, hnw⟩ : ∃ nw, nw = (accAll digV s).tick.2 := ⟨_, rfl⟩
                        have HL2 := Lib.hid (show od.length + nw.length ≤ 100000000 from by
                          have a1 := HLE.out
                          have a2 := tick_lenS HFT.out.accAll
                          rw [hnw]; omega)
                        rw [← hnw] at TK HON2
                        unfold pv at TK
                        clear hsi e5 hnw hsj
                        go_wp2_with (first
                          | (go_at_call 18; (with_reducible refine TK.out.mono ?_); rintro e w2 ⟨v3, Rs2, rfl, hs2, ho2⟩; have F2 := Lib.hid (HFJ.out.sail hs2); have O2 := Lib.hid (HOJ.out.sail hs2); have P2 := Lib.hid ho2; have Z2 := Lib.hid (Nat.le_trans HSJ.out hs2.chg.size); clear hs2 ho2)
                          | (refine wpList_flpush (wt := wt) (wx := wr) (nw := nw) rfl (.tmp 120) (.tmp 125) (by rfl) (by rfl) (by rfl) F2.out O2.out P2.out HSJ.out HBT.out HGN.out Z2.out HL2.out ?_; intro v5 w5 o5 f5 z5; have O5 := Lib.hid o5; have F5 := Lib.hid f5; have Z5 := Lib.hid z5; clear o5 f5 z5))
                        go_roundw
                        case rel => exact ⟨i + 1, Rs2, by omega, by go_num, F5.out, by rw [HON2.out]; exact O5.out, Z5.out⟩
                        case measure => simp [intOf]; omega
                      · rw [hsi] at csb HMN HON
                        have HF9 := Lib.hid (show Fl GA w1.heap.size w1 gn cur xs (midS sil (i + 1) ns) Rj wr from by
                          rw [← show (midS sil i ns).set i (accAll digV s) = midS sil (i + 1) ns from HMN.out, ← HAE.out]; exact HFJ.out)
                        have HO9 := Lib.hid (show OutR (AllR xs.length Rj) wt wr (.slice oao od.length ocap) (sOut digV sil 0 (ns.take (i + 1))) from by
                          rw [show sOut digV sil 0 (ns.take (i + 1)) = od from by rw [HON.out]; show od ++ [] = od; rw [List.append_nil]]; exact HOJ.out)
                        clear hsi hsj
                        go_wp2_with fail
                        go_roundw
                        case rel => exact ⟨i + 1, Rj, by omega, by go_num, HF9.out, HO9.out, HSJ.out⟩
                        case measure => simp [intOf]; omega
                · have i1 : ¬ (i : Int) < (N : Int) := by omega
                  have hNi : ns.length ≤ i := by rw [HNL.out]; omega
                  rw [midS_all hNi] at hfl
                  rw [List.take_of_length_le hNi] at hor ⊢
                  obtain ⟨ms, hms⟩ : ∃ ms, ms = sOut digV sil 0 ns := ⟨_, rfl⟩
                  rw [← hms] at hor ⊢
                  obtain ⟨nm, hnm⟩ : ∃ nm, nm = ms.length := ⟨_, rfl⟩
                  rw [← hnm] at hor ⊢
                  have HF5 := Lib.hid (show Fl GA w1.heap.size w1 gn cur xs (gotS sil 0 ns) Ri wr from hfl)
                  have HO5 := Lib.hid hor
                  have HMS := Lib.hid hms
                  have HNM := Lib.hid hnm
                  have nm0 : (0 : Int) ≤ (nm : Int) := by omega
                  have nm9 : (nm : Int) ≤ 28000 := by
                    have a1 := sOut_le sil ns 0 HCN.out.fit
                    rw [← hms, ← hnm, HNL.out] at a1
                    have := HNN.out.2
                    omega
                  clear hNi hfl hor hms hnm HFI HOI
                  go_wp2_with fail
                  go_loopw [18] (fun qv wr => ∃ (q : Nat) (Rs : Nat → Nat → Prop), q ≤ nm ∧ qv = .int .i64 (q : Int) ∧ Fl GA w1.heap.size w1 gn cur xs (gotS sil q ns) Rs wr ∧ OutR (AllR xs.length Rs) wt wr (.slice oao nm ocap) ms) (fun qv _ => nm - (intOf qv).toNat)
                  case atStart => exact ⟨0, Ri, Nat.zero_le _, rfl, HF5.out, HO5.out⟩
                  case round =>
                    clear HF5 HO5
                    obtain ⟨q, Rq, hq, rfl, hfl, hor⟩ := hrel
                    have HFQ := Lib.hid hfl
                    have HOQ := Lib.hid hor
                    have q0 : (0 : Int) ≤ (q : Int) := by omega
                    by_cases hqm : q < nm
                    · have q1 : (q : Int) < (nm : Int) := by omega
                      obtain ⟨m, hm⟩ : ∃ m, ms[q]? = some m := ⟨ms[q]'(by rw [← HNM.out]; exact hqm), List.getElem?_eq_getElem _⟩
                      obtain ⟨hv, hl60, hga, ht0, htn⟩ := sOut_ok HCN.out (sil := sil) (by rw [← HMS.out]; exact List.mem_of_getElem? hm)
                      obtain ⟨b, off, lo, lc, rfl, hce, hlr⟩ := hor.nth hm
                      obtain ⟨tn, htn'⟩ : ∃ tn : Nat, m.to = (tn : Int) := ⟨m.to.toNat, by omega⟩
                      have tn0 : (0 : Int) ≤ (tn : Int) := by omega
                      have tn1 : (tn : Int) < (N : Int) := by omega
                      have tnN : tn < N := by omega
                      have e0 := hce 0 _ rfl
                      have e1 := hce 1 _ rfl
                      have e2 := hce 2 _ rfl
                      have e3 := hce 3 _ rfl
                      have e4 := hce 4 _ rfl
                      have e5 := hce 5 _ rfl
                      have e6 := hce 6 _ rfl
                      have e7 := hce 7 _ rfl
                      unfold iv at e0 e1 e2 e3 e4 e5
                      simp only [Nat.add_zero] at e0
                      rw [htn'] at e2
                      obtain ⟨x, hx⟩ : ∃ x, xs[tn]? = some x := ⟨xs[tn]'(by rw [HXL.out]; exact tnN), List.getElem?_eq_getElem _⟩
                      have hgl : (gotS sil q ns).length = N := by unfold gotS; rw [sDlvs_len, sMid_len, HNL.out]
                      obtain ⟨sx, hsx⟩ : ∃ sx, (gotS sil q ns)[tn]? = some sx := ⟨(gotS sil q ns)[tn]'(by rw [hgl]; exact tnN), List.getElem?_eq_getElem _⟩
                      have cx := hfl.cell hx
                      have csb := cell_of_row wr sb tn _ _ _ ((hfl.bel.block sb HSX.out).trans HSL.out)
                      rw [boolR_get N _ tnN] at csb
                      have HNX := Lib.hid (show gotS sil (q + 1) ns = if sil tn then gotS sil q ns else (gotS sil q ns).set tn (sx.receive m true) from by
                        rw [gotS_next (by rw [← HMS.out]; exact hm), sdlv_at (s := sx) (by rw [htn']; exact hsx), htn']
                        rfl)
                      have HRC := Lib.hid (show ∀ W, Below wr.heap.size wr W → Calls Tryz.prog 20 #[pv x, .agg (encM m (.slice lo m.list.length lc))] W fun e w' => e = .returned (.tuple #[]) ∧ ∃ Rs', Fl GA w1.heap.size w1 gn cur xs ((gotS sil q ns).set tn (sx.receive m true)) Rs' w' ∧ OutR (AllR xs.length Rs') wt w' (.slice (some ⟨b, off, none⟩) nm ocap) ms from fun W hW => by
                        have hfw := hfl.later hW
                        refine (nrecv (R0 := NewZ (AllR xs.length Rq) wt wr) (m := m) GA.gf hfw.net hfw.size hx hsx ⟨_, rfl, hlr.kept (fun g cur fr hr _ => hW.block g hr.1.2)⟩ (fun c hc => Nat.lt_of_lt_of_le hc.1.2 hW.size) hl60 hfw.gl (fun _ => hga)).mono ?_
                        rintro e w' ⟨rfl, Rs', hs⟩
                        rw [hv] at hs
                        exact ⟨rfl, Rs', hfw.sail hs, (hor.later hW).sail hs⟩)
                      unfold encM pv iv at HRC
                      rw [htn'] at HRC
                      unfold pv at cx
                      obtain ⟨st, hst⟩ : ∃ st, sil tn = st := ⟨_, rfl⟩
                      rw [hst] at csb HNX
                      clear hfl hor hm hv hl60 hga ht0 htn hce hlr htn' hx hsx hgl hst
                      go_upto_region 34 with (fail)
                      go_cut [158] (fun t wc => t = .bool (!st) ∧ wc = wr)
                      case first =>
                        go_wp2_with fail
                        go_meet
                        exact ⟨rfl, rfl⟩
                      case rest =>
                      obtain ⟨rfl, hw⟩ := hcut
                      rw [hw]
                      clear hw
                      rcases st with _ | _
                      · have HN2 := Lib.hid (show gotS sil (q + 1) ns = (gotS sil q ns).set tn (sx.receive m true) from HNX.out)
                        go_upto_region 35 with (fail)
                        go_still_tail 12, (by kernel_rfl)
                        change wpList _ _ _ _ _ wr.drew
                        have RC6 := Lib.hid (HRC.out wr.drew (Below.refl _ wr).drew)
                        rw [← HN2.out] at RC6
                        generalize wr.drew = w5 at RC6 ⊢
                        clear e0 e1 e2 e3 e4 e5 e6 e7 cx csb HRC
                        go_wp2_with (go_at_call 20; (with_reducible refine RC6.out.mono ?_); rintro e w6 ⟨rfl, Rs6, f6, o6⟩; have F6 := Lib.hid f6; have O6 := Lib.hid o6; clear f6 o6)
                        go_roundw
                        case rel => exact ⟨q + 1, Rs6, by omega, by go_num, F6.out, O6.out⟩
                        case measure => simp [intOf]; omega
                      · have HN2 := Lib.hid (show gotS sil (q + 1) ns = gotS sil q ns from HNX.out)
                        clear e0 e1 e2 e3 e4 e5 e6 e7 cx csb HRC
                        go_wp2_with fail
                        go_roundw
                        case rel => exact ⟨q + 1, Rq, by omega, by go_num, by rw [HN2.out]; exact HFQ.out, HOQ.out⟩
                        case measure => simp [intOf]; omega
                    · have q1 : ¬ (q : Int) < (nm : Int) := by omega
                      have HE5 := Lib.hid (show Fl GA w1.heap.size w1 gn cur xs (sRnds digV sil (t + 1) (startS N)) Rq wr from by
                        have e9 : gotS sil q ns = sRnd digV sil ns := gotS_all (by rw [← HMS.out, ← HNM.out]; omega)
                        rw [e9, HNS.out] at hfl
                        exact hfl)
                      clear hfl hor HFQ HOQ
                      have t3 := HTL.out
                      go_wp2_with fail
                      go_roundw
                      case rel => exact ⟨t + 1, Rq, by omega, by go_num, HE5.out⟩
                      case measure => simp [intOf]; omega
            · have t1 : ¬ (t : Int) < (T : Int) := by omega
              have htT' : t = T := by omega
              rw [htT'] at HF
              obtain ⟨who, hwN, hws, hwa⟩ := SR.out
              obtain ⟨fin, hfin⟩ : ∃ fin, fin = sRnds digV sil T (startS N) := ⟨_, rfl⟩
              rw [← hfin] at HF hwa
              have h17 := HNN.out.2
              obtain ⟨cw, hcw⟩ : ∃ cw : Nat, cw = 1 + who := ⟨_, rfl⟩
              obtain ⟨dw, hdw⟩ : ∃ dw, dw = idB cw := ⟨_, rfl⟩
              have HWA := Lib.hid (show ∀ i, i < N → sil i = false → ∃ s v, fin[i]? = some s ∧ getA 0 s.decs = some v ∧ v.list = [dw] from fun i hi hs => by
                obtain ⟨s, v, a, b, c⟩ := hwa i hi hs
                exact ⟨s, v, a, b, by rw [c, fam_id (by omega), hdw, hcw]⟩)
              have IDX := fun W => idx_id (c := cw) (by omega) (by omega) W
              have hsz := idB_size cw
              rw [← hdw] at IDX hsz
              have HWS := Lib.hid hws
              have s32 : ((dw.size : Int) == 32) = true := by rw [hsz]; rfl
              have s33 : ((dw.size : Int) != 32) = false := by rw [hsz]; rfl
              have w0' : (0 : Int) ≤ (who : Int) := by omega
              have w1' : (who : Int) < (N : Int) := by omega
              have ec : IntKind.wrap .i64 (cw : Int) = (cw : Int) := by rw [IntKind.wrap_i64]; omega
              have ed : IntKind.wrap .i64 ((cw : Int) - 1) = (who : Int) := by rw [IntKind.wrap_i64]; omega
              have HWN := Lib.hid hwN
              have qN : ∀ (w : World) (a : Option Addr) (n c n' c' : Nat), (binOp .neq 30 (.slice a n c) (.slice none n' c')).run Tryz.prog w = .ok (.bool (!a.isNone)) w := fun w a n c n' c' => run_neq_slice_nil_any w _ _ a n c n' c' Tryz.underlying30
              clear htT' SR hfin hwa hcw hdw hsz hws hwN h17
              have HOW := Lib.hid (show OneV sil 0 dw wr (.slice none 0 0) from .inl ⟨rfl, fun j hj => absurd hj (Nat.not_lt_zero _)⟩)
              go_wp2_with fail
              go_loopw [19, 20] (fun ov iv wr => ∃ i : Nat, i ≤ N ∧ iv = .int .i64 (i : Int) ∧ Fl GA w1.heap.size w1 gn cur xs fin Rt wr ∧ OneV sil i dw wr ov) (fun _ iv _ => N - (intOf iv).toNat)
              case atStart => exact ⟨0, Nat.zero_le _, rfl, HF.out, HOW.out⟩
              case round =>
                clear HF HOW
                obtain ⟨i, hi, rfl, hfl, hov⟩ := hrel
                have HFI := Lib.hid hfl
                have HOV := Lib.hid hov
                have i0 : (0 : Int) ≤ (i : Int) := by omega
                by_cases hin : i < N
                · have i1 : (i : Int) < (N : Int) := by omega
                  have csb := cell_of_row wr sb i _ _ _ ((hfl.bel.block sb HSX.out).trans HSL.out)
                  rw [boolR_get N _ hin] at csb
                  rcases hsi : sil i with _ | _
                  · rw [hsi] at csb
                    obtain ⟨s, v, hs, hd, hvl⟩ := HWA.out i hin hsi
                    obtain ⟨x, hx⟩ : ∃ x, xs[i]? = some x := ⟨xs[i]'(by rw [HXL.out]; exact hin), List.getElem?_eq_getElem _⟩
                    have cx := hfl.cell hx
                    have DEC := Lib.hid (show Calls Tryz.prog 21 #[pv x, iv 0] wr fun e w' => (∃ b o cp, e = .returned (.tuple #[.slice (some ⟨b, o, none⟩) 1 cp, .bool true]) ∧ LRow (New wr w') w' (.slice (some ⟨b, o, none⟩) 1 cp) [dw] ∧ b < w'.heap.size ∧ w'.cell? ⟨b, o, none⟩ = some (.string dw)) ∧ Below wr.heap.size wr w' from (ndecided GA.gf hfl.net hx hs 0).mono fun e w' q => by
                      obtain ⟨q1, q2⟩ := q
                      rw [hd] at q1
                      obtain ⟨u, e1, e2⟩ := (show ∃ u, e = .returned (.tuple #[u, .bool true]) ∧ LRow (New wr w') w' u v.list from q1)
                      rw [hvl] at e2
                      obtain ⟨b, o, cp, rfl, hb, hc⟩ := e2.one
                      exact ⟨⟨b, o, cp, e1, e2, hb, hc⟩, q2⟩)
                    unfold pv at cx
                    unfold pv iv at DEC
                    clear hfl hov hs hd hvl hx hsi
                    go_upto_region 42 with (go_at_call 21; (with_reducible refine DEC.out.mono ?_); rintro e w5 ⟨⟨b, o, cp, rfl, hr5, hb5, hc5⟩, hbb⟩; have HR5 := Lib.hid hr5; have HC5 := Lib.hid hc5; have HBL := Lib.hid hb5; have HB5 := Lib.hid hbb; clear hr5 hb5 hc5 hbb)
                    have HF5 := Lib.hid (HFI.out.later HB5.out)
                    have HR6 := Lib.hid (HR5.out.mono (R' := fun g => g < w5.heap.size) (fun k hk => hk.2))
                    have HOV5 := Lib.hid (show OneV sil i dw w5 _ from by
                      rcases HOV.out with h | ⟨a, c2, h1, h2⟩
                      · exact .inl h
                      · exact .inr ⟨a, c2, h1, (h2.kept (w' := w5) (fun g cur fr hr _ => HB5.out.block g hr)).mono (fun k hk => Nat.lt_of_lt_of_le hk HB5.out.size)⟩)
                    clear csb cx
                    go_cut [212] (fun t wc => t = .bool false ∧ Below w5.heap.size w5 wc)
                    case first =>
                      have c5 := HC5.out
                      rcases HOV5.out with ⟨rfl, _⟩ | ⟨a, c2, rfl, h2⟩
                      · go_wp2_with fail
                        go_meet
                        exact ⟨by simp, Below.refl _ _⟩
                      · obtain ⟨b2, o2, cp2, e2, _, _⟩ := h2.one
                        have SM := Lib.hid (same_rows (some ⟨b, o, none⟩) (some a) cp c2 [dw] w5 (by simp) HR6.out h2)
                        simp only [List.length_cons, List.length_nil, Nat.zero_add] at SM
                        clear h2 e2
                        go_wp2_with (go_at_call 22; (with_reducible refine SM.out.mono ?_); rintro e w6 ⟨rfl, hb6⟩; have HB6 := Lib.hid hb6; clear hb6)
                        go_meet
                        exact ⟨by simp, HB6.out⟩
                    case rest =>
                    obtain ⟨rfl, hb7⟩ := hcut
                    obtain ⟨w7, rfl⟩ : ∃ w7 : World, w7 = wc := ⟨_, rfl⟩
                    have HF7 := Lib.hid (HF5.out.later hb7)
                    have c7 : w7.cell? ⟨b, o, none⟩ = some (.string dw) := by rw [World.cell?_of_block (w := w5) (w' := w7) (a := ⟨b, o, none⟩) (hb7.block b HBL.out)]; exact HC5.out
                    have HR7 := Lib.hid ((HR6.out.kept (w' := w7) (fun g cur fr hr _ => hb7.block g hr)).mono (R' := fun g => g < w7.heap.size) (fun k hk => Nat.lt_of_lt_of_le hk hb7.size))
                    have csw := cell_of_row w7 sb who _ _ _ ((HF7.out.bel.block sb HSX.out).trans HSL.out)
                    rw [boolR_get N _ HWN.out, HWS.out] at csw
                    clear hb7
                    go_wp2_with fail
                    go_roundw
                    case rel => exact ⟨i + 1, by omega, by go_num, HF7.out, .inr ⟨_, _, rfl, HR7.out⟩⟩
                    case measure => simp [intOf]; omega
                  · rw [hsi] at csb
                    have HO9 := Lib.hid (show OneV sil (i + 1) dw wr _ from by
                      rcases hov with ⟨h1, h2⟩ | h
                      · exact .inl ⟨h1, fun j hj => by
                          by_cases e : j = i
                          · rw [e]; exact hsi
                          · exact h2 j (by omega)⟩
                      · exact .inr h)
                    clear hfl hov hsi
                    go_wp2_with fail
                    go_roundw
                    case rel => exact ⟨i + 1, by omega, by go_num, HFI.out, HO9.out⟩
                    case measure => simp [intOf]; omega
                · have i1 : ¬ (i : Int) < (N : Int) := by omega
                  have hE : i = N := by omega
                  rcases hov with ⟨_, h2⟩ | ⟨a, c2, rfl, _⟩
                  · exfalso
                    have := h2 who (by rw [hE]; exact HWN.out)
                    rw [HWS.out] at this
                    cases this
                  · clear hfl hE
                    go_wp2_with fail
                    go_ret
                    exact ⟨by simp, HB1.out.trans (HFI.out.bel.mono HB1.out.size)⟩
end

end Go.Proofs.YtifcdjmcoibblaaGreatDoor
