/-
  REFUSES: what came in: a slice in a block of any type.
-/
import Derived.Test.YtifcdjmcoibblaaGreatDoorRF02

/-! REFUSES: what came in: a slice in a block of any type. -/
namespace Go.Proofs.YtifcdjmcoibblaaGreatDoor
set_option linter.unusedVariables false
set_option linter.unusedSimpArgs false
set_option linter.unusedSectionVars false
open Go.RowKit

section
variable {P : Program} {md : Region.Mode} {ops : Array Oper} {Q : Exit → Act → World → Prop} {S : World → Prop}
/-- an operation that its guard leaves out -/
theorem hun {i fuel : Nat} {oi : Oper} {listed : Array Bool} {a : Act} {w : World} (hS : S w) (h : wpAnyH P md ops Q S fuel (listed.setIfInBounds i true) (a.put oi.dst undef) w) (hi : ops[i]? = some oi := by rfl)
  (hs : Region.noSelect ops = true := by kernel_rfl) (hf : Region.free md ops listed i = true := by kernel_rfl) (hr : (Region.ready md ops listed).contains i = true := by kernel_rfl)
  (hQ : ∀ c a w, Q (.panic c) (a.put oi.dst undef) w → Q (.panic c) a w := by exact fun _ _ _ h => h) (hw : Region.wanted oi (yielded ops a.tmps) = false := by kernel_rfl) : wpAnyH P md ops Q S (fuel + 1) listed a w :=
 wpAnyH_take hi hs hf hr hQ (.inr ⟨hw, rfl⟩) hS h
/-- one that comes up -/
theorem hye {i fuel : Nat} {oi : Oper} {v : Value} {listed : Array Bool} {a : Act} {w : World} (hS : S w) (hv : ∀ w, S w → (execOp a.eval oi).run P w = .ok (.value v) w) (h : wpAnyH P md ops Q S fuel (listed.setIfInBounds i true) (a.put oi.dst v) w) (hi : ops[i]? = some oi := by rfl)
  (hs : Region.noSelect ops = true := by kernel_rfl) (hf : Region.free md ops listed i = true := by kernel_rfl) (hr : (Region.ready md ops listed).contains i = true := by kernel_rfl)
  (hQ : ∀ c a w, Q (.panic c) (a.put oi.dst v) w → Q (.panic c) a w := by exact fun _ _ _ h => h) (hw : Region.wanted oi (yielded ops a.tmps) = true := by kernel_rfl) : wpAnyH P md ops Q S (fuel + 1) listed a w :=
 wpAnyH_take hi hs hf hr hQ (.inl ⟨hw, hv⟩) hS h
end

/-- the slice v reads as the list l -/
def LRowG (w : World) (v : Value) (l : List ByteArray) : Prop := ∃ ao cap, v = .slice ao l.length cap ∧ ((ao = none → cap = 0) ∧ l.length ≤ cap) ∧ RowK 1 encT w ao l
theorem LRowG.later {w W : World} {v : Value} {l : List ByteArray} (h : LRowG w v l) (hb : Below w.heap.size w W) : LRowG W v l := by
 obtain ⟨ao, cap, e, hc, hr⟩ := h
 exact ⟨ao, cap, e, hc, hr.later hb⟩
/-- its first so many -/
theorem RowK.take {α : Type} {k : Nat} {enc : α → List Value} {w : World} {ao : Option Addr} {l : List α} (h : RowK k enc w ao l) (n : Nat) : RowK k enc w ao (l.take n) := fun i x hx => by
 have hi : i < n := by
  have := (List.getElem?_eq_some_iff.1 hx).1
  rw [List.length_take] at this; omega
 rw [List.getElem?_take_of_lt hi] at hx
 exact h i x hx
theorem clone_row {w : World} {v : Value} {l : List ByteArray} (h : LRowG w v l) (hl : l.length ≤ 1000) :
  Calls Tryz.prog 67 #[v] w fun e w' => ∃ v', e = .returned v' ∧ LRow (New w w') w' v' l ∧ Below w.heap.size w w' := by
 obtain ⟨ao, cap, rfl, ⟨hc0, hc⟩, h3⟩ := h
 rcases l with _ | ⟨a, t⟩
 ·rcases ao with _ | a
  ·refine (Tryz.slices_Clone_string_nil 0 cap w).mono ?_
   rintro e w' ⟨rfl, rfl⟩
   exact ⟨_, rfl, LRow.nil _ _, Below.refl _ _⟩
  ·refine (Tryz.slices_Clone_string_zero a cap w).mono ?_
   rintro e w' ⟨v', rfl, ho, _, hb⟩
   exact ⟨_, rfl, LRow.of_owns (l := []) ho (fun g h1 h2 => ⟨h1, h2⟩), hb⟩
 ·obtain ⟨g, o, rfl, _, _⟩ := h3 0 a rfl
  refine (Tryz.slices_Clone_string g o (a :: t).length cap (a :: t) w (Nat.le_refl _) (by omega) (fun j hj => ?_)).mono ?_
  ·obtain ⟨g2, o2, e, _, hc2⟩ := h3 j (a :: t)[j] (List.getElem?_eq_getElem hj)
   cases e
   have := hc2 0 _ rfl
   rw [Nat.mul_one, Nat.add_zero] at this
   rw [this, List.getD_eq_getElem?_getD, List.getElem?_eq_getElem hj]; rfl
  ·rintro e w' ⟨v', rfl, ho, _, hb⟩
   rw [List.take_length] at ho
   exact ⟨_, rfl, LRow.of_owns ho (fun g h1 h2 => ⟨h1, h2⟩), hb⟩
set_option maxRecDepth 100000 in
set_option maxHeartbeats 1000000 in
theorem newValue_row {w : World} {v : Value} {l : List ByteArray} (h : LRowG w v l) (hl : l.length ≤ 60) (hG : Glob w) (round : Int) :
  Calls Tryz.prog 62 #[iv round, v] w fun e w' => ∃ u, e = .returned (.tuple #[.agg #[iv round, .string (digV l), u], .bool (ascS l)]) ∧ LRow (New w w') w' u l ∧ Below w.heap.size w w' := by
 obtain ⟨ao, cap, rfl, hcap, hrow⟩ := id h
 have HG := Lib.hid hG
 have VA := Lib.hid (fun W (hW : Below w.heap.size w W) => value_any ao l.length cap l W rfl hl hcap (hrow.later hW))
 have SU := Lib.hid (fun W (hW : Below w.heap.size w W) => sum_any (if ascS l then valS l else ByteArray.empty) W (by
  split
  ·rename_i q; exact Nat.le_trans (valS_size q hl) (by decide)
  ·exact Nat.zero_le _) (hG.later hW))
 have CL := Lib.hid (fun W (hW : Below w.heap.size w W) => clone_row (h.later hW) (by omega))
 obtain ⟨sv, hsv⟩ : ∃ sv, sv = (if ascS l then valS l else ByteArray.empty) := ⟨_, rfl⟩
 have HD := Lib.hid (show digV l = strB (shaW (bytesN sv)) from by rw [hsv]; rfl)
 rw [← hsv] at VA SU
 have HE := Lib.hid (show (errS (ascS l) == 0) = ascS l from by cases ascS l <;> rfl)
 clear hsv h hcap hrow hG
 obtain ⟨er, her⟩ : ∃ er, er = errS (ascS l) := ⟨_, rfl⟩
 rw [← her] at HE VA
 clear her
 have HB0 := Lib.hid ((Below.refl _ w).alloc (Nat.le_refl _) (.cells #[.int .i64 0, .string (ByteArray.mk #[]), .slice none 0 0] 120))
 have HR0 := Lib.hid (World.alloc_heap_new w (.cells #[.int .i64 0, .string (ByteArray.mk #[]), .slice none 0 0] 120))
 unfold iv
 go_enter Tryz.func62, Tryz.ntmps62
 go_upto_region 1 with (fail)
 obtain ⟨wa, hwa⟩ : ∃ wa, wa = w.alloc (.cells #[.int .i64 0, .string (ByteArray.mk #[]), .slice none 0 0] 120) := ⟨_, rfl⟩
 rw [← hwa] at HB0 HR0 ⊢
 obtain ⟨vb, hvb⟩ : ∃ vb, vb = w.heap.size := ⟨_, rfl⟩
 rw [← hvb] at HR0 ⊢
 have HVB := Lib.hid hvb
 clear hwa hvb
 go_upto_region 2 with (go_at_call 57; refine (VA.out _ HB0.out).mono ?_; rintro e w1 ⟨rfl, hb⟩; have HB1 := Lib.hid hb; clear hb)
 have B1 := Lib.hid (HB0.out.trans (HB1.out.mono HB0.out.size))
 have hvl : vb < wa.heap.size := (Array.getElem?_eq_some_iff.1 HR0.out).1
 have R1 := Lib.hid ((HB1.out.block vb hvl).trans HR0.out)
 clear hvl
 have S1 := Lib.hid (SU.out _ B1.out)
 have C1 := Lib.hid (fun W (hW : Below w.heap.size w W) => CL.out W hW)
 have KV := Lib.hid (show ∀ W, Below w1.heap.size w1 W → W.heap[vb]? = some (.cells #[.int .i64 0, .string (ByteArray.mk #[]), .slice none 0 0] 120 (0, 0)) from fun W hW => (hW.block vb (Array.getElem?_eq_some_iff.1 R1.out).1).trans R1.out)
 rw [← HD.out] at S1
 obtain ⟨dv, hdv⟩ : ∃ dv, dv = digV l := ⟨_, rfl⟩
 have HDV := Lib.hid hdv
 rw [← hdv] at S1
 clear hdv
 go_upto_region 2 with (fail)
 go_wp2_with (first
  | (go_at_call 72; refine S1.out.mono ?_; rintro e w2 ⟨rfl, hb⟩; have HB2 := Lib.hid hb; clear hb)
  | (go_at_call 67; refine (C1.out _ (B1.out.trans (HB2.out.mono B1.out.size))).mono ?_; rintro e w3 ⟨u, rfl, hrow, hb⟩; obtain ⟨ao3, cap3, rfl, hcap3, hrw3⟩ := hrow; have HL3 := Lib.hid (show LRow (New w2 w3) w3 (.slice ao3 l.length cap3) l from ⟨ao3, cap3, rfl, hcap3, hrw3⟩); have HB3 := Lib.hid hb; clear hb hcap3 hrw3; have hvb3 := KV.out _ (HB2.out.trans (HB3.out.mono HB2.out.size)); have v0 := cell_of_row w3 vb 0 _ _ _ hvb3; have v1 := cell_of_row w3 vb 1 _ _ _ hvb3; have v2 := cell_of_row w3 vb 2 _ _ _ hvb3; have vf0 := frozen_of_row w3 vb 0 _ _ hvb3; have vf1 := frozen_of_row w3 vb 1 _ _ hvb3; have vf2 := frozen_of_row w3 vb 2 _ _ hvb3; have HV3 := Lib.hid hvb3; clear hvb3; simp at v0 v1 v2))
 have B3 := Lib.hid (B1.out.trans ((HB2.out.trans (HB3.out.mono HB2.out.size)).mono B1.out.size))
 have hvw : w.heap.size ≤ vb := by rw [HVB.out]; exact Nat.le_refl _
 refine bodyPost_ret (results_row_tmp rfl _ _ vb _ _ _ _ rfl (set3 HV3.out) Tryz.underlying120 rfl (by kernel_rfl)) rfl ⟨.slice ao3 l.length cap3, by rw [← HDV.out, ← HE.out]; rfl, ?_, below3 B3.out hvw _ _ _⟩
 have hvl1 : vb < w1.heap.size := (Array.getElem?_eq_some_iff.1 R1.out).1
 have s1 := HB1.out.size
 have s2 := HB2.out.size
 have s0 := HB0.out.size
 refine (HL3.out.kept (fun g cur fr hr hc => ?_)).mono (fun k hk => ⟨by have := hk.1; omega, by have := hk.2; simpa [World.setCell] using this⟩)
 have h1 := hr.1
 have hg : g ≠ vb := by omega
 rw [Below.heap_setCell _ ⟨vb, 2, none⟩ _ g hg, Below.heap_setCell _ ⟨vb, 1, none⟩ _ g hg, Below.heap_setCell _ ⟨vb, 0, none⟩ _ g hg]


set_option maxRecDepth 100000 in
set_option maxHeartbeats 4000000 in
theorem begin_row {R : Nat → Prop} {w : World} {x : Nat} {p : Ptr} {s : StB} {v : Value} {l : List ByteArray} (h : NodeP R w x p s) (hv : LRowG w v l) (hl : l.length ≤ 60) (hG : Glob w) (hI : NumI s) (hdc : s.isDec s.height = false) (hO : s.own = none) :
  Calls Tryz.prog 16 #[pv x, iv s.height, v] w fun e w' => e = .returned (errE (s.begin s.height (ascS l) (digV l) l).2) ∧ Turned R w x (s.begin s.height (ascS l) (digV l) l).1 w' := by
 have H := Lib.hid h
 have NV := Lib.hid (newValue_row hv hl hG (-1))
 have HI := Lib.hid hI
 have i0 := hI.h0
 have i1 := hI.h1
 clear h hv hG hI
 obtain ⟨dv, hdv⟩ : ∃ dv, dv = digV l := ⟨_, rfl⟩
 obtain ⟨av, hav⟩ : ∃ av, av = ascS l := ⟨_, rfl⟩
 rw [← hdv, ← hav] at NV ⊢
 clear hdv hav
 unfold pv iv at *
 go_enter Tryz.func16, Tryz.ntmps16
 go_upto_region 4 with (go_at_call 62; refine NV.out.mono ?_; rintro e w1 ⟨u, rfl, hrow, hb⟩; obtain ⟨ao, cap, rfl, hcap, hrw⟩ := hrow; have HLV := Lib.hid (show LRow (New w w1) w1 (.slice ao l.length cap) l from ⟨ao, cap, rfl, hcap, hrw⟩); have HB1 := Lib.hid hb; clear hb hcap hrw)
 obtain ⟨w3, hw3⟩ : ∃ w3, w3 = w1.alloc (.cells #[.int .i64 (-1), .string dv, .slice ao l.length cap] 120) := ⟨_, rfl⟩
 have HB3 := Lib.hid (show Below w.heap.size w w3 from by rw [hw3]; exact HB1.out.alloc HB1.out.size _)
 have HB13 := Lib.hid (show Below w1.heap.size w1 w3 from by rw [hw3]; exact (Below.refl _ _).alloc (Nat.le_refl _) _)
 have HVR := Lib.hid (show w3.heap[w1.heap.size]? = some (.cells #[.int .i64 (-1), .string dv, .slice ao l.length cap] 120 (0, 0)) from by rw [hw3]; exact World.alloc_heap_new w1 _)
 have HS3 := Lib.hid (show w3.heap.size = w1.heap.size + 1 from by rw [hw3]; simp)
 rw [← hw3]
 clear hw3
 obtain ⟨vb, hvb⟩ : ∃ vb, vb = w1.heap.size := ⟨_, rfl⟩
 have HVB := Lib.hid hvb
 rw [← hvb] at HVR ⊢
 clear hvb
 have HL3 := Lib.hid (show LRow (New w w3) w3 (.slice ao l.length cap) l from (HLV.out.kept (fun g cur fr hr _ => HB13.out.block g hr.2)).mono (fun k hk => ⟨hk.1, by have := hk.2; have := HS3.out; omega⟩))
 have HN3 := Lib.hid (H.out.below HB3.out)
 have HNM := Lib.hid (show NodeP (fun k => R k ∨ New w w3 k) w3 x p s from HN3.out.mono (fun k hk => .inl hk) (fun k hk => by
  rcases hk with hk | hk
  ·exact HN3.out.lt k hk
  ·exact hk.2))
 have HVN := Lib.hid (show New w w3 vb from ⟨by rw [HVB.out]; exact HB1.out.size, by rw [HVB.out, HS3.out]; omega⟩)
 have ID := Lib.hid (fun (k : Int) W (hW : Below w3.heap.size w3 W) => isDecided_any (HN3.out.below hW) k)
 have d0 := HN3.out.nc.c0
 unfold pv iv at ID
 have HGN := Lib.hid (show Grows R (fun k => R k ∨ New w w3 k) w from ⟨fun k hk => .inl hk, fun k hk => by
  rcases hk with hk | hk
  ·exact .inl hk
  ·exact .inr hk.1⟩)
 have hp : p.own = none := by
  have hl := H.out.rest.own
  rcases hp : p.own with _ | g
  ·rfl
  ·rw [hp, hO] at hl; exact hl.elim
 have ho := hO
 ·have HDC := Lib.hid hdc
  have ID1 := Lib.hid (ID.out s.height w3 (Below.refl _ _))
  rw [hdc] at ID1
  clear hdc
  go_upto_region 6 with (go_at_call 63; refine ID1.out.mono ?_; rintro e w4 ⟨rfl, hb⟩; have HB4 := Lib.hid hb; clear hb)
  have HN4 := Lib.hid (HN3.out.below HB4.out)
  have d0 := HN4.out.nc.c0
  have d7 := HN4.out.nc.c7
  rcases av with _ | _
  ·have HE := Lib.hid (begin_bad (s := s) (h := s.height) (d := dv) (l := l))
   go_wp2
   go_ret
   rw [HE.out]
   exact ⟨rfl, Turned.of (H.out.below (HB3.out.trans (HB4.out.mono HB3.out.size))) (Chg.of_below (HB3.out.trans (HB4.out.mono HB3.out.size)) (fun k q1 q2 => by omega))⟩
  ·skip
   ··rw [hp] at d7
     unfold po at d7
     have HE := Lib.hid (begin_b (s := s) (h := s.height) (d := dv) (l := l) rfl HDC.out (by rw [ho]; rfl))
     have HNW := Lib.hid (HNM.out.below HB4.out)
     have HRV := Lib.hid (show (R vb ∨ New w w3 vb) from .inr HVN.out)
     have HVW := Lib.hid ((HB4.out.block vb HVN.out.2).trans HVR.out)
     have HLW := Lib.hid (show LRow (fun k => R k ∨ New w w3 k) w4 (.slice ao l.length cap) l from (HL3.out.mono (fun k hk => .inr hk)).below HNM.out.lt HB4.out)
     have HCR := Lib.hid (show Chg R w w4 from Chg.of_below (HB3.out.trans (HB4.out.mono HB3.out.size)) (fun k q1 q2 => by omega))
     have HGW := HGN
     have HNE := Lib.hid (show vb ≠ x from fun e => by
      have q1 := H.out.lt x H.out.mem
      have q2 := HVN.out.1
      omega)
     have HNL := Lib.hid (HNW.out.put_own (g := vb) (v := ⟨-1, dv, l⟩) HRV.out HVW.out HLW.out)
     unfold pv at HNL
     obtain ⟨wl, hwl⟩ : ∃ wl, wl = w4.setCell ⟨x, 7, none⟩ (.pointer (some ⟨vb, 0, none⟩)) := ⟨_, rfl⟩
     have HVL := Lib.hid (show wl.heap[vb]? = some (.cells #[.int .i64 (-1), .string dv, .slice ao l.length cap] 120 (0, 0)) from by rw [hwl, Below.heap_setCell w4 ⟨x, 7, none⟩ _ vb HNE.out]; exact HVW.out)
     have HCW := Lib.hid (show Chg (fun k => R k ∨ New w w3 k) w4 wl from by rw [hwl]; exact Chg.set w4 x 7 _ HNW.out.mem)
     rw [← hwl] at HNL
     have f7 := HNW.out.nc.c7
     have ffz := HNW.out.nc.fz
     go_upto_region 12 with (fail)
     rw [← hwl]
     clear hwl f7 ffz
     obtain ⟨ob, hup, hnf⟩ := HNL.out.drew.lay_acc dv
     have HNF := Lib.hid hnf
     have f8 := HNL.out.nc.c8
     have v1 := cell_of_row wl vb 1 _ _ _ HVL.out
     have HAM := Lib.hid (HNL.out.maps.own p.acc (by simp [Ptr.maps]))
     simp at v1
     clear hnf
     go_region
     all_goals (
      go_wp2
      go_ret
      rw [HE.out]
      refine ⟨rfl, _, (fun k => R k ∨ New w w3 k), HNF.out, ?_, HGW.out⟩
      exact HCR.out.trans ((HCW.out.trans (((Chg.drew (fun k => R k ∨ New w w3 k) wl).trans ((Chg.put wl.drew p.acc ob HAM.out).mono (fun k _ hk => .inl hk))).mono (fun k _ hk => .inl hk))).mono (fun k _ hk => HGW.out.2 k hk)))

set_option maxRecDepth 100000 in
set_option maxHeartbeats 4000000 in
theorem valid_row {w : World} {v : Value} {m : MsgB} (h : ∃ sl, v = .agg (encM m sl) ∧ LRowG w sl m.list) (hl : m.list.length ≤ 60) (hG : m.kind = 3 → Glob w) :
  Calls Tryz.prog 19 #[v] w fun e w' => e = .returned (.bool (validB m)) ∧ Below w.heap.size w w' := by
 obtain ⟨sl, rfl, ao, cap, rfl, hcap, hrow⟩ := h
 obtain ⟨mb, hmb⟩ : ∃ mb, mb = w.heap.size := ⟨_, rfl⟩
 have HMB := Lib.hid hmb
 have HB0 := Lib.hid ((Below.refl _ w).alloc (Nat.le_refl _) (.cells (encM m (.slice ao m.list.length cap)) 36))
 have HR0 := Lib.hid (World.alloc_heap_new w (.cells (encM m (.slice ao m.list.length cap)) 36))
 have HL := Lib.hid (show LRowG w (.slice ao m.list.length cap) m.list from ⟨ao, cap, rfl, hcap, hrow⟩)
 have HG := Lib.hid hG
 have SI := Lib.hid isSite_any
 have VO := Lib.hid isVote_any
 have HCP := Lib.hid hcap
 clear hrow hcap hmb hG
 unfold encM iv at *
 go_enter Tryz.func19, Tryz.ntmps19
 go_upto_region 1 with (fail)
 obtain ⟨wa, hwa⟩ : ∃ wa, wa = w.alloc (.cells #[.int .i64 m.kind, .int .i64 m.frm, .int .i64 m.to, .int .i64 m.height, .int .i64 m.round, .int .i64 m.valid, .string m.dig, .slice ao m.list.length cap] 36) := ⟨_, rfl⟩
 rw [← HMB.out] at HR0 ⊢
 rw [← hwa] at HB0 HR0 ⊢
 clear hwa
 have MR := MRow.of HR0.out
 go_cut [24] (fun t wc => t = .bool (!(sitesB m)) ∧ wc = wa)
 case first =>
  obtain ⟨c0, c1, c2, c3, c4, c5, c6, c7, fz⟩ := MR
  have S1 := Lib.hid (isSite_any m.frm wa)
  have S2 := Lib.hid (isSite_any m.to wa)
  clear SI VO
  rcases ha : siteB m.frm with _ | _
  ·have HE := Lib.hid (show sitesB m = false from by unfold sitesB; rw [ha]; rfl)
   rw [ha] at S1
   clear ha
   go_wp2_with (go_at_call 68; refine (S1.out).mono ?_; rintro _ _ ⟨rfl, rfl⟩)
   go_meet
   rw [HE.out]; exact ⟨rfl, rfl⟩
  ·rw [ha] at S1
   rcases hb : siteB m.to with _ | _
   ·have HE := Lib.hid (show sitesB m = false from by unfold sitesB; rw [ha, hb]; rfl)
    rw [hb] at S2
    clear ha hb
    go_wp2_with (go_at_call 68; first | (refine (S1.out).mono ?_; rintro _ _ ⟨rfl, rfl⟩) | (refine (S2.out).mono ?_; rintro _ _ ⟨rfl, rfl⟩))
    go_meet
    rw [HE.out]; exact ⟨rfl, rfl⟩
   ·have HE := Lib.hid (show sitesB m = !(m.frm == m.to) from by unfold sitesB; rw [ha, hb]; rfl)
    rw [hb] at S2
    clear ha hb
    go_wp2_with (go_at_call 68; first | (refine (S1.out).mono ?_; rintro _ _ ⟨rfl, rfl⟩) | (refine (S2.out).mono ?_; rintro _ _ ⟨rfl, rfl⟩))
    go_meet
    rw [HE.out]; exact ⟨by simp, rfl⟩
 case rest =>
  obtain ⟨rfl, hw⟩ := hcut
  rw [hw]
  clear hw
  rcases hs : sitesB m with _ | _
  ·have HE := Lib.hid (show validB m = false from by unfold validB; rw [hs]; rfl)
   clear hs
   go_wp2
   go_ret
   rw [HE.out]
   exact ⟨rfl, HB0.out⟩
  ·have HSB := Lib.hid hs
   clear hs
   go_upto_region 3 with (fail)
   go_cut [3] (fun t wc => t = .bool (placedB m) ∧ wc = wa)
   case first =>
    obtain ⟨c0, c1, c2, c3, c4, c5, c6, c7, fz⟩ := MR
    clear SI VO
    by_cases g1 : 0 ≤ m.height
    case' neg => have HE := Lib.hid (show placedB m = false from by unfold placedB; simp [g1])
    case' pos =>
     by_cases g2 : m.height < 1200
     case' neg => have HE := Lib.hid (show placedB m = false from by unfold placedB; simp [g2])
     case' pos =>
      by_cases g3 : 0 ≤ m.round
      case' neg => have HE := Lib.hid (show placedB m = false from by unfold placedB; simp [g3])
      case' pos => have HE := Lib.hid (show placedB m = decide (m.round < 100) from by unfold placedB; simp [g1, g2, g3])
    all_goals (go_wp2; go_meet; rw [HE.out]; exact ⟨rfl, rfl⟩)
   case rest =>
    obtain ⟨rfl, hw⟩ := hcut
    rw [hw]
    clear hw
    go_upto_region 4 with (fail)
    go_cut [4] (fun t wc => t = .bool (plainB m) ∧ wc = wa)
    case first =>
     obtain ⟨c0, c1, c2, c3, c4, c5, c6, c7, fz⟩ := MR
     clear SI VO
     by_cases g1 : m.height = 0
     case' neg =>
      have n1 : (m.height == 0) = false := by simpa using g1
      have HE := Lib.hid (show plainB m = false from by unfold plainB; rw [n1]; rfl)
     case' pos =>
      have n1 : (m.height == 0) = true := by simpa using g1
      by_cases g2 : m.round = 0
      case' neg =>
       have n2 : (m.round == 0) = false := by simpa using g2
       have HE := Lib.hid (show plainB m = false from by unfold plainB; rw [n1, n2]; rfl)
      case' pos =>
       have n2 : (m.round == 0) = true := by simpa using g2
       by_cases g3 : m.valid = 0
       case' neg =>
        have n3 : (m.valid == 0) = false := by simpa using g3
        have HE := Lib.hid (show plainB m = false from by unfold plainB; rw [n1, n2, n3]; rfl)
       case' pos =>
        have n3 : (m.valid == 0) = true := by simpa using g3
        have HE := Lib.hid (show plainB m = m.dig.toList.isEmpty from by unfold plainB; rw [n1, n2, n3]; rfl)
     all_goals (go_wp2; go_meet; rw [HE.out]; exact ⟨by simp, rfl⟩)
    case rest =>
     obtain ⟨rfl, hw⟩ := hcut
     rw [hw]
     clear hw
     have HRK := Lib.hid (show RowK 1 encT wa ao m.list from by
      obtain ⟨ao', cap', e, _, q⟩ := (HL.out.later HB0.out)
      cases e; exact q)
     by_cases k1 : m.kind = 1
     ·have e1 : (m.kind == 1) = true := by simpa using k1
      have HV := Lib.hid (show validB m = factsOk m from by unfold validB; rw [HSB.out, if_pos k1]; rfl)
      have CT := Lib.hid (containsBad_any ao _ cap m.list wa rfl (by omega) HRK.out)
      obtain ⟨c0, c1, c2, c3, c4, c5, c6, c7, fz⟩ := MR
      clear k1 SI VO
      unfold badV at CT
      rcases hp : plainB m with _ | _
      case' false => have HE := Lib.hid (show validB m = false from by rw [HV.out]; unfold factsOk; rw [hp]; rfl)
      case' true =>
       rcases hb : m.list.any badB with _ | _
       case' true => have HE := Lib.hid (show validB m = false from by rw [HV.out]; unfold factsOk; rw [all_bad, hb]; simp)
       case' false =>
        by_cases h1 : (1 : Int) ≤ (m.list.length : Int)
        case' neg => have HE := Lib.hid (show validB m = false from by rw [HV.out]; unfold factsOk; rw [decide_eq_false (p := 1 ≤ m.list.length) (by omega)]; simp)
        case' pos => have HE := Lib.hid (show validB m = decide ((m.list.length : Int) ≤ 100) from by
         rw [HV.out]; unfold factsOk; rw [hp, all_bad, hb, decide_eq_true (p := 1 ≤ m.list.length) (by omega)]
         simp only [Bool.not_false, Bool.true_and, decide_eq_decide]; omega)
      all_goals (
       try rw [hb] at CT
       clear hp
       go_wp2_with (go_at_call 69; refine CT.out.mono ?_; rintro _ _ ⟨rfl, rfl⟩)
       go_ret
       rw [HE.out]
       exact ⟨rfl, HB0.out⟩)
     ·have e1 : (m.kind == 1) = false := by simpa using k1
      by_cases k2 : m.kind = 2
      ·have e2 : (m.kind == 2) = true := by simpa using k2
       have HV := Lib.hid (show validB m = wantOk m from by unfold validB; rw [HSB.out, if_neg k1, if_pos k2]; rfl)
       have AS := Lib.hid (ascending_any ao _ cap m.list wa rfl hl HRK.out)
       obtain ⟨c0, c1, c2, c3, c4, c5, c6, c7, fz⟩ := MR
       clear k1 k2 SI VO
       rcases hp : plainB m with _ | _
       case' false => have HE := Lib.hid (show validB m = false from by rw [HV.out]; unfold wantOk; rw [hp]; rfl)
       case' true =>
        by_cases h1 : (1 : Int) ≤ (m.list.length : Int)
        case' neg => have HE := Lib.hid (show validB m = false from by rw [HV.out]; unfold wantOk; rw [decide_eq_false (p := 1 ≤ m.list.length) (by omega)]; simp)
        case' pos => have HE := Lib.hid (show validB m = ascS m.list from by rw [HV.out]; unfold wantOk; rw [hp, decide_eq_true (p := 1 ≤ m.list.length) (by omega)]; rfl)
       all_goals (
        clear hp
        go_wp2_with (go_at_call 71; refine AS.out.mono ?_; rintro _ _ ⟨rfl, rfl⟩)
        go_ret
        rw [HE.out]
        exact ⟨rfl, HB0.out⟩)
      ·have e2 : (m.kind == 2) = false := by simpa using k2
       by_cases k3 : m.kind = 3
       ·have e3 : (m.kind == 3) = true := by simpa using k3
        have HV := Lib.hid (show validB m = propOk m from by unfold validB; rw [HSB.out, if_neg k1, if_neg k2, if_pos k3]; rfl)
        have HGL := Lib.hid (HG.out k3)
        have VA := Lib.hid (value_any ao _ cap m.list wa rfl hl HCP.out HRK.out)
        obtain ⟨sv, hsv⟩ : ∃ sv, sv = (if ascS m.list = true then valS m.list else ByteArray.empty) := ⟨_, rfl⟩
        obtain ⟨er, her⟩ : ∃ er, er = errS (ascS m.list) := ⟨_, rfl⟩
        rw [← hsv, ← her] at VA
        have HSV := Lib.hid hsv
        have HER := Lib.hid her
        clear hsv her
        obtain ⟨c0, c1, c2, c3, c4, c5, c6, c7, fz⟩ := MR
        clear k1 k2 k3 SI VO
        go_upto_region 12 with (go_at_call 57; refine VA.out.mono ?_; rintro _ w1 ⟨rfl, hb⟩; have HB1 := Lib.hid hb; clear hb)
        have HBW := Lib.hid (HB0.out.trans (HB1.out.mono HB0.out.size))
        have HR1 := Lib.hid ((HB1.out.block mb (Array.getElem?_eq_some_iff.1 HR0.out).1).trans HR0.out)
        have SU := Lib.hid (fun (h : ascS m.list = true) => sum_any (valS m.list) w1.drew (Nat.le_trans (valS_size h hl) (by decide)) ((HGL.out.later HBW.out).later ((Below.refl _ w1).drew)))
        clear c0 c1 c2 c3 c4 c5 c6 c7 fz
        obtain ⟨c0, c1, c2, c3, c4, c5, c6, c7, fz⟩ := MRow.of HR1.out
        rcases hp : placedB m with _ | _
        case' false => have HE := Lib.hid (show validB m = false from by rw [HV.out]; unfold propOk; rw [hp]; rfl)
        case' true =>
         rcases ha : ascS m.list with _ | _
         case' false =>
          have HE := Lib.hid (show validB m = false from by rw [HV.out]; unfold propOk; rw [ha]; simp)
          have her := HER.out
          rw [ha] at her
          subst her
          rw [show errS false = 250 from rfl]
         case' true =>
          have her := HER.out
          have hsv := HSV.out
          rw [ha] at her hsv
          rw [if_pos rfl] at hsv
          subst her
          subst hsv
          rw [show errS true = 0 from rfl]
          by_cases h1 : -1 ≤ m.valid
          case' neg =>
           have n1 : decide (-1 ≤ m.valid) = false := by simpa using h1
           have HE := Lib.hid (show validB m = false from by rw [HV.out]; unfold propOk; rw [n1]; simp)
          case' pos =>
           have n1 : decide (-1 ≤ m.valid) = true := by simpa using h1
           by_cases h2 : m.valid < m.round
           case' neg =>
            have n2 : decide (m.valid < m.round) = false := by simpa using h2
            have HE := Lib.hid (show validB m = false from by rw [HV.out]; unfold propOk; rw [n2]; simp)
           case' pos =>
            have n2 : decide (m.valid < m.round) = true := by simpa using h2
            have HE := Lib.hid (show validB m = (m.dig.toList == (digS m.list).toList) from by rw [HV.out]; unfold propOk; rw [hp, ha, n1, n2]; rfl)
            have hmb1 : mb < w1.heap.size := (Array.getElem?_eq_some_iff.1 HR1.out).1
            have hsz := Nat.le_trans (valS_size ha hl) (show 6001 ≤ 1000000 by decide)
            have hglb := HGL.out.later HBW.out
            have KEEP := Lib.hid (show ∀ W, Below w1.heap.size w1 W → W.cell? ⟨mb, 4, none⟩ = some (.int .i64 m.round) ∧ W.cell? ⟨mb, 5, none⟩ = some (.int .i64 m.valid) ∧ W.cell? ⟨mb, 6, none⟩ = some (.string m.dig) ∧ Below w1.heap.size w1 W from fun W h => ⟨by rw [h.cell (p := ⟨mb, 4, none⟩) hmb1]; exact c4, by rw [h.cell (p := ⟨mb, 5, none⟩) hmb1]; exact c5, by rw [h.cell (p := ⟨mb, 6, none⟩) hmb1]; exact c6, h⟩)
            have SUM := Lib.hid (show ∀ W, Below w1.heap.size w1 W → Calls Tryz.prog 72 #[.string (valS m.list)] W fun e w' => e = .returned (.string (digS m.list)) ∧ Below w1.heap.size w1 w' from fun W h => (sum_any (valS m.list) W hsz (hglb.later h)).mono (fun e w' q => ⟨q.1, h.trans (q.2.mono h.size)⟩))
            clear hsz hglb hmb1 h1 h2 ha hp HB1 SU
            go_region_held3 (fun w' => w'.cell? ⟨mb, 4, none⟩ = some (.int .i64 m.round) ∧ w'.cell? ⟨mb, 5, none⟩ = some (.int .i64 m.valid) ∧ w'.cell? ⟨mb, 6, none⟩ = some (.string m.dig) ∧ Below w1.heap.size w1 w')
             (first | (exact KEEP.out _ E1) | (exact KEEP.out _ ((Below.refl _ w1).drew)) | (go_split_ands; exact ⟨by assumption, by assumption, by assumption, by assumption⟩))
             (first | (go_at_call 72; refine (SUM.out _ ?_).mono ?_; (go_split_ands; assumption); rintro e w2 ⟨rfl, hb⟩; have E1 := hb; clear hb))
            go_wp2
            go_ret
            rw [HE.out]
            exact ⟨rfl, HBW.out.trans (E1.mono HBW.out.size)⟩
        all_goals (
         go_quiet (fail)
         go_wp2
         go_ret
         rw [HE.out]
         exact ⟨rfl, below_drewN HBW.out _⟩)
       ·have e3 : (m.kind == 3) = false := by simpa using k3
        have HV := Lib.hid (show validB m = (voteB m.kind && voteOk m) from by unfold validB; rw [HSB.out, if_neg k1, if_neg k2, if_neg k3]; rfl)
        have V1 := Lib.hid (isVote_any m.kind wa)
        obtain ⟨c0, c1, c2, c3, c4, c5, c6, c7, fz⟩ := MR
        clear k1 k2 k3 SI VO
        rcases hv : voteB m.kind with _ | _
        case' false => have HE := Lib.hid (show validB m = false from by rw [HV.out, hv]; rfl)
        case' true =>
         rcases hp : placedB m with _ | _
         case' false => have HE := Lib.hid (show validB m = false from by rw [HV.out]; unfold voteOk; rw [hp]; simp)
         case' true =>
          by_cases h1 : m.valid = 0
          case' neg =>
           have n1 : (m.valid == 0) = false := by simpa using h1
           have HE := Lib.hid (show validB m = false from by rw [HV.out]; unfold voteOk; rw [n1]; simp)
          case' pos =>
           have n1 : (m.valid == 0) = true := by simpa using h1
           by_cases h2 : m.list.length = 0
           case' neg =>
            have n2 : ((m.list.length : Int) == 0) = false := by rw [beq_eq_false_iff_ne]; omega
            have HE := Lib.hid (show validB m = false from by rw [HV.out]; unfold voteOk; rw [beq_eq_false_iff_ne.2 h2]; simp)
           case' pos =>
            have n2 : ((m.list.length : Int) == 0) = true := by rw [beq_iff_eq]; omega
            rcases h3 : m.dig.toList.isEmpty with _ | _
            case' true => have HE := Lib.hid (show validB m = true from by rw [HV.out, hv]; unfold voteOk; rw [hp, n1, h3, h2]; rfl)
            case' false => have HE := Lib.hid (show validB m = ((m.dig.size : Int) == 32) from by
             rw [HV.out, hv]; unfold voteOk; rw [hp, n1, h3, h2]
             simp only [Bool.true_and, Bool.false_or, beq_self_eq_true]
             rw [Bool.eq_iff_iff, beq_iff_eq, beq_iff_eq]; omega)
        all_goals (
         rw [hv] at V1
         clear hv
         go_wp2_with (go_at_call 73; refine V1.out.mono ?_; rintro _ _ ⟨rfl, rfl⟩)
         go_ret
         rw [HE.out]
         exact ⟨rfl, HB0.out⟩)


set_option maxRecDepth 100000 in
set_option maxHeartbeats 4000000 in
theorem receive_bad {R : Nat → Prop} {w : World} {x : Nat} {p : Ptr} {s : StB} {v : Value} {m : MsgB} (h : NodeP R w x p s) (hm : ∃ sl, v = .agg (encM m sl) ∧ LRowG w sl m.list) (hl : m.list.length ≤ 60) (hG : Glob w) (hb : badM s m = true) :
  Calls Tryz.prog 20 #[pv x, v] w fun e w' => e = .returned (.tuple #[]) ∧ Below w.heap.size w w' := by
 obtain ⟨sl, rfl, ao, cap, rfl, hcap, hrow⟩ := hm
 obtain ⟨mb, hmb⟩ : ∃ mb, mb = w.heap.size := ⟨_, rfl⟩
 have HMB := Lib.hid hmb
 have H := Lib.hid h
 have HG := Lib.hid hG
 have HB0 := Lib.hid ((Below.refl _ w).alloc (Nat.le_refl _) (.cells (encM m (.slice ao m.list.length cap)) 36))
 have HR0 := Lib.hid (World.alloc_heap_new w (.cells (encM m (.slice ao m.list.length cap)) 36))
 have HL := Lib.hid (show LRowG w (.slice ao m.list.length cap) m.list from ⟨ao, cap, rfl, hcap, hrow⟩)
 have VA := Lib.hid (fun W (hW : Below w.heap.size w W) => (valid_row (m := m) (v := .agg (encM m (.slice ao m.list.length cap))) ⟨_, rfl, HL.out.later hW⟩ hl (fun _ => hG.later hW)).mono (fun e w' q => show e = .returned (.bool (validB m)) ∧ Below W.heap.size W w' from ⟨q.1, q.2⟩))
 clear hrow hcap hmb h hG
 unfold encM iv pv at *
 go_enter Tryz.func20, Tryz.ntmps20
 go_upto_region 1 with (fail)
 obtain ⟨wa, hwa⟩ : ∃ wa, wa = w.alloc (.cells #[.int .i64 m.kind, .int .i64 m.frm, .int .i64 m.to, .int .i64 m.height, .int .i64 m.round, .int .i64 m.valid, .string m.dig, .slice ao m.list.length cap] 36) := ⟨_, rfl⟩
 rw [← HMB.out] at HR0 ⊢
 rw [← hwa] at HB0 HR0 ⊢
 clear hwa
 have HN0 := Lib.hid (H.out.below HB0.out)
 have HBD := Lib.hid hb
 clear hb
 go_cut [38] (fun t wc => t = .bool true ∧ Below wa.heap.size wa wc)
 case first =>
  obtain ⟨c0, c1, c2, c3, c4, c5, c6, c7, fz⟩ := MRow.of HR0.out
  have VB := Lib.hid (show ∀ W, Below wa.heap.size wa W → Calls Tryz.prog 19 #[.agg #[.int .i64 m.kind, .int .i64 m.frm, .int .i64 m.to, .int .i64 m.height, .int .i64 m.round, .int .i64 m.valid, .string m.dig, .slice ao m.list.length cap]] W fun e w' => e = .returned (.bool (validB m)) ∧ Below wa.heap.size wa w' from fun W hW => (VA.out W (HB0.out.trans (hW.mono HB0.out.size))).mono (fun e w' q => ⟨q.1, hW.trans (q.2.mono hW.size)⟩))
  have KEEP := Lib.hid (show ∀ W, Below wa.heap.size wa W → W.cell? ⟨mb, 0, none⟩ = some (.int .i64 m.kind) ∧ W.cell? ⟨mb, 1, none⟩ = some (.int .i64 m.frm) ∧ W.cell? ⟨mb, 2, none⟩ = some (.int .i64 m.to) ∧ W.cell? ⟨mb, 3, none⟩ = some (.int .i64 m.height) ∧ W.cell? ⟨mb, 4, none⟩ = some (.int .i64 m.round) ∧ W.cell? ⟨mb, 5, none⟩ = some (.int .i64 m.valid) ∧ W.cell? ⟨mb, 6, none⟩ = some (.string m.dig) ∧ W.cell? ⟨mb, 7, none⟩ = some (.slice ao m.list.length cap) ∧ W.cell? ⟨x, 0, none⟩ = some (.int .i64 s.height) ∧ W.cell? ⟨x, 16, none⟩ = some (.int .i64 s.id) ∧ W.cell? ⟨x, 17, none⟩ = some (.int .i64 s.n) ∧ Below wa.heap.size wa W from fun W hW => by
   have hr := MRow.of ((hW.block mb (Array.getElem?_eq_some_iff.1 HR0.out).1).trans HR0.out)
   have hn := (HN0.out.below hW).nc
   exact ⟨hr.c0, hr.c1, hr.c2, hr.c3, hr.c4, hr.c5, hr.c6, hr.c7, hn.c0, hn.c16, hn.c17, hW⟩)
  rcases hv : validB m with _ | _
  ·rw [hv] at VB
   clear hv
   refine wp_region_held_drew (S := fun W => W.cell? ⟨mb, 0, none⟩ = some (.int .i64 m.kind) ∧ W.cell? ⟨mb, 1, none⟩ = some (.int .i64 m.frm) ∧ W.cell? ⟨mb, 2, none⟩ = some (.int .i64 m.to) ∧ W.cell? ⟨mb, 3, none⟩ = some (.int .i64 m.height) ∧ W.cell? ⟨mb, 4, none⟩ = some (.int .i64 m.round) ∧ W.cell? ⟨mb, 5, none⟩ = some (.int .i64 m.valid) ∧ W.cell? ⟨mb, 6, none⟩ = some (.string m.dig) ∧ W.cell? ⟨mb, 7, none⟩ = some (.slice ao m.list.length cap) ∧ W.cell? ⟨x, 0, none⟩ = some (.int .i64 s.height) ∧ W.cell? ⟨x, 16, none⟩ = some (.int .i64 s.id) ∧ W.cell? ⟨x, 17, none⟩ = some (.int .i64 s.n) ∧ Below wa.heap.size wa W) (by kernel_rfl) (KEEP.out _ (Below.refl _ wa).drew) (fun hHeld => ?_)
   refine hye (i := 0) (v := ?v1) hHeld ?h1 ?r1
   case h1 => (intro w hSw; (try dsimp only at hSw); (first | (go_simp; done) | (go_simp; with_reducible rfl)))
   try simp only [Act.put, List.setIfInBounds_toArray, List.set_cons_zero, List.set_cons_succ]
   refine hye (i := 1) (v := ?v2) hHeld ?h2 ?r2
   case h2 => (intro w hSw; (try dsimp only at hSw); (first | (go_simp; done) | (go_simp; with_reducible rfl)))
   try simp only [Act.put, List.setIfInBounds_toArray, List.set_cons_zero, List.set_cons_succ]
   refine hye (i := 2) (v := ?v3) hHeld ?h3 ?r3
   case h3 => (intro w hSw; (try dsimp only at hSw); (first | (go_simp; done) | (go_simp; with_reducible rfl)))
   try simp only [Act.put, List.setIfInBounds_toArray, List.set_cons_zero, List.set_cons_succ]
   refine hye (i := 3) (v := ?v4) hHeld ?h4 ?r4
   case h4 => (intro w hSw; (try dsimp only at hSw); (first | (go_simp; done) | (go_simp; with_reducible rfl)))
   try simp only [Act.put, List.setIfInBounds_toArray, List.set_cons_zero, List.set_cons_succ]
   refine wpAnyH_ready (rs := [4]) (by kernel_rfl) (by simp) ?_
   refine AllReadyH.cons (o := _) rfl (fun K hK => ?_) AllReadyH.nil
   go_simp
   go_at_call 19
   refine (VB.out _ (Below.refl _ wa).drew).mono ?_
   rintro e w2 ⟨rfl, hb⟩
   go_wp2_with fail
   have HE1 := Lib.hid hb
   clear hb hHeld
   refine hK.out _ _ (KEEP.out _ HE1.out) (fun hHeld => ?_)
   clear hK K
   try simp only [Act.put, List.setIfInBounds_toArray, List.set_cons_zero, List.set_cons_succ]
   refine hye (i := 5) (v := ?v5) hHeld ?h5 ?r5
   case h5 => (intro w hSw; (try dsimp only at hSw); (first | (go_simp; done) | (go_simp; with_reducible rfl)))
   try simp only [Act.put, List.setIfInBounds_toArray, List.set_cons_zero, List.set_cons_succ]
   refine hye (i := 6) (v := ?v6) hHeld ?h6 ?r6
   case h6 => (intro w hSw; (try dsimp only at hSw); (first | (go_simp; done) | (go_simp; with_reducible rfl)))
   try simp only [Act.put, List.setIfInBounds_toArray, List.set_cons_zero, List.set_cons_succ]
   refine hye (i := 7) (v := ?v7) hHeld ?h7 ?r7
   case h7 => (intro w hSw; (try dsimp only at hSw); (first | (go_simp; done) | (go_simp; with_reducible rfl)))
   try simp only [Act.put, List.setIfInBounds_toArray, List.set_cons_zero, List.set_cons_succ]
   refine hun (i := 8) hHeld (hun (i := 9) hHeld (hun (i := 10) hHeld (hun (i := 11) hHeld (hun (i := 12) hHeld (hun (i := 13) hHeld (hun (i := 14) hHeld (?_)))))))
   try simp only [Act.put, List.setIfInBounds_toArray, List.set_cons_zero, List.set_cons_succ]
   refine hye (i := 15) (v := ?v8) hHeld ?h8 ?r8
   case h8 => (intro w hSw; (try dsimp only at hSw); (first | (go_simp; done) | (go_simp; with_reducible rfl)))
   try simp only [Act.put, List.setIfInBounds_toArray, List.set_cons_zero, List.set_cons_succ]
   refine hye (i := 16) (v := ?v9) hHeld ?h9 ?r9
   case h9 => (intro w hSw; (try dsimp only at hSw); (first | (go_simp; done) | (go_simp; with_reducible rfl)))
   try simp only [Act.put, List.setIfInBounds_toArray, List.set_cons_zero, List.set_cons_succ]
   refine hun (i := 17) hHeld (hun (i := 18) hHeld (hun (i := 19) hHeld (hun (i := 20) hHeld (hun (i := 21) hHeld (hun (i := 22) hHeld (hun (i := 23) hHeld (?_)))))))
   try simp only [Act.put, List.setIfInBounds_toArray, List.set_cons_zero, List.set_cons_succ]
   refine hye (i := 24) (v := ?v10) hHeld ?h10 ?r10
   case h10 => (intro w hSw; (try dsimp only at hSw); (first | (go_simp; done) | (go_simp; with_reducible rfl)))
   try simp only [Act.put, List.setIfInBounds_toArray, List.set_cons_zero, List.set_cons_succ]
   refine hye (i := 25) (v := ?v11) hHeld ?h11 ?r11
   case h11 => (intro w hSw; (try dsimp only at hSw); (first | (go_simp; done) | (go_simp; with_reducible rfl)))
   try simp only [Act.put, List.setIfInBounds_toArray, List.set_cons_zero, List.set_cons_succ]
   refine hun (i := 26) hHeld (hun (i := 27) hHeld (hun (i := 28) hHeld (hun (i := 29) hHeld (hun (i := 30) hHeld (hun (i := 31) hHeld (hun (i := 32) hHeld (hun (i := 33) hHeld (?_))))))))
   try simp only [Act.put, List.getElem_toArray, List.getElem_cons_succ, List.getElem_cons_zero, List.setIfInBounds_toArray, List.set_cons_zero, List.set_cons_succ]
   refine hye (i := 34) (v := ?v12) hHeld ?h12 ?r12
   case h12 => (intro w hSw; (try dsimp only at hSw); (first | (go_simp; done) | (go_simp; with_reducible rfl)))
   try simp only [Act.put, List.getElem_toArray, List.getElem_cons_succ, List.getElem_cons_zero, List.setIfInBounds_toArray, List.set_cons_zero, List.set_cons_succ]
   refine wpAnyH_done (by kernel_rfl) ?_ _
   go_wp2_with fail
   go_meet
   exact ⟨rfl, HE1.out⟩
  ·rw [hv] at VB
   by_cases ht : m.to = s.id
   ·have n1 : (m.to != s.id) = false := by simpa using ht
    have n1b : (m.to == s.id) = true := by simpa using ht
    by_cases hf : s.n ≤ m.frm
    ·have n2 : decide (s.n ≤ m.frm) = true := by simpa using hf
     clear ht hf hv
     refine wp_region_held_drew (S := fun W => W.cell? ⟨mb, 0, none⟩ = some (.int .i64 m.kind) ∧ W.cell? ⟨mb, 1, none⟩ = some (.int .i64 m.frm) ∧ W.cell? ⟨mb, 2, none⟩ = some (.int .i64 m.to) ∧ W.cell? ⟨mb, 3, none⟩ = some (.int .i64 m.height) ∧ W.cell? ⟨mb, 4, none⟩ = some (.int .i64 m.round) ∧ W.cell? ⟨mb, 5, none⟩ = some (.int .i64 m.valid) ∧ W.cell? ⟨mb, 6, none⟩ = some (.string m.dig) ∧ W.cell? ⟨mb, 7, none⟩ = some (.slice ao m.list.length cap) ∧ W.cell? ⟨x, 0, none⟩ = some (.int .i64 s.height) ∧ W.cell? ⟨x, 16, none⟩ = some (.int .i64 s.id) ∧ W.cell? ⟨x, 17, none⟩ = some (.int .i64 s.n) ∧ Below wa.heap.size wa W) (by kernel_rfl) (KEEP.out _ (Below.refl _ wa).drew) (fun hHeld => ?_)
     refine hye (i := 0) (v := ?v13) hHeld ?h13 ?r13
     case h13 => (intro w hSw; (try dsimp only at hSw); (first | (go_simp; done) | (go_simp; with_reducible rfl)))
     try simp only [Act.put, List.setIfInBounds_toArray, List.set_cons_zero, List.set_cons_succ]
     refine hye (i := 1) (v := ?v14) hHeld ?h14 ?r14
     case h14 => (intro w hSw; (try dsimp only at hSw); (first | (go_simp; done) | (go_simp; with_reducible rfl)))
     try simp only [Act.put, List.setIfInBounds_toArray, List.set_cons_zero, List.set_cons_succ]
     refine hye (i := 2) (v := ?v15) hHeld ?h15 ?r15
     case h15 => (intro w hSw; (try dsimp only at hSw); (first | (go_simp; done) | (go_simp; with_reducible rfl)))
     try simp only [Act.put, List.setIfInBounds_toArray, List.set_cons_zero, List.set_cons_succ]
     refine hye (i := 3) (v := ?v16) hHeld ?h16 ?r16
     case h16 => (intro w hSw; (try dsimp only at hSw); (first | (go_simp; done) | (go_simp; with_reducible rfl)))
     try simp only [Act.put, List.setIfInBounds_toArray, List.set_cons_zero, List.set_cons_succ]
     refine wpAnyH_ready (rs := [4]) (by kernel_rfl) (by simp) ?_
     refine AllReadyH.cons (o := _) rfl (fun K hK => ?_) AllReadyH.nil
     go_simp
     go_at_call 19
     refine (VB.out _ (Below.refl _ wa).drew).mono ?_
     rintro e w2 ⟨rfl, hb⟩
     go_wp2_with fail
     have HE1 := Lib.hid hb
     clear hb hHeld
     refine hK.out _ _ (KEEP.out _ HE1.out) (fun hHeld => ?_)
     clear hK K
     try simp only [Act.put, List.setIfInBounds_toArray, List.set_cons_zero, List.set_cons_succ]
     refine hye (i := 5) (v := ?v17) hHeld ?h17 ?r17
     case h17 => (intro w hSw; (try dsimp only at hSw); (first | (go_simp; done) | (go_simp; with_reducible rfl)))
     try simp only [Act.put, List.setIfInBounds_toArray, List.set_cons_zero, List.set_cons_succ]
     refine hye (i := 6) (v := ?v18) hHeld ?h18 ?r18
     case h18 => (intro w hSw; (try dsimp only at hSw); (first | (go_simp; done) | (go_simp; with_reducible rfl)))
     try simp only [Act.put, List.setIfInBounds_toArray, List.set_cons_zero, List.set_cons_succ]
     refine hye (i := 7) (v := ?v19) hHeld ?h19 ?r19
     case h19 => (intro w hSw; (try dsimp only at hSw); (first | (go_simp; done) | (go_simp; with_reducible rfl)))
     try simp only [Act.put, List.setIfInBounds_toArray, List.set_cons_zero, List.set_cons_succ]
     refine hye (i := 8) (v := ?v20) hHeld ?h20 ?r20
     case h20 => (intro w hSw; (try dsimp only at hSw); (first | (go_simp; done) | (go_simp; with_reducible rfl)))
     try simp only [Act.put, List.setIfInBounds_toArray, List.set_cons_zero, List.set_cons_succ]
     refine hye (i := 9) (v := ?v21) hHeld ?h21 ?r21
     case h21 => (intro w hSw; (try dsimp only at hSw); (first | (go_simp; done) | (go_simp; with_reducible rfl)))
     try simp only [Act.put, List.setIfInBounds_toArray, List.set_cons_zero, List.set_cons_succ]
     refine hye (i := 10) (v := ?v22) hHeld ?h22 ?r22
     case h22 => (intro w hSw; (try dsimp only at hSw); (first | (go_simp; done) | (go_simp; with_reducible rfl)))
     try simp only [Act.put, List.setIfInBounds_toArray, List.set_cons_zero, List.set_cons_succ]
     refine hye (i := 11) (v := ?v23) hHeld ?h23 ?r23
     case h23 => (intro w hSw; (try dsimp only at hSw); (first | (go_simp; done) | (go_simp; with_reducible rfl)))
     try simp only [Act.put, List.setIfInBounds_toArray, List.set_cons_zero, List.set_cons_succ]
     refine hye (i := 12) (v := ?v24) hHeld ?h24 ?r24
     case h24 => (intro w hSw; (try dsimp only at hSw); (first | (go_simp; done) | (go_simp; with_reducible rfl)))
     try simp only [Act.put, List.setIfInBounds_toArray, List.set_cons_zero, List.set_cons_succ]
     refine hye (i := 13) (v := ?v25) hHeld ?h25 ?r25
     case h25 => (intro w hSw; (try dsimp only at hSw); (first | (go_simp; done) | (go_simp; with_reducible rfl)))
     try simp only [Act.put, List.setIfInBounds_toArray, List.set_cons_zero, List.set_cons_succ]
     refine hye (i := 14) (v := ?v26) hHeld ?h26 ?r26
     case h26 => (intro w hSw; (try dsimp only at hSw); (first | (go_simp; done) | (go_simp; with_reducible rfl)))
     try simp only [Act.put, List.setIfInBounds_toArray, List.set_cons_zero, List.set_cons_succ]
     refine hye (i := 15) (v := ?v27) hHeld ?h27 ?r27
     case h27 => (intro w hSw; (try dsimp only at hSw); (first | (go_simp; done) | (go_simp; with_reducible rfl)))
     try simp only [Act.put, List.setIfInBounds_toArray, List.set_cons_zero, List.set_cons_succ]
     refine hye (i := 16) (v := ?v28) hHeld ?h28 ?r28
     case h28 => (intro w hSw; (try dsimp only at hSw); (first | (go_simp; done) | (go_simp; with_reducible rfl)))
     try simp only [Act.put, List.setIfInBounds_toArray, List.set_cons_zero, List.set_cons_succ]
     refine hye (i := 17) (v := ?v29) hHeld ?h29 ?r29
     case h29 => (intro w hSw; (try dsimp only at hSw); (first | (go_simp; done) | (go_simp; with_reducible rfl)))
     try simp only [Act.put, List.setIfInBounds_toArray, List.set_cons_zero, List.set_cons_succ]
     refine hye (i := 18) (v := ?v30) hHeld ?h30 ?r30
     case h30 => (intro w hSw; (try dsimp only at hSw); (first | (go_simp; done) | (go_simp; with_reducible rfl)))
     try simp only [Act.put, List.setIfInBounds_toArray, List.set_cons_zero, List.set_cons_succ]
     refine hye (i := 19) (v := ?v31) hHeld ?h31 ?r31
     case h31 => (intro w hSw; (try dsimp only at hSw); (first | (go_simp; done) | (go_simp; with_reducible rfl)))
     try simp only [Act.put, List.setIfInBounds_toArray, List.set_cons_zero, List.set_cons_succ]
     refine hye (i := 20) (v := ?v32) hHeld ?h32 ?r32
     case h32 => (intro w hSw; (try dsimp only at hSw); (first | (go_simp; done) | (go_simp; with_reducible rfl)))
     try simp only [Act.put, List.setIfInBounds_toArray, List.set_cons_zero, List.set_cons_succ]
     refine hye (i := 21) (v := ?v33) hHeld ?h33 ?r33
     case h33 => (intro w hSw; (try dsimp only at hSw); (first | (go_simp; done) | (go_simp; with_reducible rfl)))
     try simp only [Act.put, List.setIfInBounds_toArray, List.set_cons_zero, List.set_cons_succ]
     refine hye (i := 22) (v := ?v34) hHeld ?h34 ?r34
     case h34 => (intro w hSw; (try dsimp only at hSw); (first | (go_simp; done) | (go_simp; with_reducible rfl)))
     try simp only [Act.put, List.setIfInBounds_toArray, List.set_cons_zero, List.set_cons_succ]
     refine hye (i := 23) (v := ?v35) hHeld ?h35 ?r35
     case h35 => (intro w hSw; (try dsimp only at hSw); (first | (go_simp; done) | (go_simp; with_reducible rfl)))
     try simp only [Act.put, List.setIfInBounds_toArray, List.set_cons_zero, List.set_cons_succ]
     refine hye (i := 24) (v := ?v36) hHeld ?h36 ?r36
     case h36 => (intro w hSw; (try dsimp only at hSw); (first | (go_simp; done) | (go_simp; with_reducible rfl)))
     try simp only [Act.put, List.setIfInBounds_toArray, List.set_cons_zero, List.set_cons_succ]
     refine hye (i := 25) (v := ?v37) hHeld ?h37 ?r37
     case h37 => (intro w hSw; (try dsimp only at hSw); (first | (go_simp; done) | (go_simp; with_reducible rfl)))
     try simp only [Act.put, List.setIfInBounds_toArray, List.set_cons_zero, List.set_cons_succ]
     refine hun (i := 26) hHeld (hun (i := 27) hHeld (hun (i := 28) hHeld (hun (i := 29) hHeld (hun (i := 30) hHeld (hun (i := 31) hHeld (hun (i := 32) hHeld (hun (i := 33) hHeld (?_))))))))
     try simp only [Act.put, List.getElem_toArray, List.getElem_cons_succ, List.getElem_cons_zero, List.setIfInBounds_toArray, List.set_cons_zero, List.set_cons_succ]
     refine hye (i := 34) (v := ?v38) hHeld ?h38 ?r38
     case h38 => (intro w hSw; (try dsimp only at hSw); (first | (go_simp; done) | (go_simp; with_reducible rfl)))
     try simp only [Act.put, List.getElem_toArray, List.getElem_cons_succ, List.getElem_cons_zero, List.setIfInBounds_toArray, List.set_cons_zero, List.set_cons_succ]
     refine wpAnyH_done (by kernel_rfl) ?_ _
     go_wp2_with fail
     go_meet
     exact ⟨rfl, HE1.out⟩
    ·have n2 : decide (s.n ≤ m.frm) = false := by simpa using hf
     have n3 : decide (s.height < m.height) = true := by
      have hb := HBD.out
      unfold badM at hb
      rw [hv, n1b, n2] at hb
      simpa using hb
     clear ht hf hv
     refine wp_region_held_drew (S := fun W => W.cell? ⟨mb, 0, none⟩ = some (.int .i64 m.kind) ∧ W.cell? ⟨mb, 1, none⟩ = some (.int .i64 m.frm) ∧ W.cell? ⟨mb, 2, none⟩ = some (.int .i64 m.to) ∧ W.cell? ⟨mb, 3, none⟩ = some (.int .i64 m.height) ∧ W.cell? ⟨mb, 4, none⟩ = some (.int .i64 m.round) ∧ W.cell? ⟨mb, 5, none⟩ = some (.int .i64 m.valid) ∧ W.cell? ⟨mb, 6, none⟩ = some (.string m.dig) ∧ W.cell? ⟨mb, 7, none⟩ = some (.slice ao m.list.length cap) ∧ W.cell? ⟨x, 0, none⟩ = some (.int .i64 s.height) ∧ W.cell? ⟨x, 16, none⟩ = some (.int .i64 s.id) ∧ W.cell? ⟨x, 17, none⟩ = some (.int .i64 s.n) ∧ Below wa.heap.size wa W) (by kernel_rfl) (KEEP.out _ (Below.refl _ wa).drew) (fun hHeld => ?_)
     refine hye (i := 0) (v := ?v39) hHeld ?h39 ?r39
     case h39 => (intro w hSw; (try dsimp only at hSw); (first | (go_simp; done) | (go_simp; with_reducible rfl)))
     try simp only [Act.put, List.setIfInBounds_toArray, List.set_cons_zero, List.set_cons_succ]
     refine hye (i := 1) (v := ?v40) hHeld ?h40 ?r40
     case h40 => (intro w hSw; (try dsimp only at hSw); (first | (go_simp; done) | (go_simp; with_reducible rfl)))
     try simp only [Act.put, List.setIfInBounds_toArray, List.set_cons_zero, List.set_cons_succ]
     refine hye (i := 2) (v := ?v41) hHeld ?h41 ?r41
     case h41 => (intro w hSw; (try dsimp only at hSw); (first | (go_simp; done) | (go_simp; with_reducible rfl)))
     try simp only [Act.put, List.setIfInBounds_toArray, List.set_cons_zero, List.set_cons_succ]
     refine hye (i := 3) (v := ?v42) hHeld ?h42 ?r42
     case h42 => (intro w hSw; (try dsimp only at hSw); (first | (go_simp; done) | (go_simp; with_reducible rfl)))
     try simp only [Act.put, List.setIfInBounds_toArray, List.set_cons_zero, List.set_cons_succ]
     refine wpAnyH_ready (rs := [4]) (by kernel_rfl) (by simp) ?_
     refine AllReadyH.cons (o := _) rfl (fun K hK => ?_) AllReadyH.nil
     go_simp
     go_at_call 19
     refine (VB.out _ (Below.refl _ wa).drew).mono ?_
     rintro e w2 ⟨rfl, hb⟩
     go_wp2_with fail
     have HE1 := Lib.hid hb
     clear hb hHeld
     refine hK.out _ _ (KEEP.out _ HE1.out) (fun hHeld => ?_)
     clear hK K
     try simp only [Act.put, List.setIfInBounds_toArray, List.set_cons_zero, List.set_cons_succ]
     refine hye (i := 5) (v := ?v43) hHeld ?h43 ?r43
     case h43 => (intro w hSw; (try dsimp only at hSw); (first | (go_simp; done) | (go_simp; with_reducible rfl)))
     try simp only [Act.put, List.setIfInBounds_toArray, List.set_cons_zero, List.set_cons_succ]
     refine hye (i := 6) (v := ?v44) hHeld ?h44 ?r44
     case h44 => (intro w hSw; (try dsimp only at hSw); (first | (go_simp; done) | (go_simp; with_reducible rfl)))
     try simp only [Act.put, List.setIfInBounds_toArray, List.set_cons_zero, List.set_cons_succ]
     refine hye (i := 7) (v := ?v45) hHeld ?h45 ?r45
     case h45 => (intro w hSw; (try dsimp only at hSw); (first | (go_simp; done) | (go_simp; with_reducible rfl)))
     try simp only [Act.put, List.setIfInBounds_toArray, List.set_cons_zero, List.set_cons_succ]
     refine hye (i := 8) (v := ?v46) hHeld ?h46 ?r46
     case h46 => (intro w hSw; (try dsimp only at hSw); (first | (go_simp; done) | (go_simp; with_reducible rfl)))
     try simp only [Act.put, List.setIfInBounds_toArray, List.set_cons_zero, List.set_cons_succ]
     refine hye (i := 9) (v := ?v47) hHeld ?h47 ?r47
     case h47 => (intro w hSw; (try dsimp only at hSw); (first | (go_simp; done) | (go_simp; with_reducible rfl)))
     try simp only [Act.put, List.setIfInBounds_toArray, List.set_cons_zero, List.set_cons_succ]
     refine hye (i := 10) (v := ?v48) hHeld ?h48 ?r48
     case h48 => (intro w hSw; (try dsimp only at hSw); (first | (go_simp; done) | (go_simp; with_reducible rfl)))
     try simp only [Act.put, List.setIfInBounds_toArray, List.set_cons_zero, List.set_cons_succ]
     refine hye (i := 11) (v := ?v49) hHeld ?h49 ?r49
     case h49 => (intro w hSw; (try dsimp only at hSw); (first | (go_simp; done) | (go_simp; with_reducible rfl)))
     try simp only [Act.put, List.setIfInBounds_toArray, List.set_cons_zero, List.set_cons_succ]
     refine hye (i := 12) (v := ?v50) hHeld ?h50 ?r50
     case h50 => (intro w hSw; (try dsimp only at hSw); (first | (go_simp; done) | (go_simp; with_reducible rfl)))
     try simp only [Act.put, List.setIfInBounds_toArray, List.set_cons_zero, List.set_cons_succ]
     refine hye (i := 13) (v := ?v51) hHeld ?h51 ?r51
     case h51 => (intro w hSw; (try dsimp only at hSw); (first | (go_simp; done) | (go_simp; with_reducible rfl)))
     try simp only [Act.put, List.setIfInBounds_toArray, List.set_cons_zero, List.set_cons_succ]
     refine hye (i := 14) (v := ?v52) hHeld ?h52 ?r52
     case h52 => (intro w hSw; (try dsimp only at hSw); (first | (go_simp; done) | (go_simp; with_reducible rfl)))
     try simp only [Act.put, List.setIfInBounds_toArray, List.set_cons_zero, List.set_cons_succ]
     refine hye (i := 15) (v := ?v53) hHeld ?h53 ?r53
     case h53 => (intro w hSw; (try dsimp only at hSw); (first | (go_simp; done) | (go_simp; with_reducible rfl)))
     try simp only [Act.put, List.setIfInBounds_toArray, List.set_cons_zero, List.set_cons_succ]
     refine hye (i := 16) (v := ?v54) hHeld ?h54 ?r54
     case h54 => (intro w hSw; (try dsimp only at hSw); (first | (go_simp; done) | (go_simp; with_reducible rfl)))
     try simp only [Act.put, List.setIfInBounds_toArray, List.set_cons_zero, List.set_cons_succ]
     refine hye (i := 17) (v := ?v55) hHeld ?h55 ?r55
     case h55 => (intro w hSw; (try dsimp only at hSw); (first | (go_simp; done) | (go_simp; with_reducible rfl)))
     try simp only [Act.put, List.setIfInBounds_toArray, List.set_cons_zero, List.set_cons_succ]
     refine hye (i := 18) (v := ?v56) hHeld ?h56 ?r56
     case h56 => (intro w hSw; (try dsimp only at hSw); (first | (go_simp; done) | (go_simp; with_reducible rfl)))
     try simp only [Act.put, List.setIfInBounds_toArray, List.set_cons_zero, List.set_cons_succ]
     refine hye (i := 19) (v := ?v57) hHeld ?h57 ?r57
     case h57 => (intro w hSw; (try dsimp only at hSw); (first | (go_simp; done) | (go_simp; with_reducible rfl)))
     try simp only [Act.put, List.setIfInBounds_toArray, List.set_cons_zero, List.set_cons_succ]
     refine hye (i := 20) (v := ?v58) hHeld ?h58 ?r58
     case h58 => (intro w hSw; (try dsimp only at hSw); (first | (go_simp; done) | (go_simp; with_reducible rfl)))
     try simp only [Act.put, List.setIfInBounds_toArray, List.set_cons_zero, List.set_cons_succ]
     refine hye (i := 21) (v := ?v59) hHeld ?h59 ?r59
     case h59 => (intro w hSw; (try dsimp only at hSw); (first | (go_simp; done) | (go_simp; with_reducible rfl)))
     try simp only [Act.put, List.setIfInBounds_toArray, List.set_cons_zero, List.set_cons_succ]
     refine hye (i := 22) (v := ?v60) hHeld ?h60 ?r60
     case h60 => (intro w hSw; (try dsimp only at hSw); (first | (go_simp; done) | (go_simp; with_reducible rfl)))
     try simp only [Act.put, List.setIfInBounds_toArray, List.set_cons_zero, List.set_cons_succ]
     refine hye (i := 23) (v := ?v61) hHeld ?h61 ?r61
     case h61 => (intro w hSw; (try dsimp only at hSw); (first | (go_simp; done) | (go_simp; with_reducible rfl)))
     try simp only [Act.put, List.setIfInBounds_toArray, List.set_cons_zero, List.set_cons_succ]
     refine hye (i := 24) (v := ?v62) hHeld ?h62 ?r62
     case h62 => (intro w hSw; (try dsimp only at hSw); (first | (go_simp; done) | (go_simp; with_reducible rfl)))
     try simp only [Act.put, List.setIfInBounds_toArray, List.set_cons_zero, List.set_cons_succ]
     refine hye (i := 25) (v := ?v63) hHeld ?h63 ?r63
     case h63 => (intro w hSw; (try dsimp only at hSw); (first | (go_simp; done) | (go_simp; with_reducible rfl)))
     try simp only [Act.put, List.setIfInBounds_toArray, List.set_cons_zero, List.set_cons_succ]
     refine hye (i := 26) (v := ?v64) hHeld ?h64 ?r64
     case h64 => (intro w hSw; (try dsimp only at hSw); (first | (go_simp; done) | (go_simp; with_reducible rfl)))
     try simp only [Act.put, List.setIfInBounds_toArray, List.set_cons_zero, List.set_cons_succ]
     refine hye (i := 27) (v := ?v65) hHeld ?h65 ?r65
     case h65 => (intro w hSw; (try dsimp only at hSw); (first | (go_simp; done) | (go_simp; with_reducible rfl)))
     try simp only [Act.put, List.setIfInBounds_toArray, List.set_cons_zero, List.set_cons_succ]
     refine hye (i := 28) (v := ?v66) hHeld ?h66 ?r66
     case h66 => (intro w hSw; (try dsimp only at hSw); (first | (go_simp; done) | (go_simp; with_reducible rfl)))
     try simp only [Act.put, List.setIfInBounds_toArray, List.set_cons_zero, List.set_cons_succ]
     refine hye (i := 29) (v := ?v67) hHeld ?h67 ?r67
     case h67 => (intro w hSw; (try dsimp only at hSw); (first | (go_simp; done) | (go_simp; with_reducible rfl)))
     try simp only [Act.put, List.setIfInBounds_toArray, List.set_cons_zero, List.set_cons_succ]
     refine hye (i := 30) (v := ?v68) hHeld ?h68 ?r68
     case h68 => (intro w hSw; (try dsimp only at hSw); (first | (go_simp; done) | (go_simp; with_reducible rfl)))
     try simp only [Act.put, List.setIfInBounds_toArray, List.set_cons_zero, List.set_cons_succ]
     refine hye (i := 31) (v := ?v69) hHeld ?h69 ?r69
     case h69 => (intro w hSw; (try dsimp only at hSw); (first | (go_simp; done) | (go_simp; with_reducible rfl)))
     try simp only [Act.put, List.setIfInBounds_toArray, List.set_cons_zero, List.set_cons_succ]
     refine hye (i := 32) (v := ?v70) hHeld ?h70 ?r70
     case h70 => (intro w hSw; (try dsimp only at hSw); (first | (go_simp; done) | (go_simp; with_reducible rfl)))
     try simp only [Act.put, List.setIfInBounds_toArray, List.set_cons_zero, List.set_cons_succ]
     refine hye (i := 33) (v := ?v71) hHeld ?h71 ?r71
     case h71 => (intro w hSw; (try dsimp only at hSw); (first | (go_simp; done) | (go_simp; with_reducible rfl)))
     try simp only [Act.put, List.getElem_toArray, List.getElem_cons_succ, List.getElem_cons_zero, List.setIfInBounds_toArray, List.set_cons_zero, List.set_cons_succ]
     refine hye (i := 34) (v := ?v72) hHeld ?h72 ?r72
     case h72 => (intro w hSw; (try dsimp only at hSw); (first | (go_simp; done) | (go_simp; with_reducible rfl)))
     try simp only [Act.put, List.getElem_toArray, List.getElem_cons_succ, List.getElem_cons_zero, List.setIfInBounds_toArray, List.set_cons_zero, List.set_cons_succ]
     refine wpAnyH_done (by kernel_rfl) ?_ _
     go_wp2_with fail
     go_meet
     exact ⟨rfl, HE1.out⟩
   ·have n1 : (m.to != s.id) = true := by simpa using ht
    have n1b : (m.to == s.id) = false := by simpa using ht
    clear ht hv
    refine wp_region_held_drew (S := fun W => W.cell? ⟨mb, 0, none⟩ = some (.int .i64 m.kind) ∧ W.cell? ⟨mb, 1, none⟩ = some (.int .i64 m.frm) ∧ W.cell? ⟨mb, 2, none⟩ = some (.int .i64 m.to) ∧ W.cell? ⟨mb, 3, none⟩ = some (.int .i64 m.height) ∧ W.cell? ⟨mb, 4, none⟩ = some (.int .i64 m.round) ∧ W.cell? ⟨mb, 5, none⟩ = some (.int .i64 m.valid) ∧ W.cell? ⟨mb, 6, none⟩ = some (.string m.dig) ∧ W.cell? ⟨mb, 7, none⟩ = some (.slice ao m.list.length cap) ∧ W.cell? ⟨x, 0, none⟩ = some (.int .i64 s.height) ∧ W.cell? ⟨x, 16, none⟩ = some (.int .i64 s.id) ∧ W.cell? ⟨x, 17, none⟩ = some (.int .i64 s.n) ∧ Below wa.heap.size wa W) (by kernel_rfl) (KEEP.out _ (Below.refl _ wa).drew) (fun hHeld => ?_)
    refine hye (i := 0) (v := ?v73) hHeld ?h73 ?r73
    case h73 => (intro w hSw; (try dsimp only at hSw); (first | (go_simp; done) | (go_simp; with_reducible rfl)))
    try simp only [Act.put, List.setIfInBounds_toArray, List.set_cons_zero, List.set_cons_succ]
    refine hye (i := 1) (v := ?v74) hHeld ?h74 ?r74
    case h74 => (intro w hSw; (try dsimp only at hSw); (first | (go_simp; done) | (go_simp; with_reducible rfl)))
    try simp only [Act.put, List.setIfInBounds_toArray, List.set_cons_zero, List.set_cons_succ]
    refine hye (i := 2) (v := ?v75) hHeld ?h75 ?r75
    case h75 => (intro w hSw; (try dsimp only at hSw); (first | (go_simp; done) | (go_simp; with_reducible rfl)))
    try simp only [Act.put, List.setIfInBounds_toArray, List.set_cons_zero, List.set_cons_succ]
    refine hye (i := 3) (v := ?v76) hHeld ?h76 ?r76
    case h76 => (intro w hSw; (try dsimp only at hSw); (first | (go_simp; done) | (go_simp; with_reducible rfl)))
    try simp only [Act.put, List.setIfInBounds_toArray, List.set_cons_zero, List.set_cons_succ]
    refine wpAnyH_ready (rs := [4]) (by kernel_rfl) (by simp) ?_
    refine AllReadyH.cons (o := _) rfl (fun K hK => ?_) AllReadyH.nil
    go_simp
    go_at_call 19
    refine (VB.out _ (Below.refl _ wa).drew).mono ?_
    rintro e w2 ⟨rfl, hb⟩
    go_wp2_with fail
    have HE1 := Lib.hid hb
    clear hb hHeld
    refine hK.out _ _ (KEEP.out _ HE1.out) (fun hHeld => ?_)
    clear hK K
    try simp only [Act.put, List.setIfInBounds_toArray, List.set_cons_zero, List.set_cons_succ]
    refine hye (i := 5) (v := ?v77) hHeld ?h77 ?r77
    case h77 => (intro w hSw; (try dsimp only at hSw); (first | (go_simp; done) | (go_simp; with_reducible rfl)))
    try simp only [Act.put, List.setIfInBounds_toArray, List.set_cons_zero, List.set_cons_succ]
    refine hye (i := 6) (v := ?v78) hHeld ?h78 ?r78
    case h78 => (intro w hSw; (try dsimp only at hSw); (first | (go_simp; done) | (go_simp; with_reducible rfl)))
    try simp only [Act.put, List.setIfInBounds_toArray, List.set_cons_zero, List.set_cons_succ]
    refine hye (i := 7) (v := ?v79) hHeld ?h79 ?r79
    case h79 => (intro w hSw; (try dsimp only at hSw); (first | (go_simp; done) | (go_simp; with_reducible rfl)))
    try simp only [Act.put, List.setIfInBounds_toArray, List.set_cons_zero, List.set_cons_succ]
    refine hye (i := 8) (v := ?v80) hHeld ?h80 ?r80
    case h80 => (intro w hSw; (try dsimp only at hSw); (first | (go_simp; done) | (go_simp; with_reducible rfl)))
    try simp only [Act.put, List.setIfInBounds_toArray, List.set_cons_zero, List.set_cons_succ]
    refine hye (i := 9) (v := ?v81) hHeld ?h81 ?r81
    case h81 => (intro w hSw; (try dsimp only at hSw); (first | (go_simp; done) | (go_simp; with_reducible rfl)))
    try simp only [Act.put, List.setIfInBounds_toArray, List.set_cons_zero, List.set_cons_succ]
    refine hye (i := 10) (v := ?v82) hHeld ?h82 ?r82
    case h82 => (intro w hSw; (try dsimp only at hSw); (first | (go_simp; done) | (go_simp; with_reducible rfl)))
    try simp only [Act.put, List.setIfInBounds_toArray, List.set_cons_zero, List.set_cons_succ]
    refine hye (i := 11) (v := ?v83) hHeld ?h83 ?r83
    case h83 => (intro w hSw; (try dsimp only at hSw); (first | (go_simp; done) | (go_simp; with_reducible rfl)))
    try simp only [Act.put, List.setIfInBounds_toArray, List.set_cons_zero, List.set_cons_succ]
    refine hye (i := 12) (v := ?v84) hHeld ?h84 ?r84
    case h84 => (intro w hSw; (try dsimp only at hSw); (first | (go_simp; done) | (go_simp; with_reducible rfl)))
    try simp only [Act.put, List.setIfInBounds_toArray, List.set_cons_zero, List.set_cons_succ]
    refine hye (i := 13) (v := ?v85) hHeld ?h85 ?r85
    case h85 => (intro w hSw; (try dsimp only at hSw); (first | (go_simp; done) | (go_simp; with_reducible rfl)))
    try simp only [Act.put, List.setIfInBounds_toArray, List.set_cons_zero, List.set_cons_succ]
    refine hye (i := 14) (v := ?v86) hHeld ?h86 ?r86
    case h86 => (intro w hSw; (try dsimp only at hSw); (first | (go_simp; done) | (go_simp; with_reducible rfl)))
    try simp only [Act.put, List.setIfInBounds_toArray, List.set_cons_zero, List.set_cons_succ]
    refine hye (i := 15) (v := ?v87) hHeld ?h87 ?r87
    case h87 => (intro w hSw; (try dsimp only at hSw); (first | (go_simp; done) | (go_simp; with_reducible rfl)))
    try simp only [Act.put, List.setIfInBounds_toArray, List.set_cons_zero, List.set_cons_succ]
    refine hye (i := 16) (v := ?v88) hHeld ?h88 ?r88
    case h88 => (intro w hSw; (try dsimp only at hSw); (first | (go_simp; done) | (go_simp; with_reducible rfl)))
    try simp only [Act.put, List.setIfInBounds_toArray, List.set_cons_zero, List.set_cons_succ]
    refine hun (i := 17) hHeld (hun (i := 18) hHeld (hun (i := 19) hHeld (hun (i := 20) hHeld (hun (i := 21) hHeld (hun (i := 22) hHeld (hun (i := 23) hHeld (?_)))))))
    try simp only [Act.put, List.setIfInBounds_toArray, List.set_cons_zero, List.set_cons_succ]
    refine hye (i := 24) (v := ?v89) hHeld ?h89 ?r89
    case h89 => (intro w hSw; (try dsimp only at hSw); (first | (go_simp; done) | (go_simp; with_reducible rfl)))
    try simp only [Act.put, List.setIfInBounds_toArray, List.set_cons_zero, List.set_cons_succ]
    refine hye (i := 25) (v := ?v90) hHeld ?h90 ?r90
    case h90 => (intro w hSw; (try dsimp only at hSw); (first | (go_simp; done) | (go_simp; with_reducible rfl)))
    try simp only [Act.put, List.setIfInBounds_toArray, List.set_cons_zero, List.set_cons_succ]
    refine hun (i := 26) hHeld (hun (i := 27) hHeld (hun (i := 28) hHeld (hun (i := 29) hHeld (hun (i := 30) hHeld (hun (i := 31) hHeld (hun (i := 32) hHeld (hun (i := 33) hHeld (?_))))))))
    try simp only [Act.put, List.getElem_toArray, List.getElem_cons_succ, List.getElem_cons_zero, List.setIfInBounds_toArray, List.set_cons_zero, List.set_cons_succ]
    refine hye (i := 34) (v := ?v91) hHeld ?h91 ?r91
    case h91 => (intro w hSw; (try dsimp only at hSw); (first | (go_simp; done) | (go_simp; with_reducible rfl)))
    try simp only [Act.put, List.getElem_toArray, List.getElem_cons_succ, List.getElem_cons_zero, List.setIfInBounds_toArray, List.set_cons_zero, List.set_cons_succ]
    refine wpAnyH_done (by kernel_rfl) ?_ _
    go_wp2_with fail
    go_meet
    exact ⟨rfl, HE1.out⟩
 case rest =>
 obtain ⟨rfl, hb1⟩ := hcut
 have HB1 := Lib.hid (HB0.out.trans (hb1.mono HB0.out.size))
 clear hb1
 go_wp2
 refine bodyPost_ret (results_none rfl _ _ _) rfl ?_
 exact ⟨rfl, HB1.out⟩

end Go.Proofs.YtifcdjmcoibblaaGreatDoor
