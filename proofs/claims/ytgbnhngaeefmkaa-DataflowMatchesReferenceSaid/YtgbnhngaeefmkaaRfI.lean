import Derived.Test.YtgbnhngaeefmkaaRfM

/-! The reference: Put. -/
namespace Go.Proofs.Ytgbnhngaeefmkaa
set_option linter.unusedVariables false
set_option linter.unusedSimpArgs false
open Go.RowKit

theorem updF_updF {F : List En} {n : ByteArray} {g1 g2 : En → En} (h : ∀ e, (g1 e).nm = e.nm) : updF (updF F n g1) n g2 = updF F n (fun e => g2 (g1 e)) := by
  unfold updF
  rw [List.map_map]
  refine List.map_congr_left fun e _ => ?_
  simp only [Function.comp_apply]
  by_cases q : e.nm = n
  · rw [if_pos q, if_pos q, if_pos (by rw [h]; exact q)]
  · rw [if_neg q, if_neg q, if_neg q]
theorem atF_updR {n : ByteArray} {g : En → En} (h : ∀ e, (g e).nm = e.nm) : ∀ {F : List En} {e : En}, atF F n = some e → atF (updF F n g) n = some (g e)
  | [], e, he => by cases he
  | y :: t, e, he => by
    unfold atF updF at *
    rw [List.find?_cons] at he
    rw [List.map_cons, List.find?_cons]
    by_cases q : y.nm = n
    · rw [if_pos q]
      rw [decide_eq_true q] at he
      rw [show decide ((g y).nm = n) = true from decide_eq_true (by rw [h]; exact q)]
      cases he; rfl
    · rw [if_neg q]
      rw [decide_eq_false q] at he ⊢
      exact atF_updR h he

/-- what Put does to a name that is there -/
theorem putF_some {F : List En} {n v : ByteArray} {l : List ByteArray} {e : En} (he : atF F n = some e) (hok : putOk F n l = true) : putF F n l v = if e.val = v then updF F n (fun e => { e with rds := sortU l, stale := false }) else markF (updF F n (fun e => { e with val := v, rds := sortU l, stale := false })) n := by
  unfold putF
  rw [if_pos hok, he]
  show chgF _ n v = _
  rw [chgF_some (atF_updR (g := fun e => { e with rds := sortU l, stale := false }) (fun e => rfl) he), updF_updF (g1 := fun e => { e with rds := sortU l, stale := false }) (fun e => rfl)]

def AccOk (l : List ByteArray) (k : Nat) (acc : List ByteArray) : Prop := acc.Pairwise ltB ∧ ∀ z, z ∈ acc ↔ z ∈ l.take k
theorem AccOk.step {l : List ByteArray} {k : Nat} {acc : List ByteArray} {x : ByteArray} (h : AccOk l k acc) (hx : l[k]? = some x) : AccOk l (k + 1) (insU x acc) := by
  obtain ⟨kl, ke⟩ := List.getElem?_eq_some_iff.1 hx
  refine ⟨insU_sorted h.1, fun z => ?_⟩
  rw [mem_insU, h.2, List.take_succ_eq_append_getElem kl, ke, List.mem_append, List.mem_singleton]
  exact or_comm
theorem AccOk.fin {l acc : List ByteArray} (h : AccOk l l.length acc) : acc = sortU l :=
  asc_ext h.1 (sortU_sorted l) (fun z => by rw [h.2, List.take_of_length_le (Nat.le_refl _), mem_sortU])
theorem AccOk.len {l acc : List ByteArray} {k : Nat} (h : AccOk l k acc) : acc.length ≤ l.length :=
  nodup_len (asc_nodup h.1) (fun z hz => List.mem_of_mem_take ((h.2 z).1 hz))

theorem putOk_bad {F : List En} {n x : ByteArray} {l : List ByteArray} (hx : x ∈ l) (h : rdOk F n x = false) : putOk F n l = false := by
  unfold putOk
  have : resOk F n l = false := by
    unfold resOk
    rw [List.all_eq_false]
    exact ⟨x, hx, by rw [h]; simp⟩
  rw [this, Bool.and_false]

/-- the box of a node -/
def NodeB (nm : ByteArray) (ao : Option Addr) (ln cap : Nat) : Obj := .cells #[.string nm, .slice ao ln cap] 30

section
variable {B : Nat} {w : World} {r : Nat} {v : Value} {L : List REn}

set_option maxRecDepth 100000 in
set_option maxHeartbeats 8000000 in
theorem rput_any (h : RefR B w r v L) (hB : B ≤ w.heap.size) (hG : Good (L.map (·.e))) (hn : L.length ≤ 900) (nm val : ByteArray) (ao : Option Addr) (ln cap : Nat) (l : List ByteArray) (hln : l.length = ln) (hln1 : ln ≤ 900) (hrow : RowK 1 encT w ao l) :
    Calls Try.prog 18 #[.pointer (some ⟨r, 0, none⟩), .agg #[.string nm, .slice ao ln cap], .string val] w (RStE B w r (putF (L.map (·.e)) nm l val) (if putOk (L.map (·.e)) nm l = true then 0 else 200)) := by
  obtain ⟨w1, hw1⟩ : ∃ w1, w.alloc (NodeB nm ao ln cap) = w1 := ⟨_, rfl⟩
  have B1 := Lib.hid (show Below w.heap.size w w1 from by rw [← hw1]; exact (Below.refl _ w).alloc (Nat.le_refl _) _)
  have NB := Lib.hid (show w1.heap[w.heap.size]? = some (NodeB nm ao ln cap) from by rw [← hw1]; exact World.alloc_heap_new w _)
  have HW1 := Lib.hid hw1
  have NC := Lib.hid (show ∀ w' : World, w'.heap[w.heap.size]? = some (NodeB nm ao ln cap) → w'.cell? ⟨w.heap.size, 0, none⟩ = some (.string nm) ∧ w'.cell? ⟨w.heap.size, 1, none⟩ = some (.slice ao ln cap) from fun w' hb => ⟨cell_blk hb rfl, cell_blk hb rfl⟩)
  obtain ⟨vo, vc, rfl, _⟩ := h.sl
  obtain ⟨n, hnl⟩ : ∃ n, L.length = n := ⟨_, rfl⟩
  rw [hnl] at h hn
  have H0 := Lib.hid h
  have HN := Lib.hid hnl
  have HG := Lib.hid hG
  have HR := Lib.hid hrow
  have HL := Lib.hid hln
  have AT := Lib.hid (fun (w' : World) (hb : Below w.heap.size w w') nm i hi => rat_any (h.later hb) (by rw [hnl]; omega) nm i hi)
  obtain ⟨rk, hrk, hrl⟩ := hG.rank
  have DEP := Lib.hid (fun (w' : World) (hb : Below w.heap.size w w') a => rdep_any (h.later hb) hG (by rw [hnl]; omega) hrk nm (rk a + 1) a (Nat.lt_succ_self _))
  obtain ⟨iv, hiv⟩ : ∃ iv : Int, AtR L nm iv ∧ (iv < 0 → atF (L.map (·.e)) nm = none) ∧ (¬ iv < 0 → ∃ (x : REn) (g : Nat), L[iv.toNat]? = some x ∧ atF (L.map (·.e)) nm = some x.e ∧ iv < n ∧ vo = some ⟨g, 0, none⟩ ∧ ∀ w', Below w.heap.size w w' → w'.cell? ⟨g, iv.toNat * 5 + 2, none⟩ = some (.bool x.e.node)) := by
    rcases he : atF (L.map (·.e)) nm with _ | e
    · exact ⟨-1, AtR.none he, fun _ => he, fun q => absurd (by decide) q⟩
    · obtain ⟨k, x, g, cap', hx, hxe, ha, hk, hv, _, _, c2, _⟩ := h.found hG.srt he
      cases hv
      refine ⟨k, ha, fun q => by omega, fun _ => ⟨x, g, by rw [Int.toNat_natCast]; exact hx, by rw [he, hxe], by rw [hnl] at hk; omega, rfl, fun w' hb => ?_⟩⟩
      rw [Int.toNat_natCast, hxe, hb.cell (p := ⟨g, k * 5 + 2, none⟩) (World.block_lt_of_cell? _ _ c2)]; exact c2
  have A0 := Lib.hid (AT.out w1 B1.out nm iv hiv.1)
  have CN := Lib.hid hiv.2.1
  have CS := Lib.hid hiv.2.2
  obtain ⟨c, hc⟩ : ∃ c : Int, (if putOk (L.map (·.e)) nm l = true then 0 else 200) = c := ⟨_, rfl⟩
  obtain ⟨F', hF⟩ : ∃ F', putF (L.map (·.e)) nm l val = F' := ⟨_, rfl⟩
  rw [hc, hF]
  have HC := Lib.hid hc
  have HF := Lib.hid hF
  have BAD := Lib.hid (show putOk (L.map (·.e)) nm l = false → c = 200 ∧ F' = L.map (·.e) from fun q => ⟨by rw [← hc, if_neg (by rw [q]; simp)], by rw [← hF]; unfold putF; rw [if_neg (by rw [q]; simp)]⟩)
  clear hc hF hiv h hnl hG hrow hln hw1 hrk hrl
  go_enter Try.func18, Try.ntmps18
  go_upto_region 1 with (fail)
  have hw1 := HW1.out
  unfold NodeB at hw1
  rw [hw1]
  clear hw1
  obtain ⟨nc0, nc1⟩ := NC.out w1 NB.out
  have cv1 := (H0.out.later B1.out).vcell
  rcases hnn : nm.toList.isEmpty with _ | _
  · have hn2 : (nm.toList == []) = false := by rcases hh : nm.toList with _ | ⟨a, r⟩ <;> simp_all
    have HNE := Lib.hid hnn
    clear hnn
    by_cases hneg : iv < 0
    case' pos =>
      have nn : ¬ (20000 : Int) ≤ (n : Int) := by omega
      have OK0 := Lib.hid (show resOk (L.map (·.e)) nm l = true → putOk (L.map (·.e)) nm l = true from fun q => by unfold putOk; rw [CN.out hneg, HNE.out, q]; rfl)
      go_upto_region 4 with (first | (go_at_call 38; refine A0.out.mono ?_; rintro e w' ⟨rfl, rfl⟩))
    case' neg =>
      obtain ⟨x, g, hx, he, ivn, rfl, c2⟩ := CS.out hneg
      have c2 := c2 w1 B1.out
      have iv0 : 0 ≤ iv := by omega
      rcases hnd : x.e.node with _ | _
      case' false =>
        have bad := BAD.out (by unfold putOk; rw [he, HNE.out]; simp [hnd])
        obtain ⟨rfl, rfl⟩ := bad
        rw [hnd] at c2
        clear hnd hx he
        go_wp2_with (first | (go_at_call 38; refine A0.out.mono ?_; rintro e w' ⟨rfl, rfl⟩))
        go_ret
        exact ⟨rfl, _, _, H0.out.later B1.out, rfl, RMv.of_below B1.out⟩
      case' true =>
        have OK0 := Lib.hid (show resOk (L.map (·.e)) nm l = true → putOk (L.map (·.e)) nm l = true from fun q => by unfold putOk; rw [he, HNE.out, q]; simp [hnd])
        rw [hnd] at c2
        clear hnd hx he
        go_upto_region 4 with (first | (go_at_call 38; refine A0.out.mono ?_; rintro e w' ⟨rfl, rfl⟩))
        clear c2
    all_goals
      have LN0 := Lib.hid (show (0 : Nat) ≤ ln from Nat.zero_le _)
      go_wp2_with fail
      go_loopw [8, 9] (fun o j wr => ∃ (q m : Nat) (acc : List ByteArray) (xo : Option Addr) (xc : Nat), q ≤ ln ∧ j = .int .i64 (q : Int) ∧ o = .slice xo m xc ∧ acc.length = m ∧ AccOk l q acc ∧ RowO w1.heap.size (.slice xo m xc) m acc wr ∧ Below w1.heap.size w1 wr ∧ ∀ x ∈ l.take q, rdOk (L.map (·.e)) nm x = true) (fun _ j _ => ln - (intOf j).toNat)
      case atStart => exact ⟨0, 0, [], none, 0, Nat.zero_le _, rfl, rfl, rfl, ⟨List.Pairwise.nil, fun z => by simp⟩, RowO.nil _ _, Below.refl _ w1, fun x hx => by simp at hx⟩
      case round =>
        obtain ⟨q, m, acc, xo, xc, hq, rfl, rfl, hal, hao, hro, hlo, hrd⟩ := hrel
        have AL := Lib.hid hal
        have AO := Lib.hid hao
        have RO := Lib.hid hro
        have LO := Lib.hid hlo
        have RD := Lib.hid hrd
        clear hal hao hro hlo hrd
        obtain ⟨w3, rfl⟩ : ∃ w3 : World, w3 = wr := ⟨_, rfl⟩
        have BW := Lib.hid (B1.out.trans (LO.out.mono B1.out.size))
        have R3 := Lib.hid (H0.out.later BW.out)
        have cv3 := R3.out.vcell
        have NB3 := Lib.hid ((LO.out.block _ (lt_of_blk NB.out)).trans NB.out)
        obtain ⟨nd0, nd1⟩ := NC.out w3 NB3.out
        have q0 : (0 : Int) ≤ (q : Int) := by omega
        have hmln : m ≤ ln := by rw [← AL.out, ← HL.out]; exact AO.out.len
        by_cases hlt : q < ln
        · have q1 : (q : Int) < (ln : Int) := by omega
          have hql : q < l.length := by rw [HL.out]; exact hlt
          obtain ⟨ga, oa, rfl, _, ca⟩ := (HR.out.later BW.out).str hql
          have HX := Lib.hid (show l[q]? = some l[q] from List.getElem?_eq_getElem hql)
          obtain ⟨x, hx⟩ : ∃ x, l[q] = x := ⟨_, rfl⟩
          rw [hx] at ca HX
          have HXM := Lib.hid (List.mem_of_getElem? HX.out)
          have HT := Lib.hid (show l.take (q + 1) = l.take q ++ [x] from by rw [List.take_succ_eq_append_getElem hql, hx])
          clear hx hql
          have DX := Lib.hid (DEP.out w3 BW.out x)
          have RC := Lib.hid (rch_dep HG.out x nm)
          obtain ⟨d, hd⟩ : ∃ d, depB (L.map (·.e)) x nm = d := ⟨_, rfl⟩
          rw [hd] at DX RC
          clear hd
          rcases he : atF (L.map (·.e)) x with _ | ex
          · have AX := Lib.hid (AT.out w3 BW.out x (-1) (AtR.none he))
            have bad := BAD.out (putOk_bad HXM.out (by unfold rdOk; rw [he]))
            obtain ⟨rfl, rfl⟩ := bad
            clear he
            go_wp2_with (first
              | (go_at_call 38; refine AX.out.mono ?_; rintro e w' ⟨rfl, rfl⟩)
              | (go_at_call 44; refine DX.out.mono ?_; rintro e w' ⟨rfl, rfl⟩))
            go_ret
            exact ⟨rfl, _, _, R3.out, rfl, RMv.of_below BW.out⟩
          · obtain ⟨k2, y, g2, cap2, hy2, hye, ha2, hk2, hv2, _, _, _, c3, _⟩ := R3.out.found HG.out.srt he
            rw [HN.out] at hk2 hv2
            cases hv2
            have AX := Lib.hid (AT.out w3 BW.out x k2 ha2)
            have k20 : (0 : Int) ≤ (k2 : Int) := by omega
            have k21 : (k2 : Int) < (n : Int) := by omega
            have k2n : ¬ (k2 : Int) < 0 := by omega
            have RDX := Lib.hid (show rdOk (L.map (·.e)) nm x = (!ex.stale && !(decide (x = nm) || d)) from by unfold rdOk; rw [he]; show (!ex.stale && !rchB _ _ _ _) = _; rw [← RC.out])
            obtain ⟨st, hst⟩ : ∃ st, ex.stale = st := ⟨_, rfl⟩
            rw [hst] at c3 RDX
            clear he hy2 hye ha2 hst
            rcases st with _ | _
            · by_cases hxn : x = nm
              · have q2 : (x.toList == nm.toList) = true := by rw [hxn]; simp
                have bad := BAD.out (putOk_bad HXM.out (by rw [RDX.out, decide_eq_true hxn]; rfl))
                obtain ⟨rfl, rfl⟩ := bad
                clear hxn
                go_wp2_with (first
                  | (go_at_call 38; refine AX.out.mono ?_; rintro e w' ⟨rfl, rfl⟩)
                  | (go_at_call 44; refine DX.out.mono ?_; rintro e w' ⟨rfl, rfl⟩))
                go_ret
                exact ⟨rfl, _, _, R3.out, rfl, RMv.of_below BW.out⟩
              · have q2 : (x.toList == nm.toList) = false := (Lib.bytes_beq_false_iff _ _).2 hxn
                rcases d with _ | _
                · have NR := Lib.hid (show ∀ z ∈ l.take (q + 1), rdOk (L.map (·.e)) nm z = true from fun z hz => by
                    rw [HT.out, List.mem_append, List.mem_singleton] at hz
                    rcases hz with hz | rfl
                    · exact RD.out z hz
                    · rw [RDX.out, decide_eq_false hxn]; rfl)
                  have NA := Lib.hid (AO.out.step HX.out)
                  have INS := Lib.hid (by
                    obtain ⟨xo', xc', e', _, hk⟩ := RO.out.sl
                    cases e'
                    exact insert_any xo m xc acc x w3 AL.out (by omega) AO.out.1 hk)
                  clear hxn
                  go_wp2_with (first
                    | (go_at_call 38; refine AX.out.mono ?_; rintro e w' ⟨rfl, rfl⟩)
                    | (go_at_call 44; refine DX.out.mono ?_; rintro e w' ⟨rfl, rfl⟩)
                    | (go_at_call 45; refine INS.out.mono ?_; rintro e w4 ⟨xo4, xc4, rfl, h4, l4⟩; have H4 := Lib.hid (h4.base LO.out.size); have L4 := Lib.hid (LO.out.trans (l4.mono LO.out.size)); clear h4 l4))
                  go_roundw
                  case rel => exact ⟨q + 1, _, _, _, _, by omega, by go_num, rfl, rfl, NA.out, H4.out, L4.out, NR.out⟩
                  case measure => simp [intOf]; omega
                · have bad := BAD.out (putOk_bad HXM.out (by rw [RDX.out, Bool.or_true]; rfl))
                  obtain ⟨rfl, rfl⟩ := bad
                  clear hxn
                  go_wp2_with (first
                    | (go_at_call 38; refine AX.out.mono ?_; rintro e w' ⟨rfl, rfl⟩)
                    | (go_at_call 44; refine DX.out.mono ?_; rintro e w' ⟨rfl, rfl⟩))
                  go_ret
                  exact ⟨rfl, _, _, R3.out, rfl, RMv.of_below BW.out⟩
            · have bad := BAD.out (putOk_bad HXM.out (by rw [RDX.out]; rfl))
              obtain ⟨rfl, rfl⟩ := bad
              go_wp2_with (first
                | (go_at_call 38; refine AX.out.mono ?_; rintro e w' ⟨rfl, rfl⟩)
                | (go_at_call 44; refine DX.out.mono ?_; rintro e w' ⟨rfl, rfl⟩))
              go_ret
              exact ⟨rfl, _, _, R3.out, rfl, RMv.of_below BW.out⟩
        · have q1 : ¬ (q : Int) < (ln : Int) := by omega
          have hql : q = l.length := by rw [HL.out]; omega
          have hacc : acc = sortU l := by have h := AO.out; rw [hql] at h; exact h.fin
          have hres : resOk (L.map (·.e)) nm l = true := by
            unfold resOk
            rw [List.all_eq_true]
            intro z hz
            have h := RD.out z
            rw [hql, List.take_of_length_le (Nat.le_refl _)] at h
            exact h hz
          have hok := OK0.out hres
          have hc : c = 0 := by rw [← HC.out, if_pos hok]
          subst hc
          have HOK := Lib.hid hok
          have HACC := Lib.hid hacc
          clear hok hres hacc hql
          have ROB := Lib.hid (RO.out.base (Nat.le_trans hB B1.out.size))
          have hB3 : B ≤ w3.heap.size := Nat.le_trans hB BW.out.size
          by_cases hz : iv < 0
          · first
              | (exfalso; omega)
              | (have he := CN.out hz
                 have hF : F' = insF ⟨nm, val, true, false, sortU l⟩ (L.map (·.e)) := by rw [← HF.out]; unfold putF; rw [if_pos HOK.out, he]
                 subst hF
                 have AD := Lib.hid (radd_any R3.out hB3 (by rw [HN.out]; omega) HG.out.srt ⟨⟨nm, val, true, false, acc⟩, xo, m, xc⟩ ROB.out (R3.out.names he))
                 clear he
                 go_wp2_with (first
                   | (go_at_call 39; refine AD.out.mono ?_; rintro e w' ⟨rfl, v5, L5, hr, hmp, hmv⟩; have HR5 := Lib.hid hr; have HM5 := Lib.hid hmp; have HV5 := Lib.hid hmv; clear hr hmp hmv))
                 go_ret
                 exact ⟨rfl, _, _, HR5.out, by rw [HM5.out, ← HACC.out], (RMv.of_below BW.out).trans HV5.out⟩)
          · first
              | (exfalso; omega)
              | (obtain ⟨x, g3, hx, he, ivn3, hvo, _⟩ := CS.out (by omega)
                 cases hvo
                 obtain ⟨k, rfl⟩ : ∃ k : Nat, iv = (k : Int) := ⟨iv.toNat, by omega⟩
                 rw [Int.toNat_natCast] at hx
                 have hkl := (List.getElem?_eq_some_iff.1 hx).1
                 have hnmx := (atF_some he).2
                 have k0 : (0 : Int) ≤ (k : Int) := by omega
                 have k1 : (k : Int) < (n : Int) := by omega
                 have kn : ¬ (k : Int) < 0 := by omega
                 have U1 := Lib.hid (R3.out.updN HN.out (j := 1) (x' := { x with e := { x.e with val := val } }) (u := .string val) hx rfl (by decide) (R3.out.rds x (List.mem_of_getElem? hx)))
                 have U2 := Lib.hid (U1.out.1.updN (by rw [List.length_set]; exact HN.out) (j := 4) (x := { x with e := { x.e with val := val } }) (x' := ⟨{ x.e with val := val, rds := acc }, xo, m, xc⟩) (u := .slice xo m xc) (List.getElem?_set_self hkl) rfl (by decide) (ROB.out.rmv U1.out.2))
                 have U3 := Lib.hid (U2.out.1.updN (by rw [List.length_set, List.length_set]; exact HN.out) (j := 3) (x := ⟨{ x.e with val := val, rds := acc }, xo, m, xc⟩) (x' := ⟨{ x.e with val := val, rds := acc, stale := false }, xo, m, xc⟩) (u := .bool false) (List.getElem?_set_self (by rw [List.length_set]; exact hkl)) rfl (by decide) ((ROB.out.rmv U1.out.2).rmv U2.out.2))
                 obtain ⟨gA, capA, eA, _, _, hcA⟩ := R3.out.cells hx
                 rw [HN.out] at eA
                 cases eA
                 obtain ⟨gB, capB, eB, _, _, hcB⟩ := U1.out.1.cells (List.getElem?_set_self hkl)
                 rw [List.length_set, HN.out] at eB
                 cases eB
                 obtain ⟨gC, capC, eC, _, _, hcC⟩ := U2.out.1.cells (List.getElem?_set_self (by rw [List.length_set]; exact hkl))
                 rw [List.length_set, List.length_set, HN.out] at eC
                 cases eC
                 have cA1 : w3.cell? ⟨g, k * 5 + 1, none⟩ = some (.string x.e.val) := hcA 1 _ rfl
                 have cB4 : (w3.setCell ⟨g, k * 5 + 1, none⟩ (.string val)).cell? ⟨g, k * 5 + 4, none⟩ = some (.slice x.ao x.ln x.cap) := hcB 4 _ rfl
                 have cC3 : ((w3.setCell ⟨g, k * 5 + 1, none⟩ (.string val)).setCell ⟨g, k * 5 + 4, none⟩ (.slice xo m xc)).cell? ⟨g, k * 5 + 3, none⟩ = some (.bool x.e.stale) := hcC 3 _ rfl
                 have fA := R3.out.frz rfl (k * 5 + 1)
                 have fB := U1.out.1.frz rfl (k * 5 + 4)
                 have fC := U2.out.1.frz rfl (k * 5 + 3)
                 have vA := U1.out.1.vcell
                 have vB := U2.out.1.vcell
                 have vC := U3.out.1.vcell
                 obtain ⟨nx0, _⟩ := NC.out _ (((U1.out.2.trans U2.out.2).trans U3.out.2).blk NB3.out (by decide) (by decide))
                 have HMV := Lib.hid ((RMv.of_below BW.out).trans ((U1.out.2.trans U2.out.2).trans U3.out.2))
                 have MP := Lib.hid (fun (x' : REn) (gE : En → En) (h : x'.e = gE x.e) => set_upd HG.out.srt hx x' gE h)
                 rw [hnmx] at MP
                 have PF := Lib.hid (putF_some (v := val) he HOK.out)
                 rw [HF.out] at PF
                 have CH := Lib.hid (rchange_any U3.out.1 (by rw [List.length_set, List.length_set, List.length_set, HN.out]; omega) (fun z hz' => by
                   rw [List.set_set, List.set_set] at hz'
                   rcases List.mem_or_eq_of_mem_set hz' with q | q
                   · exact good_rl HG.out (by rw [HN.out]; omega) z q
                   · subst q
                     show acc.length ≤ 1000
                     rw [AL.out]; omega) nm)
                 by_cases hv : x.e.val = val
                 · have hvb : (x.e.val.toList == val.toList) = true := by rw [hv]; simp
                   rw [if_pos hv] at PF
                   have EQ := Lib.hid (MP.out ⟨{ x.e with val := val, rds := acc, stale := false }, xo, m, xc⟩ (fun e => { e with rds := sortU l, stale := false }) (by rw [← HACC.out, ← hv]))
                   obtain ⟨xv, hxv⟩ : ∃ xv, x.e.val = xv := ⟨_, rfl⟩
                   obtain ⟨xs, hxs⟩ : ∃ xs, x.e.stale = xs := ⟨_, rfl⟩
                   rw [hxv] at cA1 hvb
                   rw [hxs] at cC3
                   clear he hx hv hxv hxs hcA hcB hcC hnmx hkl
                   go_wp2_with fail
                   go_ret
                   exact ⟨rfl, _, _, U3.out.1, by rw [List.set_set, List.set_set, PF.out, EQ.out], HMV.out⟩
                 · have hvb : (x.e.val.toList == val.toList) = false := (Lib.bytes_beq_false_iff _ _).2 hv
                   rw [if_neg hv] at PF
                   have EQ := Lib.hid (MP.out ⟨{ x.e with val := val, rds := acc, stale := false }, xo, m, xc⟩ (fun e => { e with val := val, rds := sortU l, stale := false }) (by rw [← HACC.out]))
                   obtain ⟨xv, hxv⟩ : ∃ xv, x.e.val = xv := ⟨_, rfl⟩
                   obtain ⟨xs, hxs⟩ : ∃ xs, x.e.stale = xs := ⟨_, rfl⟩
                   rw [hxv] at cA1 hvb
                   rw [hxs] at cC3
                   clear he hx hv hxv hxs hcA hcB hcC hnmx hkl
                   go_wp2_with (first
                     | (go_at_call 40; refine CH.out.mono ?_; rintro e w' ⟨rfl, hr, hm⟩; have HR6 := Lib.hid hr; have HM6 := Lib.hid hm; clear hr hm))
                   go_ret
                   exact ⟨rfl, _, _, HR6.out, by rw [markR_map, List.set_set, List.set_set, PF.out, EQ.out], HMV.out.trans HM6.out⟩)
  · have hn2 : (nm.toList == []) = true := by rcases hh : nm.toList with _ | ⟨a, r⟩ <;> simp_all
    have bad := BAD.out (by unfold putOk; rw [hnn]; simp)
    obtain ⟨rfl, rfl⟩ := bad
    clear hnn
    go_wp2_with (first | (go_at_call 38; refine A0.out.mono ?_; rintro e w' ⟨rfl, rfl⟩))
    go_ret
    exact ⟨rfl, _, _, H0.out.later B1.out, rfl, RMv.of_below B1.out⟩
end

end Go.Proofs.Ytgbnhngaeefmkaa
