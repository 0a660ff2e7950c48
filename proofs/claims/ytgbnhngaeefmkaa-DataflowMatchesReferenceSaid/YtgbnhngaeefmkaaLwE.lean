import Derived.Test.YtgbnhngaeefmkaaLwD

/-! The laws' helper of. -/
namespace Go.Proofs.Ytgbnhngaeefmkaa
set_option linter.unusedVariables false
set_option linter.unusedSimpArgs false
open Go.RowKit

def rdsZ (zs : List Int) : List ByteArray := (zs.take 6).map nmZ
theorem rdsZ_len (zs : List Int) : (rdsZ zs).length ≤ 6 := by unfold rdsZ; rw [List.length_map, List.length_take]; omega

/-- what 'of' has laid: the box of x, the result, the node under way (nb) -/
structure OfM (W : World) (nb : Nat) (c nm vl : Int) (av : Value) (v : Value) (n : Nat) (l : List ByteArray) (w : World) : Prop where
  x : w.heap[W.heap.size]? = some (.cells #[.int .i64 c, .int .i64 nm, .int .i64 vl, av] 34 (0, 0))
  r : w.heap[W.heap.size + 1]? = some (.cells #[.string ⟨#[]⟩, .slice none 0 0] 30 (0, 0))
  nod : w.heap[nb]? = some (.cells #[.string (nmZ nm), v] 30 (0, 0))
  row : w.ownsRow W.heap.size 9 1 v n (l.flatMap encT)
  low : Below W.heap.size W w
  nbx : W.heap.size + 2 ≤ nb

theorem OfM.next {W wr X w4 : World} {nb : Nat} {c nm vl : Int} {av v v' : Value} {k : Nat} {l : List ByteArray} {x : ByteArray} (h : OfM W nb c nm vl av v k l wr) (hX : Below wr.heap.size wr X) (own' : w4.ownsRow W.heap.size 9 1 v' (k + 1) (l.flatMap encT ++ encT x)) (gr : X.grownBy w4 v.ownBlock) :
    (w4.cell? ⟨nb, 1, none⟩ = some v ∧ w4.frozen? ⟨nb, 1, none⟩ = false ∧ w4.cell? ⟨W.heap.size, 3, none⟩ = some av ∧ Below W.heap.size W w4) ∧ OfM W nb c nm vl av v' (k + 1) (l ++ [x]) (w4.setCell ⟨nb, 1, none⟩ v') := by
  have hvl : ∀ g, v.ownBlock = some g → W.heap.size ≤ g ∧ g < wr.heap.size ∧ ∃ cur, wr.heap[g]? = some (.cells cur 9 (0, 0)) := fun g hg => by
    refine ⟨(owns_ltK h.row g hg).1, (owns_ltK h.row g hg).2, ?_⟩
    obtain ⟨_, h2 | ⟨g', cap, cur, h3, _, h5, _⟩⟩ := h.row
    · rw [h2.1] at hg; simp [Value.ownBlock] at hg
    · rw [h3] at hg; simp [Value.ownBlock] at hg; subst hg; exact ⟨cur, h5⟩
  have hk : ∀ j, j < wr.heap.size → v.ownBlock ≠ some j → w4.heap[j]? = wr.heap[j]? := fun j hj hn => by
    rw [gr.block j (Nat.lt_of_lt_of_le hj hX.size) (fun e => hn e.symm)]
    exact hX.block j hj
  have ty : ∀ {j : Nat} {cs : Array Value} {t : TypeId}, wr.heap[j]? = some (.cells cs t (0, 0)) → t ≠ 9 → v.ownBlock ≠ some j := fun hj ht e => by
    obtain ⟨_, _, cur, q⟩ := hvl _ e
    rw [hj] at q; cases q; exact ht rfl
  have hnb4 : w4.heap[nb]? = some (.cells #[.string (nmZ nm), v] 30 (0, 0)) := (hk nb (lt_of_blk h.nod) (ty h.nod (by decide))).trans h.nod
  have hset : ∀ j, j ≠ nb → (w4.setCell ⟨nb, 1, none⟩ v').heap[j]? = w4.heap[j]? := fun j hj => Below.heap_setCell w4 ⟨nb, 1, none⟩ v' j hj
  have hx : nb ≠ W.heap.size ∧ nb ≠ W.heap.size + 1 := by have := h.nbx; omega
  have hx4 : w4.heap[W.heap.size]? = some (.cells #[.int .i64 c, .int .i64 nm, .int .i64 vl, av] 34 (0, 0)) := (hk _ (lt_of_blk h.x) (ty h.x (by decide))).trans h.x
  have h4 : Below W.heap.size W w4 := (h.low.trans (hX.mono h.low.size)).grown gr (Nat.le_trans h.low.size hX.size) (fun j hj => (hvl j hj).1)
  refine ⟨⟨cell_blk hnb4 rfl, frz_blk hnb4, cell_blk hx4 rfl, h4⟩, ?_, ?_, heap_setC hnb4 v', ?_, ?_, h.nbx⟩
  · rw [hset _ (fun e => hx.1 e.symm)]; exact hx4
  · rw [hset _ (fun e => hx.2 e.symm), hk _ (lt_of_blk h.r) (ty h.r (by decide))]; exact h.r
  · rw [flat_snoc]
    refine ownsRow_blk own' (fun g hg hl => hset g (fun e => ?_))
    obtain ⟨_, h2 | ⟨g', cap, cur, h3, _, h5, _⟩⟩ := own'
    · rw [h2.1] at hg; simp [Value.ownBlock] at hg
    · rw [h3] at hg; simp [Value.ownBlock] at hg; subst hg; rw [e, hnb4] at h5; cases h5
  · exact h4.setCell (p := ⟨nb, 1, none⟩) (by simp; have := h.nbx; omega) v'

theorem OfM.keep {W wr : World} {nb : Nat} {c nm vl : Int} {av v : Value} {k : Nat} {l : List ByteArray} (h : OfM W nb c nm vl av v k l wr) {P : Prop} (hp : P) : wr.cell? ⟨W.heap.size, 3, none⟩ = some av ∧ P := ⟨cell_blk h.x rfl, hp⟩

/-- the node is copied into the result -/
theorem OfM.fin {W wr : World} {nb : Nat} {c nm vl : Int} {av v : Value} {k : Nat} {l : List ByteArray} (h : OfM W nb c nm vl av v k l wr) :
    (wr.cell? ⟨W.heap.size + 1, 0, none⟩ = some (.string ⟨#[]⟩) ∧ wr.cell? ⟨W.heap.size + 1, 1, none⟩ = some (.slice none 0 0) ∧ (∀ o, wr.frozen? ⟨W.heap.size + 1, o, none⟩ = false)) ∧
    (∀ j u, [Value.string (nmZ nm), v][j]? = some u → ((wr.setCell ⟨W.heap.size + 1, 0, none⟩ (.string (nmZ nm))).setCell ⟨W.heap.size + 1, 1, none⟩ v).cell? ((⟨W.heap.size + 1, 0, none⟩ : Addr).add j) = some u) ∧
    ((wr.setCell ⟨W.heap.size + 1, 0, none⟩ (.string (nmZ nm))).setCell ⟨W.heap.size + 1, 1, none⟩ v).ownsRow W.heap.size 9 1 v k (l.flatMap encT) ∧ Below W.heap.size W ((wr.setCell ⟨W.heap.size + 1, 0, none⟩ (.string (nmZ nm))).setCell ⟨W.heap.size + 1, 1, none⟩ v) := by
  have hb := heap_setC (heap_setC (o := 0) h.r (.string (nmZ nm))) (o := 1) v
  refine ⟨⟨cell_blk h.r rfl, cell_blk h.r rfl, fun o => frz_blk h.r⟩, fun j u hu => ?_, ?_, ?_⟩
  · have e : (Addr.add ⟨W.heap.size + 1, 0, none⟩ j) = ⟨W.heap.size + 1, j, none⟩ := by unfold Addr.add; split <;> simp_all
    rw [e]
    refine cell_blk hb ?_
    match j, hu with
    | 0, hu => simpa using hu
    | 1, hu => simpa using hu
    | j + 2, hu => simp at hu
  · refine ownsRow_blk h.row (fun g hg hl => ?_)
    have hne : g ≠ W.heap.size + 1 := fun e => by
      obtain ⟨_, h2 | ⟨g', cap, cur, h3, _, h5, _⟩⟩ := h.row
      · rw [h2.1] at hg; simp [Value.ownBlock] at hg
      · rw [h3] at hg; simp [Value.ownBlock] at hg; subst hg; rw [e, h.r] at h5; cases h5
    rw [Below.heap_setCell _ ⟨W.heap.size + 1, 1, none⟩ _ g hne, Below.heap_setCell _ ⟨W.heap.size + 1, 0, none⟩ _ g hne]
  · exact (h.low.setCell (p := ⟨W.heap.size + 1, 0, none⟩) (by simp) _).setCell (p := ⟨W.heap.size + 1, 1, none⟩) (by simp) _

set_option maxRecDepth 100000 in
set_option maxHeartbeats 4000000 in
theorem stepOf_any (c nm vl : Int) (ao : Option Addr) (ln cap : Nat) (zs : List Int) (W : World) (hln : zs.length = ln) (hn : ln ≤ 9223372036854775807) (h1 : -9223372036854775808 ≤ nm) (h2 : nm ≤ 9223372036854775807) (hz : ∀ z ∈ zs, -9223372036854775808 ≤ z ∧ z ≤ 9223372036854775807) (hrow : RowK 1 encI W ao zs) :
    Calls Try.prog 11 #[.agg #[.int .i64 c, .int .i64 nm, .int .i64 vl, .slice ao ln cap]] W fun e w' => ∃ v, e = .returned (.agg #[.string (nmZ nm), v]) ∧ w'.ownsRow W.heap.size 9 1 v (rdsZ zs).length ((rdsZ zs).flatMap encT) ∧ Below W.heap.size W w' := by
  obtain ⟨i0, hi, hz0, hz1, hz2⟩ := info_parts Try.infoStr
  obtain ⟨pn, hpn, hpe⟩ := pickZ_nat nm 9 (by omega)
  have hnm : nmZ nm = nameAt pn := by unfold nmZ; rw [show ((9 : Nat) : Int) = 9 from rfl] at hpe; rw [hpe]; rfl
  have PK := Lib.hid (show ∀ w, Calls Try.prog 12 #[.int .i64 nm, .int .i64 9] w fun e w' => e = .returned (.int .i64 pn) ∧ w = w' from fun w => (pick_any nm 9 w h1 h2 (by omega) (by omega)).mono fun e w' ⟨q1, q2⟩ => ⟨by rw [q1]; rw [show ((9 : Nat) : Int) = 9 from rfl] at hpe; rw [hpe], q2⟩)
  have HL := Lib.hid hln
  have HZ := Lib.hid hz
  have HR := Lib.hid hrow
  have HNM := Lib.hid hnm
  have hp0 : (0 : Int) ≤ (pn : Int) := by omega
  have hp1 : (pn : Int) < 9 := by omega
  have HP9 := Lib.hid hpn
  have hN := nineV_get hpn
  have NC := Lib.hid (fun W => names_cell W hpn)
  clear hln hz hrow hpe hnm hpn h1 h2
  have hfa := four_allocs W (.cells #[.int .i64 c, .int .i64 nm, .int .i64 vl, .slice ao ln cap] 34) (.cells #[.string ⟨#[]⟩, .slice none 0 0] 30) (.cells nineV 9) (.cells #[.string (nameAt pn), .slice none 0 0] 30)
  have hfb := four_allocs W (.cells #[.int .i64 c, .int .i64 nm, .int .i64 vl, .slice ao ln cap] 34) (.cells #[.string ⟨#[]⟩, .slice none 0 0] 30) (.cells #[.string (nameAt pn), .slice none 0 0] 30) (.cells nineV 9)
  have hbl : ∀ a b c d : Obj, Below W.heap.size W ((((W.alloc a).alloc b).alloc c).alloc d).drew := fun a b c d => (((((Below.refl _ W).alloc (Nat.le_refl _) _).alloc (by simp) _).alloc (by simp; omega) _).alloc (by simp; omega) _).drew
  have M1 := Lib.hid (show OfM W (W.heap.size + 1 + 1 + 1) c nm vl (.slice ao ln cap) (.slice none 0 0) 0 [] ((((W.alloc (.cells #[.int .i64 c, .int .i64 nm, .int .i64 vl, .slice ao ln cap] 34)).alloc (.cells #[.string ⟨#[]⟩, .slice none 0 0] 30)).alloc (.cells nineV 9)).alloc (.cells #[.string (nameAt pn), .slice none 0 0] 30)).drew from
    ⟨hfa.1, hfa.2.1, by rw [HNM.out]; exact hfa.2.2.2, World.ownsRow_nil _ _ _ _, hbl _ _ _ _, by omega⟩)
  have M2 := Lib.hid (show OfM W (W.heap.size + 1 + 1) c nm vl (.slice ao ln cap) (.slice none 0 0) 0 [] ((((W.alloc (.cells #[.int .i64 c, .int .i64 nm, .int .i64 vl, .slice ao ln cap] 34)).alloc (.cells #[.string ⟨#[]⟩, .slice none 0 0] 30)).alloc (.cells #[.string (nameAt pn), .slice none 0 0] 30)).alloc (.cells nineV 9)).drew from
    ⟨hfb.1, hfb.2.1, by rw [HNM.out]; exact hfb.2.2.1, World.ownsRow_nil _ _ _ _, hbl _ _ _ _, by omega⟩)
  clear hfa hfb hbl
  go_enter Try.func11, Try.ntmps11
  go_upto_region 1 with (fail)
  go_cut [3] (fun s3 wc => ∃ nb, s3 = .pointer (some ⟨nb, 0, none⟩) ∧ OfM W nb c nm vl (.slice ao ln cap) (.slice none 0 0) 0 [] wc)
  case first =>
    go_region_law (first
      | (go_simp; go_at_call 24; refine (names_any _).mono ?_; rintro e w' ⟨rfl, rfl⟩)
      | (go_simp; go_at_call 12; (with_reducible refine (PK.out _).mono ?_); rintro e w' ⟨rfl, rfl⟩))
    all_goals (go_wp2_with fail; go_meet; first | exact ⟨_, rfl, M1.out⟩ | exact ⟨_, rfl, M2.out⟩)
  case rest =>
    obtain ⟨nb, rfl, hm⟩ := hcut
    have MM := Lib.hid hm
    clear hm M1 M2
    go_wp2
    go_loopw [4] (fun i wr => ∃ (k : Nat) (v : Value), k ≤ ln ∧ k ≤ 6 ∧ i = .int .i64 k ∧ OfM W nb c nm vl (.slice ao ln cap) v k ((zs.take k).map nmZ) wr) (fun i _ => 6 - (intOf i).toNat)
    case atStart => exact ⟨0, _, Nat.zero_le _, by omega, rfl, MM.out⟩
    case round =>
      obtain ⟨k, v, hk, hk6, rfl, hof⟩ := hrel
      have OF := Lib.hid hof
      have cx1 := cell_blk (o := 3) hof.x rfl
      have cn0 := cell_blk (o := 0) hof.nod rfl
      have cn1 := cell_blk (o := 1) hof.nod rfl
      have fn := frz_blk (o := 1) hof.nod
      obtain ⟨vo, vc, rfl⟩ : ∃ a c, v = .slice a k c := by
        rcases hof.row.2 with ⟨h1, h2⟩ | ⟨g, cap, cur, h1, _⟩
        · exact ⟨none, 0, by rw [h1, h2]⟩
        · exact ⟨_, _, h1⟩
      clear hof
      have k0 : (0 : Int) ≤ (k : Int) := by omega
      by_cases hlt : k < ln
      · have k1 : (k : Int) < (ln : Int) := by omega
        by_cases h6 : k < 6
        · have k6 : (k : Int) < 6 := by omega
          have hkz : k < zs.length := by rw [HL.out]; exact hlt
          obtain ⟨b0, off, rfl, hlb, hce⟩ := HR.out k zs[k] (List.getElem?_eq_getElem hkz)
          have hc0 := hce 0 _ rfl
          rw [Nat.mul_one, Nat.add_zero] at hc0
          have cz : wr.cell? ⟨b0, off + k, none⟩ = some (.int .i64 zs[k]) := by rw [OF.out.low.cell (p := ⟨b0, off + k, none⟩) hlb]; exact hc0
          obtain ⟨hz1', hz2'⟩ := HZ.out zs[k] (List.getElem_mem hkz)
          have HTK := Lib.hid (show (zs.take (k + 1)).map nmZ = (zs.take k).map nmZ ++ [nmZ zs[k]] from by rw [List.take_succ_eq_append_getElem hkz, List.map_append]; rfl)
          obtain ⟨pz, hpz, hpe⟩ := pickZ_nat zs[k] 9 (by omega)
          have hnz : nmZ zs[k] = nameAt pz := by unfold nmZ; rw [show ((9 : Nat) : Int) = 9 from rfl] at hpe; rw [hpe]; rfl
          have PZ := Lib.hid (show ∀ w, Calls Try.prog 12 #[.int .i64 zs[k], .int .i64 9] w fun e w' => e = .returned (.int .i64 pz) ∧ w = w' from fun w => (pick_any zs[k] 9 w hz1' hz2' (by omega) (by omega)).mono fun e w' ⟨q1, q2⟩ => ⟨by rw [q1]; rw [show ((9 : Nat) : Int) = 9 from rfl] at hpe; rw [hpe], q2⟩)
          rw [hnz] at HTK
          have hNz := nineV_get hpz
          have hpz0 : (0 : Int) ≤ (pz : Int) := by omega
          have hpz1 : (pz : Int) < 9 := by omega
          obtain ⟨z, hzz⟩ : ∃ z, zs[k] = z := ⟨_, rfl⟩
          rw [hzz] at cz PZ
          obtain ⟨nz, hnzz⟩ : ∃ nz, nameAt pz = nz := ⟨_, rfl⟩
          rw [hnzz] at hNz HTK
          have hXX : Below wr.heap.size wr (((wr.alloc (.cells nineV 9)).alloc (.cells #[.string nz] 9)).drew) := (((Below.refl _ wr).alloc (Nat.le_refl _) _).alloc (by simp) _).drew
          have HOD := Lib.hid (ownsRow_blk OF.out.row (fun g _ hl => hXX.block g hl))
          have NEW := Lib.hid (show ∀ j u, (encT nz)[j]? = some u → (((wr.alloc (.cells nineV 9)).alloc (.cells #[.string nz] 9)).drew).cell? ((⟨wr.heap.size + 1, 0, none⟩ : Addr).add j) = some u from cells_at (wr.alloc (.cells nineV 9)) (encT nz) 9 (wr.heap.size + 1) (by simp))
          have NXT := Lib.hid (fun (v' : Value) (w4 : World) own gr => OF.out.next (w4 := w4) (v' := v') (x := nz) hXX own gr)
          have cx2 := cell_up cx1 (.cells nineV 9)
          have cn2 := cell_up cn1 (.cells nineV 9)
          have cz2 := cell_up cz (.cells nineV 9)
          have cn3 := cell_up cn2 (.cells #[.string nz] 9)
          clear hXX
          clear hce hc0 hz1' hz2' hpe hnz hzz hpz hkz hnzz
          go_wp2
          go_region_law (first
            | (go_simp; go_at_call 24; refine (names_any _).mono ?_; rintro e w' ⟨rfl, rfl⟩)
            | (go_simp; go_at_call 12; (with_reducible refine (PZ.out _).mono ?_); rintro e w' ⟨rfl, rfl⟩)
            | (refine step_own (by rfl) (.tmp 24) (.tmp 34) 28 (by rfl) W.heap.size 9 i0 (.string (ByteArray.mk #[])) 1 16 Try.underlying28 hi hz0 hz1 hz2 (by rfl) (by decide) (.slice vo k vc) k (((zs.take k).map nmZ).flatMap encT) ?_ ?_ ⟨wr.heap.size + 1, 0, none⟩ 1 1 (encT nz) ?_ (by rfl) ?_ (encT_one _) ?_ ?_ ?_ ?_; (simp [Act.eval, Act.put]); (with_reducible exact HOD.out); (simp [Act.eval, Act.put]); (with_reducible exact NEW.out); (unfold maxLen; omega); omega; (have := OF.out.low.size; simp; omega); intro v' w4 own gr; obtain ⟨g', cap', rfl⟩ := ownsRow_succ own; obtain ⟨⟨hc4, hf4, _, _⟩, hnx⟩ := NXT.out _ _ own gr; have N4 := Lib.hid hnx; clear own gr hnx))
          all_goals
            go_wp2
            go_roundw
            case rel => exact ⟨k + 1, _, by omega, by omega, by go_num, by rw [HTK.out]; exact N4.out⟩
            case measure => simp [intOf]; omega
        · have k6 : ¬ (k : Int) < 6 := by omega
          have hrd : (zs.take k).map nmZ = rdsZ zs := by unfold rdsZ; rw [show k = 6 from by omega]
          have hrl : (rdsZ zs).length = k := by rw [← hrd, List.length_map, List.length_take, HL.out]; omega
          have HF := Lib.hid OF.out.fin
          obtain ⟨hr0, hr1, hrf⟩ := HF.out.1
          have hrf0 := hrf 0
          have hrf1 := hrf 1
          rw [hrd] at HF
          have HRL := Lib.hid hrl
          clear hrf hrl hrd
          go_wp2
          refine bodyPost_ret (results_cellA rfl rfl (by kernel_rfl) (by kernel_rfl) HF.out.2.1) rfl ⟨_, rfl, ?_, HF.out.2.2.2⟩
          rw [HRL.out]; exact HF.out.2.2.1
      · have k1 : ¬ (k : Int) < (ln : Int) := by omega
        have hrd : (zs.take k).map nmZ = rdsZ zs := by
          unfold rdsZ
          rw [List.take_of_length_le (by rw [HL.out]; omega), List.take_of_length_le (by rw [HL.out]; omega)]
        have hrl : (rdsZ zs).length = k := by rw [← hrd, List.length_map, List.length_take, HL.out]; omega
        have HF := Lib.hid OF.out.fin
        obtain ⟨hr0, hr1, hrf⟩ := HF.out.1
        have hrf0 := hrf 0
        have hrf1 := hrf 1
        rw [hrd] at HF
        have HRL := Lib.hid hrl
        clear hrf hrl hrd
        go_wp2
        refine bodyPost_ret (results_cellA rfl rfl (by kernel_rfl) (by kernel_rfl) HF.out.2.1) rfl ⟨_, rfl, ?_, HF.out.2.2.2⟩
        rw [HRL.out]; exact HF.out.2.2.1

end Go.Proofs.Ytgbnhngaeefmkaa
