/-
  Flows: read. Flows: read, walked. Flows: Drop.
-/
import Derived.Test.YtffifhbldcjelaaGreatDoorDs04

/-! Flows: read. -/
namespace Go.Proofs.YtffifhbldcjelaaGreatDoor
set_option linter.unusedVariables false
set_option linter.unusedSimpArgs false
open Go.RowKit

def memB (l : List ByteArray) (m : ByteArray) : Bool := l.any fun r => decide (r = m)
theorem memB_iff {l : List ByteArray} {m : ByteArray} : memB l m = true ↔ m ∈ l := by unfold memB; simp
theorem memB_nil (m : ByteArray) : memB [] m = false := rfl
theorem memB_take {l : List ByteArray} {k : Nat} (h : k < l.length) (m : ByteArray) : memB (l.take (k + 1)) m = (memB (l.take k) m || decide (l[k] = m)) := by
  unfold memB
  rw [List.take_succ_eq_append_getElem h, List.any_append]
  simp

theorem RowP.mv {B : Nat} {W W' : World} {v : Value} {ps : List Nat} (h : RowP W v ps) (hm : Mv B W W') : RowP W' v ps :=
  h.kept (fun g cur fr hg => hm.block g (lt_of_blk hg) (fun c => by
    rcases c.2 with ⟨es, c', q⟩ | ⟨cs, fr', q⟩
    · rw [hg] at q; cases q
    · rw [hg] at q; cases q))

theorem RowP.at {W : World} {ao : Option Addr} {len cap : Nat} {ps : List Nat} (h : RowP W (.slice ao len cap) ps) {i p : Nat} (hi : ps[i]? = some p) : ∃ b off, ao = some ⟨b, off, none⟩ ∧ W.cell? ⟨b, off + i, none⟩ = some (.pointer (some ⟨p, 0, none⟩)) := by
  obtain ⟨ao', cap', h1, _, h3⟩ := h
  cases h1
  rcases h3 with h3 | ⟨g, o, cur, fr, h4, h5, h6⟩
  · rw [h3] at hi; simp at hi
  · exact ⟨g, o, h4, cell_blk h5 (h6 i p hi)⟩

section
variable {B : Nat} {W : World} {f M : Nat} {bl rb : ByteArray → Nat} {sl : ByteArray → Value} {F : List En} {Q : ByteArray → En → Bool}

theorem RepQ.cells (h : RepQ B W f M bl rb sl F Q) {e : En} (he : e ∈ F) : Cells W (bl e.nm) e (sl e.nm) (rb e.nm) := cells_ent (h.ent e he)

/-- the slice of reads is set -/
theorem RepQ.fin (h : RepQ B W f M bl rb sl F Q) {e : En} (he : e ∈ F) {n : ByteArray} (hn : e.nm = n) {lv : Value} {rs : List ByteArray} (hrow : RowP W lv (rs.map bl)) (hq : ∀ m x, Q m x = if x.nm = n then memB rs m else hasR x m) :
    Rep B (W.setCell ⟨bl n, 4, none⟩ lv) f M bl rb (upV sl n lv) (updF F n fun x => { x with rds := rs }) ∧ Mv B W (W.setCell ⟨bl n, 4, none⟩ lv) := by
  subst hn
  have hb := h.ent e he
  have hk : ∀ k, k ≠ bl e.nm → (W.setCell ⟨bl e.nm, 4, none⟩ lv).heap[k]? = W.heap[k]? := fun k hk => Below.heap_setCell W ⟨bl e.nm, 4, none⟩ lv k hk
  have hcell : ∀ {k : Nat} {cs : Array Value} {t : TypeId} {fr : Nat × Nat}, W.heap[k]? = some (.cells cs t fr) → t ≠ 58 → k ≠ bl e.nm := fun hkk ht e1 => by
    rw [e1, hb] at hkk
    unfold entC at hkk
    cases hkk; exact ht rfl
  have hmap : ∀ {k : Nat} {es : Array MapEntry} {c : Nat}, W.heap[k]? = some (.map es c) → k ≠ bl e.nm := fun hkk e1 => by rw [e1, hb] at hkk; cases hkk
  have hnm : ∀ x : En, (if x.nm = e.nm then { x with rds := rs } else x : En).nm = x.nm := fun x => by split <;> rfl
  have hin : ∀ {y : En}, y ∈ updF F e.nm (fun x => { x with rds := rs }) → ∃ x ∈ F, y = (if x.nm = e.nm then { x with rds := rs } else x : En) := fun hy => by
    obtain ⟨x, hx, rfl⟩ := List.mem_map.1 hy; exact ⟨x, hx, rfl⟩
  have hR : ∀ (m : ByteArray), ((updF F e.nm fun x => { x with rds := rs }).filter (hasR · m)) = (F.filter (Q m)).map (fun x => if x.nm = e.nm then { x with rds := rs } else x) := fun m => by
    unfold updF
    rw [List.filter_map]
    congr 1
    refine List.filter_congr fun x hx => ?_
    show hasR (if x.nm = e.nm then { x with rds := rs } else x) m = Q m x
    rw [hq m x]
    by_cases hxe : x.nm = e.nm
    · rw [if_pos hxe, if_pos hxe]; rfl
    · rw [if_neg hxe, if_neg hxe]
  obtain ⟨L, hL, hp⟩ := h.names
  obtain ⟨es0, c0, hm0⟩ : ∃ es c, W.heap[M]? = some (.map es c) := by obtain ⟨es, c, q, _⟩ := hL; exact ⟨es, c, q⟩
  refine ⟨⟨(hk f (hcell h.flow (by decide))).trans h.flow, ⟨L, hL.kept (hk M (hmap hm0)), ?_⟩, fun y hy => ?_, fun y hy => ?_, fun y hy => ?_, fun a ha b hb' e1 => ?_, fun a ha b hb' e1 => ?_, fun y hy => ?_, h.baseM, fun y hy => ?_, fun y hy => ?_, ?_⟩, ?_⟩
  · unfold updF
    rw [List.map_map]
    rw [List.map_congr_left (g := fun x => ((.string x.nm, ptr (bl x.nm)) : Value × Value)) (fun x hx => by show (Value.string (if x.nm = e.nm then { x with rds := rs } else x : En).nm, _) = _; rw [hnm])]
    exact hp
  · obtain ⟨x, hx, rfl⟩ := hin hy
    rw [hnm]
    by_cases hxe : x.nm = e.nm
    · obtain rfl := h.srt.inj x hx e he hxe
      rw [if_pos rfl, upV_same, heap_setC hb]; rfl
    · rw [if_neg hxe, upV_other hxe, hk _ (fun e1 => hxe (h.injB x hx e he e1))]; exact h.ent x hx
  · obtain ⟨x, hx, rfl⟩ := hin hy
    rw [hnm]
    have hkr : ∀ (g : Nat) (cur : Array Value) (fr : Nat × Nat), W.heap[g]? = some (Obj.cells cur 53 fr) → (W.setCell ⟨bl e.nm, 4, none⟩ lv).heap[g]? = W.heap[g]? := fun g cur fr hg => hk g (hcell hg (by decide))
    by_cases hxe : x.nm = e.nm
    · rw [if_pos hxe, hxe, upV_same]; exact hrow.kept hkr
    · rw [if_neg hxe, upV_other hxe]; exact (h.row x hx).kept hkr
  · obtain ⟨x, hx, rfl⟩ := hin hy
    rw [hnm]
    obtain ⟨L', hL', hp'⟩ := h.rdr x hx
    obtain ⟨es1, c1, hm1⟩ := h.mapR hx
    refine ⟨L', hL'.kept (hk _ (hmap hm1)), ?_⟩
    rw [hR, List.map_map]
    rw [List.map_congr_left (g := fun x => ((ptr (bl x.nm), .bool true) : Value × Value)) (fun x hx => by show (ptr (bl (if x.nm = e.nm then { x with rds := rs } else x : En).nm), _) = _; rw [hnm])]
    exact hp'
  · obtain ⟨x, hx, rfl⟩ := hin ha
    obtain ⟨y, hy, rfl⟩ := hin hb'
    rw [hnm, hnm] at e1 ⊢; exact h.injB x hx y hy e1
  · obtain ⟨x, hx, rfl⟩ := hin ha
    obtain ⟨y, hy, rfl⟩ := hin hb'
    rw [hnm, hnm] at e1 ⊢; exact h.injR x hx y hy e1
  · obtain ⟨x, hx, rfl⟩ := hin hy; rw [hnm]; exact h.rbM x hx
  · obtain ⟨x, hx, rfl⟩ := hin hy; rw [hnm]; exact h.baseB x hx
  · obtain ⟨x, hx, rfl⟩ := hin hy; rw [hnm]; exact h.baseR x hx
  · unfold SortedF updF
    refine List.pairwise_map.2 (h.srt.imp (fun {a b} hlt => ?_))
    rw [hnm, hnm]; exact hlt
  · refine ⟨rfl, rfl, rfl, by simp, fun k hk' hnm' => hk k (fun e1 => hnm' ?_)⟩
    rw [e1]; exact ⟨h.baseB e he, .inr ⟨_, _, hb⟩⟩

/-- the first loop: k reads are struck -/
def Q1 (n : ByteArray) (old : List ByteArray) (k : Nat) : ByteArray → En → Bool := fun m x => hasR x m && !(decide (x.nm = n) && memB (old.take k) m)
/-- the second loop: k reads are laid -/
def Q2 (n : ByteArray) (new : List ByteArray) (k : Nat) : ByteArray → En → Bool := fun m x => if x.nm = n then memB (new.take k) m else hasR x m

theorem q1_zero (n : ByteArray) (old : List ByteArray) (m : ByteArray) (x : En) : Q1 n old 0 m x = hasR x m := by simp [Q1, memB]

theorem q1_end {e : En} {n : ByteArray} (hs : SortedF F) (he : e ∈ F) (hn : e.nm = n) (new : List ByteArray) (m : ByteArray) {x : En} (hx : x ∈ F) : Q1 n e.rds e.rds.length m x = Q2 n new 0 m x := by
  unfold Q1 Q2
  rw [List.take_length, List.take_zero]
  by_cases h : x.nm = n
  · obtain rfl := hs.inj x hx e he (h.trans hn.symm)
    rw [if_pos h]
    simp only [h, decide_true, Bool.true_and, memB_nil]
    show (memB x.rds m && !memB x.rds m) = false
    simp
  · rw [if_neg h]; simp [h]

end
end Go.Proofs.YtffifhbldcjelaaGreatDoor

/-! Flows: read, walked. -/
namespace Go.Proofs.YtffifhbldcjelaaGreatDoor
set_option linter.unusedVariables false
set_option linter.unusedSimpArgs false
open Go.RowKit

section
variable {B : Nat} {W : World} {f M : Nat} {bl rb : ByteArray → Nat} {sl : ByteArray → Value} {F : List En}

theorem infoE : ∃ j, Tryz.prog.info? 58 = some j ∧ j.size ≠ 0 := by
  have h : (Tryz.prog.info? 58).map (·.size) = some 6 := by kernel_rfl
  rcases hj : Tryz.prog.info? 58 with _ | j
  · rw [hj] at h; cases h
  · rw [hj] at h
    simp at h
    exact ⟨j, rfl, by omega⟩
theorem keyP : RawKey Tryz.prog 53 goodP := by
  obtain ⟨j, h1, h2⟩ := infoE
  exact rawPtr Tryz.underlying53 h1 h2

/-- a read is struck -/
theorem step1 {wr : World} {n : ByteArray} {e : En} (he : e ∈ F) (hn : e.nm = n) (hC : Closed F) {k : Nat} (hk : k < e.rds.length) (h : RepQ B wr f M bl rb sl F (Q1 n e.rds k)) :
    ∃ L, RawMap wr (rb e.rds[k]) L ∧ KeysGood goodP wr L ∧ (∃ d ∈ F, d.nm = e.rds[k]) ∧ ∀ ob, RawMap (wr.putObj (rb e.rds[k]) ob) (rb e.rds[k]) (delV (ptr (bl n)) L) → RepQ B (wr.putObj (rb e.rds[k]) ob) f M bl rb sl F (Q1 n e.rds (k + 1)) ∧ Mv B wr (wr.putObj (rb e.rds[k]) ob) := by
  obtain ⟨d, hd, hdn⟩ := hC e he e.rds[k] (List.getElem_mem hk)
  obtain ⟨L, hL, hp⟩ := h.rdr d hd
  rw [hdn] at hL
  refine ⟨L, hL, h.good hp, ⟨d, hd, hdn⟩, fun ob hob => ?_⟩
  rw [← hdn] at hob ⊢
  obtain ⟨r1, r2⟩ := h.turn hd ob hob (del_perm h hp he hn)
  refine ⟨r1.cong (fun y hy x hx => ?_), r2⟩
  unfold Q1
  rw [memB_take hk, ← hdn]
  by_cases h1 : y.nm = d.nm
  · rw [if_pos h1, h1]
    cases hasR x d.nm <;> cases memB (e.rds.take k) d.nm <;> by_cases h2 : x.nm = n <;> simp [h2]
  · rw [if_neg h1]
    have h3 : ¬ d.nm = y.nm := fun q => h1 q.symm
    simp [h3]

/-- a read is laid -/
theorem step2 {wr : World} {n : ByteArray} {e : En} (he : e ∈ F) (hn : e.nm = n) {new : List ByteArray} (hin : ∀ r ∈ new, ∃ d ∈ F, d.nm = r) (hnd : new.Nodup) {k : Nat} (hk : k < new.length) (h : RepQ B wr f M bl rb sl F (Q2 n new k)) :
    ∃ L, RawMap wr (rb new[k]) L ∧ KeysGood goodP wr L ∧ (∃ d ∈ F, d.nm = new[k]) ∧ ∀ ob, RawMap (wr.putObj (rb new[k]) ob) (rb new[k]) (putV (ptr (bl n)) (.bool true) L) → RepQ B (wr.putObj (rb new[k]) ob) f M bl rb sl F (Q2 n new (k + 1)) ∧ Mv B wr (wr.putObj (rb new[k]) ob) := by
  obtain ⟨d, hd, hdn⟩ := hin new[k] (List.getElem_mem hk)
  obtain ⟨L, hL, hp⟩ := h.rdr d hd
  rw [hdn] at hL
  refine ⟨L, hL, h.good hp, ⟨d, hd, hdn⟩, fun ob hob => ?_⟩
  have hq : Q2 n new k d.nm e = false := by
    unfold Q2
    rw [if_pos hn, Bool.eq_false_iff, ne_eq, memB_iff, hdn]
    intro hm
    obtain ⟨i, hi, hg⟩ := List.mem_iff_getElem.1 hm
    rw [List.length_take] at hi
    rw [List.getElem_take] at hg
    have := (List.getElem_inj hnd).1 hg
    omega
  rw [← hdn] at hob ⊢
  obtain ⟨r1, r2⟩ := h.turn hd ob hob (put_perm h hp he hn hq)
  refine ⟨r1.cong (fun y hy x hx => ?_), r2⟩
  unfold Q2
  rw [memB_take hk, ← hdn]
  by_cases h1 : y.nm = d.nm
  · rw [if_pos h1, h1]
    by_cases h2 : x.nm = n <;> simp [h2]
  · rw [if_neg h1]
    have h3 : ¬ d.nm = y.nm := fun q => h1 q.symm
    simp [h3]

def RdP (B : Nat) (W : World) (f M : Nat) (bl rb : ByteArray → Nat) (sl : ByteArray → Value) (F' : List En) (e : Ending) (w' : World) : Prop :=
  e = .returned (.tuple #[]) ∧ Rep B w' f M bl rb sl F' ∧ Mv B W w'

set_option maxRecDepth 100000 in
set_option maxHeartbeats 2000000 in
theorem read_any (h : Rep B W f M bl rb sl F) (hC : Closed F) {e : En} {n : ByteArray} (he : e ∈ F) (hn : e.nm = n) (ao : Option Addr) (ln cap : Nat) (new : List ByteArray) (hrow : RowP W (.slice ao ln cap) (new.map bl)) (hin : ∀ r ∈ new, ∃ d ∈ F, d.nm = r) (hnd : new.Nodup) (hl1 : e.rds.length ≤ 1000) (hl2 : new.length ≤ 1000) :
    Calls Tryz.prog 23 #[.pointer (some ⟨bl n, 0, none⟩), .slice ao ln cap] W (RdP B W f M bl rb (upV sl n (.slice ao ln cap)) (updF F n fun x => { x with rds := new })) := by
  have hln : ln = new.length := by obtain ⟨_, _, h1, _⟩ := hrow; cases h1; simp
  obtain ⟨oo, oc, hso, _, _⟩ := h.row e he
  rw [List.length_map, hn] at hso
  have hRowO := h.row e he
  rw [hn, hso] at hRowO
  obtain ⟨c0, c1, c2, c3, c4, c5, fz⟩ := cells_ent (h.ent e he)
  rw [hn, hso] at c4
  have f4 := fz 4
  rw [hn] at f4
  obtain ⟨no, hno⟩ : ∃ no, e.rds.length = no := ⟨_, rfl⟩
  rw [hno] at hl1 c4 hRowO
  rw [← hln] at hl2
  have NO := Lib.hid hno
  have LN := Lib.hid hln
  have H0 := Lib.hid (h.toQ.cong (Q' := Q1 n e.rds 0) (fun y hy x hx => (q1_zero n e.rds y.nm x).symm))
  have ROWO := Lib.hid hRowO
  have ROWN := Lib.hid hrow
  have HQE := Lib.hid (fun m x (hx : x ∈ F) => q1_end h.srt he hn new m hx)
  have HIN := Lib.hid hin
  have HE := Lib.hid he
  have HEN := Lib.hid hn
  clear h hso hRowO c0 c1 c2 c3 c5 fz hno hln hrow hin hn
  go_enter Tryz.func23, Tryz.ntmps23
  go_wp2
  go_loopw [13] (fun i wr => ∃ k : Nat, k ≤ no ∧ i = .int .i64 k ∧ RepQ B wr f M bl rb sl F (Q1 n e.rds k) ∧ Mv B W wr) (fun i _ => no - (intOf i).toNat)
  case atStart => exact ⟨0, Nat.zero_le _, rfl, H0.out, Mv.refl _ _⟩
  case round =>
    obtain ⟨k, hk, rfl, hrq, hmv⟩ := hrel
    have RQ := Lib.hid hrq
    have MV := Lib.hid hmv
    clear hrq hmv
    by_cases hlt : k < no
    · have hke : k < e.rds.length := by rw [NO.out]; exact hlt
      obtain ⟨L, hL, hg, ⟨d, hd, hdn⟩, hst⟩ := step1 HE.out HEN.out hC hke RQ.out
      obtain ⟨rb0, off, rfl, hce⟩ := (ROWO.out.mv MV.out).at (i := k) (p := bl e.rds[k]) (by rw [List.getElem?_map, List.getElem?_eq_getElem hke]; rfl)
      have hc5 := (RQ.out.cells hd).c5
      have hgE := RQ.out.goodE HE.out
      rw [hdn] at hc5
      rw [HEN.out] at hgE
      obtain ⟨x, hx⟩ : ∃ x, e.rds[k] = x := ⟨_, rfl⟩
      rw [hx] at hL hst hce hc5
      have HL := Lib.hid hL
      have HG := Lib.hid hg
      have HST := Lib.hid hst
      have HGE := Lib.hid hgE
      have k0 : (0 : Int) ≤ (k : Int) := by omega
      have k1 : (k : Int) < (no : Int) := by omega
      clear hL hg hst hd hdn hx hgE
      go_wp2_with (refine wpList_delete_raw _ rfl (.tmp 20) (.tmp 21) 56 53 4 (by rfl) Tryz.underlying56 keyP (rb x) L (by rfl) HL.out HG.out (.pointer (some ⟨bl n, 0, none⟩)) (by rfl) HGE.out ?_; intro ob hob; have NX := Lib.hid (HST.out ob hob); clear hob)
      go_roundw
      case rel => exact ⟨k + 1, by omega, by go_num, NX.out.1, MV.out.trans NX.out.2⟩
      case measure => simp [intOf]; omega
    · have hkn : k = no := by omega
      have R0 := Lib.hid (show RepQ B wr f M bl rb sl F (Q2 n new 0) from by
        have := RQ.out
        rw [hkn, ← NO.out] at this
        exact this.cong (fun y hy x hx => HQE.out y.nm x hx))
      clear hkn RQ
      obtain ⟨w1, rfl⟩ : ∃ w1 : World, w1 = wr := ⟨_, rfl⟩
      go_wp2
      go_loopw [25] (fun i wr => ∃ j : Nat, j ≤ ln ∧ i = .int .i64 j ∧ RepQ B wr f M bl rb sl F (Q2 n new j) ∧ Mv B W wr) (fun i _ => ln - (intOf i).toNat)
      case atStart => exact ⟨0, Nat.zero_le _, rfl, R0.out, MV.out⟩
      case round =>
        obtain ⟨j, hj, rfl, hrq, hmv⟩ := hrel
        have RQ := Lib.hid hrq
        have MV2 := Lib.hid hmv
        clear hrq hmv
        by_cases hlj : j < ln
        · have hjn : j < new.length := by rw [← LN.out]; exact hlj
          obtain ⟨L, hL, hg, ⟨d, hd, hdn⟩, hst⟩ := step2 HE.out HEN.out HIN.out hnd hjn RQ.out
          obtain ⟨rb0, off, rfl, hce⟩ := (ROWN.out.mv MV2.out).at (i := j) (p := bl new[j]) (by rw [List.getElem?_map, List.getElem?_eq_getElem hjn]; rfl)
          have hc5 := (RQ.out.cells hd).c5
          have hgE := RQ.out.goodE HE.out
          rw [hdn] at hc5
          rw [HEN.out] at hgE
          obtain ⟨x, hx⟩ : ∃ x, new[j] = x := ⟨_, rfl⟩
          rw [hx] at hL hst hce hc5
          have HL := Lib.hid hL
          have HG := Lib.hid hg
          have HST := Lib.hid hst
          have HGE := Lib.hid hgE
          have k0 : (0 : Int) ≤ (j : Int) := by omega
          have k1 : (j : Int) < (ln : Int) := by omega
          clear hL hg hst hd hdn hx hgE
          go_wp2_with (refine wpList_mapUpdate_raw _ rfl (.tmp 32) (.tmp 33) (.const (.bool true)) 56 (by rfl) 53 4 Tryz.underlying56 keyP (rb x) L (by rfl) HL.out HG.out (.pointer (some ⟨bl n, 0, none⟩)) (.bool true) (by rfl) (by rfl) HGE.out ?_; intro ob hob; have NX := Lib.hid (HST.out ob hob); clear hob)
          go_roundw
          case rel => exact ⟨j + 1, by omega, by go_num, NX.out.1, MV2.out.trans NX.out.2⟩
          case measure => simp [intOf]; omega
        · have hjn : j = ln := by omega
          have hQ := RQ.out
          rw [hjn, LN.out] at hQ
          have FIN := Lib.hid (hQ.fin HE.out HEN.out (ROWN.out.mv MV2.out) (fun m x => by unfold Q2; rw [List.take_length]))
          obtain ⟨q0, q1, q2, q3, q4, q5, qf⟩ := RQ.out.cells HE.out
          have g4 := qf 4
          rw [HEN.out] at q4 g4
          clear hQ hjn q0 q1 q2 q3 q5 qf RQ R0
          go_wp2
          go_end0
          exact ⟨rfl, FIN.out.1, MV2.out.trans FIN.out.2⟩
end

end Go.Proofs.YtffifhbldcjelaaGreatDoor

/-! Flows: Drop. -/
namespace Go.Proofs.YtffifhbldcjelaaGreatDoor
set_option linter.unusedVariables false
set_option linter.unusedSimpArgs false
open Go.RowKit

def outF (F : List En) (n : ByteArray) : List En := F.filter (fun x => !decide (x.nm = n))
def dropOk (F : List En) (n : ByteArray) : Bool := (atF F n).isSome && (F.filter (hasR · n)).isEmpty
def dropF (F : List En) (n : ByteArray) : List En := if dropOk F n = true then outF F n else F

section
variable {B : Nat} {W : World} {f M : Nat} {bl rb : ByteArray → Nat} {sl : ByteArray → Value} {F : List En}

theorem Rep.dropped {W' : World} (h : Rep B W f M bl rb sl F) {n : ByteArray} {e : En} (he : e ∈ F) (hn : e.nm = n) (hr : e.rds = []) (hk : ∀ k, k ≠ M → W'.heap[k]? = W.heap[k]?)
    (hM : ∀ L, RawMap W M L → RawMap W' M (delV (.string n) L)) : Rep B W' f M bl rb sl (outF F n) := by
  have hsub : ∀ {x : En}, x ∈ outF F n → x ∈ F := fun hx => (List.mem_filter.1 hx).1
  obtain ⟨L, hL, hp⟩ := h.names
  refine ⟨(hk f (h.neM h.flow)).trans h.flow, ⟨_, hM L hL, ?_⟩, fun x hx => (hk _ (h.neM (h.ent x (hsub hx)))).trans (h.ent x (hsub hx)), fun x hx => (h.row x (hsub hx)).kept (fun g cur fr hg => hk g (h.neM hg)), fun x hx => ?_, fun a ha b hb => h.injB a (hsub ha) b (hsub hb), fun a ha b hb => h.injR a (hsub ha) b (hsub hb), fun x hx => h.rbM x (hsub hx), h.baseM, fun x hx => h.baseB x (hsub hx), fun x hx => h.baseR x (hsub hx), h.srt.sublist List.filter_sublist⟩
  · rw [delV_filter ((hp.map _).nodup_iff.2 (names_nodup h.srt bl))]
    refine (hp.filter _).trans (List.Perm.of_eq ?_)
    rw [List.filter_map]
    unfold outF
    congr 1
    refine List.filter_congr fun x hx => ?_
    rw [Bool.eq_iff_iff]
    simp only [Function.comp, decide_eq_true_eq, Bool.not_eq_true', decide_eq_false_iff_not]
    constructor
    · intro q e1; exact q (by rw [e1])
    · intro q e1; exact q (str_inj e1)
  · obtain ⟨L', hL', hp'⟩ := h.rdr x (hsub hx)
    refine ⟨L', hL'.kept (hk _ (h.rbM x (hsub hx))), ?_⟩
    have e2 : (outF F n).filter (hasR · x.nm) = F.filter (hasR · x.nm) := by
      unfold outF
      rw [List.filter_filter]
      refine List.filter_congr fun y hy => ?_
      by_cases hyn : y.nm = n
      · obtain rfl := h.srt.inj y hy e he (hyn.trans hn.symm)
        have : hasR y x.nm = false := by unfold hasR; rw [hr]; rfl
        rw [this]; rfl
      · simp [hyn]
    rw [e2]; exact hp'

theorem outF_upd (F : List En) (n : ByteArray) (g : En → En) (hg : ∀ x, (g x).nm = x.nm) : outF (updF F n g) n = outF F n := by
  unfold outF updF
  rw [List.filter_map]
  have e1 : F.filter ((fun x => !decide (x.nm = n)) ∘ fun e => if e.nm = n then g e else e) = F.filter (fun x => !decide (x.nm = n)) := List.filter_congr fun x hx => by
    show (!decide ((if x.nm = n then g x else x).nm = n)) = _
    by_cases h : x.nm = n
    · rw [if_pos h, hg x]
    · rw [if_neg h]
  rw [e1]
  conv => rhs; rw [← List.map_id (F.filter (fun x => !decide (x.nm = n)))]
  refine List.map_congr_left fun x hx => ?_
  have := (List.mem_filter.1 hx).2
  simp at this
  rw [if_neg this]; rfl

set_option maxRecDepth 100000 in
set_option maxHeartbeats 2000000 in
theorem drop_any (h : Rep B W f M bl rb sl F) (hC : Closed F) (hF : F.length ≤ 1000) (hR : ∀ e ∈ F, e.rds.length ≤ 1000) (n : ByteArray) :
    Calls Tryz.prog 18 #[.pointer (some ⟨f, 0, none⟩), .string n] W (StP B W f M (dropF F n) (if dropOk F n = true then 0 else 200)) := by
  have hc := h.cellM
  rcases he : atF F n with _ | e
  · have hl := h.look_miss he true
    have hok : ¬ dropOk F n = true := by unfold dropOk; rw [he]; simp
    have hsf : dropF F n = F := by unfold dropF; rw [if_neg hok]
    rw [if_neg hok, hsf]
    have H := Lib.hid h
    clear h he hok hsf hC hR
    go_enter Tryz.func18, Tryz.ntmps18
    go_wp2
    go_ret
    exact ⟨_, _, _, rfl, H.out, Mv.refl _ _⟩
  · have hl := h.look_hit he true
    obtain ⟨heF, hen⟩ := atF_some he
    obtain ⟨c0, c1, c2, c3, c4, c5, fz⟩ := h.cells he
    obtain ⟨L, hL, hp⟩ := h.rdr e heF
    rw [hen] at hL hp
    obtain ⟨s, hs⟩ : ∃ s, L.length = s := ⟨_, rfl⟩
    have hs2 : s = (F.filter (hasR · n)).length := by rw [← hs, hp.length_eq]; simp
    have hlen : ∀ ty, (Builtin.len_ #[56] ty #[.map (some (rb n))]).run Tryz.prog W = .ok (.int .i64 s) W := fun ty => by rw [← hs]; exact hL.len Tryz.underlying56 ty
    have hs3 : s ≤ 1000 := by have := List.length_filter_le (hasR · n) F; omega
    rcases Nat.eq_zero_or_pos s with h0 | h0
    · have hem : (F.filter (hasR · n)).isEmpty = true := by rw [List.isEmpty_iff]; exact List.eq_nil_of_length_eq_zero (by omega)
      have hok : dropOk F n = true := by unfold dropOk; rw [he, hem]; rfl
      have hsf : dropF F n = outF F n := by unfold dropF; rw [if_pos hok]
      rw [hok, hsf]
      have s0 : ¬ (0 : Int) < (s : Int) := by omega
      have RD := Lib.hid (read_any h hC heF hen none 0 0 [] (RowP.nil W) (by simp) List.nodup_nil (hR e heF) (by simp))
      have KM := Lib.hid (h.flow)
      have HE := Lib.hid (show ∃ e' ∈ updF F n (fun x => { x with rds := [] }), e'.nm = n ∧ e'.rds = [] from ⟨{ e with rds := [] }, List.mem_map.2 ⟨e, heF, by rw [if_pos hen]⟩, hen, rfl⟩)
      have HO := Lib.hid (outF_upd F n (fun x => { x with rds := [] }) (fun _ => rfl))
      clear h he hok hsf hC hR hL hp hs hs2 h0 hem heF hen fz c4
      go_enter Tryz.func18, Tryz.ntmps18
      go_wp2_with (first
        | (go_at_call 23; refine RD.out.mono ?_; rintro e w1 ⟨rfl, hr, hm⟩; have HR := Lib.hid hr; have HM := Lib.hid hm; have hc1 := hr.cellM; obtain ⟨L1, hL1, hp1⟩ := hr.names; have HL1 := Lib.hid hL1; have HG1 := Lib.hid (goodN (w := w1) hp1); clear hr hm hL1 hp1)
        | (refine wpList_delete_raw _ rfl (.tmp 33) (.tmp 34) 50 9 53 (by rfl) Tryz.underlying50 keyN M L1 (by rfl) HL1.out HG1.out (.string n) (by rfl) ⟨n, rfl⟩ ?_; intro ob hob; have HOB := Lib.hid hob; clear hob))
      go_ret
      obtain ⟨e', he', hn', hr'⟩ := HE.out
      have R := HR.out.dropped (W' := w1.putObj M ob) he' hn' hr' (fun k hk => World.putObj_heap_other hk) (fun L2 hL2 => by
        have eL : L2 = L1 := by
          obtain ⟨es, c, q1, q2, _⟩ := hL2
          obtain ⟨es', c', q1', q2', _⟩ := HL1.out
          rw [q1] at q1'; cases q1'
          rw [← q2, ← q2']
        rw [eL]; exact HOB.out)
      rw [HO.out] at R
      exact ⟨_, _, _, rfl, R, HM.out.put ob (.inl HR.out.mineM)⟩
    · have hok : ¬ dropOk F n = true := by
        unfold dropOk; rw [he]
        rcases hf : F.filter (hasR · n) with _ | ⟨a, r⟩
        · rw [hf] at hs2; simp at hs2; omega
        · simp
      have hsf : dropF F n = F := by unfold dropF; rw [if_neg hok]
      rw [if_neg hok, hsf]
      have s0 : (0 : Int) < (s : Int) := by omega
      have H := Lib.hid h
      clear h he hok hsf hC hR hL hp hs hs2 heF hen fz c4
      go_enter Tryz.func18, Tryz.ntmps18
      go_wp2
      go_ret
      exact ⟨_, _, _, rfl, H.out, Mv.refl _ _⟩
end

end Go.Proofs.YtffifhbldcjelaaGreatDoor
