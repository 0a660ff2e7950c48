import Derived.Test.YtgbnhngaeefmkaaFl6

/-! Flows: read, walked. -/
namespace Go.Proofs.Ytgbnhngaeefmkaa
set_option linter.unusedVariables false
set_option linter.unusedSimpArgs false
open Go.RowKit

section
variable {B : Nat} {W : World} {f M : Nat} {bl rb : ByteArray → Nat} {sl : ByteArray → Value} {F : List En}

theorem infoE : ∃ j, Try.prog.info? 80 = some j ∧ j.size ≠ 0 := by
  have h : (Try.prog.info? 80).map (·.size) = some 6 := by kernel_rfl
  rcases hj : Try.prog.info? 80 with _ | j
  · rw [hj] at h; cases h
  · rw [hj] at h
    simp at h
    exact ⟨j, rfl, by omega⟩
theorem keyP : RawKey Try.prog 75 goodP := by
  obtain ⟨j, h1, h2⟩ := infoE
  exact rawPtr Try.underlying75 h1 h2

/-- a read is struck -/
theorem step1 {wr : World} {n : ByteArray} {e : En} (he : e ∈ F) (hn : e.nm = n) (hC : Closed F) {k : Nat} (hk : k < e.rds.length) (h : RepQ B wr f M bl rb sl F (Q1 n e.rds k)) :
    ∃ L, RawMap wr (rb e.rds[k]) L ∧ KeysGood goodP wr L ∧ (∃ d ∈ F, d.nm = e.rds[k]) ∧ ∀ ob, RawMap (wr.putObj (rb e.rds[k]) ob) (rb e.rds[k]) (delV (ptr (bl n)) L) → RepQ B (wr.putObj (rb e.rds[k]) ob) f M bl rb sl F (Q1 n e.rds (k + 1)) ∧ Mv B wr (wr.putObj (rb e.rds[k]) ob) := by
  obtain ⟨d, hd, hdn⟩ := hC e he e.rds[k] (List.getElem_mem hk)
  obtain ⟨L, hL, hp⟩ := h.rdr d hd
  rw [hdn] at hL
  refine ⟨L, hL, h.good hp, ⟨d, hd, hdn⟩, fun ob hob => ?_⟩
  rw [← hdn] at hob ⊢
  obtain ⟨r1, r2⟩ := h.turn hd ob hob (del_perm h hp he hn)
  refine ⟨r1.cong (fun y hy x hx => ?_), r2⟩
  unfold Q1
  rw [memB_take hk, ← hdn]
  by_cases h1 : y.nm = d.nm
  · rw [if_pos h1, h1]
    cases hasR x d.nm <;> cases memB (e.rds.take k) d.nm <;> by_cases h2 : x.nm = n <;> simp [h2]
  · rw [if_neg h1]
    have h3 : ¬ d.nm = y.nm := fun q => h1 q.symm
    simp [h3]

/-- a read is laid -/
theorem step2 {wr : World} {n : ByteArray} {e : En} (he : e ∈ F) (hn : e.nm = n) {new : List ByteArray} (hin : ∀ r ∈ new, ∃ d ∈ F, d.nm = r) (hnd : new.Nodup) {k : Nat} (hk : k < new.length) (h : RepQ B wr f M bl rb sl F (Q2 n new k)) :
    ∃ L, RawMap wr (rb new[k]) L ∧ KeysGood goodP wr L ∧ (∃ d ∈ F, d.nm = new[k]) ∧ ∀ ob, RawMap (wr.putObj (rb new[k]) ob) (rb new[k]) (putV (ptr (bl n)) (.bool true) L) → RepQ B (wr.putObj (rb new[k]) ob) f M bl rb sl F (Q2 n new (k + 1)) ∧ Mv B wr (wr.putObj (rb new[k]) ob) := by
  obtain ⟨d, hd, hdn⟩ := hin new[k] (List.getElem_mem hk)
  obtain ⟨L, hL, hp⟩ := h.rdr d hd
  rw [hdn] at hL
  refine ⟨L, hL, h.good hp, ⟨d, hd, hdn⟩, fun ob hob => ?_⟩
  have hq : Q2 n new k d.nm e = false := by
    unfold Q2
    rw [if_pos hn, Bool.eq_false_iff, ne_eq, memB_iff, hdn]
    intro hm
    obtain ⟨i, hi, hg⟩ := List.mem_iff_getElem.1 hm
    rw [List.length_take] at hi
    rw [List.getElem_take] at hg
    have := (List.getElem_inj hnd).1 hg
    omega
  rw [← hdn] at hob ⊢
  obtain ⟨r1, r2⟩ := h.turn hd ob hob (put_perm h hp he hn hq)
  refine ⟨r1.cong (fun y hy x hx => ?_), r2⟩
  unfold Q2
  rw [memB_take hk, ← hdn]
  by_cases h1 : y.nm = d.nm
  · rw [if_pos h1, h1]
    by_cases h2 : x.nm = n <;> simp [h2]
  · rw [if_neg h1]
    have h3 : ¬ d.nm = y.nm := fun q => h1 q.symm
    simp [h3]

def RdP (B : Nat) (W : World) (f M : Nat) (bl rb : ByteArray → Nat) (sl : ByteArray → Value) (F' : List En) (e : Ending) (w' : World) : Prop :=
  e = .returned (.tuple #[]) ∧ Rep B w' f M bl rb sl F' ∧ Mv B W w'

set_option maxRecDepth 100000 in
set_option maxHeartbeats 2000000 in
theorem read_any (h : Rep B W f M bl rb sl F) (hC : Closed F) {e : En} {n : ByteArray} (he : e ∈ F) (hn : e.nm = n) (ao : Option Addr) (ln cap : Nat) (new : List ByteArray) (hrow : RowP W (.slice ao ln cap) (new.map bl)) (hin : ∀ r ∈ new, ∃ d ∈ F, d.nm = r) (hnd : new.Nodup) (hl1 : e.rds.length ≤ 1000) (hl2 : new.length ≤ 1000) :
    Calls Try.prog 41 #[.pointer (some ⟨bl n, 0, none⟩), .slice ao ln cap] W (RdP B W f M bl rb (upV sl n (.slice ao ln cap)) (updF F n fun x => { x with rds := new })) := by
  have hln : ln = new.length := by obtain ⟨_, _, h1, _⟩ := hrow; cases h1; simp
  obtain ⟨oo, oc, hso, _, _⟩ := h.row e he
  rw [List.length_map, hn] at hso
  have hRowO := h.row e he
  rw [hn, hso] at hRowO
  obtain ⟨c0, c1, c2, c3, c4, c5, fz⟩ := cells_ent (h.ent e he)
  rw [hn, hso] at c4
  have f4 := fz 4
  rw [hn] at f4
  obtain ⟨no, hno⟩ : ∃ no, e.rds.length = no := ⟨_, rfl⟩
  rw [hno] at hl1 c4 hRowO
  rw [← hln] at hl2
  have NO := Lib.hid hno
  have LN := Lib.hid hln
  have H0 := Lib.hid (h.toQ.cong (Q' := Q1 n e.rds 0) (fun y hy x hx => (q1_zero n e.rds y.nm x).symm))
  have ROWO := Lib.hid hRowO
  have ROWN := Lib.hid hrow
  have HQE := Lib.hid (fun m x (hx : x ∈ F) => q1_end h.srt he hn new m hx)
  have HIN := Lib.hid hin
  have HE := Lib.hid he
  have HEN := Lib.hid hn
  clear h hso hRowO c0 c1 c2 c3 c5 fz hno hln hrow hin hn
  go_enter Try.func41, Try.ntmps41
  go_wp2
  go_loopw [13] (fun i wr => ∃ k : Nat, k ≤ no ∧ i = .int .i64 k ∧ RepQ B wr f M bl rb sl F (Q1 n e.rds k) ∧ Mv B W wr) (fun i _ => no - (intOf i).toNat)
  case atStart => exact ⟨0, Nat.zero_le _, rfl, H0.out, Mv.refl _ _⟩
  case round =>
    obtain ⟨k, hk, rfl, hrq, hmv⟩ := hrel
    have RQ := Lib.hid hrq
    have MV := Lib.hid hmv
    clear hrq hmv
    by_cases hlt : k < no
    · have hke : k < e.rds.length := by rw [NO.out]; exact hlt
      obtain ⟨L, hL, hg, ⟨d, hd, hdn⟩, hst⟩ := step1 HE.out HEN.out hC hke RQ.out
      obtain ⟨rb0, off, rfl, hce⟩ := (ROWO.out.mv MV.out).at (i := k) (p := bl e.rds[k]) (by rw [List.getElem?_map, List.getElem?_eq_getElem hke]; rfl)
      have hc5 := (RQ.out.cells hd).c5
      have hgE := RQ.out.goodE HE.out
      rw [hdn] at hc5
      rw [HEN.out] at hgE
      obtain ⟨x, hx⟩ : ∃ x, e.rds[k] = x := ⟨_, rfl⟩
      rw [hx] at hL hst hce hc5
      have HL := Lib.hid hL
      have HG := Lib.hid hg
      have HST := Lib.hid hst
      have HGE := Lib.hid hgE
      have k0 : (0 : Int) ≤ (k : Int) := by omega
      have k1 : (k : Int) < (no : Int) := by omega
      clear hL hg hst hd hdn hx hgE
      go_wp2_with (refine wpList_delete_raw _ rfl (.tmp 20) (.tmp 21) 78 75 4 (by rfl) Try.underlying78 keyP (rb x) L (by rfl) HL.out HG.out (.pointer (some ⟨bl n, 0, none⟩)) (by rfl) HGE.out ?_; intro ob hob; have NX := Lib.hid (HST.out ob hob); clear hob)
      go_roundw
      case rel => exact ⟨k + 1, by omega, by go_num, NX.out.1, MV.out.trans NX.out.2⟩
      case measure => simp [intOf]; omega
    · have hkn : k = no := by omega
      have R0 := Lib.hid (show RepQ B wr f M bl rb sl F (Q2 n new 0) from by
        have := RQ.out
        rw [hkn, ← NO.out] at this
        exact this.cong (fun y hy x hx => HQE.out y.nm x hx))
      clear hkn RQ
      obtain ⟨w1, rfl⟩ : ∃ w1 : World, w1 = wr := ⟨_, rfl⟩
      go_wp2
      go_loopw [25] (fun i wr => ∃ j : Nat, j ≤ ln ∧ i = .int .i64 j ∧ RepQ B wr f M bl rb sl F (Q2 n new j) ∧ Mv B W wr) (fun i _ => ln - (intOf i).toNat)
      case atStart => exact ⟨0, Nat.zero_le _, rfl, R0.out, MV.out⟩
      case round =>
        obtain ⟨j, hj, rfl, hrq, hmv⟩ := hrel
        have RQ := Lib.hid hrq
        have MV2 := Lib.hid hmv
        clear hrq hmv
        by_cases hlj : j < ln
        · have hjn : j < new.length := by rw [← LN.out]; exact hlj
          obtain ⟨L, hL, hg, ⟨d, hd, hdn⟩, hst⟩ := step2 HE.out HEN.out HIN.out hnd hjn RQ.out
          obtain ⟨rb0, off, rfl, hce⟩ := (ROWN.out.mv MV2.out).at (i := j) (p := bl new[j]) (by rw [List.getElem?_map, List.getElem?_eq_getElem hjn]; rfl)
          have hc5 := (RQ.out.cells hd).c5
          have hgE := RQ.out.goodE HE.out
          rw [hdn] at hc5
          rw [HEN.out] at hgE
          obtain ⟨x, hx⟩ : ∃ x, new[j] = x := ⟨_, rfl⟩
          rw [hx] at hL hst hce hc5
          have HL := Lib.hid hL
          have HG := Lib.hid hg
          have HST := Lib.hid hst
          have HGE := Lib.hid hgE
          have k0 : (0 : Int) ≤ (j : Int) := by omega
          have k1 : (j : Int) < (ln : Int) := by omega
          clear hL hg hst hd hdn hx hgE
          go_wp2_with (refine wpList_mapUpdate_raw _ rfl (.tmp 32) (.tmp 33) (.const (.bool true)) 78 (by rfl) 75 4 Try.underlying78 keyP (rb x) L (by rfl) HL.out HG.out (.pointer (some ⟨bl n, 0, none⟩)) (.bool true) (by rfl) (by rfl) HGE.out ?_; intro ob hob; have NX := Lib.hid (HST.out ob hob); clear hob)
          go_roundw
          case rel => exact ⟨j + 1, by omega, by go_num, NX.out.1, MV2.out.trans NX.out.2⟩
          case measure => simp [intOf]; omega
        · have hjn : j = ln := by omega
          have hQ := RQ.out
          rw [hjn, LN.out] at hQ
          have FIN := Lib.hid (hQ.fin HE.out HEN.out (ROWN.out.mv MV2.out) (fun m x => by unfold Q2; rw [List.take_length]))
          obtain ⟨q0, q1, q2, q3, q4, q5, qf⟩ := RQ.out.cells HE.out
          have g4 := qf 4
          rw [HEN.out] at q4 g4
          clear hQ hjn q0 q1 q2 q3 q5 qf RQ R0
          go_wp2
          go_end0
          exact ⟨rfl, FIN.out.1, MV2.out.trans FIN.out.2⟩
end

end Go.Proofs.Ytgbnhngaeefmkaa
