import Derived.Test.YtgbnhngaeefmkaaRow

/-! Flows: Reads. -/
namespace Go.Proofs.Ytgbnhngaeefmkaa
set_option linter.unusedVariables false
set_option linter.unusedSimpArgs false
open Go.RowKit

def readsF (F : List En) (n : ByteArray) : List ByteArray := match atF F n with | some e => e.rds | none => []

theorem flat_take {l : List ByteArray} {k : Nat} (h : k < l.length) : (l.take (k + 1)).flatMap encT = (l.take k).flatMap encT ++ encT l[k] := by
  rw [List.take_succ_eq_append_getElem h, flat_snoc]

section
variable {B : Nat} {W : World} {f M : Nat} {bl rb : ByteArray → Nat} {sl : ByteArray → Value} {F : List En}

set_option maxRecDepth 100000 in
set_option maxHeartbeats 2000000 in
theorem reads_any (h : Rep B W f M bl rb sl F) (hC : Closed F) (hR : ∀ e ∈ F, e.rds.length ≤ 1000) (n : ByteArray) :
    Calls Try.prog 26 #[.pointer (some ⟨f, 0, none⟩), .string n] W (SlcK 1 encT W (readsF F n)) := by
  have hc := h.cellM
  obtain ⟨i0, hi, hz0, hz1, hz2⟩ := info_parts Try.infoStr
  rcases he : atF F n with _ | e
  · have hl := h.look_miss he false
    have HV := Lib.hid (show readsF F n = [] by unfold readsF; rw [he])
    clear he h hC hR
    go_enter Try.func26, Try.ntmps26
    go_wp2
    go_ret
    rw [HV.out]
    exact ⟨none, 0, rfl, ⟨fun _ => rfl, Nat.le_refl _⟩, RowK.nil _ _ _ _, Below.refl _ _⟩
  · have hl := h.look_hit he false
    obtain ⟨heF, hen⟩ := atF_some he
    obtain ⟨c0, c1, c2, c3, c4, c5, fz⟩ := h.cells he
    obtain ⟨oo, oc, hso, _, _⟩ := h.row e heF
    rw [List.length_map, hen] at hso
    have hrow := h.row e heF
    rw [hen, hso] at hrow
    rw [hso] at c4
    have hr1 := hR e heF
    obtain ⟨m, hm⟩ : ∃ m, e.rds.length = m := ⟨_, rfl⟩
    rw [hm] at hr1 c4 hrow
    have HV := Lib.hid (show readsF F n = e.rds by unfold readsF; rw [he])
    have HM := Lib.hid hm
    have ROW := Lib.hid hrow
    have H := Lib.hid h
    have HCE := Lib.hid (fun r hr => hC e heF r hr)
    clear he h hC hR hso hrow hm heF hen fz c0 c1 c2 c3 c5
    go_enter Try.func26, Try.ntmps26
    go_wp2
    go_loopw [4, 28] (fun v i wr => ∃ k : Nat, k ≤ m ∧ i = .int .i64 k ∧ wr.ownsRow W.heap.size 9 1 v k ((e.rds.take k).flatMap encT) ∧ Below W.heap.size W wr) (fun _ i _ => m - (intOf i).toNat)
    case atStart => exact ⟨0, Nat.zero_le _, rfl, World.ownsRow_nil _ _ _ _, Below.refl _ _⟩
    case round =>
      obtain ⟨k, hk, rfl, hown, hb⟩ := hrel
      have OWN := Lib.hid hown
      have HB := Lib.hid hb
      clear hown hb
      by_cases hlt : k < m
      · have hke : k < e.rds.length := by rw [HM.out]; exact hlt
        obtain ⟨b0, off, rfl, hce⟩ := ROW.out.at (i := k) (p := bl e.rds[k]) (by rw [List.getElem?_map, List.getElem?_eq_getElem hke]; rfl)
        obtain ⟨d, hd, hdn⟩ := HCE.out e.rds[k] (List.getElem_mem hke)
        have hc0 := (cells_ent (H.out.ent d hd)).c0
        rw [hdn] at hc0
        have hlb := World.block_lt_of_cell? _ _ hce
        have hld := World.block_lt_of_cell? _ _ hc0
        have e1 : wr.cell? ⟨b0, off + k, none⟩ = some (.pointer (some ⟨bl e.rds[k], 0, none⟩)) := by rw [HB.out.cell (p := ⟨b0, off + k, none⟩) hlb]; exact hce
        have e2 : wr.cell? ⟨bl e.rds[k], 0, none⟩ = some (.string e.rds[k]) := by rw [HB.out.cell (p := ⟨bl e.rds[k], 0, none⟩) hld]; exact hc0
        have FT := Lib.hid (flat_take hke)
        obtain ⟨x, hx⟩ : ∃ x, e.rds[k] = x := ⟨_, rfl⟩
        rw [hx] at e1 e2 FT
        obtain ⟨bx, hbx⟩ : ∃ bx, bl x = bx := ⟨_, rfl⟩
        rw [hbx] at e1 e2
        have k0 : (0 : Int) ≤ (k : Int) := by omega
        have k1 : (k : Int) < (m : Int) := by omega
        clear hce hc0 hdn hx hbx hlb hld hd
        go_wp2_with (at_builtin; refine wpList_append_own _ rfl (.tmp 32) (.tmp 37) 28 rfl W.heap.size 9 i0 (.string (ByteArray.mk #[])) 1 16 Try.underlying28 hi hz0 hz1 hz2 rfl (by decide) _ _ _ rfl (OWN.out.alloc _) ⟨wr.heap.size, 0, none⟩ 1 1 (encT x) rfl rfl (cells_at _ _ _ _ rfl) (encT_one _) (by unfold maxLen; omega) (by omega) (by have := HB.out.size; simp; omega) ?_; intro v' w1 own gr _h; have OWN' := Lib.hid own; have HB' := Lib.hid (grown_own (HB.out.alloc HB.out.size _) (Nat.le_refl _) (OWN.out.alloc _) gr); clear own gr _h)
        go_roundw
        case rel => exact ⟨k + 1, by omega, by go_num, by rw [FT.out]; exact OWN'.out, HB'.out⟩
        case measure => simp [intOf]; omega
      · have hkm : k = m := by omega
        have ho := OWN.out
        rw [hkm, ← HM.out, List.take_length] at ho
        have HO := Lib.hid ho
        clear hkm ho OWN
        go_wp2
        go_ret
        rw [HV.out]
        exact fin_T HO.out HB.out
end

end Go.Proofs.Ytgbnhngaeefmkaa
