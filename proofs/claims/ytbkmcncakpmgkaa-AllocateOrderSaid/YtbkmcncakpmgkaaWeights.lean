/-
  The reference's Weights.
-/
import Derived.Test.YtbkmcncakpmgkaaKA
import Derived.Test.YtbkmcncakpmgkaaAmtB
import Derived.StillTailTactics
namespace Go.Proofs.Ytbkmcncakpmgkaa
set_option linter.unusedVariables false
open Go.ChangeShapes Go.WideShapes Go.ChangeAt Go.RowKit

/-- every amount lies from 0 to B -/
def AmtLe (B : Int) (l : List (Int × Int)) : Prop := ∀ s ∈ l, 0 ≤ s.2 ∧ s.2 ≤ B

theorem AmtLe.mono {B B' : Int} {l : List (Int × Int)} (h : AmtLe B l) (hB : B ≤ B') : AmtLe B' l := fun s hs => ⟨(h s hs).1, by have := (h s hs).2; omega⟩

theorem addGo_amt {r n B : Int} (hn : 0 ≤ n) (hB : 0 ≤ B) : ∀ (l : List (Int × Int)) (d : Bool), AmtLe B l → AmtLe (B + n) (addGo r n d l)
  | [], d, h => by
    unfold addGo; split
    · intro s hs; simp at hs
    · intro s hs; simp at hs; subst hs; simp; omega
  | s :: t, d, h => by
    unfold addGo
    intro q hq
    have hs := h s (by simp)
    rw [List.mem_append, List.mem_cons] at hq
    rcases hq with hq | rfl | hq
    · split at hq
      · simp at hq; subst hq; simp; omega
      · simp at hq
    · split
      · dsimp only; omega
      · omega
    · exact addGo_amt hn hB t _ (fun x hx => h x (by simp [hx])) q hq

theorem addGo_len (r n : Int) : ∀ (l : List (Int × Int)) (d : Bool), (addGo r n d l).length ≤ l.length + (if d = true then 0 else 1)
  | [], d => by unfold addGo; cases d <;> simp
  | s :: t, d => by
    unfold addGo
    have := addGo_len r n t (d || decide (r < s.1) || decide (s.1 = r))
    rw [List.length_append, List.length_cons, List.length_cons]
    cases d
    · by_cases h : r < s.1
      · simp [h] at this ⊢; omega
      · by_cases h2 : s.1 = r
        · simp [h2] at this ⊢; omega
        · simp [h, h2] at this ⊢; omega
    · simp at this ⊢; omega

theorem AmtLe.sumOk {B n : Int} {l : List (Int × Int)} (h : AmtLe B l) (h0 : 0 ≤ n) (h1 : B + n ≤ 9223372036854775807) : sumOk n l := fun i hi => by
  have := h l[i] (List.getElem_mem hi)
  omega

def wStep (all : Bool) (acc : Int) (out : List (Int × Int)) (u : Us) : List (Int × Int) := if countsB u = true ∧ (all = true ∨ u.acc = acc) then addGo u.rcd (u.val + u.held) false out else out
def weightsL (all : Bool) (acc : Int) (l : List Us) : List (Int × Int) := l.foldl (wStep all acc) []

theorem counts_bd {u : Us} (h : countsB u = true) : 0 ≤ u.val ∧ u.val ≤ 1000000000 ∧ 0 ≤ u.held ∧ u.held ≤ 1000000000 ∧ 0 < u.val + u.held := of_decide_eq_true h

theorem weights_take (all : Bool) (acc : Int) (l : List Us) (k : Nat) (h : k < l.length) : weightsL all acc (l.take (k + 1)) = wStep all acc (weightsL all acc (l.take k)) l[k] := by
  unfold weightsL; rw [List.take_succ_eq_append_getElem h, List.foldl_append]; rfl

theorem weights_bd (all : Bool) (acc : Int) (l : List Us) : ∀ k, k ≤ l.length → AmtLe (2000000000 * k) (weightsL all acc (l.take k)) ∧ (weightsL all acc (l.take k)).length ≤ k
  | 0, _ => ⟨fun s hs => by simp [weightsL] at hs, by simp [weightsL]⟩
  | k + 1, h => by
    obtain ⟨h1, h2⟩ := weights_bd all acc l k (by omega)
    rw [weights_take all acc l k h]
    unfold wStep
    split
    · rename_i hc
      have hb := counts_bd hc.1
      refine ⟨(addGo_amt (by omega) (by omega) _ _ h1).mono (by push_cast; omega), ?_⟩
      have := addGo_len l[k].rcd (l[k].val + l[k].held) (weightsL all acc (l.take k)) false
      simp at this; omega
    · exact ⟨h1.mono (by push_cast; omega), by omega⟩

set_option maxRecDepth 100000 in
set_option maxHeartbeats 2000000 in
theorem weights_any (ao : Option Addr) (cap m : Nat) (all : Bool) (acc : Int) (l : List Us) (w : World) (hm : m ≤ 1000) (hl : l.length = m) (hr : RowK 4 encU w ao l) :
    Calls Try.prog 32 #[.slice ao m cap, .bool all, .int .i64 acc] w (SlcK 2 encS w (weightsL all acc l)) := by
  have HL := Lib.hid hl
  have HR := Lib.hid hr
  clear hl hr
  go_enter Try.func32, Try.ntmps32
  go_wp2
  go_loopw [7, 8] (fun v i wr => ∃ (k : Nat) (oo : Option Addr) (oc on : Nat), k ≤ m ∧ i = .int .i64 k ∧ v = .slice oo on oc ∧ (weightsL all acc (l.take k)).length = on ∧ RowK 2 encS wr oo (weightsL all acc (l.take k)) ∧ ((oo = none → oc = 0) ∧ on ≤ oc) ∧ Below w.heap.size w wr) (fun _ i _ => m - (intOf i).toNat)
  case atStart => exact ⟨0, none, 0, 0, Nat.zero_le _, rfl, rfl, rfl, RowK.nil _ _ _ _, ⟨fun _ => rfl, Nat.le_refl _⟩, Below.refl _ _⟩
  case round =>
    obtain ⟨k, oo, oc, on, hk, rfl, rfl, hlen, hrow, hcap, hb⟩ := hrel
    have hkl' : k ≤ l.length := by rw [HL.out]; exact hk
    have BD := Lib.hid (weights_bd all acc l k hkl')
    have hon : on ≤ k := by rw [← hlen]; exact BD.out.2
    have HLEN := Lib.hid hlen
    have HROW := Lib.hid hrow
    have HCAP := Lib.hid hcap
    have HB := Lib.hid hb
    clear hlen hrow hcap hb
    by_cases hlt : k < m
    · have hkl : k < l.length := by rw [HL.out]; exact hlt
      obtain ⟨sb, off, rfl, hbl, c0, c1, c2, c3⟩ := HR.out.usage hkl
      have e0 : wr.cell? ⟨sb, off + k * 4, none⟩ = some (.int .i64 l[k].acc) := by rw [HB.out.cell (p := ⟨sb, off + k * 4, none⟩) hbl]; exact c0
      have e1 : wr.cell? ⟨sb, off + k * 4 + 1, none⟩ = some (.int .i64 l[k].rcd) := by rw [HB.out.cell (p := ⟨sb, off + k * 4 + 1, none⟩) hbl]; exact c1
      have e2 : wr.cell? ⟨sb, off + k * 4 + 2, none⟩ = some (.int .i64 l[k].val) := by rw [HB.out.cell (p := ⟨sb, off + k * 4 + 2, none⟩) hbl]; exact c2
      have e3 : wr.cell? ⟨sb, off + k * 4 + 3, none⟩ = some (.int .i64 l[k].held) := by rw [HB.out.cell (p := ⟨sb, off + k * 4 + 3, none⟩) hbl]; exact c3
      have HT := Lib.hid (weights_take all acc l k hkl)
      obtain ⟨u, hu⟩ : ∃ u, l[k] = u := ⟨_, rfl⟩
      rw [hu] at e0 e1 e2 e3 HT
      have hsb : sb < wr.heap.size := Nat.lt_of_lt_of_le hbl HB.out.size
      have HC := Lib.hid (fun W => counts_any u W)
      have HUB := Lib.hid (@counts_bd u)
      have HW := Lib.hid (show wStep all acc (weightsL all acc (l.take k)) u = if countsB u = true ∧ (all = true ∨ u.acc = acc) then addGo u.rcd (u.val + u.held) false (weightsL all acc (l.take k)) else weightsL all acc (l.take k) from rfl)
      clear hu c0 c1 c2 c3
      obtain ⟨ua, ur, uv, uh⟩ := u
      dsimp only at e0 e1 e2 e3 HC HUB HW
      rcases hcb : countsB ⟨ua, ur, uv, uh⟩ with _ | _
      · have HN := Lib.hid (show weightsL all acc (l.take (k + 1)) = weightsL all acc (l.take k) by rw [HT.out, HW.out, if_neg (by rw [hcb]; simp)])
        rw [hcb] at HC
        clear hcb
        go_wp2_with (go_at_call 24; refine (HC.out _).mono ?_; rintro e w2 ⟨rfl, hb2⟩; have HB2 := Lib.hid hb2; clear hb2)
        go_roundw
        case rel => exact ⟨k + 1, oo, oc, on, by omega, by go_num, rfl, by rw [HN.out]; exact HLEN.out, by rw [HN.out]; exact HROW.out.later HB2.out, HCAP.out, HB.out.trans (HB2.out.mono HB.out.size)⟩
        case measure => simp [intOf]; omega
      · have hub := HUB.out hcb
        rw [hcb] at HC
        rcases all with _ | _
        · by_cases hacc : ua = acc
          · subst hacc
            have HN := Lib.hid (show weightsL false ua (l.take (k + 1)) = addGo ur (uv + uh) false (weightsL false ua (l.take k)) by rw [HT.out, HW.out, if_pos ⟨hcb, .inr rfl⟩])
            clear hcb
            go_wp2_with (go_at_call 24; refine (HC.out _).mono ?_; rintro e w2 ⟨rfl, hb2⟩; have g0 : w2.cell? ⟨sb, off + k * 4, none⟩ = some (.int .i64 ua) := (by rw [hb2.cell (p := ⟨sb, off + k * 4, none⟩) hsb]; exact e0); have g1 : w2.cell? ⟨sb, off + k * 4 + 1, none⟩ = some (.int .i64 ur) := (by rw [hb2.cell (p := ⟨sb, off + k * 4 + 1, none⟩) hsb]; exact e1); have g2 : w2.cell? ⟨sb, off + k * 4 + 2, none⟩ = some (.int .i64 uv) := (by rw [hb2.cell (p := ⟨sb, off + k * 4 + 2, none⟩) hsb]; exact e2); have g3 : w2.cell? ⟨sb, off + k * 4 + 3, none⟩ = some (.int .i64 uh) := (by rw [hb2.cell (p := ⟨sb, off + k * 4 + 3, none⟩) hsb]; exact e3); have HB2 := Lib.hid hb2; clear hb2)
            go_still_tail 17, (by kernel_rfl)
            change wpList _ _ _ _ _ w2.drew
            have HB3 := Lib.hid ((Below.refl w2.heap.size w2).drew)
            generalize w2.drew = w3 at HB3 ⊢
            have HB23 := Lib.hid (bch HB2.out HB3.out HB2.out.size)
            have HAD := Lib.hid (add_any oo oc on ur (uv + uh) _ w3 (by omega) HLEN.out (HROW.out.later HB23.out) (BD.out.1.sumOk (by omega) (by omega)))
            go_wp2_with (go_at_call 33; refine HAD.out.mono ?_; rintro e w4 ⟨no, nc, rfl, hnc, hrow4, hb4⟩; have HROW4 := Lib.hid hrow4; have HNC := Lib.hid hnc; have HB4 := Lib.hid hb4; clear hrow4 hnc hb4)
            go_roundw
            case rel => exact ⟨k + 1, no, nc, _, by omega, by go_num, rfl, by rw [HN.out], by rw [HN.out]; exact HROW4.out, HNC.out, HB.out.trans ((bch HB23.out HB4.out HB23.out.size).mono HB.out.size)⟩
            case measure => simp [intOf]; omega
          · have HN := Lib.hid (show weightsL false acc (l.take (k + 1)) = weightsL false acc (l.take k) by rw [HT.out, HW.out, if_neg (by simp [hacc])])
            have hq : (ua == acc) = false := beq_eq_false_iff_ne.2 hacc
            clear hcb
            go_wp2_with (go_at_call 24; refine (HC.out _).mono ?_; rintro e w2 ⟨rfl, hb2⟩; have g0 : w2.cell? ⟨sb, off + k * 4, none⟩ = some (.int .i64 ua) := (by rw [hb2.cell (p := ⟨sb, off + k * 4, none⟩) hsb]; exact e0); have g1 : w2.cell? ⟨sb, off + k * 4 + 1, none⟩ = some (.int .i64 ur) := (by rw [hb2.cell (p := ⟨sb, off + k * 4 + 1, none⟩) hsb]; exact e1); have g2 : w2.cell? ⟨sb, off + k * 4 + 2, none⟩ = some (.int .i64 uv) := (by rw [hb2.cell (p := ⟨sb, off + k * 4 + 2, none⟩) hsb]; exact e2); have g3 : w2.cell? ⟨sb, off + k * 4 + 3, none⟩ = some (.int .i64 uh) := (by rw [hb2.cell (p := ⟨sb, off + k * 4 + 3, none⟩) hsb]; exact e3); have HB2 := Lib.hid hb2; clear hb2)
            go_roundw
            case rel => exact ⟨k + 1, oo, oc, on, by omega, by go_num, rfl, by rw [HN.out]; exact HLEN.out, by rw [HN.out]; exact HROW.out.later HB2.out, HCAP.out, HB.out.trans (HB2.out.mono HB.out.size)⟩
            case measure => simp [intOf]; omega
        · have HN := Lib.hid (show weightsL true acc (l.take (k + 1)) = addGo ur (uv + uh) false (weightsL true acc (l.take k)) by rw [HT.out, HW.out, if_pos ⟨hcb, .inl rfl⟩])
          clear hcb
          go_wp2_with (go_at_call 24; refine (HC.out _).mono ?_; rintro e w2 ⟨rfl, hb2⟩; have g0 : w2.cell? ⟨sb, off + k * 4, none⟩ = some (.int .i64 ua) := (by rw [hb2.cell (p := ⟨sb, off + k * 4, none⟩) hsb]; exact e0); have g1 : w2.cell? ⟨sb, off + k * 4 + 1, none⟩ = some (.int .i64 ur) := (by rw [hb2.cell (p := ⟨sb, off + k * 4 + 1, none⟩) hsb]; exact e1); have g2 : w2.cell? ⟨sb, off + k * 4 + 2, none⟩ = some (.int .i64 uv) := (by rw [hb2.cell (p := ⟨sb, off + k * 4 + 2, none⟩) hsb]; exact e2); have g3 : w2.cell? ⟨sb, off + k * 4 + 3, none⟩ = some (.int .i64 uh) := (by rw [hb2.cell (p := ⟨sb, off + k * 4 + 3, none⟩) hsb]; exact e3); have HB2 := Lib.hid hb2; clear hb2)
          go_still_tail 17, (by kernel_rfl)
          change wpList _ _ _ _ _ w2.drew
          have HB3 := Lib.hid ((Below.refl w2.heap.size w2).drew)
          generalize w2.drew = w3 at HB3 ⊢
          have HB23 := Lib.hid (bch HB2.out HB3.out HB2.out.size)
          have HAD := Lib.hid (add_any oo oc on ur (uv + uh) _ w3 (by omega) HLEN.out (HROW.out.later HB23.out) (BD.out.1.sumOk (by omega) (by omega)))
          go_wp2_with (go_at_call 33; refine HAD.out.mono ?_; rintro e w4 ⟨no, nc, rfl, hnc, hrow4, hb4⟩; have HROW4 := Lib.hid hrow4; have HNC := Lib.hid hnc; have HB4 := Lib.hid hb4; clear hrow4 hnc hb4)
          go_roundw
          case rel => exact ⟨k + 1, no, nc, _, by omega, by go_num, rfl, by rw [HN.out], by rw [HN.out]; exact HROW4.out, HNC.out, HB.out.trans ((bch HB23.out HB4.out HB23.out.size).mono HB.out.size)⟩
          case measure => simp [intOf]; omega
    · have HN := Lib.hid (show l.take k = l from List.take_of_length_le (by rw [HL.out]; omega))
      go_wp2
      go_ret
      have hr := HROW.out
      have hn := HLEN.out
      rw [HN.out] at hr hn
      exact ⟨oo, oc, by rw [hn]; rfl, by rw [hn]; exact HCAP.out, hr, HB.out⟩

end Go.Proofs.Ytbkmcncakpmgkaa
