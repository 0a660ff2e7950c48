/-
  The reference's Divide and ProRata.
-/
import Derived.Test.YtbkmcncakpmgkaaWeights
import Derived.Test.YtbkmcncakpmgkaaRefAp
namespace Go.Proofs.Ytbkmcncakpmgkaa
set_option linter.unusedVariables false
open Go.ChangeShapes Go.WideShapes Go.ChangeAt Go.RowKit

def amts (l : List (Int × Int)) : List Int := l.map (·.2)
/-- what Divide returns -/
def divL (t : Int) (l : List (Int × Int)) : List (Int × Int) := List.zipWith (fun (s : Int × Int) (p : Int) => (s.1, p)) l (apV t (amts l))

def PartsS (w : World) (l : List (Int × Int)) (b : Bool) (e : Ending) (w' : World) : Prop :=
  ∃ (ao : Option Addr) (cap : Nat), e = .returned (.tuple #[.slice ao l.length cap, .bool b]) ∧ ((ao = none → cap = 0) ∧ l.length ≤ cap) ∧ RowK 2 encS w' ao l ∧ Below w.heap.size w w'

theorem amts_take (l : List (Int × Int)) (k : Nat) (h : k < l.length) : amts (l.take (k + 1)) = amts (l.take k) ++ [l[k].2] := by
  unfold amts; rw [List.take_succ_eq_append_getElem h, List.map_append]; rfl
theorem amts_len (l : List (Int × Int)) : (amts l).length = l.length := by simp [amts]

theorem AmtLe.i64 {B : Int} {l : List (Int × Int)} (h : AmtLe B l) (hB : B ≤ 9223372036854775807) : I64s (amts l) := by
  intro i
  rcases Nat.lt_or_ge i l.length with hi | hi
  · have := h l[i] (List.getElem_mem hi)
    have e : (amts l).getD i 0 = l[i].2 := by simp [amts, hi]
    rw [e]; omega
  · have e : (amts l).getD i 0 = 0 := by simp [amts, hi]
    rw [e]; omega

theorem apV_len (t : Int) (l : List Int) : (apV t l).length ≤ l.length := by
  unfold apV
  split
  · rw [App.app_length]; omega
  · simp

theorem div_take (t : Int) (l : List (Int × Int)) (k : Nat) (h : k < (apV t (amts l)).length) (h' : k < l.length) : (divL t l).take (k + 1) = (divL t l).take k ++ [(l[k].1, (apV t (amts l)).getD k 0)] := by
  unfold divL
  have hd : k < (List.zipWith (fun (s : Int × Int) (p : Int) => (s.1, p)) l (apV t (amts l))).length := by rw [List.length_zipWith]; omega
  rw [List.take_succ_eq_append_getElem hd, List.getElem_zipWith]
  simp [h]

theorem div_len (t : Int) (l : List (Int × Int)) : (divL t l).length = (apV t (amts l)).length := by
  have := apV_len t (amts l)
  rw [amts_len] at this
  unfold divL; rw [List.length_zipWith]; omega

set_option maxRecDepth 100000 in
set_option maxHeartbeats 2000000 in
theorem rdivide_any (t : Int) (ao : Option Addr) (cap m : Nat) (l : List (Int × Int)) (w : World) (hm : m ≤ 1000) (hl : l.length = m) (hr : RowK 2 encS w ao l) (h64 : I64s (amts l)) :
    Calls Try.prog 31 #[.int .i64 t, .slice ao m cap] w (PartsS w (divL t l) (apB t (amts l))) := by
  have HL := Lib.hid hl
  have HR := Lib.hid hr
  have H64 := Lib.hid h64
  clear hl hr h64
  obtain ⟨i0, hi, hz0, hz1, hz2⟩ := info_parts Try.infoS
  obtain ⟨j0, ji, jz0, jz1, jz2⟩ := info_parts Try.info3
  go_enter Try.func31, Try.ntmps31
  go_wp2
  go_loopw [6, 7] (fun v i wr => ∃ k : Nat, k ≤ m ∧ i = .int .i64 k ∧ wr.ownsRow w.heap.size 3 1 v (amts (l.take k)).length (ints (amts (l.take k))) ∧ Below w.heap.size w wr) (fun _ i _ => m - (intOf i).toNat)
  case atStart => exact ⟨0, Nat.zero_le _, rfl, World.ownsRow_nil _ _ _ _, Below.refl _ _⟩
  case round =>
    obtain ⟨k, hk, rfl, hown, hb⟩ := hrel
    have HO := Lib.hid hown
    have HB := Lib.hid hb
    clear hown hb
    have hlen : (amts (l.take k)).length ≤ k := by rw [amts_len, List.length_take]; omega
    by_cases hlt : k < m
    · have hkl : k < l.length := by rw [HL.out]; exact hlt
      obtain ⟨sb, off, rfl, hbl, hc0, hc1⟩ := HR.out.share hkl
      have e1 : wr.cell? ⟨sb, off + k * 2 + 1, none⟩ = some (.int .i64 l[k].2) := by rw [HB.out.cell (p := ⟨sb, off + k * 2 + 1, none⟩) hbl]; exact hc1
      have HT := Lib.hid (amts_take l k hkl)
      obtain ⟨y, hy⟩ : ∃ y, l[k].2 = y := ⟨_, rfl⟩
      rw [hy] at e1 HT
      clear hc0 hc1 hy
      go_wp2_with (at_builtin; refine wpList_append_own _ rfl (.tmp 18) (.tmp 24) 34 rfl w.heap.size 3 j0 (.int .i64 0) 1 8 Try.underlying34 ji jz0 jz1 jz2 rfl (by decide) _ _ _ rfl (HO.out.alloc _) ⟨wr.heap.size, 0, none⟩ 1 1 [.int .i64 y] rfl rfl (cell_one_new _ _ _) (by intro u hu; simp at hu; subst hu; rfl) (by unfold maxLen; omega) (by omega) (by have := HB.out.size; simp; omega) ?_; intro v' w1 own gr _h)
      have R : w1.ownsRow w.heap.size 3 1 v' (amts (l.take (k + 1))).length (ints (amts (l.take (k + 1)))) ∧ Below w.heap.size w w1 := by
        refine ⟨?_, grown_own (HB.out.alloc HB.out.size _) (Nat.le_refl _) (HO.out.alloc _) gr⟩
        rw [HT.out, List.length_append]; simpa [ints] using own
      clear own gr _h
      go_wp2
      go_roundw
      case rel => exact ⟨k + 1, by omega, by go_num, R.1, R.2⟩
      case measure => simp [intOf]; omega
    · have hN : l.take k = l := List.take_of_length_le (by rw [HL.out]; omega)
      have hown := HO.out
      rw [hN] at hown
      obtain ⟨ao1, cap1, rfl, hcap1, hrow1⟩ := row_of_owns hown
      rw [amts_len, HL.out] at hcap1 ⊢
      have HAP := Lib.hid (rapportion_any t ao1 cap1 m (amts l) wr (by omega) (by rw [amts_len, HL.out]) hrow1 H64.out)
      clear hN hown hcap1 hrow1 HO
      go_wp2_with (go_at_call 36; refine HAP.out.mono ?_; rintro e w2 ⟨ao2, cap2, rfl, hcap2, hrow2, hb2⟩; have HB2 := Lib.hid (bch HB.out hb2 HB.out.size); have HROW2 := Lib.hid hrow2; clear hcap2 hrow2 hb2; have HAL := Lib.hid (apV_len t (amts l)); obtain ⟨q, hq⟩ : ∃ q, (apV t (amts l)).length = q := ⟨_, rfl⟩; rw [hq]; have HQ := Lib.hid hq; clear hq)
      go_loopw [10, 11] (fun v i wr => ∃ k : Nat, k ≤ q ∧ i = .int .i64 k ∧ wr.ownsRow w2.heap.size 47 2 v ((divL t l).take k).length (((divL t l).take k).flatMap encS) ∧ Below w2.heap.size w2 wr) (fun _ i _ => q - (intOf i).toNat)
      case atStart => exact ⟨0, Nat.zero_le _, rfl, World.ownsRow_nil _ _ _ _, Below.refl _ _⟩
      case round =>
        rename_i wl
        obtain ⟨j, hj, rfl, hown, hbj⟩ := hrel
        have HO := Lib.hid hown
        have HBJ := Lib.hid hbj
        clear hown hbj
        have hlen : ((divL t l).take j).length ≤ j := by rw [List.length_take]; omega
        have hqm : q ≤ m := by have := HAL.out; rw [HQ.out, amts_len, HL.out] at this; exact this
        by_cases hltj : j < q
        · have hjm : j < m := by omega
          have hjl : j < l.length := by rw [HL.out]; exact hjm
          obtain ⟨sb, off, rfl, hbl, hc0, hc1⟩ := HR.out.share hjl
          obtain ⟨pb, poff, rfl, hpl, hpc⟩ := HROW2.out j (by rw [HQ.out]; exact hltj)
          have hsb2 : sb < w2.heap.size := Nat.lt_of_lt_of_le hbl HB2.out.size
          have e0 : wr.cell? ⟨sb, off + j * 2, none⟩ = some (.int .i64 l[j].1) := by rw [HBJ.out.cell (p := ⟨sb, off + j * 2, none⟩) hsb2, HB2.out.cell (p := ⟨sb, off + j * 2, none⟩) hbl]; exact hc0
          have e1 : wr.cell? ⟨pb, poff + j, none⟩ = some (.int .i64 ((apV t (amts l)).getD j 0)) := by rw [HBJ.out.cell (p := ⟨pb, poff + j, none⟩) hpl]; exact hpc
          have HT := Lib.hid (div_take t l j (by rw [HQ.out]; exact hltj) hjl)
          obtain ⟨x, hx⟩ : ∃ x, l[j].1 = x := ⟨_, rfl⟩
          obtain ⟨y, hy⟩ : ∃ y, (apV t (amts l)).getD j 0 = y := ⟨_, rfl⟩
          rw [hx] at e0
          rw [hy] at e1
          rw [hx, hy] at HT
          clear hc0 hc1 hpc hx hy
          obtain ⟨vo, vc, rfl, _, _⟩ := rowK_of_owns encS_len (by decide) HO.out
          have HOD := Lib.hid ((HO.out.alloc (.cells #[.int .i64 x, .int .i64 y] 47)).drew)
          have HBD := Lib.hid ((HBJ.out.alloc HBJ.out.size (.cells #[.int .i64 x, .int .i64 y] 47)).drew)
          have NEW := Lib.hid (show ∀ j u, (encS (x, y))[j]? = some u → ((wr.alloc (.cells #[.int .i64 x, .int .i64 y] 47)).drew).cell? ((⟨wr.heap.size, 0, none⟩ : Addr).add j) = some u from cells_at wr (encS (x, y)) _ _ rfl)
          obtain ⟨vn, hvn⟩ : ∃ vn, ((divL t l).take j).length = vn := ⟨_, rfl⟩
          rw [hvn] at HOD hlen ⊢
          have HVN := Lib.hid hvn
          clear hvn
          go_wp2
          go_region_law (first
            | (refine step_own (by rfl) (.tmp 38) (.tmp 49) 23 (by rfl) w2.heap.size 47 i0 (.agg #[.int .i64 0, .int .i64 0]) 2 16 Try.underlying23 hi hz0 hz1 hz2 (by rfl) (by decide) (.slice vo vn vc) vn (((divL t l).take j).flatMap encS) ?_ ?_ ⟨wr.heap.size, 0, none⟩ 1 1 (encS (x, y)) ?_ (by rfl) ?_ (encS_one _) ?_ ?_ ?_ ?_; (simp [Act.eval]); (with_reducible exact HOD.out); (simp [Act.eval]); (with_reducible exact NEW.out); (unfold maxLen; omega); omega; (have := HBD.out.size; omega); intro v' w4 own gr))
          all_goals
            have R : w4.ownsRow w2.heap.size 47 2 v' ((divL t l).take (j + 1)).length (((divL t l).take (j + 1)).flatMap encS) ∧ Below w2.heap.size w2 w4 := by
              refine ⟨?_, grown_own HBD.out (Nat.le_refl _) HOD.out gr⟩
              rw [HT.out, flat_snoc, List.length_append, HVN.out]; exact own
            clear own gr
            go_wp2
            go_roundw
            case rel => exact ⟨j + 1, by omega, by go_num, R.1, R.2⟩
            case measure => simp [intOf]; omega
        · have HN := Lib.hid (show (divL t l).take j = divL t l from List.take_of_length_le (by rw [div_len, HQ.out]; omega))
          go_wp2
          go_ret2
          have hown := HO.out
          rw [HN.out] at hown
          obtain ⟨ao3, cap3, rfl, hcap3, hrow3⟩ := rowK_of_owns encS_len (by decide) hown
          exact ⟨ao3, cap3, rfl, hcap3, hrow3, bch HB2.out HBJ.out HB2.out.size⟩

end Go.Proofs.Ytbkmcncakpmgkaa
