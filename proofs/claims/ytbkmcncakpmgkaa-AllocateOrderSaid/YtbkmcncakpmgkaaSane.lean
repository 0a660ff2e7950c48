/-
  The fixed examples of the statements: sane returns true.
-/
import Derived.Test.YtbkmcncakpmgkaaUsg
namespace Go.Proofs.Ytbkmcncakpmgkaa
set_option linter.unusedVariables false
open Go.ChangeShapes Go.WideShapes Go.ChangeAt Go.RowKit

/-- a slice that was just built -/
theorem rowK_new {α : Type} {k : Nat} {enc : α → List Value} (hk : ∀ x, (enc x).length = k) (W : World) (cs : Array Value) (t : TypeId) (l : List α) (h : cs.toList = l.flatMap enc) (a : Nat) (ha : W.heap.size = a) : RowK k enc (W.alloc (.cells cs t)) (some ⟨a, 0, none⟩) l := by
  subst ha
  intro i x hx
  refine ⟨W.heap.size, 0, rfl, by simp, fun j v hv => ?_⟩
  have h1 := flat_get hk l i x j v hx hv
  rw [← h, Array.getElem?_toList] at h1
  rw [Nat.zero_add]
  exact cell_box W cs t (i * k + j) v h1 _ rfl

theorem wf_small {x : Int} (h1 : -1000 ≤ x) (h2 : x ≤ 1000) : (Lit.int .i64 x).wf = true := WalkArith.wf_i64 (by omega)

def sU : List Us := [⟨1, 5, 2, 0⟩, ⟨2, 6, 1, 0⟩]
def sP : List (Int × Int) := [(1, 100), (2, 100), (3, 7)]
def sH : List Us := [⟨1, 5, 3, 1⟩, ⟨2, 5, 0, 1⟩]
def sT : List St := [⟨0, 0, 1, 5, 0, 0, 0, 0, 1⟩, ⟨0, 0, 1, 4, 0, 0, 0, 0, 2⟩, ⟨0, 0, 1, 4, 0, 0, 0, 0, 3⟩, ⟨0, 0, 1, 5, 0, 0, 0, 0, 1⟩]

theorem sane_pr : tidyL (addAll [] (divL 100 (weightsL true 0 sU))) = [(5, 67), (6, 33)] := by decide +kernel
theorem sane_us : tidyL (userA sU sP).1 = [(5, 100), (6, 100)] ∧ (userA sU sP).2 = 7 := by decide +kernel
theorem sane_mg : tidyL (mergeA ([(5, 3)] ++ [(4, 1), (5, 4)])) = [(4, 1), (5, 7)] := by decide +kernel
theorem sane_hd : heldP 10 (heldS 5 sH).1 (heldS 5 sH).2 = (6, 4) := by decide +kernel
theorem sane_ug : usL sT = [⟨1, 4, 0, 1⟩, ⟨1, 5, 2, 0⟩] := by decide +kernel

theorem s_pro (g : Nat) (w : World) (hr : RowK 4 encU w (some ⟨g, 0, none⟩) sU) : Calls Try.prog 20 #[.int .i64 100, .slice (some ⟨g, 0, none⟩) 2 2] w (SlcK 2 encS w [(5, 67), (6, 33)]) := by
  have h := prorata_any 100 (some ⟨g, 0, none⟩) 2 2 sU w (by omega) rfl hr (by intro u hu; simp [sU] at hu; rcases hu with rfl | rfl <;> exact ⟨wf_small (by decide) (by decide), wf_small (by decide) (by decide)⟩)
  rwa [sane_pr] at h
theorem s_usr (p g : Nat) (w : World) (hp : RowK 2 encS w (some ⟨p, 0, none⟩) sP) (hr : RowK 4 encU w (some ⟨g, 0, none⟩) sU) : Calls Try.prog 12 #[.slice (some ⟨p, 0, none⟩) 3 3, .slice (some ⟨g, 0, none⟩) 2 2] w (UserP w [(5, 100), (6, 100)] 7) := by
  have h := user_any (some ⟨p, 0, none⟩) (some ⟨g, 0, none⟩) 3 2 3 2 sP sU w (by omega) (by omega) rfl rfl hp hr (by intro s hs; simp [sP] at hs; rcases hs with rfl | rfl | rfl <;> exact wf_small (by decide) (by decide)) (by intro u hu; simp [sU] at hu; rcases hu with rfl | rfl <;> exact ⟨wf_small (by decide) (by decide), wf_small (by decide) (by decide)⟩)
  rwa [sane_us.1, sane_us.2] at h
theorem s_mrg (p g : Nat) (w : World) (hp : RowK 2 encS w (some ⟨p, 0, none⟩) [(5, 3)]) (hr : RowK 2 encS w (some ⟨g, 0, none⟩) [(4, 1), (5, 4)]) : Calls Try.prog 15 #[.slice (some ⟨p, 0, none⟩) 1 1, .slice (some ⟨g, 0, none⟩) 2 2] w (SlcK 2 encS w [(4, 1), (5, 7)]) := by
  have h := merge_any (some ⟨p, 0, none⟩) (some ⟨g, 0, none⟩) 1 2 1 2 [(5, 3)] [(4, 1), (5, 4)] w (by omega) (by omega) rfl rfl hp hr (by intro s hs; simp at hs; subst hs; exact wf_small (by decide) (by decide)) (by intro s hs; simp at hs; rcases hs with rfl | rfl <;> exact wf_small (by decide) (by decide))
  rwa [sane_mg] at h
theorem s_hld (g : Nat) (w : World) (hr : RowK 4 encU w (some ⟨g, 0, none⟩) sH) : Calls Try.prog 18 #[.int .i64 10, .int .i64 5, .slice (some ⟨g, 0, none⟩) 2 2] w fun e w' => e = .returned (.tuple #[.int .i64 6, .int .i64 4]) ∧ Below w.heap.size w w' := by
  have h := held_any 10 5 (some ⟨g, 0, none⟩) 2 2 sH w (by omega) rfl hr
  rwa [sane_hd] at h
theorem s_usg (g : Nat) (w : World) (hr : RowK 9 encT w (some ⟨g, 0, none⟩) sT) : Calls Try.prog 22 #[.slice (some ⟨g, 0, none⟩) 4 4] w (SlcK 4 encU w [⟨1, 4, 0, 1⟩, ⟨1, 5, 2, 0⟩]) := by
  have h := usages_any (some ⟨g, 0, none⟩) 4 4 sT w (by omega) rfl hr (by intro u hu; simp [sT] at hu; rcases hu with rfl | rfl | rfl | rfl <;> exact ⟨wf_small (by decide) (by decide), wf_small (by decide) (by decide)⟩)
  rwa [sane_ug] at h
theorem s_same (ao : Option Addr) (cap g : Nat) (x y : Int × Int) (w : World) (ha : RowK 2 encS w ao [x, y]) (hb : RowK 2 encS w (some ⟨g, 0, none⟩) [x, y]) : Calls Try.prog 14 #[.slice ao 2 cap, .slice (some ⟨g, 0, none⟩) 2 2] w fun e w' => e = .returned (.bool true) ∧ ∃ n, w' = w.drewN n := by
  have h := sameS_any ao (some ⟨g, 0, none⟩) cap 2 [x, y] [x, y] 2 2 w rfl rfl (by omega) ha hb
  rwa [decide_eq_true rfl] at h

theorem below_dn (w : World) (n : Nat) : Below w.heap.size w (w.drewN n) := ⟨rfl, rfl, rfl, Nat.le_refl _, fun _ _ => rfl⟩

set_option maxHeartbeats 4000000 in
set_option maxRecDepth 100000 in
theorem sane_any (w : World) : Calls Try.prog 9 #[] w fun e w' => e = .returned (.bool true) ∧ Below w.heap.size w w' := by
  have hA : ∀ (W : World) (o : Obj), Below W.heap.size W (W.alloc o) := fun W o => (Below.refl _ _).alloc (Nat.le_refl _) _
  have HA := Lib.hid hA
  clear hA
  go_enter Try.func9, Try.ntmps9
  go_wp2_with fail
  -- ProRata
  have RU := Lib.hid (rowK_new encU_len w #[.int .i64 1, .int .i64 5, .int .i64 2, .int .i64 0, .int .i64 2, .int .i64 6, .int .i64 1, .int .i64 0] 42 sU rfl w.heap.size rfl)
  refine (s_pro w.heap.size _ RU.out).mono ?_
  rintro e w1 ⟨ao1, c1, rfl, hc1, hr1, hb1⟩
  have BW1 := Lib.hid (bch (HA.out w _) hb1 (by simp))
  have RU1 := Lib.hid (RU.out.later hb1)
  have RA1 := Lib.hid hr1
  clear hc1 hr1 hb1
  go_wp2_with fail
  -- UserCentric
  have RP1 := Lib.hid (rowK_new encS_len w1 #[.int .i64 1, .int .i64 100, .int .i64 2, .int .i64 100, .int .i64 3, .int .i64 7] 47 sP rfl w1.heap.size rfl)
  refine (s_usr w1.heap.size w.heap.size _ RP1.out (RU1.out.later (HA.out _ _))).mono ?_
  rintro e w2 ⟨ao2, c2, rfl, hc2, hr2, hb2⟩
  have B12 := Lib.hid (bch (HA.out w1 _) hb2 (by simp))
  have BW2 := Lib.hid (bch BW1.out B12.out BW1.out.size)
  have RA2 := Lib.hid (RA1.out.later B12.out)
  have RB2 := Lib.hid hr2
  clear hc2 hr2 hb2
  go_wp2_with fail
  -- Merge
  have RM1 := Lib.hid (rowK_new encS_len w2 #[.int .i64 5, .int .i64 3] 47 [(5, 3)] rfl w2.heap.size rfl)
  have RM2 := Lib.hid (rowK_new encS_len (w2.alloc (.cells #[.int .i64 5, .int .i64 3] 47)) #[.int .i64 4, .int .i64 1, .int .i64 5, .int .i64 4] 47 [(4, 1), (5, 4)] rfl (w2.heap.size + 1) (by simp))
  refine (s_mrg w2.heap.size (w2.heap.size + 1) _ (RM1.out.later (HA.out _ _)) RM2.out).mono ?_
  rintro e w3 ⟨ao3, c3, rfl, hc3, hr3, hb3⟩
  have B23 := Lib.hid (bch (bch (HA.out w2 _) (HA.out _ _) (by simp)) hb3 (by simp; omega))
  have BW3 := Lib.hid (bch BW2.out B23.out BW2.out.size)
  have RA3 := Lib.hid (RA2.out.later B23.out)
  have RB3 := Lib.hid (RB2.out.later B23.out)
  have RC3 := Lib.hid hr3
  clear hc3 hr3 hb3
  go_wp2_with fail
  -- Held
  have RH := Lib.hid (rowK_new encU_len w3 #[.int .i64 1, .int .i64 5, .int .i64 3, .int .i64 1, .int .i64 2, .int .i64 5, .int .i64 0, .int .i64 1] 42 sH rfl w3.heap.size rfl)
  refine (s_hld w3.heap.size _ RH.out).mono ?_
  rintro e w4 ⟨rfl, hb4⟩
  have B34 := Lib.hid (bch (HA.out w3 _) hb4 (by simp))
  have BW4 := Lib.hid (bch BW3.out B34.out BW3.out.size)
  have RA4 := Lib.hid (RA3.out.later B34.out)
  have RB4 := Lib.hid (RB3.out.later B34.out)
  have RC4 := Lib.hid (RC3.out.later B34.out)
  clear hb4
  go_wp2_with fail
  -- Usages
  have RT := Lib.hid (rowK_new (enc := encT) (k := 9) (fun _ => rfl) w4 #[.int .i64 0, .int .i64 0, .int .i64 1, .int .i64 5, .int .i64 0, .int .i64 0, .int .i64 0, .int .i64 0, .int .i64 1, .int .i64 0, .int .i64 0, .int .i64 1, .int .i64 4, .int .i64 0, .int .i64 0, .int .i64 0, .int .i64 0, .int .i64 2, .int .i64 0, .int .i64 0, .int .i64 1, .int .i64 4, .int .i64 0, .int .i64 0, .int .i64 0, .int .i64 0, .int .i64 3, .int .i64 0, .int .i64 0, .int .i64 1, .int .i64 5, .int .i64 0, .int .i64 0, .int .i64 0, .int .i64 0, .int .i64 1] 52 sT rfl w4.heap.size rfl)
  refine (s_usg w4.heap.size _ RT.out).mono ?_
  rintro e w5 ⟨ao5, c5, rfl, hc5, hr5, hb5⟩
  have B45 := Lib.hid (bch (HA.out w4 _) hb5 (by simp))
  have BW5 := Lib.hid (bch BW4.out B45.out BW4.out.size)
  have RA5 := Lib.hid (RA4.out.later B45.out)
  have RB5 := Lib.hid (RB4.out.later B45.out)
  have RC5 := Lib.hid (RC4.out.later B45.out)
  have RV5 := Lib.hid hr5
  clear hc5 hr5 hb5
  go_wp2_with fail
  -- Same, three times
  have RX := Lib.hid (rowK_new encS_len w5 #[.int .i64 5, .int .i64 67, .int .i64 6, .int .i64 33] 47 [(5, 67), (6, 33)] rfl w5.heap.size rfl)
  refine (s_same ao1 c1 w5.heap.size (5, 67) (6, 33) _ (RA5.out.later (HA.out _ _)) RX.out).mono ?_
  rintro e w6 ⟨rfl, n6, hw6⟩
  have B56 := Lib.hid (show Below w5.heap.size w5 w6 by rw [hw6]; exact bch (HA.out w5 _) (below_dn _ n6) (by simp))
  have BW6 := Lib.hid (bch BW5.out B56.out BW5.out.size)
  have RB6 := Lib.hid (RB5.out.later B56.out)
  have RC6 := Lib.hid (RC5.out.later B56.out)
  have RV6 := Lib.hid (RV5.out.later B56.out)
  clear hw6
  go_wp2_with fail
  have RY := Lib.hid (rowK_new encS_len w6 #[.int .i64 5, .int .i64 100, .int .i64 6, .int .i64 100] 47 [(5, 100), (6, 100)] rfl w6.heap.size rfl)
  refine (s_same ao2 c2 w6.heap.size (5, 100) (6, 100) _ (RB6.out.later (HA.out _ _)) RY.out).mono ?_
  rintro e w7 ⟨rfl, n7, hw7⟩
  have B67 := Lib.hid (show Below w6.heap.size w6 w7 by rw [hw7]; exact bch (HA.out w6 _) (below_dn _ n7) (by simp))
  have BW7 := Lib.hid (bch BW6.out B67.out BW6.out.size)
  have RC7 := Lib.hid (RC6.out.later B67.out)
  have RV7 := Lib.hid (RV6.out.later B67.out)
  clear hw7
  go_wp2_with fail
  have RZ := Lib.hid (rowK_new encS_len w7 #[.int .i64 4, .int .i64 1, .int .i64 5, .int .i64 7] 47 [(4, 1), (5, 7)] rfl w7.heap.size rfl)
  refine (s_same ao3 c3 w7.heap.size (4, 1) (5, 7) _ (RC7.out.later (HA.out _ _)) RZ.out).mono ?_
  rintro e w8 ⟨rfl, n8, hw8⟩
  have B78 := Lib.hid (show Below w7.heap.size w7 w8 by rw [hw8]; exact bch (HA.out w7 _) (below_dn _ n8) (by simp))
  have BW8 := Lib.hid (bch BW7.out B78.out BW7.out.size)
  have RV8 := Lib.hid (RV7.out.later B78.out)
  clear hw8
  obtain ⟨vb, vo, hve, hvl, v0, v1, v2, v3⟩ := RV8.out.usage (i := 0) (by simp)
  obtain ⟨vb', vo', hve', _, v4, v5, v6, v7⟩ := RV8.out.usage (i := 1) (by simp)
  subst hve
  cases hve'
  simp only [List.getElem_cons_zero, List.getElem_cons_succ, Nat.zero_mul, Nat.one_mul, Nat.add_zero] at v0 v1 v2 v3 v4 v5 v6 v7
  go_wp2
  go_ret
  exact ⟨rfl, BW8.out⟩

end Go.Proofs.Ytbkmcncakpmgkaa
