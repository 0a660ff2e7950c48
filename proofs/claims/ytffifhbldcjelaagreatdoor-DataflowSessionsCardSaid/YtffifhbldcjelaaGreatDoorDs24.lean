/-
  period.is, period.Days, period.Of: they answer, and change nothing. Facts are compared as wholes.
-/
import Derived.Test.YtffifhbldcjelaaGreatDoorDs19
import Derived.OwnWalk
import Derived.Deep.LoopGhost
import Derived.Deep.DeepCutAuto
import Derived.Test.YtffifhbldcjelaaGreatDoorDs20

/-! period.is, period.Days, period.Of: they answer, and change nothing. -/
namespace Go.Proofs.YtffifhbldcjelaaGreatDoor
set_option linter.unusedVariables false
set_option linter.unusedSimpArgs false
open Go.RowKit

/-- the lengths of the months lie as given -/
def lensV : List Value := [.int .i64 31, .int .i64 28, .int .i64 31, .int .i64 30, .int .i64 31, .int .i64 30, .int .i64 31, .int .i64 31, .int .i64 30, .int .i64 31, .int .i64 30, .int .i64 31]
def LensAt (w : World) : Prop := ∀ i : Nat, i < 12 → ∃ n : Int, 28 ≤ n ∧ n ≤ 31 ∧ w.cell? ⟨0, i, none⟩ = some (.int .i64 n)

set_option maxRecDepth 100000 in
theorem perIs_any (p : Int) (w : World) : Calls Tryz.prog 110 #[.int .i64 p] w fun e w' => e = .returned (.bool (decide (0 ≤ p ∧ p < 1200))) ∧ w' = w := by
  obtain ⟨b, hb⟩ : ∃ b, decide (0 ≤ p ∧ p < 1200) = b := ⟨_, rfl⟩
  rw [hb]
  have HB := Lib.hid hb
  clear hb
  by_cases h1 : 0 ≤ p
  · by_cases h2 : p < 1200
    · go_enter Tryz.func110, Tryz.ntmps110
      go_wp2
      go_ret
      exact ⟨by rw [← HB.out, decide_eq_true ⟨h1, h2⟩]; rfl, rfl⟩
    · go_enter Tryz.func110, Tryz.ntmps110
      go_wp2
      go_ret
      exact ⟨by rw [← HB.out, decide_eq_false (fun h => by omega)]; rfl, rfl⟩
  · go_enter Tryz.func110, Tryz.ntmps110
    go_wp2
    go_ret
    exact ⟨by rw [← HB.out, decide_eq_false (fun h => by omega)]; rfl, rfl⟩

set_option maxRecDepth 100000 in
theorem perDays_any (p : Int) (w : World) (hl : LensAt w) : Calls Tryz.prog 97 #[.int .i64 p] w fun e w' => (∃ n : Int, e = .returned (.int .i64 n)) ∧ ∃ k, w' = w.drewN k := by
  by_cases h : 0 ≤ p ∧ p < 1200
  · have hd : decide (0 ≤ p ∧ p < 1200) = true := decide_eq_true h
    obtain ⟨h1, h2⟩ := h
    have IS := Lib.hid (perIs_any p w)
    rw [hd] at IS
    obtain ⟨c1, _, _, hc1⟩ := hl 1 (by omega)
    obtain ⟨cr, _, _, hcr⟩ := hl (p % 12).toNat (by omega)
    go_enter Tryz.func97, Tryz.ntmps97
    go_wp2_with (go_at_call 110; refine IS.out.mono ?_; rintro e w1 ⟨rfl, rfl⟩)
    all_goals go_ret
    all_goals exact ⟨⟨_, rfl⟩, 0, rfl⟩
  · have hd : decide (0 ≤ p ∧ p < 1200) = false := decide_eq_false h
    have IS := Lib.hid (perIs_any p w)
    rw [hd] at IS
    go_enter Tryz.func97, Tryz.ntmps97
    go_wp2_with (go_at_call 110; refine IS.out.mono ?_; rintro e w1 ⟨rfl, rfl⟩)
    go_ret
    exact ⟨⟨_, rfl⟩, 0, rfl⟩

/-- whatever the second: three results, nothing changed -/
def OfE (w : World) (e : Ending) (w' : World) : Prop := ∃ (a b : Int) (c : Bool) (k : Nat), e = .returned (.tuple #[.int .i64 a, .int .i64 b, .bool c]) ∧ w' = w.drewN k
set_option maxRecDepth 100000 in
theorem perOf_any (s : Int) (w : World) (hl : LensAt w) : Calls Tryz.prog 54 #[.int .i64 s] w (OfE w) := by
  have DA := Lib.hid (fun p W h => perDays_any p W h)
  have HL := Lib.hid (fun k => (show LensAt (w.drewN k) from hl))
  clear hl
  by_cases h1 : s < 0
  · go_enter Tryz.func54, Tryz.ntmps54
    go_wp2
    go_ret3
    exact ⟨_, _, _, 0, rfl, rfl⟩
  · by_cases h2 : s < 3155760000
    · go_enter Tryz.func54, Tryz.ntmps54
      go_upto_region 7 with (fail)
      go_loopg [5, 6, 20] 48 (fun gh v5 v6 v20 wr => ∃ (j : Nat) (a b : Int), v5 = .int .i64 a ∧ v6 = .int .i64 b ∧ v20 = .int .i64 j ∧ j ≤ 48 ∧ 48 - j ≤ gh ∧ ∃ k, Hid (wr = w.drewN k))
      case atStart => exact ⟨0, _, _, rfl, rfl, rfl, by omega, by omega, 0, rfl⟩
      case round =>
        obtain ⟨j, a, b, rfl, rfl, rfl, hj, hg, k, HK⟩ := hrel
        have LK := Lib.hid (show LensAt wr from by rw [HK.out]; exact HL.out k)
        by_cases hlt : j < 48
        · have hltz : (j : Int) < 48 := by omega
          go_wp2_with (first
            | (go_at_call 97; refine (DA.out _ _ LK.out).mono ?_; rintro e w1 ⟨⟨n1, rfl⟩, k1, rfl⟩)
            | (go_at_call 97; refine (DA.out _ _ (show LensAt (wr.drewN _) from LK.out)).mono ?_; rintro e w1 ⟨⟨n2, rfl⟩, k2, rfl⟩))
          · go_ret3
            exact ⟨_, _, _, k + k1, rfl, by rw [HK.out]; simp⟩
          · go_roundg (48 - (j + 1))
            case measure => omega
            case rel => exact ⟨j + 1, _, _, rfl, rfl, by go_num, by omega, by omega, k + k1 + k2, (show Hid _ from by show _ = _; rw [HK.out]; simp [Nat.add_assoc])⟩
        · have hltz : ¬ (j : Int) < 48 := by omega
          go_wp2
          go_ret3
          exact ⟨_, _, _, k, rfl, HK.out⟩
    · go_enter Tryz.func54, Tryz.ntmps54
      go_wp2
      go_ret3
      exact ⟨_, _, _, 0, rfl, rfl⟩

end Go.Proofs.YtffifhbldcjelaaGreatDoor

/-! Facts are compared as wholes. -/
namespace Go.Proofs.YtffifhbldcjelaaGreatDoor
set_option linter.unusedVariables false
set_option linter.unusedSimpArgs false
open Go.RowKit

theorem Tryz.infoI : (Tryz.prog.info? 3).map (fun i => (i.zero, i.size, i.bytes)) = some (some (.int .i64 0), 1, 8) := by kernel_rfl
/-- a field of kind int at place o -/
def IntF (f : Field) (o : Nat) : Prop := f.name ≠ "_" ∧ f.type = 3 ∧ f.offset = o

theorem part_int {cs : Array Value} {o : Nat} {a : Int} (w : World) (h : cs[o]? = some (.int .i64 a)) : (part 3 cs o).run Tryz.prog w = .ok (.int .i64 a) w := by
  obtain ⟨i0, hi, hz0, hz1, hz2⟩ := info_parts Tryz.infoI
  have hg : (isAgg 3).run Tryz.prog w = .ok false w := by kernel_rfl
  simp [part, hg, sizeOf, typeInfo, hi, hz1, h]

theorem eqF_cons {xs ys : Array Value} {f : Field} {fs : List Field} {o : Nat} {a b : Int} {r : Bool} (w : World) (hf : IntF f o) (hx : xs[o]? = some (.int .i64 a)) (hy : ys[o]? = some (.int .i64 b)) (h : (Op.eqFields 9999 xs ys fs).run Tryz.prog w = .ok r w) :
    (Op.eqFields 9999 xs ys (f :: fs)).run Tryz.prog w = .ok ((a == b) && r) w := by
  obtain ⟨n0, t0, o0⟩ := hf
  have he : (Op.equalIn 9999 3 (.int .i64 a) (.int .i64 b)).run Tryz.prog w = .ok (a == b) w := run_equalIn_int w 9998 3 .i64 .i64 a b Tryz.underlying3
  unfold Op.eqFields
  rw [if_pos n0, t0, o0]
  simp only [Sem.run_bind, part_int w hx, part_int w hy, Result.andThen_ok, he]
  by_cases q : a = b
  · subst q; simp [h]
  · have : (a == b) = false := by simpa using q
    simp [this]

theorem part_str {cs : Array Value} {o : Nat} {a : ByteArray} (w : World) (h : cs[o]? = some (.string a)) : (part 9 cs o).run Tryz.prog w = .ok (.string a) w := by
  obtain ⟨i0, hi, hz0, hz1, hz2⟩ := info_parts Tryz.infoStr
  have hg : (isAgg 9).run Tryz.prog w = .ok false w := by kernel_rfl
  simp [part, hg, sizeOf, typeInfo, hi, hz1, h]
theorem eqF_str {xs ys : Array Value} {f : Field} {fs : List Field} {o : Nat} {a b : ByteArray} {r : Bool} (w : World) (n0 : f.name ≠ "_") (t0 : f.type = 9) (o0 : f.offset = o) (hx : xs[o]? = some (.string a)) (hy : ys[o]? = some (.string b)) (h : (Op.eqFields 9999 xs ys fs).run Tryz.prog w = .ok r w) :
    (Op.eqFields 9999 xs ys (f :: fs)).run Tryz.prog w = .ok ((a.toList == b.toList) && r) w := by
  have he : (Op.equalIn 9999 9 (.string a) (.string b)).run Tryz.prog w = .ok (a.toList == b.toList) w := run_equalIn_string w 9998 9 a b Tryz.underlying9
  unfold Op.eqFields
  rw [if_pos n0, t0, o0]
  simp only [Sem.run_bind, part_str w hx, part_str w hy, Result.andThen_ok, he]
  rcases q : (a.toList == b.toList) with _ | _
  · simp
  · simp [h]
/-- a fact but for its kind and version -/
def bareN (k v : Int) : Nat → Int := fun i => if i = 0 then k else if i = 2 then v else 0
set_option maxRecDepth 100000 in
theorem fact_eqf (w : World) (n : Nat → Int) (t : ByteArray) (k v : Int) : (Op.eqFields 9999 (encP ⟨n, t⟩).toArray (encP ⟨bareN k v, ⟨#[]⟩⟩).toArray (Tryz.prog.fieldsOf 38).toList).run Tryz.prog w = .ok (emptyN n t k v) w := by
  have hfo : Tryz.prog.fieldsOf 38 = (match Tryz.prog.underlying 38 with | some (.struct fs) => fs | _ => #[]) := rfl
  rw [hfo, Tryz.underlying38]
  unfold emptyN
  refine eqF_cons w ⟨by decide, rfl, rfl⟩ rfl rfl ?_
  refine eqF_cons w ⟨by decide, rfl, rfl⟩ rfl rfl ?_
  refine eqF_cons w ⟨by decide, rfl, rfl⟩ rfl rfl ?_
  refine eqF_cons w ⟨by decide, rfl, rfl⟩ rfl rfl ?_
  refine eqF_cons w ⟨by decide, rfl, rfl⟩ rfl rfl ?_
  refine eqF_cons w ⟨by decide, rfl, rfl⟩ rfl rfl ?_
  refine eqF_cons w ⟨by decide, rfl, rfl⟩ rfl rfl ?_
  refine eqF_cons w ⟨by decide, rfl, rfl⟩ rfl rfl ?_
  refine eqF_cons w ⟨by decide, rfl, rfl⟩ rfl rfl ?_
  refine eqF_cons w ⟨by decide, rfl, rfl⟩ rfl rfl ?_
  refine eqF_cons w ⟨by decide, rfl, rfl⟩ rfl rfl ?_
  refine eqF_cons w ⟨by decide, rfl, rfl⟩ rfl rfl ?_
  refine eqF_cons w ⟨by decide, rfl, rfl⟩ rfl rfl ?_
  refine eqF_cons w ⟨by decide, rfl, rfl⟩ rfl rfl ?_
  refine eqF_cons w ⟨by decide, rfl, rfl⟩ rfl rfl ?_
  refine eqF_cons w ⟨by decide, rfl, rfl⟩ rfl rfl ?_
  refine eqF_cons w ⟨by decide, rfl, rfl⟩ rfl rfl ?_
  exact eqF_str w (by decide) rfl rfl rfl rfl rfl
set_option maxRecDepth 100000 in
theorem fact_eq (w : World) (n : Nat → Int) (t : ByteArray) (k v : Int) : (Op.equalIn 10000 38 (.agg (encP ⟨n, t⟩).toArray) (.agg (encP ⟨bareN k v, ⟨#[]⟩⟩).toArray)).run Tryz.prog w = .ok (emptyN n t k v) w := by
  show (Op.equalIn (9999 + 1) _ _ _).run Tryz.prog w = _
  rw [run_equalIn_struct w 9999 _ _ _ (by unfold Program.fieldsOf; rw [Tryz.underlying38]) (by kernel_rfl)]
  exact fact_eqf w n t k v

end Go.Proofs.YtffifhbldcjelaaGreatDoor
