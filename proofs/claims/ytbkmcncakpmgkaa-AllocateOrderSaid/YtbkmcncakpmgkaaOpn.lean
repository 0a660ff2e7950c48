import Derived.Test.YtbkmcncakpmgkaaSane
import Derived.Deep.Slices
import Derived.ChangeArms
import Derived.DataReads
import Derived.Deep.RegionHeld3
import Derived.StillTailTactics

/-! What a law is told of a slice of structs of integers that came in. -/
namespace Go.Proofs.Ytbkmcncakpmgkaa
set_option linter.unusedVariables false
open Go.ChangeShapes Go.WideShapes Go.ChangeAt Go.RowKit

/-- it is nil; or it leads to a row of elements of k integers -/
def IsRowK (k : Nat) (w : World) (a : Option Addr) (len cap : Nat) : Prop :=
  (a = none ∧ len = 0 ∧ cap = 0) ∨ ∃ x, a = some x ∧ len ≤ cap ∧ cap ≤ maxLen ∧ ∀ i, i < len → ∀ j, j < k → ∃ n, w.cell? (x.add (i * k + j)) = some (.int .i64 n) ∧ (Lit.int .i64 n).wf = true

theorem isRowK_of {H : Type} {enc : TypeId × Value → H} {W : World} {base : Nat} {sp : Nat → Bool} {held : Bool} {t e k : Nat} {fs : Array Field} {a : Option Addr} {len cap : Nat} {d : DataW H} {p : List MemPlace}
    (ht : Try.prog.underlying t = some (.slice e)) (he : Try.prog.underlying e = some (.struct fs)) (hc : Try.prog.cellsOf e = k) (hf : ∀ j, j < k → ∃ f, fs[j]? = some f ∧ f.type = 3 ∧ f.offset = j)
    (h : DataW.Trod enc Try.prog W base sp held t (.slice a len cap) d p) : IsRowK k W a len cap := by
  obtain ⟨fuel, h⟩ := h
  rcases Go.Deep.open_slice ht h with ⟨hcs, _⟩ | ⟨x, l, c, m, n, D, Pl, hcs, _, hl, hm, hmm, _, hi⟩
  · simp [Value.cells] at hcs; exact .inl hcs
  · simp [Value.cells] at hcs
    obtain ⟨rfl, rfl, rfl⟩ := hcs
    refine .inr ⟨x, rfl, hl, hm, fun i hil j hj => ?_⟩
    have him : i < m := by rw [hmm]; split <;> omega
    obtain ⟨cs, h1, h2⟩ := hi i him
    rw [hc] at h1
    obtain ⟨_, hlen, hcell⟩ := World.cells?_some h1
    obtain ⟨xs, n', _, _, _, hxs, hfld⟩ := DataW.trod_struct he h2
    obtain ⟨f, hf1, hf2, hf3⟩ := hf j hj
    have h3 := hfld j f hf1
    rw [hf2, hf3, cellsI] at h3
    have hjx : j < xs.length := by rw [hxs]; exact (Array.getElem?_eq_some_iff.1 hf1).1
    rw [List.getElem?_eq_getElem hjx] at h3
    obtain ⟨z, hz, _, hwf⟩ := DataW.trod_int Try.underlying3 h3
    refine ⟨z, ?_, hwf⟩
    have e1 : x.add (i * k + j) = (x.add (i * k)).add j := by
      unfold Addr.add
      by_cases c1 : i * k = 0 <;> by_cases c2 : j = 0 <;> simp [c1, c2, Nat.add_assoc]
    rw [e1, hcell j hj]
    have hjl : j < cs.length := by omega
    have : (cs.drop j).take 1 = [cs[j]] := by rw [List.drop_eq_getElem_cons hjl]; rfl
    rw [this] at hz
    rw [List.getElem?_eq_getElem hjl]
    simpa using hz

theorem IsRowK.at {k : Nat} {w : World} {a : Option Addr} {len cap : Nat} (h : IsRowK k w a len cap) (hk : 0 < k) : ∃ V : Nat → Nat → Int, (∀ i j, i < len → j < k → (Lit.int .i64 (V i j)).wf = true) ∧ (∀ i, i < len → ∃ b off, a = some ⟨b, off, none⟩ ∧ b < w.heap.size ∧ ∀ j, j < k → w.cell? ⟨b, off + i * k + j, none⟩ = some (.int .i64 (V i j))) ∧ len ≤ cap ∧ len ≤ 9223372036854775807 ∧ (a = none → cap = 0) := by
  rcases h with ⟨rfl, rfl, rfl⟩ | ⟨x, rfl, h1, h2, h3⟩
  · exact ⟨fun _ _ => 0, fun i j h => by omega, fun i h => by omega, Nat.le_refl _, by omega, fun _ => rfl⟩
  · have hch : ∀ i j, ∃ n, i < len → j < k → w.cell? (x.add (i * k + j)) = some (.int .i64 n) ∧ (Lit.int .i64 n).wf = true := fun i j => by
      by_cases c : i < len ∧ j < k
      · obtain ⟨n, h⟩ := h3 i c.1 j c.2; exact ⟨n, fun _ _ => h⟩
      · exact ⟨0, fun a b => absurd ⟨a, b⟩ c⟩
    refine ⟨fun i j => (hch i j).choose, fun i j a b => ((hch i j).choose_spec a b).2, fun i hi => ?_, h1, by unfold maxLen at h2; omega, (fun h => by cases h)⟩
    have c0 := ((hch 0 0).choose_spec (by omega) hk).1
    obtain ⟨b, off, spot⟩ := x
    have hs : spot = none := by simpa [Addr.add] using World.cell?_spot c0
    subst hs
    have hb : b < w.heap.size := by
      have := World.block_lt_of_cell? _ _ c0
      simpa [Addr.add] using this
    refine ⟨b, off, rfl, hb, fun j hj => ?_⟩
    have := ((hch i j).choose_spec hi hj).1
    rw [Nat.add_assoc, ← Go.WideShapes.add_plain]; exact this

theorem IsRowK.shares {w : World} {a : Option Addr} {len cap : Nat} (h : IsRowK 2 w a len cap) : ∃ l : List (Int × Int), l.length = len ∧ RowK 2 encS w a l ∧ (∀ s ∈ l, (Lit.int .i64 s.1).wf = true ∧ (Lit.int .i64 s.2).wf = true) ∧ len ≤ cap ∧ len ≤ 9223372036854775807 ∧ (a = none → cap = 0) := by
  obtain ⟨V, hw, hc, h1, h2, h3⟩ := h.at (by omega)
  refine ⟨(List.range len).map fun i => (V i 0, V i 1), by simp, fun i x hx => ?_, fun s hs => ?_, h1, h2, h3⟩
  · have hi : i < len := by have := (List.getElem?_eq_some_iff.1 hx).1; simpa using this
    obtain ⟨b, off, e, hb, hc⟩ := hc i hi
    refine ⟨b, off, e, hb, fun j v hv => ?_⟩
    have e2 : x = (V i 0, V i 1) := by simp [hi] at hx; exact hx.symm
    subst e2
    match j, hv with
    | 0, hv => simp [encS] at hv; subst hv; exact hc 0 (by omega)
    | 1, hv => simp [encS] at hv; subst hv; exact hc 1 (by omega)
    | j + 2, hv => simp [encS] at hv
  · obtain ⟨i, hi, rfl⟩ := List.mem_map.1 hs
    have := List.mem_range.1 hi
    exact ⟨hw i 0 this (by omega), hw i 1 this (by omega)⟩

theorem IsRowK.usages {w : World} {a : Option Addr} {len cap : Nat} (h : IsRowK 4 w a len cap) : ∃ l : List Us, l.length = len ∧ RowK 4 encU w a l ∧ (∀ s ∈ l, (Lit.int .i64 s.acc).wf = true ∧ (Lit.int .i64 s.rcd).wf = true ∧ (Lit.int .i64 s.val).wf = true ∧ (Lit.int .i64 s.held).wf = true) ∧ len ≤ cap ∧ len ≤ 9223372036854775807 ∧ (a = none → cap = 0) := by
  obtain ⟨V, hw, hc, h1, h2, h3⟩ := h.at (by omega)
  refine ⟨(List.range len).map fun i => ⟨V i 0, V i 1, V i 2, V i 3⟩, by simp, fun i x hx => ?_, fun s hs => ?_, h1, h2, h3⟩
  · have hi : i < len := by have := (List.getElem?_eq_some_iff.1 hx).1; simpa using this
    obtain ⟨b, off, e, hb, hc⟩ := hc i hi
    refine ⟨b, off, e, hb, fun j v hv => ?_⟩
    have e2 : x = ⟨V i 0, V i 1, V i 2, V i 3⟩ := by simp [hi] at hx; exact hx.symm
    subst e2
    match j, hv with
    | 0, hv => simp [encU] at hv; subst hv; exact hc 0 (by omega)
    | 1, hv => simp [encU] at hv; subst hv; exact hc 1 (by omega)
    | 2, hv => simp [encU] at hv; subst hv; exact hc 2 (by omega)
    | 3, hv => simp [encU] at hv; subst hv; exact hc 3 (by omega)
    | j + 4, hv => simp [encU] at hv
  · obtain ⟨i, hi, rfl⟩ := List.mem_map.1 hs
    have := List.mem_range.1 hi
    exact ⟨hw i 0 this (by omega), hw i 1 this (by omega), hw i 2 this (by omega), hw i 3 this (by omega)⟩

theorem IsRowK.streams {w : World} {a : Option Addr} {len cap : Nat} (h : IsRowK 9 w a len cap) : ∃ l : List St, l.length = len ∧ RowK 9 encT w a l ∧ T64 l ∧ len ≤ cap ∧ len ≤ 9223372036854775807 ∧ (a = none → cap = 0) := by
  obtain ⟨V, hw, hc, h1, h2, h3⟩ := h.at (by omega)
  refine ⟨(List.range len).map fun i => ⟨V i 0, V i 1, V i 2, V i 3, V i 4, V i 5, V i 6, V i 7, V i 8⟩, by simp, fun i x hx => ?_, fun s hs => ?_, h1, h2, h3⟩
  · have hi : i < len := by have := (List.getElem?_eq_some_iff.1 hx).1; simpa using this
    obtain ⟨b, off, e, hb, hc⟩ := hc i hi
    refine ⟨b, off, e, hb, fun j v hv => ?_⟩
    have e2 : x = ⟨V i 0, V i 1, V i 2, V i 3, V i 4, V i 5, V i 6, V i 7, V i 8⟩ := by simp [hi] at hx; exact hx.symm
    subst e2
    match j, hv with
    | 0, hv => simp [encT] at hv; subst hv; exact hc 0 (by omega)
    | 1, hv => simp [encT] at hv; subst hv; exact hc 1 (by omega)
    | 2, hv => simp [encT] at hv; subst hv; exact hc 2 (by omega)
    | 3, hv => simp [encT] at hv; subst hv; exact hc 3 (by omega)
    | 4, hv => simp [encT] at hv; subst hv; exact hc 4 (by omega)
    | 5, hv => simp [encT] at hv; subst hv; exact hc 5 (by omega)
    | 6, hv => simp [encT] at hv; subst hv; exact hc 6 (by omega)
    | 7, hv => simp [encT] at hv; subst hv; exact hc 7 (by omega)
    | 8, hv => simp [encT] at hv; subst hv; exact hc 8 (by omega)
    | j + 9, hv => simp [encT] at hv
  · obtain ⟨i, hi, rfl⟩ := List.mem_map.1 hs
    have := List.mem_range.1 hi
    exact ⟨hw i 2 this (by omega), hw i 3 this (by omega)⟩

end Go.Proofs.Ytbkmcncakpmgkaa

/-! The statements' helpers: total, payments, few. -/
namespace Go.Proofs.Ytbkmcncakpmgkaa
set_option linter.unusedVariables false
open Go.ChangeShapes Go.WideShapes Go.ChangeAt Go.RowKit

def tot (l : List (Int × Int)) : Int := (amts l).sum
theorem tot_snoc (l : List (Int × Int)) (s : Int × Int) : tot (l ++ [s]) = tot l + s.2 := by simp [tot, amts]

theorem tot_bd {B : Int} {l : List (Int × Int)} (h : AmtLe B l) : 0 ≤ tot l ∧ tot l ≤ B * l.length := by
  induction l with
  | nil => simp [tot, amts]
  | cons s t ih =>
    have h1 := h s (by simp)
    have h2 := ih (fun x hx => h x (by simp [hx]))
    have e : tot (s :: t) = s.2 + tot t := by simp [tot, amts]
    rw [e, List.length_cons]
    push_cast
    rw [Int.mul_add, Int.mul_one]
    omega

theorem AmtLe.take {B : Int} {l : List (Int × Int)} (h : AmtLe B l) (k : Nat) : AmtLe B (l.take k) := fun s hs => h s (List.mem_of_mem_take hs)

set_option maxRecDepth 100000 in
set_option maxHeartbeats 1000000 in
theorem total_any (ao : Option Addr) (cap m : Nat) (l : List (Int × Int)) (w : World) (hm : m ≤ 1000) (hl : l.length = m) (hr : RowK 2 encS w ao l) (hb : AmtLe 9000000000000000 l) :
    Calls Try.prog 25 #[.slice ao m cap] w fun e w' => e = .returned (.int .i64 (tot l)) ∧ w = w' := by
  have HL := Lib.hid hl
  have HR := Lib.hid hr
  have HB := Lib.hid hb
  clear hl hr hb
  go_enter Try.func25, Try.ntmps25
  go_wp2
  go_loop [3, 4] (fun n i => ∃ k : Nat, k ≤ m ∧ i = .int .i64 k ∧ n = .int .i64 (tot (l.take k))) (fun _ i => m - (intOf i).toNat)
  case atStart => exact ⟨0, Nat.zero_le _, rfl, rfl⟩
  case round =>
    obtain ⟨k, hk, rfl, rfl⟩ := hrel
    by_cases hlt : k < m
    · have hkl : k < l.length := by rw [HL.out]; exact hlt
      obtain ⟨sb, off, rfl, hbl, c0, c1⟩ := HR.out.share hkl
      have HT := Lib.hid (show tot (l.take (k + 1)) = tot (l.take k) + l[k].2 by rw [List.take_succ_eq_append_getElem hkl, tot_snoc])
      have hb1 := HB.out l[k] (List.getElem_mem hkl)
      have hb2 := tot_bd (HB.out.take k)
      have hlk : (l.take k).length ≤ k := by rw [List.length_take]; omega
      obtain ⟨y, hy⟩ : ∃ y, l[k].2 = y := ⟨_, rfl⟩
      obtain ⟨T, hT⟩ : ∃ T, tot (l.take k) = T := ⟨_, rfl⟩
      rw [hy] at c1 HT hb1
      rw [hT] at HT hb2 ⊢
      have hT2 : T ≤ 9000000000000000 * 1000 := by omega
      clear hy hT c0
      go_wp2
      go_round
      case rel => exact ⟨k + 1, by omega, by go_num, by rw [HT.out]⟩
      case measure => simp [intOf]; omega
    · have HN := Lib.hid (show l.take k = l from List.take_of_length_le (by rw [HL.out]; omega))
      go_wp2
      go_ret
      exact ⟨by rw [HN.out]; rfl, rfl⟩

def payL (l : List (Int × Int)) : List (Int × Int) := (l.take 12).map fun s => (pickZ s.1 8, pickZ s.2 100000000000)
theorem pay_len (l : List (Int × Int)) : (payL l).length ≤ 12 := by simp [payL]; omega

theorem payL_take (l : List (Int × Int)) (k : Nat) (h : k < l.length) (h2 : k < 12) : (payL l).take (k + 1) = (payL l).take k ++ [(pickZ l[k].1 8, pickZ l[k].2 100000000000)] := by
  have hk : k < (payL l).length := by simp [payL]; omega
  rw [List.take_succ_eq_append_getElem hk]
  simp [payL]

set_option maxRecDepth 100000 in
set_option maxHeartbeats 1000000 in
theorem payments_any (ao : Option Addr) (cap m : Nat) (l : List (Int × Int)) (w : World) (hm : m ≤ 9223372036854775807) (hl : l.length = m) (hr : RowK 2 encS w ao l) (hw : ∀ s ∈ l, (Lit.int .i64 s.1).wf = true ∧ (Lit.int .i64 s.2).wf = true) :
    Calls Try.prog 11 #[.slice ao m cap] w (SlcK 2 encS w (payL l)) := by
  have HL := Lib.hid hl
  have HR := Lib.hid hr
  have HWF := Lib.hid hw
  clear hl hr hw
  obtain ⟨i0, hi, hz0, hz1, hz2⟩ := info_parts Try.infoS
  go_enter Try.func11, Try.ntmps11
  go_wp2
  go_loopw [3, 4] (fun v i wr => ∃ k : Nat, k ≤ m ∧ k ≤ 12 ∧ i = .int .i64 k ∧ wr.ownsRow w.heap.size 47 2 v ((payL l).take k).length (((payL l).take k).flatMap encS) ∧ Below w.heap.size w wr) (fun _ i _ => 12 - (intOf i).toNat)
  case atStart => exact ⟨0, Nat.zero_le _, by omega, rfl, World.ownsRow_nil _ _ _ _, Below.refl _ _⟩
  case round =>
    obtain ⟨k, hk, hk12, rfl, hown, hb⟩ := hrel
    have HO := Lib.hid hown
    have HB := Lib.hid hb
    clear hown hb
    have hlen : ((payL l).take k).length ≤ k := by rw [List.length_take]; omega
    by_cases hlt : k < m
    · have hkl : k < l.length := by rw [HL.out]; exact hlt
      by_cases h12 : k < 12
      · obtain ⟨sb, off, rfl, hbl, c0, c1⟩ := HR.out.share hkl
        have e0 : wr.cell? ⟨sb, off + k * 2, none⟩ = some (.int .i64 l[k].1) := by rw [HB.out.cell (p := ⟨sb, off + k * 2, none⟩) hbl]; exact c0
        have e1 : wr.cell? ⟨sb, off + k * 2 + 1, none⟩ = some (.int .i64 l[k].2) := by rw [HB.out.cell (p := ⟨sb, off + k * 2 + 1, none⟩) hbl]; exact c1
        have HT := Lib.hid (payL_take l k hkl h12)
        obtain ⟨hw1, hw2⟩ := HWF.out l[k] (List.getElem_mem hkl)
        have hx1 := bounds_i64 hw1
        have hx2 := bounds_i64 hw2
        obtain ⟨x, hx⟩ : ∃ x, l[k].1 = x := ⟨_, rfl⟩
        obtain ⟨y, hy⟩ : ∃ y, l[k].2 = y := ⟨_, rfl⟩
        rw [hx] at e0 HT hx1
        rw [hy] at e1 HT hx2
        clear c0 c1 hx hy hw1 hw2
        obtain ⟨vo, vc, rfl, _, _⟩ := rowK_of_owns encS_len (by decide) HO.out
        obtain ⟨vn, hvn⟩ : ∃ vn, ((payL l).take k).length = vn := ⟨_, rfl⟩
        rw [hvn] at HO hlen ⊢
        have HVN := Lib.hid hvn
        clear hvn
        have HP1 := Lib.hid (fun W => pick_any x 8 W hx1.1 hx1.2 (by omega) (by omega))
        have HP2 := Lib.hid (fun W => pick_any y 100000000000 W hx2.1 hx2.2 (by omega) (by omega))
        have KB := Lib.hid (show ∀ W, Below w.heap.size w W → W.cell? ⟨sb, off + k * 2, none⟩ = some (.int .i64 x) ∧ W.cell? ⟨sb, off + k * 2 + 1, none⟩ = some (.int .i64 y) from fun W h => ⟨by rw [h.cell (p := ⟨sb, off + k * 2, none⟩) hbl]; rw [HB.out.cell (p := ⟨sb, off + k * 2, none⟩) hbl] at e0; exact e0, by rw [h.cell (p := ⟨sb, off + k * 2 + 1, none⟩) hbl]; rw [HB.out.cell (p := ⟨sb, off + k * 2 + 1, none⟩) hbl] at e1; exact e1⟩)
        obtain ⟨px, hpx⟩ : ∃ px, pickZ x 8 = px := ⟨_, rfl⟩
        obtain ⟨py, hpy⟩ : ∃ py, pickZ y 100000000000 = py := ⟨_, rfl⟩
        rw [hpx] at HP1 HT
        rw [hpy] at HP2 HT
        have HOD := Lib.hid ((HO.out.alloc (.cells #[.int .i64 px, .int .i64 py] 47)).drew)
        have HBD := Lib.hid ((HB.out.alloc HB.out.size (.cells #[.int .i64 px, .int .i64 py] 47)).drew)
        have NEW := Lib.hid (show ∀ j u, (encS (px, py))[j]? = some u → ((wr.alloc (.cells #[.int .i64 px, .int .i64 py] 47)).drew).cell? ((⟨wr.heap.size, 0, none⟩ : Addr).add j) = some u from cells_at wr (encS (px, py)) _ _ rfl)
        have hi0 : (0 : Int) ≤ (k : Int) := by omega
        have hi1 : (k : Int) < (m : Int) := by omega
        clear hpx hpy
        go_wp2
        go_region_held3 (fun w' => w'.cell? ⟨sb, off + k * 2, none⟩ = some (.int .i64 x) ∧ w'.cell? ⟨sb, off + k * 2 + 1, none⟩ = some (.int .i64 y)) (first | (exact KB.out _ E4) | go_keep)
          (first
            | (go_at_call 17; (with_reducible refine (HP1.out _).mono ?_); rintro e w2 ⟨rfl, rfl⟩)
            | (go_at_call 17; (with_reducible refine (HP2.out _).mono ?_); rintro e w2 ⟨rfl, rfl⟩)
            | (refine step_own (by rfl) (.tmp 15) (.tmp 29) 23 (by rfl) w.heap.size 47 i0 (.agg #[.int .i64 0, .int .i64 0]) 2 16 Try.underlying23 hi hz0 hz1 hz2 (by rfl) (by decide) (.slice vo vn vc) vn (((payL l).take k).flatMap encS) ?_ ?_ ⟨wr.heap.size, 0, none⟩ 1 1 (encS (px, py)) ?_ (by rfl) ?_ (encS_one _) ?_ ?_ ?_ ?_; (simp [Act.eval]); (with_reducible exact HOD.out); (simp [Act.eval]); (with_reducible exact NEW.out); (unfold maxLen; omega); omega; (have := HBD.out.size; omega); intro v' w4 own gr; have E4 := grown_own HBD.out (Nat.le_refl _) HOD.out gr))
        all_goals
          have R : w4.ownsRow w.heap.size 47 2 v' ((payL l).take (k + 1)).length (((payL l).take (k + 1)).flatMap encS) := by
            rw [HT.out, flat_snoc, List.length_append, HVN.out]; exact own
          have RR := Lib.hid R
          have EE := Lib.hid E4
          clear own gr R E4
          go_wp2
          go_roundw
          case rel => exact ⟨k + 1, by omega, by omega, by go_num, RR.out, EE.out⟩
          case measure => simp [intOf]; omega
      · have he : (payL l).take k = payL l := List.take_of_length_le (by have := pay_len l; omega)
        have ho := HO.out
        rw [he] at ho
        have HOO := Lib.hid ho
        clear he ho
        go_wp2
        go_ret
        exact fin_S HOO.out HB.out
    · have he : (payL l).take k = payL l := List.take_of_length_le (by simp [payL]; rw [HL.out]; omega)
      have ho := HO.out
      rw [he] at ho
      have HOO := Lib.hid ho
      clear he ho
      go_wp2
      go_ret
      exact fin_S HOO.out HB.out

end Go.Proofs.Ytbkmcncakpmgkaa

/-! The statements' helper few. -/
namespace Go.Proofs.Ytbkmcncakpmgkaa
set_option linter.unusedVariables false
open Go.ChangeShapes Go.WideShapes Go.ChangeAt Go.RowKit

def smallU (u : Us) : Us := ⟨pickZ u.acc 6, pickZ u.rcd 8, pickZ u.val 50, pickZ u.held 9⟩
def fewL (raw : Bool) (l : List Us) : List Us := (l.take 40).map fun u => if raw = true then u else smallU u
theorem few_len (raw : Bool) (l : List Us) : (fewL raw l).length ≤ 40 := by simp [fewL]; omega
theorem few_take (raw : Bool) (l : List Us) (k : Nat) (h : k < l.length) (h2 : k < 40) : (fewL raw l).take (k + 1) = (fewL raw l).take k ++ [if raw = true then l[k] else smallU l[k]] := by
  have hk : k < (fewL raw l).length := by simp [fewL]; omega
  rw [List.take_succ_eq_append_getElem hk]
  simp [fewL]

def Us64 (l : List Us) : Prop := ∀ s ∈ l, (Lit.int .i64 s.acc).wf = true ∧ (Lit.int .i64 s.rcd).wf = true ∧ (Lit.int .i64 s.val).wf = true ∧ (Lit.int .i64 s.held).wf = true

set_option maxRecDepth 100000 in
set_option maxHeartbeats 1000000 in
theorem few_any (raw : Bool) (ao : Option Addr) (cap m : Nat) (l : List Us) (w : World) (hm : m ≤ 9223372036854775807) (hl : l.length = m) (hr : RowK 4 encU w ao l) (hw : Us64 l) :
    Calls Try.prog 10 #[.slice ao m cap, .bool raw] w (SlcK 4 encU w (fewL raw l)) := by
  have HL := Lib.hid hl
  have HR := Lib.hid hr
  have HWF := Lib.hid hw
  clear hl hr hw
  obtain ⟨i0, hi, hz0, hz1, hz2⟩ := info_parts Try.infoU
  go_enter Try.func10, Try.ntmps10
  go_wp2
  go_loopw [5, 6] (fun v i wr => ∃ k : Nat, k ≤ m ∧ k ≤ 40 ∧ i = .int .i64 k ∧ wr.ownsRow w.heap.size 42 4 v ((fewL raw l).take k).length (((fewL raw l).take k).flatMap encU) ∧ Below w.heap.size w wr) (fun _ i _ => 40 - (intOf i).toNat)
  case atStart => exact ⟨0, Nat.zero_le _, by omega, rfl, World.ownsRow_nil _ _ _ _, Below.refl _ _⟩
  case round =>
    obtain ⟨k, hk, hk40, rfl, hown, hb⟩ := hrel
    have HO := Lib.hid hown
    have HB := Lib.hid hb
    clear hown hb
    have hlen : ((fewL raw l).take k).length ≤ k := by rw [List.length_take]; omega
    by_cases hlt : k < m
    · have hkl : k < l.length := by rw [HL.out]; exact hlt
      by_cases h40 : k < 40
      · obtain ⟨sb, off, rfl, hbl, c0, c1, c2, c3⟩ := HR.out.usage hkl
        have e0 : wr.cell? ⟨sb, off + k * 4, none⟩ = some (.int .i64 l[k].acc) := by rw [HB.out.cell (p := ⟨sb, off + k * 4, none⟩) hbl]; exact c0
        have e1 : wr.cell? ⟨sb, off + k * 4 + 1, none⟩ = some (.int .i64 l[k].rcd) := by rw [HB.out.cell (p := ⟨sb, off + k * 4 + 1, none⟩) hbl]; exact c1
        have e2 : wr.cell? ⟨sb, off + k * 4 + 2, none⟩ = some (.int .i64 l[k].val) := by rw [HB.out.cell (p := ⟨sb, off + k * 4 + 2, none⟩) hbl]; exact c2
        have e3 : wr.cell? ⟨sb, off + k * 4 + 3, none⟩ = some (.int .i64 l[k].held) := by rw [HB.out.cell (p := ⟨sb, off + k * 4 + 3, none⟩) hbl]; exact c3
        have HT := Lib.hid (few_take raw l k hkl h40)
        have hwf := HWF.out l[k] (List.getElem_mem hkl)
        obtain ⟨u, hu⟩ : ∃ u, l[k] = u := ⟨_, rfl⟩
        rw [hu] at e0 e1 e2 e3 HT hwf
        clear c0 c1 c2 c3 hu
        obtain ⟨ua, ur, uv, uh⟩ := u
        dsimp only at e0 e1 e2 e3 hwf
        have b0 := bounds_i64 hwf.1
        have b1 := bounds_i64 hwf.2.1
        have b2 := bounds_i64 hwf.2.2.1
        have b3 := bounds_i64 hwf.2.2.2
        clear hwf
        rcases raw with _ | _
        · have HN := Lib.hid (show (fewL false l).take (k + 1) = (fewL false l).take k ++ [⟨pickZ ua 6, pickZ ur 8, pickZ uv 50, pickZ uh 9⟩] by rw [HT.out]; simp [smallU])
          have HP1 := Lib.hid (fun W => (pick_any ua 6 W b0.1 b0.2 (by omega) (by omega)).mono (R' := fun e w' => e = .returned (.int .i64 (pickZ ua 6)) ∧ w' = W) (fun _ _ h => ⟨h.1, h.2.symm⟩))
          have HP2 := Lib.hid (fun W => (pick_any ur 8 W b1.1 b1.2 (by omega) (by omega)).mono (R' := fun e w' => e = .returned (.int .i64 (pickZ ur 8)) ∧ w' = W) (fun _ _ h => ⟨h.1, h.2.symm⟩))
          have HP3 := Lib.hid (fun W => (pick_any uv 50 W b2.1 b2.2 (by omega) (by omega)).mono (R' := fun e w' => e = .returned (.int .i64 (pickZ uv 50)) ∧ w' = W) (fun _ _ h => ⟨h.1, h.2.symm⟩))
          have HP4 := Lib.hid (fun W => (pick_any uh 9 W b3.1 b3.2 (by omega) (by omega)).mono (R' := fun e w' => e = .returned (.int .i64 (pickZ uh 9)) ∧ w' = W) (fun _ _ h => ⟨h.1, h.2.symm⟩))
          obtain ⟨pa, hpa⟩ : ∃ p, pickZ ua 6 = p := ⟨_, rfl⟩
          obtain ⟨pr, hpr⟩ : ∃ p, pickZ ur 8 = p := ⟨_, rfl⟩
          obtain ⟨pv, hpv⟩ : ∃ p, pickZ uv 50 = p := ⟨_, rfl⟩
          obtain ⟨ph, hph⟩ : ∃ p, pickZ uh 9 = p := ⟨_, rfl⟩
          rw [hpa] at HP1 HN
          rw [hpr] at HP2 HN
          rw [hpv] at HP3 HN
          rw [hph] at HP4 HN
          clear hpa hpr hpv hph HT
          go_wp2
          obtain ⟨W1, hW1⟩ : ∃ W1, wr.alloc (.cells #[.int .i64 ua, .int .i64 ur, .int .i64 uv, .int .i64 uh] 42) = W1 := ⟨_, rfl⟩
          have f0 : W1.cell? ⟨wr.heap.size, 0, none⟩ = some (.int .i64 ua) := by rw [← hW1]; exact cell_box _ _ _ 0 _ rfl _ rfl
          have f1 : W1.cell? ⟨wr.heap.size, 1, none⟩ = some (.int .i64 ur) := by rw [← hW1]; exact cell_box _ _ _ 1 _ rfl _ rfl
          have f2 : W1.cell? ⟨wr.heap.size, 2, none⟩ = some (.int .i64 uv) := by rw [← hW1]; exact cell_box _ _ _ 2 _ rfl _ rfl
          have f3 : W1.cell? ⟨wr.heap.size, 3, none⟩ = some (.int .i64 uh) := by rw [← hW1]; exact cell_box _ _ _ 3 _ rfl _ rfl
          rw [hW1]
          have HW1 := Lib.hid hW1
          clear hW1
          go_still_tail 13, (by kernel_rfl)
          still_call (HP1.out _)
          repeat still_step
          still_call (HP2.out _)
          repeat still_step
          still_call (HP3.out _)
          repeat still_step
          still_call (HP4.out _)
          repeat still_step
          refine wpStill_nil ?_
          have HOD := Lib.hid (((HO.out.alloc (.cells #[.int .i64 pa, .int .i64 pr, .int .i64 pv, .int .i64 ph] 42)).alloc (.cells #[.int .i64 pa, .int .i64 pr, .int .i64 pv, .int .i64 ph] 42)).drew)
          have HBD := Lib.hid (((HB.out.alloc HB.out.size (.cells #[.int .i64 pa, .int .i64 pr, .int .i64 pv, .int .i64 ph] 42)).alloc (by have := HB.out.size; simp; omega) (.cells #[.int .i64 pa, .int .i64 pr, .int .i64 pv, .int .i64 ph] 42)).drew)
          change wpList _ _ _ _ _ (World.drew W1)
          rw [← HW1.out]
          clear f0 f1 f2 f3
          go_wp2_with (at_builtin; refine wpList_append_own _ rfl (.tmp 37) (.tmp 39) 22 rfl w.heap.size 42 i0 (.agg #[.int .i64 0, .int .i64 0, .int .i64 0, .int .i64 0]) 4 32 Try.underlying22 hi hz0 hz1 hz2 rfl (by decide) _ _ _ rfl HOD.out ⟨wr.heap.size + 1, 0, none⟩ 1 1 (encU ⟨pa, pr, pv, ph⟩) rfl rfl (cells_at (wr.alloc (.cells #[.int .i64 pa, .int .i64 pr, .int .i64 pv, .int .i64 ph] 42)) (encU ⟨pa, pr, pv, ph⟩) _ _ (by simp)) (encU_one _) (by unfold maxLen; omega) (by omega) (by have := HBD.out.size; exact this) ?_; intro v' w1 own gr _h)
          have R : w1.ownsRow w.heap.size 42 4 v' ((fewL false l).take (k + 1)).length (((fewL false l).take (k + 1)).flatMap encU) ∧ Below w.heap.size w w1 := by
            refine ⟨?_, grown_own HBD.out (Nat.le_refl _) HOD.out gr⟩
            rw [HN.out, flat_snoc, List.length_append]; exact own
          have RR := Lib.hid R
          clear own gr _h R
          go_wp2
          go_roundw
          case rel => exact ⟨k + 1, by omega, by omega, by go_num, RR.out.1, RR.out.2⟩
          case measure => simp [intOf]; omega
        · have HN := Lib.hid (show (fewL true l).take (k + 1) = (fewL true l).take k ++ [⟨ua, ur, uv, uh⟩] by rw [HT.out]; simp)
          have HOD := Lib.hid ((HO.out.alloc (.cells #[.int .i64 ua, .int .i64 ur, .int .i64 uv, .int .i64 uh] 42)).alloc (.cells #[.int .i64 ua, .int .i64 ur, .int .i64 uv, .int .i64 uh] 42))
          have HBD := Lib.hid ((HB.out.alloc HB.out.size (.cells #[.int .i64 ua, .int .i64 ur, .int .i64 uv, .int .i64 uh] 42)).alloc (by have := HB.out.size; simp; omega) (.cells #[.int .i64 ua, .int .i64 ur, .int .i64 uv, .int .i64 uh] 42))
          clear HT
          go_wp2_with (at_builtin; refine wpList_append_own _ rfl (.tmp 37) (.tmp 39) 22 rfl w.heap.size 42 i0 (.agg #[.int .i64 0, .int .i64 0, .int .i64 0, .int .i64 0]) 4 32 Try.underlying22 hi hz0 hz1 hz2 rfl (by decide) _ _ _ rfl HOD.out ⟨wr.heap.size + 1, 0, none⟩ 1 1 (encU ⟨ua, ur, uv, uh⟩) rfl rfl (cells_at _ (encU ⟨ua, ur, uv, uh⟩) _ _ (by simp)) (encU_one _) (by unfold maxLen; omega) (by omega) (by have := HBD.out.size; exact this) ?_; intro v' w1 own gr _h)
          have R : w1.ownsRow w.heap.size 42 4 v' ((fewL true l).take (k + 1)).length (((fewL true l).take (k + 1)).flatMap encU) ∧ Below w.heap.size w w1 := by
            refine ⟨?_, grown_own HBD.out (Nat.le_refl _) HOD.out gr⟩
            rw [HN.out, flat_snoc, List.length_append]; exact own
          have RR := Lib.hid R
          clear own gr _h R
          go_wp2
          go_roundw
          case rel => exact ⟨k + 1, by omega, by omega, by go_num, RR.out.1, RR.out.2⟩
          case measure => simp [intOf]; omega
      · have he : (fewL raw l).take k = fewL raw l := List.take_of_length_le (by have := few_len raw l; omega)
        have ho := HO.out
        rw [he] at ho
        have HOO := Lib.hid ho
        clear he ho
        go_wp2
        go_ret
        exact fin_U HOO.out HB.out
    · have he : (fewL raw l).take k = fewL raw l := List.take_of_length_le (by simp [fewL]; rw [HL.out]; omega)
      have ho := HO.out
      rw [he] at ho
      have HOO := Lib.hid ho
      clear he ho
      go_wp2
      go_ret
      exact fin_U HOO.out HB.out

end Go.Proofs.Ytbkmcncakpmgkaa
