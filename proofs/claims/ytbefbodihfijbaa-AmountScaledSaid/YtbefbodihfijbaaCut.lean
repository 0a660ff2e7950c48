/-
  Contracts of the laws' helpers cut and weights: what each returns, in new memory.
-/
import Derived.Test.YtbefbodihfijbaaAppWorld
import Derived.Test.YtbefbodihfijbaaAmtC
import Derived.Laws.AppendOwnNone
import Derived.WalkLawsBesides
import Derived.WalkSpells
namespace Go.Proofs.Ytbefbodihfijbaa
set_option linter.unusedVariables false
open Go.ChangeShapes Go.WideShapes Go.ChangeAt Go.RowKit

/-- the result: a slice that reads as l -/
def Slc (w : World) (l : List Int) (e : Ending) (w' : World) : Prop :=
  ∃ (ao : Option Addr) (cap : Nat), e = .returned (.slice ao l.length cap) ∧ ((ao = none → cap = 0) ∧ l.length ≤ cap) ∧ Row w' ao l ∧ Below w.heap.size w w'

def ints (l : List Int) : List Value := l.map (Value.int .i64)

theorem ints_one (l : List Int) : ∀ u ∈ ints l, u.oneCell' = true := by
  intro u hu
  simp only [ints, List.mem_map] at hu
  obtain ⟨z, _, rfl⟩ := hu
  rfl

/-- the cells of a slice, as append asks for them -/
theorem Row.news {w : World} {ad : Addr} {l : List Int} (h : Row w (some ad) l) : ∀ j u, (ints l)[j]? = some u → w.cell? (ad.add j) = some u := by
  intro j u hu
  have hj : j < l.length := by
    rcases Nat.lt_or_ge j l.length with h1 | h1
    · exact h1
    · rw [ints, List.getElem?_eq_none (by simpa using h1)] at hu; cases hu
  obtain ⟨b, off, e, _, hc⟩ := h j hj
  simp only [Option.some.injEq] at e
  subst e
  simp only [ints, List.getElem?_map, List.getElem?_eq_getElem hj, Option.map_some, Option.some.injEq] at hu
  subst hu
  have e : (Addr.add ⟨b, off, none⟩ j) = ⟨b, off + j, none⟩ := by unfold Addr.add; split <;> simp_all
  rw [e, hc]; simp [hj]

theorem Row.take {w : World} {ao : Option Addr} {l : List Int} (h : Row w ao l) (m : Nat) : Row w ao (l.take m) := by
  intro i hi
  rw [List.length_take] at hi
  obtain ⟨b, off, e, h1, hc⟩ := h i (by omega)
  refine ⟨b, off, e, h1, ?_⟩
  rw [hc]
  simp only [List.getD_eq_getElem?_getD, List.getElem?_take_of_lt (show i < m by omega)]

theorem Row.alloc {w : World} {ao : Option Addr} {l : List Int} (h : Row w ao l) (o : Obj) : Row (w.alloc o) ao l := h.later ((Below.refl _ _).alloc (Nat.le_refl _) o)

/-- what is owned reads as a list -/
theorem row_of_owns {w : World} {base e n : Nat} {v : Value} {l : List Int} (h : w.ownsRow base e 1 v n (ints l)) : ∃ ao cap, v = .slice ao l.length cap ∧ ((ao = none → cap = 0) ∧ l.length ≤ cap) ∧ Row w ao l := by
  obtain ⟨hlen, h | ⟨g, cap, cur, hv, _, hb, hcap, _, _, ht⟩⟩ := h
  · obtain ⟨rfl, rfl⟩ := h
    have : l = [] := by simp [ints] at hlen; exact hlen
    subst this
    exact ⟨none, 0, rfl, ⟨fun _ => rfl, Nat.le_refl _⟩, Row.nil _ _⟩
  · have hn : l.length = n := by simp [ints] at hlen; exact hlen
    refine ⟨some ⟨g, 0, none⟩, cap, by rw [hv, hn], ⟨(fun h => by cases h), by omega⟩, fun i hi => ⟨g, 0, rfl, ?_, ?_⟩⟩
    · rcases Nat.lt_or_ge g w.heap.size with h | h
      · exact h
      · rw [Array.getElem?_eq_none h] at hb; cases hb
    · rw [Nat.zero_add]
      have : cur[i]? = some (.int .i64 (l.getD i 0)) := by
        rw [← Array.getElem?_toList]
        have h1 : (cur.toList.take (n * 1))[i]? = (ints l)[i]? := by rw [ht]
        rw [List.getElem?_take_of_lt (by omega)] at h1
        rw [h1]; simp [ints, hi]
      simp [World.cell?, hb, this]

theorem owns_empty (w : World) (e : TypeId) : (w.alloc (.cells #[] e)).ownsRow w.heap.size e 1 (.slice (some ⟨w.heap.size, 0, none⟩) 0 0) 0 (ints []) :=
  ⟨by simp [ints], .inr ⟨w.heap.size, 0, #[], rfl, Nat.le_refl _, heap_alloc_new w _, Nat.le_refl _, by unfold maxLen; omega, by simp, by simp [ints]⟩⟩

theorem fin_slc {w w1 : World} {v : Value} {n e : Nat} {l : List Int} (ho : w1.ownsRow w.heap.size e 1 v n (ints l)) (hb : Below w.heap.size w w1) : Slc w l (.returned v) w1 := by
  obtain ⟨ao, cap, rfl, h1, h2⟩ := row_of_owns ho
  exact ⟨ao, cap, rfl, h1, h2, hb⟩

set_option maxHeartbeats 400000 in
theorem cut_any (ao : Option Addr) (cap n : Nat) (l : List Int) (w : World) (hn : n ≤ 9223372036854775807) (hl : l.length = n) (hcap : n ≤ cap) (hnil : ao = none → cap = 0) (hr : Row w ao l) :
    Calls Try.prog 18 #[.slice ao n cap] w (Slc w (l.take 40)) := by
  obtain ⟨i0, hi, hz0, hz1, hz2⟩ := info_parts Try.info3
  rcases ao with _ | ad
  · have := hnil rfl
    subst this
    have : n = 0 := by omega
    subst this
    have : l = [] := List.eq_nil_of_length_eq_zero hl
    subst this
    have O := Lib.hid (owns_empty w 3)
    have HB := Lib.hid ((Below.refl w.heap.size w).alloc (Nat.le_refl _) (.cells #[] 3))
    clear hnil hl hr
    go_enter Try.func18, Try.ntmps18
    go_wp2_with (at_builtin; refine wpList_append_own_none rfl (.tmp 3) (.tmp 8) 29 rfl w.heap.size 3 i0 1 Try.underlying29 hi _ 0 (ints []) rfl O.out rfl ?_)
    go_ret
    exact fin_slc O.out HB.out
  · clear hnil
    obtain ⟨m, hm⟩ : ∃ m : Nat, m = min n 40 := ⟨_, rfl⟩
    have hm0 : m ≤ n := by omega
    have hm1 : m ≤ 40 := by omega
    have hmin : min (n : Int) 40 = (m : Int) := by omega
    have O := Lib.hid (owns_empty w 3)
    have HB := Lib.hid ((Below.refl w.heap.size w).alloc (Nat.le_refl _) (.cells #[] 3))
    have hlen : (ints (l.take 40)).length = m * 1 := by simp [ints, hl, hm, Nat.min_comm]
    have HLEN := Lib.hid hlen
    have HN := Lib.hid ((hr.take 40).alloc (.cells #[] 3)).news
    clear hl hr hlen hm
    go_enter Try.func18, Try.ntmps18
    go_wp2_with (at_builtin; refine wpList_append_own _ rfl (.tmp 3) (.tmp 8) 29 rfl w.heap.size 3 i0 (.int .i64 0) 1 8 Try.underlying29 hi hz0 hz1 hz2 rfl (by decide) (.slice (some ⟨w.heap.size, 0, none⟩) 0 0) 0 (ints []) rfl O.out ad m cap (ints (l.take 40)) rfl HLEN.out HN.out (ints_one _) (by unfold maxLen; omega) (by omega) (by simp) ?_; intro v' w1 own gr _h)
    go_ret
    exact fin_slc own (HB.out.grown gr (by simp) (by intro k hk; simp [Value.ownBlock] at hk; omega))

/-- one weight -/
def wgt (i : Nat) (x : Int) : Int := if i % 2 = 0 then pickZ x 10000000000001 % 100 else pickZ x 10000000000001

def wts (l : List Int) : List Int := (List.range (min l.length 40)).map fun i => wgt i (l.getD i 0)

theorem wgt_bd (i : Nat) (x : Int) : 0 ≤ wgt i x ∧ wgt i x ≤ 10000000000000 := by
  have h1 := pickZ_lo x 10000000000001 (by omega)
  have h2 := pickZ_hi x 10000000000001 (by omega)
  unfold wgt; split <;> omega

theorem wts_length (l : List Int) : (wts l).length = min l.length 40 := by simp [wts]
theorem wts_bd (l : List Int) : ∀ x ∈ wts l, 0 ≤ x ∧ x ≤ 10000000000000 := by
  intro x hx
  simp only [wts, List.mem_map] at hx
  obtain ⟨i, _, rfl⟩ := hx
  exact wgt_bd _ _

theorem wts_take (l : List Int) (k : Nat) (hk : k < min l.length 40) : (wts l).take (k + 1) = (wts l).take k ++ [wgt k (l.getD k 0)] := by
  have h : k < (wts l).length := by rw [wts_length]; exact hk
  rw [List.take_succ_eq_append_getElem h]
  simp [wts]

theorem ints_append (a b : List Int) : ints (a ++ b) = ints a ++ ints b := by simp [ints]

theorem rel_weights {w wr w1 : World} {l : List Int} {k : Nat} {x : Int} {v v' : Value} (hk : k < min l.length 40) (hb : Below w.heap.size w wr) (hx : wgt k (l.getD k 0) = x)
    (ho : w1.ownsRow w.heap.size 3 1 v' ((wts l).take k |>.length |> (· + 1)) (ints ((wts l).take k) ++ [.int .i64 x])) (o : Obj) (gr : (wr.alloc o).grownBy w1 v.ownBlock) (hv : wr.ownsRow w.heap.size 3 1 v ((wts l).take k).length (ints ((wts l).take k))) :
    w1.ownsRow w.heap.size 3 1 v' ((wts l).take (k + 1)).length (ints ((wts l).take (k + 1))) ∧ Below w.heap.size w w1 := by
  rw [wts_take l k hk, ints_append, hx]
  refine ⟨by simpa [ints] using ho, (hb.alloc hb.size o).grown gr (by have := hb.size; simp; omega) ?_⟩
  intro j hj
  obtain ⟨_, h | ⟨g, cap, cur, rfl, h1, _⟩⟩ := hv
  · rw [h.1] at hj; simp [Value.ownBlock] at hj
  · simp [Value.ownBlock] at hj; omega

set_option maxHeartbeats 1000000 in
theorem weights_any (ao : Option Addr) (cap n : Nat) (l : List Int) (w : World) (hn : n ≤ 9223372036854775807) (hl : l.length = n) (hr : Row w ao l) (h64 : I64s l) :
    Calls Try.prog 19 #[.slice ao n cap] w (Slc w (wts l)) := by
  have HL := Lib.hid hl
  have HR := Lib.hid hr
  have H64 := Lib.hid h64
  clear hl hr h64
  obtain ⟨i0, hi, hz0, hz1, hz2⟩ := info_parts Try.info3
  go_enter Try.func19, Try.ntmps19
  go_wp2
  go_loopw [3, 4] (fun v i wr => ∃ k : Nat, k ≤ n ∧ k ≤ 40 ∧ i = .int .i64 k ∧ wr.ownsRow w.heap.size 3 1 v ((wts l).take k).length (ints ((wts l).take k)) ∧ Below w.heap.size w wr) (fun _ i _ => n - (intOf i).toNat)
  case atStart => exact ⟨0, Nat.zero_le _, Nat.zero_le _, rfl, World.ownsRow_nil _ _ _ _, Below.refl _ _⟩
  case round =>
    obtain ⟨k, hk, hk40, rfl, hown, hb⟩ := hrel
    by_cases hlt : k < n
    · by_cases h40 : k < 40
      · obtain ⟨b, off, rfl, hbl, hc⟩ := HR.out k (by rw [HL.out]; exact hlt)
        have h64 := H64.out k
        have hkl : k < min l.length 40 := by rw [HL.out]; omega
        have hll : ((wts l).take k).length = k := by rw [List.length_take, wts_length]; omega
        have hpl := pickZ_lo (l.getD k 0) 10000000000001 (by omega)
        have hph := pickZ_hi (l.getD k 0) 10000000000001 (by omega)
        have HPK := Lib.hid (fun w => pick_any (l.getD k 0) 10000000000001 w h64.1 h64.2 (by omega) (by omega))
        have hc' : wr.cell? ⟨b, off + k, none⟩ = some (.int .i64 (l.getD k 0)) := by rw [hb.cell (p := ⟨b, off + k, none⟩) hbl]; exact hc
        have hw0 : wgt k (l.getD k 0) = if k % 2 = 0 then pickZ (l.getD k 0) 10000000000001 % 100 else pickZ (l.getD k 0) 10000000000001 := rfl
        have HW := Lib.hid hw0
        have HLL := Lib.hid hll
        have HO := Lib.hid hown
        have HB := Lib.hid hb
        obtain ⟨y, hy⟩ : ∃ y, l.getD k 0 = y := ⟨_, rfl⟩
        rw [hy] at hc' HW HPK hpl hph
        have HY := Lib.hid hy
        clear hw0 hll hown hb hc h64 hy
        generalize pickZ y 10000000000001 = p at *
        by_cases hev : k % 2 = 0
        · have hev' : ((k : Int) % 2 == 0) = true := beq_iff_eq.2 (by omega)
          have HX := Lib.hid (show wgt k (l.getD k 0) = p % 100 by rw [HY.out, HW.out, if_pos hev])
          clear hev
          go_wp2_with (first | (go_at_call 13; refine (HPK.out _).mono ?_; rintro e w2 ⟨rfl, rfl⟩) | (at_builtin; refine wpList_append_own _ rfl (.tmp 26) (.tmp 28) 29 rfl w.heap.size 3 i0 (.int .i64 0) 1 8 Try.underlying29 hi hz0 hz1 hz2 rfl (by decide) _ _ _ rfl (HO.out.alloc _) ⟨wr.heap.size, 0, none⟩ 1 1 [.int .i64 (p % 100)] rfl rfl (cell_one_new _ _ _) (by intro u hu; simp at hu; subst hu; rfl) (by rw [HLL.out]; unfold maxLen; omega) (by rw [HLL.out]; omega) (by have := HB.out.size; simp; omega) ?_; intro v' w1 own gr _h))
          have R := rel_weights hkl HB.out HX.out own _ gr HO.out
          clear own gr _h
          go_wp2
          go_roundw
          case rel => exact ⟨k + 1, by omega, by omega, by go_num, R.1, R.2⟩
          case measure => simp [intOf]; omega
        · have hev' : ((k : Int) % 2 == 0) = false := beq_eq_false_iff_ne.2 (by omega)
          have HX := Lib.hid (show wgt k (l.getD k 0) = p by rw [HY.out, HW.out, if_neg hev])
          clear hev
          go_wp2_with (first | (go_at_call 13; refine (HPK.out _).mono ?_; rintro e w2 ⟨rfl, rfl⟩) | (at_builtin; refine wpList_append_own _ rfl (.tmp 26) (.tmp 28) 29 rfl w.heap.size 3 i0 (.int .i64 0) 1 8 Try.underlying29 hi hz0 hz1 hz2 rfl (by decide) _ _ _ rfl (HO.out.alloc _) ⟨wr.heap.size, 0, none⟩ 1 1 [.int .i64 p] rfl rfl (cell_one_new _ _ _) (by intro u hu; simp at hu; subst hu; rfl) (by rw [HLL.out]; unfold maxLen; omega) (by rw [HLL.out]; omega) (by have := HB.out.size; simp; omega) ?_; intro v' w1 own gr _h))
          have R := rel_weights hkl HB.out HX.out own _ gr HO.out
          clear own gr _h
          go_wp2
          go_roundw
          case rel => exact ⟨k + 1, by omega, by omega, by go_num, R.1, R.2⟩
          case measure => simp [intOf]; omega
      · have he : (wts l).take k = wts l := List.take_of_length_le (by rw [wts_length]; omega)
        rw [he] at hown
        have HO := Lib.hid hown
        have HB := Lib.hid hb
        clear hown hb he
        go_wp2
        go_ret
        exact fin_slc HO.out HB.out
    · have he : (wts l).take k = wts l := List.take_of_length_le (by rw [wts_length, HL.out]; omega)
      rw [he] at hown
      have HO := Lib.hid hown
      have HB := Lib.hid hb
      clear hown hb he
      go_wp2
      go_ret
      exact fin_slc HO.out HB.out

end Go.Proofs.Ytbefbodihfijbaa
