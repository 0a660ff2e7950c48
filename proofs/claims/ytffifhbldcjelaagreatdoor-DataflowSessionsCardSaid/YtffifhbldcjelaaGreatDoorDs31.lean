/-
  slices.SortStableFunc of plays. Facts and plays put into variables of their own, and into rows. session.ordered.
-/
import Derived.Test.YtffifhbldcjelaaGreatDoorDs21
import Derived.Test.YtffifhbldcjelaaGreatDoorDs30
import Derived.Test.YtffifhbldcjelaaGreatDoorDs25
import Derived.Test.YtffifhbldcjelaaGreatDoorDs12

/-! slices.SortStableFunc of plays. -/
namespace Go.Proofs.YtffifhbldcjelaaGreatDoor
set_option linter.unusedVariables false
set_option linter.unusedSimpArgs false
set_option linter.unusedSectionVars false
open Go.RowKit Go.Shelf Go.Lib Go.Sort

theorem encP_len18 (f : PF) : (encP f).length = 18 := rfl
theorem cmpI_lt (x y : Int) : Lib.compareInt x y < 0 ↔ x < y := by
  unfold Lib.compareInt
  by_cases h : x < y
  · rw [if_pos h]; simp [h]
  · rw [if_neg h]
    by_cases h2 : x > y
    · rw [if_pos h2]; simp; omega
    · rw [if_neg h2]; simp; omega
theorem cmpI_zero (x y : Int) : Lib.compareInt x y = 0 ↔ x = y := by
  unfold Lib.compareInt
  by_cases h : x < y
  · rw [if_pos h]; simp; omega
  · rw [if_neg h]
    by_cases h2 : x > y
    · rw [if_pos h2]; simp; omega
    · rw [if_neg h2]; simp; omega
theorem ltP_iff (x y : PF) : ltOf cfP x y = true ↔ x.n 6 < y.n 6 ∨ (x.n 6 = y.n 6 ∧ (x.n 4 < y.n 4 ∨ (x.n 4 = y.n 4 ∧ x.n 1 < y.n 1))) := by
  unfold ltOf cfP orI
  rw [decide_eq_true_eq]
  have a1 := cmpI_lt (x.n 6) (y.n 6)
  have a2 := cmpI_zero (x.n 6) (y.n 6)
  have b1 := cmpI_lt (x.n 4) (y.n 4)
  have b2 := cmpI_zero (x.n 4) (y.n 4)
  have c1 := cmpI_lt (x.n 1) (y.n 1)
  by_cases h : Lib.compareInt (x.n 6) (y.n 6) = 0
  · rw [if_pos h]
    have := a2.1 h
    by_cases h2 : Lib.compareInt (x.n 4) (y.n 4) = 0
    · rw [if_pos h2]
      have := b2.1 h2
      rw [c1]; omega
    · rw [if_neg h2]
      have : x.n 4 ≠ y.n 4 := fun q => h2 (b2.2 q)
      rw [b1]; omega
  · rw [if_neg h]
    have : x.n 6 ≠ y.n 6 := fun q => h (a2.2 q)
    rw [a1]; omega
theorem wko_cfP : WkO (ltOf cfP) where
  irr := fun x => by
    rw [Bool.eq_false_iff]; intro h
    have := (ltP_iff x x).1 h
    omega
  trn := fun x y z h1 h2 => by
    rw [ltP_iff] at *
    omega
  ntr := fun x y z h1 h2 => by
    rw [Bool.eq_false_iff, Ne, ltP_iff] at *
    omega

/-- this program bears the family -/
theorem plL : PlL Tryz.prog 18 where
  mixed := by kernel_rfl
  fsw := Tryz.func127
  fro := Tryz.func123
  fsy := Tryz.func112
  fst := Tryz.func98
  fins := Tryz.func111
  t0 := Tryz.underlying0
  a0 := Tryz.isAgg0
  z0 := Tryz.sizeOf0
  v0 := Tryz.zeroValue0
  t3 := Tryz.underlying3
  a3 := Tryz.isAgg3
  z3 := Tryz.sizeOf3
  v3 := Tryz.zeroValue3
  t4 := Tryz.underlying4
  a4 := Tryz.isAgg4
  z4 := Tryz.sizeOf4
  v4 := Tryz.zeroValue4
  t96 := Tryz.underlying96
  a96 := Tryz.isAgg96
  z96 := Tryz.sizeOf96
  v96 := Tryz.zeroValue96
  t120 := Tryz.underlying120
  a120 := Tryz.isAgg120
  z120 := Tryz.sizeOf120
  v120 := Tryz.zeroValue120
  aE := Tryz.isAgg134
  zE := Tryz.sizeOf134

instance : Inhabited PF := ⟨⟨fun _ => 0, ⟨#[]⟩⟩⟩

/-- an own row holds its plays -/
theorem holdsK_of_owns {w : World} {base n g cap : Nat} {l : List PF} (h : w.ownsRow base 134 18 (.slice (some ⟨g, 0, none⟩) n cap) n (l.flatMap encP)) : HoldsK encP 18 w g 0 l.toArray ∧ g < w.heap.size ∧ base ≤ g ∧ l.length = n := by
  obtain ⟨hlen, h | ⟨g', cap', cur, hv, hg, hb, hcap, _, _, ht⟩⟩ := h
  · simp at h
  · simp only [Value.slice.injEq, Option.some.injEq, Addr.mk.injEq] at hv
    obtain ⟨⟨rfl, _⟩, _⟩ := hv
    rw [flat_length encP_len18] at hlen
    refine ⟨fun t ht' => ?_, (Array.getElem?_eq_some_iff.1 hb).1, hg, by omega⟩
    rw [size_flatK] at ht'
    rw [get_flatK _ _ _ _ ht']
    simp only [List.size_toArray] at ht'
    have hi : t / 18 < l.length := by omega
    have h1 := flat_get encP_len18 l (t / 18) l[t / 18] (t % 18) ((encP l[t / 18])[t % 18]'(by show t % 18 < 18; omega)) (List.getElem?_eq_getElem hi) (List.getElem?_eq_getElem _)
    rw [← ht] at h1
    rw [show t / 18 * 18 + t % 18 = t by omega] at h1
    have h2 : t < n * 18 := by omega
    rw [List.getElem?_take_of_lt h2, Array.getElem?_toList] at h1
    have e1 : l.toArray[t / 18]! = l[t / 18] := by simp [hi]
    have e2 : (encP l[t / 18])[t % 18]! = (encP l[t / 18])[t % 18]'(by show t % 18 < 18; omega) := by rw [getElem!_pos]
    rw [e1, e2]
    constructor
    · unfold World.cell?
      rw [show (⟨g, 0 + t, none⟩ : Addr).block = g from rfl, hb]
      simp [h1]
    · unfold World.frozen?
      rw [show (⟨g, 0 + t, none⟩ : Addr).block = g from rfl, hb]
      simp
theorem swk_below {α : Type} [Inhabited α] {enc : α → List Value} {k : Nat} {w0 W : World} {g off B : Nat} {d : Array α} (h : SWK enc k w0 g off d W) (hB : B ≤ g) (hs : B ≤ w0.heap.size) : Below B w0 W := by
  obtain ⟨n, os, rfl⟩ := h
  refine ⟨rfl, rfl, rfl, ?_, fun j hj => ?_⟩
  · show w0.heap.size ≤ ((w0.heap.modify g _) ++ os).size
    rw [Array.size_append, Array.size_modify]; omega
  · show ((w0.heap.modify g _) ++ os)[j]? = w0.heap[j]?
    rw [Array.getElem?_append_left (by rw [Array.size_modify]; omega), Array.getElem?_modify, if_neg (by omega)]
theorem rowK_of_holds {W : World} {g : Nat} {d : Array PF} (h : HoldsK encP 18 W g 0 d) (hg : g < W.heap.size) : RowK 18 encP W (some ⟨g, 0, none⟩) d.toList := by
  intro i x hx
  have hi : i < d.size := by
    have := (List.getElem?_eq_some_iff.1 hx).1
    simpa using this
  refine ⟨g, 0, rfl, hg, fun j v hv => ?_⟩
  have hj : j < 18 := (List.getElem?_eq_some_iff.1 hv).1
  have h1 := (h.cell hi hj).1
  have e : d[i]! = x := by
    rw [getElem!_pos d i hi]
    have := (List.getElem?_eq_some_iff.1 hx).2
    simpa using this
  rw [e] at h1
  rw [h1, ← hv, List.getElem?_eq_getElem (by show j < 18; omega), getElem!_pos]

theorem seg_arr {α : Type} [Inhabited α] (d : Array α) {n : Nat} (h : d.size = n) : seg (fun p => d[p]!) 0 n = d.toList := by
  apply List.ext_getElem?
  intro i
  by_cases hi : i < n
  · rw [seg_get _ hi, Nat.zero_add, Array.getElem?_toList, getElem!_pos d i (by omega), Array.getElem?_eq_getElem (by omega)]
  · rw [List.getElem?_eq_none (by rw [seg_len]; omega), List.getElem?_eq_none (by rw [Array.length_toList]; omega)]
set_option maxRecDepth 100000 in
theorem ins_none (w : World) : Calls Tryz.prog 111 #[.slice none 0 0, .int .i64 0, .int .i64 0, .func (.func 57) #[] #[]] w fun e w' => e = .returned (.tuple #[]) ∧ w' = w := by
  go_enter Tryz.func111, Tryz.ntmps111
  go_wp2
  refine wp_loop_rounds 1 ?_
  rw [rounds_succ]
  go_wp2
  go_end0
  exact ⟨rfl, rfl⟩
set_option maxRecDepth 100000 in
theorem stable_none (w : World) : Calls Tryz.prog 98 #[.slice none 0 0, .int .i64 0, .func (.func 57) #[] #[]] w fun e w' => e = .returned (.tuple #[]) ∧ Below w.heap.size w w' := by
  have IN := Lib.hid (fun W => ins_none W)
  go_enter Tryz.func98, Tryz.ntmps98
  go_wp2
  refine wp_loop_rounds 1 ?_
  rw [rounds_succ]
  go_wp2_with (go_at_call 111; refine (IN.out _).mono ?_; rintro e w1 ⟨rfl, rfl⟩)
  refine wp_loop_rounds 1 ?_
  rw [rounds_succ]
  go_wp2
  go_end0
  exact ⟨rfl, Below.refl _ _⟩

/-- a sorted row of plays -/
theorem sort_any {w w0 : World} {base n : Nat} {v : Value} {l : List PF} (h : w.ownsRow base 134 18 v n (l.flatMap encP)) (hn : n ≤ 39) (hb : base ≤ w.heap.size) :
    ∃ ao cap, v = .slice ao l.length cap ∧ ((ao = none → cap = 0) ∧ l.length ≤ cap) ∧ Calls Tryz.prog 56 #[.slice ao l.length cap, .func (.func 57) #[] #[]] w fun e w' => e = .returned (.tuple #[]) ∧ RowK 18 encP w' ao (isort (ltOf cfP) l) ∧ Below base w w' := by
  obtain ⟨ao, cap, rfl, hcap, hr⟩ := rowK_of_owns encP_len18 (by decide) h
  refine ⟨ao, cap, rfl, hcap, ?_⟩
  have hn1 : l.length * 18 = n * 18 := by have := h.1; rwa [flat_length encP_len18] at this
  obtain rfl : l.length = n := by omega
  have e111 : ∀ args w, (callFunc 98 args).run Tryz.prog w = .ok (.enter 98 args) w := enters_of Tryz.func98 (by kernel_rfl) rfl
  suffices HH : Calls Tryz.prog 98 #[.slice ao l.length cap, .int .i64 (l.length : Nat), .func (.func 57) #[] #[]] w fun e w' => e = .returned (.tuple #[]) ∧ RowK 18 encP w' ao (isort (ltOf cfP) l) ∧ Below base w w' by
    have HC := Lib.hid HH
    clear HH hr h
    go_enter Tryz.func56, Tryz.ntmps56
    go_wp2_with (go_at_call 98; refine HC.out.mono ?_; rintro e w1 ⟨rfl, h1, h2⟩)
    go_end0
    exact ⟨rfl, h1, h2⟩
  by_cases hl : ∃ g, ao = some ⟨g, 0, none⟩
  · obtain ⟨g, rfl⟩ := hl
    obtain ⟨hh, hg, hbg, _⟩ := holdsK_of_owns h
    have R : RowS encP 18 w g 0 l.toArray := ⟨encP_len18, encP_one, hh, hg⟩
    have hC : CmpLays Tryz.prog 57 #[] encP 18 cfP g 0 l.toArray.size w := fun m os dk hs x y => by
      have := compare_any x y (sortWorldK encP 18 w g 0 m dk os)
      simpa using this
    have := stable_any plL R cfP wko_cfP 57 #[] (enters_of Tryz.func57 (by kernel_rfl) rfl) hC (SWK.start hh) rfl cap (by simpa using hn)
    simp only [List.size_toArray] at this
    refine this.mono ?_
    rintro e w' ⟨rfl, d2, s2, z2, i1, i2⟩
    have hd : d2.toList = isort (ltOf cfP) l := by
      have e1 : seg (fun p => d2[p]!) 0 (l.length - 0) = d2.toList := seg_arr d2 (by simpa using z2)
      have e2 : seg (fun p => l.toArray[p]!) 0 (l.length - 0) = l := seg_arr l.toArray (by simp)
      rw [e1, e2] at i2
      exact i2
    refine ⟨rfl, ?_, swk_below s2 hbg hb⟩
    rw [← hd]
    exact rowK_of_holds (s2.holds hg hh (by simpa using z2)) (Nat.lt_of_lt_of_le hg s2.le)
  · obtain ⟨_, h2 | ⟨g, cap', cur, hv, _⟩⟩ := h
    · obtain ⟨h2, h3⟩ := h2
      simp only [Value.slice.injEq] at h2
      obtain ⟨rfl, _, rfl⟩ := h2
      obtain rfl : l = [] := List.eq_nil_of_length_eq_zero h3
      exact (stable_none w).mono fun e w' ⟨q1, q2⟩ => ⟨q1, RowK.nil _ _ _ _, q2.mono hb⟩
    · simp only [Value.slice.injEq] at hv
      exact absurd ⟨g, hv.1⟩ hl

end Go.Proofs.YtffifhbldcjelaaGreatDoor

/-! Facts and plays put into variables of their own, and into rows. -/
namespace Go.Proofs.YtffifhbldcjelaaGreatDoor
set_option linter.unusedVariables false
set_option linter.unusedSimpArgs false
set_option linter.unusedSectionVars false
open Go.RowKit Go.Shelf Go.Lib Go.Sort

theorem ft_row {w : World} {ao : Option Addr} {L : List PF} (h : RowK 18 encP w ao L) {i : Nat} {f : PF} (hi : L[i]? = some f) : ∃ b off, ao = some ⟨b, off, none⟩ ∧ b < w.heap.size ∧ FtAt w ⟨b, off + i * 18, none⟩ f := by
  obtain ⟨b, off, e, hb, hc⟩ := h i f hi
  refine ⟨b, off, e, hb, fun j v hj => ?_⟩
  rw [show (Addr.add ⟨b, off + i * 18, none⟩ j) = ⟨b, off + i * 18 + j, none⟩ from by unfold Addr.add; split <;> simp_all]
  exact hc j v hj
theorem FtAt.later {w w' : World} {ad : Addr} {f : PF} (h : FtAt w ad f) (hl : ad.block < w.heap.size) (hb : Below w.heap.size w w') : FtAt w' ad f := fun j v hj => by
  rw [hb.cell (p := ad.add j) (by unfold Addr.add; split <;> exact hl)]
  exact h j v hj

/-- a further variable that holds a fact -/
def put38 (w : World) (f : PF) : World := (w.alloc (.cells #[.int .i64 0, .int .i64 0, .int .i64 0, .int .i64 0, .int .i64 0, .int .i64 0, .int .i64 0, .int .i64 0, .int .i64 0, .int .i64 0, .int .i64 0, .int .i64 0, .int .i64 0, .int .i64 0, .int .i64 0, .int .i64 0, .int .i64 0, .string ⟨#[]⟩] 38)).setCells w.heap.size 0 (encP f)
def put134 (w : World) (f : PF) : World := (w.alloc (.cells #[.int .i64 0, .int .i64 0, .int .i64 0, .int .i64 0, .int .i64 0, .int .i64 0, .int .i64 0, .int .i64 0, .int .i64 0, .int .i64 0, .int .i64 0, .int .i64 0, .int .i64 0, .int .i64 0, .int .i64 0, .int .i64 0, .int .i64 0, .string ⟨#[]⟩] 134)).setCells w.heap.size 0 (encP f)
theorem put38_at (w : World) (f : PF) : FacAt (put38 w f) w.heap.size f := st_heap (World.alloc_heap_new w _) rfl
theorem put134_at (w : World) (f : PF) : PlyAt (put134 w f) w.heap.size f := st_heap (World.alloc_heap_new w _) rfl
theorem put38_below (w : World) (f : PF) : Below w.heap.size w (put38 w f) := ((Below.refl _ w).alloc (Nat.le_refl _) _).trans (st_below (Nat.le_refl _))
theorem put134_below (w : World) (f : PF) : Below w.heap.size w (put134 w f) := ((Below.refl _ w).alloc (Nat.le_refl _) _).trans (st_below (Nat.le_refl _))
theorem put38_run (w : World) (f : PF) : (Instr.storeAt 38 (.pointer (some ⟨w.heap.size, 0, none⟩)) (.agg (encP f).toArray)).run Tryz.prog (w.alloc (.cells #[.int .i64 0, .int .i64 0, .int .i64 0, .int .i64 0, .int .i64 0, .int .i64 0, .int .i64 0, .int .i64 0, .int .i64 0, .int .i64 0, .int .i64 0, .int .i64 0, .int .i64 0, .int .i64 0, .int .i64 0, .int .i64 0, .int .i64 0, .string ⟨#[]⟩] 38)) = .ok () (put38 w f) :=
  st_run (Tryz.sizeOf38 _) (World.alloc_heap_new w _) rfl
theorem put134_run (w : World) (f : PF) : (Instr.storeAt 134 (.pointer (some ⟨w.heap.size, 0, none⟩)) (.agg (encP f).toArray)).run Tryz.prog (w.alloc (.cells #[.int .i64 0, .int .i64 0, .int .i64 0, .int .i64 0, .int .i64 0, .int .i64 0, .int .i64 0, .int .i64 0, .int .i64 0, .int .i64 0, .int .i64 0, .int .i64 0, .int .i64 0, .int .i64 0, .int .i64 0, .int .i64 0, .int .i64 0, .string ⟨#[]⟩] 134)) = .ok () (put134 w f) :=
  st_run (Tryz.sizeOf134 _) (World.alloc_heap_new w _) rfl
section
variable {P : Program} {ops : Array Oper} {Q : Exit → Act → World → Prop} {rest : List Oper} {a : Act} {w w' : World} {dst : Option Tmp} {ty T : TypeId} {pos : String} {af : Array Edge} {x y : Operand} {p q v : Value}
theorem wpList_buildSlice1L {i n : Nat} (hx : a.eval x = p) (hrun : (Instr.buildSlice T n #[(i, p)]).run P w = .ok v w') (hK : wpList P ops Q rest (a.put dst v) w') : wpList P ops Q ({ dst := dst, op := .buildSlice T n #[(i, x)], type := ty, pos := pos, after := af, guard := none } :: rest) a w := by
  refine wpList_plain rfl fun K' hK' => ?_
  unfold Oper.wp
  simp [execOp, hx, hrun, Result.andThen]
  exact hK' _ _ hK
end
set_option maxRecDepth 100000 in
theorem bsl134a (n : Nat → Int) (t : ByteArray) (w : World) : (Instr.buildSlice 96 1 #[(0, .agg #[.int .i64 (n 0), .int .i64 (n 1), .int .i64 (n 2), .int .i64 (n 3), .int .i64 (n 4), .int .i64 (n 5), .int .i64 (n 6), .int .i64 (n 7), .int .i64 (n 8), .int .i64 (n 9), .int .i64 (n 10), .int .i64 (n 11), .int .i64 (n 12), .int .i64 (n 13), .int .i64 (n 14), .int .i64 (n 15), .int .i64 (n 16), .string t])]).run Tryz.prog w = .ok (.slice (some ⟨w.heap.size, 0, none⟩) 1 1) (w.alloc (.cells #[.int .i64 (n 0), .int .i64 (n 1), .int .i64 (n 2), .int .i64 (n 3), .int .i64 (n 4), .int .i64 (n 5), .int .i64 (n 6), .int .i64 (n 7), .int .i64 (n 8), .int .i64 (n 9), .int .i64 (n 10), .int .i64 (n 11), .int .i64 (n 12), .int .i64 (n 13), .int .i64 (n 14), .int .i64 (n 15), .int .i64 (n 16), .string t] 134)) := by kernel_rfl
theorem bsl134 (f : PF) (w : World) : (Instr.buildSlice 96 1 #[(0, .agg (encP f).toArray)]).run Tryz.prog w = .ok (.slice (some ⟨w.heap.size, 0, none⟩) 1 1) (w.alloc (.cells (encP f).toArray 134)) := bsl134a f.n f.t w
theorem Tryz.infoPly : (Tryz.prog.info? 134).map (fun i => (i.zero, i.size, i.bytes)) = some (some (.agg #[.int .i64 0, .int .i64 0, .int .i64 0, .int .i64 0, .int .i64 0, .int .i64 0, .int .i64 0, .int .i64 0, .int .i64 0, .int .i64 0, .int .i64 0, .int .i64 0, .int .i64 0, .int .i64 0, .int .i64 0, .int .i64 0, .int .i64 0, .string ⟨#[]⟩]), 18, 152) := by kernel_rfl

end Go.Proofs.YtffifhbldcjelaaGreatDoor

/-! session.ordered. -/
namespace Go.Proofs.YtffifhbldcjelaaGreatDoor
set_option linter.unusedVariables false
set_option linter.unusedSimpArgs false
set_option linter.unusedSectionVars false
open Go.RowKit Go.Shelf Go.Lib Go.Sort

def ordL (L : List PF) : List PF := isort (ltOf cfP) (L.filter isPlayB)
def OutR (w wr : World) (v : Value) (M : List PF) : Prop := wr.ownsRow w.heap.size 134 18 v M.length (M.flatMap encP) ∧ Below w.heap.size w wr
theorem OutR.later {w wr w' : World} {v : Value} {M : List PF} (h : OutR w wr v M) (hb : Below wr.heap.size wr w') : OutR w w' v M := by
  refine ⟨?_, h.2.trans (hb.mono h.2.size)⟩
  obtain ⟨h1, h2 | ⟨g, cap, cur, e1, e2, e3, e4⟩⟩ := h.1
  · exact ⟨h1, .inl h2⟩
  · exact ⟨h1, .inr ⟨g, cap, cur, e1, e2, (hb.block g (Array.getElem?_eq_some_iff.1 e3).1).trans e3, e4⟩⟩
theorem take_succ_filter {L : List PF} {j : Nat} {f : PF} (h : L[j]? = some f) : (L.take (j + 1)).filter isPlayB = (L.take j).filter isPlayB ++ (if isPlayB f then [f] else []) := by
  rw [List.take_add_one, h, List.filter_append]
  congr 1
  show List.filter isPlayB [f] = _
  rw [List.filter_cons]; rfl

/-- what ordered gives: a row of its own -/
def OrdE (L : List PF) (w : World) (e : Ending) (w' : World) : Prop := ∃ ao cap, e = .returned (.slice ao (ordL L).length cap) ∧ RowK 18 encP w' ao (ordL L) ∧ Below w.heap.size w w' ∧ ∀ k off, ao = some ⟨k, off, none⟩ → w.heap.size ≤ k ∧ k < w'.heap.size
set_option maxRecDepth 100000 in
set_option maxHeartbeats 4000000 in
theorem ordered_any (L : List PF) (ao : Option Addr) (ln cap : Nat) (w : World) (hl : L.length = ln) (hn : ln ≤ 39) (hrow : RowK 18 encP w ao L) : Calls Tryz.prog 38 #[.slice ao ln cap] w (OrdE L w) := by
  obtain ⟨i0, hi, hz0, hz1, hz2⟩ := info_parts Tryz.infoPly
  have IP := Lib.hid (fun f W => isplay_any f W)
  have RW := Lib.hid hrow
  have HL := Lib.hid hl
  have e56 : ∀ args w, (callFunc 56 args).run Tryz.prog w = .ok (.enter 56 args) w := enters_of Tryz.func56 (by kernel_rfl) rfl
  clear hrow hl
  go_enter Tryz.func38, Tryz.ntmps38
  go_upto_region 3 with (fail)
  go_loopg [3, 8] ln (fun gh v3 v8 wr => ∃ (j : Nat), v8 = .int .i64 j ∧ j ≤ ln ∧ ln - j ≤ gh ∧ Hid (OutR w wr v3 ((L.take j).filter isPlayB)))
  case atStart => exact ⟨0, rfl, by omega, by omega, (show Hid _ from ⟨World.ownsRow_nil _ _ _ _, Below.refl _ _⟩)⟩
  case round =>
    obtain ⟨j, rfl, hj, hg, HO⟩ := hrel
    obtain ⟨M, hM⟩ : ∃ M, M = (L.take j).filter isPlayB := ⟨_, rfl⟩
    have HM := Lib.hid hM
    have HML := Lib.hid (show M.length ≤ 39 from by
      rw [hM]
      have h1 := List.length_filter_le isPlayB (L.take j)
      have h2 : (L.take j).length ≤ j := by rw [List.length_take]; omega
      omega)
    rw [← hM] at HO
    clear hM
    by_cases hlt : j < ln
    · have hltz : (j : Int) < (ln : Int) := by omega
      obtain ⟨f, hf⟩ : ∃ f, L[j]? = some f := ⟨_, List.getElem?_eq_getElem (by rw [HL.out]; exact hlt)⟩
      obtain ⟨b, off, rfl, hbl, hft⟩ := ft_row RW.out hf
      have FT := Lib.hid (hft.later hbl HO.out.2)
      have HF := Lib.hid hf
      have LD := Lib.hid (ld38 FT.out)
      have ST := Lib.hid (put38_run wr f)
      clear hft hf hbl
      go_upto_region 5 with (first
        | ((with_reducible refine wpList_loadL ?_ LD.out ?_); focus rfl)
        | ((with_reducible refine wpList_storeL ?_ ?_ ST.out ?_); (focus rfl); (focus rfl)))
      have B4 := Lib.hid (put38_below wr f)
      have F4 := Lib.hid (put38_at wr f)
      obtain ⟨w4, hw4⟩ : ∃ w4, w4 = put38 wr f := ⟨_, rfl⟩
      obtain ⟨fb, hfb⟩ : ∃ fb, fb = wr.heap.size := ⟨_, rfl⟩
      have HFB := Lib.hid hfb
      rw [← hw4] at B4 F4 ⊢
      rw [← HFB.out] at F4 ⊢
      have O4 := Lib.hid (HO.out.later B4.out)
      clear hw4 hfb LD ST B4 HO FT
      have LD := Lib.hid (ld38 (ft_blk F4.out))
      go_cut [13] (fun t wc => t = .bool (isPlayB f) ∧ Below w4.heap.size w4 wc)
      case first =>
        as_aux_lemma =>
          go_wp2_with (first
            | ((with_reducible refine wpList_loadL ?_ LD.out ?_); focus rfl)
            | (go_at_call 55; refine (IP.out _ _).mono ?_; rintro e w5 ⟨rfl, h5⟩))
          go_meet
          exact ⟨rfl, h5⟩
      obtain ⟨rfl, hb5⟩ := hcut
      obtain ⟨w5, rfl⟩ : ∃ w5 : World, w5 = wc := ⟨_, rfl⟩
      have F5 := Lib.hid (F4.out.later hb5)
      have O5 := Lib.hid (O4.out.later hb5)
      clear hb5 F4 O4 LD HFB IP
      have HN := Lib.hid (show (L.take (j + 1)).filter isPlayB = M ++ (if isPlayB f then [f] else []) from by rw [take_succ_filter HF.out, HM.out])
      rcases hp : isPlayB f with _ | _
      · rw [hp] at HN
        clear hp
        go_wp2_with fail
        go_roundg (ln - (j + 1))
        case measure => omega
        case rel => exact ⟨j + 1, by go_num, by omega, by omega, Lib.hid (by rw [HN.out]; simpa using O5.out)⟩
      · rw [hp] at HN
        clear hp
        have LD := Lib.hid (ld38 (ft_blk F5.out))
        have BL := Lib.hid (bld134 f)
        have BS := Lib.hid (bsl134 f w5)
        have O6 := Lib.hid (O5.out.later ((Below.refl _ w5).alloc (Nat.le_refl _) (.cells (encP f).toArray 134)))
        have C6 := Lib.hid (cells_at w5 (encP f) 134 w5.heap.size rfl)
        obtain ⟨ag, hag⟩ : ∃ ag, ag = (encP f).toArray := ⟨_, rfl⟩
        rw [← hag] at LD BL BS O6 C6
        clear hag
        go_wp2_with (first
          | ((with_reducible refine wpList_loadL ?_ LD.out ?_); focus rfl)
          | ((with_reducible refine wpList_build1L ?_ (BL.out _) ?_); focus rfl)
          | ((with_reducible refine wpList_buildSlice1L ?_ BS.out ?_); focus rfl)
          | (at_builtin; refine wpList_append_own_at _ rfl (.tmp 14) (.tmp 17) 96 rfl w.heap.size 134 i0 _ 18 152 Tryz.underlying96 hi hz0 hz1 hz2 rfl (by decide) _ _ _ rfl O6.out.1 ⟨w5.heap.size, 0, none⟩ 1 1 (encP f) rfl rfl C6.out (encP_one f) (by have := HML.out; unfold maxLen; omega) (by have := HML.out; omega) O6.out.2.size ?_; intro v' w7 own gr hnil hloc; have O7 := Lib.hid (show OutR w w7 v' (M ++ [f]) from ⟨by rw [List.length_append, flat_snoc]; exact own, grown_own O6.out.2 (Nat.le_refl _) O6.out.1 gr⟩); clear own gr hnil hloc))
        go_roundg (ln - (j + 1))
        case measure => omega
        case rel => exact ⟨j + 1, by go_num, by omega, by omega, (show Hid _ from by rw [HN.out]; exact O7.out)⟩
    · have hltz : ¬ (j : Int) < (ln : Int) := by omega
      obtain ⟨a2, cap2, hv, hcap, hsort⟩ := sort_any (w0 := w) HO.out.1 HML.out HO.out.2.size
      subst hv
      have SO := Lib.hid hsort
      have HON := Lib.hid (show ∀ k off, a2 = some ⟨k, off, none⟩ → w.heap.size ≤ k ∧ k < wr.heap.size from fun k off e => owns_ltK HO.out.1 k (by rw [e]; rfl))
      have HCAP := Lib.hid hcap
      clear hsort hcap
      go_wp2_with (go_at_fn 56; refine SO.out.mono ?_; rintro e w5 ⟨rfl, h5, h6⟩; have R5 := Lib.hid h5; have B5 := Lib.hid h6; clear h5 h6)
      go_ret
      have e1 : ordL L = isort (ltOf cfP) M := by
        unfold ordL
        rw [HM.out, List.take_of_length_le (by have := HL.out; omega)]
      have e2 : (isort (ltOf cfP) M).length = M.length := (isort_perm _ M rfl).length_eq
      refine ⟨a2, cap2, ?_, ?_, HO.out.2.trans B5.out, fun k off e => ⟨(HON.out k off e).1, Nat.lt_of_lt_of_le (HON.out k off e).2 B5.out.size⟩⟩
      · rw [e1, e2]; rfl
      · rw [e1]; exact R5.out

end Go.Proofs.YtffifhbldcjelaaGreatDoor
