import Derived.Test.YtbkmcncakpmgkaaAppA
import Derived.Test.YtbkmcncakpmgkaaRefC
import Derived.Maps.AppendAt

/-! The contract of the reference's Apportion: the same parts as the program's. -/
namespace Go.Proofs.Ytbkmcncakpmgkaa
set_option linter.unusedVariables false
open Go.ChangeShapes Go.WideShapes Go.ChangeAt Go.RowKit

/-- two rows of the call's own, apart from each other -/
structure Duo (w wr : World) (v8 v9 : Value) (p r : List Int) : Prop where
  o8 : wr.ownsRow w.heap.size 3 1 v8 p.length (ints p)
  o9 : wr.ownsRow w.heap.size 3 1 v9 r.length (ints r)
  ap : ∀ g, v8.ownBlock = some g → v9.ownBlock ≠ some g
  below : Below w.heap.size w wr

theorem owns_lt {w : World} {base e n g : Nat} {v : Value} {xs : List Value} (h : w.ownsRow base e 1 v n xs) (hg : v.ownBlock = some g) : base ≤ g ∧ g < w.heap.size := by
  obtain ⟨_, h | ⟨g', cap, cur, rfl, hb, hh, _⟩⟩ := h
  · rw [h.1] at hg; simp [Value.ownBlock] at hg
  · simp [Value.ownBlock] at hg
    subst hg
    refine ⟨hb, ?_⟩
    rcases Nat.lt_or_ge g' w.heap.size with h | h
    · exact h
    · rw [Array.getElem?_eq_none h] at hh; cases hh

theorem Duo.start (w : World) : Duo w w (.slice none 0 0) (.slice none 0 0) [] [] :=
  ⟨World.ownsRow_nil _ _ _ _, World.ownsRow_nil _ _ _ _, fun g h => by simp [Value.ownBlock] at h, Below.refl _ _⟩

theorem Duo.push8 {w wr w1 : World} {v8 v9 v' : Value} {p r : List Int} {x : Int} {o : Obj} (h : Duo w wr v8 v9 p r) (ho : w1.ownsRow w.heap.size 3 1 v' (p.length + 1) (ints p ++ [.int .i64 x]))
    (gr : (wr.alloc o).grownBy w1 v8.ownBlock) (ha : v'.ownBlock = v8.ownBlock ∨ v'.ownBlock = some (wr.alloc o).heap.size) : Duo w w1 v' v9 (p ++ [x]) r := by
  have hs := h.below.size
  refine ⟨by simpa [ints] using ho, (h.o9.alloc o).kept gr ?_, ?_, (h.below.alloc hs o).grown gr (by simp; omega) (fun k hk => (owns_lt h.o8 hk).1)⟩
  · rcases h9 : v9.ownBlock with _ | g
    · exact .inl rfl
    · right
      intro e
      exact h.ap g e.symm h9
  · intro g hg h9
    rcases ha with e | e
    · rw [e] at hg; exact h.ap g hg h9
    · rw [e] at hg
      simp at hg
      have := (owns_lt h.o9 h9).2
      omega

theorem Duo.push9 {w wr w1 : World} {v8 v9 v' : Value} {p r : List Int} {x : Int} {o : Obj} (h : Duo w wr v8 v9 p r) (ho : w1.ownsRow w.heap.size 3 1 v' (r.length + 1) (ints r ++ [.int .i64 x]))
    (gr : (wr.alloc o).grownBy w1 v9.ownBlock) (ha : v'.ownBlock = v9.ownBlock ∨ v'.ownBlock = some (wr.alloc o).heap.size) : Duo w w1 v8 v' p (r ++ [x]) := by
  have hs := h.below.size
  refine ⟨(h.o8.alloc o).kept gr ?_, by simpa [ints] using ho, ?_, (h.below.alloc hs o).grown gr (by simp; omega) (fun k hk => (owns_lt h.o9 hk).1)⟩
  · rcases h8 : v8.ownBlock with _ | g
    · exact .inl rfl
    · right
      intro e
      exact h.ap g h8 e.symm
  · intro g hg h9
    rcases ha with e | e
    · rw [e] at h9; exact h.ap g hg h9
    · rw [e] at h9
      simp at h9
      have := (owns_lt h.o8 hg).2
      omega

/-- the two rows by their cells -/
structure Duos (w wr : World) (P Q n : Nat) (f g : Nat → Int) : Prop where
  below : Below w.heap.size w wr
  ne : P ≠ Q
  lo : w.heap.size ≤ P
  lo' : w.heap.size ≤ Q
  lt : P < wr.heap.size
  lt' : Q < wr.heap.size
  ps : ∀ i, i < n → CellZ wr P i (f i)
  qs : ∀ i, i < n → CellZ wr Q i (g i)

theorem cells_of_owns {w : World} {base n g cap : Nat} {l : List Int} (h : w.ownsRow base 3 1 (.slice (some ⟨g, 0, none⟩) n cap) n (ints l)) : ∀ i, i < n → CellZ w g i (l.getD i 0) := by
  obtain ⟨hlen, h | ⟨g', cap', cur, hv, _, hb, _, _, _, ht⟩⟩ := h
  · simp at h
  · simp only [Value.slice.injEq, Option.some.injEq, Addr.mk.injEq, and_true, true_and] at hv
    obtain ⟨rfl, rfl⟩ := hv
    intro i hi
    have hn : l.length = n := by simp [ints] at hlen; exact hlen
    have : cur[i]? = some (.int .i64 (l.getD i 0)) := by
      rw [← Array.getElem?_toList]
      have h1 : (cur.toList.take (n * 1))[i]? = (ints l)[i]? := by rw [ht]
      rw [List.getElem?_take_of_lt (by omega)] at h1
      rw [h1]; simp [ints, hn, hi]
    exact ⟨by simp [World.cell?, hb, this], by simp [World.frozen?, hb]⟩

theorem shape_of_owns {w : World} {base n : Nat} {v : Value} {xs : List Value} (h : w.ownsRow base 3 1 v n xs) (hn : 1 ≤ n) : ∃ g cap, v = .slice (some ⟨g, 0, none⟩) n cap ∧ n ≤ cap := by
  obtain ⟨_, h | ⟨g, cap, cur, rfl, _, _, hc, _⟩⟩ := h
  · omega
  · exact ⟨g, cap, rfl, hc⟩

theorem Duo.duos {w wr : World} {P Q n cap cap' : Nat} {p r : List Int} (h : Duo w wr (.slice (some ⟨P, 0, none⟩) n cap) (.slice (some ⟨Q, 0, none⟩) n cap') p r) (hp : p.length = n) (hr : r.length = n) :
    Duos w wr P Q n (fun i => p.getD i 0) (fun i => r.getD i 0) := by
  have h8 := h.o8
  have h9 := h.o9
  rw [hp] at h8
  rw [hr] at h9
  have l8 := owns_lt h8 (g := P) rfl
  have l9 := owns_lt h9 (g := Q) rfl
  exact ⟨h.below, fun e => h.ap P rfl (by rw [e]; rfl), l8.1, l9.1, l8.2, l9.2, cells_of_owns h8, cells_of_owns h9⟩

theorem Duos.drewN {w wr : World} {P Q n : Nat} {f g : Nat → Int} (h : Duos w wr P Q n f g) (d : Nat) : Duos w (wr.drewN d) P Q n f g :=
  ⟨below_drewN h.below d, h.ne, h.lo, h.lo', h.lt, h.lt', h.ps, h.qs⟩

theorem Duos.setP {w wr : World} {P Q n : Nat} {f f' g : Nat → Int} (h : Duos w wr P Q n f g) (k : Nat) (u : Int) (hf : ∀ i, i < n → f' i = if k = i then u else f i) : Duos w (wr.setCell ⟨P, k, none⟩ (.int .i64 u)) P Q n f' g := by
  have ne := h.ne
  refine ⟨h.below.setCell (p := ⟨P, k, none⟩) h.lo _, h.ne, h.lo, h.lo', by rw [size_setCell]; exact h.lt, by rw [size_setCell]; exact h.lt', fun i hi => ?_, fun i hi => ?_⟩
  · have := (h.ps i hi).set (b' := P) (o' := k) (u := u)
    rw [hf i hi]; simpa using this
  · have := (h.qs i hi).set (b' := P) (o' := k) (u := u)
    rw [if_neg (by omega)] at this; exact this
theorem Duos.setQ {w wr : World} {P Q n : Nat} {f g g' : Nat → Int} (h : Duos w wr P Q n f g) (k : Nat) (u : Int) (hg : ∀ i, i < n → g' i = if k = i then u else g i) : Duos w (wr.setCell ⟨Q, k, none⟩ (.int .i64 u)) P Q n f g' := by
  have ne := h.ne
  refine ⟨h.below.setCell (p := ⟨Q, k, none⟩) h.lo' _, h.ne, h.lo, h.lo', by rw [size_setCell]; exact h.lt, by rw [size_setCell]; exact h.lt', fun i hi => ?_, fun i hi => ?_⟩
  · have := (h.ps i hi).set (b' := Q) (o' := k) (u := u)
    rw [if_neg (by omega)] at this; exact this
  · have := (h.qs i hi).set (b' := Q) (o' := k) (u := u)
    rw [hg i hi]; simpa using this

theorem hide_next {r : List Int} {k b i : Nat} (hb : b < r.length) (hr : App.rank r b = k) : (App.hide r (k + 1)).getD i 0 = if b = i then -1 else (App.hide r k).getD i 0 := by
  rw [← App.hide_succ hb hr]
  exact set_getD _ _ _ _ (by rw [App.hide_length]; exact hb)

theorem bump_next {q r : List Int} {k b i : Nat} (hl : q.length = r.length) (hb : b < r.length) (hr : App.rank r b = k) : (App.bump q r (k + 1)).getD i 0 = if b = i then (App.bump q r k).getD b 0 + 1 else (App.bump q r k).getD i 0 := by
  rw [← App.bump_succ hl hb hr]
  exact set_getD _ _ _ _ (by rw [App.bump_length, hl]; exact hb)

end Go.Proofs.Ytbkmcncakpmgkaa

/-! The contract of the reference's Apportion: the same parts as the program's. -/
namespace Go.Proofs.Ytbkmcncakpmgkaa
set_option linter.unusedVariables false
open Go.ChangeShapes Go.WideShapes Go.ChangeAt Go.RowKit

theorem take_snoc' (l : List Int) (k : Nat) (h : k < l.length) : l.take (k + 1) = l.take k ++ [l.getD k 0] := by
  rw [List.take_succ_eq_append_getElem h]; simp [h]

theorem rfin_parts {w wr : World} {P Q n j m cap : Nat} {t : Int} {l a : List Int} {g : Nat → Int} (hT : Duos w wr P Q n (fB t l j) g) (hk : j = m) (ha : a.length = n) (hf : ∀ i, i < n → fB t l m i = a.getD i 0) (hc : n ≤ cap) :
    Parts w a true (.returned (.tuple #[.slice (some ⟨P, 0, none⟩) n cap, .bool true])) wr := by
  subst hk
  refine ⟨some ⟨P, 0, none⟩, cap, by rw [ha], ⟨(fun h => by cases h), by omega⟩, ?_, hT.below⟩
  intro i hi
  rw [ha] at hi
  have c := (hT.ps i hi).1
  rw [hf i hi] at c
  exact ⟨P, 0, rfl, hT.lt, by rw [Nat.zero_add]; exact c⟩

set_option maxHeartbeats 4000000 in
set_option maxRecDepth 100000 in
theorem rapp_yes (T U : Nat) (ao : Option Addr) (cap n : Nat) (l : List Int) (w : World) (hn : n ≤ 1000000) (hl : l.length = n) (hr : Row w ao l) (ok : App.Ok T l) (t1 : T ≤ 1000000000000000) (hU : l.sum = (U : Int)) (s0 : 1 ≤ U) (s1 : U ≤ 1000000000000000)
    (hs : ∀ w, Row w ao l → Calls Try.prog 48 #[.slice ao n cap] w fun e w' => e = .returned (.tuple #[.int .i64 U, .bool true]) ∧ w = w') :
    Calls Try.prog 36 #[.int .i64 T, .slice ao n cap] w (Parts w (App.app T l) true) := by
  have hd3 : decide ((T : Int) < 0) = false := decide_eq_false (by omega)
  have hd4 : decide ((1000000000000000 : Int) < T) = false := decide_eq_false (by omega)
  have hn1 : 1 ≤ n := by
    rcases Nat.eq_zero_or_pos n with h | h
    · subst h
      have : l = [] := List.eq_nil_of_length_eq_zero hl
      subst this; simp at hU; omega
    · exact h
  have HS := Lib.hid hs
  have HR := Lib.hid hr
  have HL := Lib.hid hl
  have HU := Lib.hid hU
  have OK := Lib.hid ok
  clear hs hr hl hU ok
  obtain ⟨i0, hi, hz0, hz1, hz2⟩ := info_parts Try.info3
  go_enter Try.func36, Try.ntmps36
  go_wp2_with fail
  refine (HS.out _ HR.out).mono ?_
  rintro e w' ⟨rfl, rfl⟩
  go_wp2_with fail
  go_loopw [8, 9, 10, 11] (fun v8 v9 v i wr => ∃ (k : Nat) (z : Int), k ≤ n ∧ Duo w wr v8 v9 ((App.quo T l).take k) ((App.rem T l).take k) ∧ LoopA T l k z ∧ 0 ≤ z ∧ z ≤ T ∧ i = .int .i64 k ∧ v = .int .i64 z) (fun _ _ _ i _ => n - (intOf i).toNat)
  case atStart => exact ⟨0, T, Nat.zero_le _, Duo.start w, LoopA.start T l, by omega, Int.le_refl _, rfl, rfl⟩
  case round =>
    obtain ⟨k, z, hk, hT, hz, z0, z1, rfl, rfl⟩ := hrel
    by_cases hlt : k < n
    · obtain ⟨b, off, rfl, hb, hc⟩ := HR.out k (by rw [HL.out]; exact hlt)
      have hx := getD_le_sum OK.out.pos k
      obtain ⟨y, hy⟩ := Int.eq_ofNat_of_zero_le hx.1
      rw [HU.out, hy] at hx
      rw [hy] at hc
      have hc' : wr.cell? ⟨b, off + k, none⟩ = some (.int .i64 y) := by rw [hT.below.cell (p := ⟨b, off + k, none⟩) hb]; exact hc
      have hy1 : y ≤ U := by omega
      obtain ⟨e1, e2⟩ := ov_quo T y U hy1 s0 t1
      have eq1 : (App.quo T l).getD k 0 = ((ovQ (T * y) U : Nat) : Int) := by
        rw [App.quo_getD (by rw [HL.out]; exact hlt), hy, HU.out, e1, Int.natCast_ediv, Int.natCast_mul]
      have eq2 : (App.rem T l).getD k 0 = ((ovR (T * y) U : Nat) : Int) := by
        rw [App.rem_getD (by rw [HL.out]; exact hlt), hy, HU.out, e2, Int.natCast_emod, Int.natCast_mul]
      have hz' := hz.next (by rw [HL.out]; exact hlt)
      have hzb := hz'.bd OK.out
      rw [eq1] at hzb hz'
      have hp1 := take_snoc' (App.quo T l) k (by rw [App.quo_length, HL.out]; exact hlt)
      have hr1 := take_snoc' (App.rem T l) k (by rw [App.rem_length, HL.out]; exact hlt)
      rw [eq1] at hp1
      rw [eq2] at hr1
      have HL8 := Lib.hid (show ((App.quo T l).take k).length = k by rw [List.length_take, App.quo_length, HL.out]; omega)
      have HL9 := Lib.hid (show ((App.rem T l).take k).length = k by rw [List.length_take, App.rem_length, HL.out]; omega)
      have HD1 := Lib.hid (divide_any T y U)
      have HTT := Lib.hid hT
      have HP1 := Lib.hid hp1
      have HR1 := Lib.hid hr1
      clear eq1 eq2 e1 e2 hy hx hc hT hz hp1 hr1
      obtain ⟨qz, hqz⟩ : ∃ q, ovQ (T * y) U = q := ⟨_, rfl⟩
      obtain ⟨rz, hrz⟩ : ∃ q, ovR (T * y) U = q := ⟨_, rfl⟩
      rw [hqz] at hzb hz' HD1 HP1
      rw [hrz] at HD1 HR1
      clear hqz hrz
      generalize ovB (T * y) U = ob at *
      generalize (App.quo T l).take k = pk at *
      generalize (App.rem T l).take k = rk at *
      go_wp2_with fail
      refine (HD1.out _ (by omega) (by omega) (by omega) (by omega)).mono ?_
      rintro e w4 ⟨rfl, rfl⟩
      go_wp2_with (first | (at_builtin; refine wpList_append_own_at _ rfl (.tmp 50) (.tmp 52) 34 rfl w.heap.size 3 i0 (.int .i64 0) 1 8 Try.underlying34 hi hz0 hz1 hz2 rfl (by decide) _ _ _ rfl (HTT.out.o8.alloc _) ⟨wr.heap.size, 0, none⟩ 1 1 [.int .i64 qz] rfl rfl (cell_one_new _ _ _) (by intro u hu; simp at hu; subst hu; rfl) (by rw [HL8.out]; unfold maxLen; omega) (by rw [HL8.out]; omega) (by have := HTT.out.below.size; simp; omega) ?_; intro v8' w5 own gr _h hat; have D5 := HTT.out.push8 own gr hat; clear own gr _h hat; have HD5 := Lib.hid D5; clear D5) | (at_builtin; refine wpList_append_own_at _ rfl (.tmp 54) (.tmp 56) 34 rfl w.heap.size 3 i0 (.int .i64 0) 1 8 Try.underlying34 hi hz0 hz1 hz2 rfl (by decide) _ _ _ rfl (HD5.out.o9.alloc _) ⟨w5.heap.size, 0, none⟩ 1 1 [.int .i64 rz] rfl rfl (cell_one_new _ _ _) (by intro u hu; simp at hu; subst hu; rfl) (by rw [HL9.out]; unfold maxLen; omega) (by rw [HL9.out]; omega) (by have := HD5.out.below.size; simp; omega) ?_; intro v9' w6 own gr _h hat))
      have D6 := HD5.out.push9 own gr hat
      rw [← HP1.out, ← HR1.out] at D6
      clear own gr _h hat
      have HD6 := Lib.hid D6
      clear D6
      go_wp2_with fail
      go_roundw
      case rel => exact ⟨k + 1, _, by omega, HD6.out, hz', by omega, by omega, by go_num, rfl⟩
      case measure => simp [intOf]; omega
    · have ez : z = ((App.left T l : Nat) : Int) := hz.last (by rw [HL.out]; omega) OK.out
      have hle : App.left T l ≤ n := by have := App.left_le OK.out; rw [HL.out] at this; exact this
      have hql : (App.quo T l).length = n := by rw [App.quo_length, HL.out]
      have hrl : (App.rem T l).length = n := by rw [App.rem_length, HL.out]
      rw [List.take_of_length_le (by rw [hql]; omega), List.take_of_length_le (by rw [hrl]; omega)] at hT
      have h8 := hT.o8
      have h9 := hT.o9
      rw [hql] at h8
      rw [hrl] at h9
      obtain ⟨P, cap8, rfl, hc8⟩ := shape_of_owns h8 hn1
      obtain ⟨Q, cap9, rfl, hc9⟩ := shape_of_owns h9 hn1
      have hD : Duos w wr P Q n (fB T l 0) (fun i => (App.hide (App.rem T l) 0).getD i 0) := by
        have := hT.duos hql hrl
        refine ⟨this.below, this.ne, this.lo, this.lo', this.lt, this.lt', fun i hi => ?_, fun i hi => ?_⟩
        · have h := this.ps i hi
          have e : fB T l 0 i = (App.quo T l).getD i 0 := by unfold fB; rw [App.bump_zero]
          rw [e]; exact h
        · have h := this.qs i hi
          show CellZ wr Q i ((App.hide (App.rem T l) 0).getD i 0)
          rw [App.hide_zero]; exact h
      have hpos : ∀ i, i < (App.rem T l).length → 0 ≤ (App.rem T l).getD i 0 := fun i hi => App.rem_pos OK.out _ (getD_mem hi)
      have hbr := fun j b (hj : j < n) (h : App.Best (App.hide (App.rem T l) j) n b) => App.best_rank (r := App.rem T l) (k := j) (b := b) hpos (by rw [hrl]; exact hj) (by rw [hrl]; exact h)
      have hbb := fun k i => fB_bd OK.out k i
      have hnf := fun (j b i : Nat) (hb : b < n) (h : App.rank (App.rem T l) b = j) => bump_next (q := App.quo T l) (r := App.rem T l) (k := j) (b := b) (i := i) (by rw [hql, hrl]) (by rw [hrl]; exact hb) h
      have hng := fun (j b i : Nat) (hb : b < n) (h : App.rank (App.rem T l) b = j) => hide_next (r := App.rem T l) (k := j) (b := b) (i := i) (by rw [hrl]; exact hb) h
      have HDD := Lib.hid hD
      have HBR := Lib.hid hbr
      have HBB := Lib.hid hbb
      have HNF := Lib.hid hnf
      have HNG := Lib.hid hng
      have HFIN := Lib.hid (show ∀ i, i < n → fB T l (App.left T l) i = (App.app T l).getD i 0 from fun i _ => rfl)
      have HAL := Lib.hid (show (App.app T l).length = n by rw [App.app_length, HL.out])
      clear hT hz h8 h9 hql hrl hpos hbr hbb hnf hng hD hi hz0 hz1 hz2
      generalize App.left T l = m at *
      subst ez
      go_wp2_with fail
      go_loopw [10] (fun v wr => ∃ j : Nat, j ≤ m ∧ Duos w wr P Q n (fB T l j) (fun i => (App.hide (App.rem T l) j).getD i 0) ∧ v = .int .i64 ((m : Int) - j)) (fun v _ => (intOf v).toNat)
      case atStart => exact ⟨0, Nat.zero_le _, HDD.out, by go_num⟩
      case round =>
        obtain ⟨j, hj, hD, rfl⟩ := hrel
        by_cases hlt2 : j < m
        · have HD := Lib.hid hD
          clear hD HDD
          go_wp2_with fail
          go_loopw [15, 16] (fun vb vi w2 => ∃ b i d : Nat, 1 ≤ i ∧ i ≤ n ∧ App.Best (App.hide (App.rem T l) j) i b ∧ vb = .int .i64 b ∧ vi = .int .i64 i ∧ w2 = wr.drewN d) (fun _ vi _ => n - (intOf vi).toNat)
          case atStart => exact ⟨0, 1, 0, Nat.le_refl _, hn1, App.best_one _, by go_num, by go_num, rfl⟩
          case round =>
            obtain ⟨b, i, d, hi1, hin, hB, rfl, rfl, rfl⟩ := hrel
            have hbi := hB.1
            by_cases hlt3 : i < n
            · have ci := (HD.out.qs i hlt3).1
              have cb := (HD.out.qs b (by omega)).1
              have gk := fun h => App.best_keep hB h
              have gt := fun h => App.best_take hB h
              obtain ⟨x, hx⟩ : ∃ x, (App.hide (App.rem T l) j).getD i 0 = x := ⟨_, rfl⟩
              obtain ⟨y, hy⟩ : ∃ y, (App.hide (App.rem T l) j).getD b 0 = y := ⟨_, rfl⟩
              rw [hx] at ci
              rw [hy] at cb
              rw [hx, hy] at gk gt
              have i0 : (0 : Int) ≤ (i : Int) := by omega
              have i1 : (i : Int) < (n : Int) := by omega
              have b0 : (0 : Int) ≤ (b : Int) := by omega
              have b1 : (b : Int) < (n : Int) := by omega
              clear hx hy hB
              by_cases hc : y < x
              · have HB := Lib.hid (gt hc)
                clear gk gt
                go_wp2_with fail
                go_quiet (fail)
                go_wp2_with fail
                go_roundw
                case rel => exact ⟨i, i + 1, d + nq, by omega, by omega, HB.out, by go_num, by go_num, by first | rfl | simp [World.drewN_drewN]⟩
                case measure => simp [intOf]; omega
              · have HB := Lib.hid (gk (by omega))
                have hc' : decide (y < x) = false := decide_eq_false hc
                clear gk gt
                go_wp2_with fail
                go_quiet (fail)
                go_wp2_with fail
                go_roundw
                case rel => exact ⟨b, i + 1, d + nq, by omega, by omega, HB.out, by go_num, by go_num, by first | rfl | simp [World.drewN_drewN]⟩
                case measure => simp [intOf]; omega
            · obtain rfl : i = n := by omega
              have hrk := HBR.out j b (by omega) hB
              have hnf := fun q => HNF.out j b q hbi hrk
              have hng := fun q => HNG.out j b q hbi hrk
              have cp := HD.out.ps b hbi
              have cq := (HD.out.drewN d).qs b hbi
              have hbb := HBB.out j b
              have hne := HD.out.ne
              obtain ⟨v, hv⟩ : ∃ v, fB T l j b = v := ⟨_, rfl⟩
              rw [hv] at cp hbb
              have cp1 := cp.1
              have cp2 := cp.2
              have cq' := cq.set (b' := P) (o' := b) (u := v + 1)
              rw [if_neg (by omega)] at cq'
              have cq1 := cq'.1
              have cq2 := cq'.2
              have hNx : Duos w (((wr.drewN d).setCell ⟨P, b, none⟩ (.int .i64 (v + 1))).setCell ⟨Q, b, none⟩ (.int .i64 (-1))) P Q i (fB T l (j + 1)) (fun q => (App.hide (App.rem T l) (j + 1)).getD q 0) :=
                ((HD.out.drewN d).setP b (v + 1) (f' := fB T l (j + 1)) (fun q _ => by rw [← hv]; exact hnf q)).setQ b (-1) (fun q _ => hng q)
              have HNX := Lib.hid hNx
              obtain ⟨xq, hxq⟩ : ∃ x, (App.hide (App.rem T l) j).getD b 0 = x := ⟨_, rfl⟩
              rw [hxq] at cq1
              clear hNx hB hrk hnf hng cp cq cq' hv hne hxq
              go_wp2_with fail
              go_roundw
              case rel => exact ⟨j + 1, by omega, HNX.out, by go_num⟩
              case measure => simp [intOf]; omega
        · have HTL := Lib.hid hD
          have HEK := Lib.hid (show j = m by omega)
          clear hD
          go_wp2_with fail
          go_ret2
          exact rfin_parts HTL.out HEK.out HAL.out HFIN.out hc8

set_option maxHeartbeats 400000 in
theorem rapp_no (t S : Int) (sb : Bool) (ao : Option Addr) (cap n : Nat) (w : World) (h : sb = false ∨ t < 0 ∨ 1000000000000000 < t)
    (hs : Calls Try.prog 48 #[.slice ao n cap] w fun e w' => e = .returned (.tuple #[.int .i64 S, .bool sb]) ∧ w = w') :
    Calls Try.prog 36 #[.int .i64 t, .slice ao n cap] w (Parts w [] false) := by
  have HS := Lib.hid hs
  clear hs
  rcases sb with _ | _
  · clear h
    go_enter Try.func36, Try.ntmps36
    go_wp2_with fail
    refine HS.out.mono ?_
    rintro e w' ⟨rfl, rfl⟩
    go_wp2_with fail
    go_ret2
    exact fin_none _
  · by_cases h3 : t < 0
    · clear h
      go_enter Try.func36, Try.ntmps36
      go_wp2_with fail
      refine HS.out.mono ?_
      rintro e w' ⟨rfl, rfl⟩
      go_wp2_with fail
      go_ret2
      exact fin_none _
    have h4 : 1000000000000000 < t := by
      rcases h with h | h
      · cases h
      · omega
    clear h
    go_enter Try.func36, Try.ntmps36
    go_wp2_with fail
    refine HS.out.mono ?_
    rintro e w' ⟨rfl, rfl⟩
    go_wp2_with fail
    go_ret2
    exact fin_none _

/-- the reference's Apportion -/
theorem rapportion_any (t : Int) (ao : Option Addr) (cap n : Nat) (l : List Int) (w : World) (hn : n ≤ 1000000) (hl : l.length = n) (hr : Row w ao l) (h64 : I64s l) :
    Calls Try.prog 36 #[.int .i64 t, .slice ao n cap] w (Parts w (apV t l) (apB t l)) := by
  subst hl
  have hs := fun w hr => weigh_any ao cap l w (by omega) hr h64
  by_cases h : apB t l = true
  · obtain ⟨ok, h1, h2⟩ := apB_iff.1 h
    have e : okS 1000000000000000 l = true := okS_iff.2 ⟨ok.pos, h1⟩
    obtain ⟨e1, e2⟩ := wg_yes e
    have o1 := ok.sum1
    rw [e1, e2, decide_eq_true (show 0 < l.sum by omega)] at hs
    unfold apV
    rw [if_pos h, h]
    have o2 := ok.t0
    obtain ⟨T, rfl⟩ := Int.eq_ofNat_of_zero_le o2
    obtain ⟨U, hU⟩ := Int.eq_ofNat_of_zero_le (show 0 ≤ l.sum by omega)
    rw [hU] at hs
    exact rapp_yes T U ao cap l.length l w hn rfl hr ok (by omega) hU (by omega) (by omega) (fun w h => hs w h)
  · have hb : apB t l = false := by simpa using h
    unfold apV
    rw [if_neg h, hb]
    refine rapp_no t (wgV l) (wgB l) ao cap l.length w ?_ (hs w hr)
    rcases hq : wgB l with _ | _
    · exact .inl rfl
    · right
      unfold wgB at hq
      rw [Bool.and_eq_true, okS_iff, decide_eq_true_eq] at hq
      by_cases c : 0 ≤ t ∧ t ≤ 1000000000000000
      · exact absurd (apB_iff.2 ⟨⟨c.1, hq.1.1, by omega⟩, hq.1.2, c.2⟩) h
      · omega

end Go.Proofs.Ytbkmcncakpmgkaa
