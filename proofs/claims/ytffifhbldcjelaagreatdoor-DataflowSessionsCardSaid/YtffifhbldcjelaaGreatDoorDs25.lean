/-
  fact.Valid: the walk. session.isPlay.
-/
import Derived.Test.YtffifhbldcjelaaGreatDoorDs24
import Derived.Test.YtffifhbldcjelaaGreatDoorDs21
import Derived.Laws.EntriesVeiled
import Derived.Deep.QuietTactic
import Derived.Deep.DeepCutAuto

/-! fact.Valid: the walk. -/
namespace Go.Proofs.YtffifhbldcjelaaGreatDoor
set_option linter.unusedVariables false
set_option linter.unusedSimpArgs false
open Go.RowKit Go.Lib Go.Sort

/-- a fact in a box -/
def FacAt (w : World) (b : Nat) (f : PF) : Prop := w.heap[b]? = some (.cells (encP f).toArray 38 (0, 0))
theorem FacAt.lt {w : World} {b : Nat} {f : PF} (h : FacAt w b f) : b < w.heap.size := (Array.getElem?_eq_some_iff.1 h).1
theorem FacAt.later {w w' : World} {b : Nat} {f : PF} (h : FacAt w b f) (hb : Below w.heap.size w w') : FacAt w' b f := (hb.block b h.lt).trans h
theorem FacAt.cell {w : World} {b : Nat} {f : PF} (h : FacAt w b f) {i : Nat} {v : Value} (hv : (encP f)[i]? = some v) : w.cell? ⟨b, i, none⟩ = some v := by
  unfold World.cell?
  rw [show (⟨b, i, none⟩ : Addr).block = b from rfl, h, ← hv]
  exact List.getElem?_toArray
theorem FacAt.new (w : World) (f : PF) : FacAt (w.alloc (.cells (encP f).toArray 38)) w.heap.size f := World.alloc_heap_new w _

theorem zeroK (w : World) : (zeroValue 109).run Tryz.prog w = .ok (.agg #[.nilFunc, .bool false, .nilFunc]) w := by kernel_rfl
/-- what a look-up of a kind gives -/
theorem kind_look (f : PF) : ∃ a0 tx a2 io kf L, (kindV (f.n 0)).getD (.agg #[.nilFunc, .bool false, .nilFunc]) = .agg #[a0, .bool tx, a2] ∧ (kindV (f.n 0)).isSome = io ∧ (io = false → f.n 0 ≠ 1) ∧ (io = true → a0 = .func (.func kf) #[] #[] ∧ KindOk f kf tx L) ∧ ((a0 = .nilFunc ∧ a2 = .nilFunc) ∨ ∃ k0 k2, a0 = .func (.func k0) #[] #[] ∧ a2 = .func (.func k2) #[] #[]) := by
  rcases kind_ok f with ⟨h, h1⟩ | ⟨kf, tx, kv, L, h, hk⟩
  · rw [h]
    exact ⟨_, _, _, false, 0, [], rfl, rfl, fun _ => h1, fun q => (by cases q), .inl ⟨rfl, rfl⟩⟩
  · rw [h]
    exact ⟨_, _, _, true, kf, L, rfl, rfl, fun q => (by cases q), fun _ => ⟨rfl, hk⟩, .inr ⟨_, _, rfl, rfl⟩⟩

/-- while the fields are looked at -/
structure VS (f : PF) (w : World) (bx g rb gf : Nat) (a0 : Value) (tx : Bool) (a2 : Value) (L : List Fd) (j : Nat) (n : Nat → Int) (wr : World) : Prop where
  rc : RecAt wr rb n f.t
  row : RowK 3 (encFd rb) wr (some ⟨gf, 0, none⟩) L
  fc : FacAt wr bx f
  gc : wr.heap[g]? = some (.cells #[a0, .bool tx, a2] 109 (0, 0))
  low : Below w.heap.size w wr
  own : w.heap.size ≤ rb
  n1 : gf ≠ rb
  n2 : bx ≠ rb
  n3 : g ≠ rb
  val : validL f L tx = (allIn n (L.drop j) && emptyN (zeroN n (L.drop j)) (if tx then ⟨#[]⟩ else f.t) (f.n 0) (f.n 2))
section
variable {f : PF} {w wr : World} {bx g rb gf : Nat} {a0 a2 : Value} {tx : Bool} {L : List Fd} {j : Nat} {n : Nat → Int}
theorem VS.later {wr' : World} (h : VS f w bx g rb gf a0 tx a2 L j n wr) (hb : Below wr.heap.size wr wr') : VS f w bx g rb gf a0 tx a2 L j n wr' :=
  ⟨h.rc.later hb, h.row.later hb, h.fc.later hb, (hb.block g (Array.getElem?_eq_some_iff.1 h.gc).1).trans h.gc, BelowN h.low hb (Nat.le_refl _), h.own, h.n1, h.n2, h.n3, h.val⟩
theorem VS.cell (h : VS f w bx g rb gf a0 tx a2 L j n wr) {x : Fd} (hx : L[j]? = some x) {k : Nat} {v : Value} (hv : (encFd rb x)[k]? = some v) : wr.cell? ⟨gf, 0 + j * 3 + k, none⟩ = some v := by
  obtain ⟨b, off, e, _, h2⟩ := h.row j x hx
  cases e
  exact h2 k v hv
theorem VS.cells (h : VS f w bx g rb gf a0 tx a2 L j n wr) {x : Fd} (hx : L[j]? = some x) : wr.cell? ⟨gf, j * 3, none⟩ = some (.pointer (some ⟨rb, x.i, none⟩)) ∧ wr.cell? ⟨gf, j * 3 + 1, none⟩ = some (.int .i64 x.lo) ∧ wr.cell? ⟨gf, j * 3 + 2, none⟩ = some (.int .i64 x.hi) := by
  have h0 := h.cell hx (k := 0) rfl
  have h1 := h.cell hx (k := 1) rfl
  have h2 := h.cell hx (k := 2) rfl
  rw [Nat.zero_add] at h0 h1 h2
  exact ⟨h0, h1, h2⟩
theorem VS.store (h : VS f w bx g rb gf a0 tx a2 L j n wr) {x : Fd} (hx : L[j]? = some x) (hi : x.i < 17) (hin : inB (n x.i) x.lo x.hi = true) : VS f w bx g rb gf a0 tx a2 L (j + 1) (updN n x.i) (wr.setCell ⟨rb, x.i, none⟩ (.int .i64 0)) := by
  have hk : ∀ k, k ≠ rb → (wr.setCell ⟨rb, x.i, none⟩ (.int .i64 0)).heap[k]? = wr.heap[k]? := fun k hk => Below.heap_setCell _ _ _ _ hk
  have hs : (wr.setCell ⟨rb, x.i, none⟩ (.int .i64 0)).heap.size = wr.heap.size := by simp [World.setCell]
  refine ⟨h.rc.zero hi, fun i y hy => ?_, (hk bx h.n2).trans h.fc, (hk g h.n3).trans h.gc, h.low.setCell (p := ⟨rb, x.i, none⟩) h.own _, h.own, h.n1, h.n2, h.n3, ?_⟩
  · obtain ⟨b, off, e, h1, h2⟩ := h.row i y hy
    cases e
    exact ⟨gf, 0, rfl, by rw [hs]; exact h1, fun q v hv => by
      rw [World.cell?_of_block (w := wr) (hk gf h.n1)]
      exact h2 q v hv⟩
  · obtain ⟨hl, he⟩ := List.getElem?_eq_some_iff.1 hx
    rw [h.val, List.drop_eq_getElem_cons hl, he]
    show ((inB (n x.i) x.lo x.hi && allIn (updN n x.i) (L.drop (j + 1))) && emptyN (zeroN (updN n x.i) (L.drop (j + 1))) _ _ _) = _
    rw [hin, Bool.true_and]
theorem RecAt.notext {w : World} {b : Nat} {n : Nat → Int} {t : ByteArray} (h : RecAt w b n t) : RecAt (w.setCell ⟨b, 17, none⟩ (.string ⟨#[]⟩)) b n ⟨#[]⟩ := by
  unfold RecAt at *
  have e : (encP ⟨n, t⟩).toArray.setIfInBounds 17 (.string ⟨#[]⟩) = (encP ⟨n, ⟨#[]⟩⟩).toArray := rfl
  simp [World.setCell, Array.getElem?_modify, h, ← e]
theorem VS.fails (h : VS f w bx g rb gf a0 tx a2 L j n wr) {x : Fd} (hx : L[j]? = some x) (hin : inB (n x.i) x.lo x.hi = false) : validL f L tx = false := by
  obtain ⟨hl, he⟩ := List.getElem?_eq_some_iff.1 hx
  rw [h.val, List.drop_eq_getElem_cons hl, he]
  show ((inB (n x.i) x.lo x.hi && _) && _) = _
  rw [hin]; rfl
theorem VS.done (h : VS f w bx g rb gf a0 tx a2 L j n wr) (hj : L.length ≤ j) : validL f L tx = emptyN n (if tx then ⟨#[]⟩ else f.t) (f.n 0) (f.n 2) := by
  rw [h.val, List.drop_eq_nil_of_le hj]
  rfl
end

/-- what Valid says -/
def ValE (b : Bool) (w : World) (e : Ending) (w' : World) : Prop := e = .returned (.bool b) ∧ Below w.heap.size w w'
theorem ValE.says {b b' : Bool} {w w' : World} (h : b' = b) (hb : Below w.heap.size w w') : ValE b w (.returned (.bool b')) w' := ⟨by rw [h], hb⟩

set_option maxRecDepth 100000 in
set_option maxHeartbeats 40000000 in
theorem valid_at (f : PF) : ∃ b, (f.n 0 = 1 → b = validP f) ∧ ∀ w, Calls Tryz.prog 24 #[.agg (encP f).toArray] w (ValE b w) := by
  obtain ⟨a0, tx, a2, io, kf, L, hk1, hk2, hk3, hk4, hk5⟩ := kind_look f
  refine ⟨io && validL f L tx, fun e => ?_, fun w => ?_⟩
  · rcases io with _ | _
    · exact absurd e (hk3 rfl)
    · obtain ⟨e1, e2⟩ := (hk4 rfl).2.one e
      rw [e1, e2]; rfl
  have hmm := @run_makeMap Tryz.prog
  have F0 := Lib.hid (FacAt.new w f)
  have B0 := Lib.hid ((Below.refl w.heap.size w).alloc (Nat.le_refl _) (.cells (encP f).toArray 38))
  have HK3 := Lib.hid hk3
  have HK4 := Lib.hid hk4
  have HK5 := Lib.hid hk5
  have LK := Lib.hid (fun (W : World) (m : Nat) (h : MapI W m kindV) => (show (Instr.lookup 111 (.map (some m)) (.int .i64 (f.n 0)) true).run Tryz.prog W = .ok (.tuple #[.agg #[a0, .bool tx, a2], .bool io]) W from by
    have := h.lookup Tryz.underlying111 (f.n 0) (zeroK W) true
    rw [hk1, hk2] at this
    exact this))
  clear hk1 hk2 hk3 hk4 hk5
  go_enter Tryz.func24, Tryz.ntmps24
  go_upto_region 1 with ((with_reducible refine wpList_boxL ?_ (box_agg _ _ _) ?_); focus rfl)
  obtain ⟨wa, hwa⟩ : ∃ wa, wa = w.alloc (.cells (encP f).toArray 38) := ⟨_, rfl⟩
  obtain ⟨bx, hbx⟩ : ∃ bx, bx = w.heap.size := ⟨_, rfl⟩
  have HBX := Lib.hid hbx
  rw [← hwa] at F0 B0 ⊢
  rw [← HBX.out] at F0 ⊢
  clear hwa hbx
  have c0 := F0.out.cell (i := 0) rfl
  have c0z := cell_up c0 (.cells #[.nilFunc, .bool false, .nilFunc] 109)
  have BW := Lib.hid (show ∀ W, Below wa.heap.size wa W → Below w.heap.size w W ∧ FacAt W bx f from fun W h => ⟨B0.out.trans (h.mono B0.out.size), F0.out.later h⟩)
  have BZ := Lib.hid (((Below.refl wa.heap.size wa).drew).alloc (Nat.le_refl _) (.cells #[.nilFunc, .bool false, .nilFunc] 109))
  go_cut [0, 3, 4] (fun t0 t3 t4 wc => ∃ g, t3 = .pointer (some ⟨g, 0, none⟩) ∧ t4 = .bool io ∧ wc.heap[g]? = some (.cells #[a0, .bool tx, a2] 109 (0, 0)) ∧ Below wa.heap.size wa wc)
  case first =>
    as_aux_lemma =>
      rcases HK5.out with ⟨rfl, rfl⟩ | ⟨k0f, k2f, rfl, rfl⟩
      all_goals (go_region_law (go_simp; go_at_call 43; refine (kinds_any _).mono ?_; rintro e w1 ⟨m, rfl, hm, mp, hb⟩; have HBK := Lib.hid hb; have l1 := LK.out w1 m mp; have l2 := LK.out (w1.alloc (.cells #[.nilFunc, .bool false, .nilFunc] 109)) m (mp.later ((Below.refl _ w1).alloc (Nat.le_refl _) _)); have BK := Lib.hid (show Below wa.heap.size wa w1 from by first | exact BelowN (Below.refl wa.heap.size wa).drew hb (Nat.le_refl _) | exact BelowN BZ.out hb (Nat.le_refl _)); have k0 := (BW.out w1 BK.out).2.cell (i := 0) rfl; have k0z := cell_up k0 (.cells #[.nilFunc, .bool false, .nilFunc] 109); (first | (have hz : w1.heap[wa.heap.size]? = some (.cells #[.nilFunc, .bool false, .nilFunc] 109 (0, 0)) := (hb.block wa.heap.size (by simp)).trans (World.alloc_heap_new wa.drew _); have z0 := cell_blk (o := 0) hz rfl; have z1 := cell_blk (o := 1) hz rfl; have z2 := cell_blk (o := 2) hz rfl; have y0 := frz_blk (o := 0) hz; have y1 := frz_blk (o := 1) hz; have y2 := frz_blk (o := 2) hz; have HZ := Lib.hid hz; clear hz) | skip); clear hm mp hb))
      all_goals go_wp2_with fail
      all_goals go_meet
      all_goals first
        | exact ⟨_, rfl, rfl, World.alloc_heap_new w1 _, BelowA BK.out (Nat.le_refl _) _⟩
        | exact ⟨_, rfl, rfl, by simp [World.setCell, Array.getElem?_modify, HZ.out], ((BK.out.setCell (p := ⟨wa.heap.size, 0, none⟩) (Nat.le_refl _) _).setCell (p := ⟨wa.heap.size, 1, none⟩) (Nat.le_refl _) _).setCell (p := ⟨wa.heap.size, 2, none⟩) (Nat.le_refl _) _⟩
  case rest =>
    obtain ⟨g, rfl, rfl, hg, hb⟩ := hcut
    obtain ⟨wk, rfl⟩ : ∃ wk : World, wk = wc := ⟨_, rfl⟩
    obtain ⟨hbk, hfk⟩ := BW.out wk hb
    have HG := Lib.hid hg
    have BK := Lib.hid hbk
    have FK := Lib.hid hfk
    clear hg hb hbk hfk c0 c0z F0 B0 BW BZ LK hmm
    obtain ⟨ok, hok⟩ : ∃ ok, (io && headOk f) = ok := ⟨_, rfl⟩
    have HOK := Lib.hid hok
    clear hok
    go_upto_region 2 with (fail)
    go_cut [32] (fun t wc => t = .bool (!ok) ∧ wc = wk)
    case first =>
      as_aux_lemma =>
        have c2 := FK.out.cell (i := 2) rfl
        have c17 := FK.out.cell (i := 17) rfl
        rcases io with _ | _
        · obtain rfl : ok = false := HOK.out.symm
          go_wp2_with fail
          go_meet
          exact ⟨rfl, rfl⟩
        · by_cases q2 : f.n 2 < 1
          · obtain rfl : ok = false := by rw [← HOK.out]; unfold headOk; rw [decide_eq_false (show ¬ 1 ≤ f.n 2 by omega)]; rfl
            go_wp2_with fail
            go_meet
            exact ⟨rfl, rfl⟩
          · by_cases q3 : 1000 < f.n 2
            · obtain rfl : ok = false := by rw [← HOK.out]; unfold headOk; rw [decide_eq_false (show ¬ f.n 2 ≤ 1000 by omega), Bool.and_false]; rfl
              go_wp2_with fail
              go_meet
              exact ⟨rfl, rfl⟩
            · by_cases q4 : 2000 < f.t.size
              · obtain rfl : ok = false := by rw [← HOK.out]; unfold headOk; rw [decide_eq_false (show ¬ f.t.size ≤ 2000 by omega), Bool.and_false]; rfl
                have q5 : (2000 : Int) < (f.t.size : Int) := by omega
                go_wp2_with fail
                go_meet
                exact ⟨rfl, rfl⟩
              · obtain rfl : ok = true := by rw [← HOK.out]; unfold headOk; rw [decide_eq_true (show 1 ≤ f.n 2 by omega), decide_eq_true (show f.n 2 ≤ 1000 by omega), decide_eq_true (show f.t.size ≤ 2000 by omega)]; rfl
                have q5 : ¬ (2000 : Int) < (f.t.size : Int) := by omega
                go_wp2_with fail
                go_meet
                exact ⟨rfl, rfl⟩
    case rest =>
      obtain ⟨rfl, hwc⟩ := hcut
      rw [hwc]
      clear hwc
      rcases ok with _ | _
      · have h1 : false = (io && validL f L tx) := by
          unfold validL
          rw [← Bool.and_assoc, HOK.out]; rfl
        go_wp2_with fail
        go_ret
        exact ValE.says h1 BK.out
      · obtain ⟨rfl, hh⟩ : io = true ∧ headOk f = true := by simpa using HOK.out
        have HH := Lib.hid hh
        clear hh
        obtain ⟨rfl, hk⟩ := HK4.out rfl
        have eg := hk.enter
        have HK := Lib.hid hk
        clear hk HK3 HK4 HK5 HOK
        go_upto_region 4 with (fail)
        go_cut [5] (fun t wc => t = .pointer (some ⟨wk.heap.size, 0, none⟩) ∧ RecAt wc wk.heap.size f.n f.t ∧ Below wk.heap.size wk wc)
        case first =>
          have LD := Lib.hid (ld38 (ft_blk FK.out))
          have BL := Lib.hid (bld71 f)
          have N1 := Lib.hid (show RecAt (wk.alloc (.cells (encP f).toArray 71)) wk.heap.size f.n f.t ∧ Below wk.heap.size wk (wk.alloc (.cells (encP f).toArray 71)) from ⟨World.alloc_heap_new wk _, (Below.refl _ wk).alloc (Nat.le_refl _) _⟩)
          obtain ⟨ag, hag⟩ : ∃ ag, ag = (encP f).toArray := ⟨_, rfl⟩
          rw [← hag] at LD BL N1
          clear hag
          go_wp2_with (first
            | ((with_reducible refine wpList_loadL ?_ LD.out ?_); focus rfl)
            | ((with_reducible refine wpList_build1L ?_ (BL.out _) ?_); focus rfl)
            | ((with_reducible refine wpList_boxL ?_ (box_agg _ _ _) ?_); focus rfl))
          go_meet
          exact ⟨rfl, N1.out⟩
        case rest =>
            obtain ⟨rfl, hrc, hbr⟩ := hcut
            obtain ⟨wr, rfl⟩ : ∃ wr : World, wr = wc := ⟨_, rfl⟩
            have HRC := Lib.hid hrc
            have BR := Lib.hid hbr
            obtain ⟨rb, hrb⟩ : ∃ rb, rb = wk.heap.size := ⟨_, rfl⟩
            have HRB := Lib.hid hrb
            rw [← HRB.out] at HRC ⊢
            clear hrb hrc hbr
            have FR := Lib.hid (FK.out.later BR.out)
            have GR := Lib.hid ((BR.out.block g (Array.getElem?_eq_some_iff.1 HG.out).1).trans HG.out)
            have BR2 := Lib.hid (BelowN BK.out BR.out (Nat.le_refl _))
            have g0 : wr.cell? ⟨g, 0, none⟩ = some (.func (.func kf) #[] #[]) := cell_blk (o := 0) GR.out rfl
            have BWK := Lib.hid BK.out.size
            have FKL := Lib.hid FK.out.lt
            have GKL := Lib.hid (Array.getElem?_eq_some_iff.1 HG.out).1
            clear FK HG BK
            go_upto_region 6 with (go_at_fn kf; refine (HK.out.call rb _ HRC.out).mono ?_; rintro e w3 ⟨gf, rfl, h1, h2, h3⟩; have RW := Lib.hid h2; have B3 := Lib.hid h3; have H1 := Lib.hid h1; clear h1 h2 h3 g0)
            have B4 := Lib.hid (BelowN BR2.out B3.out (Nat.le_refl _))
            have V0 := Lib.hid (show VS f w bx g rb gf (.func (.func kf) #[] #[]) tx a2 L 0 f.n w3 from
              ⟨HRC.out.later B3.out, RW.out, FR.out.later B3.out, (B3.out.block g (Array.getElem?_eq_some_iff.1 GR.out).1).trans GR.out, B4.out, by rw [HRB.out]; exact BWK.out, by have := HRC.out.lt; have := H1.out; omega, by have := FKL.out; have := HRB.out; omega, by have := GKL.out; have := HRB.out; omega, by unfold validL; rw [HH.out, Bool.true_and]; rfl⟩)
            have HLT := Lib.hid HK.out.lt
            have hl8 := HK.out.len
            clear RW B3 H1 B4 BR2 HRC FR GR HK BR HRB BWK FKL GKL HH eg
            go_loopw [41] (fun i wl => ∃ (j : Nat) (n : Nat → Int), j ≤ L.length ∧ i = .int .i64 j ∧ VS f w bx g rb gf (.func (.func kf) #[] #[]) tx a2 L j n wl) (fun i _ => L.length - (intOf i).toNat)
            case atStart => exact ⟨0, f.n, Nat.zero_le _, rfl, V0.out⟩
            case round =>
              obtain ⟨j, n, hj, rfl, hv⟩ := hrel
              have V := Lib.hid hv
              clear hv V0
              rcases Nat.lt_or_ge j L.length with hlt | hge
              · as_aux_lemma =>
                obtain ⟨x, hx⟩ : ∃ x, L[j]? = some x := ⟨_, List.getElem?_eq_getElem hlt⟩
                have d1 : (j : Int) < (L.length : Int) := by omega
                have d2 : (0 : Int) ≤ (j : Int) := by omega
                obtain ⟨e0, e1, e2⟩ := V.out.cells hx
                have hi17 := HLT.out x (List.mem_of_getElem? hx)
                have V8 := Lib.hid (V.out.later ((Below.refl _ wr).alloc (Nat.le_refl _) (.cells (encFd rb x).toArray 115)))
                have HX := Lib.hid hx
                have H17 := Lib.hid hi17
                unfold encFd at V8
                clear hx
                go_upto_region 8 with (fail)
                obtain ⟨w8, hw8⟩ : ∃ w8, w8 = wr.alloc (.cells #[.pointer (some ⟨rb, x.i, none⟩), .int .i64 x.lo, .int .i64 x.hi] 115) := ⟨_, rfl⟩
                have hb8 : w8.heap[wr.heap.size]? = some (.cells #[.pointer (some ⟨rb, x.i, none⟩), .int .i64 x.lo, .int .i64 x.hi] 115 (0, 0)) := by rw [hw8]; exact World.alloc_heap_new wr _
                rw [← hw8] at V8 ⊢
                obtain ⟨xb, hxb⟩ : ∃ xb, xb = wr.heap.size := ⟨_, rfl⟩
                rw [← hxb] at hb8 ⊢
                have HB8 := Lib.hid hb8
                have k0 := cell_blk (o := 0) hb8 rfl
                have k1 := cell_blk (o := 1) hb8 rfl
                have k2 := cell_blk (o := 2) hb8 rfl
                clear hw8 hxb hb8 e0 e1 e2 hi17
                obtain ⟨ib, hib⟩ : ∃ ib, inB (n x.i) x.lo x.hi = ib := ⟨_, rfl⟩
                have WI := Lib.hid (within_any rb x.i x.lo x.hi (n x.i) w8 (V8.out.rc.cell H17.out))
                rw [hib] at WI
                have HIB := Lib.hid hib
                clear hib
                rcases ib with _ | _
                · have VF := Lib.hid (V.out.fails HX.out HIB.out)
                  go_wp2_with (go_at_call 44; (with_reducible refine WI.out.mono ?_); rintro e w9 ⟨rfl, h9⟩; have B9 := Lib.hid h9; clear h9)
                  go_ret
                  exact ValE.says (by rw [VF.out]; rfl) (V8.out.later B9.out).low
                · go_upto_region 10 with (go_at_call 44; (with_reducible refine WI.out.mono ?_); rintro e w9 ⟨rfl, h9⟩; have B9 := Lib.hid h9; clear h9 k0 k1 k2)
                  have V9 := Lib.hid (V8.out.later B9.out)
                  have k0 := cell_blk (o := 0) ((B9.out.block xb (Array.getElem?_eq_some_iff.1 HB8.out).1).trans HB8.out) rfl
                  have kc := V9.out.rc.cell H17.out
                  have kz := V9.out.rc.frozen x.i
                  go_wp2_with fail
                  go_roundw
                  case rel => exact ⟨j + 1, _, by omega, by go_num, V9.out.store HX.out H17.out HIB.out⟩
                  case measure => simp [intOf]; omega
              · have hjl : j = L.length := by omega
                have d1 : ¬ (j : Int) < (L.length : Int) := by omega
                have VD := Lib.hid (V.out.done hge)
                have g1 : wr.cell? ⟨g, 1, none⟩ = some (.bool tx) := cell_blk (o := 1) V.out.gc rfl
                have b0 := V.out.fc.cell (i := 0) rfl
                have b2 := V.out.fc.cell (i := 2) rfl
                have c17 : wr.cell? ⟨rb, 17, none⟩ = some (.string f.t) := cell_blk (o := 17) V.out.rc rfl
                have y17 := V.out.rc.frozen 17
                rcases tx with _ | _
                · as_aux_lemma =>
                  have VDO := Lib.hid (show emptyN n f.t (f.n 0) (f.n 2) = (true && validL f L false) from by rw [VD.out]; rfl)
                  have RC := Lib.hid V.out.rc
                  have FC := Lib.hid V.out.fc
                  have LO := Lib.hid V.out.low
                  go_upto_region 14 with (fail)
                  have MIX : Hid (Tryz.prog.follows .mixedOrders = true) := by show _ = _; kernel_rfl
                  have LDQ := Lib.hid (show ∀ w', (∃ q : GrownBy, w' = grow (wr.drewN q.n) q.os) → (Instr.loadAt 38 (.pointer (some ⟨rb, 0, none⟩))).run Tryz.prog w' = .ok (.agg (encP ⟨n, f.t⟩).toArray) w' from by
                    rintro w' ⟨q, rfl⟩
                    exact ld38 (ft_blk (RC.out.later (below_grown _ q.n q.os))))
                  have BLQ := Lib.hid (show ∀ w', (∃ q : GrownBy, w' = grow (wr.drewN q.n) q.os) → (Instr.build 38 #[(0, .int .i64 (f.n 0)), (2, .int .i64 (f.n 2))]).run Tryz.prog w' = .ok (.agg (encP ⟨bareN (f.n 0) (f.n 2), ⟨#[]⟩⟩).toArray) w' from fun w' _ => bldBare (f.n 0) (f.n 2) w')
                  have EQQ := Lib.hid (show ∀ w', (∃ q : GrownBy, w' = grow (wr.drewN q.n) q.os) → (Op.equalIn 10000 38 (.agg (encP ⟨n, f.t⟩).toArray) (.agg (encP ⟨bareN (f.n 0) (f.n 2), ⟨#[]⟩⟩).toArray)).run Tryz.prog w' = .ok (emptyN n f.t (f.n 0) (f.n 2)) w' from fun w' _ => fact_eq w' n f.t (f.n 0) (f.n 2))
                  have b0 := fun (q : Nat) (os : Array Obj) => (FC.out.later (below_grown wr q os)).cell (i := 0) rfl
                  have b2 := fun (q : Nat) (os : Array Obj) => (FC.out.later (below_grown wr q os)).cell (i := 2) rfl
                  obtain ⟨ag, hag⟩ : ∃ ag, ag = (encP ⟨n, f.t⟩).toArray := ⟨_, rfl⟩
                  obtain ⟨bg, hbg⟩ : ∃ bg, bg = (encP ⟨bareN (f.n 0) (f.n 2), ⟨#[]⟩⟩).toArray := ⟨_, rfl⟩
                  rw [← hag] at LDQ EQQ
                  rw [← hbg] at BLQ EQQ
                  clear hag hbg
                  refine wp_region_quiet_grown MIX.out (by kernel_rfl) ?_
                  iterate 3 ((with_reducible refine wpQuiet_step ?_); intro K hK; go_simp; first | (refine hK _ ?_; clear hK K) | (apply Exists.intro; refine ⟨fun _ => ?_, hK _ ?_⟩; (fail); clear hK K))
                  with_reducible refine wpQuiet_loadL ?_ LDQ.out ?_
                  focus rfl
                  iterate 4 ((with_reducible refine wpQuiet_step ?_); intro K hK; go_simp; first | (refine hK _ ?_; clear hK K) | (apply Exists.intro; refine ⟨fun _ => ?_, hK _ ?_⟩; (fail); clear hK K))
                  with_reducible refine wpQuiet_build2L ?_ ?_ BLQ.out ?_
                  focus rfl
                  focus rfl
                  with_reducible refine wpQuiet_eqlL ?_ ?_ (by kernel_rfl) EQQ.out ?_
                  focus rfl
                  focus rfl
                  repeat ((with_reducible refine wpQuiet_step ?_); intro K hK; go_simp; first | (refine hK _ ?_; clear hK K) | (apply Exists.intro; refine ⟨fun _ => ?_, hK _ ?_⟩; (fail); clear hK K))
                  refine wpQuiet_nil ?_
                  rintro _ ⟨⟨nq, osq⟩, rfl⟩
                  go_wp2_with fail
                  go_ret
                  exact ValE.says VDO.out (LO.out.trans ((below_grown wr nq osq).mono LO.out.size))
                · as_aux_lemma =>
                  have VT := Lib.hid (show RecAt (wr.setCell ⟨rb, 17, none⟩ (.string ⟨#[]⟩)) rb n ⟨#[]⟩ ∧ Below w.heap.size w (wr.setCell ⟨rb, 17, none⟩ (.string ⟨#[]⟩)) ∧ FacAt (wr.setCell ⟨rb, 17, none⟩ (.string ⟨#[]⟩)) bx f from ⟨V.out.rc.notext, V.out.low.setCell (p := ⟨rb, 17, none⟩) V.out.own _, (Below.heap_setCell _ _ _ _ V.out.n2).trans V.out.fc⟩)
                  have VDO := Lib.hid (show emptyN n ⟨#[]⟩ (f.n 0) (f.n 2) = (true && validL f L true) from by rw [VD.out]; rfl)
                  go_upto_region 14 with (fail)
                  obtain ⟨w14, hw14⟩ : ∃ w14, w14 = wr.setCell ⟨rb, 17, none⟩ (.string ⟨#[]⟩) := ⟨_, rfl⟩
                  rw [← hw14] at VT ⊢
                  clear hw14 b0 b2 c17 y17 g1
                  have RC := Lib.hid VT.out.1
                  have FC := Lib.hid VT.out.2.2
                  have LO := Lib.hid VT.out.2.1
                  have MIX : Hid (Tryz.prog.follows .mixedOrders = true) := by show _ = _; kernel_rfl
                  have LDQ := Lib.hid (show ∀ w', (∃ q : GrownBy, w' = grow (w14.drewN q.n) q.os) → (Instr.loadAt 38 (.pointer (some ⟨rb, 0, none⟩))).run Tryz.prog w' = .ok (.agg (encP ⟨n, ⟨#[]⟩⟩).toArray) w' from by
                    rintro w' ⟨q, rfl⟩
                    exact ld38 (ft_blk (RC.out.later (below_grown _ q.n q.os))))
                  have BLQ := Lib.hid (show ∀ w', (∃ q : GrownBy, w' = grow (w14.drewN q.n) q.os) → (Instr.build 38 #[(0, .int .i64 (f.n 0)), (2, .int .i64 (f.n 2))]).run Tryz.prog w' = .ok (.agg (encP ⟨bareN (f.n 0) (f.n 2), ⟨#[]⟩⟩).toArray) w' from fun w' _ => bldBare (f.n 0) (f.n 2) w')
                  have EQQ := Lib.hid (show ∀ w', (∃ q : GrownBy, w' = grow (w14.drewN q.n) q.os) → (Op.equalIn 10000 38 (.agg (encP ⟨n, ⟨#[]⟩⟩).toArray) (.agg (encP ⟨bareN (f.n 0) (f.n 2), ⟨#[]⟩⟩).toArray)).run Tryz.prog w' = .ok (emptyN n ⟨#[]⟩ (f.n 0) (f.n 2)) w' from fun w' _ => fact_eq w' n ⟨#[]⟩ (f.n 0) (f.n 2))
                  have b0 := fun (q : Nat) (os : Array Obj) => (FC.out.later (below_grown w14 q os)).cell (i := 0) rfl
                  have b2 := fun (q : Nat) (os : Array Obj) => (FC.out.later (below_grown w14 q os)).cell (i := 2) rfl
                  obtain ⟨ag, hag⟩ : ∃ ag, ag = (encP ⟨n, ⟨#[]⟩⟩).toArray := ⟨_, rfl⟩
                  obtain ⟨bg, hbg⟩ : ∃ bg, bg = (encP ⟨bareN (f.n 0) (f.n 2), ⟨#[]⟩⟩).toArray := ⟨_, rfl⟩
                  rw [← hag] at LDQ EQQ
                  rw [← hbg] at BLQ EQQ
                  clear hag hbg
                  refine wp_region_quiet_grown MIX.out (by kernel_rfl) ?_
                  iterate 3 ((with_reducible refine wpQuiet_step ?_); intro K hK; go_simp; first | (refine hK _ ?_; clear hK K) | (apply Exists.intro; refine ⟨fun _ => ?_, hK _ ?_⟩; (fail); clear hK K))
                  with_reducible refine wpQuiet_loadL ?_ LDQ.out ?_
                  focus rfl
                  iterate 4 ((with_reducible refine wpQuiet_step ?_); intro K hK; go_simp; first | (refine hK _ ?_; clear hK K) | (apply Exists.intro; refine ⟨fun _ => ?_, hK _ ?_⟩; (fail); clear hK K))
                  with_reducible refine wpQuiet_build2L ?_ ?_ BLQ.out ?_
                  focus rfl
                  focus rfl
                  with_reducible refine wpQuiet_eqlL ?_ ?_ (by kernel_rfl) EQQ.out ?_
                  focus rfl
                  focus rfl
                  repeat ((with_reducible refine wpQuiet_step ?_); intro K hK; go_simp; first | (refine hK _ ?_; clear hK K) | (apply Exists.intro; refine ⟨fun _ => ?_, hK _ ?_⟩; (fail); clear hK K))
                  refine wpQuiet_nil ?_
                  rintro _ ⟨⟨nq, osq⟩, rfl⟩
                  go_wp2_with fail
                  go_ret
                  exact ValE.says VDO.out (LO.out.trans ((below_grown w14 nq osq).mono LO.out.size))

end Go.Proofs.YtffifhbldcjelaaGreatDoor

/-! session.isPlay. -/
namespace Go.Proofs.YtffifhbldcjelaaGreatDoor
set_option linter.unusedVariables false
set_option linter.unusedSimpArgs false
open Go.RowKit Go.Lib Go.Sort

def isPlayB (f : PF) : Bool := decide (f.n 0 = 1) && validP f
set_option maxRecDepth 100000 in
theorem isplay_any (f : PF) (w : World) : Calls Tryz.prog 55 #[.agg (encP f).toArray] w fun e w' => e = .returned (.bool (isPlayB f)) ∧ Below w.heap.size w w' := by
  obtain ⟨b, hb1, hva⟩ := valid_at f
  have VA := Lib.hid hva
  have HB1 := Lib.hid hb1
  clear hva hb1
  have B0 := Lib.hid ((Below.refl w.heap.size w).alloc (Nat.le_refl _) (.cells (encP f).toArray 38))
  have F0 := Lib.hid (FacAt.new w f)
  go_enter Tryz.func55, Tryz.ntmps55
  go_upto_region 1 with ((with_reducible refine wpList_boxL ?_ (box_agg _ _ _) ?_); focus rfl)
  obtain ⟨wa, hwa⟩ : ∃ wa, wa = w.alloc (.cells (encP f).toArray 38) := ⟨_, rfl⟩
  obtain ⟨bx, hbx⟩ : ∃ bx, bx = w.heap.size := ⟨_, rfl⟩
  have HBX := Lib.hid hbx
  rw [← hwa] at F0 B0 ⊢
  rw [← HBX.out] at F0 ⊢
  clear hwa hbx
  have c0 := F0.out.cell (i := 0) rfl
  have LD := Lib.hid (ld38 (ft_blk F0.out))
  have HQ := Lib.hid (show isPlayB f = (decide (f.n 0 = 1) && validP f) from rfl)
  obtain ⟨k, hk⟩ : ∃ k, f.n 0 = k := ⟨_, rfl⟩
  rw [hk] at c0 HQ
  have HK := Lib.hid hk
  clear hk
  by_cases h1 : k = 1
  · subst h1
    go_wp2_with (first
      | ((with_reducible refine wpList_loadG ?_ ?_ LD.out ?_); (first | (focus rfl) | skip); (first | (focus rfl) | skip))
      | (go_at_call 24; refine (VA.out _).mono ?_; rintro e w1 ⟨rfl, h2⟩; have H2 := Lib.hid h2; clear h2))
    go_ret
    exact ⟨by rw [HQ.out, ← HB1.out HK.out]; rfl, BelowN B0.out H2.out (Nat.le_refl _)⟩
  · have h2 : (k == 1) = false := beq_eq_false_iff_ne.2 h1
    have H1 := Lib.hid h1
    clear h1
    go_wp2_with fail
    go_ret
    exact ⟨by rw [HQ.out, decide_eq_false H1.out]; rfl, B0.out⟩

end Go.Proofs.YtffifhbldcjelaaGreatDoor
