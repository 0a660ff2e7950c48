/-
  DataflowSessions: the walk.
-/
import Derived.Test.YtffifhbldcjelaaGreatDoorDs36
import Derived.Deep.RegionHeld3
import Derived.Deep.LoopGhost
import Derived.Deep.DeepCutAuto
import Derived.Deep.CutBlock

/-! DataflowSessions: the walk. -/
namespace Go.Proofs.YtffifhbldcjelaaGreatDoor
set_option linter.unusedVariables false
set_option linter.unusedSimpArgs false
set_option linter.unusedSectionVars false
open Go.RowKit Go.Lib Go.Sort

theorem st_seven {W0 w : World} {f k : Nat} {F : List En} (h : St W0 f F k w) {n : Nat} (hn : F.length = n) : St W0 f F n w := by
  obtain ⟨⟨h1, h2, _, h4⟩, h5⟩ := h
  exact ⟨⟨h1, h2, by omega, h4⟩, h5⟩
/-- while the flow is laid -/
structure IniR (W0 W : World) (f nb cb : Nat) (F : List En) : Prop where
  st : St W0 f F F.length W
  nam : W.heap[nb]? = some (.cells #[.string (nA 0), .string (nA 1), .string (nA 2)] 9 (0, 0))
  cnt : W.heap[cb]? = some (.cells #[.string (nX 0), .string (nX 1), .string (nX 2)] 9 (0, 0))
  bn : W0.heap.size ≤ nb
  bc : W0.heap.size ≤ cb

theorem dec0 : decB 0 = ⟨#[48, 48, 48, 48]⟩ := by kernel_rfl
theorem st_set0 {W0 w : World} {f k : Nat} {F : List En} (h : St W0 f F k w) (hk : k ≤ 900) (n v : ByteArray) (hok : setOk F n = true) : Calls Tryz.prog 6 #[.pointer (some ⟨f, 0, none⟩), .string n, .string v] w fun e w' => e = .returned (.int .i64 0) ∧ St W0 f (setF F n v) (k + 1) w' ∧ Mv W0.heap.size w w' := h.set hk n v rfl hok
theorem st_put0 {W0 w : World} {f k : Nat} {F : List En} (h : St W0 f F k w) (hk : k ≤ 900) (n v : ByteArray) (ao : Option Addr) (ln cap : Nat) (l : List ByteArray) (hln : l.length = ln) (hn : ln ≤ 1000) (hrow : RowK 1 encT w ao l) (hok : putOk F n l = true) :
    Calls Tryz.prog 7 #[.pointer (some ⟨f, 0, none⟩), .agg #[.string n, .slice ao ln cap], .string v] w fun e w' => e = .returned (.int .i64 0) ∧ St W0 f (putF F n l v) (k + 1) w' ∧ Mv W0.heap.size w w' := h.put hk n v ao ln cap l hln hn hrow rfl hok
theorem decimal0 (w : World) : Calls Tryz.prog 9 #[.int .i64 0] w fun e w' => e = .returned (.string ⟨#[48, 48, 48, 48]⟩) ∧ Below w.heap.size w w' := by
  have := decimal_any 0 (by omega) w
  rw [dec0] at this
  exact this
theorem IniR.blk {W0 W W' : World} {f nb cb : Nat} {F : List En} (h : IniR W0 W f nb cb F) (hm : Mv W0.heap.size W W') : W'.heap[nb]? = some (.cells #[.string (nA 0), .string (nA 1), .string (nA 2)] 9 (0, 0)) ∧ W'.heap[cb]? = some (.cells #[.string (nX 0), .string (nX 1), .string (nX 2)] 9 (0, 0)) :=
  ⟨(hm.block _ (Array.getElem?_eq_some_iff.1 h.nam).1 (not_mine h.nam (by decide))).trans h.nam, (hm.block _ (Array.getElem?_eq_some_iff.1 h.cnt).1 (not_mine h.cnt (by decide))).trans h.cnt⟩
theorem IniR.turn {W0 W W' : World} {f nb cb : Nat} {F F' : List En} (h : IniR W0 W f nb cb F) (hs : St W0 f F' F'.length W') (hm : Mv W0.heap.size W W') : IniR W0 W' f nb cb F' := ⟨hs, (h.blk hm).1, (h.blk hm).2, h.bn, h.bc⟩
theorem cellN {W : World} {nb : Nat} {t : TypeId} {g : Nat → ByteArray} (h : W.heap[nb]? = some (.cells #[.string (g 0), .string (g 1), .string (g 2)] t (0, 0))) {d : Nat} (hd : d < 3) : W.cell? ⟨nb, d, none⟩ = some (.string (g d)) := by
  match d, hd with
  | 0, _ => exact cell_blk h rfl
  | 1, _ => exact cell_blk h rfl
  | 2, _ => exact cell_blk h rfl

theorem IniR.ses {W0 w3 W : World} {f nb cb : Nat} {F : List En} (h : IniR W0 w3 f nb cb F) (hW : W = (w3.alloc (.cells #[.slice none 0 0, .slice none 0 0, .slice none 0 0] 22)).alloc (.cells #[.string ⟨#[]⟩, .string ⟨#[]⟩, .string ⟨#[]⟩] 9)) :
    SesR W0.heap.size W nb cb w3.heap.size (w3.heap.size + 1) [] (fun _ => []) (.slice none 0 0) (fun _ => .slice none 0 0) (fun _ => ⟨#[]⟩) := by
  have b1 := (Below.refl w3.heap.size w3).alloc (Nat.le_refl _) (.cells #[.slice none 0 0, .slice none 0 0, .slice none 0 0] 22)
  have b2 := b1.alloc (by simp) (.cells #[.string ⟨#[]⟩, .string ⟨#[]⟩, .string ⟨#[]⟩] 9)
  have sz := h.st.2.size
  have ln := blk_lt h.nam
  have lc := blk_lt h.cnt
  subst hW
  refine ⟨(b2.block nb ln).trans h.nam, (b2.block cb lc).trans h.cnt, ?_, ?_, World.ownsRow_nil _ _ _ _, fun _ _ => World.ownsRow_nil _ _ _ _, fun _ _ g hg => by simp [Value.ownBlock] at hg, fun _ _ _ _ _ g hg => by simp [Value.ownBlock] at hg, h.bn, h.bc, sz, by omega, by omega, by omega⟩
  · have := World.alloc_heap_new (w3.alloc (.cells #[.slice none 0 0, .slice none 0 0, .slice none 0 0] 22)) (.cells #[.string ⟨#[]⟩, .string ⟨#[]⟩, .string ⟨#[]⟩] 9)
    rw [World.size_alloc] at this; exact this
  · rw [Below.heap_alloc _ _ _ (by simp)]; exact World.alloc_heap_new w3 _
theorem sum_ne {d : Nat} (hd : d < 3) : (sumB.toList == (nX d).toList) = false := by
  have h : sumB ≠ nX d := fun q => by
    have := congrArg ByteArray.size q
    match d, hd with
    | 0, _ => exact absurd this (by decide)
    | 1, _ => exact absurd this (by decide)
    | 2, _ => exact absurd this (by decide)
  exact (Lib.bytes_beq_false_iff _ _).2 h
theorem lens_later {W W' : World} (h : LensAt W) (h0 : 0 < W.heap.size) (hb : Below W.heap.size W W') : LensAt W' := fun i hi => by
  obtain ⟨m, h1, h2, h3⟩ := h i hi
  exact ⟨m, h1, h2, (World.cell?_of_block (a := ⟨0, i, none⟩) (hb.block 0 h0)).trans h3⟩
/-- at the loop's head -/
structure LoopR (W0 W : World) (f nb cb pb tb j : Nat) (all : List PF) (P : Nat → List PF) (va : Value) (vp : Nat → Value) (t v : Nat → ByteArray) (vs : ByteArray) : Prop where
  st : St W0 f (sesF t v noneD vs false) 7 W
  ses : SesR W0.heap.size W nb cb pb tb all P va vp t
  ply : PlyOk j all P v vs
  txt : ∀ d, d < 3 → (t d).size ≤ 65716 * j
theorem LoopR.later {W0 W W' : World} {f nb cb pb tb j : Nat} {all : List PF} {P : Nat → List PF} {va : Value} {vp : Nat → Value} {t v : Nat → ByteArray} {vs : ByteArray} (h : LoopR W0 W f nb cb pb tb j all P va vp t v vs) (hb : Below W.heap.size W W') : LoopR W0 W' f nb cb pb tb j all P va vp t v vs := ⟨h.st.later hb, h.ses.later hb, h.ply, h.txt⟩
theorem LoopR.pass {W0 W : World} {f nb cb pb tb j : Nat} {all : List PF} {P : Nat → List PF} {va : Value} {vp : Nat → Value} {t v : Nat → ByteArray} {vs : ByteArray} (h : LoopR W0 W f nb cb pb tb j all P va vp t v vs) (hj : j < 25) : LoopR W0 W f nb cb pb tb (j + 1) all P va vp t v vs := ⟨h.st, h.ses, h.ply.pass hj, fun d hd => by have := h.txt d hd; omega⟩
theorem PlyOk.zero : PlyOk 0 [] (fun _ => []) (fun _ => ⟨#[48, 48, 48, 48]⟩) ⟨#[48, 48, 48, 48]⟩ := ⟨Nat.le_refl _, by omega, fun p hp => (by cases hp), fun d hd => rfl, fun d hd => dec0.symm, dec0.symm⟩

set_option maxRecDepth 100000 in
set_option maxHeartbeats 4000000 in
theorem sessions_any (L : List PF) (ao : Option Addr) (ln cap : Nat) (w : World) (hl : L.length = ln) (hrow : RowK 18 encP w ao L) (hlen : LensAt w) (h0 : 0 < w.heap.size) (hln : ln ≤ 9223372036854775807) :
    Calls Tryz.prog 3 #[.slice ao ln cap] w fun e w' => e = .returned (.bool true) ∧ Below w.heap.size w w' := by
  have HL := Lib.hid hl
  have RW := Lib.hid hrow
  have LE := Lib.hid hlen
  have H0 := Lib.hid h0
  have SA := Lib.hid (fun W => sane_any W)
  have SN := Lib.hid (fun W => st_new W)
  clear hl hrow hlen h0
  go_enter Tryz.func3, Tryz.ntmps3
  go_upto_region 3 with (first
    | (go_at_call 4; refine (SA.out _).mono ?_; rintro e w1 ⟨rfl, h1⟩; have B1 := Lib.hid h1; clear h1)
    | (go_at_call 5; refine (SN.out _).mono ?_; rintro e w2 ⟨f, rfl, h2⟩; have S2 := Lib.hid h2; clear h2))
  have BN := Lib.hid ((Below.refl w2.heap.size w2).alloc (Nat.le_refl _) (.cells #[.string (nA 0), .string (nA 1), .string (nA 2)] 9))
  have BC := Lib.hid (BN.out.alloc (by simp) (.cells #[.string (nX 0), .string (nX 1), .string (nX 2)] 9))
  have I0 := Lib.hid (show IniR w1 ((w2.alloc (.cells #[.string (nA 0), .string (nA 1), .string (nA 2)] 9)).alloc (.cells #[.string (nX 0), .string (nX 1), .string (nX 2)] 9)) f w2.heap.size (w2.heap.size + 1) (iniF 0) from
    ⟨S2.out.later BC.out, by rw [Below.heap_alloc _ _ _ (by simp)]; exact World.alloc_heap_new w2 _, by
      have := World.alloc_heap_new (w2.alloc (.cells #[.string (nA 0), .string (nA 1), .string (nA 2)] 9)) (.cells #[.string (nX 0), .string (nX 1), .string (nX 2)] 9)
      rw [World.size_alloc] at this; exact this, S2.out.2.size, by have := S2.out.2.size; omega⟩)
  go_upto_region 6 with (fail)
  obtain ⟨w3, hw3⟩ : ∃ w3, w3 = (w2.alloc (.cells #[.string (nA 0), .string (nA 1), .string (nA 2)] 9)).alloc (.cells #[.string (nX 0), .string (nX 1), .string (nX 2)] 9) := ⟨_, rfl⟩
  obtain ⟨nb, hnb⟩ : ∃ nb, nb = w2.heap.size := ⟨_, rfl⟩
  obtain ⟨cb, hcb⟩ : ∃ cb, cb = w2.heap.size + 1 := ⟨_, rfl⟩
  rw [← hw3, ← hcb, ← hnb] at I0
  show Code.wp _ _ _ _ ((w2.alloc (.cells #[.string (nA 0), .string (nA 1), .string (nA 2)] 9)).alloc (.cells #[.string (nX 0), .string (nX 1), .string (nX 2)] 9))
  rw [← hw3, ← hcb, ← hnb]
  clear hw3 hnb hcb S2 BN BC SA SN
  go_loopg [7] 3 (fun gh v7 wr => ∃ (j : Nat), v7 = .int .i64 j ∧ j ≤ 3 ∧ 3 - j ≤ gh ∧ Hid (IniR w1 wr f nb cb (iniF j)))
  case atStart => exact ⟨0, rfl, by omega, by omega, I0⟩
  case round =>
    obtain ⟨j, rfl, hj, hg, HI⟩ := hrel
    clear I0
    by_cases hlt : j < 3
    · have hltz : (j : Int) < 3 := by omega
      go_upto_region 8 with (fail)
      go_cut [53] (fun t wc => t = .bool false ∧ IniR w1 wc f nb cb (iniF (j + 1)))
      case first =>
        obtain ⟨hso, hpo, hpf⟩ := ini_set (d := j) hlt
        have HSO := Lib.hid hso
        have HPO := Lib.hid hpo
        have HPF := Lib.hid hpf
        have cN := cellN HI.out.nam hlt
        have HLT := Lib.hid hlt
        have HL9 := Lib.hid (show (iniF j).length ≤ 6 from by
          match j, hlt with
          | 0, _ => exact Nat.le_of_ble_eq_true rfl
          | 1, _ => exact Nat.le_of_ble_eq_true rfl
          | 2, _ => exact Nat.le_of_ble_eq_true rfl)
        clear hso hpo hpf
        obtain ⟨nj, hnj⟩ : ∃ nj, nj = nA j := ⟨_, rfl⟩
        obtain ⟨xj, hxj⟩ : ∃ xj, xj = nX j := ⟨_, rfl⟩
        have HNJ := Lib.hid hnj
        have HXJ := Lib.hid hxj
        rw [← hnj] at cN HSO HPO HPF
        rw [← hxj] at HPO HPF
        clear hnj hxj
        have KP := Lib.hid (show ∀ W, Mv w1.heap.size wr W → W.cell? ⟨nb, j, none⟩ = some (.string nj) ∧ W.cell? ⟨cb, j, none⟩ = some (.string xj) from fun W hW => by
          have k4 := HI.out.blk hW
          exact ⟨by rw [HNJ.out]; exact cellN k4.1 HLT.out, by rw [HXJ.out]; exact cellN k4.2 HLT.out⟩)
        have jz : (0 : Int) ≤ (j : Int) := by omega
        clear cN
        refine wp_region_held_drew (S := fun W => W.cell? ⟨nb, j, none⟩ = some (.string nj) ∧ W.cell? ⟨cb, j, none⟩ = some (.string xj)) (by kernel_rfl) (KP.out _ (Mv.of_below (Below.refl _ wr).drew)) (fun hHeld => ?_)
        refine hye (i := 0) (v := ?v1) hHeld ?h1 ?r1
        case h1 => (intro w hSw; (try dsimp only at hSw); (first | (go_simp; done) | (go_simp; with_reducible rfl)))
        try simp only [Act.put, List.getElem_toArray, List.getElem_cons_succ, List.getElem_cons_zero, List.setIfInBounds_toArray, List.set_cons_zero, List.set_cons_succ]
        refine hye (i := 1) (v := ?v2) hHeld ?h2 ?r2
        case h2 => (intro w hSw; (try dsimp only at hSw); (first | (go_simp; done) | (go_simp; with_reducible rfl)))
        try simp only [Act.put, List.getElem_toArray, List.getElem_cons_succ, List.getElem_cons_zero, List.setIfInBounds_toArray, List.set_cons_zero, List.set_cons_succ]
        refine hye (i := 2) (v := ?v3) hHeld ?h3 ?r3
        case h3 => (intro w hSw; (try dsimp only at hSw); (first | (go_simp; done) | (go_simp; with_reducible rfl)))
        try simp only [Act.put, List.getElem_toArray, List.getElem_cons_succ, List.getElem_cons_zero, List.setIfInBounds_toArray, List.set_cons_zero, List.set_cons_succ]
        refine hye (i := 3) (v := ?v4) hHeld ?h4 ?r4
        case h4 => (intro w hSw; (try dsimp only at hSw); (first | (go_simp; done) | (go_simp; with_reducible rfl)))
        try simp only [Act.put, List.getElem_toArray, List.getElem_cons_succ, List.getElem_cons_zero, List.setIfInBounds_toArray, List.set_cons_zero, List.set_cons_succ]
        refine hye (i := 4) (v := ?v5) hHeld ?h5 ?r5
        case h5 => (intro w hSw; (try dsimp only at hSw); (first | (go_simp; done) | (go_simp; with_reducible rfl)))
        try simp only [Act.put, List.getElem_toArray, List.getElem_cons_succ, List.getElem_cons_zero, List.setIfInBounds_toArray, List.set_cons_zero, List.set_cons_succ]
        refine wpAnyH_ready (rs := [5]) (by kernel_rfl) (by simp) ?_
        refine AllReadyH.cons (o := _) rfl (fun K hK => ?_) AllReadyH.nil
        go_simp
        go_at_call 6
        (with_reducible refine (st_set0 (HI.out.st.later ((Below.refl _ wr).drew)) (by have := HL9.out; omega) nj ⟨#[]⟩ HSO.out).mono ?_)
        rintro e w4 ⟨rfl, hs, hm⟩
        have S4 := Lib.hid hs
        have M4 := Lib.hid (show Mv w1.heap.size wr w4 from (Mv.of_below ((Below.refl _ wr).drew)).trans hm)
        clear hs hm
        clear hHeld
        go_wp2_with fail
        refine hK.out _ _ (KP.out _ M4.out) (fun hHeld => ?_)
        clear hK K
        try simp only [Act.put, List.getElem_toArray, List.getElem_cons_succ, List.getElem_cons_zero, List.setIfInBounds_toArray, List.set_cons_zero, List.set_cons_succ]
        refine hye (i := 6) (v := ?v6) hHeld ?h6 ?r6
        case h6 => (intro w hSw; (try dsimp only at hSw); (first | (go_simp; done) | (go_simp; with_reducible rfl)))
        try simp only [Act.put, List.getElem_toArray, List.getElem_cons_succ, List.getElem_cons_zero, List.setIfInBounds_toArray, List.set_cons_zero, List.set_cons_succ]
        refine hye (i := 7) (v := ?v7) hHeld ?h7 ?r7
        case h7 => (intro w hSw; (try dsimp only at hSw); (first | (go_simp; done) | (go_simp; with_reducible rfl)))
        try simp only [Act.put, List.getElem_toArray, List.getElem_cons_succ, List.getElem_cons_zero, List.setIfInBounds_toArray, List.set_cons_zero, List.set_cons_succ]
        refine hye (i := 8) (v := ?v8) hHeld ?h8 ?r8
        case h8 => (intro w hSw; (try dsimp only at hSw); (first | (go_simp; done) | (go_simp; with_reducible rfl)))
        try simp only [Act.put, List.getElem_toArray, List.getElem_cons_succ, List.getElem_cons_zero, List.setIfInBounds_toArray, List.set_cons_zero, List.set_cons_succ]
        refine hye (i := 9) (v := ?v9) hHeld ?h9 ?r9
        case h9 => (intro w hSw; (try dsimp only at hSw); (first | (go_simp; done) | (go_simp; with_reducible rfl)))
        try simp only [Act.put, List.getElem_toArray, List.getElem_cons_succ, List.getElem_cons_zero, List.setIfInBounds_toArray, List.set_cons_zero, List.set_cons_succ]
        refine hye (i := 10) (v := ?v10) hHeld ?h10 ?r10
        case h10 => (intro w hSw; (try dsimp only at hSw); (first | (go_simp; done) | (go_simp; with_reducible rfl)))
        try simp only [Act.put, List.getElem_toArray, List.getElem_cons_succ, List.getElem_cons_zero, List.setIfInBounds_toArray, List.set_cons_zero, List.set_cons_succ]
        refine hye (i := 11) (v := ?v11) hHeld ?h11 ?r11
        case h11 => (intro w hSw; (try dsimp only at hSw); (first | (go_simp; done) | (go_simp; with_reducible rfl)))
        try simp only [Act.put, List.getElem_toArray, List.getElem_cons_succ, List.getElem_cons_zero, List.setIfInBounds_toArray, List.set_cons_zero, List.set_cons_succ]
        refine hye (i := 12) (v := ?v12) hHeld ?h12 ?r12
        case h12 => (intro w hSw; (try dsimp only at hSw); (first | (go_simp; done) | (go_simp; with_reducible rfl)))
        try simp only [Act.put, List.getElem_toArray, List.getElem_cons_succ, List.getElem_cons_zero, List.setIfInBounds_toArray, List.set_cons_zero, List.set_cons_succ]
        refine hye (i := 13) (v := ?v13) hHeld ?h13 ?r13
        case h13 => (intro w hSw; (try dsimp only at hSw); (first | (go_simp; done) | (go_simp; with_reducible rfl)))
        try simp only [Act.put, List.getElem_toArray, List.getElem_cons_succ, List.getElem_cons_zero, List.setIfInBounds_toArray, List.set_cons_zero, List.set_cons_succ]
        refine hye (i := 14) (v := ?v14) hHeld ?h14 ?r14
        case h14 => (intro w hSw; (try dsimp only at hSw); (first | (go_simp; done) | (go_simp; with_reducible rfl)))
        try simp only [Act.put, List.getElem_toArray, List.getElem_cons_succ, List.getElem_cons_zero, List.setIfInBounds_toArray, List.set_cons_zero, List.set_cons_succ]
        refine hye (i := 15) (v := ?v15) hHeld ?h15 ?r15
        case h15 => (intro w hSw; (try dsimp only at hSw); (first | (go_simp; done) | (go_simp; with_reducible rfl)))
        try simp only [Act.put, List.getElem_toArray, List.getElem_cons_succ, List.getElem_cons_zero, List.setIfInBounds_toArray, List.set_cons_zero, List.set_cons_succ]
        refine hye (i := 16) (v := ?v16) hHeld ?h16 ?r16
        case h16 => (intro w hSw; (try dsimp only at hSw); (first | (go_simp; done) | (go_simp; with_reducible rfl)))
        try simp only [Act.put, List.getElem_toArray, List.getElem_cons_succ, List.getElem_cons_zero, List.setIfInBounds_toArray, List.set_cons_zero, List.set_cons_succ]
        refine wpAnyH_ready (rs := [17]) (by kernel_rfl) (by simp) ?_
        refine AllReadyH.cons (o := _) rfl (fun K hK => ?_) AllReadyH.nil
        go_simp
        clear hHeld
        go_wp2_with fail
        refine hK.out _ _ (KP.out _ (M4.out.same ((Below.refl _ w4).alloc (Nat.le_refl _) _))) (fun hHeld => ?_)
        clear hK K
        try simp only [Act.put, List.getElem_toArray, List.getElem_cons_succ, List.getElem_cons_zero, List.setIfInBounds_toArray, List.set_cons_zero, List.set_cons_succ]
        refine wpAnyH_ready (rs := [18]) (by kernel_rfl) (by simp) ?_
        refine AllReadyH.cons (o := _) rfl (fun K hK => ?_) AllReadyH.nil
        go_simp
        go_at_call 8
        (with_reducible refine (node_any _ _ 1 1 _).mono ?_)
        rintro e w6 ⟨rfl, h6⟩
        have R6 := Lib.hid (row1 w4 w6 nj h6)
        have B6 := Lib.hid (show Below w4.heap.size w4 w6 from ((Below.refl _ w4).alloc (Nat.le_refl _) _).trans (h6.mono (by simp)))
        clear h6
        clear hHeld
        go_wp2_with fail
        refine hK.out _ _ (KP.out _ (M4.out.same B6.out)) (fun hHeld => ?_)
        clear hK K
        try simp only [Act.put, List.getElem_toArray, List.getElem_cons_succ, List.getElem_cons_zero, List.setIfInBounds_toArray, List.set_cons_zero, List.set_cons_succ]
        refine wpAnyH_ready (rs := [19]) (by kernel_rfl) (by simp) ?_
        refine AllReadyH.cons (o := _) rfl (fun K hK => ?_) AllReadyH.nil
        go_simp
        go_at_call 9
        (with_reducible refine (decimal0 _).mono ?_)
        rintro e w7 ⟨rfl, h7⟩
        have R7 := Lib.hid (R6.out.later h7)
        have B7 := Lib.hid (B6.out.trans (h7.mono B6.out.size))
        clear h7
        clear hHeld
        go_wp2_with fail
        refine hK.out _ _ (KP.out _ (M4.out.same B7.out)) (fun hHeld => ?_)
        clear hK K
        try simp only [Act.put, List.getElem_toArray, List.getElem_cons_succ, List.getElem_cons_zero, List.setIfInBounds_toArray, List.set_cons_zero, List.set_cons_succ]
        refine wpAnyH_ready (rs := [20]) (by kernel_rfl) (by simp) ?_
        refine AllReadyH.cons (o := _) rfl (fun K hK => ?_) AllReadyH.nil
        go_simp
        go_at_call 7
        (with_reducible refine (st_put0 (S4.out.later B7.out) (by have := HL9.out; omega) xj ⟨#[48, 48, 48, 48]⟩ _ 1 1 [nj] rfl (by decide) R7.out HPO.out).mono ?_)
        rintro e w8 ⟨rfl, hs, hm⟩
        have S8 := Lib.hid hs
        have M8 := Lib.hid (show Mv w1.heap.size wr w8 from (M4.out.same B7.out).trans hm)
        clear hs hm
        clear hHeld
        go_wp2_with fail
        refine hK.out _ _ (KP.out _ M8.out) (fun hHeld => ?_)
        clear hK K
        try simp only [Act.put, List.getElem_toArray, List.getElem_cons_succ, List.getElem_cons_zero, List.setIfInBounds_toArray, List.set_cons_zero, List.set_cons_succ]
        refine hye (i := 21) (v := ?v17) hHeld ?h17 ?r17
        case h17 => (intro w hSw; (try dsimp only at hSw); (first | (go_simp; done) | (go_simp; with_reducible rfl)))
        try simp only [Act.put, List.getElem_toArray, List.getElem_cons_succ, List.getElem_cons_zero, List.setIfInBounds_toArray, List.set_cons_zero, List.set_cons_succ]
        refine hye (i := 22) (v := ?v18) hHeld ?h18 ?r18
        case h18 => (intro w hSw; (try dsimp only at hSw); (first | (go_simp; done) | (go_simp; with_reducible rfl)))
        try simp only [Act.put, List.getElem_toArray, List.getElem_cons_succ, List.getElem_cons_zero, List.setIfInBounds_toArray, List.set_cons_zero, List.set_cons_succ]
        refine wpAnyH_done (by kernel_rfl) ?_ _
        go_wp2_with fail
        go_meet
        refine ⟨rfl, HI.out.turn ?_ M8.out⟩
        have s8 := S8.out
        rw [HPF.out] at s8
        exact st_seven s8 rfl
      obtain ⟨rfl, hI⟩ := hcut
      obtain ⟨wc', rfl⟩ : ∃ wc' : World, wc' = wc := ⟨_, rfl⟩
      have I5 := Lib.hid hI
      clear hI
      go_wp2_with fail
      go_roundg (3 - (j + 1))
      case measure => omega
      case rel => exact ⟨j + 1, by go_num, by omega, by omega, I5⟩
    · have hltz : ¬ (j : Int) < 3 := by omega
      obtain rfl : j = 3 := by omega
      obtain ⟨hpo, hpf⟩ := ini_sum
      have HPO := Lib.hid (show putOk (iniF 3) ⟨#[115, 117, 109]⟩ [nX 0, nX 1, nX 2] = true from hpo)
      have HPF := Lib.hid (show putF (iniF 3) ⟨#[115, 117, 109]⟩ [nX 0, nX 1, nX 2] ⟨#[48, 48, 48, 48]⟩ = _ from hpf)
      clear hpo hpf
      go_upto_region 10 with (fail)
      go_cut [59] from 54 to 59 (fun t wc => t = .bool false ∧ IniR w1 wc f nb cb (sesF (fun _ => ⟨#[]⟩) (fun _ => ⟨#[48, 48, 48, 48]⟩) noneD ⟨#[48, 48, 48, 48]⟩ false))
      case first =>
        have R0 := Lib.hid (RowK_lit wr [nX 0, nX 1, nX 2])
        go_wp2_with (first
          | (go_at_call 8; (with_reducible refine (node_any _ _ 3 3 _).mono ?_); rintro e w6 ⟨rfl, h6⟩; have R6 := Lib.hid (R0.out.later h6); have B6 := Lib.hid (show Below wr.heap.size wr w6 from ((Below.refl _ wr).alloc (Nat.le_refl _) _).trans (h6.mono (by simp))); clear h6 R0)
          | (go_at_call 9; (with_reducible refine (decimal0 _).mono ?_); rintro e w7 ⟨rfl, h7⟩; have R7 := Lib.hid (R6.out.later h7); have B7 := Lib.hid (B6.out.trans (h7.mono B6.out.size)); clear h7)
          | (go_at_call 7; (with_reducible refine (st_put0 (HI.out.st.later B7.out) (by decide) ⟨#[115, 117, 109]⟩ ⟨#[48, 48, 48, 48]⟩ _ 3 3 [nX 0, nX 1, nX 2] rfl (by decide) R7.out HPO.out).mono ?_); rintro e w8 ⟨rfl, hs, hm⟩; have S8 := Lib.hid hs; have M8 := Lib.hid (show Mv w1.heap.size wr w8 from (Mv.of_below B7.out).trans hm); clear hs hm))
        go_meet
        refine ⟨rfl, HI.out.turn ?_ M8.out⟩
        have s8 := S8.out
        rw [HPF.out] at s8
        exact st_seven s8 rfl
      obtain ⟨rfl, hI⟩ := hcut
      obtain ⟨w9, rfl⟩ : ∃ w9 : World, w9 = wc := ⟨_, rfl⟩
      have I9 := Lib.hid hI
      have L9 := Lib.hid (show LoopR w1 ((w9.alloc (.cells #[.slice none 0 0, .slice none 0 0, .slice none 0 0] 22)).alloc (.cells #[.string ⟨#[]⟩, .string ⟨#[]⟩, .string ⟨#[]⟩] 9)) f nb cb w9.heap.size (w9.heap.size + 1) 0 [] (fun _ => []) (.slice none 0 0) (fun _ => .slice none 0 0) (fun _ => ⟨#[]⟩) (fun _ => ⟨#[48, 48, 48, 48]⟩) ⟨#[48, 48, 48, 48]⟩ from
        ⟨(st_seven I9.out.st rfl).later (((Below.refl _ w9).alloc (Nat.le_refl _) _).alloc (by simp) _), I9.out.ses rfl, PlyOk.zero, fun d hd => Nat.zero_le _⟩)
      clear hI HI HPO HPF I9
      have mk34 := mk_plays w9
      have mk26 := mk_texts (w9.alloc (.cells #[.slice none 0 0, .slice none 0 0, .slice none 0 0] 22))
      rw [World.size_alloc] at mk26
      go_upto_region 16 with (fail)
      clear mk34 mk26
      obtain ⟨pb, hpb⟩ : ∃ b, b = w9.heap.size := ⟨_, rfl⟩
      obtain ⟨tb, htb⟩ : ∃ b, b = w9.heap.size + 1 := ⟨_, rfl⟩
      obtain ⟨w10, hw10⟩ : ∃ w, w = (w9.alloc (.cells #[.slice none 0 0, .slice none 0 0, .slice none 0 0] 22)).alloc (.cells #[.string ⟨#[]⟩, .string ⟨#[]⟩, .string ⟨#[]⟩] 9) := ⟨_, rfl⟩
      rw [← hw10, ← htb, ← hpb] at L9
      show Code.wp _ _ _ _ ((w9.alloc (.cells #[.slice none 0 0, .slice none 0 0, .slice none 0 0] 22)).alloc (.cells #[.string ⟨#[]⟩, .string ⟨#[]⟩, .string ⟨#[]⟩] 9))
      rw [← hw10, ← htb, ← hpb]
      clear hw10 hpb htb
      go_loopg [10, 11] 25 (fun gh v10 v11 wr => ∃ (j : Nat) (all : List PF) (P : Nat → List PF) (vp : Nat → Value) (t v : Nat → ByteArray) (vs : ByteArray), v11 = .int .i64 j ∧ j ≤ ln ∧ 25 - j ≤ gh ∧ Hid (LoopR w1 wr f nb cb pb tb j all P v10 vp t v vs))
      case atStart => exact ⟨0, [], _, _, _, _, _, rfl, by omega, by omega, L9⟩
      case round =>
        obtain ⟨j, all, P, vp, t, v, vs, rfl, hj, hg, HL2⟩ := hrel
        clear L9
        have BW := Lib.hid (B1.out.trans (HL2.out.st.2.mono B1.out.size))
        by_cases hlt : j < ln ∧ j < 25
        · obtain ⟨hjl, j25n⟩ := hlt
          have jl : (j : Int) < (ln : Int) := by omega
          have j25 : (j : Int) < 25 := by omega
          have j0 : (0 : Int) ≤ (j : Int) := by omega
          obtain ⟨p, hp⟩ : ∃ p, L[j]? = some p := ⟨_, List.getElem?_eq_getElem (by rw [HL.out]; exact hjl)⟩
          obtain ⟨b, off, rfl, hbl, hft⟩ := ft_row RW.out hp
          have FT := Lib.hid (hft.later hbl BW.out)
          have LD := Lib.hid (ld38 FT.out)
          have KS := Lib.hid (show ∀ W, Below w.heap.size w W → FtAt W ⟨b, off + j * 18, none⟩ p from fun W hW => hft.later hbl hW)
          have C6 := Lib.hid (show ∀ W, Below wr.heap.size wr W → W.cell? ⟨b, off + j * 18 + 6, none⟩ = some (.int .i64 (p.n 6)) from fun W hW => KS.out W (BW.out.trans (hW.mono BW.out.size)) 6 _ rfl)
          have C0 := Lib.hid (show ∀ W, Below wr.heap.size wr W → W.cell? ⟨b, off + j * 18, none⟩ = some (.int .i64 (p.n 0)) from fun W hW => KS.out W (BW.out.trans (hW.mono BW.out.size)) 0 _ rfl)
          obtain ⟨eb, heb, hen⟩ := encode_at p
          clear hft
          rcases eb with _ | _
          · have EN := Lib.hid (show ∀ W, Calls Tryz.prog 10 #[.agg (encP p).toArray] W (fun e w' => e = .returned (.tuple #[.string ⟨#[]⟩, .int .i64 50]) ∧ Below W.heap.size W w') from hen)
            obtain ⟨ag, hag⟩ : ∃ ag, ag = (encP p).toArray := ⟨_, rfl⟩
            rw [← hag] at LD EN
            clear hag heb hen hp
            go_wp2_with (first
              | ((with_reducible refine wpList_loadL ?_ LD.out ?_); focus rfl)
              | (go_at_call 10; (with_reducible refine (EN.out _).mono ?_); rintro e w4 ⟨rfl, h4⟩; have L4 := Lib.hid (HL2.out.later h4); have c6 := C6.out _ h4; have c0 := C0.out _ h4; clear h4))
            go_roundg (25 - (j + 1))
            case measure => omega
            case rel => exact ⟨j + 1, all, P, vp, t, v, vs, by go_num, by omega, by omega, L4.out.pass j25n⟩
          rcases Classical.em (¬ p.n 0 = 1) with hn0 | hn0
          · have EN := Lib.hid (show ∀ W, Calls Tryz.prog 10 #[.agg (encP p).toArray] W (fun e w' => e = .returned (.tuple #[.string (encF p), .int .i64 0]) ∧ Below W.heap.size W w') from hen)
            obtain ⟨ag, hag⟩ : ∃ ag, ag = (encP p).toArray := ⟨_, rfl⟩
            rw [← hag] at LD EN
            clear hag heb hen hp
            go_wp2_with (first
              | ((with_reducible refine wpList_loadL ?_ LD.out ?_); focus rfl)
              | (go_at_call 10; (with_reducible refine (EN.out _).mono ?_); rintro e w4 ⟨rfl, h4⟩; have L4 := Lib.hid (HL2.out.later h4); have c6 := C6.out _ h4; have c0 := C0.out _ h4; clear h4))
            go_roundg (25 - (j + 1))
            case measure => omega
            case rel => exact ⟨j + 1, all, P, vp, t, v, vs, by go_num, by omega, by omega, L4.out.pass j25n⟩
          have hn0 : p.n 0 = 1 := Classical.not_not.1 hn0
          have hv6 := valid6 (heb hn0).symm
          rcases Classical.em (¬ p.n 6 ≤ 3) with hn6 | hn6
          · have EN := Lib.hid (show ∀ W, Calls Tryz.prog 10 #[.agg (encP p).toArray] W (fun e w' => e = .returned (.tuple #[.string (encF p), .int .i64 0]) ∧ Below W.heap.size W w') from hen)
            obtain ⟨ag, hag⟩ : ∃ ag, ag = (encP p).toArray := ⟨_, rfl⟩
            rw [← hag] at LD EN
            clear hag heb hen hp
            go_wp2_with (first
              | ((with_reducible refine wpList_loadL ?_ LD.out ?_); focus rfl)
              | (go_at_call 10; (with_reducible refine (EN.out _).mono ?_); rintro e w4 ⟨rfl, h4⟩; have L4 := Lib.hid (HL2.out.later h4); have c6 := C6.out _ h4; have c0 := C0.out _ h4; clear h4))
            go_roundg (25 - (j + 1))
            case measure => omega
            case rel => exact ⟨j + 1, all, P, vp, t, v, vs, by go_num, by omega, by omega, L4.out.pass j25n⟩
          have hn6 : p.n 6 ≤ 3 := Classical.not_not.1 hn6
          obtain ⟨d, hd, hp6⟩ : ∃ d : Nat, d < 3 ∧ p.n 6 = (d : Int) + 1 := ⟨(p.n 6 - 1).toNat, by omega, by omega⟩
          have EN := Lib.hid (show ∀ W, Calls Tryz.prog 10 #[.agg (encP p).toArray] W (fun e w' => e = .returned (.tuple #[.string (encF p), .int .i64 0]) ∧ Below W.heap.size W w') from hen)
          have HN6 := Lib.hid hp6
          have HN0 := Lib.hid hn0
          have HD := Lib.hid hd
          have HEF := Lib.hid (encF_pos hn0)
          have HEL := Lib.hid (encF_len p)
          have HTX := Lib.hid HL2.out.txt
          rw [hn0] at C0
          rw [hp6] at C6
          have dz0 : (0 : Int) ≤ (d : Int) := by omega
          have dz2 : (d : Int) ≤ 2 := by omega
          have dz3 : (d : Int) < 3 := by omega
          have dw : IntKind.wrap .i64 ((d : Int) + 1 - 1) = (d : Int) := by rw [IntKind.wrap_i64]; omega
          clear hn6 hv6 hp6 hn0 heb hen hp FT
          have BS := Lib.hid (fun W => bsl22 p W)
          have C5 := Lib.hid (fun W => cells_at W (encP p) 38 W.heap.size rfl)
          have LDS := Lib.hid (show ∀ W, Below w.heap.size w W → (Instr.loadAt 38 (.pointer (some ⟨b, off + j * 18, none⟩))).run Tryz.prog W = .ok (.agg (encP p).toArray) W from fun W hW => ld38 (KS.out W hW))
          obtain ⟨ag, hag⟩ : ∃ ag, ag = (encP p).toArray := ⟨_, rfl⟩
          rw [← hag] at LD EN BS C5 LDS
          obtain ⟨sp, hsp⟩ : ∃ s, s = encF p := ⟨_, rfl⟩
          rw [← hsp] at EN HEF HEL
          clear hag hsp
          go_upto_region 21 with (first
            | ((with_reducible refine wpList_loadL ?_ LD.out ?_); focus rfl)
            | (go_at_call 10; (with_reducible refine (EN.out _).mono ?_); rintro e w4 ⟨rfl, h4⟩; have L4 := Lib.hid (HL2.out.later h4); have c6 := C6.out _ h4; have c0 := C0.out _ h4; have B4 := Lib.hid (BW.out.trans (h4.mono BW.out.size)); clear h4))
          obtain ⟨i0, hi, hz0, hz1, hz2⟩ := info_parts Tryz.infoFac
          have L5 := Lib.hid (L4.out.later ((Below.refl w4.heap.size w4).alloc (Nat.le_refl _) (.cells ag 38)))
          have HA25 := Lib.hid (show all.length ≤ 25 from by have := HL2.out.ply.len; omega)
          have PL := Lib.hid HL2.out.ply
          clear LD EN C6 C0 HL2 L4 c6 c0
          go_upto_region 22 with (first
            | ((with_reducible refine wpList_loadL ?_ (LDS.out _ B4.out) ?_); focus rfl)
            | ((with_reducible refine wpList_buildSlice1L ?_ (BS.out _) ?_); focus rfl)
            | (at_builtin; refine wpList_append_new rfl (.tmp 104) (.tmp 109) 22 rfl w1.heap.size 38 i0 _ 18 152 Tryz.underlying22 hi hz0 hz1 hz2 rfl (by decide) _ _ _ rfl L5.out.ses.allO ⟨w4.heap.size, 0, none⟩ 1 1 (encP p) rfl rfl (C5.out _) (encP_one p) (by have := HA25.out; unfold maxLen; omega) (by have := HA25.out; omega) L5.out.st.2.size _ rfl ?_; intro v7 w7 own gr hloc; have S7 := Lib.hid (L5.out.st.grownT L5.out.ses.allO (Nat.le_refl _) (by decide) (by decide) (by decide) gr); have R7 := Lib.hid (L5.out.ses.appAll own gr hloc); clear own gr hloc))
          clear L5
          have B7 := Lib.hid (B1.out.trans (S7.out.2.mono B1.out.size))
          have HPD := Lib.hid (PL.out.lenP HD.out)
          go_cut [] from 111 to 123 (fun wc => ∃ vp', St w1 f (sesF t v noneD vs false) 7 wc ∧ SesR w1.heap.size wc nb cb pb tb (all ++ [p]) (upd P d (P d ++ [p])) v7 vp' t)
          case first =>
            have A8 := Lib.hid ((Below.refl w7.heap.size w7).drew.alloc (Nat.le_refl _) (.cells ag 38))
            have S8 := Lib.hid (S7.out.later A8.out)
            have R8 := Lib.hid (R7.out.later A8.out)
            have K7 := Lib.hid (LDS.out _ (B7.out.trans ((Below.refl _ w7).drew.mono B7.out.size)))
            have K8 := Lib.hid (LDS.out _ (B7.out.trans (A8.out.mono B7.out.size)))
            have LP7 := Lib.hid (ld22 (W := w7.drew) (R7.out.plsC HD.out))
            have LP8 := Lib.hid (ld22 (R8.out.plsC HD.out))
            have FIN := Lib.hid (show ∀ (v9 : Value) (w9 : World), w9.ownsRow w1.heap.size 38 18 v9 ((P d).length + 1) ((P d).flatMap encP ++ encP p) → (w7.drew.alloc (.cells ag 38)).grownBy w9 (vp d).ownBlock → (∀ g, v9.ownBlock = some g → (vp d).ownBlock = some g ∨ (w7.drew.alloc (.cells ag 38)).heap.size ≤ g) →
                (∃ ao cap, v9 = .slice ao ((P d).length + 1) cap) ∧ w9.frozen? ⟨pb, d, none⟩ = false ∧ (∃ u, w9.cell? ⟨pb, d, none⟩ = some u) ∧ (Instr.loadAt 38 (.pointer (some ⟨b, off + j * 18, none⟩))).run Tryz.prog w9 = .ok (.agg ag) w9 ∧ (Instr.loadAt 38 (.pointer (some ⟨b, off + j * 18, none⟩))).run Tryz.prog (w9.setCell ⟨pb, d, none⟩ v9) = .ok (.agg ag) (w9.setCell ⟨pb, d, none⟩ v9) ∧
                (∃ vp', St w1 f (sesF t v noneD vs false) 7 (w9.setCell ⟨pb, d, none⟩ v9) ∧ SesR w1.heap.size (w9.setCell ⟨pb, d, none⟩ v9) nb cb pb tb (all ++ [p]) (upd P d (P d ++ [p])) v7 vp' t) from fun v9 w9 own gr hloc => by
              have hpl := R8.out.plsG HD.out gr
              have s9 := S8.out.grownT (R8.out.row d HD.out) (Nat.le_refl _) (by decide) (by decide) (by decide) gr
              have s10 := s9.turnT (o := d) hpl R8.out.bp (by decide) (by decide) (by decide) v9
              refine ⟨owns_slice own, frz_blk hpl, ?_, LDS.out _ (B1.out.trans (s9.2.mono B1.out.size)), LDS.out _ (B1.out.trans (s10.2.mono B1.out.size)), upd vp d v9, s10, R8.out.appPly HD.out own gr hloc⟩
              match d, HD.out with
              | 0, _ => exact ⟨_, cell_blk hpl rfl⟩
              | 1, _ => exact ⟨_, cell_blk hpl rfl⟩
              | 2, _ => exact ⟨_, cell_blk hpl rfl⟩)
            obtain ⟨vd, hvd⟩ : ∃ vd, vd = vp d := ⟨_, rfl⟩
            have HVD := Lib.hid hvd
            have OWN := Lib.hid (R8.out.row d HD.out)
            rw [← hvd] at LP7 LP8 FIN OWN
            clear hvd
            refine wp_region_held_drew (S := fun W => (Instr.loadAt 38 (.pointer (some ⟨b, off + j * 18, none⟩))).run Tryz.prog W = .ok (.agg ag) W) (by kernel_rfl) K7.out (fun hHeld => ?_)
            refine hye (i := 0) (v := ?v19) hHeld ?h19 ?r19
            case h19 => (intro w hSw; (try dsimp only at hSw); (first | (go_simp; done) | (go_simp; with_reducible rfl)))
            try simp only [Act.put, List.getElem_toArray, List.getElem_cons_succ, List.getElem_cons_zero, List.setIfInBounds_toArray, List.set_cons_zero, List.set_cons_succ]
            refine hye (i := 1) (v := ?v20) hHeld ?h20 ?r20
            case h20 => (intro w hSw; (try dsimp only at hSw); (first | (go_simp; done) | (go_simp; with_reducible rfl)))
            try simp only [Act.put, List.getElem_toArray, List.getElem_cons_succ, List.getElem_cons_zero, List.setIfInBounds_toArray, List.set_cons_zero, List.set_cons_succ]
            refine hye (i := 2) (v := ?v21) hHeld ?h21 ?r21
            case h21 => (intro w hSw; (try dsimp only at hSw); (first | (go_simp; done) | (go_simp; with_reducible rfl)))
            try simp only [Act.put, List.getElem_toArray, List.getElem_cons_succ, List.getElem_cons_zero, List.setIfInBounds_toArray, List.set_cons_zero, List.set_cons_succ]
            refine hye (i := 3) (v := ?v22) hHeld ?h22 ?r22
            case h22 => (intro w hSw; (try dsimp only at hSw); (first | (go_simp; done) | (go_simp; with_reducible rfl)))
            try simp only [Act.put, List.getElem_toArray, List.getElem_cons_succ, List.getElem_cons_zero, List.setIfInBounds_toArray, List.set_cons_zero, List.set_cons_succ]
            refine hye (i := 4) (v := ?v23) hHeld ?h23 ?r23
            case h23 => (intro w hSw; (try dsimp only at hSw); (first | (go_simp; done) | (go_simp; with_reducible rfl)))
            try simp only [Act.put, List.getElem_toArray, List.getElem_cons_succ, List.getElem_cons_zero, List.setIfInBounds_toArray, List.set_cons_zero, List.set_cons_succ]
            refine hye (i := 6) (v := ?v24) hHeld ?h24 ?r24
            case h24 => (intro w hSw; (try dsimp only at hSw); (first | (go_simp; done) | (go_simp; with_reducible rfl)))
            try simp only [Act.put, List.getElem_toArray, List.getElem_cons_succ, List.getElem_cons_zero, List.setIfInBounds_toArray, List.set_cons_zero, List.set_cons_succ]
            refine hye (i := 7) (v := ?v25) hHeld ?h25 ?r25
            case h25 => (intro w hSw; (try dsimp only at hSw); (first | (go_simp; done) | (go_simp; with_reducible rfl)))
            try simp only [Act.put, List.getElem_toArray, List.getElem_cons_succ, List.getElem_cons_zero, List.setIfInBounds_toArray, List.set_cons_zero, List.set_cons_succ]
            refine hye (i := 8) (v := ?v26) hHeld ?h26 ?r26
            case h26 => (intro w hSw; (try dsimp only at hSw); (first | (go_simp; done) | (go_simp; with_reducible rfl)))
            try simp only [Act.put, List.getElem_toArray, List.getElem_cons_succ, List.getElem_cons_zero, List.setIfInBounds_toArray, List.set_cons_zero, List.set_cons_succ]
            refine hyl (i := 9) hHeld (fun w hw => hw) ?_
            try simp only [Act.put, List.getElem_toArray, List.getElem_cons_succ, List.getElem_cons_zero, List.setIfInBounds_toArray, List.set_cons_zero, List.set_cons_succ]
            refine wpAnyH_ready (rs := [5, 10]) (by kernel_rfl) (by simp) ?_
            refine AllReadyH.cons (o := _) rfl (fun K hK => ?_) (AllReadyH.cons (o := _) rfl (fun K hK => ?_) AllReadyH.nil)
            · clear hHeld
              refine step_ld (by rfl) rfl rfl LP7.out ?_
              refine hK.out _ _ (K7.out) (fun hHeld => ?_)
              clear hK K
              try simp only [Act.put, List.getElem_toArray, List.getElem_cons_succ, List.getElem_cons_zero, List.setIfInBounds_toArray, List.set_cons_zero, List.set_cons_succ]
              refine wpAnyH_ready (rs := [10]) (by kernel_rfl) (by simp) ?_
              refine AllReadyH.cons (o := _) rfl (fun K hK => ?_) AllReadyH.nil
              clear hHeld
              refine step_bs (by rfl) rfl rfl (BS.out _) ?_
              refine hK.out _ _ (K8.out) (fun hHeld => ?_)
              clear hK K
              try simp only [Act.put, List.getElem_toArray, List.getElem_cons_succ, List.getElem_cons_zero, List.setIfInBounds_toArray, List.set_cons_zero, List.set_cons_succ]
              refine wpAnyH_ready (rs := [11]) (by kernel_rfl) (by simp) ?_
              refine AllReadyH.cons (o := _) rfl (fun K hK => ?_) AllReadyH.nil
              clear hHeld
              refine step_new (by rfl) (.tmp 116) (.tmp 121) 22 rfl w1.heap.size 38 i0 _ 18 152 Tryz.underlying22 hi hz0 hz1 hz2 rfl (by decide) _ _ _ rfl OWN.out ⟨w7.heap.size, 0, none⟩ 1 1 (encP p) rfl rfl (C5.out _) (encP_one p) (by have := HPD.out; unfold maxLen; omega) (by have := HPD.out; omega) S8.out.2.size ?_
              intro v9 w9 own gr hloc
              obtain ⟨⟨ao9, cap9, rfl⟩, hf9, ⟨u9, hc9⟩, k9, k10, hfin⟩ := FIN.out v9 w9 own gr hloc
              have K9 := Lib.hid k9
              have K10 := Lib.hid k10
              have HF := Lib.hid hfin
              clear own gr hloc k9 k10 hfin
              refine hK.out _ _ (K9.out) (fun hHeld => ?_)
              clear hK K
              try simp only [Act.put, List.getElem_toArray, List.getElem_cons_succ, List.getElem_cons_zero, List.setIfInBounds_toArray, List.set_cons_zero, List.set_cons_succ]
              refine hye (i := 12) (v := ?v27) hHeld ?h27 ?r27
              case h27 => (intro w hSw; (try dsimp only at hSw); (first | (go_simp; done) | (go_simp; with_reducible rfl)))
              try simp only [Act.put, List.getElem_toArray, List.getElem_cons_succ, List.getElem_cons_zero, List.setIfInBounds_toArray, List.set_cons_zero, List.set_cons_succ]
              refine wpAnyH_ready (rs := [13]) (by kernel_rfl) (by simp) ?_
              refine AllReadyH.cons (o := _) rfl (fun K hK => ?_) AllReadyH.nil
              go_simp
              clear hHeld
              go_wp2_with fail
              refine hK.out _ _ (K10.out) (fun hHeld => ?_)
              clear hK K
              try simp only [Act.put, List.getElem_toArray, List.getElem_cons_succ, List.getElem_cons_zero, List.setIfInBounds_toArray, List.set_cons_zero, List.set_cons_succ]
              refine wpAnyH_done (by kernel_rfl) ?_ _
              go_wp2_with fail
              go_meet
              exact HF.out
            · clear hHeld
              refine step_bs (by rfl) rfl rfl (BS.out _) ?_
              refine hK.out _ _ (K8.out) (fun hHeld => ?_)
              clear hK K
              try simp only [Act.put, List.getElem_toArray, List.getElem_cons_succ, List.getElem_cons_zero, List.setIfInBounds_toArray, List.set_cons_zero, List.set_cons_succ]
              refine wpAnyH_ready (rs := [5]) (by kernel_rfl) (by simp) ?_
              refine AllReadyH.cons (o := _) rfl (fun K hK => ?_) AllReadyH.nil
              clear hHeld
              refine step_ld (by rfl) rfl rfl LP8.out ?_
              refine hK.out _ _ (K8.out) (fun hHeld => ?_)
              clear hK K
              try simp only [Act.put, List.getElem_toArray, List.getElem_cons_succ, List.getElem_cons_zero, List.setIfInBounds_toArray, List.set_cons_zero, List.set_cons_succ]
              refine wpAnyH_ready (rs := [11]) (by kernel_rfl) (by simp) ?_
              refine AllReadyH.cons (o := _) rfl (fun K hK => ?_) AllReadyH.nil
              clear hHeld
              refine step_new (by rfl) (.tmp 116) (.tmp 121) 22 rfl w1.heap.size 38 i0 _ 18 152 Tryz.underlying22 hi hz0 hz1 hz2 rfl (by decide) _ _ _ rfl OWN.out ⟨w7.heap.size, 0, none⟩ 1 1 (encP p) rfl rfl (C5.out _) (encP_one p) (by have := HPD.out; unfold maxLen; omega) (by have := HPD.out; omega) S8.out.2.size ?_
              intro v9 w9 own gr hloc
              obtain ⟨⟨ao9, cap9, rfl⟩, hf9, ⟨u9, hc9⟩, k9, k10, hfin⟩ := FIN.out v9 w9 own gr hloc
              have K9 := Lib.hid k9
              have K10 := Lib.hid k10
              have HF := Lib.hid hfin
              clear own gr hloc k9 k10 hfin
              refine hK.out _ _ (K9.out) (fun hHeld => ?_)
              clear hK K
              try simp only [Act.put, List.getElem_toArray, List.getElem_cons_succ, List.getElem_cons_zero, List.setIfInBounds_toArray, List.set_cons_zero, List.set_cons_succ]
              refine hye (i := 12) (v := ?v28) hHeld ?h28 ?r28
              case h28 => (intro w hSw; (try dsimp only at hSw); (first | (go_simp; done) | (go_simp; with_reducible rfl)))
              try simp only [Act.put, List.getElem_toArray, List.getElem_cons_succ, List.getElem_cons_zero, List.setIfInBounds_toArray, List.set_cons_zero, List.set_cons_succ]
              refine wpAnyH_ready (rs := [13]) (by kernel_rfl) (by simp) ?_
              refine AllReadyH.cons (o := _) rfl (fun K hK => ?_) AllReadyH.nil
              go_simp
              clear hHeld
              go_wp2_with fail
              refine hK.out _ _ (K10.out) (fun hHeld => ?_)
              clear hK K
              try simp only [Act.put, List.getElem_toArray, List.getElem_cons_succ, List.getElem_cons_zero, List.setIfInBounds_toArray, List.set_cons_zero, List.set_cons_succ]
              refine wpAnyH_done (by kernel_rfl) ?_ _
              go_wp2_with fail
              go_meet
              exact HF.out
          obtain ⟨vp', hst8, hse8⟩ := hcut
          have S8 := Lib.hid hst8
          have R8 := Lib.hid hse8
          clear hst8 hse8 S7 R7
          obtain ⟨w8, rfl⟩ : ∃ w8 : World, w8 = wc := ⟨_, rfl⟩
          have ct := R8.out.texC HD.out
          have zt := frz_blk (o := d) R8.out.tex
          have S9 := Lib.hid (S8.out.turnT (o := d) R8.out.tex R8.out.bt (by decide) (by decide) (by decide) (.string (t d ++ sp)))
          have R9 := Lib.hid (R8.out.text HD.out (t d ++ sp))
          have HNE := Lib.hid (show t d ≠ t d ++ sp from fun q => by
            have h1 := congrArg ByteArray.size q
            rw [ByteArray.size_append] at h1
            have := HEF.out
            omega)
          obtain ⟨td, htd⟩ : ∃ td, td = t d := ⟨_, rfl⟩
          have HTD := Lib.hid htd
          rw [← htd] at ct S9 R9 HNE
          have hnl : ¬ 9223372036854775807 < td.size + sp.size := by have := HEL.out; have := HTX.out d HD.out; rw [← htd] at this; omega
          clear htd
          go_upto_region 24 with (fail)
          obtain ⟨w9, hw9⟩ : ∃ w9, w9 = w8.setCell ⟨tb, d, none⟩ (.string (td ++ sp)) := ⟨_, rfl⟩
          obtain ⟨tn, htn⟩ : ∃ tn, tn = td ++ sp := ⟨_, rfl⟩
          rw [← hw9] at R9 S9
          rw [← htn] at R9 HNE
          rw [← hw9]
          have HTN := Lib.hid (show tn.size ≤ 65716 * (j + 1) from by have := HEL.out; have := HTX.out d HD.out; rw [← HTD.out] at this; rw [htn, ByteArray.size_append]; omega)
          clear hw9 ct zt S8 R8 HEF hnl HEL
          obtain ⟨hsetok, hsetf⟩ := set_ses (v := v) (vs := vs) (t := t) (u := tn) HD.out (by rw [← HTD.out]; exact HNE.out)
          have HSO := Lib.hid hsetok
          have HSF := Lib.hid hsetf
          clear hsetok hsetf HNE htn
          obtain ⟨t', ht'⟩ : ∃ t', t' = upd t d tn := ⟨_, rfl⟩
          have HT' := Lib.hid (show t' d = tn from by rw [ht']; unfold upd; rw [if_pos rfl])
          have HTX' := Lib.hid (show ∀ e, e < 3 → (t' e).size ≤ 65716 * (j + 1) from fun e he => by
            rw [ht']; unfold upd
            split
            · exact HTN.out
            · have := HTX.out e he; omega)
          rw [← ht'] at HSF R9
          clear ht' HTD HTX HTN
          go_cut [143] from 133 to 143 (fun x wc => x = .bool false ∧ St w1 f (sesF t' v (onlyD d) vs false) 7 wc ∧ Mv w1.heap.size w9 wc)
          case first =>
            obtain ⟨nd, hnd⟩ : ∃ nd, nd = nA d := ⟨_, rfl⟩
            have HND := Lib.hid hnd
            have KP := Lib.hid (show ∀ W, Mv w1.heap.size w9 W → W.cell? ⟨nb, d, none⟩ = some (.string nd) ∧ W.cell? ⟨tb, d, none⟩ = some (.string tn) from fun W hW => by
              have r := R9.out.mv hW
              exact ⟨by rw [HND.out]; exact r.namC HD.out, by rw [← HT'.out]; exact r.texC HD.out⟩)
            rw [← hnd] at HSO HSF
            clear hnd
            refine wp_region_held_drew (S := fun W => W.cell? ⟨nb, d, none⟩ = some (.string nd) ∧ W.cell? ⟨tb, d, none⟩ = some (.string tn)) (by kernel_rfl) (KP.out _ (Mv.of_below (Below.refl _ w9).drew)) (fun hHeld => ?_)
            refine hye (i := 0) (v := ?v29) hHeld ?h29 ?r29
            case h29 => (intro w hSw; (try dsimp only at hSw); (first | (go_simp; done) | (go_simp; with_reducible rfl)))
            try simp only [Act.put, List.getElem_toArray, List.getElem_cons_succ, List.getElem_cons_zero, List.setIfInBounds_toArray, List.set_cons_zero, List.set_cons_succ]
            refine hye (i := 1) (v := ?v30) hHeld ?h30 ?r30
            case h30 => (intro w hSw; (try dsimp only at hSw); (first | (go_simp; done) | (go_simp; with_reducible rfl)))
            try simp only [Act.put, List.getElem_toArray, List.getElem_cons_succ, List.getElem_cons_zero, List.setIfInBounds_toArray, List.set_cons_zero, List.set_cons_succ]
            refine hye (i := 2) (v := ?v31) hHeld ?h31 ?r31
            case h31 => (intro w hSw; (try dsimp only at hSw); (first | (go_simp; done) | (go_simp; with_reducible rfl)))
            try simp only [Act.put, List.getElem_toArray, List.getElem_cons_succ, List.getElem_cons_zero, List.setIfInBounds_toArray, List.set_cons_zero, List.set_cons_succ]
            refine hye (i := 3) (v := ?v32) hHeld ?h32 ?r32
            case h32 => (intro w hSw; (try dsimp only at hSw); (first | (go_simp; done) | (go_simp; with_reducible rfl)))
            try simp only [Act.put, List.getElem_toArray, List.getElem_cons_succ, List.getElem_cons_zero, List.setIfInBounds_toArray, List.set_cons_zero, List.set_cons_succ]
            refine hye (i := 4) (v := ?v33) hHeld ?h33 ?r33
            case h33 => (intro w hSw; (try dsimp only at hSw); (first | (go_simp; done) | (go_simp; with_reducible rfl)))
            try simp only [Act.put, List.getElem_toArray, List.getElem_cons_succ, List.getElem_cons_zero, List.setIfInBounds_toArray, List.set_cons_zero, List.set_cons_succ]
            refine hye (i := 5) (v := ?v34) hHeld ?h34 ?r34
            case h34 => (intro w hSw; (try dsimp only at hSw); (first | (go_simp; done) | (go_simp; with_reducible rfl)))
            try simp only [Act.put, List.getElem_toArray, List.getElem_cons_succ, List.getElem_cons_zero, List.setIfInBounds_toArray, List.set_cons_zero, List.set_cons_succ]
            refine hye (i := 6) (v := ?v35) hHeld ?h35 ?r35
            case h35 => (intro w hSw; (try dsimp only at hSw); (first | (go_simp; done) | (go_simp; with_reducible rfl)))
            try simp only [Act.put, List.getElem_toArray, List.getElem_cons_succ, List.getElem_cons_zero, List.setIfInBounds_toArray, List.set_cons_zero, List.set_cons_succ]
            refine hye (i := 7) (v := ?v36) hHeld ?h36 ?r36
            case h36 => (intro w hSw; (try dsimp only at hSw); (first | (go_simp; done) | (go_simp; with_reducible rfl)))
            try simp only [Act.put, List.getElem_toArray, List.getElem_cons_succ, List.getElem_cons_zero, List.setIfInBounds_toArray, List.set_cons_zero, List.set_cons_succ]
            refine hye (i := 8) (v := ?v37) hHeld ?h37 ?r37
            case h37 => (intro w hSw; (try dsimp only at hSw); (first | (go_simp; done) | (go_simp; with_reducible rfl)))
            try simp only [Act.put, List.getElem_toArray, List.getElem_cons_succ, List.getElem_cons_zero, List.setIfInBounds_toArray, List.set_cons_zero, List.set_cons_succ]
            refine wpAnyH_ready (rs := [9]) (by kernel_rfl) (by simp) ?_
            refine AllReadyH.cons (o := _) rfl (fun K hK => ?_) AllReadyH.nil
            go_simp
            go_at_call 6
            (with_reducible refine (st_set0 (S9.out.later ((Below.refl _ w9).drew)) (by decide) nd tn HSO.out).mono ?_)
            rintro e w10 ⟨rfl, hs, hm⟩
            have S10 := Lib.hid hs
            have M10 := Lib.hid (show Mv w1.heap.size w9 w10 from (Mv.of_below ((Below.refl _ w9).drew)).trans hm)
            clear hs hm
            clear hHeld
            go_wp2_with fail
            refine hK.out _ _ (KP.out _ M10.out) (fun hHeld => ?_)
            clear hK K
            try simp only [Act.put, List.getElem_toArray, List.getElem_cons_succ, List.getElem_cons_zero, List.setIfInBounds_toArray, List.set_cons_zero, List.set_cons_succ]
            refine hye (i := 10) (v := ?v38) hHeld ?h38 ?r38
            case h38 => (intro w hSw; (try dsimp only at hSw); (first | (go_simp; done) | (go_simp; with_reducible rfl)))
            try simp only [Act.put, List.getElem_toArray, List.getElem_cons_succ, List.getElem_cons_zero, List.setIfInBounds_toArray, List.set_cons_zero, List.set_cons_succ]
            refine wpAnyH_done (by kernel_rfl) ?_ _
            go_wp2_with fail
            go_meet
            refine ⟨rfl, ?_, M10.out⟩
            have s10 := S10.out
            rw [HSF.out] at s10
            exact st_seven s10 rfl
          obtain ⟨rfl, hst, hmv⟩ := hcut
          obtain ⟨w11, rfl⟩ : ∃ w11 : World, w11 = wc := ⟨_, rfl⟩
          have S11 := Lib.hid hst
          have R11 := Lib.hid (R9.out.mv hmv)
          clear hst hmv S9 R9 HSO HSF
          obtain ⟨cd, hcd⟩ : ∃ n, n = strm s0L (ordL (P d ++ [p])) := ⟨_, rfl⟩
          obtain ⟨ca, hca⟩ : ∃ n, n = strm s0L (ordL (all ++ [p])) := ⟨_, rfl⟩
          have PN := Lib.hid (PL.out.next (u := decB cd) (vs' := decB ca) j25n HD.out HN6.out (by rw [hcd]) (by rw [hca]))
          have PS := Lib.hid (show v d = decB cd → vs = decB ca from fun q => by rw [hca]; exact PL.out.same j25n HD.out HN6.out (by rw [hcd]) q)
          obtain ⟨P', hP'⟩ : ∃ P', P' = upd P d (P d ++ [p]) := ⟨_, rfl⟩
          have HPD' := Lib.hid (show cd = strm s0L (ordL (P' d)) from by rw [hP', hcd]; unfold upd; rw [if_pos rfl])
          rw [← hP'] at PN R11
          obtain ⟨all', hall'⟩ : ∃ l, l = all ++ [p] := ⟨_, rfl⟩
          have HCA := Lib.hid (show ca = strm s0L (ordL all') from by rw [hall', hca])
          rw [← hall'] at PN R11
          obtain ⟨v', hv'⟩ : ∃ v', v' = upd v d (decB cd) := ⟨_, rfl⟩
          have HV' := Lib.hid hv'
          obtain ⟨vs', hvs'⟩ : ∃ s, s = decB ca := ⟨_, rfl⟩
          have HVS := Lib.hid hvs'
          rw [← hv', ← hvs'] at PN
          rw [← hvs'] at PS
          have HCD9 := Lib.hid (show cd ≤ 9999 from by rw [HPD'.out]; exact decB_str _ (PN.out.lenP HD.out) (by decide))
          have HCA9 := Lib.hid (show ca ≤ 9999 from by rw [HCA.out]; exact decB_str _ PN.out.len (by have := PN.out.le; omega))
          clear hcd hca hP' hall' hv' hvs' PL HA25 HPD
          have ST0 := Lib.hid (St.staleQ (t := t') (v := v) (v' := v') (vs := vs) (vs' := vs') (q := 0) HD.out S11.out)
          go_upto_region 28 with (go_at_call 11; (with_reducible refine ST0.out.mono ?_); rintro e w12 ⟨sao, scap, rfl, hr12, hb12⟩; have SR12 := Lib.hid hr12; have S12 := Lib.hid (show St w1 f (flS t' v v' vs vs' d 0) 7 w12 ∧ SesR w1.heap.size w12 nb cb pb tb all' P' v7 vp' t' from ⟨S11.out.later hb12, R11.out.later hb12⟩); clear hr12 hb12)
          clear ST0 S11 R11
          go_loopg [15, 16] 4 (fun gh v15 v16 wr => ∃ (q k : Nat) (sao : Option Addr) (scap : Nat), v15 = .int .i64 k ∧ v16 = .slice sao (snS q) scap ∧ 3 - q ≤ gh ∧ q ≤ 2 ∧ k ≤ 2 ∧ (q < 2 → k = q) ∧ Hid (RowK 1 encT wr sao (slS d q)) ∧ Hid (St w1 f (flS t' v v' vs vs' d q) 7 wr ∧ SesR w1.heap.size wr nb cb pb tb all' P' v7 vp' t'))
          case atStart => exact ⟨0, 0, sao, scap, rfl, rfl, by omega, by omega, by omega, fun _ => rfl, SR12, S12⟩
          case round =>
            clear SR12 S12
            obtain ⟨q, k, sao1, scap1, rfl, rfl, hgq, hq2, hk2, hkq, HR, HS⟩ := hrel
            rcases Nat.lt_or_ge q 2 with hq | hq
            · obtain rfl := hkq hq
              have hk01 : k = 0 ∨ k = 1 := by omega
              obtain ⟨xd, hxd⟩ : ∃ x, x = nX d := ⟨_, rfl⟩
              have HXD := Lib.hid hxd
              obtain ⟨nd, hnd⟩ : ∃ x, x = nA d := ⟨_, rfl⟩
              have HND := Lib.hid hnd
              clear hxd hnd
              have cX : wr.cell? ⟨cb, d, none⟩ = some (.string xd) := by rw [HXD.out]; exact HS.out.2.cntC HD.out
              rcases hk01 with rfl | rfl
              · obtain ⟨sb, so, rfl, hsb, hsc⟩ := HR.out.str (i := 0) (show 0 < 1 by decide)
                have cS : wr.cell? ⟨sb, so, none⟩ = some (.string xd) := by rw [HXD.out]; exact hsc
                clear hsb hsc hkq
                obtain ⟨pao, pcap, hvp, hprow⟩ := HS.out.2.arg HD.out
                obtain ⟨pn, hpn⟩ : ∃ n, n = (P' d).length := ⟨_, rfl⟩
                have HPN := Lib.hid (show (P' d).length = pn from hpn.symm)
                have HPN25 := Lib.hid (show pn ≤ 25 from by rw [hpn]; exact PN.out.lenP HD.out)
                have PR := Lib.hid hprow
                have HVP := Lib.hid hvp
                rw [← hpn] at HVP
                clear hvp hprow hpn
                have hz01 : (snS 0 : Nat) = 1 := rfl
                rw [hz01]
                go_upto_region 31 with (fail)
                go_cut [164] from 157 to 164 (fun x wc => x = .bool true ∧ Below wr.heap.size wr wc)
                case first =>
                  refine wp_region_held_drew (S := fun W => W.cell? ⟨sb, so, none⟩ = some (.string xd) ∧ W.cell? ⟨cb, d, none⟩ = some (.string xd)) (by kernel_rfl) ⟨cS, cX⟩ (fun hHeld => ?_)
                  refine hye (i := 0) (v := ?v39) hHeld ?h39 ?r39
                  case h39 => (intro w hSw; (try dsimp only at hSw); (first | (go_simp; done) | (go_simp; with_reducible rfl)))
                  try simp only [Act.put, List.getElem_toArray, List.getElem_cons_succ, List.getElem_cons_zero, List.setIfInBounds_toArray, List.set_cons_zero, List.set_cons_succ]
                  refine hye (i := 1) (v := ?v40) hHeld ?h40 ?r40
                  case h40 => (intro w hSw; (try dsimp only at hSw); (first | (go_simp; done) | (go_simp; with_reducible rfl)))
                  try simp only [Act.put, List.getElem_toArray, List.getElem_cons_succ, List.getElem_cons_zero, List.setIfInBounds_toArray, List.set_cons_zero, List.set_cons_succ]
                  refine hye (i := 2) (v := ?v41) hHeld ?h41 ?r41
                  case h41 => (intro w hSw; (try dsimp only at hSw); (first | (go_simp; done) | (go_simp; with_reducible rfl)))
                  try simp only [Act.put, List.getElem_toArray, List.getElem_cons_succ, List.getElem_cons_zero, List.setIfInBounds_toArray, List.set_cons_zero, List.set_cons_succ]
                  refine hye (i := 3) (v := ?v42) hHeld ?h42 ?r42
                  case h42 => (intro w hSw; (try dsimp only at hSw); (first | (go_simp; done) | (go_simp; with_reducible rfl)))
                  try simp only [Act.put, List.getElem_toArray, List.getElem_cons_succ, List.getElem_cons_zero, List.setIfInBounds_toArray, List.set_cons_zero, List.set_cons_succ]
                  refine hye (i := 4) (v := ?v43) hHeld ?h43 ?r43
                  case h43 => (intro w hSw; (try dsimp only at hSw); (first | (go_simp; done) | (go_simp; with_reducible rfl)))
                  try simp only [Act.put, List.getElem_toArray, List.getElem_cons_succ, List.getElem_cons_zero, List.setIfInBounds_toArray, List.set_cons_zero, List.set_cons_succ]
                  refine hye (i := 5) (v := ?v44) hHeld ?h44 ?r44
                  case h44 => (intro w hSw; (try dsimp only at hSw); (first | (go_simp; done) | (go_simp; with_reducible rfl)))
                  try simp only [Act.put, List.getElem_toArray, List.getElem_cons_succ, List.getElem_cons_zero, List.setIfInBounds_toArray, List.set_cons_zero, List.set_cons_succ]
                  refine hye (i := 6) (v := ?v45) hHeld ?h45 ?r45
                  case h45 => (intro w hSw; (try dsimp only at hSw); (first | (go_simp; done) | (go_simp; with_reducible rfl)))
                  try simp only [Act.put, List.getElem_toArray, List.getElem_cons_succ, List.getElem_cons_zero, List.setIfInBounds_toArray, List.set_cons_zero, List.set_cons_succ]
                  refine hye (i := 7) (v := ?v46) hHeld ?h46 ?r46
                  case h46 => (intro w hSw; (try dsimp only at hSw); (first | (go_simp; done) | (go_simp; with_reducible rfl)))
                  try simp only [Act.put, List.getElem_toArray, List.getElem_cons_succ, List.getElem_cons_zero, List.setIfInBounds_toArray, List.set_cons_zero, List.set_cons_succ]
                  refine wpAnyH_done (by kernel_rfl) ?_ _
                  go_wp2_with fail
                  go_meet
                  exact ⟨rfl, (Below.refl _ wr).drew⟩
                obtain ⟨rfl, hb31⟩ := hcut
                obtain ⟨w31, rfl⟩ : ∃ w31 : World, w31 = wc := ⟨_, rfl⟩
                have HS2 := Lib.hid (show St w1 f (flS t' v v' vs vs' d 0) 7 w31 ∧ SesR w1.heap.size w31 nb cb pb tb all' P' v7 vp' t' from ⟨HS.out.1.later hb31, HS.out.2.later hb31⟩)
                have PR2 := Lib.hid (PR.out.later hb31)
                go_upto_region 32 with (fail)
                clear HS HR cS cX hb31 PR
                have BW31 := Lib.hid (B1.out.trans (HS2.out.1.2.mono B1.out.size))
                have LE1 := Lib.hid (lens_later LE.out H0.out BW31.out)
                have H031 := Lib.hid (Nat.lt_of_lt_of_le H0.out BW31.out.size)
                go_cut [] from 165 to 183 (fun wc => ∃ ss, St w1 f (sesF t' v' noneD vs ss) 7 wc ∧ (ss = false → v d = decB cd) ∧ Mv w1.heap.size w31 wc)
                case first =>
                  have KP := Lib.hid (show ∀ W, Mv w1.heap.size w31 W → W.cell? ⟨cb, d, none⟩ = some (.string xd) ∧ W.cell? ⟨nb, d, none⟩ = some (.string nd) ∧ W.cell? ⟨pb, d, none⟩ = some (.slice pao pn pcap) from fun W hW => by
                    have r := HS2.out.2.mv hW
                    exact ⟨by rw [HXD.out]; exact r.cntC HD.out, by rw [HND.out]; exact r.namC HD.out, by rw [← HVP.out]; exact r.plsC HD.out⟩)
                  obtain ⟨hpok, ss, hpf, hss⟩ := put_x (t := t') (v := v) (vs := vs) (u := decB cd) HD.out
                  rw [← HXD.out, ← HND.out] at hpok hpf
                  rw [← HV'.out] at hpf
                  have HPO := Lib.hid (show putOk (flS t' v v' vs vs' d 0) xd [nd] = true from hpok)
                  have HPF := Lib.hid hpf
                  clear hpok hpf
                  refine wp_region_held_drew (S := fun W => W.cell? ⟨cb, d, none⟩ = some (.string xd) ∧ W.cell? ⟨nb, d, none⟩ = some (.string nd) ∧ W.cell? ⟨pb, d, none⟩ = some (.slice pao pn pcap)) (by kernel_rfl) (KP.out _ (Mv.of_below (Below.refl _ w31).drew)) (fun hHeld => ?_)
                  refine hye (i := 0) (v := ?v47) hHeld ?h47 ?r47
                  case h47 => (intro w hSw; (try dsimp only at hSw); (first | (go_simp; done) | (go_simp; with_reducible rfl)))
                  try simp only [Act.put, List.getElem_toArray, List.getElem_cons_succ, List.getElem_cons_zero, List.setIfInBounds_toArray, List.set_cons_zero, List.set_cons_succ]
                  refine hye (i := 1) (v := ?v48) hHeld ?h48 ?r48
                  case h48 => (intro w hSw; (try dsimp only at hSw); (first | (go_simp; done) | (go_simp; with_reducible rfl)))
                  try simp only [Act.put, List.getElem_toArray, List.getElem_cons_succ, List.getElem_cons_zero, List.setIfInBounds_toArray, List.set_cons_zero, List.set_cons_succ]
                  refine hye (i := 2) (v := ?v49) hHeld ?h49 ?r49
                  case h49 => (intro w hSw; (try dsimp only at hSw); (first | (go_simp; done) | (go_simp; with_reducible rfl)))
                  try simp only [Act.put, List.getElem_toArray, List.getElem_cons_succ, List.getElem_cons_zero, List.setIfInBounds_toArray, List.set_cons_zero, List.set_cons_succ]
                  refine hye (i := 3) (v := ?v50) hHeld ?h50 ?r50
                  case h50 => (intro w hSw; (try dsimp only at hSw); (first | (go_simp; done) | (go_simp; with_reducible rfl)))
                  try simp only [Act.put, List.getElem_toArray, List.getElem_cons_succ, List.getElem_cons_zero, List.setIfInBounds_toArray, List.set_cons_zero, List.set_cons_succ]
                  refine hye (i := 4) (v := ?v51) hHeld ?h51 ?r51
                  case h51 => (intro w hSw; (try dsimp only at hSw); (first | (go_simp; done) | (go_simp; with_reducible rfl)))
                  try simp only [Act.put, List.getElem_toArray, List.getElem_cons_succ, List.getElem_cons_zero, List.setIfInBounds_toArray, List.set_cons_zero, List.set_cons_succ]
                  refine hye (i := 5) (v := ?v52) hHeld ?h52 ?r52
                  case h52 => (intro w hSw; (try dsimp only at hSw); (first | (go_simp; done) | (go_simp; with_reducible rfl)))
                  try simp only [Act.put, List.getElem_toArray, List.getElem_cons_succ, List.getElem_cons_zero, List.setIfInBounds_toArray, List.set_cons_zero, List.set_cons_succ]
                  refine hye (i := 6) (v := ?v53) hHeld ?h53 ?r53
                  case h53 => (intro w hSw; (try dsimp only at hSw); (first | (go_simp; done) | (go_simp; with_reducible rfl)))
                  try simp only [Act.put, List.getElem_toArray, List.getElem_cons_succ, List.getElem_cons_zero, List.setIfInBounds_toArray, List.set_cons_zero, List.set_cons_succ]
                  refine hye (i := 7) (v := ?v54) hHeld ?h54 ?r54
                  case h54 => (intro w hSw; (try dsimp only at hSw); (first | (go_simp; done) | (go_simp; with_reducible rfl)))
                  try simp only [Act.put, List.getElem_toArray, List.getElem_cons_succ, List.getElem_cons_zero, List.setIfInBounds_toArray, List.set_cons_zero, List.set_cons_succ]
                  refine hye (i := 8) (v := ?v55) hHeld ?h55 ?r55
                  case h55 => (intro w hSw; (try dsimp only at hSw); (first | (go_simp; done) | (go_simp; with_reducible rfl)))
                  try simp only [Act.put, List.getElem_toArray, List.getElem_cons_succ, List.getElem_cons_zero, List.setIfInBounds_toArray, List.set_cons_zero, List.set_cons_succ]
                  refine hye (i := 11) (v := ?v56) hHeld ?h56 ?r56
                  case h56 => (intro w hSw; (try dsimp only at hSw); (first | (go_simp; done) | (go_simp; with_reducible rfl)))
                  try simp only [Act.put, List.getElem_toArray, List.getElem_cons_succ, List.getElem_cons_zero, List.setIfInBounds_toArray, List.set_cons_zero, List.set_cons_succ]
                  refine hye (i := 12) (v := ?v57) hHeld ?h57 ?r57
                  case h57 => (intro w hSw; (try dsimp only at hSw); (first | (go_simp; done) | (go_simp; with_reducible rfl)))
                  try simp only [Act.put, List.getElem_toArray, List.getElem_cons_succ, List.getElem_cons_zero, List.setIfInBounds_toArray, List.set_cons_zero, List.set_cons_succ]
                  refine hye (i := 13) (v := ?v58) hHeld ?h58 ?r58
                  case h58 => (intro w hSw; (try dsimp only at hSw); (first | (go_simp; done) | (go_simp; with_reducible rfl)))
                  try simp only [Act.put, List.getElem_toArray, List.getElem_cons_succ, List.getElem_cons_zero, List.setIfInBounds_toArray, List.set_cons_zero, List.set_cons_succ]
                  refine hye (i := 14) (v := ?v59) hHeld ?h59 ?r59
                  case h59 => (intro w hSw; (try dsimp only at hSw); (first | (go_simp; done) | (go_simp; with_reducible rfl)))
                  try simp only [Act.put, List.getElem_toArray, List.getElem_cons_succ, List.getElem_cons_zero, List.setIfInBounds_toArray, List.set_cons_zero, List.set_cons_succ]
                  refine wpAnyH_ready (rs := [9]) (by kernel_rfl) (by simp) ?_
                  refine AllReadyH.cons (o := _) rfl (fun K hK => ?_) AllReadyH.nil
                  go_simp
                  have R13 := Lib.hid (show RowK 1 encT (w31.drew.alloc (.cells #[.string nd] 9)) (some ⟨w31.heap.size, 0, none⟩) [nd] from RowK_lit w31.drew [nd])
                  have B13 := Lib.hid ((Below.refl w31.heap.size w31).drew.alloc (Nat.le_refl _) (.cells #[.string nd] 9))
                  clear hHeld
                  go_wp2_with fail
                  refine hK.out _ _ (KP.out _ (Mv.of_below B13.out)) (fun hHeld => ?_)
                  clear hK K
                  try simp only [Act.put, List.getElem_toArray, List.getElem_cons_succ, List.getElem_cons_zero, List.setIfInBounds_toArray, List.set_cons_zero, List.set_cons_succ]
                  refine wpAnyH_ready (rs := [10]) (by kernel_rfl) (by simp) ?_
                  refine AllReadyH.cons (o := _) rfl (fun K hK => ?_) AllReadyH.nil
                  go_simp
                  go_at_call 8
                  (with_reducible refine (node_any _ _ 1 1 _).mono ?_)
                  rintro e w14 ⟨rfl, h14⟩
                  have R14 := Lib.hid (R13.out.later h14)
                  have B14 := Lib.hid (B13.out.trans (h14.mono B13.out.size))
                  clear h14
                  clear hHeld
                  go_wp2_with fail
                  refine hK.out _ _ (KP.out _ (Mv.of_below B14.out)) (fun hHeld => ?_)
                  clear hK K
                  try simp only [Act.put, List.getElem_toArray, List.getElem_cons_succ, List.getElem_cons_zero, List.setIfInBounds_toArray, List.set_cons_zero, List.set_cons_succ]
                  refine wpAnyH_ready (rs := [15]) (by kernel_rfl) (by simp) ?_
                  refine AllReadyH.cons (o := _) rfl (fun K hK => ?_) AllReadyH.nil
                  go_simp
                  go_at_call 12
                  (with_reducible refine (streams_any (P' d) pao pn pcap _ HPN.out (by have := HPN25.out; omega) (PR2.out.later B14.out) (lens_later LE1.out H031.out B14.out) (Nat.lt_of_lt_of_le H031.out B14.out.size)).mono ?_)
                  rw [← HPD'.out]
                  rintro e w15 ⟨xao, xcap, rfl, h15⟩
                  have R15 := Lib.hid (R14.out.later h15)
                  have B15 := Lib.hid (B14.out.trans (h15.mono B14.out.size))
                  clear h15
                  clear hHeld
                  go_wp2_with fail
                  refine hK.out _ _ (KP.out _ (Mv.of_below B15.out)) (fun hHeld => ?_)
                  clear hK K
                  try simp only [Act.put, List.getElem_toArray, List.getElem_cons_succ, List.getElem_cons_zero, List.setIfInBounds_toArray, List.set_cons_zero, List.set_cons_succ]
                  refine hye (i := 16) (v := ?v60) hHeld ?h60 ?r60
                  case h60 => (intro w hSw; (try dsimp only at hSw); (first | (go_simp; done) | (go_simp; with_reducible rfl)))
                  try simp only [Act.put, List.getElem_toArray, List.getElem_cons_succ, List.getElem_cons_zero, List.setIfInBounds_toArray, List.set_cons_zero, List.set_cons_succ]
                  refine wpAnyH_ready (rs := [17]) (by kernel_rfl) (by simp) ?_
                  refine AllReadyH.cons (o := _) rfl (fun K hK => ?_) AllReadyH.nil
                  go_simp
                  go_at_call 9
                  (with_reducible refine (decimal_any cd HCD9.out _).mono ?_)
                  rintro e w16 ⟨rfl, h16⟩
                  have R16 := Lib.hid (R15.out.later h16)
                  have B16 := Lib.hid (B15.out.trans (h16.mono B15.out.size))
                  clear h16
                  clear hHeld
                  go_wp2_with fail
                  refine hK.out _ _ (KP.out _ (Mv.of_below B16.out)) (fun hHeld => ?_)
                  clear hK K
                  try simp only [Act.put, List.getElem_toArray, List.getElem_cons_succ, List.getElem_cons_zero, List.setIfInBounds_toArray, List.set_cons_zero, List.set_cons_succ]
                  refine wpAnyH_ready (rs := [18]) (by kernel_rfl) (by simp) ?_
                  refine AllReadyH.cons (o := _) rfl (fun K hK => ?_) AllReadyH.nil
                  go_simp
                  go_at_call 7
                  (with_reducible refine (st_put0 (HS2.out.1.later B16.out) (by decide) xd (decB cd) _ 1 1 [nd] rfl (by decide) R16.out HPO.out).mono ?_)
                  rintro e w17 ⟨rfl, hs, hm⟩
                  have S17 := Lib.hid hs
                  have M17 := Lib.hid (show Mv w1.heap.size w31 w17 from (Mv.of_below B16.out).trans hm)
                  clear hs hm
                  clear hHeld
                  go_wp2_with fail
                  refine hK.out _ _ (KP.out _ M17.out) (fun hHeld => ?_)
                  clear hK K
                  try simp only [Act.put, List.getElem_toArray, List.getElem_cons_succ, List.getElem_cons_zero, List.setIfInBounds_toArray, List.set_cons_zero, List.set_cons_succ]
                  refine wpAnyH_done (by kernel_rfl) ?_ _
                  go_wp2_with fail
                  go_meet
                  refine ⟨ss, ?_, hss, M17.out⟩
                  have s17 := S17.out
                  rw [show putF (flS t' v v' vs vs' d 0) xd [nd] (decB cd) = sesF t' v' noneD vs ss from HPF.out] at s17
                  exact st_seven s17 rfl
                obtain ⟨ss, hst, hss, hmv⟩ := hcut
                obtain ⟨w18, rfl⟩ : ∃ w18 : World, w18 = wc := ⟨_, rfl⟩
                have R18 := Lib.hid (HS2.out.2.mv hmv)
                obtain ⟨q', hq1, hq2', hS18⟩ : ∃ q', 1 ≤ q' ∧ q' ≤ 2 ∧ St w1 f (flS t' v v' vs vs' d q') 7 w18 := by
                  cases ss with
                  | true => exact ⟨1, by omega, by omega, hst⟩
                  | false => exact ⟨2, by omega, by omega, by rw [PS.out (hss rfl)] at hst; exact hst⟩
                have S18 := Lib.hid hS18
                have STA := Lib.hid (show ∀ W, Below w18.heap.size w18 W → _ from fun W hW => St.staleQ HD.out (S18.out.later hW))
                have BLA := Lib.hid (Below.refl w18.heap.size w18)
                clear hst hss hmv hS18 HS2 LE1 H031 BW31 HVP
                go_wp2_with ((go_at_call 11; (with_reducible refine (STA.out _ BLA.out).mono ?_); rintro e w20 ⟨sao2, scap2, rfl, hr20, hb20⟩; have R20 := Lib.hid hr20; have B20 := Lib.hid hb20; clear hr20 hb20))
                go_roundg (3 - q')
                case measure => omega
                case rel => exact ⟨q', 1, sao2, scap2, by go_num, by go_num, by omega, by omega, by omega, by omega, R20, Lib.hid ⟨S18.out.later B20.out, R18.out.later B20.out⟩⟩
              · obtain ⟨sb, so, rfl, hsb, hsc⟩ := HR.out.str (i := 0) (show 0 < 1 by decide)
                obtain ⟨sm, hsm⟩ : ∃ x, x = sumB := ⟨_, rfl⟩
                have cS : wr.cell? ⟨sb, so, none⟩ = some (.string sm) := by rw [hsm]; exact hsc
                have hne : (sm.toList == xd.toList) = false := by rw [hsm, HXD.out]; exact sum_ne HD.out
                clear hsb hsc hkq hsm
                have hz01 : (snS 1 : Nat) = 1 := rfl
                rw [hz01]
                go_upto_region 31 with (fail)
                go_cut [164] from 157 to 164 (fun x wc => x = .bool false ∧ Below wr.heap.size wr wc)
                case first =>
                  refine wp_region_held_drew (S := fun W => W.cell? ⟨sb, so, none⟩ = some (.string sm) ∧ W.cell? ⟨cb, d, none⟩ = some (.string xd)) (by kernel_rfl) ⟨cS, cX⟩ (fun hHeld => ?_)
                  refine hye (i := 0) (v := ?v61) hHeld ?h61 ?r61
                  case h61 => (intro w hSw; (try dsimp only at hSw); (first | (go_simp; done) | (go_simp; with_reducible rfl)))
                  try simp only [Act.put, List.getElem_toArray, List.getElem_cons_succ, List.getElem_cons_zero, List.setIfInBounds_toArray, List.set_cons_zero, List.set_cons_succ]
                  refine hye (i := 1) (v := ?v62) hHeld ?h62 ?r62
                  case h62 => (intro w hSw; (try dsimp only at hSw); (first | (go_simp; done) | (go_simp; with_reducible rfl)))
                  try simp only [Act.put, List.getElem_toArray, List.getElem_cons_succ, List.getElem_cons_zero, List.setIfInBounds_toArray, List.set_cons_zero, List.set_cons_succ]
                  refine hye (i := 2) (v := ?v63) hHeld ?h63 ?r63
                  case h63 => (intro w hSw; (try dsimp only at hSw); (first | (go_simp; done) | (go_simp; with_reducible rfl)))
                  try simp only [Act.put, List.getElem_toArray, List.getElem_cons_succ, List.getElem_cons_zero, List.setIfInBounds_toArray, List.set_cons_zero, List.set_cons_succ]
                  refine hye (i := 3) (v := ?v64) hHeld ?h64 ?r64
                  case h64 => (intro w hSw; (try dsimp only at hSw); (first | (go_simp; done) | (go_simp; with_reducible rfl)))
                  try simp only [Act.put, List.getElem_toArray, List.getElem_cons_succ, List.getElem_cons_zero, List.setIfInBounds_toArray, List.set_cons_zero, List.set_cons_succ]
                  refine hye (i := 4) (v := ?v65) hHeld ?h65 ?r65
                  case h65 => (intro w hSw; (try dsimp only at hSw); (first | (go_simp; done) | (go_simp; with_reducible rfl)))
                  try simp only [Act.put, List.getElem_toArray, List.getElem_cons_succ, List.getElem_cons_zero, List.setIfInBounds_toArray, List.set_cons_zero, List.set_cons_succ]
                  refine hye (i := 5) (v := ?v66) hHeld ?h66 ?r66
                  case h66 => (intro w hSw; (try dsimp only at hSw); (first | (go_simp; done) | (go_simp; with_reducible rfl)))
                  try simp only [Act.put, List.getElem_toArray, List.getElem_cons_succ, List.getElem_cons_zero, List.setIfInBounds_toArray, List.set_cons_zero, List.set_cons_succ]
                  refine hye (i := 6) (v := ?v67) hHeld ?h67 ?r67
                  case h67 => (intro w hSw; (try dsimp only at hSw); (first | (go_simp; done) | (go_simp; with_reducible rfl)))
                  try simp only [Act.put, List.getElem_toArray, List.getElem_cons_succ, List.getElem_cons_zero, List.setIfInBounds_toArray, List.set_cons_zero, List.set_cons_succ]
                  refine hye (i := 7) (v := ?v68) hHeld ?h68 ?r68
                  case h68 => (intro w hSw; (try dsimp only at hSw); (first | (go_simp; done) | (go_simp; with_reducible rfl)))
                  try simp only [Act.put, List.getElem_toArray, List.getElem_cons_succ, List.getElem_cons_zero, List.setIfInBounds_toArray, List.set_cons_zero, List.set_cons_succ]
                  refine wpAnyH_done (by kernel_rfl) ?_ _
                  go_wp2_with fail
                  go_meet
                  exact ⟨rfl, (Below.refl _ wr).drew⟩
                obtain ⟨rfl, hb31⟩ := hcut
                obtain ⟨w31, rfl⟩ : ∃ w31 : World, w31 = wc := ⟨_, rfl⟩
                have HS2 := Lib.hid (show St w1 f (flS t' v v' vs vs' d 1) 7 w31 ∧ SesR w1.heap.size w31 nb cb pb tb all' P' v7 vp' t' from ⟨HS.out.1.later hb31, HS.out.2.later hb31⟩)
                clear HS HR cS cX hne hb31
                go_upto_region 35 with (fail)
                go_loopg [17, 18] 3 (fun gh v17 v18 wq => ∃ m : Nat, v17 = .int .i64 (sumN P' m : Nat) ∧ v18 = .int .i64 m ∧ m ≤ 3 ∧ 3 - m ≤ gh ∧ Hid (Below w31.heap.size w31 wq))
                case atStart => exact ⟨0, rfl, rfl, by omega, by omega, Lib.hid (Below.refl _ _)⟩
                case round =>
                  obtain ⟨m, rfl, rfl, hm3, hgm, HBQ⟩ := hrel
                  have m0 : (0 : Int) ≤ (m : Int) := by omega
                  by_cases hm : m < 3
                  · have hmz : (m : Int) < 3 := by omega
                    obtain ⟨xm, hxm⟩ : ∃ x, x = nX m := ⟨_, rfl⟩
                    have cM : wr.cell? ⟨cb, m, none⟩ = some (.string xm) := by rw [hxm]; exact (HS2.out.2.later HBQ.out).cntC hm
                    obtain ⟨nm, hnm⟩ : ∃ n, n = strm s0L (ordL (P' m)) := ⟨_, rfl⟩
                    have hnm9 : nm ≤ 9999 := by rw [hnm]; exact decB_str _ (PN.out.lenP hm) (by decide)
                    have VA := Lib.hid (show Calls Tryz.prog 13 #[.pointer (some ⟨f, 0, none⟩), .string xm] wr fun e w' => e = .returned (.tuple #[.string (decB nm), .bool true]) ∧ wr = w' from by
                      rw [hxm]
                      exact (HS2.out.1.later HBQ.out).value (nX m) (v := decB nm) (ok := true) (by rw [show flS t' v v' vs vs' d 1 = sesF t' v' noneD vs true from rfl, val_x hm, PN.out.val m hm, ← hnm]))
                    have NU := Lib.hid (number_any nm hnm9)
                    have hsl := sumN_le (all := all') (P := P') (fun e he => Nat.le_succ_of_le (PN.out.lenP he)) m hm3
                    have hsn : sumN P' (m + 1) = sumN P' m + nm := by rw [hnm]; rfl
                    have hwr : IntKind.wrap .i64 ((sumN P' m : Nat) + (nm : Int)) = ((sumN P' m + nm : Nat) : Int) := by rw [IntKind.wrap_i64]; omega
                    obtain ⟨sv, hsv⟩ : ∃ s, s = sumN P' m := ⟨_, rfl⟩
                    rw [← hsv] at hsl hsn hwr ⊢
                    obtain ⟨dn, hdn⟩ : ∃ s, s = decB nm := ⟨_, rfl⟩
                    rw [← hdn] at VA NU
                    clear hdn hsv hnm hxm
                    go_wp2_with (first
                      | (go_at_call 13; (with_reducible refine VA.out.mono ?_); rintro e w19 ⟨rfl, hw19⟩; subst hw19)
                      | (go_at_call 14; (with_reducible refine (NU.out _).mono ?_); rintro e w19 ⟨rfl, hw19⟩; subst hw19))
                    go_roundg (3 - (m + 1))
                    case measure => omega
                    case rel => exact ⟨m + 1, by rw [hsn]; go_num, by go_num, by omega, by omega, HBQ⟩
                  · have hmz : ¬ (m : Int) < 3 := by omega
                    obtain rfl : m = 3 := by omega
                    have hs3 : sumN P' 3 = ca := by rw [HCA.out]; exact sumN_all PN.out.dev PN.out.spl
                    rw [hs3]
                    obtain ⟨hpok, hpf⟩ := put_sum (t := t') (v := v') (vs := vs) (u := decB ca)
                    rw [← HVS.out] at hpf
                    have HPO := Lib.hid (show putOk (flS t' v v' vs vs' d 1) ⟨#[115, 117, 109]⟩ [nX 0, nX 1, nX 2] = true from hpok)
                    have HPF := Lib.hid hpf
                    have HSQ := Lib.hid (HS2.out.1.later HBQ.out)
                    have HRQ := Lib.hid (HS2.out.2.later HBQ.out)
                    clear hs3 hpok hpf HS2
                    go_wp2_with (first
                      | (go_at_call 8; (with_reducible refine (node_any _ _ 3 3 _).mono ?_); rintro e w14 ⟨rfl, h14⟩; have B14 := Lib.hid h14; clear h14)
                      | (go_at_call 9; (with_reducible refine (decimal_any ca HCA9.out _).mono ?_); rw [← HVS.out]; rintro e w16 ⟨rfl, h16⟩; have B16 := Lib.hid (B14.out.trans (h16.mono B14.out.size)); clear h16)
                      | (go_at_call 7; (with_reducible refine (st_put0 (HSQ.out.later B16.out) (by decide) ⟨#[115, 117, 109]⟩ vs' _ 3 3 [nX 0, nX 1, nX 2] rfl (by decide) (names_row (l := [nX 0, nX 1, nX 2]) (HRQ.out.later B16.out).cnt) HPO.out).mono ?_); rintro e w18 ⟨rfl, hs, hm⟩; have S18 := Lib.hid (show St w1 f (flS t' v v' vs vs' d 2) 7 w18 from by rw [show putF (flS t' v v' vs vs' d 1) ⟨#[115, 117, 109]⟩ [nX 0, nX 1, nX 2] vs' = sesF t' v' noneD vs' false from HPF.out] at hs; exact st_seven hs rfl); have R18 := Lib.hid (HRQ.out.mv ((Mv.of_below B16.out).trans hm)); clear hs hm)
                      | (go_at_call 11; (with_reducible refine (St.staleQ HD.out S18.out).mono ?_); rintro e w20 ⟨sao2, scap2, rfl, hr20, hb20⟩; have R20 := Lib.hid hr20; have B20 := Lib.hid hb20; clear hr20 hb20))
                    go_roundg (3 - 2)
                    case measure => omega
                    case rel => exact ⟨2, 2, sao2, scap2, by go_num, by go_num, by omega, by omega, by omega, by omega, R20, Lib.hid ⟨S18.out.later B20.out, R18.out.later B20.out⟩⟩
            · obtain rfl : q = 2 := by omega
              have hz2 : snS 2 = 0 := rfl
              rw [hz2]
              obtain ⟨ao7, cap7, hv7, hr7⟩ := HS.out.2.argA
              obtain ⟨n7, hn7⟩ : ∃ n, n = all'.length := ⟨_, rfl⟩
              rw [← hn7] at hv7
              subst hv7
              have N7 := Lib.hid (show all'.length = n7 from hn7.symm)
              have N7L := Lib.hid (show n7 ≤ 26 from by rw [hn7]; have := PN.out.len; have := PN.out.le; omega)
              have R7 := Lib.hid hr7
              have BWR := Lib.hid (B1.out.trans (HS.out.1.2.mono B1.out.size))
              have LE1 := Lib.hid (show LensAt wr ∧ 0 < wr.heap.size from ⟨lens_later LE.out H0.out BWR.out, Nat.lt_of_lt_of_le H0.out BWR.out.size⟩)
              have VA := Lib.hid (show Calls Tryz.prog 13 #[.pointer (some ⟨f, 0, none⟩), .string ⟨#[115, 117, 109]⟩] wr fun e w' => e = .returned (.tuple #[.string vs', .bool true]) ∧ wr = w' from HS.out.1.value sumB (v := vs') (ok := true) val_sum)
              clear hr7 hn7 hkq HR
              go_wp2_with (first
                | (go_at_call 13; (with_reducible refine VA.out.mono ?_); rintro e w19 ⟨rfl, hw19⟩; subst hw19)
                | (go_at_call 12; (with_reducible refine (streams_any all' ao7 n7 cap7 _ N7.out (by have := N7L.out; omega) R7.out LE1.out.1 LE1.out.2).mono ?_); rw [← HCA.out]; rintro e w21 ⟨xao, xcap, rfl, h21⟩; have B21 := Lib.hid h21; clear h21)
                | (go_at_call 9; (with_reducible refine (decimal_any ca HCA9.out _).mono ?_); rw [← HVS.out]; rintro e w22 ⟨rfl, h22⟩; have B22 := Lib.hid (B21.out.trans (h22.mono B21.out.size)); clear h22))
              go_roundg (25 - (j + 1))
              case measure => omega
              case rel => exact ⟨j + 1, all', P', vp', t', v', vs', by go_num, by omega, by omega, Lib.hid ⟨HS.out.1.later B22.out, HS.out.2.later B22.out, PN.out, HTX'.out⟩⟩
        · have hlz : ¬ ((j : Int) < (ln : Int) ∧ (j : Int) < 25) := by omega
          by_cases hjl : j < ln
          · have jl : (j : Int) < (ln : Int) := by omega
            have j25 : ¬ (j : Int) < 25 := by omega
            go_wp2_with fail
            go_ret
            exact ⟨rfl, BW.out⟩
          · have jl : ¬ (j : Int) < (ln : Int) := by omega
            go_wp2_with fail
            go_ret
            exact ⟨rfl, BW.out⟩

end Go.Proofs.YtffifhbldcjelaaGreatDoor
