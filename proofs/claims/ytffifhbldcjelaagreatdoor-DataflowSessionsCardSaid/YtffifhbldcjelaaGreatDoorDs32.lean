/-
  session.counted: the streams, one after another.
-/
import Derived.Scope
import Derived.WalkMore
import Derived.Test.YtffifhbldcjelaaGreatDoorDs18
import Derived.Test.YtffifhbldcjelaaGreatDoorDs22
import Derived.Test.YtffifhbldcjelaaGreatDoorDs23
import Derived.Test.YtffifhbldcjelaaGreatDoorDs24
import Derived.Test.YtffifhbldcjelaaGreatDoorDs31
import Derived.Test.YtffifhbldcjelaaGreatDoorDs12

/-! session.counted: the streams, one after another. -/
namespace Go.Proofs.YtffifhbldcjelaaGreatDoor
set_option linter.unusedVariables false
set_option linter.unusedSimpArgs false
set_option linter.unusedSectionVars false
open Go.RowKit Go.Shelf Go.Lib Go.Sort

attribute [local go_sem] Oper.semAt_some

section
variable {F : Fence} {n : Nat} {P : Program} {ops : Array Oper} {Q : Exit → Act → World → Prop} {rest : List Oper} {a : Act} {w w' : World} {dst : Option Tmp} {ty T : TypeId} {pos : String} {af : Array Edge} {x y : Operand} {p q v : Value}
theorem wpListIn_loadL (hro : F.round = none) (hx : a.eval x = p) (hrun : (Instr.loadAt T p).run P w = .ok v w') (hK : wpListIn F n P ops Q rest (a.put dst v) w') : wpListIn F n P ops Q ({ dst := dst, op := .load T x, type := ty, pos := pos, after := af, guard := none } :: rest) a w := by
  refine wpListIn_plain rfl fun K' hK' => ?_
  unfold Oper.wpIn
  refine ⟨fun f hf => by simp [Oper.about] at hf, ?_⟩
  simp [hro, Oper.semAt_none, execOp, hx, hrun, Result.andThen, Oper.uponIn]
  exact hK' _ _ hK
theorem wpListIn_storeL (hro : F.round = none) (hx : a.eval x = p) (hy : a.eval y = v) (hrun : (Instr.storeAt T p v).run P w = .ok () w') (hK : wpListIn F n P ops Q rest a w') : wpListIn F n P ops Q ({ dst := none, op := .store T x y, type := ty, pos := pos, after := af, guard := none } :: rest) a w := by
  refine wpListIn_plain rfl fun K' hK' => ?_
  unfold Oper.wpIn
  refine ⟨fun f hf => by simp [Oper.about] at hf, ?_⟩
  simp [hro, Oper.semAt_none, execOp, hx, hy, hrun, Result.andThen, Oper.uponIn]
  exact hK' _ _ hK
end

/-- what is known behind plays -/
def runS (s : LS) (l : List PF) : LS := l.foldl lookS s
/-- how many count -/
def strm : LS → List PF → Nat
  | _, [] => 0
  | s, p :: l => (if lookB s p = true then 1 else 0) + strm (lookS s p) l
theorem strm_snoc (p : PF) : ∀ (l : List PF) (s : LS), strm s (l ++ [p]) = strm s l + (if lookB (runS s l) p = true then 1 else 0)
  | [], s => by
    simp [strm, runS]
    rfl
  | a :: l, s => by
    show _ + strm (lookS s a) (l ++ [p]) = _ + strm (lookS s a) l + _
    rw [strm_snoc p l]
    rw [show runS s (a :: l) = runS (lookS s a) l from rfl, Nat.add_assoc]
theorem runS_snoc (p : PF) (l : List PF) (s : LS) : runS s (l ++ [p]) = lookS (runS s l) p := by unfold runS; rw [List.foldl_append]; rfl
theorem strm_len : ∀ (l : List PF) (s : LS), strm s l ≤ l.length
  | [], _ => Nat.le_refl _
  | p :: l, s => by
    have := strm_len l (lookS s p)
    show (if lookB s p = true then 1 else 0) + strm (lookS s p) l ≤ l.length + 1
    split <;> omega
def s0L : LS := ⟨0, 0, 0, fun _ => 0⟩

/-- a stream -/
structure StE where
  dev : Int
  id : Int
  acc : Int
  rcd : Int
  ter : Int
  sec : Int
  per : Int
  ses : Int
  mrk : Int
def encSl (g : StE) : List Value := [.int .i64 g.dev, .int .i64 g.id, .int .i64 g.acc, .int .i64 g.rcd, .int .i64 g.ter, .int .i64 g.sec, .int .i64 g.per, .int .i64 g.ses, .int .i64 g.mrk]
def encSt (g : StE) : Array Value := #[.agg #[.int .i64 g.dev, .int .i64 g.id, .int .i64 g.acc, .int .i64 g.rcd, .int .i64 g.ter, .int .i64 g.sec, .int .i64 g.per, .int .i64 g.ses, .int .i64 g.mrk]]

theorem counted_any (v : Value) (hv : ∃ ao n cap, v = .slice ao n cap) (w : World) : Calls Tryz.prog 37 #[v] w fun e w' => e = .returned (.func (.func 52) #[] #[.pointer (some ⟨w.heap.size, 0, none⟩)]) ∧ w' = w.alloc (.cells #[v] 96) := by
  obtain ⟨ao, n, cap, rfl⟩ := hv
  go_enter Tryz.func37, Tryz.ntmps37
  go_wp2
  go_ret
  exact ⟨rfl, rfl⟩

/-- the blocks that the iterator reads -/
def SeqX (bx : Nat) (ao : Option Addr) (k : Nat) : Prop := k = bx ∨ ∃ off, ao = some ⟨k, off, none⟩
structure CI (w W wr : World) (bx N cap : Nat) (ao : Option Addr) (S : List PF) (J : List StE → (Nat → Prop) → World → Prop) (x : Nat) (s : LS) (c : Nat) (pre : List StE) (O1 : Nat → Prop) (mb : Nat) (ses : Int) (G : Int → Option Value) : Prop where
  inv : J pre O1 wr
  box : Boxed wr bx 96 (.slice ao N cap)
  row : RowK 18 encP wr ao S
  len : pre.length = c
  plr : Plr wr W.heap.size x s mb ses G
  nx : ∀ k, O1 k → ¬ SeqX bx ao k
  n1 : ¬ O1 x
  n2 : ¬ O1 mb
  lens : LensAt wr
  n0 : ¬ O1 0

theorem lens_chg {C : Nat → Prop} {w w' : World} (h : LensAt w) (hc : Chg C w w') (h0 : ¬ C 0) : LensAt w' := fun i hi => by
  obtain ⟨m, h1, h2, h3⟩ := h i hi
  exact ⟨m, h1, h2, hc.cell h3 h0⟩
theorem rowK_chg {C : Nat → Prop} {w w' : World} {ao : Option Addr} {l : List PF} (h : RowK 18 encP w ao l) (hc : Chg C w w') (h0 : ∀ k off, ao = some ⟨k, off, none⟩ → ¬ C k) : RowK 18 encP w' ao l := fun i x hx => by
  obtain ⟨b, off, e, h1, h2⟩ := h i x hx
  exact ⟨b, off, e, Nat.lt_of_lt_of_le h1 hc.size, fun j v hv => hc.cell (h2 j v hv) (h0 b off e)⟩
/-- the iterator's own blocks turn -/
theorem CI.chg {w W wr wc : World} {bx N cap : Nat} {ao : Option Addr} {S : List PF} {J : List StE → (Nat → Prop) → World → Prop} {x c : Nat} {s s' : LS} {pre : List StE} {O1 C : Nat → Prop} {mb mb' : Nat} {ses ses' : Int} {G G' : Int → Option Value}
    (h : CI w W wr bx N cap ao S J x s c pre O1 mb ses G) (hJ : ∀ s O A B C, J s O A → Chg C A B → (∀ k, C k → W.heap.size ≤ k ∧ ¬ O k) → J s O B) (hJO : ∀ s O A, J s O A → ∀ k, O k → k < A.heap.size)
    (hW : w.heap.size ≤ W.heap.size) (hX : ∀ k, SeqX bx ao k ∨ k = 0 → k < W.heap.size)
    (hc : Chg C wr wc) (hC : ∀ k, C k → k = x ∨ k = mb) (hp : Plr wc W.heap.size x s' mb' ses' G') (hm : mb' = mb ∨ wr.heap.size ≤ mb') : CI w W wc bx N cap ao S J x s' c pre O1 mb' ses' G' := by
  have nc : ∀ k, C k → W.heap.size ≤ k ∧ ¬ O1 k := fun k hk => by
    rcases hC k hk with rfl | rfl
    · exact ⟨h.plr.bx, h.n1⟩
    · exact ⟨h.plr.bm, h.n2⟩
  have nx : ∀ k, SeqX bx ao k ∨ k = 0 → ¬ C k := fun k hk hc => by
    have := (nc k hc).1
    have := hX k hk
    omega
  refine ⟨hJ _ _ _ _ _ h.inv hc (fun k hk => ⟨(nc k hk).1, (nc k hk).2⟩), Boxed.blk h.box (hc.block bx (Boxed.lt h.box) (nx bx (.inl (.inl rfl)))), rowK_chg h.row hc (fun k off e => nx k (.inl (.inr ⟨off, e⟩))), h.len, hp, h.nx, h.n1, ?_, lens_chg h.lens hc (nx 0 (.inr rfl)), h.n0⟩
  rcases hm with rfl | hm
  · exact h.n2
  · intro q
    have := hJO _ _ _ h.inv mb' q
    omega

/-- the loop's body had its turn -/
theorem CI.turn {w W wr wc : World} {bx N cap : Nat} {ao : Option Addr} {S : List PF} {J : List StE → (Nat → Prop) → World → Prop} {x c : Nat} {s : LS} {pre pre' : List StE} {O1 O2 : Nat → Prop} {mb : Nat} {ses : Int} {G : Int → Option Value}
    (h : CI w W wr bx N cap ao S J x s c pre O1 mb ses G) (hX : ∀ k, SeqX bx ao k ∨ k = 0 → k < W.heap.size) (hW : W.heap.size ≤ wr.heap.size)
    (hj : J pre' O2 wc) (hc : Chg O1 wr wc) (ho : ∀ k, O2 k → O1 k ∨ wr.heap.size ≤ k) (hl : pre'.length = c + 1) : CI w W wc bx N cap ao S J x s (c + 1) pre' O2 mb ses G := by
  have no : ∀ k, k < wr.heap.size → ¬ O1 k → ¬ O2 k := fun k h1 h2 h3 => by
    rcases ho k h3 with q | q
    · exact h2 q
    · omega
  exact ⟨hj, Boxed.blk h.box (hc.block bx (Boxed.lt h.box) (fun q => h.nx bx q (.inl rfl))), rowK_chg h.row hc (fun k off e q => h.nx k q (.inr ⟨off, e⟩)), hl,
    ⟨(hc.block x h.plr.lt h.n1).trans h.plr.blk, h.plr.map.kept (hc.block mb h.plr.map.lt h.n2), h.plr.ne, h.plr.bx, h.plr.bm, h.plr.vals⟩,
    fun k hk hx => no k (by have := hX k (.inl hx); omega) (fun q => h.nx k q hx) hk, no x h.plr.lt h.n1, no mb h.plr.map.lt h.n2, lens_chg h.lens hc h.n0, no 0 (by have := hX 0 (.inr rfl); omega) h.n0⟩

set_option maxRecDepth 100000 in
set_option maxHeartbeats 4000000 in
theorem counted_seq (n bx N cap : Nat) (ao : Option Addr) (S : List PF) (w : World) (hl : S.length = N) (hn : N ≤ 39) (hb : Boxed w bx 96 (.slice ao N cap)) (hrow : RowK 18 encP w ao S) (hlen : LensAt w) (hx0 : ∀ k, SeqX bx ao k ∨ k = 0 → k < w.heap.size) :
    SeqRel n Tryz.prog 52 #[.pointer (some ⟨bx, 0, none⟩)] encSt (fun k => SeqX bx ao k ∨ k = 0) (fun pre _ => pre.length < 39) (fun xs => xs.length = strm s0L S) w := by
  intro lp J O W hW hO hJ hJO hY h0
  have BX := Lib.hid (show Boxed W bx 96 (.slice ao N cap) from Boxed.blk hb (hW.block bx (Boxed.lt hb)))
  have RW := Lib.hid (hrow.later hW)
  have LE := Lib.hid (show LensAt W from fun i hi => by
    obtain ⟨m, h1, h2, h3⟩ := hlen i hi
    exact ⟨m, h1, h2, by rw [hW.cell (p := ⟨0, i, none⟩) (World.block_lt_of_cell? _ _ h3)]; exact h3⟩)
  have HO := Lib.hid hO
  have HJ := Lib.hid hJ
  have HJO := Lib.hid hJO
  have HX := Lib.hid (show ∀ k, SeqX bx ao k ∨ k = 0 → k < W.heap.size from fun k hk => Nat.lt_of_lt_of_le (hx0 k hk) hW.size)
  clear hJO hx0
  have HY := Lib.hid hY
  have H0 := Lib.hid h0
  have HS := Lib.hid hW.size
  have HL := Lib.hid hl
  clear hJ hY h0 hO hW hb hrow hlen hl
  have hmm := @run_makeMap Tryz.prog
  refine callsIn_of_wp Tryz.func52 rfl trivial ?_ rfl
  simp only [Tryz.ntmps52, List.size_toArray, List.length_cons, List.length_nil, Nat.reduceAdd, Nat.reduceSub, Array.replicate_succ, Array.replicate_zero, List.push_toArray, List.append_toArray, List.nil_append, List.cons_append]
  have M1 := Lib.hid (MapI.made W)
  with_reducible refine wpIn_wide.2 ?_
  with_reducible apply wp_scope_straight
  go_wp2_with fail
  obtain ⟨w1, hw1⟩ : ∃ w1, w1 = (W.alloc (.map #[] 0)).alloc (.cells #[.int .i64 0, .int .i64 0, .int .i64 0, .int .i64 0, .map (some W.heap.size)] 133) := ⟨_, rfl⟩
  have B1 := Lib.hid (show Below W.heap.size W w1 by rw [hw1]; exact ((Below.refl _ W).alloc (Nat.le_refl _) _).alloc (by simp) _)
  have S1 := Lib.hid (show w1.heap.size = W.heap.size + 2 by rw [hw1]; simp)
  have P1 := Lib.hid (show Plr w1 W.heap.size (W.heap.size + 1) s0L W.heap.size 0 (fun _ => none) from ⟨by
      rw [hw1]
      have := World.alloc_heap_new (W.alloc (.map #[] 0)) (.cells #[.int .i64 0, .int .i64 0, .int .i64 0, .int .i64 0, .map (some W.heap.size)] 133)
      rw [World.size_alloc] at this
      exact this, by
      rw [hw1]
      exact M1.out.later ((Below.refl _ _).alloc (Nat.le_refl _) _), by omega, by omega, Nat.le_refl _, fun _ => rfl⟩)
  rw [← hw1]
  clear hw1 M1
  have BX1 := Lib.hid (show Boxed w1 bx 96 (.slice ao N cap) from Boxed.blk BX.out (B1.out.block bx (Boxed.lt BX.out)))
  have c1 : w1.cell? ⟨bx, 0, none⟩ = some (.slice ao N cap) := Boxed.cell BX1.out
  have I1 := Lib.hid (show CI w W w1 bx N cap ao S J (W.heap.size + 1) (runS s0L (S.take 0)) (strm s0L (S.take 0)) [] O W.heap.size 0 (fun _ => none) from
    ⟨HJ.out _ _ _ _ (fun _ => False) H0.out (chgB B1.out) (fun k hk => hk.elim), BX1.out, RW.out.later B1.out, rfl, P1.out, fun k hk hx => (HO.out k hk).2 (.inl hx), fun hk => by have := (HO.out _ hk).1; have := HS.out; omega, fun hk => by have := (HO.out _ hk).1; have := HS.out; omega,
      fun i hi => by
        obtain ⟨m, h1, h2, h3⟩ := LE.out i hi
        exact ⟨m, h1, h2, by rw [B1.out.cell (p := ⟨0, i, none⟩) (World.block_lt_of_cell? _ _ h3)]; exact h3⟩, fun hk => (HO.out 0 hk).2 (.inr rfl)⟩)
  go_step3
  go_wp2_with fail
  have HSW := Lib.hid (show w.heap.size ≤ W.heap.size from HS.out)
  have HY1 := Lib.hid S1.out
  obtain ⟨x, hx⟩ : ∃ x, x = W.heap.size + 1 := ⟨_, rfl⟩
  rw [← hx] at I1 ⊢
  clear hx BX RW LE H0 B1 S1 P1 BX1 c1
  go_loopg [14] N (fun gh v14 wr => ∃ (j : Nat) (pre : List StE) (O1 : Nat → Prop) (mb : Nat) (ses : Int) (G : Int → Option Value), v14 = .int .i64 j ∧ j ≤ N ∧ N - j ≤ gh ∧ Hid (CI w W wr bx N cap ao S J x (runS s0L (S.take j)) (strm s0L (S.take j)) pre O1 mb ses G))
  case atStart => exact ⟨0, [], O, _, _, _, rfl, by omega, by omega, I1⟩
  case round =>
    obtain ⟨j, pre, O1, mb, ses, G, rfl, hj, hg, HI⟩ := hrel
    clear I1
    by_cases hlt : j < N
    · have hltz : (j : Int) < (N : Int) := by omega
      obtain ⟨f, hf⟩ : ∃ f, S[j]? = some f := ⟨_, List.getElem?_eq_getElem (by rw [HL.out]; exact hlt)⟩
      obtain ⟨b, off, hao, hbl, hft⟩ := ft_row HI.out.row hf
      have HF := Lib.hid hf
      have HAO := Lib.hid hao
      have LD := Lib.hid (ld134 hft)
      have ST := Lib.hid (put134_run wr f)
      clear hft hf hbl
      subst hao
      go_upto_region 4 with (first
        | ((with_reducible refine wpList_loadL ?_ LD.out ?_); focus rfl)
        | ((with_reducible refine wpList_storeL ?_ ?_ ST.out ?_); (focus rfl); (focus rfl)))
      have B4 := Lib.hid (put134_below wr f)
      have F4 := Lib.hid (put134_at wr f)
      have HFX := Lib.hid (show wr.heap.size ≠ x ∧ wr.heap.size ≠ mb from ⟨by have := HI.out.plr.lt; omega, by have := HI.out.plr.map.lt; omega⟩)
      obtain ⟨w4, hw4⟩ : ∃ w4, w4 = put134 wr f := ⟨_, rfl⟩
      obtain ⟨fb, hfb⟩ : ∃ fb, fb = wr.heap.size := ⟨_, rfl⟩
      have HFB := Lib.hid hfb
      rw [← hw4] at B4 F4 ⊢
      rw [← HFB.out] at F4 HFX ⊢
      have I4 := Lib.hid (HI.out.chg (C := fun _ => False) HJ.out HJO.out HSW.out HX.out (chgB B4.out) (fun k hk => hk.elim) (HI.out.plr.later B4.out) (.inl rfl))
      clear hw4 hfb HI B4 LD ST HFB
      obtain ⟨s, hs⟩ : ∃ s, s = runS s0L (S.take j) := ⟨_, rfl⟩
      obtain ⟨c, hc⟩ : ∃ c, c = strm s0L (S.take j) := ⟨_, rfl⟩
      have HTK := Lib.hid (show S.take (j + 1) = S.take j ++ [f] from by rw [List.take_add_one, HF.out]; rfl)
      have HRS := Lib.hid (show runS s0L (S.take (j + 1)) = lookS s f from by rw [HTK.out, runS_snoc, hs])
      have HST := Lib.hid (show strm s0L (S.take (j + 1)) = c + (if lookB s f = true then 1 else 0) from by rw [HTK.out, strm_snoc, hs, hc])
      have HCL := Lib.hid (show c ≤ j from by
        rw [hc]
        have h1 := strm_len (S.take j) s0L
        have h2 : (S.take j).length ≤ j := by rw [List.length_take]; omega
        omega)
      rw [← hs, ← hc] at I4
      clear hs hc HTK
      have LD := Lib.hid (ld134 (ft_blk F4.out))
      have LK := Lib.hid (look_any f _ _ _ _ _ _ w4 I4.out.plr)
      obtain ⟨bb, hbb⟩ : ∃ bb, bb = lookB s f := ⟨_, rfl⟩
      rw [← hbb] at LK HST
      have HBB := Lib.hid hbb
      clear hbb
      obtain ⟨ag, hag⟩ : ∃ ag, ag = (encP f).toArray := ⟨_, rfl⟩
      rw [← hag] at LD LK ⊢
      clear hag
      go_cut [21] (fun t wc => t = .bool (!bb) ∧ (∃ mb' ses' G', Plr wc W.heap.size x (lookS s f) mb' ses' G' ∧ (mb' = mb ∨ w4.heap.size ≤ mb')) ∧ Chg (fun k => k = x ∨ k = mb) w4 wc)
      case first =>
        as_aux_lemma =>
          go_wp2_with (first
            | ((with_reducible refine wpList_loadL ?_ LD.out ?_); focus rfl)
            | (go_at_call 53; refine LK.out.mono ?_; rintro e w5 ⟨rfl, h5, h6⟩; have H5 := Lib.hid h5; have H6 := Lib.hid h6; clear h5 h6))
          go_meet
          exact ⟨rfl, H5.out, H6.out⟩
      obtain ⟨rfl, ⟨mb5, ses5, G5, hp5, hm5⟩, hc5⟩ := hcut
      obtain ⟨w5, rfl⟩ : ∃ w5 : World, w5 = wc := ⟨_, rfl⟩
      have I5 := Lib.hid (I4.out.chg (C := fun k => k = x ∨ k = mb) HJ.out HJO.out HSW.out HX.out hc5 (fun k hk => hk) hp5 hm5)
      have P5 := Lib.hid (show PlyAt w5 fb f from (hc5.block fb F4.out.lt (fun q => by rcases q with q | q; exact HFX.out.1 q; exact HFX.out.2 q)).trans F4.out)
      clear hp5 hm5 hc5 I4 F4 LD LK HFX
      rcases bb with _ | _
      · go_wp2_with fail
        go_roundg (N - (j + 1))
        case measure => omega
        case rel => exact ⟨j + 1, pre, O1, mb5, ses5, G5, by go_num, by omega, by omega, (show Hid _ from by have := I5.out; rw [HRS.out, HST.out]; exact this)⟩
      · have p4 := P5.out.cell (i := 4) rfl
        have PO := Lib.hid (perOf_any (f.n 4) w5 I5.out.lens)
        go_upto_region 6 with (go_at_call 54; refine PO.out.mono ?_; rintro e w6 ⟨pa, pb, pc, pk, rfl, h6⟩; have H6 := Lib.hid h6; clear h6)
        have B6 := Lib.hid (show Below w5.heap.size w5 w6 from by rw [H6.out]; exact below_drewN (Below.refl _ _) pk)
        have I6 := Lib.hid (I5.out.chg (C := fun _ => False) HJ.out HJO.out HSW.out HX.out (chgB B6.out) (fun k hk => hk.elim) (I5.out.plr.later B6.out) (.inl rfl))
        have P6 := Lib.hid (P5.out.later B6.out)
        clear I5 P5 B6 H6 PO p4
        with_reducible refine (wpIn_wide (n := n)).1 ?_
        have P7 := Lib.hid (P6.out.later (Below.refl _ w6).drew)
        have d6 := P7.out.cell (i := 6) rfl
        have d1 := P7.out.cell (i := 1) rfl
        have d5 := P7.out.cell (i := 5) rfl
        have d7 := P7.out.cell (i := 7) rfl
        have d8 := P7.out.cell (i := 8) rfl
        have d4 := P7.out.cell (i := 4) rfl
        have I7 := Lib.hid (I6.out.chg (C := fun _ => False) HJ.out HJO.out HSW.out HX.out (Chg.drew _ w6) (fun k hk => hk.elim) (I6.out.plr.later (Below.refl _ w6).drew) (.inl rfl))
        have dx := I7.out.plr.cell.2.2.2.1
        clear I6 P6
        with_reducible refine wpIn_region_reads (base := 30) (m := 2) (L := #[true, true, true, true, true, true, true, true, true, true, true, true, true, true, true, true, true, true, true, true, true, true, true, true, true, false, false]) [.func (.yield lp) #[] #[], .pointer (some ⟨fb, 0, none⟩), .pointer (some ⟨fb, 6, none⟩), .int .i64 (f.n 6), .pointer (some ⟨fb, 0, none⟩), .pointer (some ⟨fb, 1, none⟩), .int .i64 (f.n 1), .pointer (some ⟨fb, 0, none⟩), .pointer (some ⟨fb, 5, none⟩), .int .i64 (f.n 5), .pointer (some ⟨fb, 0, none⟩), .pointer (some ⟨fb, 7, none⟩), .int .i64 (f.n 7), .pointer (some ⟨fb, 0, none⟩), .pointer (some ⟨fb, 8, none⟩), .int .i64 (f.n 8), .pointer (some ⟨fb, 0, none⟩), .pointer (some ⟨fb, 4, none⟩), .int .i64 (f.n 4), .int .i64 pa, .pointer (some ⟨x, 0, none⟩), .pointer (some ⟨x, 0, none⟩), .pointer (some ⟨x, 3, none⟩), .int .i64 ses5, .agg #[.int .i64 (f.n 6), .int .i64 (f.n 1), .int .i64 (f.n 5), .int .i64 (f.n 7), .int .i64 (f.n 8), .int .i64 (f.n 4), .int .i64 pa, .int .i64 ses5, .int .i64 1]] (by kernel_rfl) (by kernel_rfl) (by kernel_rfl) ?_ (by kernel_rfl) (by kernel_rfl) ?_ ?_
        · simp
        · intro i hi
          have hi' : i < 25 := hi
          have hcs : i = 0 ∨ i = 1 ∨ i = 2 ∨ i = 3 ∨ i = 4 ∨ i = 5 ∨ i = 6 ∨ i = 7 ∨ i = 8 ∨ i = 9 ∨ i = 10 ∨ i = 11 ∨ i = 12 ∨ i = 13 ∨ i = 14 ∨ i = 15 ∨ i = 16 ∨ i = 17 ∨ i = 18 ∨ i = 19 ∨ i = 20 ∨ i = 21 ∨ i = 22 ∨ i = 23 ∨ i = 24 := by omega
          clear hi hi'
          rcases hcs with rfl | rfl | rfl | rfl | rfl | rfl | rfl | rfl | rfl | rfl | rfl | rfl | rfl | rfl | rfl | rfl | rfl | rfl | rfl | rfl | rfl | rfl | rfl | rfl | rfl
          all_goals refine ⟨_, rfl, ?_, rfl⟩
          all_goals simp only [setAll, List.setIfInBounds_toArray, List.set_cons_succ, List.set_cons_zero]
          all_goals go_simp
        · simp only [setAll, List.setIfInBounds_toArray, List.set_cons_succ, List.set_cons_zero]
          obtain ⟨w7, hw7⟩ : ∃ w7, w7 = w6.drew := ⟨_, rfl⟩
          rw [← hw7] at I7 P7 ⊢
          have W7 := Lib.hid (show W.heap.size ≤ w7.heap.size from by have := I7.out.plr.lt; have := I7.out.plr.bx; omega)
          clear hw7 d6 d1 d5 d7 d8 d4 dx
          have hok : pre.length < 39 := by have := I7.out.len; have := HCL.out; omega
          obtain ⟨fn, tmps, assign, body, hy, hR⟩ := HY.out pre ⟨f.n 6, f.n 1, f.n 5, f.n 7, f.n 8, f.n 4, pa, ses5, 1⟩ O1 w7 hok I7.out.inv
          dsimp only [encSt] at hy
          have HRD := Lib.hid hR
          clear hR
          refine wpAnyIn_ready (rs := [25]) (by kernel_rfl) (by simp) (AllReadyIn.cons (o := _) rfl (fun K' hK => ?_) AllReadyIn.nil)
          go_simp
          refine ⟨fun h => absurd h (by simp [Fence.wide]), HRD.out.mono ?_⟩
          rintro e W3 ⟨rfl, O2, hj3, hc3, ho3⟩
          have I8 := Lib.hid (I7.out.turn HX.out W7.out hj3 hc3 ho3 (by rw [List.length_append, I7.out.len]; rfl))
          clear hj3 hc3 ho3 hy I7 P7 HRD hok
          refine hK _ _ ?_
          clear hK K'
          simp only [Act.put, List.setIfInBounds_toArray, List.set_cons_succ, List.set_cons_zero]
          refine wpAnyIn_ready (rs := [26]) (by kernel_rfl) (by simp) (AllReadyIn.cons (o := _) rfl (fun K' hK => ?_) AllReadyIn.nil)
          go_simp
          refine hK _ _ ?_
          clear hK K'
          simp only [Act.put, List.setIfInBounds_toArray, List.set_cons_succ, List.set_cons_zero]
          refine wpAnyIn_done (by kernel_rfl) ?_ _
          go_wp2_with fail
          go_roundg (N - (j + 1))
          case measure => omega
          case rel => exact ⟨j + 1, _, O2, mb5, ses5, G5, by go_num, by omega, by omega, (show Hid _ from by have := I8.out; rw [HRS.out, HST.out]; exact this)⟩
    · have hltz : ¬ (j : Int) < (N : Int) := by omega
      obtain rfl : j = N := by omega
      go_wp2_with fail
      go_end0
      have hS : S.take j = S := List.take_of_length_le (by have := HL.out; omega)
      exact ⟨⟨_, rfl⟩, pre, by rw [HI.out.len, hS], O1, HI.out.inv⟩

end Go.Proofs.YtffifhbldcjelaaGreatDoor
