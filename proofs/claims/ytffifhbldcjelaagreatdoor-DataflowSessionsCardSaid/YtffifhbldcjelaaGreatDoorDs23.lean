/-
  A play is looked at.
-/
import Derived.Test.YtffifhbldcjelaaGreatDoorDs21
import Derived.Test.YtffifhbldcjelaaGreatDoorDs09

/-! A play is looked at. -/
namespace Go.Proofs.YtffifhbldcjelaaGreatDoor
set_option linter.unusedVariables false
set_option linter.unusedSimpArgs false
open Go.RowKit Go.Shelf Go.Lib Go.Sort

def look1 (s : LS) (p : PF) : LS := if s.dev = p.n 6 then s else ⟨p.n 6, p.n 4, 0, fun _ => 0⟩
def look2 (s : LS) (p : PF) : LS := if 1800 < wrap64 (p.n 4 - s.last) then { s with g := fun _ => 0 } else s
def look3 (s : LS) (p : PF) : LS := { s with last := p.n 4 }
def lookNo (s : LS) (p : PF) : Bool := !qualB p || decide (p.n 4 < s.nd) || decide (5 ≤ s.g (p.n 7))
def look4 (s : LS) (p : PF) : LS := { s with nd := pend p, g := fun k => if k = p.n 7 then wrap64 (s.g (p.n 7) + 1) else s.g k }
/-- does the play count -/
def lookB (s : LS) (p : PF) : Bool := !lookNo (look3 (look2 (look1 s p) p) p) p
/-- what is known behind it -/
def lookS (s : LS) (p : PF) : LS := if lookB s p then look4 (look3 (look2 (look1 s p) p) p) p else look3 (look2 (look1 s p) p) p

def PlrE (w : World) (B x : Nat) (s : LS) : Prop := ∃ mb ses G, Plr w B x s mb ses G
theorem Plr.later {w w' : World} {B x mb : Nat} {s : LS} {ses : Int} {G : Int → Option Value} (h : Plr w B x s mb ses G) (hb : Below w.heap.size w w') : Plr w' B x s mb ses G :=
  ⟨(hb.block x (Array.getElem?_eq_some_iff.1 h.blk).1).trans h.blk, h.map.later hb, h.ne, h.bx, h.bm, h.vals⟩
theorem Plr.lt {w : World} {B x mb : Nat} {s : LS} {ses : Int} {G : Int → Option Value} (h : Plr w B x s mb ses G) : x < w.heap.size := (Array.getElem?_eq_some_iff.1 h.blk).1
theorem Plr.frozen {w : World} {B x mb : Nat} {s : LS} {ses : Int} {G : Int → Option Value} (h : Plr w B x s mb ses G) (i : Nat) : w.frozen? ⟨x, i, none⟩ = false := by
  unfold World.frozen?
  rw [show (⟨x, i, none⟩ : Addr).block = x from rfl, h.blk]
  simp [plrV]
theorem Plr.cell {w : World} {B x mb : Nat} {s : LS} {ses : Int} {G : Int → Option Value} (h : Plr w B x s mb ses G) :
    w.cell? ⟨x, 0, none⟩ = some (.int .i64 s.dev) ∧ w.cell? ⟨x, 1, none⟩ = some (.int .i64 s.last) ∧ w.cell? ⟨x, 2, none⟩ = some (.int .i64 s.nd) ∧ w.cell? ⟨x, 3, none⟩ = some (.int .i64 ses) ∧ w.cell? ⟨x, 4, none⟩ = some (.map (some mb)) :=
  ⟨cell_blk h.blk rfl, cell_blk h.blk rfl, cell_blk h.blk rfl, cell_blk h.blk rfl, cell_blk h.blk rfl⟩
theorem Plr.setLast {w : World} {B x mb : Nat} {s : LS} {ses : Int} {G : Int → Option Value} (h : Plr w B x s mb ses G) (v : Int) : Plr (w.setCell ⟨x, 1, none⟩ (.int .i64 v)) B x { s with last := v } mb ses G :=
  ⟨by have := h.blk; unfold plrV at this ⊢; simp [World.setCell, Array.getElem?_modify, this], h.map.kept (Below.heap_setCell _ _ _ _ (fun q => h.ne q.symm)), h.ne, h.bx, h.bm, h.vals⟩
theorem Plr.setNd {w : World} {B x mb : Nat} {s : LS} {ses : Int} {G : Int → Option Value} (h : Plr w B x s mb ses G) (v : Int) : Plr (w.setCell ⟨x, 2, none⟩ (.int .i64 v)) B x { s with nd := v } mb ses G :=
  ⟨by have := h.blk; unfold plrV at this ⊢; simp [World.setCell, Array.getElem?_modify, this], h.map.kept (Below.heap_setCell _ _ _ _ (fun q => h.ne q.symm)), h.ne, h.bx, h.bm, h.vals⟩
theorem set_blk {w : World} {b : Nat} {cs cs' : Array Value} {t : TypeId} (h : w.heap[b]? = some (.cells cs t (0, 0))) (i : Nat) (v : Value) (e : cs.setIfInBounds i v = cs') : (w.setCell ⟨b, i, none⟩ v).heap[b]? = some (.cells cs' t (0, 0)) := by
  subst e
  simp [World.setCell, Array.getElem?_modify, h]
theorem plr_fresh {w : World} {B x mb : Nat} {s : LS} {ses : Int} {G : Int → Option Value} (h : Plr w B x s mb ses G) (hB : B ≤ w.heap.size) (a l : Int) :
    (w.alloc (.map #[] 0)).cell? ⟨x, 0, none⟩ = some (.int .i64 s.dev) ∧ (w.alloc (.map #[] 0)).frozen? ⟨x, 0, none⟩ = false ∧ ((w.alloc (.map #[] 0)).setCell ⟨x, 0, none⟩ (.int .i64 a)).cell? ⟨x, 1, none⟩ = some (.int .i64 s.last) ∧ ((w.alloc (.map #[] 0)).setCell ⟨x, 0, none⟩ (.int .i64 a)).frozen? ⟨x, 1, none⟩ = false ∧ (((w.alloc (.map #[] 0)).setCell ⟨x, 0, none⟩ (.int .i64 a)).setCell ⟨x, 1, none⟩ (.int .i64 l)).cell? ⟨x, 2, none⟩ = some (.int .i64 s.nd) ∧ (((w.alloc (.map #[] 0)).setCell ⟨x, 0, none⟩ (.int .i64 a)).setCell ⟨x, 1, none⟩ (.int .i64 l)).frozen? ⟨x, 2, none⟩ = false ∧ ((((w.alloc (.map #[] 0)).setCell ⟨x, 0, none⟩ (.int .i64 a)).setCell ⟨x, 1, none⟩ (.int .i64 l)).setCell ⟨x, 2, none⟩ (.int .i64 0)).cell? ⟨x, 3, none⟩ = some (.int .i64 ses) ∧ ((((w.alloc (.map #[] 0)).setCell ⟨x, 0, none⟩ (.int .i64 a)).setCell ⟨x, 1, none⟩ (.int .i64 l)).setCell ⟨x, 2, none⟩ (.int .i64 0)).frozen? ⟨x, 3, none⟩ = false ∧ (((((w.alloc (.map #[] 0)).setCell ⟨x, 0, none⟩ (.int .i64 a)).setCell ⟨x, 1, none⟩ (.int .i64 l)).setCell ⟨x, 2, none⟩ (.int .i64 0)).setCell ⟨x, 3, none⟩ (.int .i64 0)).cell? ⟨x, 4, none⟩ = some (.map (some mb)) ∧ (((((w.alloc (.map #[] 0)).setCell ⟨x, 0, none⟩ (.int .i64 a)).setCell ⟨x, 1, none⟩ (.int .i64 l)).setCell ⟨x, 2, none⟩ (.int .i64 0)).setCell ⟨x, 3, none⟩ (.int .i64 0)).frozen? ⟨x, 4, none⟩ = false ∧
    Plr ((((((w.alloc (.map #[] 0)).setCell ⟨x, 0, none⟩ (.int .i64 a)).setCell ⟨x, 1, none⟩ (.int .i64 l)).setCell ⟨x, 2, none⟩ (.int .i64 0)).setCell ⟨x, 3, none⟩ (.int .i64 0)).setCell ⟨x, 4, none⟩ (.map (some w.heap.size))) B x ⟨a, l, 0, fun _ => 0⟩ w.heap.size 0 (fun _ => none) ∧ Below B w ((((((w.alloc (.map #[] 0)).setCell ⟨x, 0, none⟩ (.int .i64 a)).setCell ⟨x, 1, none⟩ (.int .i64 l)).setCell ⟨x, 2, none⟩ (.int .i64 0)).setCell ⟨x, 3, none⟩ (.int .i64 0)).setCell ⟨x, 4, none⟩ (.map (some w.heap.size))) ∧ ∀ k, k < w.heap.size → k ≠ x → ((((((w.alloc (.map #[] 0)).setCell ⟨x, 0, none⟩ (.int .i64 a)).setCell ⟨x, 1, none⟩ (.int .i64 l)).setCell ⟨x, 2, none⟩ (.int .i64 0)).setCell ⟨x, 3, none⟩ (.int .i64 0)).setCell ⟨x, 4, none⟩ (.map (some w.heap.size))).heap[k]? = w.heap[k]? := by
  have k0 : (w.alloc (.map #[] 0)).heap[x]? = some (.cells #[(.int .i64 s.dev), (.int .i64 s.last), (.int .i64 s.nd), (.int .i64 ses), (.map (some mb))] 133 (0, 0)) := by rw [Below.heap_alloc _ _ _ h.lt]; exact h.blk
  have k1 : ((w.alloc (.map #[] 0)).setCell ⟨x, 0, none⟩ (.int .i64 a)).heap[x]? = some (.cells #[(.int .i64 a), (.int .i64 s.last), (.int .i64 s.nd), (.int .i64 ses), (.map (some mb))] 133 (0, 0)) := set_blk k0 0 _ rfl
  have k2 : (((w.alloc (.map #[] 0)).setCell ⟨x, 0, none⟩ (.int .i64 a)).setCell ⟨x, 1, none⟩ (.int .i64 l)).heap[x]? = some (.cells #[(.int .i64 a), (.int .i64 l), (.int .i64 s.nd), (.int .i64 ses), (.map (some mb))] 133 (0, 0)) := set_blk k1 1 _ rfl
  have k3 : ((((w.alloc (.map #[] 0)).setCell ⟨x, 0, none⟩ (.int .i64 a)).setCell ⟨x, 1, none⟩ (.int .i64 l)).setCell ⟨x, 2, none⟩ (.int .i64 0)).heap[x]? = some (.cells #[(.int .i64 a), (.int .i64 l), (.int .i64 0), (.int .i64 ses), (.map (some mb))] 133 (0, 0)) := set_blk k2 2 _ rfl
  have k4 : (((((w.alloc (.map #[] 0)).setCell ⟨x, 0, none⟩ (.int .i64 a)).setCell ⟨x, 1, none⟩ (.int .i64 l)).setCell ⟨x, 2, none⟩ (.int .i64 0)).setCell ⟨x, 3, none⟩ (.int .i64 0)).heap[x]? = some (.cells #[(.int .i64 a), (.int .i64 l), (.int .i64 0), (.int .i64 0), (.map (some mb))] 133 (0, 0)) := set_blk k3 3 _ rfl
  have k5 : ((((((w.alloc (.map #[] 0)).setCell ⟨x, 0, none⟩ (.int .i64 a)).setCell ⟨x, 1, none⟩ (.int .i64 l)).setCell ⟨x, 2, none⟩ (.int .i64 0)).setCell ⟨x, 3, none⟩ (.int .i64 0)).setCell ⟨x, 4, none⟩ (.map (some w.heap.size))).heap[x]? = some (.cells #[(.int .i64 a), (.int .i64 l), (.int .i64 0), (.int .i64 0), (.map (some w.heap.size))] 133 (0, 0)) := set_blk k4 4 _ rfl
  refine ⟨cell_blk k0 rfl, frz_blk k0, cell_blk k1 rfl, frz_blk k1, cell_blk k2 rfl, frz_blk k2, cell_blk k3 rfl, frz_blk k3, cell_blk k4 rfl, frz_blk k4, ⟨k5, ?_, by have := h.lt; omega, h.bx, hB, fun _ => rfl⟩, ?_, ?_⟩
  · have e : ∀ i v (W : World), MapI W w.heap.size (fun _ => none) → MapI (W.setCell ⟨x, i, none⟩ v) w.heap.size (fun _ => none) := fun i v W q => q.kept (Below.heap_setCell _ _ _ _ (by have := h.lt; show w.heap.size ≠ x; omega))
    exact e _ _ _ (e _ _ _ (e _ _ _ (e _ _ _ (e _ _ _ (MapI.made w)))))
  · exact ((((((Below.refl B w).alloc hB _).setCell (p := ⟨x, 0, none⟩) h.bx _).setCell (p := ⟨x, 1, none⟩) h.bx _).setCell (p := ⟨x, 2, none⟩) h.bx _).setCell (p := ⟨x, 3, none⟩) h.bx _).setCell (p := ⟨x, 4, none⟩) h.bx _
  · intro k k1 k2
    rw [Below.heap_setCell _ _ _ _ k2, Below.heap_setCell _ _ _ _ k2, Below.heap_setCell _ _ _ _ k2, Below.heap_setCell _ _ _ _ k2, Below.heap_setCell _ _ _ _ k2]
    exact Below.heap_alloc _ _ _ k1

theorem plr_look {w : World} {B x mb : Nat} {s : LS} {ses : Int} {G : Int → Option Value} (h : Plr w B x s mb ses G) (k : Int) :
    (Instr.lookup 131 (.map (some mb)) (.int .i64 k) false).run Tryz.prog w = .ok (.int .i64 (s.g k)) w := by
  have := h.map.lookup (T := 131) (E := 3) Tryz.underlying131 k (z := .int .i64 0) (Tryz.zeroValue3 w) false
  rw [this, ← h.vals k]
  rfl

theorem qualifies_grown (p : PF) (W : World) : Calls Tryz.prog 95 #[.agg (encP p).toArray] W fun e w' => e = .returned (.bool (qualB p)) ∧ ∃ q os', w' = grow (W.drewN q) os' :=
  (qualifies_any p W).mono fun e w' ⟨h, o, ho⟩ => ⟨h, 0, #[o], by rw [ho, alloc_eq_grow]; rfl⟩

section
variable {C : Nat → Prop} {B x m : Nat} {w wa wb : World}
theorem chgB (h : Below w.heap.size w wa) : Chg C w wa := ⟨h.os, h.tape, h.output, h.size, fun k hk _ => h.block k hk⟩
theorem Chg.thenB (h : Chg C w wa) (hb : Below wa.heap.size wa wb) : Chg C w wb := h.trans (chgB hb)
theorem Chg.step (h : Chg C w wa) (hb : Below B wa wb) (hk : ∀ k, k < wa.heap.size → k ≠ x → k ≠ m → wb.heap[k]? = wa.heap[k]?) (hx : C x) (hm : C m ∨ w.heap.size ≤ m) : Chg C w wb :=
  ⟨hb.os.trans h.os, hb.tape.trans h.tape, hb.output.trans h.output, Nat.le_trans h.size hb.size, fun k hk1 hk2 => by
    rw [hk k (Nat.lt_of_lt_of_le hk1 h.size) (fun q => hk2 (q ▸ hx)) (fun q => by
      rcases hm with hm | hm
      · exact hk2 (q ▸ hm)
      · omega)]
    exact h.block k hk1 hk2⟩
theorem Chg.setX (h : Chg C w wa) (hx : C x) (i : Nat) (v : Value) : Chg C w (wa.setCell ⟨x, i, none⟩ v) :=
  h.step (x := x) (m := x) ((Below.refl 0 wa).setCell (p := ⟨x, i, none⟩) (Nat.zero_le _) v) (fun k _ k1 _ => Below.heap_setCell _ _ _ _ k1) hx (.inl hx)
end

/-- while a play is looked at -/
def LkE (w0 wc : World) (B x bx mb0 : Nat) (p : PF) (s : LS) : Prop := (∃ mb ses G, Plr wc B x s mb ses G ∧ bx ≠ mb ∧ (mb = mb0 ∨ w0.heap.size ≤ mb)) ∧ PlyAt wc bx p ∧ Chg (fun k => k = x ∨ k = mb0) w0 wc

set_option maxRecDepth 100000 in
set_option maxHeartbeats 40000000 in
theorem look_any (p : PF) (s : LS) (B x mb : Nat) (ses : Int) (G : Int → Option Value) (w : World) (hP : Plr w B x s mb ses G) : Calls Tryz.prog 53 #[.pointer (some ⟨x, 0, none⟩), .agg (encP p).toArray] w fun e w' => e = .returned (.bool (lookB s p)) ∧ (∃ mb' ses' G', Plr w' B x (lookS s p) mb' ses' G' ∧ (mb' = mb ∨ w.heap.size ≤ mb')) ∧ Chg (fun k => k = x ∨ k = mb) w w' := by
  have P0 := Lib.hid (PlyAt.new w p)
  have B0 := Lib.hid ((Below.refl w.heap.size w).alloc (Nat.le_refl _) (.cells (encP p).toArray 134))
  have HP := Lib.hid (hP.later B0.out)
  have HX := Lib.hid (show B ≤ w.heap.size ∧ w.heap.size ≠ x ∧ w.heap.size ≠ mb from ⟨by have := hP.bx; have := hP.lt; omega, by have := hP.lt; omega, by have := hP.map.lt; omega⟩)
  clear hP
  go_enter Tryz.func53, Tryz.ntmps53
  go_upto_region 1 with (refine wpList_boxV rfl rfl rfl (box_agg _ _ _) ?_)
  obtain ⟨wa, hwa⟩ : ∃ wa, wa = w.alloc (.cells (encP p).toArray 134) := ⟨_, rfl⟩
  obtain ⟨bx, hbx⟩ : ∃ bx, bx = w.heap.size := ⟨_, rfl⟩
  have HBX := Lib.hid hbx
  rw [← hwa] at P0 B0 HP ⊢
  rw [← HBX.out] at P0 HX ⊢
  clear hwa hbx
  have p6 := P0.out.cell (i := 6) rfl
  have p4 := P0.out.cell (i := 4) rfl
  have x0 := HP.out.cell.1
  go_cut [1, 12] (fun _ c wc => c = .bool (s.dev != p.n 6) ∧ Plr wc B x s mb ses G ∧ Below w.heap.size w wc ∧ PlyAt wc bx p)
  case first =>
    as_aux_lemma =>
      go_quiet (fail)
      go_wp2_with fail
      go_meet
      exact ⟨rfl, HP.out.later (below_drewN (Below.refl _ _) nq), below_drewN B0.out nq, P0.out⟩
  obtain ⟨rfl, h1, h2, h3⟩ := hcut
  obtain ⟨wb, rfl⟩ : ∃ wb : World, wb = wc := ⟨_, rfl⟩
  have HP2 := Lib.hid h1
  have B2 := Lib.hid h2
  have P2 := Lib.hid h3
  clear HP B0 P0 p6 p4 x0 h1 h2 h3
  go_upto_if 12 with (fail)
  go_cut [12] (fun _ wc => LkE w wc B x bx mb p (look1 s p))
  case first =>
    as_aux_lemma =>
      by_cases hd : s.dev = p.n 6
      · have hd2 : (s.dev != p.n 6) = false := by rw [hd]; simp
        have HD := Lib.hid hd
        clear hd
        go_wp2_with fail
        go_meet
        exact ⟨⟨mb, ses, G, by unfold look1; rw [if_pos HD.out]; exact HP2.out, HX.out.2.2, .inl rfl⟩, P2.out, chgB B2.out⟩
      · have hd2 : (s.dev != p.n 6) = true := bne_iff_ne.2 hd
        have HD := Lib.hid hd
        clear hd
        have p6 := P2.out.cell (i := 6) rfl
        have p4 := P2.out.cell (i := 4) rfl
        have hmm := @run_makeMap Tryz.prog
        obtain ⟨a0, b0, a1, b1, a2, b2, a3, b3, a4, b4, hpl, hbl, hkp⟩ := plr_fresh HP2.out (by have := HP2.out.bx; have := HP2.out.lt; omega) (p.n 6) (p.n 4)
        have HP3 := Lib.hid hpl
        have B3 := Lib.hid hbl
        have K3 := Lib.hid hkp
        clear hpl hbl hkp
        go_upto_region 3 with (fail)
        obtain ⟨wx, hwx⟩ : ∃ wx, wx = ((((((wb.alloc (.map #[] 0)).setCell ⟨x, 0, none⟩ (.int .i64 (p.n 6))).setCell ⟨x, 1, none⟩ (.int .i64 (p.n 4))).setCell ⟨x, 2, none⟩ (.int .i64 0)).setCell ⟨x, 3, none⟩ (.int .i64 0)).setCell ⟨x, 4, none⟩ (.map (some wb.heap.size))) := ⟨_, rfl⟩
        rw [← hwx] at HP3 B3 K3 ⊢
        clear hwx a0 b0 a1 b1 a2 b2 a3 b3 a4 b4 p6 p4 hmm
        have BG := Lib.hid (begin_any HP3.out)
        go_wp2_with (go_at_call 94; refine BG.out.mono ?_; rintro e w5 ⟨rfl, s5, h5, h6, h7⟩; have H5 := Lib.hid h5; have H6 := Lib.hid h6; have H7 := Lib.hid h7; clear h5 h6 h7)
        go_meet
        have hlt : bx < wb.heap.size := P2.out.lt
        exact ⟨⟨wb.heap.size, s5, _, by unfold look1; rw [if_neg HD.out]; exact H5.out, by omega, .inr B2.out.size⟩, (H7.out bx HX.out.2.1 (by omega)).trans ((K3.out bx hlt HX.out.2.1).trans P2.out), ((chgB B2.out).step (x := x) (m := x) B3.out (fun k k1 k2 _ => K3.out k k1 k2) (.inl rfl) (.inl (.inl rfl))).step (x := x) (m := wb.heap.size) H6.out (fun k _ k2 k3 => H7.out k k2 k3) (.inl rfl) (.inr B2.out.size)⟩
  case rest =>
    obtain ⟨⟨mb2, ses2, G2, hp2, hn2, hm2⟩, hp, hb⟩ := hcut
    have HM2 := Lib.hid hm2
    clear hm2
    obtain ⟨wk, rfl⟩ : ∃ wk : World, wk = wc := ⟨_, rfl⟩
    have HP2 := Lib.hid hp2
    have HN2 := Lib.hid hn2
    have P2 := Lib.hid hp
    have B2 := Lib.hid hb
    clear hp2 hn2 hp hb
    obtain ⟨s1, hs1⟩ : ∃ s1, s1 = look1 s p := ⟨_, rfl⟩
    rw [← hs1] at HP2
    have HS1 := Lib.hid hs1
    clear hs1
    have p4 := P2.out.cell (i := 4) rfl
    have x1 := HP2.out.cell.2.1
    go_upto_region 4 with (fail)
    go_cut [33] (fun c wc => c = .bool (decide (1800 < wrap64 (p.n 4 - s1.last))) ∧ Plr wc B x s1 mb2 ses2 G2 ∧ Chg (fun k => k = x ∨ k = mb) w wc ∧ PlyAt wc bx p)
    case first =>
      as_aux_lemma =>
        go_quiet (fail)
        go_wp2_with fail
        go_meet
        exact ⟨rfl, HP2.out.later (below_drewN (Below.refl _ _) nq), B2.out.thenB (below_drewN (Below.refl _ _) nq), P2.out⟩
    obtain ⟨rfl, h1, h2, h3⟩ := hcut
    obtain ⟨wb, rfl⟩ : ∃ wb : World, wb = wc := ⟨_, rfl⟩
    have HP3 := Lib.hid h1
    have B3 := Lib.hid h2
    have P3 := Lib.hid h3
    clear HP2 B2 P2 p4 x1 h1 h2 h3
    go_upto_if 33 with (fail)
    go_cut [33] (fun _ wc => LkE w wc B x bx mb p (look2 s1 p))
    case first =>
      as_aux_lemma =>
        have HL2 := Lib.hid (show look2 s1 p = if 1800 < wrap64 (p.n 4 - s1.last) then { s1 with g := fun _ => 0 } else s1 from rfl)
        obtain ⟨z, hz⟩ : ∃ z, wrap64 (p.n 4 - s1.last) = z := ⟨_, rfl⟩
        rw [hz] at HL2 ⊢
        clear hz
        by_cases hd : 1800 < z
        · have BG := Lib.hid (begin_any HP3.out)
          go_wp2_with (go_at_call 94; refine BG.out.mono ?_; rintro e w5 ⟨rfl, s5, h5, h6, h7⟩; have H5 := Lib.hid h5; have H6 := Lib.hid h6; have H7 := Lib.hid h7; clear h5 h6 h7)
          go_meet
          exact ⟨⟨mb2, s5, _, by rw [HL2.out, if_pos hd]; exact H5.out, HN2.out, HM2.out⟩, (H7.out bx HX.out.2.1 HN2.out).trans P3.out, B3.out.step (x := x) (m := mb2) H6.out (fun k _ k2 k3 => H7.out k k2 k3) (.inl rfl) (HM2.out.imp (fun q => .inr q) id)⟩
        · go_wp2_with fail
          go_meet
          exact ⟨⟨mb2, ses2, G2, by rw [HL2.out, if_neg (by omega)]; exact HP3.out, HN2.out, HM2.out⟩, P3.out, B3.out⟩
    case rest =>
      obtain ⟨⟨mb3, ses3, G3, hp2, hn2, hm3⟩, hp, hb⟩ := hcut
      clear HM2
      have HM3 := Lib.hid hm3
      clear hm3
      obtain ⟨wl, rfl⟩ : ∃ wl : World, wl = wc := ⟨_, rfl⟩
      clear HP3 P3 B3
      have HP3 := Lib.hid hp2
      have HN3 := Lib.hid hn2
      have P3 := Lib.hid hp
      have B3 := Lib.hid hb
      clear hp2 hn2 hp hb HN2
      obtain ⟨s2, hs2⟩ : ∃ s2, s2 = look2 s1 p := ⟨_, rfl⟩
      rw [← hs2] at HP3
      have HS2 := Lib.hid hs2
      clear hs2
      have p4 := P3.out.cell (i := 4) rfl
      have x1 := HP3.out.cell.2.1
      have f1 := HP3.out.frozen 1
      have HP4 := Lib.hid (HP3.out.setLast (p.n 4))
      have P4 := Lib.hid (show PlyAt (wl.setCell ⟨x, 1, none⟩ (.int .i64 (p.n 4))) bx p from (Below.heap_setCell _ _ _ _ HX.out.2.1).trans P3.out)
      have B4 := Lib.hid (B3.out.setX (x := x) (.inl rfl) 1 (.int .i64 (p.n 4)))
      go_upto_region 7 with (fail)
      obtain ⟨wm, hwm⟩ : ∃ wm, wm = wl.setCell ⟨x, 1, none⟩ (.int .i64 (p.n 4)) := ⟨_, rfl⟩
      rw [← hwm] at HP4 P4 B4 ⊢
      clear hwm HP3 P3 B3 p4 x1 f1
      obtain ⟨s3, hs3⟩ : ∃ s3 : LS, s3 = look3 s2 p := ⟨_, rfl⟩
      have HS3 := Lib.hid hs3
      replace HP4 : Hid (Plr wm B x s3 mb3 ses3 G3) := by rw [hs3]; exact HP4
      clear hs3
      have HQ := Lib.hid (show lookNo s3 p = (!qualB p || decide (p.n 4 < s3.nd) || decide (5 ≤ s3.g (p.n 7))) from rfl)
      obtain ⟨no, hno⟩ : ∃ no, no = lookNo s3 p := ⟨_, rfl⟩
      rw [← hno] at HQ
      have HNO := Lib.hid hno
      clear hno
      go_cut [65] (fun c wc => c = .bool no ∧ ∃ n os, wc = grow (wm.drewN n) os)
      case first =>
        as_aux_lemma =>
          have MIX : Hid (Tryz.prog.follows .mixedOrders = true) := by show _ = _; kernel_rfl
          have GB := Lib.hid (fun (n : Nat) (os : Array Obj) => (show Below wm.heap.size wm (grow (wm.drewN n) os) from below_grown wm n os))
          have CE := Lib.hid (fun (n : Nat) (os : Array Obj) => P4.out.later (GB.out n os))
          have p4 := fun n os => (CE.out n os).cell (i := 4) rfl
          have p7 := fun n os => (CE.out n os).cell (i := 7) rfl
          have XE := Lib.hid (fun (n : Nat) (os : Array Obj) => HP4.out.later (GB.out n os))
          have x2 := fun n os => (XE.out n os).cell.2.2.1
          have x4 := fun n os => (XE.out n os).cell.2.2.2.2
          have lk := fun n os => plr_look (XE.out n os) (p.n 7)
          have QA := Lib.hid (fun (n : Nat) (os : Array Obj) => qualifies_grown p (grow (wm.drewN n) os))
          obtain ⟨nd, hnd⟩ : ∃ nd, s3.nd = nd := ⟨_, rfl⟩
          obtain ⟨gg, hgg⟩ : ∃ gg, s3.g (p.n 7) = gg := ⟨_, rfl⟩
          obtain ⟨q, hq⟩ : ∃ q, qualB p = q := ⟨_, rfl⟩
          rw [hnd] at HQ x2
          rw [hgg] at HQ lk
          rw [hq] at HQ QA
          clear hnd hgg hq
          have LDQ := Lib.hid (show ∀ w', (∃ q : GrownBy, w' = grow (wm.drewN q.n) q.os) → (Instr.loadAt 134 (.pointer (some ⟨bx, 0, none⟩))).run Tryz.prog w' = .ok (.agg (encP p).toArray) w' from by
            rintro w' ⟨q, rfl⟩
            exact ld134 (ft_blk (CE.out q.n q.os)))
          obtain ⟨ag, hag⟩ : ∃ ag, ag = (encP p).toArray := ⟨_, rfl⟩
          rw [← hag] at LDQ QA
          clear hag
          rcases q with _ | _
          · as_aux_lemma =>
              refine wp_region_quiet_grown MIX.out (by kernel_rfl) ?_
              refine wpQuiet_loadV rfl rfl rfl LDQ.out ?_
              repeat ((with_reducible refine wpQuiet_step ?_); intro K hK; go_simp; first | (refine hK _ ?_; clear hK K) | (apply Exists.intro; refine ⟨fun _ => ?_, hK _ ?_⟩; (first | (go_at_call 95; refine Calls.grown_of (QA.out _ _))); clear hK K))
              refine wpQuiet_nil ?_
              rintro _ ⟨⟨nq, osq⟩, rfl⟩
              go_wp2_with fail
              go_meet
              exact ⟨congrArg Value.bool (by rw [HQ.out]; rfl), nq, osq, rfl⟩
          · by_cases h2 : p.n 4 < nd
            · have d2 : decide (p.n 4 < nd) = true := decide_eq_true h2
              have H2 := Lib.hid h2
              clear h2
              as_aux_lemma =>
                refine wp_region_quiet_grown MIX.out (by kernel_rfl) ?_
                refine wpQuiet_loadV rfl rfl rfl LDQ.out ?_
                iterate 12 ((with_reducible refine wpQuiet_step ?_); intro K hK; go_simp; first | (refine hK _ ?_; clear hK K) | (apply Exists.intro; refine ⟨fun _ => ?_, hK _ ?_⟩; (first | (go_at_call 95; refine Calls.grown_of (QA.out _ _))); clear hK K))
                clear p4 p7 x2 x4 lk
                repeat ((with_reducible refine wpQuiet_step ?_); intro K hK; go_simp; first | (refine hK _ ?_; clear hK K) | (apply Exists.intro; refine ⟨fun _ => ?_, hK _ ?_⟩; (fail); clear hK K))
                refine wpQuiet_nil ?_
                rintro _ ⟨⟨nq, osq⟩, rfl⟩
                go_wp2_with fail
                go_meet
                exact ⟨congrArg Value.bool (by rw [HQ.out, decide_eq_true H2.out]; rfl), nq, osq, rfl⟩
            · have d2 : decide (p.n 4 < nd) = false := decide_eq_false h2
              have H2 := Lib.hid h2
              clear h2
              as_aux_lemma =>
                refine wp_region_quiet_grown MIX.out (by kernel_rfl) ?_
                refine wpQuiet_loadV rfl rfl rfl LDQ.out ?_
                repeat ((with_reducible refine wpQuiet_step ?_); intro K hK; go_simp; first | (refine hK _ ?_; clear hK K) | (apply Exists.intro; refine ⟨fun _ => ?_, hK _ ?_⟩; (first | (go_at_call 95; refine Calls.grown_of (QA.out _ _))); clear hK K))
                refine wpQuiet_nil ?_
                rintro _ ⟨⟨nq, osq⟩, rfl⟩
                go_wp2_with fail
                go_meet
                exact ⟨congrArg Value.bool (by rw [HQ.out, decide_eq_false (show ¬ p.n 4 < nd by have := H2.out; omega)]; rfl), nq, osq, rfl⟩
      case rest =>
        obtain ⟨rfl, nq, osq, hwn⟩ := hcut
        obtain ⟨wn, hwc⟩ : ∃ wn, wn = wc := ⟨_, rfl⟩
        rw [← hwc] at hwn ⊢
        have GB := Lib.hid (show Below wm.heap.size wm wn from by rw [hwn]; exact below_grown wm nq osq)
        clear hwn hwc
        have HP5 := Lib.hid (HP4.out.later GB.out)
        have P5 := Lib.hid (P4.out.later GB.out)
        have B5 := Lib.hid (B4.out.thenB GB.out)
        have LB := Lib.hid (show lookB s p = !no by unfold lookB; rw [← HS1.out, ← HS2.out, ← HS3.out, ← HNO.out])
        have LS := Lib.hid (show lookS s p = if (!no) = true then look4 s3 p else s3 by unfold lookS; rw [LB.out, ← HS1.out, ← HS2.out, ← HS3.out])
        clear HP4 P4 B4 GB HS1 HS2 HS3 HNO HQ
        rcases no with _ | _
        · have EA := Lib.hid (fun W => end_any p W)
          have LD := Lib.hid (ld134 (ft_blk P5.out))
          have L4 := Lib.hid (show look4 s3 p = { s3 with nd := pend p, g := fun k => if k = p.n 7 then wrap64 (s3.g (p.n 7) + 1) else s3.g k } from rfl)
          obtain ⟨pe, hpe⟩ : ∃ pe, pend p = pe := ⟨_, rfl⟩
          rw [hpe] at EA L4
          clear hpe
          obtain ⟨ag, hag⟩ : ∃ ag, ag = (encP p).toArray := ⟨_, rfl⟩
          rw [← hag] at LD EA
          clear hag
          go_upto_region 10 with (first
            | (refine wpList_loadV rfl rfl rfl LD.out ?_)
            | (go_at_call 96; refine (EA.out _).mono ?_; rintro e w6 ⟨rfl, h6⟩; have B6 := Lib.hid h6; clear h6; have HP6 := Lib.hid (HP5.out.later B6.out); have f2 := HP6.out.frozen 2; have x2 := HP6.out.cell.2.2.1))
          have HP7 := Lib.hid (HP6.out.setNd pe)
          have P6 := Lib.hid (P5.out.later B6.out)
          have P7 := Lib.hid (show PlyAt (w6.setCell ⟨x, 2, none⟩ (.int .i64 pe)) bx p from (Below.heap_setCell _ _ _ _ HX.out.2.1).trans P6.out)
          have B7 := Lib.hid ((B5.out.thenB B6.out).setX (x := x) (.inl rfl) 2 (.int .i64 pe))
          obtain ⟨w7, hw7⟩ : ∃ w7, w7 = w6.setCell ⟨x, 2, none⟩ (.int .i64 pe) := ⟨_, rfl⟩
          rw [← hw7] at HP7 P7 B7 ⊢
          clear hw7 HP6 P6 B6 f2 x2 HP5 P5 B5 LD EA
          have HP8 := Lib.hid (HP7.out.later (Below.refl w7.heap.size w7).drew)
          have x4 := HP7.out.cell.2.2.2.2
          have p7 := P7.out.cell (i := 7) rfl
          have lk := plr_look HP8.out (p.n 7)
          obtain ⟨k7, hk7⟩ : ∃ k7, p.n 7 = k7 := ⟨_, rfl⟩
          rw [hk7] at lk p7 L4
          clear hk7
          obtain ⟨gg, hgg⟩ : ∃ gg, s3.g k7 = gg := ⟨_, rfl⟩
          have HG := Lib.hid hgg
          have lk2 : (Instr.lookup 131 (.map (some mb3)) (.int .i64 k7) false).run Tryz.prog w7.drew = .ok (.int .i64 gg) w7.drew := by rw [← hgg]; exact lk
          clear lk hgg
          obtain ⟨ob, hmu, hm2⟩ := HP8.out.map.put (T := 131) Tryz.underlying131 k7 (.int .i64 (wrap64 (gg + 1)))
          have HM2 := Lib.hid hm2
          clear hm2
          go_region
          go_wp2_with fail
          go_ret
          refine ⟨by rw [LB.out]; rfl, ⟨mb3, ses3, (fun j => if j = k7 then some (.int .i64 (wrap64 (gg + 1))) else G3 j), ?_, HM3.out⟩, (B7.out.thenB (Below.refl _ w7).drew).step (x := x) (m := mb3) (Below.putNew (Below.refl 0 w7.drew) (Nat.zero_le _) ob) (fun k _ _ k2 => World.putObj_heap_other k2) (.inl rfl) (HM3.out.imp (fun q => .inr q) id)⟩
          rw [LS.out, if_pos (show (!false) = true from rfl), L4.out]
          refine ⟨?_, HM2.out, HP8.out.ne, HP8.out.bx, HP8.out.bm, fun k => ?_⟩
          · rw [World.putObj_heap_other HP8.out.ne]
            exact HP8.out.blk
          · by_cases e : k = k7
            · simp only [if_pos e]
              rw [HG.out]
              rfl
            · simp only [if_neg e]
              exact HP8.out.vals k
        · go_wp2_with fail
          go_ret
          exact ⟨by rw [LB.out]; rfl, ⟨mb3, ses3, G3, by rw [LS.out]; exact HP5.out, HM3.out⟩, B5.out⟩

end Go.Proofs.YtffifhbldcjelaaGreatDoor
