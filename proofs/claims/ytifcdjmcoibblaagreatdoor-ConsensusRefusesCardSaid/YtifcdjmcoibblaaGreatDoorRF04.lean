/-
  REFUSES: the second node's calls, each as the law sees it. CONSENSUSREFUSES: the walk. What a law is told of a slice of strings and of a message; the walk of ConsensusRefuses in the words of its frame.
-/
import Derived.Test.YtifcdjmcoibblaaGreatDoorRF03
import Derived.Test.YtifcdjmcoibblaaGreatDoorG26
import Derived.Test.YtifcdjmcoibblaaGreatDoorG36
import Derived.Test.YtifcdjmcoibblaaGreatDoorG34
import Derived.WalkKit
import Derived.ProofKit
import Derived.OpenShut
import Derived.Deep.Slices
import Derived.ChangeArms
import Derived.DataReads
import Derived.ChangeSlices
import Derived.ChangeSame

/-! REFUSES: the second node's calls, each as the law sees it. -/
namespace Go.Proofs.YtifcdjmcoibblaaGreatDoor
set_option linter.unusedVariables false
set_option linter.unusedSimpArgs false
set_option linter.unusedSectionVars false
open Go.RowKit

/-- the node of state s, made at a base; since the world wm nothing below has turned -/
def StR (base x : Nat) (s : StB) (wm W : World) : Prop := OneN base x s W ∧ Below base wm W ∧ base ≤ wm.heap.size ∧ 0 < base ∧ Glob wm
section
variable {base x : Nat} {s : StB} {wm W W' : World}
theorem StR.glob (h : StR base x s wm W) : Glob W := h.2.2.2.2.kept (h.2.1.block 0 h.2.2.2.1)
theorem StR.size (h : StR base x s wm W) : base ≤ W.heap.size := h.1.size
theorem StR.later (h : StR base x s wm W) (hb : Below W.heap.size W W') : StR base x s wm W' := ⟨h.1.later hb, h.2.1.trans (hb.mono h.size), h.2.2⟩
theorem StR.turn {s' : StB} (h : StR base x s wm W) (h1 : OneN base x s' W') (hb : Below base W W') : StR base x s' wm W' := ⟨h1, h.2.1.trans hb, h.2.2⟩
theorem StR.blk (h : StR base x s wm W) {k : Nat} (hk : k < base) : W.heap[k]? = wm.heap[k]? := h.2.1.block k hk
theorem StR.same {f : FuncId} {vs : Array Value} {Q : Ending → Prop} (h : StR base x s wm W) (hc : Calls Tryz.prog f vs W fun e w' => Q e ∧ Below W.heap.size W w') : Calls Tryz.prog f vs W fun e w' => Q e ∧ StR base x s wm w' :=
 hc.mono fun e w' q => ⟨q.1, h.later q.2⟩
theorem new_num : NumI (newS 0 4 : StB) := (fit_new (l := []) (by simp)).ok.inv.num
theorem lnil (W : World) : LRow (fun k => k < W.heap.size) W (.slice none 0 0) [] := LRow.nil _ _
theorem r_new (hb : base = W.heap.size) (hp : 0 < base) (hG : Glob W) : Calls Tryz.prog 15 #[.int .i64 0, .int .i64 4] W fun e w' => ∃ x, e = .returned (.tuple #[.pointer (some ⟨x, 0, none⟩), .int .i64 0]) ∧ OneN base x (newS 0 4) w' ∧ Below base W w' := by
 subst hb
 refine (new_any 0 4 W (by omega) (by omega) (by omega) (by omega)).mono ?_
 rintro e w' ⟨x, rfl, p, R, hp, hR, hbl⟩
 exact ⟨x, rfl, ⟨R, p, hp, hR, hbl.size⟩, hbl⟩
theorem r_recv {m : MsgB} {ao : Option Addr} {cap : Nat} (h : StR base x (newS 0 4) wm W) (hm : LRowG W (.slice ao m.list.length cap) m.list) (hl : m.list.length ≤ 60) (hb : badM (newS 0 4 : StB) m = true) :
  Calls Tryz.prog 20 #[.pointer (some ⟨x, 0, none⟩), .agg (encM m (.slice ao m.list.length cap))] W fun e w' => e = .returned (.tuple #[]) ∧ StR base x (newS 0 4) wm w' := by
 obtain ⟨R, p, q, _⟩ := id h.1
 exact h.same (Q := fun e => e = .returned (.tuple #[])) (receive_bad q ⟨_, rfl, hm⟩ hl h.glob hb)
theorem r_beg1 (h : StR base x (newS 0 4) wm W) : Calls Tryz.prog 16 #[.pointer (some ⟨x, 0, none⟩), .int .i64 1, .slice none 0 0] W fun e w' => e = .returned (.int .i64 260) ∧ StR base x (newS 0 4) wm w' :=
 (o_begin h.1 (lnil W) (fun k hk => hk) (by simp) h.glob new_num 1 new_begin1).mono fun e w' q => ⟨q.1, h.turn q.2.1 q.2.2⟩
theorem r_learn (h : StR base x (newS 0 4) wm W) : Calls Tryz.prog 36 #[.pointer (some ⟨x, 0, none⟩), .int .i64 (-1), .slice none 0 0] W fun e w' => e = .returned (.int .i64 260) ∧ StR base x (newS 0 4) wm w' :=
 (o_learn h.1 (lnil W) (fun k hk => hk) (by simp) h.glob (-1) new_learn).mono fun e w' q => ⟨q.1, h.turn q.2.1 q.2.2⟩
theorem r_res_b (h : StR base x (newS 0 4) wm W) : Calls Tryz.prog 59 #[.pointer (some ⟨x, 0, none⟩), .int .i64 0, .int .i64 0, .int .i64 (-1), .slice none 0 0, .slice none 0 0] W fun e w' => e = .returned (.int .i64 260) ∧ StR base x (newS 0 4) wm w' :=
 h.same (Q := fun e => e = .returned (.int .i64 260)) (o_resume_b h.1 h.glob rfl rfl rfl)
theorem r_res_c (h : StR base x (newS 0 4) wm W) : Calls Tryz.prog 59 #[.pointer (some ⟨x, 0, none⟩), .int .i64 0, .int .i64 3, .int .i64 3, .slice none 0 0, .slice none 0 0] W fun e w' => e = .returned (.int .i64 260) ∧ StR base x (newS 0 4) wm w' :=
 h.same (Q := fun e => e = .returned (.int .i64 260)) (resume_c h.glob)
theorem r_res_g (h : StR base x (newS 0 4) wm W) : Calls Tryz.prog 59 #[.pointer (some ⟨x, 0, none⟩), .int .i64 1200, .int .i64 0, .int .i64 (-1), .slice none 0 0, .slice none 0 0] W fun e w' => e = .returned (.int .i64 260) ∧ StR base x (newS 0 4) wm w' :=
 h.same (Q := fun e => e = .returned (.int .i64 260)) (resume_g h.glob)
theorem r_res_h (h : StR base x (newS 0 4) wm W) : Calls Tryz.prog 59 #[.pointer (some ⟨x, 0, none⟩), .int .i64 0, .int .i64 100, .int .i64 (-1), .slice none 0 0, .slice none 0 0] W fun e w' => e = .returned (.int .i64 260) ∧ StR base x (newS 0 4) wm w' :=
 h.same (Q := fun e => e = .returned (.int .i64 260)) (resume_h h.glob)
theorem r_res_d {ao : Option Addr} {cap : Nat} (h : StR base x (newS 0 4) wm W) (hl : LRow (fun k => k < W.heap.size) W (.slice ao 1 cap) (lstN 0)) : Calls Tryz.prog 59 #[.pointer (some ⟨x, 0, none⟩), .int .i64 0, .int .i64 3, .int .i64 (-1), .slice ao 1 cap, .slice none 0 0] W fun e w' => e = .returned (.int .i64 260) ∧ StR base x (newS 0 4) wm w' := by
 rw [lst_fam (by omega)] at hl
 exact h.same (Q := fun e => e = .returned (.int .i64 260)) (resume_d hl (fun k hk => hk) (by decide) (asc_fam (by omega)) (by decide) h.glob)
theorem up_cell {a : Addr} {u : Value} (hb : Below W.heap.size W W') (h : W.cell? a = some u) : W'.cell? a = some u := by
 rw [World.cell?_of_block (w := W) (hb.block a.block (World.block_lt_of_cell? _ _ h))]; exact h
theorem r_one {b : Nat} {r : Int} {d : ByteArray} (h : StR base x (newS 0 4) wm W) (h0 : W.cell? ⟨b, 0, none⟩ = some (.int .i64 r)) (h1 : W.cell? ⟨b, 1, none⟩ = some (.string d)) (hr : 0 ≤ r) (hb : 3 ≤ r ∨ d.size ≠ 32) :
  Calls Tryz.prog 59 #[.pointer (some ⟨x, 0, none⟩), .int .i64 0, .int .i64 3, .int .i64 (-1), .slice none 0 0, .slice (some ⟨b, 0, none⟩) 1 1] W fun e w' => e = .returned (.int .i64 260) ∧ StR base x (newS 0 4) wm w' :=
 h.same (Q := fun e => e = .returned (.int .i64 260)) (resume_k (fun W2 hW => areKeys_one (up_cell hW h0) (up_cell hW h1) hr hb) h.glob)
theorem r_two {b : Nat} {d e2 : ByteArray} (h : StR base x (newS 0 4) wm W) (h0 : W.cell? ⟨b, 0, none⟩ = some (.int .i64 1)) (h1 : W.cell? ⟨b, 1, none⟩ = some (.string d)) (h2 : W.cell? ⟨b, 2, none⟩ = some (.int .i64 1)) (h3 : W.cell? ⟨b, 3, none⟩ = some (.string e2)) (hd : d.size = 32) :
  Calls Tryz.prog 59 #[.pointer (some ⟨x, 0, none⟩), .int .i64 0, .int .i64 3, .int .i64 (-1), .slice none 0 0, .slice (some ⟨b, 0, none⟩) 2 2] W fun e w' => e = .returned (.int .i64 260) ∧ StR base x (newS 0 4) wm w' :=
 h.same (Q := fun e => e = .returned (.int .i64 260)) (resume_k (fun W2 hW => areKeys_two (up_cell hW h0) (up_cell hW h1) (up_cell hW h2) (up_cell hW h3) hd) h.glob)
/-- what Begin of a list gives: a number -/
def ErrZ (b : Bool) (z : Int) : Prop := (b = true → z = 0) ∧ (b = false → z = 260)
theorem errE_z (b : Bool) : ∃ z, errE b = .int .i64 z ∧ ErrZ b z := by
 rcases b with _ | _
 ·exact ⟨260, rfl, by simp [ErrZ]⟩
 ·exact ⟨0, rfl, by simp [ErrZ]⟩
theorem r_begin {rao : Option Addr} {rcap : Nat} {raw : List ByteArray} (h : StR base x (newS 0 4) wm W) (hr : LRowG W (.slice rao raw.length rcap) raw) (hl : raw.length ≤ 60) :
  Calls Tryz.prog 16 #[.pointer (some ⟨x, 0, none⟩), .int .i64 0, .slice rao raw.length rcap] W fun e w' => ∃ z, e = .returned (.int .i64 z) ∧ ErrZ (ascS raw) z ∧ StR base x (begS raw) wm w' := by
 obtain ⟨R, p, q, h2, h3⟩ := id h.1
 refine (begin_row q hr hl h.glob new_num rfl rfl).mono ?_
 rintro e w' ⟨rfl, ht⟩
 obtain ⟨z, hz, hq⟩ := errE_z (ascS raw)
 have e1 : ((newS 0 4 : StB).begin (newS 0 4 : StB).height (ascS raw) (digV raw) raw).2 = ascS raw := beg_ok raw
 have ht2 : Turned R W x (begS raw) w' := ht
 have := OneN.turned h2 h3 ht2
 exact ⟨z, by rw [e1, hz], hq, h.turn this.1 this.2⟩
theorem r_last {raw : List ByteArray} (hl : raw.length ≤ 60) (h : StR base x (begS raw).tick.1 wm W) : Calls Tryz.prog 16 #[.pointer (some ⟨x, 0, none⟩), .int .i64 0, .slice none 0 0] W fun e w' => ∃ z, e = .returned (.int .i64 z) ∧ ErrZ (!(ascS raw)) z ∧ Below base W w' := by
 refine (o_begin h.1 (lnil W) (fun k hk => hk) (by simp) h.glob ((fit_beg hl).tick).ok.inv.num 0 (b := !(ascS raw)) (s' := ((begS raw).tick.1.begin 0 (ascS []) (digV []) []).1) (by rw [← last_begin])).mono ?_
 rintro e w' ⟨rfl, h1, h2⟩
 obtain ⟨z, hz, hq⟩ := errE_z (!(ascS raw))
 exact ⟨z, by rw [hz], hq, h2⟩
def LenZ (b : Bool) (n : Nat) : Prop := (b = true → n = 6) ∧ (b = false → n = 0)
theorem r_tick {raw : List ByteArray} (hl : raw.length ≤ 60) (h : StR base x (begS raw) wm W) : Calls Tryz.prog 18 #[.pointer (some ⟨x, 0, none⟩)] W fun e w' => ∃ ao n cap, e = .returned (.slice ao n cap) ∧ LenZ (ascS raw) n ∧ StR base x (begS raw).tick.1 wm w' := by
 refine (o_tick h.1 (fit_beg hl) (GO.gf hl) (by rw [(beg_round raw).2.2.2.2]; omega)).mono ?_
 rintro e w' ⟨⟨ao, cap, rfl⟩, h1, h2⟩
 refine ⟨ao, _, cap, rfl, ?_, h.turn h1 h2⟩
 rw [tick_out6]
 rcases ascS raw with _ | _ <;> simp [LenZ]
theorem r_round {raw : List ByteArray} (h : StR base x (begS raw) wm W) : Calls Tryz.prog 23 #[.pointer (some ⟨x, 0, none⟩)] W fun e w' => e = .returned (.int .i64 0) ∧ w' = W := by
 have := o_round h.1
 rw [(beg_round raw).1] at this
 exact this
theorem r_height {raw : List ByteArray} (h : StR base x (begS raw) wm W) : Calls Tryz.prog 24 #[.pointer (some ⟨x, 0, none⟩)] W fun e w' => e = .returned (.int .i64 0) ∧ w' = W := by
 have := o_height h.1
 rw [(beg_round raw).2.1] at this
 exact this
theorem r_asked {raw : List ByteArray} (h : StR base x (begS raw) wm W) : Calls Tryz.prog 38 #[.pointer (some ⟨x, 0, none⟩)] W fun e w' => (∃ ao cap, e = .returned (.slice ao 0 cap)) ∧ StR base x (begS raw) wm w' :=
 h.same (Q := fun e => ∃ ao cap, e = .returned (.slice ao 0 cap)) (o_asked h.1 (beg_round raw).2.2.2.1 (beg_round raw).2.2.1)
end

end Go.Proofs.YtifcdjmcoibblaaGreatDoor

/-! CONSENSUSREFUSES: the walk. -/
namespace Go.Proofs.YtifcdjmcoibblaaGreatDoor
set_option linter.unusedVariables false
set_option linter.unusedSimpArgs false
set_option linter.unusedSectionVars false
open Go.RowKit

def GoodN (site n : Int) : Prop := 1 ≤ n ∧ n ≤ 7 ∧ 0 ≤ site ∧ site < n
instance (site n : Int) : Decidable (GoodN site n) := by unfold GoodN; infer_instance
/-- what New gives -/
def NewE (site n : Int) (xv : Value) (ev : Int) : Prop := (GoodN site n → ev = 0 ∧ ∃ x, xv = .pointer (some ⟨x, 0, none⟩)) ∧ (¬ GoodN site n → ev = 2 ∧ xv = .pointer none)
theorem rf_new (site n : Int) (W : World) : Calls Tryz.prog 15 #[.int .i64 site, .int .i64 n] W fun e w' => ∃ xv ev, e = .returned (.tuple #[xv, .int .i64 ev]) ∧ NewE site n xv ev ∧ Below W.heap.size W w' := by
 by_cases h : GoodN site n
 ·refine (new_any site n W h.1 h.2.1 h.2.2.1 h.2.2.2).mono ?_
  rintro e w' ⟨x, rfl, p, R, _, _, hb⟩
  exact ⟨_, 0, rfl, ⟨fun _ => ⟨rfl, x, rfl⟩, fun q => absurd h q⟩, hb⟩
 ·refine (new_bad site n W h).mono ?_
  rintro e w' ⟨rfl, rfl⟩
  exact ⟨_, 2, rfl, ⟨fun q => absurd q h, fun _ => ⟨rfl, rfl⟩⟩, Below.refl _ _⟩
def ErrF (b : Bool) (z : Int) : Prop := (b = true → z = 0) ∧ (b = false → z = 250)
theorem rf_value {ao : Option Addr} {n cap : Nat} {l : List ByteArray} {w W : World} (hl : l.length = n) (hn : n ≤ 60) (h : LRowG w (.slice ao l.length cap) l) (hb : Below w.heap.size w W) :
  Calls Tryz.prog 57 #[.slice ao n cap] W fun e w' => ∃ sv z, e = .returned (.tuple #[.string sv, .int .i64 z]) ∧ ErrF (ascS l) z ∧ Below W.heap.size W w' := by
 obtain ⟨ao2, cap2, e, hc, hr⟩ := h
 injection e with e1 e2 e3
 subst e1; subst e3
 refine (value_any ao n cap l W hl hn (by rw [← hl]; exact hc) (hr.later hb)).mono ?_
 rintro e w' ⟨rfl, hb⟩
 refine ⟨_, _, rfl, ?_, hb⟩
 unfold ErrF errS
 rcases ascS l with _ | _ <;> simp

/-- what the law's test of the message gives -/
def BadT (mc : MsgB) (wm : World) (t : Value) (wc : World) : Prop := ∃ bd : Bool, t = .bool bd ∧ (bd = true → badM (newS 0 4 : StB) mc = true) ∧ Below wm.heap.size wm wc
theorem bad_of {mc : MsgB} (h : mc.to ≠ 0 ∨ 4 ≤ mc.frm ∨ 0 < mc.height ∨ validB mc = false) : badM (newS 0 4 : StB) mc = true := by
 unfold badM
 show (!(validB mc) || !(mc.to == 0) || decide (4 ≤ mc.frm) || decide (0 < mc.height)) = true
 simp
 rcases h with h | h | h | h
 ·exact .inl (.inl (.inr h))
 ·exact .inl (.inr h)
 ·exact .inr h
 ·exact .inl (.inl (.inl h))

set_option maxRecDepth 100000 in
set_option maxHeartbeats 20000000 in
theorem refusesL_any (site n : Int) (rao : Option Addr) (rcap : Nat) (raw : List ByteArray) (m : MsgB) (ao : Option Addr) (cap : Nat) (w : World)
  (hraw : LRowG w (.slice rao raw.length rcap) raw) (hrl : (raw.length : Int) ≤ 9223372036854775807) (hrc : (rcap : Int) ≤ 9223372036854775807)
  (hm : LRowG w (.slice ao m.list.length cap) m.list) (hml : (m.list.length : Int) ≤ 9223372036854775807) (hmc : (cap : Int) ≤ 9223372036854775807) (hG : Glob w) :
  Calls Tryz.prog 12 #[.int .i64 site, .int .i64 n, .slice rao raw.length rcap, .agg (encM m (.slice ao m.list.length cap))] w fun e w' => e = .returned (.bool true) ∧ Below w.heap.size w w' := by
 have HGL := Lib.hid hG
 obtain ⟨r5, hr5⟩ : ∃ r5, r5 = raw.take 5 := ⟨_, rfl⟩
 obtain ⟨rc, hrcl⟩ : ∃ rc, rc = r5.length := ⟨_, rfl⟩
 have hrc5 : rc = min raw.length 5 := by rw [hrcl, hr5, List.length_take, Nat.min_comm]
 obtain ⟨hRcap, hRrow⟩ : ((rao = none → rcap = 0) ∧ raw.length ≤ rcap) ∧ RowK 1 encT w rao raw := by
  obtain ⟨_, _, e, h1, h2⟩ := hraw
  injection e with e1 e2 e3
  subst e1; subst e3
  exact ⟨h1, h2⟩
 obtain ⟨hMcap, hMrow⟩ : ((ao = none → cap = 0) ∧ m.list.length ≤ cap) ∧ RowK 1 encT w ao m.list := by
  obtain ⟨_, _, e, h1, h2⟩ := hm
  injection e with e1 e2 e3
  subst e1; subst e3
  exact ⟨h1, h2⟩
 have HR5 := Lib.hid (show LRowG w (.slice rao r5.length rcap) r5 from ⟨rao, rcap, rfl, ⟨hRcap.1, by omega⟩, by rw [hr5]; exact hRrow.take 5⟩)
 have HM5 := Lib.hid (show LRowG w (.slice ao (cutM m).list.length cap) (cutM m).list from ⟨ao, cap, rfl, ⟨hMcap.1, by rw [cut_len]; omega⟩, hMrow.take 5⟩)
 have HML := Lib.hid (show (cutM m).list.length ≤ 60 from by rw [cut_len]; omega)
 have HRC := Lib.hid hrcl
 obtain ⟨mc, hmcq⟩ : ∃ mc, mc = cutM m := ⟨_, rfl⟩
 have HRC6 := Lib.hid (show rc ≤ 60 from by omega)
 have hmin : min (raw.length : Int) 5 = (rc : Int) := by omega
 have r0 : (0 : Int) ≤ (rc : Int) := by omega
 have r1 : (rc : Int) ≤ (rcap : Int) := by omega
 have SN := Lib.hid (fun W (hW : Below w.heap.size w W) => sane_any W (hG.later hW))
 have SH := Lib.hid (fun W => short_any W m ao cap hMcap hml hmc)
 have VA := Lib.hid (fun W (hW : Below w.heap.size w W) => rf_value hrcl.symm (by omega) HR5.out hW)
 rw [← hmcq] at HM5 HML SH
 clear hmcq
 have HB0 := Lib.hid ((Below.refl _ w).alloc (Nat.le_refl _) (.cells (encM m (.slice ao m.list.length cap)) 36))
 have HROW := Lib.hid (World.alloc_heap_new w (.cells (encM m (.slice ao m.list.length cap)) 36))
 obtain ⟨gd, hgd⟩ : ∃ gd : Bool, gd = decide (GoodN site n) := ⟨_, rfl⟩
 have HGD := Lib.hid hgd
 clear hG hraw hm hml hmc hr5 hrcl hrc5 hRcap hMcap hRrow hMrow hrc hgd
 unfold encM iv at HROW HB0 SH ⊢
 obtain ⟨b7, hb7⟩ : ∃ b7, b7 = w.heap.size := ⟨_, rfl⟩
 go_enter Tryz.func12, Tryz.ntmps12
 go_upto_region 1 with (fail)
 obtain ⟨w0, hw0⟩ : ∃ w0, w0 = w.alloc (.cells #[.int .i64 m.kind, .int .i64 m.frm, .int .i64 m.to, .int .i64 m.height, .int .i64 m.round, .int .i64 m.valid, .string m.dig, .slice ao m.list.length cap] 36) := ⟨_, rfl⟩
 rw [← hw0] at HB0 HROW ⊢
 rw [← hb7] at HROW ⊢
 have HB7 := Lib.hid hb7
 clear hw0 hb7
 go_upto_region 2 with (go_at_call 13; (with_reducible refine (SN.out _ HB0.out).mono ?_); rintro e w1 ⟨rfl, hb⟩; have HB1 := Lib.hid (HB0.out.trans (hb.mono HB0.out.size)); have HR1 := Lib.hid ((hb.block b7 (Array.getElem?_eq_some_iff.1 HROW.out).1).trans HROW.out); clear hb)
 clear HROW HB0 SN
 have NW := Lib.hid (rf_new site n w1)
 go_upto_region 3 with (go_at_call 15; (with_reducible refine NW.out.mono ?_); rintro e w2 ⟨xv, ev, rfl, hne, hb⟩; have HNE := Lib.hid hne; have HB2 := Lib.hid (HB1.out.trans (hb.mono HB1.out.size)); have HR2 := Lib.hid ((hb.block b7 (Array.getElem?_eq_some_iff.1 HR1.out).1).trans HR1.out); clear hb hne)
 clear NW HB1 HR1
 go_cut [12] from 44 to 58 (fun t wc => t = .bool gd ∧ wc = w2)
 case first =>
  by_cases h1 : 1 ≤ n
  ·by_cases h2 : n ≤ 7
   ·by_cases h3 : 0 ≤ site
    ·by_cases h4 : site < n
     ·have hg : gd = true := by rw [HGD.out]; simpa using (show GoodN site n from ⟨h1, h2, h3, h4⟩)
      go_wp2
      go_meet
      rw [hg]; exact ⟨rfl, rfl⟩
     ·have hg : gd = false := by rw [HGD.out]; simpa using (show ¬ GoodN site n from fun q => h4 q.2.2.2)
      go_wp2
      go_meet
      rw [hg]; exact ⟨rfl, rfl⟩
    ·have hg : gd = false := by rw [HGD.out]; simpa using (show ¬ GoodN site n from fun q => h3 q.2.2.1)
     go_wp2
     go_meet
     rw [hg]; exact ⟨rfl, rfl⟩
   ·have hg : gd = false := by rw [HGD.out]; simpa using (show ¬ GoodN site n from fun q => h2 q.2.1)
    go_wp2
    go_meet
    rw [hg]; exact ⟨rfl, rfl⟩
  ·have hg : gd = false := by rw [HGD.out]; simpa using (show ¬ GoodN site n from fun q => h1 q.1)
   go_wp2
   go_meet
   rw [hg]; exact ⟨rfl, rfl⟩
 case rest =>
 obtain ⟨rfl, hw⟩ := hcut
 rw [hw]
 clear hw
 go_upto_region 4 with (fail)
 go_cut [76] from 59 to 76 (fun t wc => t = .bool false ∧ wc = w2)
 case first =>
  rcases gd with _ | _
  ·obtain ⟨rfl, rfl⟩ := HNE.out.2 (of_decide_eq_false HGD.out.symm)
   go_wp2
   go_meet
   exact ⟨rfl, rfl⟩
  ·obtain ⟨rfl, x, rfl⟩ := HNE.out.1 (of_decide_eq_true HGD.out.symm)
   go_wp2
   go_meet
   exact ⟨rfl, rfl⟩
 case rest =>
 obtain ⟨rfl, hw⟩ := hcut
 rw [hw]
 clear hw
 go_upto_region 7 with (fail)
 have VA2 := Lib.hid (VA.out _ HB2.out)
 go_upto_region 8 with (go_at_call 57; (with_reducible refine VA2.out.mono ?_); rintro e w3 ⟨sv, fz, rfl, hfz, hb⟩; have HFZ := Lib.hid hfz; have HB3 := Lib.hid (HB2.out.trans (hb.mono HB2.out.size)); have HR3 := Lib.hid ((hb.block b7 (Array.getElem?_eq_some_iff.1 HR2.out).1).trans HR2.out); clear hb hfz)
 clear VA VA2 HB2 HR2 HNE
 obtain ⟨base, hbase⟩ : ∃ base, base = w3.heap.size := ⟨_, rfl⟩
 have hb7b : b7 < base := by rw [hbase]; exact (Array.getElem?_eq_some_iff.1 HR3.out).1
 have HNW := Lib.hid (r_new hbase (by omega) (HGL.out.later HB3.out))
 have HBA := Lib.hid hbase
 have HB7B := Lib.hid hb7b
 clear hbase hb7b
 go_upto_region 9 with (go_at_call 15; (with_reducible refine HNW.out.mono ?_); rintro e w4 ⟨x, rfl, hon, hb⟩; have HON := Lib.hid hon; have HB4 := Lib.hid hb; have HR4 := Lib.hid ((hb.block b7 HB7B.out).trans HR3.out); clear hb hon)
 have HBW := Lib.hid (show Below w.heap.size w w4 from HB3.out.trans (HB4.out.mono (by rw [HBA.out]; exact HB3.out.size)))
 clear HNW HR3 HB4 HB3
 go_upto_region 11 with (fail)
 have SH4 := Lib.hid (SH.out w4)
 clear SH
 obtain ⟨c0, c1, c2, c3, c4, c5, c6, c7, fz7⟩ := MRow.of HR4.out
 go_upto_region 12 with (first
  | (go_at_call 58; (with_reducible refine SH4.out.mono ?_); rintro e w5 ⟨rfl, hb⟩; have HB5 := Lib.hid hb; have HR5b := Lib.hid ((hb.block b7 (Array.getElem?_eq_some_iff.1 HR4.out).1).trans HR4.out); clear hb c0 c1 c2 c3 c4 c5 c6 c7 fz7)
  | (refine wpList_store_head rfl 36 (.tmp 7) (.tmp 94) (by rfl) b7 #[.int .i64 mc.kind, .int .i64 mc.frm, .int .i64 mc.to, .int .i64 mc.height, .int .i64 mc.round, .int .i64 mc.valid, .string mc.dig, .slice ao mc.list.length cap] ?_ ?_ 36 _ HR5b.out ?_ ?_ ?_ ?_; go_loud (simp [Act.eval]); go_loud (simp [Act.eval]); go_loud (kernel_rfl); go_loud (simp); go_loud (simp [Value.oneCell'])))
 simp only [Act.put]
 obtain ⟨wm, hwm⟩ : ∃ wm, wm = w5.setRow b7 #[.int .i64 mc.kind, .int .i64 mc.frm, .int .i64 mc.to, .int .i64 mc.height, .int .i64 mc.round, .int .i64 mc.valid, .string mc.dig, .slice ao mc.list.length cap] := ⟨_, rfl⟩
 change Code.wp _ _ _ _ (w5.setRow b7 #[.int .i64 mc.kind, .int .i64 mc.frm, .int .i64 mc.to, .int .i64 mc.height, .int .i64 mc.round, .int .i64 mc.valid, .string mc.dig, .slice ao mc.list.length cap])
 have HRM := Lib.hid (show wm.heap[b7]? = some (.cells (encM mc (.slice ao mc.list.length cap)) 36 (0, 0)) from by rw [hwm]; exact setRow_heap _ _ _ _ _ _ HR5b.out)
 have HB7W := HB7.out
 have HSZ := HBW.out.size
 have HST := Lib.hid (show StR base x (newS 0 4) wm wm from by
  have o5 := HON.out.later HB5.out
  have hz : wm.heap.size = w5.heap.size := by rw [hwm, setRow_size]
  have om : OneN base x (newS 0 4) wm := o5.under (by rw [hz]; exact Nat.le_refl _) (fun k h1 h2 => by rw [hwm, setRow_other _ _ _ _ (by have := HB7B.out; omega)])
  have hgl := HGL.out
  have hgp := hgl.pos
  have hg4 := (hgl.later HBW.out)
  have hg5 := hg4.later HB5.out
  exact ⟨om, Below.refl _ _, om.size, by have := HB7B.out; omega, hg5.kept (by rw [hwm, setRow_other _ _ _ _ (by omega)])⟩)
 have HWM := Lib.hid (show Below w.heap.size w wm from by
  have h5 := HBW.out.trans (HB5.out.mono HSZ)
  rw [hwm]
  exact ⟨h5.os, h5.tape, h5.output, by rw [setRow_size]; exact h5.size, fun k hk => by rw [setRow_other _ _ _ _ (by omega)]; exact h5.block k hk⟩)
 rw [← hwm]
 clear hwm HR5b HB5 HON HR4 HBW HB7W HSZ SH4 HBA
 have HMW := Lib.hid (HM5.out.later HWM.out)
 have VL := Lib.hid ((valid_row (v := .agg (encM mc (.slice ao mc.list.length cap))) ⟨_, rfl, HMW.out⟩ HML.out (fun _ => HGL.out.later HWM.out)))
 unfold encM iv at VL
 clear HM5
 go_cut [112] from 95 to 112 (fun t wc => BadT mc wm t wc)
 case first =>
  obtain ⟨c0, c1, c2, c3, c4, c5, c6, c7, fz7⟩ := MRow.of HRM.out
  by_cases q1 : mc.to = 0
  ·have n1 : (mc.to != 0) = false := by simpa using q1
   by_cases q2 : 4 ≤ mc.frm
   ·have n2 : decide (4 ≤ mc.frm) = true := by simpa using q2
    have HBD := Lib.hid (bad_of (.inr (.inl q2)))
    clear q1
    go_wp2
    go_meet
    exact ⟨true, rfl, fun _ => HBD.out, Below.refl _ _⟩
   ·have n2 : decide (4 ≤ mc.frm) = false := by simpa using q2
    by_cases q3 : 0 < mc.height
    ·have n3 : decide (0 < mc.height) = true := by simpa using q3
     have HBD := Lib.hid (bad_of (.inr (.inr (.inl q3))))
     clear q1
     go_wp2
     go_meet
     exact ⟨true, rfl, fun _ => HBD.out, Below.refl _ _⟩
    ·have n3 : decide (0 < mc.height) = false := by simpa using q3
     obtain ⟨vb, hvb⟩ : ∃ vb, vb = validB mc := ⟨_, rfl⟩
     rw [← hvb] at VL
     have HVB := Lib.hid hvb
     clear q1 hvb
     go_wp2_with (go_at_call 19; (with_reducible refine VL.out.mono ?_); rintro e wv ⟨rfl, hb⟩; have HBV := Lib.hid hb; clear hb)
     go_meet
     exact ⟨!vb, rfl, fun q => bad_of (.inr (.inr (.inr (by rw [← HVB.out]; simpa using q)))), HBV.out⟩
  ·have n1 : (mc.to != 0) = true := by simpa using q1
   have HBD := Lib.hid (bad_of (.inl q1))
   clear q1
   go_wp2
   go_meet
   exact ⟨true, rfl, fun _ => HBD.out, Below.refl _ _⟩
 case rest =>
 clear VL
 obtain ⟨bd, rfl, hbd, hb⟩ := hcut
 have HBD := Lib.hid hbd
 have HS6 := Lib.hid (HST.out.later hb)
 have HR6 := Lib.hid ((hb.block b7 (Array.getElem?_eq_some_iff.1 HRM.out).1).trans HRM.out)
 have HM6 := Lib.hid (HMW.out.later hb)
 obtain ⟨w6, hw6⟩ : ∃ w6 : World, w6 = wc := ⟨_, rfl⟩
 clear hb hbd HST HMW
 subst hw6
 go_upto_if 112 with (fail)
 go_cut [112] from 113 to 115 (fun t wc => StR base x (newS 0 4) wm wc)
 case first =>
  rcases bd with _ | _
  ·go_wp2
   go_meet
   exact HS6.out
  ·obtain ⟨c0, c1, c2, c3, c4, c5, c6, c7, fz7⟩ := MRow.of HR6.out
   have RC := Lib.hid (r_recv HS6.out HM6.out HML.out (HBD.out rfl))
   unfold encM iv at RC
   go_wp2_with (go_at_call 20; (with_reducible refine RC.out.mono ?_); rintro e wv ⟨rfl, hb⟩; have HBV := Lib.hid hb; clear hb)
   go_meet
   exact HBV.out
 case rest =>
 clear HS6 HR6 HM6
 have HS7 := Lib.hid hcut
 clear hcut
 have CA := Lib.hid (r_beg1 HS7.out)
 go_upto_region 15 with (first
  | (go_at_call 16; (with_reducible refine CA.out.mono ?_); rintro e w8 ⟨rfl, hq⟩; have HS8 := Lib.hid hq; clear hq))
 clear CA HS7
 have CA := Lib.hid (r_res_b HS8.out)
 go_upto_region 16 with (first
  | (go_at_call 59; (with_reducible refine CA.out.mono ?_); rintro e w9 ⟨rfl, hq⟩; have HS9 := Lib.hid hq; clear hq))
 clear CA HS8
 have CA := Lib.hid (r_res_c HS9.out)
 go_upto_region 17 with (first
  | (go_at_call 59; (with_reducible refine CA.out.mono ?_); rintro e w10 ⟨rfl, hq⟩; have HS10 := Lib.hid hq; clear hq))
 clear CA HS9
 have LI := Lib.hid (lists_any w10)
 go_upto_region 18 with (first
  | (go_at_call 17; (with_reducible refine LI.out.mono ?_); rintro e wl ⟨g, rfl, hbl, hl⟩; have HSL := Lib.hid (HS10.out.later hbl); obtain ⟨vl, cl, rl⟩ := hl.cell 0 (by omega); obtain ⟨al, pl, hvl, _⟩ := id rl; have hvl2 : vl = .slice al 1 pl := hvl; clear hvl; subst hvl2; have CD := Lib.hid (r_res_d HSL.out (rl.mono (fun k hk => hk.2))); clear hbl hl rl)
  | (go_at_call 59; (with_reducible refine CD.out.mono ?_); rintro e w11 ⟨rfl, hq⟩; have HS11 := Lib.hid hq; clear hq))
 clear LI CD HSL HS10 cl
 have CA := Lib.hid (r_res_g HS11.out)
 go_upto_region 19 with (first
  | (go_at_call 59; (with_reducible refine CA.out.mono ?_); rintro e w12 ⟨rfl, hq⟩; have HS12 := Lib.hid hq; clear hq))
 clear CA HS11
 have CA := Lib.hid (r_res_h HS12.out)
 go_upto_region 20 with (first
  | (go_at_call 59; (with_reducible refine CA.out.mono ?_); rintro e w13 ⟨rfl, hq⟩; have HS13 := Lib.hid hq; clear hq))
 clear CA HS12
 have CA := Lib.hid (r_learn HS13.out)
 go_upto_region 21 with (first
  | (go_at_call 36; (with_reducible refine CA.out.mono ?_); rintro e w14 ⟨rfl, hq⟩; have HS14 := Lib.hid hq; clear hq))
 clear CA HS13
 obtain ⟨d1, hd1⟩ : ∃ d, d = idB 1 := ⟨_, rfl⟩
 have HDS := Lib.hid (show d1.size = 32 from by rw [hd1]; decide +kernel)
 have ID1 := Lib.hid (show ∀ W, Calls Tryz.prog 37 #[.int .u8 1] W fun e w' => e = .returned (.string d1) ∧ Below W.heap.size W w' from fun W => by rw [hd1]; exact id_any 1 W)
 clear hd1
 go_upto_region 22 with (first
  | (go_at_call 37; (with_reducible refine (ID1.out _).mono ?_); rintro e wi ⟨rfl, hb⟩; have HSI := Lib.hid (HS14.out.later hb); have CA := Lib.hid (r_one (W := wi.alloc (.cells #[.int .i64 3, .string d1] 102)) (b := wi.heap.size) (r := 3) (d := d1) (HSI.out.later ((Below.refl _ _).alloc (Nat.le_refl _) _)) (by rw [cell_of_row _ _ _ _ _ _ (heap_alloc_new wi _)]; rfl) (by rw [cell_of_row _ _ _ _ _ _ (heap_alloc_new wi _)]; rfl) (by omega) (.inl (by omega))); clear hb)
  | (go_at_call 59; (with_reducible refine CA.out.mono ?_); rintro e w15 ⟨rfl, hq⟩; have HS15 := Lib.hid hq; clear hq))
 clear CA HSI HS14
 go_upto_region 23 with (first
  | (go_at_call 37; (with_reducible refine (ID1.out w15).mono ?_); rintro e wi ⟨rfl, hb⟩; have HSI := Lib.hid (HS15.out.later hb); clear hb)
  | (go_at_call 37; (with_reducible refine (ID1.out wi).mono ?_); rintro e wj ⟨rfl, hb⟩; have HSJ := Lib.hid (HSI.out.later hb); have CA := Lib.hid (r_two (W := wj.alloc (.cells #[.int .i64 1, .string d1, .int .i64 1, .string d1] 102)) (b := wj.heap.size) (d := d1) (e2 := d1) (HSJ.out.later ((Below.refl _ _).alloc (Nat.le_refl _) _)) (by rw [cell_of_row _ _ _ _ _ _ (heap_alloc_new wj _)]; rfl) (by rw [cell_of_row _ _ _ _ _ _ (heap_alloc_new wj _)]; rfl) (by rw [cell_of_row _ _ _ _ _ _ (heap_alloc_new wj _)]; rfl) (by rw [cell_of_row _ _ _ _ _ _ (heap_alloc_new wj _)]; rfl) HDS.out); clear hb)
  | (go_at_call 59; (with_reducible refine CA.out.mono ?_); rintro e w16 ⟨rfl, hq⟩; have HS16 := Lib.hid hq; clear hq))
 clear CA HSI HSJ HS15 ID1 HDS
 have CA := Lib.hid (r_one (W := w16.alloc (.cells #[.int .i64 1, .string (ByteArray.mk #[120])] 102)) (b := w16.heap.size) (r := 1) (d := ByteArray.mk #[120]) (HS16.out.later ((Below.refl _ _).alloc (Nat.le_refl _) _)) (by rw [cell_of_row _ _ _ _ _ _ (heap_alloc_new w16 _)]; rfl) (by rw [cell_of_row _ _ _ _ _ _ (heap_alloc_new w16 _)]; rfl) (by omega) (.inr (by decide)))
 go_upto_region 24 with (go_at_call 59; (with_reducible refine CA.out.mono ?_); rintro e w17 ⟨rfl, hq⟩; have HS17 := Lib.hid hq; clear hq)
 clear CA HS16
 go_upto_region 25 with (fail)
 have CA := Lib.hid (r_begin HS17.out (HR5.out.later (HWM.out.trans (HS17.out.2.1.mono (by
  have h1 := HS17.out.2.2.1
  have := HB7.out
  have := HB7B.out
  omega)))) (by rw [← HRC.out]; exact HRC6.out))
 rw [← HRC.out] at CA
 go_upto_region 26 with (go_at_call 16; (with_reducible refine CA.out.mono ?_); rintro e w18 ⟨jz, rfl, hj, hq⟩; have HS18 := Lib.hid hq; have HJ := Lib.hid hj; clear hq hj)
 clear CA HS17
 have RL := Lib.hid (show r5.length ≤ 60 from by rw [← HRC.out]; exact HRC6.out)
 have CR := Lib.hid (r_round HS18.out)
 have CH := Lib.hid (r_height HS18.out)
 have CK := Lib.hid (r_asked HS18.out)
 go_cut [218] from 190 to 218 (fun t wc => t = .bool false ∧ StR base x (begS r5) wm wc)
 case first =>
  rcases hasc : ascS r5 with _ | _
  ·have e1 := HFZ.out.2 hasc
   have e2 := HJ.out.2 hasc
   subst e1; subst e2
   clear hasc HFZ HJ
   go_wp2_with (first
    | (go_at_call 23; (with_reducible refine CR.out.mono ?_); rintro e wq ⟨rfl, hwq⟩; rw [hwq]; clear hwq wq)
    | (go_at_call 24; (with_reducible refine CH.out.mono ?_); rintro e wq ⟨rfl, hwq⟩; rw [hwq]; clear hwq wq)
    | (go_at_call 38; (with_reducible refine CK.out.mono ?_); rintro e wk ⟨⟨ak, pk, rfl⟩, hq⟩; have HSK := Lib.hid hq; clear hq))
   go_meet
   exact ⟨rfl, HSK.out⟩
  ·have e1 := HFZ.out.1 hasc
   have e2 := HJ.out.1 hasc
   subst e1; subst e2
   clear hasc HFZ HJ
   go_wp2_with (first
    | (go_at_call 23; (with_reducible refine CR.out.mono ?_); rintro e wq ⟨rfl, hwq⟩; rw [hwq]; clear hwq wq)
    | (go_at_call 24; (with_reducible refine CH.out.mono ?_); rintro e wq ⟨rfl, hwq⟩; rw [hwq]; clear hwq wq)
    | (go_at_call 38; (with_reducible refine CK.out.mono ?_); rintro e wk ⟨⟨ak, pk, rfl⟩, hq⟩; have HSK := Lib.hid hq; clear hq))
   go_meet
   exact ⟨rfl, HSK.out⟩
 case rest =>
 obtain ⟨rfl, hst⟩ := hcut
 have HS19 := Lib.hid hst
 clear hst CR CH CK HS18
 go_upto_region 28 with (fail)
 have CT := Lib.hid (r_tick RL.out HS19.out)
 go_upto_region 29 with (go_at_call 18; (with_reducible refine CT.out.mono ?_); rintro e w20 ⟨at20, ln20, cp20, rfl, hln, hq⟩; have HS20 := Lib.hid hq; have HLN := Lib.hid hln; clear hq hln)
 clear CT HS19
 go_cut [235] from 221 to 235 (fun t wc => t = .bool false ∧ wc = w20)
 case first =>
  rcases hasc : ascS r5 with _ | _
  ·have e1 := HLN.out.2 hasc
   have e2 := HJ.out.2 hasc
   subst e1; subst e2
   clear hasc HFZ HJ HLN
   go_wp2
   go_meet
   exact ⟨rfl, rfl⟩
  ·have e1 := HLN.out.1 hasc
   have e2 := HJ.out.1 hasc
   subst e1; subst e2
   clear hasc HFZ HJ HLN
   go_wp2
   go_meet
   exact ⟨rfl, rfl⟩
 case rest =>
 obtain ⟨rfl, hw⟩ := hcut
 rw [hw]
 clear hw HLN
 go_upto_region 31 with (fail)
 have CB := Lib.hid (r_last RL.out HS20.out)
 go_upto_region 32 with (go_at_call 16; (with_reducible refine CB.out.mono ?_); rintro e w21 ⟨az, rfl, ha, hq⟩; have HB21 := Lib.hid (HS20.out.2.1.trans hq); have HAZ := Lib.hid ha; clear hq ha)
 have HR21 := Lib.hid ((HB21.out.block b7 HB7B.out).trans HRM.out)
 have HF21 := Lib.hid (show Below w.heap.size w w21 from HWM.out.trans (HB21.out.mono (by
  have := HB7.out
  have := HB7B.out
  omega)))
 clear CB HS20 HB21 HRM
 have RN := Lib.hid (receive_nil w21 mc ao cap)
 unfold encM iv at RN
 obtain ⟨c0, c1, c2, c3, c4, c5, c6, c7, fz7⟩ := MRow.of HR21.out
 go_upto_region 34 with (go_at_call 20; (with_reducible refine RN.out.mono ?_); rintro e w22 ⟨rfl, hb⟩; have HB22 := Lib.hid (HF21.out.trans (hb.mono HF21.out.size)); clear hb)
 clear RN c0 c1 c2 c3 c4 c5 c6 c7 fz7 HR21 HF21
 go_upto_region 38 with (first
  | (go_at_call 25; (with_reducible refine (accept_nil _ _).mono ?_); rintro e wq ⟨rfl, hwq⟩; rw [hwq]; clear hwq wq)
  | (go_at_call 31; (with_reducible refine (lock_nil _).mono ?_); rintro e wq ⟨rfl, hwq⟩; rw [hwq]; clear hwq wq)
  | (go_at_call 21; (with_reducible refine (decided_nil 0 _).mono ?_); rintro e wq ⟨rfl, hwq⟩; rw [hwq]; clear hwq wq)
  | (go_at_call 16; (with_reducible refine (begin_nil _ _ _).mono ?_); rintro e wq ⟨rfl, hwq⟩; rw [hwq]; clear hwq wq)
  | (go_at_call 59; (with_reducible refine (resume_nil _ _ _ _ _ _).mono ?_); rintro e wq ⟨rfl, hwq⟩; rw [hwq]; clear hwq wq)
  | (go_at_call 47; (with_reducible refine (keys_nil _).mono ?_); rintro e wq ⟨rfl, hwq⟩; rw [hwq]; clear hwq wq)
  | (go_at_call 36; (with_reducible refine (learn_nil _ _ _).mono ?_); rintro e wq ⟨rfl, hwq⟩; rw [hwq]; clear hwq wq)
  | (go_at_call 18; (with_reducible refine (tick_nil _).mono ?_); rintro e wq ⟨rfl, hwq⟩; rw [hwq]; clear hwq wq)
  | (go_at_call 24; (with_reducible refine (height_nil _).mono ?_); rintro e wq ⟨rfl, hwq⟩; rw [hwq]; clear hwq wq)
  | (go_at_call 23; (with_reducible refine (round_nil _).mono ?_); rintro e wq ⟨rfl, hwq⟩; rw [hwq]; clear hwq wq)
  | (go_at_call 38; (with_reducible refine (asked_nil _).mono ?_); rintro e wq ⟨rfl, hwq⟩; rw [hwq]; clear hwq wq))
 rcases hasc : ascS r5 with _ | _
 ·have e1 := HJ.out.2 hasc
  have e2 := HAZ.out.1 (by rw [hasc]; rfl)
  subst e1; subst e2
  clear hasc HFZ HJ HAZ
  go_wp2
  go_ret
  exact ⟨rfl, HB22.out⟩
 ·have e1 := HJ.out.1 hasc
  have e2 := HAZ.out.2 (by rw [hasc]; rfl)
  subst e1; subst e2
  clear hasc HFZ HJ HAZ
  go_wp2
  go_ret
  exact ⟨rfl, HB22.out⟩

end Go.Proofs.YtifcdjmcoibblaaGreatDoor

/-! What a law is told of a slice of strings and of a message; the walk of ConsensusRefuses in the words of its frame. -/
namespace Go.Proofs.YtifcdjmcoibblaaGreatDoor
set_option linter.unusedVariables false
open Go.ChangeShapes Go.WideShapes Go.ChangeAt Go.RowKit

theorem eightR {cs : List Value} (h : cs.length = 8) : ∃ a b c d e f g i, cs = [a, b, c, d, e, f, g, i] := by
 match cs, h with
 | [a, b, c, d, e, f, g, i], _ => exact ⟨a, b, c, d, e, f, g, i, rfl⟩

section
variable {H : Type} {enc : TypeId × Value → H} {W : World} {base : Nat} {sp : Nat → Bool} {held : Bool}
theorem strs_in {fuel : Nat} {cs : List Value} {x : DataW H × List MemPlace} (h : DataW.trod enc Tryz.prog W base sp held fuel 30 cs = some x) :
  ∃ (ao : Option Addr) (cap : Nat) (l : List ByteArray), cs = [.slice ao l.length cap] ∧ l.length ≤ 9223372036854775807 ∧ cap ≤ 9223372036854775807 ∧ LRowG W (.slice ao l.length cap) l := by
 rcases Go.Deep.open_slice1 Tryz.underlying30 (by kernel_rfl) h with ⟨hcs, _⟩ | ⟨a, len, cap, m, n, V, D, Pl, hcs, _, hl, hm, hmm, _, hi⟩
 ·exact ⟨none, 0, [], hcs, by simp, by omega, none, 0, rfl, ⟨fun _ => rfl, Nat.le_refl _⟩, RowK.nil _ _ _ _⟩
 ·have hlm : len ≤ m := by rw [hmm]; split <;> omega
  have hch : ∀ i, ∃ s : ByteArray, i < len → W.cell? (a.add i) = some (.string s) := fun i => by
   by_cases hil : i < len
   ·obtain ⟨h1, h2⟩ := hi i (by omega)
    obtain ⟨s, hs, _, _⟩ := DataW.trod_string Tryz.underlying9 h2
    injection hs with hs _
    exact ⟨s, fun _ => by rw [h1, hs]⟩
   ·exact ⟨ByteArray.mk #[], fun q => absurd q hil⟩
  obtain ⟨f, hf⟩ : ∃ f : Nat → ByteArray, ∀ i, i < len → W.cell? (a.add i) = some (.string (f i)) := ⟨fun i => (hch i).choose, fun i hi => (hch i).choose_spec hi⟩
  clear hch
  have hlen : ((List.range len).map f).length = len := by simp
  refine ⟨some a, cap, (List.range len).map f, by rw [hlen]; exact hcs, by rw [hlen]; unfold maxLen at hm; omega, by unfold maxLen at hm; omega, some a, cap, rfl, ⟨(fun e => by cases e), by rw [hlen]; exact hl⟩, fun i s hs => ?_⟩
  have hil : i < len := by have := (List.getElem?_eq_some_iff.1 hs).1; simpa using this
  have es : s = f i := by
   rw [List.getElem?_map, List.getElem?_range hil, Option.map_some] at hs
   exact (Option.some.inj hs).symm
  subst es
  have c0 := hf i hil
  have c1 := hf 0 (by omega)
  clear hi hs
  obtain ⟨b, off, spot⟩ := a
  have hsn : spot = none := by
   have e0 : (Addr.add ⟨b, off, spot⟩ 0) = ⟨b, off, spot⟩ := by simp [Addr.add]
   rw [e0] at c1
   simpa using World.cell?_spot c1
  subst hsn
  have e1 : (Addr.add ⟨b, off, none⟩ i) = ⟨b, off + i, none⟩ := by
   unfold Addr.add
   split
   ·rename_i q; rw [q]; rfl
   ·rfl
  rw [e1] at c0
  refine ⟨b, off, rfl, World.block_lt_of_cell? _ _ c0, fun j v hv => ?_⟩
  have hj : j = 0 := by
   have := (List.getElem?_eq_some_iff.1 hv).1
   simp [encT] at this; exact this
  subst hj
  simp [encT] at hv
  subst hv
  rw [Nat.mul_one, Nat.add_zero]; exact c0
theorem strs_open {a : Option Addr} {len cap : Nat} {d : DataW H} {p : List MemPlace} (h : DataW.Trod enc Tryz.prog W base sp held 30 (.slice a len cap) d p) :
  ∃ l : List ByteArray, l.length = len ∧ len ≤ 9223372036854775807 ∧ cap ≤ 9223372036854775807 ∧ LRowG W (.slice a l.length cap) l := by
 obtain ⟨fuel, h⟩ := h
 obtain ⟨ao, c, l, hcs, h1, h2, h3⟩ := strs_in h
 simp [Value.cells] at hcs
 obtain ⟨rfl, rfl, rfl⟩ := hcs
 exact ⟨l, rfl, h1, h2, h3⟩

set_option maxRecDepth 100000 in
theorem msg_open {cs : Array Value} {d : DataW H} {p : List MemPlace} (h : DataW.Trod enc Tryz.prog W base sp held 36 (.agg cs) d p) :
  ∃ (m : MsgB) (ao : Option Addr) (cap : Nat), cs = encM m (.slice ao m.list.length cap) ∧ m.list.length ≤ 9223372036854775807 ∧ cap ≤ 9223372036854775807 ∧ LRowG W (.slice ao m.list.length cap) m.list := by
 obtain ⟨fuel, h⟩ := h
 obtain ⟨xs, n', _, _, hlen, hxs, hfld⟩ := DataW.trod_struct Tryz.underlying36 h
 have hc8 : Tryz.prog.cellsOf 36 = 8 := by kernel_rfl
 have ci : Tryz.prog.cellsOf 3 = 1 := by kernel_rfl
 have cs1 : Tryz.prog.cellsOf 9 = 1 := by kernel_rfl
 have cl : Tryz.prog.cellsOf 30 = 1 := by kernel_rfl
 rw [hc8] at hlen
 obtain ⟨c0, c1, c2, c3, c4, c5, c6, c7, hcs⟩ := eightR hlen
 have hca : cs.toList = [c0, c1, c2, c3, c4, c5, c6, c7] := hcs
 rw [hcs] at hfld
 have x8 : xs.length = 8 := hxs
 have g0 : DataW.trod enc Tryz.prog W base sp held n' 3 ((List.drop 0 [c0, c1, c2, c3, c4, c5, c6, c7]).take (Tryz.prog.cellsOf 3)) = xs[0]? := hfld 0 _ rfl
 have g1 : DataW.trod enc Tryz.prog W base sp held n' 3 ((List.drop 1 [c0, c1, c2, c3, c4, c5, c6, c7]).take (Tryz.prog.cellsOf 3)) = xs[1]? := hfld 1 _ rfl
 have g2 : DataW.trod enc Tryz.prog W base sp held n' 3 ((List.drop 2 [c0, c1, c2, c3, c4, c5, c6, c7]).take (Tryz.prog.cellsOf 3)) = xs[2]? := hfld 2 _ rfl
 have g3 : DataW.trod enc Tryz.prog W base sp held n' 3 ((List.drop 3 [c0, c1, c2, c3, c4, c5, c6, c7]).take (Tryz.prog.cellsOf 3)) = xs[3]? := hfld 3 _ rfl
 have g4 : DataW.trod enc Tryz.prog W base sp held n' 3 ((List.drop 4 [c0, c1, c2, c3, c4, c5, c6, c7]).take (Tryz.prog.cellsOf 3)) = xs[4]? := hfld 4 _ rfl
 have g5 : DataW.trod enc Tryz.prog W base sp held n' 3 ((List.drop 5 [c0, c1, c2, c3, c4, c5, c6, c7]).take (Tryz.prog.cellsOf 3)) = xs[5]? := hfld 5 _ rfl
 have g6 : DataW.trod enc Tryz.prog W base sp held n' 9 ((List.drop 6 [c0, c1, c2, c3, c4, c5, c6, c7]).take (Tryz.prog.cellsOf 9)) = xs[6]? := hfld 6 _ rfl
 have g7 : DataW.trod enc Tryz.prog W base sp held n' 30 ((List.drop 7 [c0, c1, c2, c3, c4, c5, c6, c7]).take (Tryz.prog.cellsOf 30)) = xs[7]? := hfld 7 _ rfl
 rw [List.getElem?_eq_getElem (by omega)] at g0 g1 g2 g3 g4 g5 g6 g7
 rw [ci] at g0 g1 g2 g3 g4 g5
 rw [cs1] at g6
 rw [cl] at g7
 obtain ⟨z0, e0, _, _⟩ := DataW.trod_int Tryz.underlying3 g0
 obtain ⟨z1, e1, _, _⟩ := DataW.trod_int Tryz.underlying3 g1
 obtain ⟨z2, e2, _, _⟩ := DataW.trod_int Tryz.underlying3 g2
 obtain ⟨z3, e3, _, _⟩ := DataW.trod_int Tryz.underlying3 g3
 obtain ⟨z4, e4, _, _⟩ := DataW.trod_int Tryz.underlying3 g4
 obtain ⟨z5, e5, _, _⟩ := DataW.trod_int Tryz.underlying3 g5
 obtain ⟨z6, e6, _, _⟩ := DataW.trod_string Tryz.underlying9 g6
 obtain ⟨ao, cap, l, e7, h1, h2, h3⟩ := strs_in g7
 simp at e0 e1 e2 e3 e4 e5 e6 e7
 subst e0; subst e1; subst e2; subst e3; subst e4; subst e5; subst e6; subst e7
 refine ⟨⟨z0, z1, z2, z3, z4, z5, z6, l⟩, ao, cap, ?_, h1, h2, h3⟩
 apply Array.ext'
 rw [hca]; rfl
end

theorem refusesF (site n : Int) (ao2 : Option Addr) (len2 cap2 : Nat) (l2 : List ByteArray) (m3 : MsgB) (a3 : Option Addr) (c3 : Nat) (w : World) (hk1 : -9223372036854775808 ≤ site) (hk2 : site ≤ 9223372036854775807) (hn1 : -9223372036854775808 ≤ n) (hn2 : n ≤ 9223372036854775807)
  (hl : l2.length = len2) (hl1 : len2 ≤ 9223372036854775807) (hc1 : cap2 ≤ 9223372036854775807) (hr : LRowG w (.slice ao2 l2.length cap2) l2) (hm1 : m3.list.length ≤ 9223372036854775807) (hm2 : c3 ≤ 9223372036854775807) (hm3 : LRowG w (.slice a3 m3.list.length c3) m3.list) (hG : Glob w) :
  Calls Tryz.prog 12 #[.int .i64 site, .int .i64 n, .slice ao2 len2 cap2, .agg (encM m3 (.slice a3 m3.list.length c3))] w fun e w' => e = .returned (.bool true) ∧ Below w.heap.size w w' := by
 subst hl
 exact refusesL_any site n ao2 cap2 l2 m3 a3 c3 w hr (by omega) (by omega) hm3 (by omega) (by omega) hG

end Go.Proofs.YtifcdjmcoibblaaGreatDoor
