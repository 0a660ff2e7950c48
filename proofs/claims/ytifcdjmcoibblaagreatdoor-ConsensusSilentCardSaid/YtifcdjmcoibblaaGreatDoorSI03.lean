/-
  SILENT: what is reckoned, told of the real nodes. ANSWERS: facts; nodes side by side that no row holds. SILENT: the rounds of the real nodes. SILENT: nodes are made, begin, and are put into a row. SILENT: the row that tells who is silent.
-/
import Derived.Test.YtifcdjmcoibblaaGreatDoorSI02
import Derived.Test.YtifcdjmcoibblaaGreatDoorG27
import Derived.Test.YtifcdjmcoibblaaGreatDoorG36
import Derived.Test.YtifcdjmcoibblaaGreatDoorG33
import Derived.Test.YtifcdjmcoibblaaGreatDoorG26

/-! SILENT: what is reckoned, told of the real nodes. -/
namespace Go.Proofs.YtifcdjmcoibblaaGreatDoor
set_option linter.unusedVariables false
set_option linter.unusedSimpArgs false
set_option linter.unusedSectionVars false

section
variable {D L : Type} [Dg D] [Inhabited L]
theorem askedL_mem {props : List (Int × Msg D L)} {l : L} : ∀ {ks : List Int} {seen : List D}, l ∈ askedL props ks seen → ∃ p ∈ props, p.2.list = l
  | [], _, h => by cases h
  | r :: ks, seen, h => by
    unfold askedL at h
    rcases hg : getA r props with _ | m
    · rw [hg] at h; exact askedL_mem h
    · rw [hg] at h
      simp only at h
      split at h
      · exact askedL_mem h
      · rcases List.mem_cons.1 h with rfl | h
        · exact ⟨(r, m), getA_mem hg, rfl⟩
        · exact askedL_mem h
theorem asked_mem {s : NS D L} {l : L} (h : l ∈ s.asked) : ∃ p ∈ s.props, p.2.list = l := by
  unfold NS.asked at h
  split at h
  · cases h
  · exact askedL_mem h
theorem sMid_app (dg : L → D) (sil : Nat → Bool) : ∀ (a b : List (NS D L)) (k : Nat), sMid dg sil k (a ++ b) = sMid dg sil k a ++ sMid dg sil (k + a.length) b
  | [], b, k => by simp [sMid]
  | s :: a, b, k => by
    show _ :: sMid dg sil (k + 1) (a ++ b) = _ :: sMid dg sil (k + 1) a ++ _
    rw [sMid_app dg sil a b (k + 1), List.length_cons, show k + 1 + a.length = k + (a.length + 1) from by omega]
    rfl
theorem sOut_app (dg : L → D) (sil : Nat → Bool) : ∀ (a b : List (NS D L)) (k : Nat), sOut dg sil k (a ++ b) = sOut dg sil k a ++ sOut dg sil (k + a.length) b
  | [], b, k => by simp [sOut]
  | s :: a, b, k => by
    show _ ++ sOut dg sil (k + 1) (a ++ b) = (_ ++ sOut dg sil (k + 1) a) ++ _
    rw [sOut_app dg sil a b (k + 1), List.length_cons, show k + 1 + a.length = k + (a.length + 1) from by omega, List.append_assoc]
theorem sMid_len (dg : L → D) (sil : Nat → Bool) : ∀ (a : List (NS D L)) (k : Nat), (sMid dg sil k a).length = a.length
  | [], _ => rfl
  | s :: a, k => by show (sMid dg sil (k + 1) a).length + 1 = _; rw [sMid_len dg sil a (k + 1)]; rfl
theorem sDlv_len (sil : Nat → Bool) (ns : List (NS D L)) (m : Msg D L) : (sDlv sil ns m).length = ns.length := by
  unfold sDlv
  split
  · rfl
  · unfold dlvN; simp
theorem sDlvs_len (sil : Nat → Bool) : ∀ (ms : List (Msg D L)) (ns : List (NS D L)), (ms.foldl (sDlv sil) ns).length = ns.length
  | [], _ => rfl
  | m :: ms, ns => by rw [List.foldl_cons, sDlvs_len sil ms, sDlv_len]
end

/-- the list of a node -/
def famI (i : Nat) : Nat := [0, 4, 2, 5, 6, 7, 8].getD i 0
theorem famI_lt {i : Nat} (h : i < 7) : famI i < 10 := of_decide_eq_true (List.all_eq_true.1 (show ((List.range 7).all fun i => decide (famI i < 10)) = true by decide) i (List.mem_range.2 h))
theorem famI_L {i : Nat} (h : i < 7) : famL (famI i) = [idL (1 + i)] := by
  obtain rfl | rfl | rfl | rfl | rfl | rfl | rfl : i = 0 ∨ i = 1 ∨ i = 2 ∨ i = 3 ∨ i = 4 ∨ i = 5 ∨ i = 6 := by omega
  all_goals rfl
def rn8 (q : SZ 7) : StB := q.ren (codeD tab8) (codeL tab8)
theorem codeZ_ok {i : Nat} (h : i < 7) : codeD tab8 (codeZ i) = digV (fam (famI i)) ∧ codeL tab8 (codeZ i) = fam (famI i) := by
  obtain rfl | rfl | rfl | rfl | rfl | rfl | rfl : i = 0 ∨ i = 1 ∨ i = 2 ∨ i = 3 ∨ i = 4 ∨ i = 5 ∨ i = 6 := by omega
  all_goals exact ⟨by unfold codeD codeZ; rfl, by unfold codeL codeZ; rfl⟩
/-- a node begins with its list -/
def bgS (i : Nat) (s : StB) : StB := (s.begin 0 (ascS (fam (famI i))) (digV (fam (famI i))) (fam (famI i))).1
def startS (N : Nat) : List StB := (List.range N).map fun (i : Nat) => bgS i (newS (i : Int) (N : Int))
theorem startS_eq {N : Nat} (h7 : N ≤ 7) : startS N = (startZ N codeZ).map rn8 := by
  unfold startS startZ bgS
  rw [List.map_map]
  apply List.map_congr_left
  intro i hi
  have hi := List.mem_range.1 hi
  obtain ⟨e1, e2⟩ := codeZ_ok (i := i) (by omega)
  show ((rn8 (newS (i : Int) (N : Int))).begin 0 (ascS (fam (famI i))) (digV (fam (famI i))) (fam (famI i))).1 = _
  rw [asc_fam (famI_lt (by omega)), ← e1]
  conv => lhs; arg 1; arg 5; rw [← e2]
  exact congrArg Prod.fst (begin_ren ren8 (newS (i : Int) (N : Int)) 0 true (codeZ i) (codeZ i))

theorem tab8_ne : (tab8.all fun j => decide (j ≠ 9)) = true := by decide
theorem code_dig {c l : QZ 7} (h : GA (codeD tab8 c) (codeL tab8 l)) : digV (codeL tab8 l) = codeD tab8 l := by
  obtain ⟨j, hj, e1, e2⟩ := h
  unfold codeL codeD
  by_cases hl : l.val = 0
  · exfalso
    unfold codeL at e1
    rw [if_pos hl] at e1
    have h9 : fam 9 = [] := rfl
    have := fam_inj2 (i := 9) (j := j) (by decide) hj (by rw [h9]; exact e1)
    subst this
    unfold codeD at e2
    by_cases hc : c.val = 0
    · rw [if_pos hc] at e2
      have := congrArg ByteArray.size e2
      rw [digV_size] at this
      exact absurd this (by decide)
    · rw [if_neg hc] at e2
      have hlt : c.val - 1 < tab8.length := by have := c.isLt; show c.val - 1 < 7; omega
      have hm : tab8.getD (c.val - 1) 0 ∈ tab8 := by
        rw [List.getD_eq_getElem?_getD, List.getElem?_eq_getElem hlt]; exact List.getElem_mem _
      have h10 := (show ∀ x ∈ tab8, x < 10 by decide) _ hm
      have := fam_inj h10 (by decide : 9 < 10) e2
      exact of_decide_eq_true (List.all_eq_true.1 tab8_ne _ hm) this
  · rw [if_neg hl, if_neg hl]

theorem acc_link {q : SZ 7} (hf : Fit GA (rn8 q)) : accAll digV (rn8 q) = rn8 (accAll (fun l => l) q) := by
  unfold accAll
  have hask : (rn8 q).asked = q.asked.map (codeL tab8) := asked_ren ren8 q
  rw [hask]
  have hok : ∀ l ∈ q.asked, digV (codeL tab8 l) = codeD tab8 l := fun l hl => by
    obtain ⟨p, hp, e⟩ := asked_mem hl
    have := hf.ok.gi.pg (p.1, p.2.ren (codeD tab8) (codeL tab8)) (List.mem_map.2 ⟨p, hp, rfl⟩)
    rw [← e]
    exact code_dig this
  clear hask hf
  generalize hls : q.asked = ls at hok
  clear hls
  induction ls generalizing q with
  | nil => rfl
  | cons l ls ih =>
    rw [List.map_cons, List.foldl_cons, List.foldl_cons, hok l (by simp)]
    have : (rn8 q).accept (codeD tab8 l) = rn8 (q.accept l) := accept_ren ren8 q l
    rw [this]
    exact ih (q := q.accept l) (fun x hx => hok x (by simp [hx]))

theorem Fit.accs {s : StB} (h : Fit GA s) (ls : List (List ByteArray)) : Fit GA (ls.foldl (fun t l => t.accept (digV l)) s) := by
  induction ls generalizing s with
  | nil => exact h
  | cons l ls ih => exact ih (h.accept _)
theorem Fit.accAll {s : StB} (h : Fit GA s) : Fit GA (accAll digV s) := h.accs _

abbrev rm8 (m : MZ 7) : MsgB := m.ren (codeD tab8) (codeL tab8)
theorem sgo_link (sil : Nat → Bool) : ∀ (ns : List (SZ 7)) (i : Nat), (∀ s ∈ ns, Fit GA (rn8 s)) → sMid digV sil i (ns.map rn8) = (sMid (fun l => l) sil i ns).map rn8 ∧ sOut digV sil i (ns.map rn8) = (sOut (fun l => l) sil i ns).map rm8
  | [], _, _ => ⟨rfl, rfl⟩
  | s :: ns, i, h => by
    obtain ⟨a, b⟩ := sgo_link sil ns (i + 1) (fun x hx => h x (by simp [hx]))
    have hl := acc_link (h s (by simp))
    have ht : (rn8 (accAll (fun l => l) s)).tick = (rn8 (accAll (fun l => l) s).tick.1, (accAll (fun l => l) s).tick.2.map rm8) := tick_ren ren8 _
    refine ⟨?_, ?_⟩
    · show (if sil i then accAll digV (rn8 s) else (accAll digV (rn8 s)).tick.1) :: sMid digV sil (i + 1) (ns.map rn8) = rn8 (if sil i then accAll (fun l => l) s else (accAll (fun l => l) s).tick.1) :: (sMid (fun l => l) sil (i + 1) ns).map rn8
      rw [a, hl, ht]
      split <;> rfl
    · show (if sil i then [] else (accAll digV (rn8 s)).tick.2) ++ sOut digV sil (i + 1) (ns.map rn8) = ((if sil i then [] else (accAll (fun l => l) s).tick.2) ++ sOut (fun l => l) sil (i + 1) ns).map rm8
      rw [b, hl, ht, List.map_append]
      split <;> rfl
theorem sdlv_link (sil : Nat → Bool) : ∀ (ms : List (MZ 7)) (ns : List (SZ 7)), (ms.map rm8).foldl (sDlv sil) (ns.map rn8) = (ms.foldl (sDlv sil) ns).map rn8
  | [], _ => rfl
  | m :: ms, ns => by
    rw [List.map_cons, List.foldl_cons, List.foldl_cons]
    have : sDlv sil (ns.map rn8) (rm8 m) = (sDlv sil ns m).map rn8 := by
      unfold sDlv
      show (if sil m.to.toNat then _ else dlvN (ns.map (NS.ren (codeD tab8) (codeL tab8))) (m.ren (codeD tab8) (codeL tab8))) = _
      rw [dlv_ren ren8]
      split <;> rfl
    rw [this]
    exact sdlv_link sil ms _

/-- the nodes, that have ticked so often at most -/
structure CrewS (N : Nat) (T : Int) (ss : List StB) : Prop where
  len : ss.length = N
  each : ∀ (i : Nat) (s : StB), ss[i]? = some s → s.id = (i : Int) ∧ s.n = (N : Int) ∧ s.ticks ≤ T ∧ Fit GA s
theorem CrewS.fit {N : Nat} {T : Int} {ss : List StB} (h : CrewS N T ss) : ∀ s ∈ ss, Fit GA s := fun s hs => by
  obtain ⟨i, hi⟩ := List.getElem?_of_mem hs
  exact (h.each i s hi).2.2.2
theorem CrewS.mono {N : Nat} {T U : Int} {ss : List StB} (h : CrewS N T ss) (hu : T ≤ U) : CrewS N U ss := ⟨h.len, fun i s hs => by
  obtain ⟨a, b, c, d⟩ := h.each i s hs
  exact ⟨a, b, Int.le_trans c hu, d⟩⟩
theorem CrewS.set {N : Nat} {T : Int} {ss : List StB} (h : CrewS N T ss) {i : Nat} {s : StB} (h1 : s.id = (i : Int)) (h2 : s.n = (N : Int)) (h3 : s.ticks ≤ T) (h4 : Fit GA s) : CrewS N T (ss.set i s) := by
  refine ⟨by rw [List.length_set]; exact h.len, fun j t ht => ?_⟩
  rw [List.getElem?_set] at ht
  split at ht
  · rename_i e
    split at ht
    · cases ht; subst e; exact ⟨h1, h2, h3, h4⟩
    · cases ht
  · exact h.each j t ht

theorem accs_keep (ls : List (List ByteArray)) (s : StB) : (ls.foldl (fun t l => t.accept (digV l)) s).id = s.id ∧ (ls.foldl (fun t l => t.accept (digV l)) s).n = s.n ∧ (ls.foldl (fun t l => t.accept (digV l)) s).ticks = s.ticks ∧ (ls.foldl (fun t l => t.accept (digV l)) s).height = s.height ∧ (ls.foldl (fun t l => t.accept (digV l)) s).decs = s.decs := by
  induction ls generalizing s with
  | nil => exact ⟨rfl, rfl, rfl, rfl, rfl⟩
  | cons l ls ih => exact ih (s.accept (digV l))
end Go.Proofs.YtifcdjmcoibblaaGreatDoor

/-! ANSWERS: facts; nodes side by side that no row holds. -/
namespace Go.Proofs.YtifcdjmcoibblaaGreatDoor
set_option linter.unusedVariables false
set_option linter.unusedSimpArgs false
set_option linter.unusedSectionVars false
open Go.RowKit

/-- a message of a row -/
theorem OutR.nth {Z : Nat → Prop} {wt W : World} {ao : Option Addr} {cap n : Nat} {ms : List MsgB} (h : OutR Z wt W (.slice ao n cap) ms) {q : Nat} {m : MsgB} (hq : ms[q]? = some m) :
    ∃ b off lo lc, ao = some ⟨b, off, none⟩ ∧ (∀ (j : Nat) (u : Value), (encM m (.slice lo m.list.length lc)).toList[j]? = some u → W.cell? ⟨b, off + q * 8 + j, none⟩ = some u) ∧ LRow (NewZ Z wt W) W (.slice lo m.list.length lc) m.list := by
  obtain ⟨sls, h1, h2, h3⟩ := h
  have hz : (sls.zip ms).length = ms.length := by rw [List.length_zip, h1.len, Nat.min_self]
  obtain ⟨ao2, cap2, e, hc, hrw⟩ := rowK_of_owns (enc := encP) (l := sls.zip ms) encP_len (by decide) h2
  injection e with e1 e2 e3
  subst e1
  have hl := (List.getElem?_eq_some_iff.1 hq).1
  have hs : q < sls.length := by rw [h1.len]; exact hl
  have hzq : (sls.zip ms)[q]? = some (sls[q], m) := by
    rw [List.getElem?_zip_eq_some]
    exact ⟨List.getElem?_eq_getElem hs, hq⟩
  obtain ⟨b, off, e4, _, hcell⟩ := hrw q _ hzq
  have hr := all2_zip h1 _ (List.mem_of_getElem? hzq)
  obtain ⟨lo, lc, e5, _⟩ := id hr
  simp only at e5 hr
  rw [e5] at hcell hr
  exact ⟨b, off, lo, lc, e4, hcell, hr⟩

theorem same_rows (ao bo : Option Addr) (ca cb : Nat) (l : List ByteArray) (W : World) {Ra Rb : Nat → Prop} (hl : l.length ≤ 60) (ha : LRow Ra W (.slice ao l.length ca) l) (hb : LRow Rb W (.slice bo l.length cb) l) :
    Calls Tryz.prog 22 #[.slice ao l.length ca, .slice bo l.length cb] W fun e w' => e = .returned (.bool true) ∧ Below W.heap.size W w' := by
  obtain ⟨a2, c2, e1, _, hra⟩ := ha.row
  obtain ⟨b2, d2, e2, _, hrb⟩ := hb.row
  injection e1 with e1 _ _
  injection e2 with e2 _ _
  subst e1 e2
  refine (same_any ao bo ca cb _ _ l l W rfl rfl (by omega) hra hrb).mono ?_
  rintro e w' ⟨rfl, h⟩
  refine ⟨?_, h⟩
  unfold sameB
  rw [decide_eq_true rfl]
/-- nodes since w1 -/
structure Flk (G : ByteArray → List ByteArray → Prop) (base : Nat) (w1 : World) (xs : List Nat) (ss : List StB) (Rs : Nat → Nat → Prop) (W : World) : Prop where
  net : Net G base W xs ss Rs
  bel : Below base w1 W
  pos : 0 < base
  le : base ≤ w1.heap.size
  glob : Glob w1

section
variable {G : ByteArray → List ByteArray → Prop} {base : Nat} {w1 W W' : World} {xs : List Nat} {ss ss' : List StB} {Rs Rs' : Nat → Nat → Prop}
theorem Flk.size (h : Flk G base w1 xs ss Rs W) : base ≤ W.heap.size := Nat.le_trans h.le h.bel.size
theorem Flk.gl (h : Flk G base w1 xs ss Rs W) : Glob W := by
  obtain ⟨t, ht⟩ := h.glob
  exact ⟨t, (h.bel.block 0 h.pos).trans ht⟩
theorem Flk.sail (h : Flk G base w1 xs ss Rs W) (s : Sail G base W xs Rs W' ss' Rs') : Flk G base w1 xs ss' Rs' W' :=
  ⟨s.net, h.bel.trans (s.chg.below h.size (fun k hk => h.net.low hk)), h.pos, h.le, h.glob⟩
theorem Flk.later (h : Flk G base w1 xs ss Rs W) (hb : Below W.heap.size W W') : Flk G base w1 xs ss Rs W' :=
  ⟨h.net.later hb, h.bel.trans (hb.mono h.size), h.pos, h.le, h.glob⟩
theorem Flk.nil {w1 : World} (hp : 0 < w1.heap.size) (hG : Glob w1) : Flk G w1.heap.size w1 [] [] (fun _ _ => False) w1 := ⟨Net.nil _ _ _ _, Below.refl _ _, hp, Nat.le_refl _, hG⟩
/-- the first of two alone -/
theorem Flk.first {x y : Nat} {s t : StB} (h : Flk G base w1 [x, y] [s, t] Rs W) : Flk G base w1 [x] [s] Rs W := by
  have hn := h.net
  refine ⟨⟨rfl, fun i a b ha hb => ?_, fun a ha => hn.fit a (by simp at ha; simp [ha]), fun i j k hi hj => hn.dis i j k (by simp at hi ⊢; omega) (by simp at hj ⊢; omega), fun i k hi => hn.lo i k (by simp at hi ⊢; omega)⟩, h.bel, h.pos, h.le, h.glob⟩
  have hi := (List.getElem?_eq_some_iff.1 ha).1
  obtain rfl : i = 0 := by simp at hi; exact hi
  exact hn.node 0 a b ha hb
/-- one more node -/
theorem flk_new (h : Flk G base w1 xs ss Rs W) {id n : Int} (h1 : 1 ≤ n) (h7 : n ≤ 7) (hi : 0 ≤ id) (hin : id < n) :
    Calls Tryz.prog 15 #[.int .i64 id, .int .i64 n] W fun e w' => ∃ x Rs', e = .returned (.tuple #[pv x, .int .i64 0]) ∧ Flk G base w1 (xs ++ [x]) (ss ++ [newS id n]) Rs' w' ∧ Below W.heap.size W w' :=
  (nnew h.net h.size h1 h7 hi hin).mono fun e w' ⟨x, Rs', e1, h2, h3, h4⟩ => ⟨x, Rs', e1, ⟨h2, h.bel.trans (h3.mono h.size), h.pos, h.le, h.glob⟩, h3⟩
theorem nlearn {w : World} {i x : Nat} {s : StB} {R0 : Nat → Prop} {v : Value} {l : List ByteArray} (gf : GFam G) (hN : Net G base w xs ss Rs) (hb : base ≤ w.heap.size) (hx : xs[i]? = some x) (hs : ss[i]? = some s) (hr : LRow R0 w v l) (h0 : ∀ k, R0 k → k < w.heap.size) (hl : l.length ≤ 60) (hG : Glob w) (hv : ascS l = true → G (digV l) l) (height : Int) :
    Calls Tryz.prog 36 #[pv x, iv height, v] w fun e w' => e = .returned (errE (s.learn height (ascS l) (digV l) l).2) ∧ ∃ Rs', Sail G base w xs Rs w' (ss.set i (s.learn height (ascS l) (digV l) l).1) Rs' := by
  obtain ⟨p, hp⟩ := hN.node i x s hx hs
  have hf := hN.idx hx hs
  refine (learn_any hp hr h0 hl hG height).mono ?_
  rintro e w' ⟨rfl, h1⟩
  obtain ⟨R', h2⟩ := h1.step
  exact ⟨rfl, _, hN.sail hb hx h2 (hf.learn height hv)⟩
end

/-- a new node that ticks decides nothing -/
theorem late_idle {n : Int} (h4 : 4 ≤ n) (h7 : n ≤ 7) : getA 0 (newS (n - 1) n : StB).tick.1.decs = none := by
  rw [rn_new, (rn_tick _).1]
  apply rn_undec
  obtain rfl | rfl | rfl | rfl : n = 4 ∨ n = 5 ∨ n = 6 ∨ n = 7 := by omega
  all_goals decide +kernel

theorem receive_ticks (s : StB) (m : MsgB) (ok : Bool) : (s.receive m ok).ticks = s.ticks := by
  unfold NS.receive
  split
  · rfl
  · split
    · rfl
    · split
      · obtain ⟨a, b, e⟩ := ask_same s m
        rw [e]
      · split
        · rfl
        · split
          · exact (putVote_same s m).1.ticks
          · split
            · rfl
            · split <;> rfl
theorem receives_ticks : ∀ (ms : List MsgB) (s : StB), (ms.foldl (fun s m => s.receive m true) s).ticks = s.ticks
  | [], _ => rfl
  | m :: ms, s => by rw [List.foldl_cons, receives_ticks ms, receive_ticks]

theorem late_quiet {n : Int} (h4 : 4 ≤ n) (h7 : n ≤ 7) : (newS (n - 1) n : StB).tick.2 = [] := by
  apply List.eq_nil_of_length_eq_zero
  rw [rn_new, (rn_tick _).2]
  obtain rfl | rfl | rfl | rfl : n = 4 ∨ n = 5 ∨ n = 6 ∨ n = 7 := by omega
  all_goals decide +kernel

/-- the round of an answer's message -/
def ansR (n i r : Int) (q : Nat) : Int := if q = 0 then (if r % n = i then r + 1 else r) else if 2 ≤ (q : Int) ∧ (q : Int) < r + 3 then (q : Int) - 2 else r
theorem answer_at {n i r : Int} {d : ByteArray} {l : List ByteArray} (hn : 2 ≤ n) (h0 : 0 ≤ i) (h1 : i < n) (hr : 0 ≤ r) (hr2 : r < 99) {site : Int} {q : Nat} {m : MsgB} (hq : ((toldS i n d l : StB).answer site (0, r))[q]? = some m) :
    m.to = site ∧ m.round = ansR n i r q ∧ m.dig = d := by
  rw [answer_eq] at hq
  unfold ansR
  rcases q with _ | _ | q
  · simp at hq
    subst hq
    exact ⟨rfl, (claim_round hn h0 h1 hr hr2).2, rfl⟩
  · simp at hq
    subst hq
    exact ⟨rfl, by rw [if_neg (by omega), if_neg (by omega)], rfl⟩
  · simp only [List.append_assoc, List.cons_append, List.nil_append, List.getElem?_cons_succ] at hq
    rw [if_neg (by omega)]
    by_cases hlt : q < (r + 1).toNat
    · rw [List.getElem?_append_left (by simpa using hlt)] at hq
      rw [List.getElem?_map, List.getElem?_range hlt] at hq
      simp at hq
      subst hq
      refine ⟨rfl, ?_, rfl⟩
      rw [if_pos (by omega)]
      show (q : Int) = _
      omega
    · rw [List.getElem?_append_right (by simp; omega)] at hq
      have hz : q - ((List.range (r + 1).toNat).map fun (k : Nat) => (⟨6, i, site, 0, (k : Int), 0, d, default⟩ : MsgB)).length = 0 := by
        have := (List.getElem?_eq_some_iff.1 hq).1
        simp at this ⊢
        omega
      rw [hz] at hq
      simp at hq
      subst hq
      refine ⟨rfl, ?_, rfl⟩
      rw [if_neg (by omega)]

/-- the late site's message is valid -/
theorem lateV_ok {n i r : Int} (h4 : 4 ≤ n) (h7 : n ≤ 7) (h0 : 0 ≤ i) (h1 : i < n - 1) (hr : 0 ≤ r) (hr2 : r ≤ 99) : validB (lateV n i r : MsgB) = true := by
  have hs : sitesB (lateV n i r : MsgB) = true := by
    unfold sitesB siteB lateV
    simp
    omega
  have hv : voteOk (lateV n i r : MsgB) = true := by
    unfold voteOk placedB lateV
    simp
    refine ⟨⟨⟨by omega, by omega⟩, rfl⟩, .inl ?_⟩
    decide +kernel
  unfold validB
  rw [hs, hv]
  have k1 : (lateV n i r : MsgB).kind = 4 := rfl
  rw [k1]
  rfl
/-- the greatest round, of none 0 -/
def mostO : Option Int → Int
  | none => 0
  | some r => r
theorem mostO_max (o : Option Int) {r : Int} (hr : 1 ≤ r) : mostO (maxO o r) = max (mostO o) r := by
  rcases o with _ | a
  · show r = max 0 r; omega
  · rfl
theorem quesS_nil (id n : Int) (d : ByteArray) (l : List ByteArray) : (quesS id n d l (quesOf n none) : StB) = toldS id n d l := rfl

end Go.Proofs.YtifcdjmcoibblaaGreatDoor

/-! SILENT: the rounds of the real nodes. -/
namespace Go.Proofs.YtifcdjmcoibblaaGreatDoor
set_option linter.unusedVariables false
set_option linter.unusedSimpArgs false
set_option linter.unusedSectionVars false

section
variable {D L : Type} [Dg D] [Inhabited L]
theorem sMid_get (dg : L → D) (sil : Nat → Bool) : ∀ (a : List (NS D L)) (k i : Nat), (sMid dg sil k a)[i]? = (a[i]?).map fun s => if sil (k + i) then accAll dg s else (accAll dg s).tick.1
  | [], _, _ => by simp [sMid]
  | s :: a, k, 0 => rfl
  | s :: a, k, i + 1 => by
    show (sMid dg sil (k + 1) a)[i]? = _
    rw [sMid_get dg sil a (k + 1) i, show k + 1 + i = k + (i + 1) from by omega]
    rfl
theorem sOut_mem {dg : L → D} {sil : Nat → Bool} {m : Msg D L} : ∀ {a : List (NS D L)} {k : Nat}, m ∈ sOut dg sil k a → ∃ i s, a[i]? = some s ∧ sil (k + i) = false ∧ m ∈ (accAll dg s).tick.2
  | [], _, h => by cases h
  | s :: a, k, h => by
    unfold sOut at h
    rcases List.mem_append.1 h with h | h
    · by_cases hs : sil k = true
      · rw [if_pos hs] at h; cases h
      · rw [if_neg hs] at h
        exact ⟨0, s, rfl, by simpa using hs, h⟩
    · obtain ⟨i, t, h1, h2, h3⟩ := sOut_mem h
      exact ⟨i + 1, t, h1, by rw [← h2]; congr 1; omega, h3⟩
end

theorem CrewS.mid {N : Nat} {T : Int} {ns : List StB} (h : CrewS N T ns) (sil : Nat → Bool) : CrewS N (T + 1) (sMid digV sil 0 ns) := by
  refine ⟨by rw [sMid_len]; exact h.len, fun i s hs => ?_⟩
  rw [sMid_get] at hs
  rcases hn : ns[i]? with _ | t
  · rw [hn] at hs; cases hs
  · rw [hn] at hs
    obtain ⟨a, b, c, d⟩ := h.each i t hn
    obtain ⟨k1, k2, k3, _⟩ := accs_keep t.asked t
    have hf := d.accAll
    simp only [Option.map_some, Option.some.injEq] at hs
    split at hs
    · subst hs
      exact ⟨k1.trans a, k2.trans b, by show (accAll digV t).ticks ≤ _; unfold accAll; rw [k3]; omega, hf⟩
    · subst hs
      have hk := tick_keep hf.ok.inv
      refine ⟨hk.id.trans (k1.trans a), hk.n.trans (k2.trans b), ?_, hf.tick⟩
      have := hk.ticks
      have e : (accAll digV t).ticks = t.ticks := k3
      omega
/-- the messages of a round: well formed, and of the crew -/
theorem sOut_ok {N : Nat} {T : Int} {ns : List StB} (h : CrewS N T ns) {sil : Nat → Bool} {m : MsgB} (hm : m ∈ sOut digV sil 0 ns) : validB m = true ∧ m.list.length ≤ 60 ∧ (m.kind = 3 → GA m.dig m.list) ∧ 0 ≤ m.to ∧ m.to < N := by
  obtain ⟨i, s, h1, _, h3⟩ := sOut_mem hm
  obtain ⟨_, b, _, d⟩ := h.each i s h1
  have hf := d.accAll
  have ho := hf.out GA.gf m h3
  obtain ⟨p, q, r⟩ := out_valid GA.gf ho hf.ok.inv.num.id0 hf.ok.inv.num.idn hf.ok.inv.num.n7
  have hn : (accAll digV s).n = (N : Int) := (accs_keep s.asked s).2.1.trans b
  exact ⟨p, q, r, ho.t0, by have := ho.t1; omega⟩
theorem sdlv_at {sil : Nat → Bool} {ns : List StB} {m : MsgB} {s : StB} (hs : ns[m.to.toNat]? = some s) : sDlv sil ns m = if sil m.to.toNat then ns else ns.set m.to.toNat (s.receive m true) := by
  unfold sDlv
  split
  · rfl
  · unfold dlvN
    apply List.ext_getElem?
    intro j
    rw [List.getElem?_modify, List.getElem?_set]
    by_cases q : m.to.toNat = j
    · subst q
      have hl := (List.getElem?_eq_some_iff.1 hs).1
      rw [hs]
      simp [hl]
    · simp [q]
theorem CrewS.dlv {N : Nat} {T : Int} {ns : List StB} (h : CrewS N T ns) {sil : Nat → Bool} {m : MsgB} (hv : validB m = true) (hg : m.kind = 3 → GA m.dig m.list) (h0 : 0 ≤ m.to) (h1 : m.to < N) : CrewS N T (sDlv sil ns m) := by
  have hl : m.to.toNat < ns.length := by rw [h.len]; omega
  rw [sdlv_at (List.getElem?_eq_getElem hl)]
  split
  · exact h
  · obtain ⟨a, b, c, d⟩ := h.each _ _ (List.getElem?_eq_getElem hl)
    obtain ⟨e1, e2, e3, _⟩ := receive_kept ns[m.to.toNat] m true
    have hf := d.receive (m := m) (fun _ => hg)
    rw [hv] at hf
    exact h.set (e2.trans a) (e3.trans b) (by rw [receive_ticks]; exact c) hf
theorem CrewS.dlvs {N : Nat} {T : Int} {sil : Nat → Bool} : ∀ {ms : List MsgB} {ns : List StB}, CrewS N T ns → (∀ m ∈ ms, validB m = true ∧ (m.kind = 3 → GA m.dig m.list) ∧ 0 ≤ m.to ∧ m.to < N) → CrewS N T (ms.foldl (sDlv sil) ns)
  | [], _, h, _ => h
  | m :: ms, ns, h, hm => by
    obtain ⟨a, b, c, d⟩ := hm m (by simp)
    rw [List.foldl_cons]
    exact (h.dlv a b c d).dlvs (fun x hx => hm x (by simp [hx]))
/-- k messages of a round have arrived -/
def gotS (sil : Nat → Bool) (k : Nat) (ns : List StB) : List StB := ((sOut digV sil 0 ns).take k).foldl (sDlv sil) (sMid digV sil 0 ns)
theorem gotS_zero (sil : Nat → Bool) (ns : List StB) : gotS sil 0 ns = sMid digV sil 0 ns := rfl
theorem gotS_all {sil : Nat → Bool} {k : Nat} {ns : List StB} (h : (sOut digV sil 0 ns).length ≤ k) : gotS sil k ns = sRnd digV sil ns := by
  unfold gotS sRnd
  rw [List.take_of_length_le h]
theorem gotS_next {sil : Nat → Bool} {k : Nat} {ns : List StB} {m : MsgB} (h : (sOut digV sil 0 ns)[k]? = some m) : gotS sil (k + 1) ns = sDlv sil (gotS sil k ns) m := by
  unfold gotS
  rw [List.take_add_one, h]
  simp [List.foldl_append]
theorem CrewS.got {N : Nat} {T : Int} {ns : List StB} (h : CrewS N T ns) (sil : Nat → Bool) (k : Nat) : CrewS N (T + 1) (gotS sil k ns) :=
  (h.mid sil).dlvs (fun m hm => by
    obtain ⟨a, b, c, d⟩ := sOut_ok h (List.mem_of_mem_take hm)
    exact ⟨a, c, d⟩)
theorem CrewS.rnd {N : Nat} {T : Int} {ns : List StB} (h : CrewS N T ns) (sil : Nat → Bool) : CrewS N (T + 1) (sRnd digV sil ns) := by
  rw [← gotS_all (Nat.le_refl _)]; exact h.got sil _
theorem begin_keeps (s : StB) (ok : Bool) (d : ByteArray) (l : List ByteArray) (h0 : s.height = 0) : (s.begin 0 ok d l).1.id = s.id ∧ (s.begin 0 ok d l).1.n = s.n ∧ (s.begin 0 ok d l).1.ticks = s.ticks := by
  obtain ⟨o, a, e⟩ := begin_zero s h0 ok d l
  rw [e]; exact ⟨rfl, rfl, rfl⟩
theorem start_crewS {N : Nat} (h7 : N ≤ 7) : CrewS N 0 (startS N) := by
  refine ⟨by simp [startS], fun i s hs => ?_⟩
  unfold startS at hs
  rw [List.getElem?_map] at hs
  have hi : i < N := by
    rcases Nat.lt_or_ge i N with q | q
    · exact q
    · rw [List.getElem?_eq_none (by simpa using q)] at hs; cases hs
  rw [List.getElem?_range hi] at hs
  simp only [Option.map_some, Option.some.injEq] at hs
  subst hs
  obtain ⟨a, b, c⟩ := begin_keeps (newS (i : Int) (N : Int)) (ascS (fam (famI i))) (digV (fam (famI i))) (fam (famI i)) rfl
  exact ⟨a, b, by show _ ≤ _; unfold bgS; rw [c]; exact Int.le_refl _, (Fit.new (by omega) (by omega) (by omega)).begin GA.gf 0 (fun _ => GA.fam (famI_lt (by omega)))⟩
theorem rnds_crewS {N : Nat} (h7 : N ≤ 7) (sil : Nat → Bool) : ∀ j : Nat, CrewS N j (sRnds digV sil j (startS N))
  | 0 => start_crewS h7
  | j + 1 => by
    have := (rnds_crewS h7 sil j).rnd sil
    exact this.mono (by push_cast; omega)
theorem rnds_link {N : Nat} (h7 : N ≤ 7) (sil : Nat → Bool) : ∀ j : Nat, sRnds digV sil j (startS N) = (sRnds (fun l => l) sil j (startZ N codeZ)).map rn8
  | 0 => startS_eq h7
  | j + 1 => by
    have ih := rnds_link h7 sil j
    have hc := rnds_crewS h7 sil j
    rw [ih] at hc
    show sRnd digV sil (sRnds digV sil j (startS N)) = (sRnd (fun l => l) sil (sRnds (fun l => l) sil j (startZ N codeZ))).map rn8
    rw [ih]
    unfold sRnd
    obtain ⟨a, b⟩ := sgo_link sil (sRnds (fun l => l) sil j (startZ N codeZ)) 0 (fun s hs => hc.fit _ (List.mem_map.2 ⟨s, hs, rfl⟩))
    rw [a, b, sdlv_link]
/-- after all rounds the others have decided on the list of one of them -/
theorem silentR {N k T : Nat} (h4 : 4 ≤ N) (h7 : N ≤ 7) (hk : k < N) (hT : 1000 ≤ T) : ∃ who, who < N ∧ silNth N ((N - 1) / 3) k who = false ∧ ∀ i, i < N → silNth N ((N - 1) / 3) k i = false → ∃ s v, (sRnds digV (silNth N ((N - 1) / 3) k) T (startS N))[i]? = some s ∧ getA 0 s.decs = some v ∧ v.list = fam (famI who) := by
  obtain ⟨fin, ⟨hq, t, ht, he, _, _⟩, hd⟩ := silent_all h4 h7 hk
  have e1 : sRnds (fun l => l) (silNth N ((N - 1) / 3) k) T (startZ N codeZ) = fin := by
    rw [show T = t + (T - t) from by omega, sRnds_add, he]
    exact quiet_rnds hq _
  unfold silDone at hd
  obtain ⟨who, hw, hd⟩ := List.any_eq_true.1 hd
  have hw := List.mem_range.1 hw
  rw [Bool.and_eq_true] at hd
  obtain ⟨hs, hd⟩ := hd
  refine ⟨who, hw, by simpa using hs, fun i hi hsi => ?_⟩
  have := List.all_eq_true.1 hd i (List.mem_range.2 hi)
  rw [hsi, Bool.false_or] at this
  rw [rnds_link h7, e1, List.getElem?_map]
  rcases hf : fin[i]? with _ | s
  · rw [hf] at this; cases this
  · rw [hf] at this
    simp only at this
    rcases hg : getA 0 s.decs with _ | v
    · rw [hg] at this; cases this
    · rw [hg] at this
      simp only [Bool.and_eq_true, decide_eq_true_eq] at this
      refine ⟨rn8 s, v.ren (codeD tab8) (codeL tab8), rfl, ?_, ?_⟩
      · show getA 0 (mapV _ s.decs) = _
        rw [getA_ren, hg]; rfl
      · show codeL tab8 v.list = fam (famI who)
        rw [this.2, (codeZ_ok (by omega)).2]
end Go.Proofs.YtifcdjmcoibblaaGreatDoor

/-! SILENT: nodes are made, begin, and are put into a row. -/
namespace Go.Proofs.YtifcdjmcoibblaaGreatDoor
set_option linter.unusedVariables false
set_option linter.unusedSimpArgs false
set_option linter.unusedSectionVars false
open Go.RowKit

theorem Tryz.infoPtrS : (Tryz.prog.info? 25).map (fun i => (i.zero, i.size, i.bytes)) = some (some (.pointer none), 1, 8) := by kernel_rfl

/-- the first i nodes -/
def begunS (N i : Nat) : List StB := (List.range i).map fun (i : Nat) => bgS i (newS (i : Int) (N : Int))
theorem begunS_all (N : Nat) : begunS N N = startS N := rfl
theorem begunS_next (N i : Nat) : begunS N (i + 1) = begunS N i ++ [bgS i (newS (i : Int) (N : Int))] := by
  unfold begunS; rw [List.range_succ, List.map_append]; rfl
theorem begunS_len (N i : Nat) : (begunS N i).length = i := by simp [begunS]

/-- i nodes, in a row -/
def Dock (base : Nat) (w1 : World) (N i : Nat) (v : Value) (W : World) : Prop :=
  ∃ xs Rs, xs.length = i ∧ Net GA base W xs (begunS N i) Rs ∧ W.ownsRow base 25 1 v i (xs.map pv) ∧ (∀ g, v.ownBlock = some g → ¬ AllR i Rs g) ∧ Below base w1 W ∧ 0 < base ∧ base ≤ w1.heap.size ∧ Glob w1
/-- i nodes in a row, one more beside it -/
def DockA (base : Nat) (w1 : World) (N i : Nat) (v : Value) (x : Nat) (s : StB) (W : World) : Prop :=
  ∃ xs Rs, xs.length = i ∧ Net GA base W (xs ++ [x]) (begunS N i ++ [s]) Rs ∧ W.ownsRow base 25 1 v i (xs.map pv) ∧ (∀ g, v.ownBlock = some g → ¬ AllR (xs ++ [x]).length Rs g) ∧ Below base w1 W ∧ 0 < base ∧ base ≤ w1.heap.size ∧ Glob w1

section
variable {base : Nat} {w1 W W' : World} {N i x : Nat} {v : Value} {s : StB}
theorem rowS_lt {e : TypeId} {b k n : Nat} {xs : List Value} (h : W.ownsRow b e k v n xs) (g : Nat) (hg : v.ownBlock = some g) : b ≤ g ∧ g < W.heap.size := by
  rcases h.2 with ⟨rfl, _⟩ | ⟨g0, cap, cur, rfl, h1, h2, _⟩
  · simp [Value.ownBlock] at hg
  · have : g0 = g := by simpa [Value.ownBlock] using hg
    subst this
    exact ⟨h1, (Array.getElem?_eq_some_iff.1 h2).1⟩
theorem Dock.nil {w1 : World} (hb : 0 < w1.heap.size) (hG : Glob w1) (N : Nat) : Dock w1.heap.size w1 N 0 (.slice none 0 0) w1 :=
  ⟨[], fun _ _ => False, rfl, Net.nil _ _ _ _, World.ownsRow_nil _ _ _ _, fun g hg => by simp [Value.ownBlock] at hg, Below.refl _ _, hb, Nat.le_refl _, hG⟩
theorem dock_new (h : Dock base w1 N i v W) (hi : i < N) (h7 : N ≤ 7) : Calls Tryz.prog 15 #[.int .i64 (i : Int), .int .i64 (N : Int)] W fun e w' => ∃ x, e = .returned (.tuple #[pv x, .int .i64 0]) ∧ DockA base w1 N i v x (newS (i : Int) (N : Int)) w' := by
  obtain ⟨xs, Rs, hl, hn, ho, hz, hb, hp, hle, hG⟩ := h
  have hs := Nat.le_trans hle hb.size
  refine (nnew hn hs (id := (i : Int)) (n := (N : Int)) (by omega) (by omega) (by omega) (by omega)).mono ?_
  rintro e w' ⟨x, Rs', rfl, h1, h2, h3⟩
  refine ⟨x, rfl, xs, Rs', hl, h1, ownsRow_blk ho (fun g _ hlt => h2.block g hlt), fun g hg hr => ?_, hb.trans (h2.mono hs), hp, hle, hG⟩
  rcases h3 g hr with q | q
  · rw [hl] at q; exact hz g hg q
  · have := (rowS_lt ho g hg).2; omega
theorem DockA.later (h : DockA base w1 N i v x s W) (hb : Below W.heap.size W W') : DockA base w1 N i v x s W' := by
  obtain ⟨xs, Rs, hl, hn, ho, hz, hb1, hp, hle, hG⟩ := h
  have hs := Nat.le_trans hle hb1.size
  exact ⟨xs, Rs, hl, hn.later hb, ownsRow_blk ho (fun g _ hlt => hb.block g hlt), hz, hb1.trans (hb.mono hs), hp, hle, hG⟩
theorem dock_begin {R0 : Nat → Prop} {vl : Value} (h : DockA base w1 N i v x (newS (i : Int) (N : Int)) W) (hi7 : i < 7) (hr : LRow R0 W vl (fam (famI i))) (h0 : ∀ k, R0 k → k < W.heap.size) : Calls Tryz.prog 16 #[pv x, iv 0, vl] W fun e w' => e = .returned (.int .i64 0) ∧ DockA base w1 N i v x (bgS i (newS (i : Int) (N : Int))) w' := by
  obtain ⟨xs, Rs, hl, hn, ho, hz, hb1, hp, hle, hG⟩ := h
  have hs := Nat.le_trans hle hb1.size
  have hx : (xs ++ [x])[i]? = some x := by rw [List.getElem?_append_right (by omega), hl, Nat.sub_self]; rfl
  have hss : (begunS N i ++ [(newS (i : Int) (N : Int) : StB)])[i]? = some (newS (i : Int) (N : Int)) := by rw [List.getElem?_append_right (by rw [begunS_len]; exact Nat.le_refl _), begunS_len, Nat.sub_self]; rfl
  refine (nbegin GA.gf hn hs hx hss hr h0 fam_len ⟨hG.choose, (hb1.block 0 hp).trans hG.choose_spec⟩ (fun _ => GA.fam (famI_lt hi7)) 0).mono ?_
  rintro e w' ⟨rfl, Rs', h2⟩
  refine ⟨?_, xs, Rs', hl, ?_, ownsRow_blk ho (fun g hg hlt => h2.chg.block g hlt (hz g hg)), fun g hg hr => ?_, hb1.trans (h2.chg.below hs (fun k hk => hn.low hk)), hp, hle, hG⟩
  · have : ((newS (i : Int) (N : Int) : StB).begin 0 (ascS (fam (famI i))) (digV (fam (famI i))) (fam (famI i))).2 = true := by
      rw [asc_fam (famI_lt hi7)]
      unfold NS.begin
      simp [newS, NS.isDec, getA]
    rw [this]; rfl
  · have e : (begunS N i ++ [(newS (i : Int) (N : Int) : StB)]).set i (bgS i (newS (i : Int) (N : Int))) = begunS N i ++ [bgS i (newS (i : Int) (N : Int))] := by
      rw [List.set_append_right _ _ (by rw [begunS_len]; exact Nat.le_refl _), begunS_len, Nat.sub_self]; rfl
    rw [← e]
    exact h2.net
  · rcases h2.grow g hr with q | q
    · exact hz g hg q
    · have := (rowS_lt ho g hg).2; omega

/-- the node is put into the row -/
theorem wpList_dock {o : Oper} {a : Act} {Q : Exit → Act → World → Prop} {ops : Array Oper} {rest : List Oper} (hgd : o.guard = none) (s2 x2 : Operand)
    (ho : o.op = .call { callee := .builtin .append, args := #[s2, x2], argTypes := #[24, 24] })
    (hs : a.eval s2 = v) (h : DockA base w1 N i v x (bgS i (newS (i : Int) (N : Int))) W) (hi : i < 7)
    (hx : a.eval x2 = .slice (some ⟨W.heap.size, 0, none⟩) 1 1)
    (hk : ∀ v' W', Dock base w1 N (i + 1) v' W' → wpList Tryz.prog ops Q rest (a.put o.dst v') W') : wpList Tryz.prog ops Q (o :: rest) a (W.alloc (.cells #[pv x] 25)) := by
  obtain ⟨xs, Rs, hl, hn, hown, hz, hb1, hp, hle, hG⟩ := h
  have hbs := Nat.le_trans hle hb1.size
  obtain ⟨ti, hti, hz0, hz1, hz2⟩ := info_parts Tryz.infoPtrS
  have hba := (Below.refl _ W).alloc (Nat.le_refl _) (.cells #[pv x] 25)
  refine wpList_append_new hgd s2 x2 24 ho base 25 ti (.pointer none) 1 8 Tryz.underlying24 hti hz0 hz1 hz2 (by rfl) (by decide) v i (xs.map pv) hs (ownsRow_blk hown (fun g _ hlt => hba.block g hlt)) ⟨W.heap.size, 0, none⟩ 1 1 [pv x] hx (by rfl) (cells_at W [pv x] _ _ rfl) (by intro u hu; simp at hu; subst hu; rfl) (by unfold maxLen; omega) (by omega) (by simp; omega) (i + 1) rfl ?_
  intro v' W' o2 gr hloc
  have hkeep : ∀ k, AllR (xs ++ [x]).length Rs k → W'.heap[k]? = W.heap[k]? := fun k hk => by
    have hlt := hn.lt hk
    rw [gr.block k (by simp; omega) (fun e => hz k e.symm hk)]
    exact hba.block k hlt
  have hsz : W.heap.size ≤ W'.heap.size := Nat.le_trans hba.size gr.size
  have hbel : Below base W W' := grown_own (hba.mono hbs) hbs (ownsRow_blk hown (fun g _ hlt => hba.block g hlt)) gr
  refine hk v' W' ⟨xs ++ [x], Rs, by rw [List.length_append, hl]; rfl, ?_, ?_, fun g hg hr => ?_, hb1.trans hbel, hp, hle, hG⟩
  · rw [begunS_next]; exact hn.kept hkeep hsz
  · rw [List.map_append]; exact o2
  · have hr : AllR (xs ++ [x]).length Rs g := by rw [List.length_append, hl]; exact hr
    rcases hloc g hg with q | q
    · exact hz g q hr
    · have := hn.lt hr
      have : W.heap.size ≤ (W.alloc (.cells #[pv x] 25)).heap.size := hba.size
      omega

/-- all nodes are made: the fleet -/
theorem Dock.fleet (h : Dock base w1 N N v W) (h1 : 1 ≤ N) : ∃ gn cap cur xs Rs, v = .slice (some ⟨gn, 0, none⟩) N cap ∧ xs.length = N ∧ Fl GA base w1 gn cur xs (startS N) Rs W := by
  obtain ⟨xs, Rs, hl, hn, hown, hz, hb1, hp, hle, hG⟩ := h
  rcases hown.2 with ⟨_, h0⟩ | ⟨g, cap, cur, rfl, hbg, hg, h3, h4, h5⟩
  · omega
  · refine ⟨g, cap, cur, xs, Rs, rfl, hl, hn, hb1, hp, hle, hG, ⟨(Array.getElem?_eq_some_iff.1 hg).1, fun hr => hz g rfl (hl ▸ hr)⟩, hg, fun i x hx => ?_⟩
    have hi := (List.getElem?_eq_some_iff.1 hx).1
    have := hown.cells (g := g) rfl i (pv x) (by rw [List.getElem?_map, hx]; rfl)
    simp [Addr.add] at this
    have e2 := cell_of_row W g i _ _ _ hg
    split at this
    · rename_i q
      subst q
      rw [e2] at this
      exact this
    · rw [e2] at this
      exact this
end

end Go.Proofs.YtifcdjmcoibblaaGreatDoor

/-! SILENT: the row that tells who is silent. -/
namespace Go.Proofs.YtifcdjmcoibblaaGreatDoor
set_option linter.unusedVariables false
set_option linter.unusedSimpArgs false
set_option linter.unusedSectionVars false
open Go.RowKit

def boolR (N : Nat) (f : Nat → Bool) : Array Value := ((List.range N).map fun i => Value.bool (f i)).toArray
theorem boolR_get (N : Nat) (f : Nat → Bool) {i : Nat} (h : i < N) : (boolR N f)[i]? = some (.bool (f i)) := by
  unfold boolR
  rw [List.getElem?_toArray, List.getElem?_map, List.getElem?_range h]; rfl
theorem boolR_set (N : Nat) (f : Nat → Bool) (p : Nat) : (boolR N f).setIfInBounds p (.bool true) = boolR N (fun j => f j || p == j) := by
  apply Array.ext_getElem?
  intro j
  rw [Array.getElem?_setIfInBounds]
  by_cases hj : j < N
  · rw [boolR_get N _ hj, boolR_get N _ hj]
    by_cases e : p = j
    · subst e
      simp [boolR, hj]
    · rw [if_neg e]
      simp [e]
  · have h1 : (boolR N f)[j]? = none := by rw [Array.getElem?_eq_none]; simp [boolR]; omega
    have h2 : (boolR N fun j => f j || p == j)[j]? = none := by rw [Array.getElem?_eq_none]; simp [boolR]; omega
    rw [h1, h2]
    by_cases e : p = j
    · subst e; simp [boolR, hj]
    · rw [if_neg e]
theorem mk_bools (w : World) {N : Nat} (h4 : 4 ≤ N) (h7 : N ≤ 7) : (Instr.makeSlice 65 (.int .i64 (N : Int)) (.int .i64 (N : Int))).run Tryz.prog w = .ok (.slice (some ⟨w.heap.size, 0, none⟩) N N) (w.alloc (.cells (boolR N fun _ => false) 4)) := by
  obtain rfl | rfl | rfl | rfl : N = 4 ∨ N = 5 ∨ N = 6 ∨ N = 7 := by omega
  all_goals kernel_rfl
theorem silNth_zero (N k i : Nat) : silNth N 0 k i = false := rfl
theorem silNth_next (N f k i : Nat) : silNth N (f + 1) k i = (silNth N f k i || (k + f) % N == i) := by
  unfold silNth
  rw [List.range_succ, List.any_append]
  simp
end Go.Proofs.YtifcdjmcoibblaaGreatDoor
