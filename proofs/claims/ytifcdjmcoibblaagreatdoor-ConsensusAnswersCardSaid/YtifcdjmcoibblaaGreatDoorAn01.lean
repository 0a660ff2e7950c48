/-
  ANSWERS: facts; nodes side by side that no row holds.
-/
import Derived.Test.YtifcdjmcoibblaaGreatDoorG36
import Derived.Test.YtifcdjmcoibblaaGreatDoorG33

/-! ANSWERS: facts; nodes side by side that no row holds. -/
namespace Go.Proofs.YtifcdjmcoibblaaGreatDoor
set_option linter.unusedVariables false
set_option linter.unusedSimpArgs false
set_option linter.unusedSectionVars false
open Go.RowKit

/-- a message of a row -/
theorem OutR.nth {Z : Nat → Prop} {wt W : World} {ao : Option Addr} {cap n : Nat} {ms : List MsgB} (h : OutR Z wt W (.slice ao n cap) ms) {q : Nat} {m : MsgB} (hq : ms[q]? = some m) :
    ∃ b off lo lc, ao = some ⟨b, off, none⟩ ∧ (∀ (j : Nat) (u : Value), (encM m (.slice lo m.list.length lc)).toList[j]? = some u → W.cell? ⟨b, off + q * 8 + j, none⟩ = some u) ∧ LRow (NewZ Z wt W) W (.slice lo m.list.length lc) m.list := by
  obtain ⟨sls, h1, h2, h3⟩ := h
  have hz : (sls.zip ms).length = ms.length := by rw [List.length_zip, h1.len, Nat.min_self]
  obtain ⟨ao2, cap2, e, hc, hrw⟩ := rowK_of_owns (enc := encP) (l := sls.zip ms) encP_len (by decide) h2
  injection e with e1 e2 e3
  subst e1
  have hl := (List.getElem?_eq_some_iff.1 hq).1
  have hs : q < sls.length := by rw [h1.len]; exact hl
  have hzq : (sls.zip ms)[q]? = some (sls[q], m) := by
    rw [List.getElem?_zip_eq_some]
    exact ⟨List.getElem?_eq_getElem hs, hq⟩
  obtain ⟨b, off, e4, _, hcell⟩ := hrw q _ hzq
  have hr := all2_zip h1 _ (List.mem_of_getElem? hzq)
  obtain ⟨lo, lc, e5, _⟩ := id hr
  simp only at e5 hr
  rw [e5] at hcell hr
  exact ⟨b, off, lo, lc, e4, hcell, hr⟩

theorem same_rows (ao bo : Option Addr) (ca cb : Nat) (l : List ByteArray) (W : World) {Ra Rb : Nat → Prop} (hl : l.length ≤ 60) (ha : LRow Ra W (.slice ao l.length ca) l) (hb : LRow Rb W (.slice bo l.length cb) l) :
    Calls Tryz.prog 22 #[.slice ao l.length ca, .slice bo l.length cb] W fun e w' => e = .returned (.bool true) ∧ Below W.heap.size W w' := by
  obtain ⟨a2, c2, e1, _, hra⟩ := ha.row
  obtain ⟨b2, d2, e2, _, hrb⟩ := hb.row
  injection e1 with e1 _ _
  injection e2 with e2 _ _
  subst e1 e2
  refine (same_any ao bo ca cb _ _ l l W rfl rfl (by omega) hra hrb).mono ?_
  rintro e w' ⟨rfl, h⟩
  refine ⟨?_, h⟩
  unfold sameB
  rw [decide_eq_true rfl]
/-- nodes since w1 -/
structure Flk (G : ByteArray → List ByteArray → Prop) (base : Nat) (w1 : World) (xs : List Nat) (ss : List StB) (Rs : Nat → Nat → Prop) (W : World) : Prop where
  net : Net G base W xs ss Rs
  bel : Below base w1 W
  pos : 0 < base
  le : base ≤ w1.heap.size
  glob : Glob w1

section
variable {G : ByteArray → List ByteArray → Prop} {base : Nat} {w1 W W' : World} {xs : List Nat} {ss ss' : List StB} {Rs Rs' : Nat → Nat → Prop}
theorem Flk.size (h : Flk G base w1 xs ss Rs W) : base ≤ W.heap.size := Nat.le_trans h.le h.bel.size
theorem Flk.gl (h : Flk G base w1 xs ss Rs W) : Glob W := by
  obtain ⟨t, ht⟩ := h.glob
  exact ⟨t, (h.bel.block 0 h.pos).trans ht⟩
theorem Flk.sail (h : Flk G base w1 xs ss Rs W) (s : Sail G base W xs Rs W' ss' Rs') : Flk G base w1 xs ss' Rs' W' :=
  ⟨s.net, h.bel.trans (s.chg.below h.size (fun k hk => h.net.low hk)), h.pos, h.le, h.glob⟩
theorem Flk.later (h : Flk G base w1 xs ss Rs W) (hb : Below W.heap.size W W') : Flk G base w1 xs ss Rs W' :=
  ⟨h.net.later hb, h.bel.trans (hb.mono h.size), h.pos, h.le, h.glob⟩
theorem Flk.nil {w1 : World} (hp : 0 < w1.heap.size) (hG : Glob w1) : Flk G w1.heap.size w1 [] [] (fun _ _ => False) w1 := ⟨Net.nil _ _ _ _, Below.refl _ _, hp, Nat.le_refl _, hG⟩
/-- the first of two alone -/
theorem Flk.first {x y : Nat} {s t : StB} (h : Flk G base w1 [x, y] [s, t] Rs W) : Flk G base w1 [x] [s] Rs W := by
  have hn := h.net
  refine ⟨⟨rfl, fun i a b ha hb => ?_, fun a ha => hn.fit a (by simp at ha; simp [ha]), fun i j k hi hj => hn.dis i j k (by simp at hi ⊢; omega) (by simp at hj ⊢; omega), fun i k hi => hn.lo i k (by simp at hi ⊢; omega)⟩, h.bel, h.pos, h.le, h.glob⟩
  have hi := (List.getElem?_eq_some_iff.1 ha).1
  obtain rfl : i = 0 := by simp at hi; exact hi
  exact hn.node 0 a b ha hb
/-- one more node -/
theorem flk_new (h : Flk G base w1 xs ss Rs W) {id n : Int} (h1 : 1 ≤ n) (h7 : n ≤ 7) (hi : 0 ≤ id) (hin : id < n) :
    Calls Tryz.prog 15 #[.int .i64 id, .int .i64 n] W fun e w' => ∃ x Rs', e = .returned (.tuple #[pv x, .int .i64 0]) ∧ Flk G base w1 (xs ++ [x]) (ss ++ [newS id n]) Rs' w' ∧ Below W.heap.size W w' :=
  (nnew h.net h.size h1 h7 hi hin).mono fun e w' ⟨x, Rs', e1, h2, h3, h4⟩ => ⟨x, Rs', e1, ⟨h2, h.bel.trans (h3.mono h.size), h.pos, h.le, h.glob⟩, h3⟩
theorem nlearn {w : World} {i x : Nat} {s : StB} {R0 : Nat → Prop} {v : Value} {l : List ByteArray} (gf : GFam G) (hN : Net G base w xs ss Rs) (hb : base ≤ w.heap.size) (hx : xs[i]? = some x) (hs : ss[i]? = some s) (hr : LRow R0 w v l) (h0 : ∀ k, R0 k → k < w.heap.size) (hl : l.length ≤ 60) (hG : Glob w) (hv : ascS l = true → G (digV l) l) (height : Int) :
    Calls Tryz.prog 36 #[pv x, iv height, v] w fun e w' => e = .returned (errE (s.learn height (ascS l) (digV l) l).2) ∧ ∃ Rs', Sail G base w xs Rs w' (ss.set i (s.learn height (ascS l) (digV l) l).1) Rs' := by
  obtain ⟨p, hp⟩ := hN.node i x s hx hs
  have hf := hN.idx hx hs
  refine (learn_any hp hr h0 hl hG height).mono ?_
  rintro e w' ⟨rfl, h1⟩
  obtain ⟨R', h2⟩ := h1.step
  exact ⟨rfl, _, hN.sail hb hx h2 (hf.learn height hv)⟩
end

/-- a new node that ticks decides nothing -/
theorem late_idle {n : Int} (h4 : 4 ≤ n) (h7 : n ≤ 7) : getA 0 (newS (n - 1) n : StB).tick.1.decs = none := by
  rw [rn_new, (rn_tick _).1]
  apply rn_undec
  obtain rfl | rfl | rfl | rfl : n = 4 ∨ n = 5 ∨ n = 6 ∨ n = 7 := by omega
  all_goals decide +kernel

theorem receive_ticks (s : StB) (m : MsgB) (ok : Bool) : (s.receive m ok).ticks = s.ticks := by
  unfold NS.receive
  split
  · rfl
  · split
    · rfl
    · split
      · obtain ⟨a, b, e⟩ := ask_same s m
        rw [e]
      · split
        · rfl
        · split
          · exact (putVote_same s m).1.ticks
          · split
            · rfl
            · split <;> rfl
theorem receives_ticks : ∀ (ms : List MsgB) (s : StB), (ms.foldl (fun s m => s.receive m true) s).ticks = s.ticks
  | [], _ => rfl
  | m :: ms, s => by rw [List.foldl_cons, receives_ticks ms, receive_ticks]

theorem late_quiet {n : Int} (h4 : 4 ≤ n) (h7 : n ≤ 7) : (newS (n - 1) n : StB).tick.2 = [] := by
  apply List.eq_nil_of_length_eq_zero
  rw [rn_new, (rn_tick _).2]
  obtain rfl | rfl | rfl | rfl : n = 4 ∨ n = 5 ∨ n = 6 ∨ n = 7 := by omega
  all_goals decide +kernel

/-- the round of an answer's message -/
def ansR (n i r : Int) (q : Nat) : Int := if q = 0 then (if r % n = i then r + 1 else r) else if 2 ≤ (q : Int) ∧ (q : Int) < r + 3 then (q : Int) - 2 else r
theorem answer_at {n i r : Int} {d : ByteArray} {l : List ByteArray} (hn : 2 ≤ n) (h0 : 0 ≤ i) (h1 : i < n) (hr : 0 ≤ r) (hr2 : r < 99) {site : Int} {q : Nat} {m : MsgB} (hq : ((toldS i n d l : StB).answer site (0, r))[q]? = some m) :
    m.to = site ∧ m.round = ansR n i r q ∧ m.dig = d := by
  rw [answer_eq] at hq
  unfold ansR
  rcases q with _ | _ | q
  · simp at hq
    subst hq
    exact ⟨rfl, (claim_round hn h0 h1 hr hr2).2, rfl⟩
  · simp at hq
    subst hq
    exact ⟨rfl, by rw [if_neg (by omega), if_neg (by omega)], rfl⟩
  · simp only [List.append_assoc, List.cons_append, List.nil_append, List.getElem?_cons_succ] at hq
    rw [if_neg (by omega)]
    by_cases hlt : q < (r + 1).toNat
    · rw [List.getElem?_append_left (by simpa using hlt)] at hq
      rw [List.getElem?_map, List.getElem?_range hlt] at hq
      simp at hq
      subst hq
      refine ⟨rfl, ?_, rfl⟩
      rw [if_pos (by omega)]
      show (q : Int) = _
      omega
    · rw [List.getElem?_append_right (by simp; omega)] at hq
      have hz : q - ((List.range (r + 1).toNat).map fun (k : Nat) => (⟨6, i, site, 0, (k : Int), 0, d, default⟩ : MsgB)).length = 0 := by
        have := (List.getElem?_eq_some_iff.1 hq).1
        simp at this ⊢
        omega
      rw [hz] at hq
      simp at hq
      subst hq
      refine ⟨rfl, ?_, rfl⟩
      rw [if_neg (by omega)]

/-- the late site's message is valid -/
theorem lateV_ok {n i r : Int} (h4 : 4 ≤ n) (h7 : n ≤ 7) (h0 : 0 ≤ i) (h1 : i < n - 1) (hr : 0 ≤ r) (hr2 : r ≤ 99) : validB (lateV n i r : MsgB) = true := by
  have hs : sitesB (lateV n i r : MsgB) = true := by
    unfold sitesB siteB lateV
    simp
    omega
  have hv : voteOk (lateV n i r : MsgB) = true := by
    unfold voteOk placedB lateV
    simp
    refine ⟨⟨⟨by omega, by omega⟩, rfl⟩, .inl ?_⟩
    decide +kernel
  unfold validB
  rw [hs, hv]
  have k1 : (lateV n i r : MsgB).kind = 4 := rfl
  rw [k1]
  rfl
/-- the greatest round, of none 0 -/
def mostO : Option Int → Int
  | none => 0
  | some r => r
theorem mostO_max (o : Option Int) {r : Int} (hr : 1 ≤ r) : mostO (maxO o r) = max (mostO o) r := by
  rcases o with _ | a
  · show r = max 0 r; omega
  · rfl
theorem quesS_nil (id n : Int) (d : ByteArray) (l : List ByteArray) : (quesS id n d l (quesOf n none) : StB) = toldS id n d l := rfl

end Go.Proofs.YtifcdjmcoibblaaGreatDoor
