/-
  What the law on sessions holds in memory: a play more. The operations of a drawn region, taken one by one. A flow beside rows and cells of another kind that turn.
-/
import Derived.Test.YtffifhbldcjelaaGreatDoorDs35
import Derived.Test.YtffifhbldcjelaaGreatDoorProg
import Derived.BigQuiet
import Derived.Lib.Hide
import Derived.Deep.RegionHeld3

/-! What the law on sessions holds in memory: a play more. -/
namespace Go.Proofs.YtffifhbldcjelaaGreatDoor
set_option linter.unusedVariables false
set_option linter.unusedSimpArgs false
set_option linter.unusedSectionVars false
open Go.RowKit

section
variable {B nb cb pb tb : Nat} {W W' : World} {all : List PF} {P : Nat → List PF} {va : Value} {vp : Nat → Value} {t : Nat → ByteArray}
/-- a row's block is no block of another kind -/
theorem owns_kind {v : Value} {n : Nat} {xs : List Value} {g b : Nat} {cs : Array Value} {ty : TypeId} {fr : Nat × Nat} (hr : W.ownsRow B 38 18 v n xs) (hg : v.ownBlock = some g) (hb : W.heap[b]? = some (.cells cs ty fr)) (ht : ty ≠ 38) : g ≠ b := fun q => by
  obtain ⟨_, e | ⟨g', cap, cur, rfl, _, hb', _⟩⟩ := hr
  · rw [e.1] at hg; simp [Value.ownBlock] at hg
  · simp only [Value.ownBlock, Option.some.injEq] at hg
    subst hg
    rw [q, hb] at hb'
    simp only [Option.some.injEq, Obj.cells.injEq] at hb'
    exact ht hb'.2.1
theorem own_some (v : Value) : v.ownBlock = none ∨ ∃ g, v.ownBlock = some g := by
  cases v.ownBlock with
  | none => exact .inl rfl
  | some g => exact .inr ⟨g, rfl⟩
theorem SesR.appAll (h : SesR B W nb cb pb tb all P va vp t) {f : PF} {v' : Value} {w2 : World} (own : w2.ownsRow B 38 18 v' (all.length + 1) (all.flatMap encP ++ encP f)) (gr : W.grownBy w2 va.ownBlock) (hloc : ∀ g, v'.ownBlock = some g → va.ownBlock = some g ∨ W.heap.size ≤ g) :
    SesR B w2 nb cb pb tb (all ++ [f]) P v' vp t := by
  have keep : ∀ {k : Nat} {cs : Array Value} {ty : TypeId} {fr : Nat × Nat}, W.heap[k]? = some (.cells cs ty fr) → ty ≠ 38 → w2.heap[k]? = some (.cells cs ty fr) := fun hk ht =>
    (gr.block _ (Array.getElem?_eq_some_iff.1 hk).1 (fun q => owns_kind h.allO q.symm hk ht rfl)).trans hk
  refine ⟨keep h.nam (by decide), keep h.cnt (by decide), keep h.tex (by decide), keep h.pls (by decide), by rw [List.length_append, flat_snoc]; exact own, fun d hd => ownsRow_blk (h.row d hd) (fun g hg hl => gr.block g hl (fun q => h.ap1 d hd g hg q.symm)), fun d hd g hg q => ?_, h.ap2, h.bn, h.bc, h.bp, h.bt, h.nt, h.ct⟩
  rcases hloc g q with e | e
  · exact h.ap1 d hd g hg e
  · have := (owns_ltK (h.row d hd) g hg).2
    omega
theorem SesR.appPly (h : SesR B W nb cb pb tb all P va vp t) {d : Nat} (hd : d < 3) {f : PF} {v' : Value} {w2 : World} (own : w2.ownsRow B 38 18 v' ((P d).length + 1) ((P d).flatMap encP ++ encP f)) (gr : W.grownBy w2 (vp d).ownBlock) (hloc : ∀ g, v'.ownBlock = some g → (vp d).ownBlock = some g ∨ W.heap.size ≤ g) :
    SesR B (w2.setCell ⟨pb, d, none⟩ v') nb cb pb tb all (upd P d (P d ++ [f])) va (upd vp d v') t := by
  have keep : ∀ {k : Nat} {cs : Array Value} {ty : TypeId} {fr : Nat × Nat}, W.heap[k]? = some (.cells cs ty fr) → ty ≠ 38 → w2.heap[k]? = some (.cells cs ty fr) := fun hk ht =>
    (gr.block _ (Array.getElem?_eq_some_iff.1 hk).1 (fun q => owns_kind (h.row d hd) q.symm hk ht rfl)).trans hk
  have np : ∀ {k : Nat} {cs : Array Value} {fr : Nat × Nat}, w2.heap[k]? = some (.cells cs 9 fr) → k ≠ pb := fun hk q => by
    rw [q, keep h.pls (by decide)] at hk
    simp only [Option.some.injEq, Obj.cells.injEq] at hk
    exact absurd hk.2.1 (by decide)
  have pl2 := keep h.pls (by decide)
  have nr : ∀ {v : Value} {n : Nat} {xs : List Value}, w2.ownsRow B 38 18 v n xs → ∀ g, v.ownBlock = some g → g ≠ pb := fun hr g hg => owns_kind hr hg pl2 (by decide)
  have setK : ∀ {k : Nat} {o : Obj}, w2.heap[k]? = some o → k ≠ pb → (w2.setCell ⟨pb, d, none⟩ v').heap[k]? = some o := fun hk hn => (Below.heap_setCell _ _ _ _ hn).trans hk
  have rowK : ∀ {v : Value} {n : Nat} {xs : List Value}, w2.ownsRow B 38 18 v n xs → (w2.setCell ⟨pb, d, none⟩ v').ownsRow B 38 18 v n xs := fun hr => ownsRow_blk hr (fun g hg hl => Below.heap_setCell _ _ _ _ (nr hr g hg))
  have oth : ∀ e, e < 3 → e ≠ d → w2.ownsRow B 38 18 (vp e) (P e).length ((P e).flatMap encP) := fun e he hn => ownsRow_blk (h.row e he) (fun g hg hl => gr.block g hl (fun q => h.ap2 e d he hd hn g hg q.symm))
  have al2 : w2.ownsRow B 38 18 va all.length (all.flatMap encP) := ownsRow_blk h.allO (fun g hg hl => gr.block g hl (fun q => h.ap1 d hd g q.symm hg))
  have ud : ∀ {α : Type} (F : Nat → α) (u : α), upd F d u d = u := fun F u => by unfold upd; rw [if_pos rfl]
  have uo : ∀ {α : Type} (F : Nat → α) (u : α) (e : Nat), e ≠ d → upd F d u e = F e := fun F u e he => by unfold upd; rw [if_neg he]
  refine ⟨setK (keep h.nam (by decide)) (np (keep h.nam (by decide))), setK (keep h.cnt (by decide)) (np (keep h.cnt (by decide))), setK (keep h.tex (by decide)) (np (keep h.tex (by decide))), ?_, rowK al2, fun e he => ?_, fun e he g hg q => ?_, fun e1 e2 h1 h2 hn g hg q => ?_, h.bn, h.bc, h.bp, h.bt, h.nt, h.ct⟩
  · match d, hd with
    | 0, _ => simp [World.setCell, Array.getElem?_modify, pl2, upd]
    | 1, _ => simp [World.setCell, Array.getElem?_modify, pl2, upd]
    | 2, _ => simp [World.setCell, Array.getElem?_modify, pl2, upd]
  · by_cases q : e = d
    · subst q
      rw [ud, ud, List.length_append, flat_snoc]
      exact rowK own
    · rw [uo _ _ _ q, uo _ _ _ q]
      exact rowK (oth e he q)
  · by_cases q2 : e = d
    · subst q2
      rw [ud] at hg
      rcases hloc g hg with z | z
      · exact h.ap1 e he g z q
      · have := (owns_ltK h.allO g q).2
        omega
    · rw [uo _ _ _ q2] at hg
      exact h.ap1 e he g hg q
  · by_cases q1 : e1 = d
    · subst q1
      rw [ud] at hg
      rw [uo _ _ _ (fun z => hn z.symm)] at q
      rcases hloc g hg with z | z
      · exact h.ap2 e1 e2 h1 h2 hn g z q
      · have := (owns_ltK (h.row e2 h2) g q).2
        omega
    · rw [uo _ _ _ q1] at hg
      by_cases q2 : e2 = d
      · subst q2
        rw [ud] at q
        rcases hloc g q with z | z
        · exact h.ap2 e1 e2 h1 h2 hn g hg z
        · have := (owns_ltK (h.row e1 h1) g hg).2
          omega
      · rw [uo _ _ _ q2] at q
        exact h.ap2 e1 e2 h1 h2 hn g hg q
end

end Go.Proofs.YtffifhbldcjelaaGreatDoor

/-! The operations of a drawn region, taken one by one. -/
namespace Go.Proofs.YtffifhbldcjelaaGreatDoor
set_option linter.unusedVariables false
set_option linter.unusedSimpArgs false
set_option linter.unusedSectionVars false
open Go.RowKit

section
variable {P : Program} {md : Region.Mode} {ops : Array Oper} {Q : Exit → Act → World → Prop} {S : World → Prop}
/-- an operation that its guard leaves out -/
theorem hun {i fuel : Nat} {oi : Oper} {listed : Array Bool} {a : Act} {w : World} (hS : S w) (h : wpAnyH P md ops Q S fuel (listed.setIfInBounds i true) (a.put oi.dst undef) w) (hi : ops[i]? = some oi := by rfl)
    (hs : Region.noSelect ops = true := by kernel_rfl) (hf : Region.free md ops listed i = true := by kernel_rfl) (hr : (Region.ready md ops listed).contains i = true := by kernel_rfl)
    (hQ : ∀ c a w, Q (.panic c) (a.put oi.dst undef) w → Q (.panic c) a w := by exact fun _ _ _ h => h) (hw : Region.wanted oi (yielded ops a.tmps) = false := by kernel_rfl) : wpAnyH P md ops Q S (fuel + 1) listed a w :=
  wpAnyH_take hi hs hf hr hQ (.inr ⟨hw, rfl⟩) hS h
/-- one that comes up -/
theorem hye {i fuel : Nat} {oi : Oper} {v : Value} {listed : Array Bool} {a : Act} {w : World} (hS : S w) (hv : ∀ w, S w → (execOp a.eval oi).run P w = .ok (.value v) w) (h : wpAnyH P md ops Q S fuel (listed.setIfInBounds i true) (a.put oi.dst v) w) (hi : ops[i]? = some oi := by rfl)
    (hs : Region.noSelect ops = true := by kernel_rfl) (hf : Region.free md ops listed i = true := by kernel_rfl) (hr : (Region.ready md ops listed).contains i = true := by kernel_rfl)
    (hQ : ∀ c a w, Q (.panic c) (a.put oi.dst v) w → Q (.panic c) a w := by exact fun _ _ _ h => h) (hw : Region.wanted oi (yielded ops a.tmps) = true := by kernel_rfl) : wpAnyH P md ops Q S (fuel + 1) listed a w :=
  wpAnyH_take hi hs hf hr hQ (.inl ⟨hw, hv⟩) hS h
/-- the same, its value found by the walk's own simp -/
theorem hyw {i fuel : Nat} {oi : Oper} {v : Value} {listed : Array Bool} {a : Act} {w : World} (hS : S w) (h : wpAnyH P md ops Q S fuel (listed.setIfInBounds i true) (a.put oi.dst v) w) (hi : ops[i]? = some oi := by rfl)
    (hv : ∀ w, S w → (execOp a.eval oi).run P w = .ok (.value v) w := by (intro w hSw; (try dsimp only at hSw); (first | (go_simp; done) | (go_simp; with_reducible rfl))))
    (hs : Region.noSelect ops = true := by kernel_rfl) (hf : Region.free md ops listed i = true := by kernel_rfl) (hr : (Region.ready md ops listed).contains i = true := by kernel_rfl)
    (hQ : ∀ c a w, Q (.panic c) (a.put oi.dst v) w → Q (.panic c) a w := by exact fun _ _ _ h => h) (hw : Region.wanted oi (yielded ops a.tmps) = true := by kernel_rfl) : wpAnyH P md ops Q S (fuel + 1) listed a w :=
  wpAnyH_take hi hs hf hr hQ (.inl ⟨hw, hv⟩) hS h
/-- the beginning: the post of a panic does not hang on the frame; shown once -/
theorem hst {id : Nat} {a : Act} {w : World} (hm : P.follows .mixedOrders = true) (hS : S w.drew) (hQ : ∀ c (a : Act) (d : Nat) v w, Q (.panic c) (a.put (some d) v) w → Q (.panic c) a w)
    (h : RowKit.Hid (∀ c (a : Act) (d : Nat) v w, Q (.panic c) (a.put (some d) v) w → Q (.panic c) a w) → S w.drew → wpAnyH P .any ops Q S ops.size (Array.replicate ops.size false) a w.drew) : (Code.region id ops true).wp P Q a w :=
  wp_region_held_drew hm hS (fun q => h (Lib.hid hQ) q)
theorem hnq {i fuel d : Nat} {oi : Oper} {listed : Array Bool} {a : Act} {w : World} (HQ : RowKit.Hid (∀ c (a : Act) (d : Nat) v w, Q (.panic c) (a.put (some d) v) w → Q (.panic c) a w)) (hS : S w) (h : wpAnyH P md ops Q S fuel (listed.setIfInBounds i true) (a.put oi.dst undef) w) (hi : ops[i]? = some oi := by rfl)
    (hs : Region.noSelect ops = true := by kernel_rfl) (hf : Region.free md ops listed i = true := by kernel_rfl) (hr : (Region.ready md ops listed).contains i = true := by kernel_rfl)
    (hw : Region.wanted oi (yielded ops a.tmps) = false := by kernel_rfl) (hd : oi.dst = some d := by rfl) : wpAnyH P md ops Q S (fuel + 1) listed a w :=
  wpAnyH_take hi hs hf hr (fun c b w q => HQ.out c b d _ w (hd ▸ q)) (.inr ⟨hw, rfl⟩) hS h
theorem hyq {i fuel d : Nat} {oi : Oper} {v : Value} {listed : Array Bool} {a : Act} {w : World} (HQ : RowKit.Hid (∀ c (a : Act) (d : Nat) v w, Q (.panic c) (a.put (some d) v) w → Q (.panic c) a w)) (hS : S w) (hv : ∀ w, S w → (execOp a.eval oi).run P w = .ok (.value v) w) (h : wpAnyH P md ops Q S fuel (listed.setIfInBounds i true) (a.put oi.dst v) w) (hi : ops[i]? = some oi := by rfl)
    (hs : Region.noSelect ops = true := by kernel_rfl) (hf : Region.free md ops listed i = true := by kernel_rfl) (hr : (Region.ready md ops listed).contains i = true := by kernel_rfl)
    (hw : Region.wanted oi (yielded ops a.tmps) = true := by kernel_rfl) (hd : oi.dst = some d := by rfl) : wpAnyH P md ops Q S (fuel + 1) listed a w :=
  wpAnyH_take hi hs hf hr (fun c b w q => HQ.out c b d _ w (hd ▸ q)) (.inl ⟨hw, hv⟩) hS h
end

end Go.Proofs.YtffifhbldcjelaaGreatDoor

/-! A flow beside rows and cells of another kind that turn. -/
namespace Go.Proofs.YtffifhbldcjelaaGreatDoor
set_option linter.unusedVariables false
set_option linter.unusedSimpArgs false
open Go.RowKit

theorem blk_lt {w : World} {b : Nat} {o : Obj} (h : w.heap[b]? = some o) : b < w.heap.size := (Array.getElem?_eq_some_iff.1 h).1

theorem Rep.keptT {B : Nat} {W W' : World} {f M : Nat} {bl rb : ByteArray → Nat} {sl : ByteArray → Value} {F : List En} (h : Rep B W f M bl rb sl F) {t : TypeId}
    (h1 : t ≠ 52) (h2 : t ≠ 58) (h3 : t ≠ 53) (hk : ∀ (j : Nat) (o : Obj), W.heap[j]? = some o → (∀ cs fr, o ≠ .cells cs t fr) → W'.heap[j]? = W.heap[j]?) : Rep B W' f M bl rb sl F := by
  have hc : ∀ {j : Nat} {o : Obj}, W.heap[j]? = some o → (∀ cs fr, o ≠ .cells cs t fr) → W'.heap[j]? = W.heap[j]? := fun {j o} hj hne => hk j o hj hne
  obtain ⟨L, hL, hp⟩ := h.names
  have hm : ∀ {b : Nat} {L : List (Value × Value)}, RawMap W b L → W'.heap[b]? = W.heap[b]? := fun {b L} hb => by
    obtain ⟨es, c, q, _⟩ := hb
    exact hc q (fun cs' fr e => by cases e)
  refine ⟨(hc h.flow (fun cs' fr e => by cases e; exact h1 rfl)).trans h.flow, ⟨L, hL.kept (hm hL), hp⟩, fun e he => (hc (h.ent e he) (fun cs' fr e' => by unfold entC at e'; cases e'; exact h2 rfl)).trans (h.ent e he), fun e he => (h.row e he).kept (fun g cur fr' hg => hc hg (fun cs' fr e' => by cases e'; exact h3 rfl)), fun e he => ?_, h.injB, h.injR, h.rbM, h.baseM, h.baseB, h.baseR, h.srt⟩
  obtain ⟨L', hL', hp'⟩ := h.rdr e he
  exact ⟨L', hL'.kept (hm hL'), hp'⟩

section
variable {W0 w w' : World} {f k : Nat} {F : List En}
/-- a cell of a block of another kind turns -/
theorem St.turnT (h : St W0 f F k w) {ib o : Nat} {cs : Array Value} {t : TypeId} {fr : Nat × Nat} (hi : w.heap[ib]? = some (.cells cs t fr)) (hB : W0.heap.size ≤ ib)
    (h1 : t ≠ 52) (h2 : t ≠ 58) (h3 : t ≠ 53) (v : Value) : St W0 f F k (w.setCell ⟨ib, o, none⟩ v) := by
  obtain ⟨M, bl, rb, sl, hr⟩ := h.1.rep
  have hl := h.2.setCell (p := ⟨ib, o, none⟩) hB v
  refine ⟨⟨⟨M, bl, rb, sl, hr.keptT h1 h2 h3 (fun j ob hj hne => Below.heap_setCell w ⟨ib, o, none⟩ v j (fun e => ?_))⟩, h.1.good, h.1.len, hl.size⟩, hl⟩
  subst e
  rw [hi] at hj
  cases hj
  exact hne cs fr rfl
/-- a row of another kind grows -/
theorem St.grownT (h : St W0 f F k w) {base size n : Nat} {t : TypeId} {v : Value} {xs : List Value} (ho : w.ownsRow base t size v n xs) (hb : W0.heap.size ≤ base)
    (h1 : t ≠ 52) (h2 : t ≠ 58) (h3 : t ≠ 53) (gr : w.grownBy w' v.ownBlock) : St W0 f F k w' := by
  obtain ⟨M, bl, rb, sl, hr⟩ := h.1.rep
  have hl := h.2.grown gr h.2.size (fun j hj => Nat.le_trans hb (owns_ltK ho j hj).1)
  refine ⟨⟨⟨M, bl, rb, sl, hr.keptT h1 h2 h3 (fun j ob hj hne => gr.block j (blk_lt hj) (fun e => ?_))⟩, h.1.good, h.1.len, hl.size⟩, hl⟩
  obtain ⟨_, q | ⟨g, cap, cur, rfl, _, hg, _⟩⟩ := ho
  · rw [q.1] at e
    simp [Value.ownBlock] at e
  · simp [Value.ownBlock] at e
    subst e
    rw [hg] at hj
    cases hj
    exact hne cur (0, 0) rfl
end

theorem valid6 {p : PF} (h : validP p = true) : 1 ≤ p.n 6 ∧ p.n 6 ≤ 1000000 := by
  unfold validP validL at h
  rw [Bool.and_eq_true, Bool.and_eq_true] at h
  have h2 := h.2.1
  simp [allIn, playL, inB, updN] at h2
  omega
theorem names_row {W : World} {b : Nat} {l : List ByteArray} (h : W.heap[b]? = some (.cells (l.map Value.string).toArray 9 (0, 0))) : RowK 1 encT W (some ⟨b, 0, none⟩) l := fun i x hx => by
  refine ⟨b, 0, rfl, blk_lt h, fun j v hv => ?_⟩
  have hj : j = 0 := by
    have := (List.getElem?_eq_some_iff.1 hv).1
    simp [encT] at this; exact this
  subst hj
  simp [encT] at hv
  subst hv
  rw [Nat.mul_one, Nat.add_zero]
  refine cell_blk h ?_
  simp [hx]

theorem Tryz.infoFac : (Tryz.prog.info? 38).map (fun i => (i.zero, i.size, i.bytes)) = some (some (.agg #[.int .i64 0, .int .i64 0, .int .i64 0, .int .i64 0, .int .i64 0, .int .i64 0, .int .i64 0, .int .i64 0, .int .i64 0, .int .i64 0, .int .i64 0, .int .i64 0, .int .i64 0, .int .i64 0, .int .i64 0, .int .i64 0, .int .i64 0, .string ⟨#[]⟩]), 18, 152) := by kernel_rfl
theorem bsl22a (n : Nat → Int) (t : ByteArray) (w : World) : (Instr.buildSlice 22 1 #[(0, .agg #[.int .i64 (n 0), .int .i64 (n 1), .int .i64 (n 2), .int .i64 (n 3), .int .i64 (n 4), .int .i64 (n 5), .int .i64 (n 6), .int .i64 (n 7), .int .i64 (n 8), .int .i64 (n 9), .int .i64 (n 10), .int .i64 (n 11), .int .i64 (n 12), .int .i64 (n 13), .int .i64 (n 14), .int .i64 (n 15), .int .i64 (n 16), .string t])]).run Tryz.prog w = .ok (.slice (some ⟨w.heap.size, 0, none⟩) 1 1) (w.alloc (.cells #[.int .i64 (n 0), .int .i64 (n 1), .int .i64 (n 2), .int .i64 (n 3), .int .i64 (n 4), .int .i64 (n 5), .int .i64 (n 6), .int .i64 (n 7), .int .i64 (n 8), .int .i64 (n 9), .int .i64 (n 10), .int .i64 (n 11), .int .i64 (n 12), .int .i64 (n 13), .int .i64 (n 14), .int .i64 (n 15), .int .i64 (n 16), .string t] 38)) := by kernel_rfl
theorem bsl22 (f : PF) (w : World) : (Instr.buildSlice 22 1 #[(0, .agg (encP f).toArray)]).run Tryz.prog w = .ok (.slice (some ⟨w.heap.size, 0, none⟩) 1 1) (w.alloc (.cells (encP f).toArray 38)) := bsl22a f.n f.t w

section
variable {P : Program} {md : Region.Mode} {ops : Array Oper} {Q : Exit → Act → World → Prop} {S : World → Prop}
/-- a load that is taken: its run as an equation -/
theorem hyl {i fuel : Nat} {oi : Oper} {T : TypeId} {x : Operand} {p v : Value} {listed : Array Bool} {a : Act} {w : World} (hS : S w) (hrun : ∀ w, S w → (Instr.loadAt T p).run P w = .ok v w) (h : wpAnyH P md ops Q S fuel (listed.setIfInBounds i true) (a.put oi.dst v) w) (hi : ops[i]? = some oi := by rfl) (hop : oi.op = .load T x := by rfl) (hx : a.eval x = p := by rfl)
    (hs : Region.noSelect ops = true := by kernel_rfl) (hf : Region.free md ops listed i = true := by kernel_rfl) (hr : (Region.ready md ops listed).contains i = true := by kernel_rfl)
    (hQ : ∀ c a w, Q (.panic c) (a.put oi.dst v) w → Q (.panic c) a w := by exact fun _ _ _ h => h) (hw : Region.wanted oi (yielded ops a.tmps) = true := by kernel_rfl) : wpAnyH P md ops Q S (fuel + 1) listed a w :=
  wpAnyH_take hi hs hf hr hQ (.inl ⟨hw, fun w hw => by simp [execOp, hop, hx, hrun w hw, Result.andThen]⟩) hS h
/-- buildSlice of one, its run as an equation -/
theorem step_bs {w w' : World} {o : Oper} {a : Act} {K : Act → World → Prop} {F : Prop} {T : TypeId} {n i : Nat} {x : Operand} {p v : Value} (hw : Region.wanted o (yielded ops a.tmps) = true) (ho : o.op = .buildSlice T n #[(i, x)]) (hx : a.eval x = p) (hrun : (Instr.buildSlice T n #[(i, p)]).run P w = .ok v w') (h : K (a.put o.dst v) w') :
    if Region.wanted o (yielded ops a.tmps) = true then Oper.wp P o a w K Q else F := by
  rw [if_pos hw]
  unfold Oper.wp
  simp [execOp, ho, hx, hrun, Result.andThen]
  exact h
end
theorem ld22 {W : World} {ad : Addr} {v : Value} (h : W.cell? ad = some v) : (Instr.loadAt 22 (.pointer (some ad))).run Tryz.prog W = .ok v W := by
  go_simp
theorem SesR.plsG {B nb cb pb tb : Nat} {W w2 : World} {all : List PF} {P : Nat → List PF} {va : Value} {vp : Nat → Value} {t : Nat → ByteArray} (h : SesR B W nb cb pb tb all P va vp t) {d : Nat} (hd : d < 3) (gr : W.grownBy w2 (vp d).ownBlock) : w2.heap[pb]? = some (.cells #[vp 0, vp 1, vp 2] 22 (0, 0)) :=
  (gr.block _ (blk_lt h.pls) (fun q => owns_kind (h.row d hd) q.symm h.pls (by decide) rfl)).trans h.pls
section
variable {P : Program} {ops : Array Oper} {Q : Exit → Act → World → Prop}
/-- a load, its run as an equation -/
theorem step_ld {w w' : World} {o : Oper} {a : Act} {K : Act → World → Prop} {F : Prop} {T : TypeId} {x : Operand} {p v : Value} (hw : Region.wanted o (yielded ops a.tmps) = true) (ho : o.op = .load T x) (hx : a.eval x = p) (hrun : (Instr.loadAt T p).run P w = .ok v w') (h : K (a.put o.dst v) w') :
    if Region.wanted o (yielded ops a.tmps) = true then Oper.wp P o a w K Q else F := by
  rw [if_pos hw]
  unfold Oper.wp
  simp [execOp, ho, hx, hrun, Result.andThen]
  exact h
end
theorem owns_slice {W : World} {B e k n : Nat} {v : Value} {xs : List Value} (h : W.ownsRow B e k v n xs) : ∃ ao cap, v = .slice ao n cap := by
  obtain ⟨_, ⟨q, hn⟩ | ⟨g, cap, cur, q, _⟩⟩ := h
  · exact ⟨none, 0, by rw [q, hn]⟩
  · exact ⟨_, cap, q⟩

/-! The law's numbers. -/
/-- what the law knows of its plays -/
structure PlyOk (j : Nat) (all : List PF) (P : Nat → List PF) (v : Nat → ByteArray) (vs : ByteArray) : Prop where
  len : all.length ≤ j
  le : j ≤ 25
  dev : ∀ p ∈ all, p.n 6 = 1 ∨ p.n 6 = 2 ∨ p.n 6 = 3
  spl : ∀ d : Nat, d < 3 → P d = devL ((d : Int) + 1) all
  val : ∀ d : Nat, d < 3 → v d = decB (strm s0L (ordL (P d)))
  sum : vs = decB (strm s0L (ordL all))
theorem devL_snoc (d : Int) (l : List PF) (p : PF) : devL d (l ++ [p]) = if p.n 6 = d then devL d l ++ [p] else devL d l := by
  unfold devL
  rw [List.filter_append]
  by_cases h : p.n 6 = d
  · rw [if_pos h]; simp [h]
  · rw [if_neg h]; simp [h]
theorem strm_le9 (l : List PF) : strm s0L (ordL l) ≤ l.length := by
  refine Nat.le_trans (strm_len _ _) ?_
  unfold ordL
  rw [(isort_perm _ _ rfl).length_eq]
  exact List.length_filter_le _ _
theorem PlyOk.lenP {j : Nat} {all : List PF} {P : Nat → List PF} {v : Nat → ByteArray} {vs : ByteArray} (h : PlyOk j all P v vs) {d : Nat} (hd : d < 3) : (P d).length ≤ 25 := by
  rw [h.spl d hd]
  refine Nat.le_trans (List.length_filter_le _ _) (Nat.le_trans h.len h.le)
/-- a play more: the split -/
theorem PlyOk.split {j : Nat} {all : List PF} {P : Nat → List PF} {v : Nat → ByteArray} {vs : ByteArray} (h : PlyOk j all P v vs) {d : Nat} (hd : d < 3) {p : PF} (hp : p.n 6 = (d : Int) + 1) :
    ∀ e : Nat, e < 3 → upd P d (P d ++ [p]) e = devL ((e : Int) + 1) (all ++ [p]) := fun e he => by
  rw [devL_snoc, hp]
  unfold upd
  by_cases q : e = d
  · subst q
    rw [if_pos rfl, if_pos rfl, h.spl e hd]
  · rw [if_neg q, if_neg (by omega), h.spl e he]
theorem PlyOk.next {j : Nat} {all : List PF} {P : Nat → List PF} {v : Nat → ByteArray} {vs vs' u : ByteArray} (h : PlyOk j all P v vs) (hj : j < 25) {d : Nat} (hd : d < 3) {p : PF} (hp : p.n 6 = (d : Int) + 1) (hu : u = decB (strm s0L (ordL (P d ++ [p])))) (hvs : vs' = decB (strm s0L (ordL (all ++ [p])))) :
    PlyOk (j + 1) (all ++ [p]) (upd P d (P d ++ [p])) (upd v d u) vs' := by
  refine ⟨by have := h.len; simp; omega, by omega, fun x hx => ?_, h.split hd hp, fun e he => ?_, hvs⟩
  · rcases List.mem_append.1 hx with q | q
    · exact h.dev x q
    · rw [List.mem_singleton.1 q, hp]; omega
  · unfold upd
    by_cases q : e = d
    · subst q
      rw [if_pos rfl, if_pos rfl, hu]
    · rw [if_neg q, if_neg q]; exact h.val e he
theorem PlyOk.pass {j : Nat} {all : List PF} {P : Nat → List PF} {v : Nat → ByteArray} {vs : ByteArray} (h : PlyOk j all P v vs) (hj : j < 25) : PlyOk (j + 1) all P v vs := ⟨by have := h.len; omega, by omega, h.dev, h.spl, h.val, h.sum⟩
/-- the sum of the devices' numbers -/
def sumN (P : Nat → List PF) : Nat → Nat
  | 0 => 0
  | k + 1 => sumN P k + strm s0L (ordL (P k))
theorem sumN_all {all : List PF} {P : Nat → List PF} (hdev : ∀ p ∈ all, p.n 6 = 1 ∨ p.n 6 = 2 ∨ p.n 6 = 3) (hs : ∀ d : Nat, d < 3 → P d = devL ((d : Int) + 1) all) : sumN P 3 = strm s0L (ordL all) := by
  have h0 := hs 0 (by decide)
  have h1 := hs 1 (by decide)
  have h2 := hs 2 (by decide)
  rw [streams_split all hdev]
  show 0 + strm s0L (ordL (P 0)) + strm s0L (ordL (P 1)) + strm s0L (ordL (P 2)) = _
  rw [h0, h1, h2]
  show 0 + strm s0L (ordL (devL 1 all)) + strm s0L (ordL (devL 2 all)) + strm s0L (ordL (devL 3 all)) = _
  omega
/-- where the device's number stays, the sum does -/
theorem PlyOk.same {j : Nat} {all : List PF} {P : Nat → List PF} {v : Nat → ByteArray} {vs u : ByteArray} (h : PlyOk j all P v vs) (hj : j < 25) {d : Nat} (hd : d < 3) {p : PF} (hp : p.n 6 = (d : Int) + 1) (hu : u = decB (strm s0L (ordL (P d ++ [p])))) (he : v d = u) :
    vs = decB (strm s0L (ordL (all ++ [p]))) := by
  have e1 : strm s0L (ordL (P d ++ [p])) = strm s0L (ordL (P d)) := by
    rw [h.val d hd, hu] at he
    have h1 := strm_le9 (P d)
    have h2 := strm_le9 (P d ++ [p])
    have h3 := h.lenP hd
    rw [List.length_append, List.length_singleton] at h2
    exact (decB_inj (by omega) (by omega) he).symm
  have a1 := sumN_all h.dev h.spl
  have hdev' : ∀ x ∈ all ++ [p], x.n 6 = 1 ∨ x.n 6 = 2 ∨ x.n 6 = 3 := fun x hx => by
    rcases List.mem_append.1 hx with q | q
    · exact h.dev x q
    · rw [List.mem_singleton.1 q, hp]; omega
  have a2 := sumN_all hdev' (h.split hd hp)
  rw [h.sum, ← a1, ← a2]
  congr 1
  have cell : ∀ e : Nat, strm s0L (ordL (upd P d (P d ++ [p]) e)) = strm s0L (ordL (P e)) := fun e => by
    unfold upd
    by_cases q : e = d
    · subst q; rw [if_pos rfl, e1]
    · rw [if_neg q]
  show 0 + strm s0L (ordL (P 0)) + strm s0L (ordL (P 1)) + strm s0L (ordL (P 2)) = 0 + strm s0L (ordL (upd P d (P d ++ [p]) 0)) + strm s0L (ordL (upd P d (P d ++ [p]) 1)) + strm s0L (ordL (upd P d (P d ++ [p]) 2))
  rw [cell, cell, cell]

theorem mk_plays (w : World) : (Instr.makeSlice 34 (.int .i64 3) (.int .i64 3)).run Tryz.prog w = .ok (.slice (some ⟨w.heap.size, 0, none⟩) 3 3) (w.alloc (.cells #[.slice none 0 0, .slice none 0 0, .slice none 0 0] 22)) := by kernel_rfl
theorem mk_texts (w : World) : (Instr.makeSlice 26 (.int .i64 3) (.int .i64 3)).run Tryz.prog w = .ok (.slice (some ⟨w.heap.size, 0, none⟩) 3 3) (w.alloc (.cells #[.string ⟨#[]⟩, .string ⟨#[]⟩, .string ⟨#[]⟩] 9)) := by kernel_rfl
/-! The loop over stale nodes. -/
/-- what is stale at stage q: the device's node, the sum, nothing -/
def slS (d : Nat) : Nat → List ByteArray
  | 0 => [nX d]
  | 1 => [sumB]
  | _ => []
def snS : Nat → Nat
  | 0 => 1
  | 1 => 1
  | _ => 0
def flS (t v v' : Nat → ByteArray) (vs vs' : ByteArray) (d : Nat) : Nat → List En
  | 0 => sesF t v (onlyD d) vs false
  | 1 => sesF t v' noneD vs true
  | _ => sesF t v' noneD vs' false
theorem slS_len (d q : Nat) : (slS d q).length = snS q := by
  match q with
  | 0 => rfl
  | 1 => rfl
  | q + 2 => rfl
theorem flS_stale {t v v' : Nat → ByteArray} {vs vs' : ByteArray} {d : Nat} (hd : d < 3) (q : Nat) : staleF (flS t v v' vs vs' d q) = slS d q := by
  match q with
  | 0 => exact stale_d hd
  | 1 => exact stale_s
  | q + 2 => exact stale_n
theorem flS_12 {t v v' : Nat → ByteArray} {vs vs' : ByteArray} {d : Nat} (q : Nat) : ((flS t v v' vs vs' d q).filter (·.stale)).length ≤ 12 := by
  refine Nat.le_trans (List.length_filter_le _ _) ?_
  match q with
  | 0 => exact Nat.le_of_ble_eq_true rfl
  | 1 => exact Nat.le_of_ble_eq_true rfl
  | q + 2 => exact Nat.le_of_ble_eq_true rfl
/-- Stale at stage q -/
theorem St.staleQ {W0 w : World} {f : Nat} {t v v' : Nat → ByteArray} {vs vs' : ByteArray} {d q : Nat} (hd : d < 3) (h : St W0 f (flS t v v' vs vs' d q) 7 w) :
    Calls Tryz.prog 11 #[.pointer (some ⟨f, 0, none⟩)] w fun e w' => ∃ ao cap, e = .returned (.slice ao (snS q) cap) ∧ RowK 1 encT w' ao (slS d q) ∧ Below w.heap.size w w' :=
  (h.stale (by omega) (flS_12 q) (flS_stale hd q) (slS_len d q)).mono fun e w' ⟨ao, cap, h1, _, h2, _, h3⟩ => ⟨ao, cap, h1, h2, h3⟩
theorem decB_str (l : List PF) {j : Nat} (h : l.length ≤ j) (hj : j ≤ 26) : strm s0L (ordL l) ≤ 9999 := by
  have := strm_le9 l
  omega
theorem sumN_le {all : List PF} {P : Nat → List PF} (h : ∀ d, d < 3 → (P d).length ≤ 26) : ∀ k, k ≤ 3 → sumN P k ≤ 26 * k
  | 0, _ => Nat.le_refl _
  | k + 1, hk => by
    have h1 := sumN_le (all := all) h k (by omega)
    have h2 := strm_le9 (P k)
    have h3 := h k (by omega)
    show sumN P k + _ ≤ _
    omega

end Go.Proofs.YtffifhbldcjelaaGreatDoor
