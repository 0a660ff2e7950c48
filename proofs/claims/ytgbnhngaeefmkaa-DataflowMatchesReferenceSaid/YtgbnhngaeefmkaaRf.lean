import Derived.Test.YtgbnhngaeefmkaaNetA
import Derived.Laws.AppendOwnNone

/-! The reference's flow in memory: a list of entries. -/
namespace Go.Proofs.Ytgbnhngaeefmkaa
set_option linter.unusedVariables false
set_option linter.unusedSimpArgs false
open Go.RowKit

/-- an entry of the reference, and where its reads lie -/
structure REn where
  e : En
  ao : Option Addr
  ln : Nat
  cap : Nat
def encR (x : REn) : List Value := [.string x.e.nm, .string x.e.val, .bool x.e.node, .bool x.e.stale, .slice x.ao x.ln x.cap]
theorem encR_len (x : REn) : (encR x).length = 5 := rfl
theorem encR_one (x : REn) : ∀ u ∈ encR x, u.oneCell' = true := by
  intro u hu; simp [encR] at hu; rcases hu with rfl | rfl | rfl | rfl | rfl <;> rfl

def flowC (v : Value) : Obj := .cells #[v] 44 (0, 0)

structure RefR (B : Nat) (w : World) (r : Nat) (v : Value) (L : List REn) : Prop where
  flow : w.heap[r]? = some (flowC v)
  lo : B ≤ r
  row : w.ownsRow B 85 5 v L.length (L.flatMap encR)
  rds : ∀ x ∈ L, RowO B (.slice x.ao x.ln x.cap) x.ln x.e.rds w

/-- a block that a call of the reference may turn -/
def RMine (B : Nat) (X : World) (k : Nat) : Prop := B ≤ k ∧ ∃ cs t fr, (t = 44 ∨ t = 85) ∧ X.heap[k]? = some (.cells cs t fr)
structure RMv (B : Nat) (X Y : World) : Prop where
  os : Y.os = X.os
  tape : Y.tape = X.tape
  output : Y.output = X.output
  size : X.heap.size ≤ Y.heap.size
  block : ∀ k, k < X.heap.size → ¬ RMine B X k → Y.heap[k]? = X.heap[k]?

theorem RMv.refl (B : Nat) (X : World) : RMv B X X := ⟨rfl, rfl, rfl, Nat.le_refl _, fun _ _ _ => rfl⟩
theorem RMv.trans {B : Nat} {X Y Z : World} (h : RMv B X Y) (h2 : RMv B Y Z) : RMv B X Z :=
  ⟨h2.os.trans h.os, h2.tape.trans h.tape, h2.output.trans h.output, Nat.le_trans h.size h2.size, fun k hk hn => by
    have e := h.block k hk hn
    refine (h2.block k (Nat.lt_of_lt_of_le hk h.size) (fun c => hn ⟨c.1, ?_⟩)).trans e
    rw [← e]; exact c.2⟩
theorem RMv.of_below {B : Nat} {X Y : World} (h : Below X.heap.size X Y) : RMv B X Y := ⟨h.os, h.tape, h.output, h.size, fun k hk _ => h.block k hk⟩
theorem RMv.below {B : Nat} {X Y : World} (h : RMv B X Y) (hB : B ≤ X.heap.size) : Below B X Y := ⟨h.os, h.tape, h.output, h.size, fun k hk => h.block k (by omega) (fun c => by have := c.1; omega)⟩
theorem RMv.set {B : Nat} {X Y : World} (h : RMv B X Y) {p : Addr} (v : Value) (hk : RMine B Y p.block ∨ X.heap.size ≤ p.block) : RMv B X (Y.setCell p v) :=
  ⟨h.os, h.tape, h.output, by simpa using h.size, fun j hj hn => by
    have e := h.block j hj hn
    rw [Below.heap_setCell Y p v j (fun e1 => by
      subst e1
      rcases hk with hk | hk
      · exact hn ⟨hk.1, by rw [← e]; exact hk.2⟩
      · omega)]
    exact e⟩
theorem RMv.blk {B : Nat} {X Y : World} (h : RMv B X Y) {ib : Nat} {cs : Array Value} {t : TypeId} {fr : Nat × Nat} (hi : X.heap[ib]? = some (.cells cs t fr)) (h1 : t ≠ 44) (h2 : t ≠ 85) : Y.heap[ib]? = some (.cells cs t fr) := by
  refine (h.block ib (lt_of_blk hi) (fun c => ?_)).trans hi
  obtain ⟨cs', t', fr', q1, q2⟩ := c.2
  rw [hi] at q2; cases q2
  exact q1.elim h1 h2

theorem RowO.rmv {B base n : Nat} {v : Value} {l : List ByteArray} {w w' : World} (h : RowO base v n l w) (hm : RMv B w w') : RowO base v n l w' := by
  obtain ⟨h1, h2 | ⟨g, cap, cur, h3, h4, h5, h6⟩⟩ := h.row
  · exact ⟨h1, .inl h2⟩
  · exact ⟨h1, .inr ⟨g, cap, cur, h3, h4, hm.blk h5 (by decide) (by decide), h6⟩⟩
theorem RowO.pmv {B base n : Nat} {v : Value} {l : List ByteArray} {w w' : World} (h : RowO base v n l w) (hm : Mv B w w') : RowO base v n l w' := ⟨ownsRow_mv h.row (by decide) hm⟩
theorem RowO.base {base base' n : Nat} {v : Value} {l : List ByteArray} {w : World} (h : RowO base v n l w) (hb : base' ≤ base) : RowO base' v n l w := ⟨ownsRow_base h.row hb⟩

section
variable {B : Nat} {w : World} {r : Nat} {v : Value} {L : List REn}

theorem RefR.later (h : RefR B w r v L) {w' : World} (hb : Below w.heap.size w w') : RefR B w' r v L :=
  ⟨(hb.block r (lt_of_blk h.flow)).trans h.flow, h.lo, ownsRow_blk h.row (fun g _ hl => hb.block g hl), fun x hx => (h.rds x hx).later hb⟩
theorem RefR.pmv (h : RefR B w r v L) {B' : Nat} {w' : World} (hm : Mv B' w w') : RefR B w' r v L := by
  refine ⟨(hm.block r (lt_of_blk h.flow) (fun c => ?_)).trans h.flow, h.lo, ownsRow_mv h.row (by decide) hm, fun x hx => (h.rds x hx).pmv hm⟩
  rcases c.2 with ⟨es, c', q⟩ | ⟨cs', fr', q⟩
  · rw [h.flow] at q; cases q
  · rw [h.flow] at q; unfold flowC at q; injection q with q; injection q with _ q2 _; revert q2; decide
theorem RefR.vcell (h : RefR B w r v L) : w.cell? ⟨r, 0, none⟩ = some v := cell_blk h.flow rfl
theorem RefR.vfrz (h : RefR B w r v L) : w.frozen? ⟨r, 0, none⟩ = false := frz_blk h.flow

/-- the entries' row: nil, or a block of its own -/
theorem RefR.open (h : RefR B w r v L) : (v = .slice none 0 0 ∧ L = []) ∨ ∃ g cap cur, v = .slice (some ⟨g, 0, none⟩) L.length cap ∧ B ≤ g ∧ L.length ≤ cap ∧ w.heap[g]? = some (.cells cur 85 (0, 0)) ∧ cur.toList.take (L.length * 5) = L.flatMap encR ∧ cur.size = cap * 5 ∧ cap ≤ maxLen := by
  obtain ⟨h1, ⟨h2, h3⟩ | ⟨g, cap, cur, h3, h4, h5, h6, h7, h8, h9⟩⟩ := h.row
  · exact .inl ⟨h2, List.length_eq_zero_iff.1 h3⟩
  · exact .inr ⟨g, cap, cur, h3, h4, h6, h5, h9, h8, h7⟩

/-- the cells of an entry -/
theorem RefR.cells (h : RefR B w r v L) {i : Nat} {x : REn} (hx : L[i]? = some x) : ∃ g cap, v = .slice (some ⟨g, 0, none⟩) L.length cap ∧ g < w.heap.size ∧ L.length ≤ cap ∧ ∀ j u, (encR x)[j]? = some u → w.cell? ⟨g, i * 5 + j, none⟩ = some u := by
  rcases h.open with ⟨_, rfl⟩ | ⟨g, cap, cur, h1, _, h3, h4, h5, _⟩
  · simp at hx
  · refine ⟨g, cap, h1, lt_of_blk h4, h3, fun j u hu => cell_blk h4 ?_⟩
    have hf := flat_get encR_len L i x j u hx hu
    rw [← h5, List.getElem?_take] at hf
    split at hf
    · rw [← Array.getElem?_toList]; exact hf
    · cases hf

/-- the address of an entry's reads is a row -/
theorem RefR.reads (h : RefR B w r v L) {i : Nat} {x : REn} (hx : L[i]? = some x) : x.e.rds.length = x.ln ∧ RowK 1 encT w x.ao x.e.rds := by
  obtain ⟨ao, cap, e, h1, h2⟩ := (h.rds x (List.mem_of_getElem? hx)).sl
  cases e
  exact ⟨h1, h2⟩

theorem flat_set {j : Nat} {x x' : REn} {u : Value} : ∀ {L : List REn} {i : Nat}, L[i]? = some x → encR x' = (encR x).set j u → j < 5 → (L.set i x').flatMap encR = (L.flatMap encR).set (i * 5 + j) u
  | [], i, h, _, _ => by simp at h
  | y :: t, 0, h, he, hj => by
    simp at h; subst h
    rw [List.set_cons_zero, List.flatMap_cons, List.flatMap_cons, he, Nat.zero_mul, Nat.zero_add, List.set_append_left _ _ (by rw [encR_len]; exact hj)]
  | y :: t, i + 1, h, he, hj => by
    rw [List.set_cons_succ, List.flatMap_cons, List.flatMap_cons, List.set_append_right _ _ (by rw [encR_len, Nat.succ_mul]; omega), encR_len, show (i + 1) * 5 + j - 5 = i * 5 + j from by rw [Nat.succ_mul]; omega]
    rw [flat_set (i := i) (j := j) (by simpa using h) he hj]

/-- a cell of an entry turns -/
theorem RefR.upd {g cap : Nat} (h : RefR B w r (.slice (some ⟨g, 0, none⟩) L.length cap) L) {i j : Nat} {x x' : REn} {u : Value} (hx : L[i]? = some x) (he : encR x' = (encR x).set j u) (hj : j < 5) (hr : RowO B (.slice x'.ao x'.ln x'.cap) x'.ln x'.e.rds w) :
    RefR B (w.setCell ⟨g, i * 5 + j, none⟩ u) r (.slice (some ⟨g, 0, none⟩) L.length cap) (L.set i x') ∧ RMv B w (w.setCell ⟨g, i * 5 + j, none⟩ u) := by
  rcases h.open with ⟨q, _⟩ | ⟨g', cap', cur, h1, h2, h3, h4, h5, h6, h7⟩
  · cases q
  · cases h1
    have hm : RMv B w (w.setCell ⟨g, i * 5 + j, none⟩ u) := (RMv.refl B w).set u (.inl ⟨h2, cur, _, _, .inr rfl, h4⟩)
    have hi : i < L.length := (List.getElem?_eq_some_iff.1 hx).1
    refine ⟨⟨?_, h.lo, ?_, fun y hy => ?_⟩, hm⟩
    · rw [Below.heap_setCell w ⟨g, i * 5 + j, none⟩ u r (fun e => by
        have e' : r = g := e
        have q := h.flow; rw [e', h4] at q; unfold flowC at q; injection q with q; injection q with _ q2 _; revert q2; decide)]
      exact h.flow
    · refine ⟨by rw [flat_length encR_len], .inr ⟨g, cap, cur.setIfInBounds (i * 5 + j) u, by rw [List.length_set], h2, heap_setC h4 u, by rw [List.length_set]; exact h3, h7, by rw [Array.size_setIfInBounds]; exact h6, ?_⟩⟩
      rw [flat_set hx he hj, ← h5, List.length_set, Array.toList_setIfInBounds, List.take_set]
    · rcases List.mem_or_eq_of_mem_set hy with q | q
      · exact (h.rds y q).rmv hm
      · subst q; exact hr.rmv hm

/-- the flow's cell turns -/
theorem RefR.newv (h : RefR B w r v L) {v' : Value} {L' : List REn} (ho : w.ownsRow B 85 5 v' L'.length (L'.flatMap encR)) (hr : ∀ x ∈ L', RowO B (.slice x.ao x.ln x.cap) x.ln x.e.rds w) :
    RefR B (w.setCell ⟨r, 0, none⟩ v') r v' L' ∧ RMv B w (w.setCell ⟨r, 0, none⟩ v') := by
  have hm : RMv B w (w.setCell ⟨r, 0, none⟩ v') := (RMv.refl B w).set v' (.inl ⟨h.lo, _, _, _, .inl rfl, h.flow⟩)
  refine ⟨⟨?_, h.lo, ?_, fun y hy => (hr y hy).rmv hm⟩, hm⟩
  · have := heap_setC h.flow (o := 0) v'
    exact this
  · obtain ⟨h1, h2 | ⟨g, cap, cur, h3, h4, h5, h6⟩⟩ := ho
    · exact ⟨h1, .inl h2⟩
    · refine ⟨h1, .inr ⟨g, cap, cur, h3, h4, (Below.heap_setCell w ⟨r, 0, none⟩ v' g (fun e => ?_)).trans h5, h6⟩⟩
      have e' : g = r := e
      have q := h.flow; rw [← e', h5] at q; unfold flowC at q; injection q with q; injection q with _ q2 _; revert q2; decide
end

/-- a call of the reference does not turn a flow of the program -/
theorem Rep.rmv {B B' : Nat} {W W' : World} {f M : Nat} {bl rb : ByteArray → Nat} {sl : ByteArray → Value} {F : List En} (h : Rep B W f M bl rb sl F) (hm' : RMv B' W W') : Rep B W' f M bl rb sl F := by
  have hc : ∀ {j : Nat} {o : Obj}, W.heap[j]? = some o → (∀ cs t fr, o = .cells cs t fr → t ≠ 44 ∧ t ≠ 85) → W'.heap[j]? = W.heap[j]? := fun {j o} hj hne => hm'.block j (lt_of_blk hj) (fun c => by
    obtain ⟨cs, t, fr, q1, q2⟩ := c.2
    rw [hj] at q2; cases q2
    obtain ⟨n1, n2⟩ := hne cs t fr rfl
    exact q1.elim n1 n2)
  obtain ⟨L, hL, hp⟩ := h.names
  have hm : ∀ {b : Nat} {L : List (Value × Value)}, RawMap W b L → W'.heap[b]? = W.heap[b]? := fun {b L} hb => by
    obtain ⟨es, c, q, _⟩ := hb
    exact hc q (fun cs t fr e => by cases e)
  refine ⟨(hc h.flow (fun cs t fr e => by cases e; decide)).trans h.flow, ⟨L, hL.kept (hm hL), hp⟩, fun e he => (hc (h.ent e he) (fun cs t fr e' => by unfold entC at e'; cases e'; decide)).trans (h.ent e he), fun e he => (h.row e he).kept (fun g cur fr' hg => hc hg (fun cs t fr e' => by cases e'; decide)), fun e he => ?_, h.injB, h.injR, h.rbM, h.baseM, h.baseB, h.baseR, h.srt⟩
  obtain ⟨L', hL', hp'⟩ := h.rdr e he
  exact ⟨L', hL'.kept (hm hL'), hp'⟩
theorem St.rmv {W0 w w' : World} {f k : Nat} {F : List En} (h : St W0 f F k w) (hm : RMv W0.heap.size w w') : St W0 f F k w' := by
  obtain ⟨M, bl, rb, sl, hr⟩ := h.1.rep
  have hl := h.2.trans (hm.below h.2.size)
  exact ⟨⟨⟨M, bl, rb, sl, hr.rmv hm⟩, h.1.good, h.1.len, hl.size⟩, hl⟩

end Go.Proofs.Ytgbnhngaeefmkaa

/-! The reference: New, at, has, Value, Reads. -/
namespace Go.Proofs.Ytgbnhngaeefmkaa
set_option linter.unusedVariables false
set_option linter.unusedSimpArgs false
open Go.RowKit

theorem RefR.sl {B : Nat} {w : World} {r : Nat} {v : Value} {L : List REn} (h : RefR B w r v L) : ∃ ao cap, v = .slice ao L.length cap ∧ RowK 5 encR w ao L := by
  obtain ⟨ao, cap, h1, _, h2⟩ := rowK_of_owns encR_len (by decide) h.row
  exact ⟨ao, cap, h1, h2⟩

theorem rnew (W : World) : Calls Try.prog 10 #[] W fun e w' => ∃ r, e = .returned (.pointer (some ⟨r, 0, none⟩)) ∧ RefR W.heap.size w' r (.slice none 0 0) [] ∧ Below W.heap.size W w' := by
  go_enter Try.func10, Try.ntmps10
  go_wp2
  go_ret
  exact ⟨_, rfl, ⟨World.alloc_heap_new W _, Nat.le_refl _, World.ownsRow_nil _ _ _ _, fun x hx => by cases hx⟩, (Below.refl _ W).alloc (Nat.le_refl _) _⟩

/-- the place of a name -/
def AtR (L : List REn) (nm : ByteArray) (i : Int) : Prop := (i = -1 ∧ ∀ x ∈ L, x.e.nm ≠ nm) ∨ ∃ (k : Nat) (x : REn), i = k ∧ L[k]? = some x ∧ x.e.nm = nm ∧ ∀ j y, j < k → L[j]? = some y → y.e.nm ≠ nm

set_option maxRecDepth 100000 in
set_option maxHeartbeats 1000000 in
theorem rat_any {B : Nat} {w : World} {r : Nat} {v : Value} {L : List REn} (h : RefR B w r v L) (hn : L.length ≤ 1000000) (nm : ByteArray) (i : Int) (hi : AtR L nm i) :
    Calls Try.prog 38 #[.pointer (some ⟨r, 0, none⟩), .string nm] w fun e w' => e = .returned (.int .i64 i) ∧ w = w' := by
  obtain ⟨ao, cap, rfl, hrow⟩ := h.sl
  have cv := h.vcell
  obtain ⟨n, hnl⟩ : ∃ n, L.length = n := ⟨_, rfl⟩
  rw [hnl] at cv hn
  have HR := Lib.hid hrow
  have HI := Lib.hid hi
  have HN := Lib.hid hnl
  clear h hrow hi hnl
  go_enter Try.func38, Try.ntmps38
  go_wp2
  go_loopw [5] (fun j wr => wr = w ∧ ∃ k : Nat, k ≤ n ∧ j = .int .i64 (k : Int) ∧ ∀ q y, q < k → L[q]? = some y → y.e.nm ≠ nm) (fun j _ => n - (intOf j).toNat)
  case atStart => exact ⟨rfl, 0, Nat.zero_le _, rfl, fun q y hq _ => absurd hq (Nat.not_lt_zero q)⟩
  case round =>
    obtain ⟨rfl, k, hk, rfl, hno⟩ := hrel
    have NO := Lib.hid hno
    clear hno
    have k0 : (0 : Int) ≤ (k : Int) := by omega
    by_cases hlt : k < n
    · have k1 : (k : Int) < (n : Int) := by omega
      have hkl : k < L.length := by rw [HN.out]; exact hlt
      obtain ⟨g, o, rfl, _, hce⟩ := HR.out k L[k] (List.getElem?_eq_getElem hkl)
      have ce : wr.cell? ⟨g, o + k * 5, none⟩ = some (.string L[k].e.nm) := hce 0 _ rfl
      have HX := Lib.hid (show L[k]? = some L[k] from List.getElem?_eq_getElem hkl)
      obtain ⟨x, hx⟩ : ∃ x, L[k] = x := ⟨_, rfl⟩
      rw [hx] at ce HX
      obtain ⟨y, hy⟩ : ∃ y, x.e.nm = y := ⟨_, rfl⟩
      have HY := Lib.hid hy
      rw [hy] at ce
      clear hce hx hy hkl
      by_cases hxy : y = nm
      · have q1 : (y.toList == nm.toList) = true := by rw [hxy]; simp
        have hik : i = (k : Int) := by
          rcases HI.out with ⟨_, h1⟩ | ⟨k', x', h1, h2, h3, h4⟩
          · exact absurd (HY.out.trans hxy) (h1 x (List.mem_of_getElem? HX.out))
          · rcases Nat.lt_trichotomy k k' with q | q | q
            · exact absurd (HY.out.trans hxy) (h4 k x q HX.out)
            · rw [h1, q]
            · exact absurd h3 (NO.out k' x' q h2)
        subst hik
        clear hxy
        go_wp2
        go_ret
        exact ⟨rfl, rfl⟩
      · have q1 : (y.toList == nm.toList) = false := (Lib.bytes_beq_false_iff _ _).2 hxy
        have NX := Lib.hid (show ∀ q z, q < k + 1 → L[q]? = some z → z.e.nm ≠ nm from fun q z hq hz => by
          rcases Nat.lt_or_ge q k with h | h
          · exact NO.out q z h hz
          · have : q = k := by omega
            subst this
            rw [HX.out] at hz; cases hz; rw [HY.out]; exact hxy)
        clear hxy
        go_wp2
        go_roundw
        case rel => exact ⟨trivial, k + 1, by omega, by go_num, NX.out⟩
        case measure => simp [intOf]; omega
    · have k1 : ¬ (k : Int) < (n : Int) := by omega
      have hik : i = -1 := by
        rcases HI.out with ⟨h1, _⟩ | ⟨k', x', h1, h2, h3, h4⟩
        · exact h1
        · have := (List.getElem?_eq_some_iff.1 h2).1
          rw [HN.out] at this
          exact absurd h3 (NO.out k' x' (by omega) h2)
      subst hik
      go_wp2
      go_ret
      exact ⟨rfl, rfl⟩

set_option maxRecDepth 100000 in
set_option maxHeartbeats 1000000 in
theorem has_any (ao : Option Addr) (ln cap : Nat) (l : List ByteArray) (nm : ByteArray) (w : World) (hln : l.length = ln) (hn : ln ≤ 1000000) (hrow : RowK 1 encT w ao l) :
    Calls Try.prog 42 #[.slice ao ln cap, .string nm] w fun e w' => e = .returned (.bool (l.any fun r => decide (r = nm))) ∧ w = w' := by
  have HR := Lib.hid hrow
  have HN := Lib.hid hln
  obtain ⟨b, hb⟩ : ∃ b, (l.any fun r => decide (r = nm)) = b := ⟨_, rfl⟩
  rw [hb]
  have HB := Lib.hid hb
  clear hrow hln hb
  go_enter Try.func42, Try.ntmps42
  go_wp2
  go_loopw [5] (fun j wr => wr = w ∧ ∃ k : Nat, k ≤ ln ∧ j = .int .i64 (k : Int) ∧ nm ∉ l.take k) (fun j _ => ln - (intOf j).toNat)
  case atStart => exact ⟨rfl, 0, Nat.zero_le _, rfl, by simp⟩
  case round =>
    obtain ⟨rfl, k, hk, rfl, hno⟩ := hrel
    have NO := Lib.hid hno
    clear hno
    have k0 : (0 : Int) ≤ (k : Int) := by omega
    by_cases hlt : k < ln
    · have k1 : (k : Int) < (ln : Int) := by omega
      have hkl : k < l.length := by rw [HN.out]; exact hlt
      obtain ⟨g, o, rfl, _, ce⟩ := HR.out.str hkl
      have HT := Lib.hid (show l.take (k + 1) = l.take k ++ [l[k]] from List.take_succ_eq_append_getElem hkl)
      have HM := Lib.hid (show l[k] ∈ l from List.getElem_mem hkl)
      obtain ⟨x, hx⟩ : ∃ x, l[k] = x := ⟨_, rfl⟩
      rw [hx] at ce HT HM
      clear hx hkl
      by_cases hxy : x = nm
      · have q1 : (x.toList == nm.toList) = true := by rw [hxy]; simp
        have hbt : b = true := by rw [← HB.out, List.any_eq_true]; exact ⟨x, HM.out, decide_eq_true hxy⟩
        subst hbt
        clear hxy
        go_wp2
        go_ret
        exact ⟨rfl, rfl⟩
      · have q1 : (x.toList == nm.toList) = false := (Lib.bytes_beq_false_iff _ _).2 hxy
        have NX := Lib.hid (show nm ∉ l.take (k + 1) from by
          rw [HT.out, List.mem_append, List.mem_singleton]
          rintro (h | h)
          · exact NO.out h
          · exact hxy h.symm)
        clear hxy
        go_wp2
        go_roundw
        case rel => exact ⟨trivial, k + 1, by omega, by go_num, NX.out⟩
        case measure => simp [intOf]; omega
    · have k1 : ¬ (k : Int) < (ln : Int) := by omega
      have hbf : b = false := by
        rw [← HB.out, List.any_eq_false]
        intro x hx
        have h := NO.out
        rw [List.take_of_length_le (by rw [HN.out]; omega)] at h
        rw [decide_eq_true_eq]
        rintro rfl; exact h hx
      subst hbf
      go_wp2
      go_ret
      exact ⟨rfl, rfl⟩

end Go.Proofs.Ytgbnhngaeefmkaa

/-! The reference: Value, Reads, depends, depth. -/
namespace Go.Proofs.Ytgbnhngaeefmkaa
set_option linter.unusedVariables false
set_option linter.unusedSimpArgs false
open Go.RowKit

theorem AtR.none {L : List REn} {nm : ByteArray} (h : atF (L.map (·.e)) nm = none) : AtR L nm (-1) :=
  .inl ⟨rfl, fun x hx => atF_none h x.e (List.mem_map.2 ⟨x, hx, rfl⟩)⟩
theorem AtR.some {L : List REn} (hS : SortedF (L.map (·.e))) {nm : ByteArray} {e : En} (he : atF (L.map (·.e)) nm = some e) : ∃ (k : Nat) (x : REn), L[k]? = some x ∧ x.e = e ∧ AtR L nm (k : Int) := by
  obtain ⟨h1, h2⟩ := atF_some he
  obtain ⟨x, hx, rfl⟩ := List.mem_map.1 h1
  obtain ⟨k, hk⟩ := List.mem_iff_getElem?.1 hx
  refine ⟨k, x, hk, rfl, .inr ⟨k, x, rfl, hk, h2, fun j y hj hy hn => ?_⟩⟩
  have hp := List.pairwise_iff_getElem.1 hS j k
  obtain ⟨jl, je⟩ := List.getElem?_eq_some_iff.1 hy
  obtain ⟨kl, ke⟩ := List.getElem?_eq_some_iff.1 hk
  have q := hp (by simpa using jl) (by simpa using kl) hj
  rw [List.getElem_map, List.getElem_map, je, ke, hn, h2] at q
  exact ltB_irr _ q

section
variable {B : Nat} {w : World} {r : Nat} {v : Value} {L : List REn}

theorem RefR.found (h : RefR B w r v L) (hS : SortedF (L.map (·.e))) {nm : ByteArray} {e : En} (he : atF (L.map (·.e)) nm = some e) : ∃ (k : Nat) (x : REn) (g cap : Nat), L[k]? = some x ∧ x.e = e ∧ AtR L nm (k : Int) ∧ k < L.length ∧ v = .slice (some ⟨g, 0, none⟩) L.length cap ∧
    w.cell? ⟨g, k * 5, none⟩ = some (.string e.nm) ∧ w.cell? ⟨g, k * 5 + 1, none⟩ = some (.string e.val) ∧ w.cell? ⟨g, k * 5 + 2, none⟩ = some (.bool e.node) ∧ w.cell? ⟨g, k * 5 + 3, none⟩ = some (.bool e.stale) ∧ w.cell? ⟨g, k * 5 + 4, none⟩ = some (.slice x.ao x.ln x.cap) ∧ e.rds.length = x.ln ∧ RowK 1 encT w x.ao e.rds := by
  obtain ⟨k, x, hx, rfl, ha⟩ := AtR.some hS he
  obtain ⟨g, cap, h1, _, _, h4⟩ := h.cells hx
  obtain ⟨h5, h6⟩ := h.reads hx
  exact ⟨k, x, g, cap, hx, rfl, ha, (List.getElem?_eq_some_iff.1 hx).1, h1, h4 0 _ rfl, h4 1 _ rfl, h4 2 _ rfl, h4 3 _ rfl, h4 4 _ rfl, h5, h6⟩

set_option maxRecDepth 100000 in
set_option maxHeartbeats 1000000 in
theorem rvalue_any (h : RefR B w r v L) (hS : SortedF (L.map (·.e))) (hn : L.length ≤ 1000000) (nm : ByteArray) {x : ByteArray} {ok : Bool} (hv : valF (L.map (·.e)) nm = (x, ok)) :
    Calls Try.prog 25 #[.pointer (some ⟨r, 0, none⟩), .string nm] w fun e w' => e = .returned (.tuple #[.string x, .bool ok]) ∧ w = w' := by
  have AT := Lib.hid (rat_any h hn nm)
  have HV := Lib.hid hv
  clear hv
  rcases he : atF (L.map (·.e)) nm with _ | e
  · have A := Lib.hid (AT.out (-1) (AtR.none he))
    have hh := HV.out
    unfold valF at hh
    rw [he] at hh
    cases hh
    clear h he AT
    go_enter Try.func25, Try.ntmps25
    go_wp2_with (first | (go_at_call 38; refine A.out.mono ?_; rintro e w' ⟨rfl, rfl⟩))
    go_ret2
    exact ⟨rfl, rfl⟩
  · obtain ⟨k, y, g, cap, hx, hye, ha, hk, rfl, _, c1, _, c3, _⟩ := h.found hS he
    have A := Lib.hid (AT.out k ha)
    have hh := HV.out
    unfold valF at hh
    rw [he] at hh
    have cv := h.vcell
    obtain ⟨n, hnl⟩ : ∃ n, L.length = n := ⟨_, rfl⟩
    rw [hnl] at cv hk
    have k0 : (0 : Int) ≤ (k : Int) := by omega
    have k1 : (k : Int) < (n : Int) := by omega
    have kn : ¬ (k : Int) < 0 := by omega
    rcases hs : e.stale with _ | _
    · rw [hs] at c3
      simp only [hs, Bool.false_eq_true, if_false] at hh
      cases hh
      obtain ⟨val, hval⟩ : ∃ val, e.val = val := ⟨_, rfl⟩
      rw [hval] at c1 ⊢
      clear h he AT hx ha HV hye hnl hs hval
      go_enter Try.func25, Try.ntmps25
      go_wp2_with (first | (go_at_call 38; refine A.out.mono ?_; rintro e w' ⟨rfl, rfl⟩))
      go_ret2
      exact ⟨rfl, rfl⟩
    · rw [hs] at c3
      simp only [hs, if_true] at hh
      cases hh
      clear h he AT hx ha HV hye hnl hs c1
      go_enter Try.func25, Try.ntmps25
      go_wp2_with (first | (go_at_call 38; refine A.out.mono ?_; rintro e w' ⟨rfl, rfl⟩))
      go_ret2
      exact ⟨rfl, rfl⟩

/-- what Reads returns -/
def ReadsE (w : World) (l : List ByteArray) (n : Nat) (e : Ending) (w' : World) : Prop := ∃ ao cap, e = .returned (.slice ao n cap) ∧ RowK 1 encT w ao l ∧ w = w'

set_option maxRecDepth 100000 in
set_option maxHeartbeats 1000000 in
theorem rreads_any (h : RefR B w r v L) (hS : SortedF (L.map (·.e))) (hn : L.length ≤ 1000000) (nm : ByteArray) {l : List ByteArray} {m : Nat} (hl : readsF (L.map (·.e)) nm = l) (hm : l.length = m) :
    Calls Try.prog 27 #[.pointer (some ⟨r, 0, none⟩), .string nm] w (ReadsE w l m) := by
  have AT := Lib.hid (rat_any h hn nm)
  have HV := Lib.hid hl
  clear hl
  rcases he : atF (L.map (·.e)) nm with _ | e
  · have A := Lib.hid (AT.out (-1) (AtR.none he))
    have hh := HV.out
    unfold readsF at hh
    rw [he] at hh
    subst hh
    subst hm
    clear h he AT HV
    go_enter Try.func27, Try.ntmps27
    go_wp2_with (first | (go_at_call 38; refine A.out.mono ?_; rintro e w' ⟨rfl, rfl⟩))
    go_ret
    exact ⟨none, 0, rfl, RowK.nil _ _ _ _, rfl⟩
  · obtain ⟨k, y, g, cap, hx, hye, ha, hk, rfl, _, _, _, _, c4, hrl, hrr⟩ := h.found hS he
    have A := Lib.hid (AT.out k ha)
    have hh := HV.out
    unfold readsF at hh
    rw [he] at hh
    have cv := h.vcell
    obtain ⟨n, hnl⟩ : ∃ n, L.length = n := ⟨_, rfl⟩
    rw [hnl] at cv hk
    have k0 : (0 : Int) ≤ (k : Int) := by omega
    have k1 : (k : Int) < (n : Int) := by omega
    have kn : ¬ (k : Int) < 0 := by omega
    have hh' : e.rds = l := hh
    rw [hh'] at hrl hrr
    rw [hrl] at hm
    obtain ⟨yo, hyo⟩ : ∃ yo, y.ao = yo := ⟨_, rfl⟩
    obtain ⟨yl, hyl⟩ : ∃ yl, y.ln = yl := ⟨_, rfl⟩
    obtain ⟨yc, hyc⟩ : ∃ yc, y.cap = yc := ⟨_, rfl⟩
    rw [hyo, hyl, hyc] at c4
    rw [hyo] at hrr
    rw [hyl] at hm
    subst hm
    have RR := Lib.hid hrr
    clear h he AT hx ha HV hye hnl hh hh' hrl hrr hyo hyl hyc
    go_enter Try.func27, Try.ntmps27
    go_wp2_with (first | (go_at_call 38; refine A.out.mono ?_; rintro e w' ⟨rfl, rfl⟩))
    go_ret
    exact ⟨_, _, rfl, RR.out, rfl⟩

def depB (F : List En) (a b : ByteArray) : Bool := match atF F a with | some e => e.rds.any (fun x => rchB F F.length x b) | none => false
theorem rch_dep {F : List En} (hG : Good F) (x b : ByteArray) : (decide (x = b) || depB F x b) = rchB F F.length x b := by
  rw [Bool.eq_iff_iff, Bool.or_eq_true, decide_eq_true_eq, hG.rch]
  constructor
  · rintro (rfl | h)
    · exact .refl _
    · unfold depB at h
      split at h
      · rename_i e he
        rw [List.any_eq_true] at h
        obtain ⟨y, hy, h2⟩ := h
        exact .step he hy ((hG.rch _ _).1 h2)
      · cases h
  · intro h
    cases h with
    | refl => exact .inl rfl
    | step he hy h2 =>
      right
      unfold depB
      rw [he]
      exact List.any_eq_true.2 ⟨_, hy, (hG.rch _ _).2 h2⟩

set_option maxRecDepth 100000 in
set_option maxHeartbeats 1000000 in
theorem rdep_any (h : RefR B w r v L) (hG : Good (L.map (·.e))) (hn : L.length ≤ 1000) {rk : ByteArray → Nat} (hK : Ranked (L.map (·.e)) rk) (b : ByteArray) : ∀ (m : Nat) (a : ByteArray), rk a < m →
    Calls Try.prog 44 #[.pointer (some ⟨r, 0, none⟩), .string a, .string b] w fun e w' => e = .returned (.bool (depB (L.map (·.e)) a b)) ∧ w = w' := by
  intro m
  induction m with
  | zero => intro a ha; exact absurd ha (Nat.not_lt_zero _)
  | succ m ih =>
    intro a ham
    have IH := Lib.hid ih
    have AT := Lib.hid (rat_any h (by omega) a)
    rcases he : atF (L.map (·.e)) a with _ | e
    · have A := Lib.hid (AT.out (-1) (AtR.none he))
      have hd : depB (L.map (·.e)) a b = false := by unfold depB; rw [he]
      rw [hd]
      clear h he AT hd ih
      go_enter Try.func44, Try.ntmps44
      go_wp2_with (first | (go_at_call 38; refine A.out.mono ?_; rintro e w' ⟨rfl, rfl⟩))
      go_ret
      exact ⟨rfl, rfl⟩
    · obtain ⟨k, y, g, cap, hx, hye, ha, hk, rfl, _, _, _, _, c4, hrl, hrr⟩ := h.found hG.srt he
      have A := Lib.hid (AT.out k ha)
      have cv := h.vcell
      obtain ⟨hem, hen⟩ := atF_some he
      have hrlen := hG.rlen e hem
      rw [List.length_map] at hrlen
      obtain ⟨n, hnl⟩ : ∃ n, L.length = n := ⟨_, rfl⟩
      rw [hnl] at cv hk hrlen hn
      have k0 : (0 : Int) ≤ (k : Int) := by omega
      have k1 : (k : Int) < (n : Int) := by omega
      have kn : ¬ (k : Int) < 0 := by omega
      obtain ⟨d, hd⟩ : ∃ d, depB (L.map (·.e)) a b = d := ⟨_, rfl⟩
      rw [hd]
      have HD := Lib.hid (show (e.rds.any fun x => rchB (L.map (·.e)) (L.map (·.e)).length x b) = d from by rw [← hd]; unfold depB; rw [he])
      have HRK := Lib.hid (show ∀ x ∈ e.rds, rk x < m from fun x hx => by have := hK e hem x hx; rw [hen] at this; omega)
      have RD := Lib.hid (fun x => rch_dep hG x b)
      obtain ⟨yo, hyo⟩ : ∃ yo, y.ao = yo := ⟨_, rfl⟩
      obtain ⟨yl, hyl⟩ : ∃ yl, y.ln = yl := ⟨_, rfl⟩
      obtain ⟨yc, hyc⟩ : ∃ yc, y.cap = yc := ⟨_, rfl⟩
      rw [hyo, hyl, hyc] at c4
      rw [hyo] at hrr
      rw [hyl] at hrl
      have RR := Lib.hid hrr
      have RL := Lib.hid hrl
      have hyl1 : yl ≤ 1000 := by omega
      clear h he AT hx ha hye hnl hrl hrr hyo hyl hyc ih hd hem hen
      go_enter Try.func44, Try.ntmps44
      go_wp2_with (first | (go_at_call 38; refine A.out.mono ?_; rintro e w' ⟨rfl, rfl⟩))
      go_loopw [8] (fun j wr => wr = w ∧ ∃ q : Nat, q ≤ yl ∧ j = .int .i64 (q : Int) ∧ ∀ x ∈ e.rds.take q, rchB (L.map (·.e)) (L.map (·.e)).length x b = false) (fun j _ => yl - (intOf j).toNat)
      case atStart => exact ⟨rfl, 0, Nat.zero_le _, rfl, fun x hx => by simp at hx⟩
      case round =>
        obtain ⟨rfl, q, hq, rfl, hno⟩ := hrel
        have NO := Lib.hid hno
        clear hno
        have q0 : (0 : Int) ≤ (q : Int) := by omega
        by_cases hlt : q < yl
        · have q1 : (q : Int) < (yl : Int) := by omega
          have hql : q < e.rds.length := by rw [RL.out]; exact hlt
          obtain ⟨g2, o2, rfl, _, c2⟩ := RR.out.str hql
          have HM := Lib.hid (show e.rds[q] ∈ e.rds from List.getElem_mem hql)
          have HT := Lib.hid (show e.rds.take (q + 1) = e.rds.take q ++ [e.rds[q]] from List.take_succ_eq_append_getElem hql)
          obtain ⟨x, hx⟩ : ∃ x, e.rds[q] = x := ⟨_, rfl⟩
          rw [hx] at c2 HM HT
          have C := Lib.hid (IH.out x (HRK.out x HM.out))
          have R := Lib.hid (RD.out x)
          obtain ⟨d2, hd2⟩ : ∃ d2, depB (L.map (·.e)) x b = d2 := ⟨_, rfl⟩
          rw [hd2] at C R
          clear hx hql hd2
          have DT := Lib.hid (show rchB (L.map (·.e)) (L.map (·.e)).length x b = true → d = true from fun ht => by
            rw [← HD.out, List.any_eq_true]; exact ⟨x, HM.out, ht⟩)
          have NX := Lib.hid (show rchB (L.map (·.e)) (L.map (·.e)).length x b = false → ∀ z ∈ e.rds.take (q + 1), rchB (L.map (·.e)) (L.map (·.e)).length z b = false from fun hf z hz => by
            rw [HT.out, List.mem_append, List.mem_singleton] at hz
            rcases hz with hz | rfl
            · exact NO.out z hz
            · exact hf)
          by_cases hxb : x = b
          · have q2 : (x.toList == b.toList) = true := by rw [hxb]; simp
            have hdt : d = true := DT.out (by rw [← R.out, decide_eq_true hxb]; rfl)
            subst hdt
            clear hxb
            go_wp2_with (first | (go_at_call 44; refine C.out.mono ?_; rintro e w' ⟨rfl, rfl⟩))
            go_ret
            exact ⟨rfl, rfl⟩
          · have q2 : (x.toList == b.toList) = false := (Lib.bytes_beq_false_iff _ _).2 hxb
            rcases d2 with _ | _
            · have N2 := Lib.hid (NX.out (by rw [← R.out, decide_eq_false hxb]; rfl))
              clear hxb
              go_wp2_with (first | (go_at_call 44; refine C.out.mono ?_; rintro e w' ⟨rfl, rfl⟩))
              go_roundw
              case rel => exact ⟨trivial, q + 1, by omega, by go_num, N2.out⟩
              case measure => simp [intOf]; omega
            · have hdt : d = true := DT.out (by rw [← R.out, Bool.or_true])
              subst hdt
              clear hxb
              go_wp2_with (first | (go_at_call 44; refine C.out.mono ?_; rintro e w' ⟨rfl, rfl⟩))
              go_ret
              exact ⟨rfl, rfl⟩
        · have q1 : ¬ (q : Int) < (yl : Int) := by omega
          have hdf : d = false := by
            rw [← HD.out, List.any_eq_false]
            intro x hx
            have h := NO.out x
            rw [List.take_of_length_le (by rw [RL.out]; omega)] at h
            rw [h hx]; simp
          subst hdf
          go_wp2
          go_ret
          exact ⟨rfl, rfl⟩

set_option maxRecDepth 100000 in
set_option maxHeartbeats 1000000 in
theorem rdepth_any (h : RefR B w r v L) (hG : Good (L.map (·.e))) (hn : L.length ≤ 1000) {rk : ByteArray → Nat} (hK : Ranked (L.map (·.e)) rk) (hk1 : ∀ x, rk x ≤ 1000) : ∀ (m : Nat) (a : ByteArray), rk a < m →
    Calls Try.prog 53 #[.pointer (some ⟨r, 0, none⟩), .string a] w fun e w' => e = .returned (.int .i64 (dp (L.map (·.e)) rk a)) ∧ w = w' := by
  intro m
  induction m with
  | zero => intro a ha; exact absurd ha (Nat.not_lt_zero _)
  | succ m ih =>
    intro a ham
    have IH := Lib.hid ih
    have AT := Lib.hid (rat_any h (by omega) a)
    rcases he : atF (L.map (·.e)) a with _ | e
    · have A := Lib.hid (AT.out (-1) (AtR.none he))
      have hd : dp (L.map (·.e)) rk a = 0 := by unfold dp depF; rw [he]
      rw [hd]
      clear h he AT hd ih
      go_enter Try.func53, Try.ntmps53
      go_wp2_with (first | (go_at_call 38; refine A.out.mono ?_; rintro e w' ⟨rfl, rfl⟩))
      go_ret
      exact ⟨rfl, rfl⟩
    · obtain ⟨k, y, g, cap, hx, hye, ha, hk, rfl, _, _, c2, _, c4, hrl, hrr⟩ := h.found hG.srt he
      have A := Lib.hid (AT.out k ha)
      have cv := h.vcell
      obtain ⟨hem, hen⟩ := atF_some he
      have hrlen := hG.rlen e hem
      rw [List.length_map] at hrlen
      obtain ⟨n, hnl⟩ : ∃ n, L.length = n := ⟨_, rfl⟩
      rw [hnl] at cv hk hrlen hn
      have k0 : (0 : Int) ≤ (k : Int) := by omega
      have k1 : (k : Int) < (n : Int) := by omega
      have kn : ¬ (k : Int) < 0 := by omega
      have hde := dp_eq hK he
      rcases hnd : e.node with _ | _
      · rw [hnd] at c2 hde
        rw [if_neg (by simp)] at hde
        rw [hde]
        clear h he AT hx ha hye hnl hrl hrr ih hde hem hen hnd c4
        go_enter Try.func53, Try.ntmps53
        go_wp2_with (first | (go_at_call 38; refine A.out.mono ?_; rintro e w' ⟨rfl, rfl⟩))
        go_ret
        exact ⟨rfl, rfl⟩
      · rw [hnd] at c2 hde
        rw [if_pos rfl] at hde
        rw [hde]
        have HRK := Lib.hid (show ∀ x ∈ e.rds, rk x < m from fun x hx => by have := hK e hem x hx; rw [hen] at this; omega)
        have HDL := Lib.hid (show ∀ x, dp (L.map (·.e)) rk x ≤ 1001 from fun x => by have := dp_le (L.map (·.e)) rk x; have := hk1 x; omega)
        obtain ⟨yo, hyo⟩ : ∃ yo, y.ao = yo := ⟨_, rfl⟩
        obtain ⟨yl, hyl⟩ : ∃ yl, y.ln = yl := ⟨_, rfl⟩
        obtain ⟨yc, hyc⟩ : ∃ yc, y.cap = yc := ⟨_, rfl⟩
        rw [hyo, hyl, hyc] at c4
        rw [hyo] at hrr
        rw [hyl] at hrl
        have RR := Lib.hid hrr
        have RL := Lib.hid hrl
        have hyl1 : yl ≤ 1000 := by omega
        obtain ⟨mx, hmx⟩ : ∃ mx, maxL (e.rds.map (dp (L.map (·.e)) rk)) = mx := ⟨_, rfl⟩
        have HMX := Lib.hid hmx
        have hmx1 : mx ≤ 1001 := by
          rw [← hmx]
          exact maxL_le (fun x hx => by obtain ⟨z, _, rfl⟩ := List.mem_map.1 hx; exact HDL.out z)
        rw [hmx]
        clear h he AT hx ha hye hnl hrl hrr hyo hyl hyc ih hde hem hen hnd hmx
        go_enter Try.func53, Try.ntmps53
        go_wp2_with (first | (go_at_call 38; refine A.out.mono ?_; rintro e w' ⟨rfl, rfl⟩))
        go_loopw [6, 7] (fun t j wr => wr = w ∧ ∃ q : Nat, q ≤ yl ∧ j = .int .i64 (q : Int) ∧ ∃ t0 : Nat, t = .int .i64 (t0 : Int) ∧ t0 ≤ 1001 ∧ maxL ((e.rds.take q).map (dp (L.map (·.e)) rk)) = t0) (fun _ j _ => yl - (intOf j).toNat)
        case atStart => exact ⟨rfl, 0, Nat.zero_le _, rfl, 0, rfl, by omega, rfl⟩
        case round =>
          obtain ⟨rfl, q, hq, rfl, t0, rfl, ht0, hmt⟩ := hrel
          have MT := Lib.hid hmt
          clear hmt
          have q0 : (0 : Int) ≤ (q : Int) := by omega
          by_cases hlt : q < yl
          · have q1 : (q : Int) < (yl : Int) := by omega
            have hql : q < e.rds.length := by rw [RL.out]; exact hlt
            obtain ⟨g2, o2, rfl, _, cc⟩ := RR.out.str hql
            have HM := Lib.hid (show e.rds[q] ∈ e.rds from List.getElem_mem hql)
            have HT := Lib.hid (show maxL ((e.rds.take (q + 1)).map (dp (L.map (·.e)) rk)) = max t0 (dp (L.map (·.e)) rk e.rds[q]) from by
              rw [List.take_succ_eq_append_getElem hql, List.map_append]
              have := MT.out
              unfold maxL at this ⊢
              rw [List.foldl_append, this]; rfl)
            obtain ⟨x, hx⟩ : ∃ x, e.rds[q] = x := ⟨_, rfl⟩
            rw [hx] at cc HM HT
            have C := Lib.hid (IH.out x (HRK.out x HM.out))
            have hd1 := HDL.out x
            obtain ⟨d, hd⟩ : ∃ d, dp (L.map (·.e)) rk x = d := ⟨_, rfl⟩
            rw [hd] at C HT hd1
            clear hx hql hd
            have d0 : (0 : Int) ≤ (d : Int) := by omega
            go_wp2_with (first | (go_at_call 53; refine C.out.mono ?_; rintro e w' ⟨rfl, rfl⟩))
            all_goals
              go_roundw
              case rel => exact ⟨trivial, q + 1, by omega, by go_num, max t0 d, by go_num, by omega, HT.out⟩
              case measure => simp [intOf]; omega
          · have q1 : ¬ (q : Int) < (yl : Int) := by omega
            have hmt : mx = t0 := by
              have h := MT.out
              rw [List.take_of_length_le (by rw [RL.out]; omega), HMX.out] at h
              exact h
            subst hmt
            go_wp2
            go_ret
            exact ⟨by go_num, rfl⟩
end

end Go.Proofs.Ytgbnhngaeefmkaa

/-! The reference: change, Insert. -/
namespace Go.Proofs.Ytgbnhngaeefmkaa
set_option linter.unusedVariables false
set_option linter.unusedSimpArgs false
open Go.RowKit

section
variable {B : Nat} {w : World} {r : Nat} {v : Value} {L : List REn}

theorem RefR.frz (h : RefR B w r v L) {g n cap : Nat} (hv : v = .slice (some ⟨g, 0, none⟩) n cap) (o : Nat) : w.frozen? ⟨g, o, none⟩ = false := by
  rcases h.open with ⟨q, _⟩ | ⟨g', cap', cur, h1, _, _, h4, _⟩
  · rw [hv] at q; cases q
  · rw [hv] at h1; cases h1; exact frz_blk h4

/-- a cell of an entry turns, the list's length apart -/
theorem RefR.updN {g n cap : Nat} (h : RefR B w r (.slice (some ⟨g, 0, none⟩) n cap) L) (hn : L.length = n) {i j : Nat} {x x' : REn} {u : Value} (hx : L[i]? = some x) (he : encR x' = (encR x).set j u) (hj : j < 5) (hr : RowO B (.slice x'.ao x'.ln x'.cap) x'.ln x'.e.rds w) :
    RefR B (w.setCell ⟨g, i * 5 + j, none⟩ u) r (.slice (some ⟨g, 0, none⟩) n cap) (L.set i x') ∧ RMv B w (w.setCell ⟨g, i * 5 + j, none⟩ u) := by
  subst hn; exact h.upd hx he hj hr

def markR (nm : ByteArray) (x : REn) : REn := if hasR x.e nm = true then { x with e := { x.e with stale := true } } else x
theorem markR_map (nm : ByteArray) (L : List REn) : (L.map (markR nm)).map (·.e) = markF (L.map (·.e)) nm := by
  unfold markF
  rw [List.map_map, List.map_map]
  refine List.map_congr_left fun x _ => ?_
  simp only [Function.comp_apply, markR]
  split <;> rfl
def chgL (nm : ByteArray) (k : Nat) (L : List REn) : List REn := (L.take k).map (markR nm) ++ L.drop k
theorem chgL_len (nm : ByteArray) (k : Nat) (L : List REn) : (chgL nm k L).length = L.length := by
  unfold chgL; rw [List.length_append, List.length_map, List.length_take, List.length_drop]; omega
theorem chgL_get {nm : ByteArray} {k : Nat} {L : List REn} {x : REn} (h : L[k]? = some x) : (chgL nm k L)[k]? = some x := by
  obtain ⟨hl, he⟩ := List.getElem?_eq_some_iff.1 h
  unfold chgL
  rw [List.getElem?_append_right (by rw [List.length_map, List.length_take]; omega), List.length_map, List.length_take, List.getElem?_drop, show k + (k - min k L.length) = k from by omega, h]
theorem chgL_set {nm : ByteArray} {k : Nat} {L : List REn} {x : REn} (h : L[k]? = some x) : (chgL nm k L).set k (markR nm x) = chgL nm (k + 1) L := by
  obtain ⟨hl, he⟩ := List.getElem?_eq_some_iff.1 h
  unfold chgL
  rw [List.set_append_right _ _ (by rw [List.length_map, List.length_take]; omega), List.length_map, List.length_take, show k - min k L.length = 0 from by omega, List.drop_eq_getElem_cons hl, List.set_cons_zero, List.take_succ_eq_append_getElem hl, List.map_append, he, List.append_assoc]
  rfl
theorem chgL_same {nm : ByteArray} {k : Nat} {L : List REn} {x : REn} (h : L[k]? = some x) (hn : hasR x.e nm = false) : chgL nm (k + 1) L = chgL nm k L := by
  rw [← chgL_set h, show markR nm x = x from by unfold markR; rw [if_neg (by rw [hn]; simp)]]
  apply List.ext_getElem?
  intro i
  rw [List.getElem?_set]
  split
  · rename_i e; subst e
    split
    · exact (chgL_get h).symm
    · rename_i q; rw [List.getElem?_eq_none (by omega)]
  · rfl

set_option maxRecDepth 100000 in
set_option maxHeartbeats 1000000 in
theorem rchange_any (h : RefR B w r v L) (hn : L.length ≤ 1000) (hrl : ∀ x ∈ L, x.e.rds.length ≤ 1000) (nm : ByteArray) :
    Calls Try.prog 40 #[.pointer (some ⟨r, 0, none⟩), .string nm] w fun e w' => e = .returned (.tuple #[]) ∧ RefR B w' r v (L.map (markR nm)) ∧ RMv B w w' := by
  obtain ⟨ao, cap, rfl, _⟩ := h.sl
  obtain ⟨n, hnl⟩ : ∃ n, L.length = n := ⟨_, rfl⟩
  rw [hnl] at hn h ⊢
  have H0 := Lib.hid h
  have HN := Lib.hid hnl
  have HRL := Lib.hid hrl
  clear h hnl hrl
  go_enter Try.func40, Try.ntmps40
  go_wp2
  go_loopw [4] (fun j wr => ∃ k : Nat, k ≤ n ∧ j = .int .i64 (k : Int) ∧ RefR B wr r (.slice ao n cap) (chgL nm k L) ∧ RMv B w wr) (fun j _ => n - (intOf j).toNat)
  case atStart => exact ⟨0, Nat.zero_le _, rfl, H0.out, RMv.refl B w⟩
  case round =>
    obtain ⟨k, hk, rfl, hr, hm⟩ := hrel
    obtain ⟨w1, rfl⟩ : ∃ w1 : World, w1 = wr := ⟨_, rfl⟩
    have R := Lib.hid hr
    have M := Lib.hid hm
    have cv := hr.vcell
    clear hr hm
    have k0 : (0 : Int) ≤ (k : Int) := by omega
    by_cases hlt : k < n
    · have k1 : (k : Int) < (n : Int) := by omega
      have HX := Lib.hid (show L[k]? = some (L[k]'(by rw [HN.out]; exact hlt)) from List.getElem?_eq_getElem _)
      obtain ⟨x, hx⟩ : ∃ x, L[k]'(by rw [HN.out]; exact hlt) = x := ⟨_, rfl⟩
      rw [hx] at HX
      clear hx
      have HG := Lib.hid (chgL_get (nm := nm) HX.out)
      obtain ⟨g, cap', e1, hgl, _, hce⟩ := R.out.cells HG.out
      rw [chgL_len, HN.out] at e1
      cases e1
      obtain ⟨rl, rr⟩ := R.out.reads HG.out
      have RR := Lib.hid rr
      have c4 : w1.cell? ⟨g, k * 5 + 4, none⟩ = some (.slice x.ao x.ln x.cap) := hce 4 _ rfl
      have c3 : w1.cell? ⟨g, k * 5 + 3, none⟩ = some (.bool x.e.stale) := hce 3 _ rfl
      have f3 := R.out.frz rfl (k * 5 + 3)
      have hx1 := HRL.out x (List.mem_of_getElem? HX.out)
      rw [rl] at hx1
      have HAS := Lib.hid (has_any x.ao x.ln x.cap x.e.rds nm w1 rl (by omega) rr)
      have HHR := Lib.hid (show (x.e.rds.any fun q => decide (q = nm)) = hasR x.e nm from rfl)
      rw [HHR.out] at HAS
      have UP := Lib.hid (fun (hh : hasR x.e nm = true) => R.out.updN (by rw [chgL_len, HN.out]) (j := 3) (x' := markR nm x) (u := .bool true) HG.out (by unfold markR; rw [if_pos hh]; rfl) (by decide) (by
        unfold markR; rw [if_pos hh]
        exact R.out.rds x (List.mem_of_getElem? HG.out)))
      obtain ⟨st, hst⟩ : ∃ st, x.e.stale = st := ⟨_, rfl⟩
      rw [hst] at c3
      obtain ⟨xo, hxo⟩ : ∃ xo, x.ao = xo := ⟨_, rfl⟩
      obtain ⟨xl, hxl⟩ : ∃ xl, x.ln = xl := ⟨_, rfl⟩
      obtain ⟨xc, hxc⟩ : ∃ xc, x.cap = xc := ⟨_, rfl⟩
      rw [hxo, hxl, hxc] at c4 HAS
      clear hce rl rr hst hxo hxl hxc
      rcases hh : hasR x.e nm with _ | _
      · rw [hh] at HAS
        have SM := Lib.hid (chgL_same HX.out hh)
        clear hh
        go_wp2_with (first | (go_at_call 42; refine HAS.out.mono ?_; rintro e w' ⟨rfl, rfl⟩))
        go_roundw
        case rel => exact ⟨k + 1, by omega, by go_num, by rw [SM.out]; exact R.out, M.out⟩
        case measure => simp [intOf]; omega
      · rw [hh] at HAS
        have U := Lib.hid (UP.out hh)
        rw [chgL_set HX.out] at U
        clear hh
        go_wp2_with (first | (go_at_call 42; refine HAS.out.mono ?_; rintro e w' ⟨rfl, rfl⟩))
        go_roundw
        case rel => exact ⟨k + 1, by omega, by go_num, U.out.1, M.out.trans U.out.2⟩
        case measure => simp [intOf]; omega
    · have k1 : ¬ (k : Int) < (n : Int) := by omega
      have hkn : k = n := by omega
      subst hkn
      have FIN := Lib.hid (show chgL nm k L = L.map (markR nm) from by unfold chgL; rw [List.take_of_length_le (by rw [HN.out]; exact Nat.le_refl _), List.drop_eq_nil_of_le (by rw [HN.out]; exact Nat.le_refl _), List.append_nil])
      go_wp2
      go_end0
      rw [← FIN.out]
      exact ⟨rfl, R.out, M.out⟩
end

end Go.Proofs.Ytgbnhngaeefmkaa

/-! The reference: Insert. -/
namespace Go.Proofs.Ytgbnhngaeefmkaa
set_option linter.unusedVariables false
set_option linter.unusedSimpArgs false
open Go.RowKit

/-- append(out, x) of a string -/
theorem wp_app1 {W w : World} {ops : Array Oper} {rest : List Oper} {o : Oper} {a : Act} {Q : Exit → Act → World → Prop} (hgd : o.guard = none) (s x : Operand) (ho : o.op = .call { callee := .builtin .append, args := #[s, x], argTypes := #[28, 28] })
    {base q xc : Nat} {xo : Option Addr} {l : List ByteArray} {nx : ByteArray} (hs : a.eval s = .slice xo q xc) (h : RowO base (.slice xo q xc) q l w) (hlow : Below base W w) (hb : base ≤ w.heap.size) (hq : q ≤ 100000) (hx : a.eval x = .slice (some ⟨w.heap.size, 0, none⟩) 1 1)
    (hk : ∀ xo' xc' w', RowO base (.slice xo' (q + 1) xc') (q + 1) (l ++ [nx]) w' → Below base W w' → wpList Try.prog ops Q rest (a.put o.dst (.slice xo' (q + 1) xc')) w') : wpList Try.prog ops Q (o :: rest) a (w.alloc (.cells #[.string nx] 9)) := by
  obtain ⟨i0, hi, hz0, hz1, hz2⟩ := info_parts Try.infoStr
  have hX := (Below.refl w.heap.size w).alloc (Nat.le_refl _) (.cells #[.string nx] 9)
  refine wpList_append_own _ hgd s x 28 ho base 9 i0 (.string (ByteArray.mk #[])) 1 16 Try.underlying28 hi hz0 hz1 hz2 rfl (by decide) _ _ _ hs (h.later hX).row ⟨w.heap.size, 0, none⟩ 1 1 (encT nx) hx rfl (cells_at w (encT nx) 9 w.heap.size rfl) (encT_one _) (by unfold maxLen; omega) (by omega) (by simp; omega) ?_
  intro v' w' own gr _
  obtain ⟨g', cap', rfl⟩ := ownsRow_succ own
  exact hk _ _ _ ⟨by rw [flat_snoc]; exact own⟩ (h.grown hlow hX hb gr)

/-! Insert, in plain words -/
theorem insU_low {n : ByteArray} : ∀ {a b : List ByteArray}, (∀ y ∈ a, ltB y n) → insU n (a ++ b) = a ++ insU n b
  | [], b, _ => rfl
  | y :: t, b, h => by
    have hy := h y (by simp)
    show (if ltB n y then n :: y :: (t ++ b) else if n = y then y :: (t ++ b) else y :: insU n (t ++ b)) = _
    rw [if_neg (fun q => ltB_irr _ (ltB_trans hy q)), if_neg (fun e => by subst e; exact ltB_irr _ hy), insU_low (fun z hz => h z (by simp [hz]))]
    rfl
theorem insU_high {n : ByteArray} : ∀ {a b : List ByteArray}, (∃ y ∈ a, ¬ ltB y n) → insU n (a ++ b) = insU n a ++ b
  | [], b, h => by obtain ⟨y, hy, _⟩ := h; cases hy
  | y :: t, b, h => by
    show (if ltB n y then n :: y :: (t ++ b) else if n = y then y :: (t ++ b) else y :: insU n (t ++ b)) = (if ltB n y then n :: y :: t else if n = y then y :: t else y :: insU n t) ++ b
    split
    · rfl
    · split
      · rfl
      · rename_i h1 h2
        obtain ⟨z, hz, hn⟩ := h
        rcases List.mem_cons.1 hz with rfl | hz
        · rcases ltB_tri z n with q | q | q
          · exact absurd q hn
          · exact absurd q.symm h2
          · exact absurd q h1
        · rw [insU_high ⟨z, hz, hn⟩]; rfl

/-- while it inserts -/
def InsI (l : List ByteArray) (n : ByteArray) (k : Nat) (p : Bool) (out : List ByteArray) : Prop :=
  (p = false → out = l.take k ∧ ∀ y ∈ l.take k, ltB y n) ∧ (p = true → out = insU n (l.take k) ∧ ∃ y ∈ l.take k, ¬ ltB y n)

section
variable {l : List ByteArray} {n x : ByteArray} {k : Nat} {out : List ByteArray}
theorem InsI.zero (l : List ByteArray) (n : ByteArray) : InsI l n 0 false [] := ⟨fun _ => ⟨by simp, fun y hy => by simp at hy⟩, fun h => by cases h⟩
theorem InsI.less (h : InsI l n k false out) (hx : l[k]? = some x) (hl : ltB x n) : InsI l n (k + 1) false (out ++ [x]) := by
  obtain ⟨kl, ke⟩ := List.getElem?_eq_some_iff.1 hx
  obtain ⟨h1, h2⟩ := h.1 rfl
  refine ⟨fun _ => ⟨by rw [List.take_succ_eq_append_getElem kl, ke, h1], fun y hy => ?_⟩, (fun q => by cases q)⟩
  rw [List.take_succ_eq_append_getElem kl, ke, List.mem_append, List.mem_singleton] at hy
  rcases hy with hy | rfl
  · exact h2 y hy
  · exact hl
theorem InsI.more (h : InsI l n k false out) (hx : l[k]? = some x) (hl : ¬ ltB x n) (hne : x ≠ n) : InsI l n (k + 1) true (out ++ [n] ++ [x]) := by
  obtain ⟨kl, ke⟩ := List.getElem?_eq_some_iff.1 hx
  obtain ⟨h1, h2⟩ := h.1 rfl
  refine ⟨(fun q => by cases q), fun _ => ⟨?_, x, ?_, hl⟩⟩
  · rw [List.take_succ_eq_append_getElem kl, ke, insU_low h2, h1]
    have : ltB n x := by
      rcases ltB_tri x n with q | q | q
      · exact absurd q hl
      · exact absurd q hne
      · exact q
    rw [show insU n [x] = [n, x] from by unfold insU; rw [if_pos this], List.append_assoc]; rfl
  · rw [List.take_succ_eq_append_getElem kl, ke]; simp
theorem InsI.same (h : InsI l n k false out) (hx : l[k]? = some n) : InsI l n (k + 1) true (out ++ [n]) := by
  obtain ⟨kl, ke⟩ := List.getElem?_eq_some_iff.1 hx
  obtain ⟨h1, h2⟩ := h.1 rfl
  refine ⟨(fun q => by cases q), fun _ => ⟨?_, n, ?_, ltB_irr n⟩⟩
  · rw [List.take_succ_eq_append_getElem kl, ke, insU_low h2, h1]
    rw [show insU n [n] = [n] from by unfold insU; rw [if_neg (ltB_irr n), if_pos rfl]]
  · rw [List.take_succ_eq_append_getElem kl, ke]; simp
theorem InsI.rest (h : InsI l n k true out) (hx : l[k]? = some x) : InsI l n (k + 1) true (out ++ [x]) := by
  obtain ⟨kl, ke⟩ := List.getElem?_eq_some_iff.1 hx
  obtain ⟨h1, y, h2, h3⟩ := h.2 rfl
  refine ⟨(fun q => by cases q), fun _ => ⟨?_, y, ?_, h3⟩⟩
  · rw [List.take_succ_eq_append_getElem kl, ke, insU_high ⟨y, h2, h3⟩, h1]
  · rw [List.take_succ_eq_append_getElem kl]; exact List.mem_append.2 (.inl h2)
theorem InsI.ne (hs : l.Pairwise ltB) (h : InsI l n k true out) (hx : l[k]? = some x) : x ≠ n := by
  rintro rfl
  obtain ⟨_, y, h2, h3⟩ := h.2 rfl
  obtain ⟨j, hj⟩ := List.mem_iff_getElem?.1 h2
  obtain ⟨kl, ke⟩ := List.getElem?_eq_some_iff.1 hx
  rw [List.getElem?_take] at hj
  split at hj
  · rename_i hjk
    obtain ⟨jl, je⟩ := List.getElem?_eq_some_iff.1 hj
    have := List.pairwise_iff_getElem.1 hs j k jl kl hjk
    rw [je, ke] at this; exact h3 this
  · cases hj
theorem InsI.fin0 (h : InsI l n l.length false out) : out ++ [n] = insU n l := by
  obtain ⟨h1, h2⟩ := h.1 rfl
  rw [List.take_of_length_le (Nat.le_refl _)] at h1 h2
  have q := insU_low (b := []) h2
  rw [List.append_nil] at q
  rw [q, h1]; rfl
theorem InsI.fin1 (h : InsI l n l.length true out) : out = insU n l := by
  obtain ⟨h1, _⟩ := h.2 rfl
  rw [List.take_of_length_le (Nat.le_refl _)] at h1; exact h1
theorem InsI.len {p : Bool} (h : InsI l n k p out) : out.length ≤ k + 1 := by
  have hl : ∀ (m : List ByteArray), (insU n m).length ≤ m.length + 1 := by
    intro m
    induction m with
    | nil => simp [insU]
    | cons y t ih => unfold insU; split; simp; split; simp; simp; exact ih
  rcases p with _ | _
  · rw [(h.1 rfl).1, List.length_take]; omega
  · rw [(h.2 rfl).1]; have := hl (l.take k); rw [List.length_take] at this; omega
end

def InsE (W : World) (l : List ByteArray) (e : Ending) (w' : World) : Prop := ∃ xo xc, e = .returned (.slice xo l.length xc) ∧ RowO W.heap.size (.slice xo l.length xc) l.length l w' ∧ Below W.heap.size W w'

set_option maxRecDepth 100000 in
set_option maxHeartbeats 2000000 in
theorem insert_any (ao : Option Addr) (ln cap : Nat) (l : List ByteArray) (nm : ByteArray) (W : World) (hln : l.length = ln) (hn : ln ≤ 1000) (hs : l.Pairwise ltB) (hrow : RowK 1 encT W ao l) :
    Calls Try.prog 45 #[.slice ao ln cap, .string nm] W (InsE W (insU nm l)) := by
  have HR := Lib.hid hrow
  have HN := Lib.hid hln
  have HS := Lib.hid hs
  clear hrow hln hs
  go_enter Try.func45, Try.ntmps45
  go_wp2
  go_loopw [5, 6, 7] (fun o p i wr => ∃ (k m : Nat) (b : Bool) (out : List ByteArray) (xo : Option Addr) (xc : Nat), k ≤ ln ∧ i = .int .i64 (k : Int) ∧ p = .bool b ∧ o = .slice xo m xc ∧ out.length = m ∧ m ≤ k + 1 ∧ InsI l nm k b out ∧ RowO W.heap.size (.slice xo m xc) m out wr ∧ Below W.heap.size W wr) (fun _ _ i _ => ln - (intOf i).toNat)
  case atStart => exact ⟨0, 0, false, [], none, 0, Nat.zero_le _, rfl, rfl, rfl, rfl, by omega, InsI.zero l nm, RowO.nil _ _, Below.refl _ W⟩
  case round =>
    obtain ⟨k, m, b, out, xo, xc, hk, rfl, rfl, rfl, hom, hmk, hii, hro, hlo⟩ := hrel
    have OM := Lib.hid hom
    have II := Lib.hid hii
    have RO := Lib.hid hro
    have LO := Lib.hid hlo
    clear hom hii hro hlo
    have hws := LO.out.size
    have k0 : (0 : Int) ≤ (k : Int) := by omega
    by_cases hlt : k < ln
    · have k1 : (k : Int) < (ln : Int) := by omega
      have hkl : k < l.length := by rw [HN.out]; exact hlt
      have HRL := Lib.hid (fun w (hb : Below W.heap.size W w) => (HR.out.later hb).str hkl)
      obtain ⟨g, o1, rfl, _, ce⟩ := HRL.out wr LO.out
      have HX := Lib.hid (show l[k]? = some l[k] from List.getElem?_eq_getElem hkl)
      obtain ⟨x, hx⟩ : ∃ x, l[k] = x := ⟨_, rfl⟩
      rw [hx] at ce HX
      have CE := Lib.hid (show ∀ w, Below W.heap.size W w → w.cell? ⟨g, o1 + k, none⟩ = some (.string x) from fun w hb => by
        obtain ⟨g', o', e', _, c'⟩ := HRL.out w hb
        cases e'; rw [hx] at c'; exact c')
      clear hx HRL
      rcases b with _ | _
      · by_cases hlx : ltB x nm
        · have q1 := less_t hlx
          have q2 : (x.toList == nm.toList) = false := (Lib.bytes_beq_false_iff _ _).2 (fun e => by subst e; exact ltB_irr _ hlx)
          have NX := Lib.hid (II.out.less HX.out hlx)
          clear hlx
          go_wp2_with (first
            | (at_builtin; refine wp_app1 rfl (.tmp 34) (.tmp 39) rfl rfl RO.out LO.out hws (by omega) rfl ?_; intro xo' xc' w4 h4 l4; have H4 := Lib.hid h4; have L4 := Lib.hid l4; clear h4 l4))
          go_roundw
          case rel => exact ⟨k + 1, m + 1, false, _, _, _, by omega, by go_num, rfl, rfl, by rw [List.length_append, OM.out]; rfl, by omega, NX.out, H4.out, L4.out⟩
          case measure => simp [intOf]; omega
        · have q1 := less_f hlx
          by_cases hxn : x = nm
          · have q2 : (x.toList == nm.toList) = true := by rw [hxn]; simp
            have NX := Lib.hid (II.out.same (by rw [HX.out, hxn]))
            clear hlx hxn
            go_wp2_with (first
              | (at_builtin; refine wp_app1 rfl (.tmp 24) (.tmp 26) rfl rfl RO.out LO.out hws (by omega) rfl ?_; intro xo' xc' w4 h4 l4; have H4 := Lib.hid h4; have L4 := Lib.hid l4; have ce4 := CE.out w4 l4; clear h4 l4))
            go_roundw
            case rel => exact ⟨k + 1, m + 1, true, _, _, _, by omega, by go_num, rfl, rfl, by rw [List.length_append, OM.out]; rfl, by omega, NX.out, H4.out, L4.out⟩
            case measure => simp [intOf]; omega
          · have q2 : (x.toList == nm.toList) = false := (Lib.bytes_beq_false_iff _ _).2 hxn
            have NX := Lib.hid (II.out.more HX.out hlx hxn)
            clear hlx hxn
            go_wp2_with (first
              | (at_builtin; refine wp_app1 rfl (.tmp 24) (.tmp 26) rfl rfl RO.out LO.out hws (by omega) rfl ?_; intro xo' xc' w4 h4 l4; have H4 := Lib.hid h4; have L4 := Lib.hid l4; have ce4 := CE.out w4 l4; have hw4 := l4.size; clear h4 l4)
              | (at_builtin; refine wp_app1 rfl (.tmp 34) (.tmp 39) rfl rfl H4.out L4.out hw4 (by omega) rfl ?_; intro xo2 xc2 w5 h5 l5; have H5 := Lib.hid h5; have L5 := Lib.hid l5; clear h5 l5))
            have HL2 : (out ++ [nm] ++ [x]).length = m + 1 + 1 := by rw [List.length_append, List.length_append, OM.out]; rfl
            have HM2 := NX.out.len
            rw [HL2] at HM2
            go_roundw
            case rel => exact ⟨k + 1, m + 1 + 1, true, _, _, _, by omega, by go_num, rfl, rfl, HL2, HM2, NX.out, H5.out, L5.out⟩
            case measure => simp [intOf]; omega
      · have hne := II.out.ne HS.out HX.out
        have q2 : (x.toList == nm.toList) = false := (Lib.bytes_beq_false_iff _ _).2 hne
        have NX := Lib.hid (II.out.rest HX.out)
        clear hne
        go_wp2_with (first
          | (at_builtin; refine wp_app1 rfl (.tmp 34) (.tmp 39) rfl rfl RO.out LO.out hws (by omega) rfl ?_; intro xo' xc' w4 h4 l4; have H4 := Lib.hid h4; have L4 := Lib.hid l4; clear h4 l4))
        go_roundw
        case rel => exact ⟨k + 1, m + 1, true, _, _, _, by omega, by go_num, rfl, rfl, by rw [List.length_append, OM.out]; rfl, by omega, NX.out, H4.out, L4.out⟩
        case measure => simp [intOf]; omega
    · have k1 : ¬ (k : Int) < (ln : Int) := by omega
      have hkn : k = l.length := by rw [HN.out]; omega
      rcases b with _ | _
      · have F0 := Lib.hid (show out ++ [nm] = insU nm l from by have h := II.out; rw [hkn] at h; exact h.fin0)
        clear hkn
        go_wp2_with (first
          | (at_builtin; refine wp_app1 rfl (.tmp 43) (.tmp 45) rfl rfl RO.out LO.out hws (by omega) rfl ?_; intro xo' xc' w4 h4 l4; have H4 := Lib.hid h4; have L4 := Lib.hid l4; clear h4 l4))
        go_ret
        have HL : (insU nm l).length = m + 1 := by rw [← F0.out, List.length_append, OM.out]; rfl
        unfold InsE
        rw [HL]
        exact ⟨_, _, rfl, by rw [← F0.out]; exact H4.out, L4.out⟩
      · have F0 := Lib.hid (show out = insU nm l from by have h := II.out; rw [hkn] at h; exact h.fin1)
        clear hkn
        go_wp2
        go_ret
        have HL : (insU nm l).length = m := by rw [← F0.out, OM.out]
        unfold InsE
        rw [HL]
        exact ⟨_, _, rfl, by rw [← F0.out]; exact RO.out, LO.out⟩

end Go.Proofs.Ytgbnhngaeefmkaa

/-! The reference: Stale. -/
namespace Go.Proofs.Ytgbnhngaeefmkaa
set_option linter.unusedVariables false
set_option linter.unusedSimpArgs false
open Go.RowKit

/-! in plain words -/
theorem stale_ins {F : List En} {out : List ByteArray} {x : ByteArray} {k : Nat} (hp : out.Pairwise (ltD F)) (hlo : ∀ y ∈ out, ltB y x) (hk1 : ∀ j y, k ≤ j → out[j]? = some y → depth F x < depth F y) (hk2 : k = 0 ∨ ∃ y, out[k - 1]? = some y ∧ depth F y ≤ depth F x) : (out.take k ++ [x] ++ out.drop k).Pairwise (ltD F) := by
  have h0 : (out.take k ++ out.drop k).Pairwise (ltD F) := by rw [List.take_append_drop]; exact hp
  obtain ⟨p1, p2, p3⟩ := List.pairwise_append.1 h0
  have hA : ∀ y ∈ out.take k, ltD F y x := fun y hy => by
    have hle : depth F y ≤ depth F x := by
      obtain ⟨j, hj⟩ := List.mem_iff_getElem?.1 hy
      rw [List.getElem?_take] at hj
      split at hj
      · rename_i hjk
        rcases hk2 with e | ⟨z, hz, hd⟩
        · omega
        · rcases Nat.lt_or_ge j (k - 1) with q | q
          · obtain ⟨jl, je⟩ := List.getElem?_eq_some_iff.1 hj
            obtain ⟨zl, ze⟩ := List.getElem?_eq_some_iff.1 hz
            have := List.pairwise_iff_getElem.1 hp j (k - 1) jl zl q
            rw [je, ze] at this
            rcases this with h | ⟨h, _⟩ <;> omega
          · have : j = k - 1 := by omega
            subst this
            rw [hz] at hj; cases hj; exact hd
      · cases hj
    rcases Nat.lt_or_ge (depth F y) (depth F x) with q | q
    · exact .inl q
    · exact .inr ⟨by omega, hlo y (List.mem_of_mem_take hy)⟩
  have hB : ∀ y ∈ out.drop k, ltD F x y := fun y hy => by
    obtain ⟨j, hj⟩ := List.mem_iff_getElem?.1 hy
    rw [List.getElem?_drop] at hj
    exact .inl (hk1 (k + j) y (by omega) hj)
  rw [List.append_assoc, List.pairwise_append]
  refine ⟨p1, ?_, fun a ha b hb => ?_⟩
  · rw [List.singleton_append, List.pairwise_cons]
    exact ⟨hB, p2⟩
  · rw [List.singleton_append, List.mem_cons] at hb
    rcases hb with rfl | hb
    · exact hA a ha
    · exact p3 a ha b hb
theorem ins_perm (out : List ByteArray) (x : ByteArray) (k : Nat) : (out.take k ++ [x] ++ out.drop k).Perm (out ++ [x]) := by
  have h : (out.take k ++ x :: out.drop k).Perm (x :: (out.take k ++ out.drop k)) := List.perm_middle
  rw [List.take_append_drop] at h
  rw [List.append_assoc, List.singleton_append]
  exact h.trans (List.perm_append_singleton x out).symm

/-- the stale names among the first q -/
structure StaleI (F : List En) (q : Nat) (out : List ByteArray) : Prop where
  perm : out.Perm (((F.take q).filter (·.stale)).map (·.nm))
  pair : out.Pairwise (ltD F)
theorem StaleI.zero (F : List En) : StaleI F 0 [] := ⟨by simp, List.Pairwise.nil⟩
theorem StaleI.skip {F : List En} {q : Nat} {out : List ByteArray} (h : StaleI F q out) {e : En} (he : F[q]? = some e) (hs : e.stale = false) : StaleI F (q + 1) out := by
  obtain ⟨ql, qe⟩ := List.getElem?_eq_some_iff.1 he
  refine ⟨?_, h.pair⟩
  rw [List.take_succ_eq_append_getElem ql, qe, List.filter_append, show List.filter (·.stale) [e] = [] from by simp [hs], List.append_nil]
  exact h.perm
theorem StaleI.ins {F : List En} (hS : SortedF F) {q k : Nat} {out : List ByteArray} (h : StaleI F q out) {e : En} (he : F[q]? = some e) (hs : e.stale = true) (hk1 : ∀ j y, k ≤ j → out[j]? = some y → depth F e.nm < depth F y) (hk2 : k = 0 ∨ ∃ y, out[k - 1]? = some y ∧ depth F y ≤ depth F e.nm) : StaleI F (q + 1) (out.take k ++ [e.nm] ++ out.drop k) := by
  obtain ⟨ql, qe⟩ := List.getElem?_eq_some_iff.1 he
  refine ⟨?_, stale_ins h.pair (fun y hy => ?_) hk1 hk2⟩
  · rw [List.take_succ_eq_append_getElem ql, qe, List.filter_append, show List.filter (·.stale) [e] = [e] from by simp [hs], List.map_append]
    exact (ins_perm out e.nm k).trans (List.Perm.append_right _ h.perm)
  · have hy2 := (h.perm.mem_iff).1 hy
    obtain ⟨e2, h2, rfl⟩ := List.mem_map.1 hy2
    have h3 := (List.mem_filter.1 h2).1
    obtain ⟨j, hj⟩ := List.mem_iff_getElem?.1 h3
    rw [List.getElem?_take] at hj
    split at hj
    · rename_i hjq
      obtain ⟨jl, je⟩ := List.getElem?_eq_some_iff.1 hj
      have := List.pairwise_iff_getElem.1 hS j q jl ql hjq
      rw [je, qe] at this; exact this
    · cases hj
theorem StaleI.fin {F : List En} (hS : SortedF F) {out : List ByteArray} (h : StaleI F F.length out) : out = staleF F := by
  have hp := h.perm
  rw [List.take_of_length_le (Nat.le_refl _)] at hp
  exact staleF_uniq hS hp h.pair
theorem StaleI.len {F : List En} {q : Nat} {out : List ByteArray} (h : StaleI F q out) : out.length ≤ q := by
  rw [h.perm.length_eq, List.length_map]
  exact Nat.le_trans (List.length_filter_le _ _) (by rw [List.length_take]; omega)

/-! two rows that grow side by side -/
theorem encZ_len (n : Nat) : (encZ n).length = 1 := rfl
theorem encZ_one (n : Nat) : ∀ u ∈ encZ n, u.oneCell' = true := by intro u hu; simp [encZ] at hu; subst hu; rfl
theorem Try.infoIntR : (Try.prog.info? 3).map (fun i => (i.zero, i.size, i.bytes)) = some (some (.int .i64 0), 1, 8) := by kernel_rfl
theorem flatT_one (L : List ByteArray) : ∀ u ∈ L.flatMap encT, u.oneCell' = true := fun u hu => by
  obtain ⟨x, _, h⟩ := List.mem_flatMap.1 hu
  exact encT_one x u h
theorem flatZ_one (L : List Nat) : ∀ u ∈ L.flatMap encZ, u.oneCell' = true := fun u hu => by
  obtain ⟨x, _, h⟩ := List.mem_flatMap.1 hu
  exact encZ_one x u h
theorem own_two {w : World} {b1 b2 e1 e2 k1 k2 n1 n2 : Nat} {v1 v2 : Value} {x1 x2 : List Value} (h1 : w.ownsRow b1 e1 k1 v1 n1 x1) (h2 : w.ownsRow b2 e2 k2 v2 n2 x2) (hne : e1 ≠ e2) : v1.ownBlock = none ∨ v1.ownBlock ≠ v2.ownBlock := by
  obtain ⟨_, ⟨rfl, _⟩ | ⟨g, cap, cur, rfl, _, h3, _⟩⟩ := h1
  · exact .inl rfl
  · refine .inr (fun e => ?_)
    obtain ⟨_, ⟨rfl, _⟩ | ⟨g', cap', cur', rfl, _, h3', _⟩⟩ := h2
    · cases e
    · simp [Value.ownBlock] at e
      subst e
      rw [h3] at h3'
      injection h3' with q; injection q with _ q2 _
      exact hne q2

structure Two (W : World) (vN : Value) (a : Nat) (l1 : List ByteArray) (vR : Value) (b : Nat) (l2 : List Nat) (w : World) : Prop where
  s : w.ownsRow W.heap.size 9 1 vN a (l1.flatMap encT)
  d : w.ownsRow W.heap.size 3 1 vR b (l2.flatMap encZ)
  low : Below W.heap.size W w
theorem Two.new (W : World) : Two W (.slice none 0 0) 0 [] (.slice none 0 0) 0 [] W := ⟨World.ownsRow_nil _ _ _ _, World.ownsRow_nil _ _ _ _, Below.refl _ W⟩
theorem Two.later {W w w' : World} {vN vR : Value} {a b : Nat} {l1 : List ByteArray} {l2 : List Nat} (h : Two W vN a l1 vR b l2 w) (hb : Below w.heap.size w w') : Two W vN a l1 vR b l2 w' :=
  ⟨ownsRow_blk h.s (fun g _ hl => hb.block g hl), ownsRow_blk h.d (fun g _ hl => hb.block g hl), h.low.trans (hb.mono h.low.size)⟩
theorem Two.alloc {W w : World} {vN vR : Value} {a b : Nat} {l1 : List ByteArray} {l2 : List Nat} (h : Two W vN a l1 vR b l2 w) (o : Obj) : Two W vN a l1 vR b l2 (w.alloc o) := h.later ((Below.refl _ w).alloc (Nat.le_refl _) o)

section
variable {W w : World} {o : Oper} {a : Act} {Q : Exit → Act → World → Prop} {vN vR : Value} {n b : Nat} {l1 : List ByteArray} {l2 : List Nat}

/-- an append onto the strings -/
theorem wp_twoS {K : Act → World → Prop} (s x : Operand) (ho : o.op = .call { callee := .builtin .append, args := #[s, x], argTypes := #[28, 28] }) {m c q : Nat} {ad : Addr} {M : List ByteArray} (hs : a.eval s = vN) (T : Two W vN n l1 vR b l2 w) (hx : a.eval x = .slice (some ad) m c) (hm : M.length = m) (hq : n + m = q) (hq5 : q ≤ 100000) (hc : ∀ j u, (M.flatMap encT)[j]? = some u → w.cell? (ad.add j) = some u)
    (hk : ∀ xo xc w', Two W (.slice xo q xc) q (l1 ++ M) vR b l2 w' → K (a.put o.dst (.slice xo q xc)) w') : o.wp Try.prog a w K Q := by
  subst hq
  obtain ⟨i0, hi, hz0, hz1, hz2⟩ := info_parts Try.infoStr
  refine wp_append_own w s x 28 ho W.heap.size 9 i0 (.string (ByteArray.mk #[])) 1 16 Try.underlying28 hi hz0 hz1 hz2 rfl (by decide) _ _ _ hs T.s ad m c (M.flatMap encT) hx (by rw [flat_length encT_len, hm]) hc (flatT_one M) (by unfold maxLen; omega) (by omega) T.low.size ?_
  intro v' w' own gr _
  obtain ⟨xo, xc, rfl⟩ : ∃ xo xc, v' = .slice xo (n + m) xc := by
    rw [← List.flatMap_append] at own
    have h1 := own.1
    rw [flat_length encT_len] at h1
    obtain ⟨xo, xc, e, _⟩ := rowK_of_owns encT_len (by decide) own
    exact ⟨xo, xc, by rw [e, show (l1 ++ M).length = n + m from by omega]⟩
  exact hk _ _ _ ⟨by rw [List.flatMap_append]; exact own, T.d.kept gr (own_two T.d T.s (by decide)), T.low.grown gr T.low.size (fun j hj => (owns_ltK T.s j hj).1)⟩
theorem wp_twoD {K : Act → World → Prop} (s x : Operand) (ho : o.op = .call { callee := .builtin .append, args := #[s, x], argTypes := #[32, 32] }) {m c q : Nat} {ad : Addr} {M : List Nat} (hs : a.eval s = vR) (T : Two W vN n l1 vR b l2 w) (hx : a.eval x = .slice (some ad) m c) (hm : M.length = m) (hq : b + m = q) (hq5 : q ≤ 100000) (hc : ∀ j u, (M.flatMap encZ)[j]? = some u → w.cell? (ad.add j) = some u)
    (hk : ∀ xo xc w', Two W vN n l1 (.slice xo q xc) q (l2 ++ M) w' → K (a.put o.dst (.slice xo q xc)) w') : o.wp Try.prog a w K Q := by
  subst hq
  obtain ⟨i0, hi, hz0, hz1, hz2⟩ := info_parts Try.infoIntR
  refine wp_append_own w s x 32 ho W.heap.size 3 i0 (.int .i64 0) 1 8 Try.underlying32 hi hz0 hz1 hz2 rfl (by decide) _ _ _ hs T.d ad m c (M.flatMap encZ) hx (by rw [flat_length encZ_len, hm]) hc (flatZ_one M) (by unfold maxLen; omega) (by omega) T.low.size ?_
  intro v' w' own gr _
  obtain ⟨xo, xc, rfl⟩ : ∃ xo xc, v' = .slice xo (b + m) xc := by
    rw [← List.flatMap_append] at own
    have h1 := own.1
    rw [flat_length encZ_len] at h1
    obtain ⟨xo, xc, e, _⟩ := rowK_of_owns encZ_len (by decide) own
    exact ⟨xo, xc, by rw [e, show (l2 ++ M).length = b + m from by omega]⟩
  exact hk _ _ _ ⟨T.s.kept gr (own_two T.s T.d (by decide)), by rw [List.flatMap_append]; exact own, T.low.grown gr T.low.size (fun j hj => (owns_ltK T.d j hj).1)⟩
/-- nothing is appended -/
theorem wp_appZ {K : Act → World → Prop} (s x : Operand) (t e : TypeId) (ho : o.op = .call { callee := .builtin .append, args := #[s, x], argTypes := #[t, t] }) (ht : Try.prog.underlying t = some (.slice e)) (hi : ∃ i, Try.prog.info? e = some i) {base k : Nat} {v : Value} {xs : List Value} (hs : a.eval s = v) (hown : w.ownsRow base e k v n xs) (hx : a.eval x = .slice none 0 0) (hk : K (a.put o.dst v) w) : o.wp Try.prog a w K Q := by
  obtain ⟨i, hi⟩ := hi
  have hrun := run_append_owned_none (P := Try.prog) (w := w) base t o.type e i k ht hi v n xs hown
  unfold Oper.wp
  simp [execOp, ho, resolve, invoke, builtin, hs, hx, hrun, Result.andThen]
  exact hk
end
theorem infS : ∃ i, Try.prog.info? 9 = some i := by obtain ⟨i0, hi, _⟩ := info_parts Try.infoStr; exact ⟨i0, hi⟩
theorem infI : ∃ i, Try.prog.info? 3 = some i := by obtain ⟨i0, hi, _⟩ := info_parts Try.infoIntR; exact ⟨i0, hi⟩

/-- a row's parts -/
theorem own_take {α : Type} {enc : α → List Value} (hl : ∀ x, (enc x).length = 1) {w : World} {base e g n cap : Nat} {l : List α} (h : w.ownsRow base e 1 (.slice (some ⟨g, 0, none⟩) n cap) n (l.flatMap enc)) (k : Nat) : ∀ j u, ((l.take k).flatMap enc)[j]? = some u → w.cell? ((⟨g, 0, none⟩ : Addr).add j) = some u := fun j u hu => by
  refine h.cells rfl j u ?_
  rw [← List.take_append_drop k l, List.flatMap_append, List.getElem?_append_left (List.getElem?_eq_some_iff.1 hu).1]
  exact hu
theorem own_drop {α : Type} {enc : α → List Value} (hl : ∀ x, (enc x).length = 1) {w : World} {base e g n cap : Nat} {l : List α} (h : w.ownsRow base e 1 (.slice (some ⟨g, 0, none⟩) n cap) n (l.flatMap enc)) {k : Nat} (hk : k ≤ l.length) : ∀ j u, ((l.drop k).flatMap enc)[j]? = some u → w.cell? ((⟨g, k, none⟩ : Addr).add j) = some u := fun j u hu => by
  have e1 : ((⟨g, k, none⟩ : Addr).add j) = (⟨g, 0, none⟩ : Addr).add (k + j) := by unfold Addr.add; split <;> split <;> simp_all
  rw [e1]
  refine h.cells rfl (k + j) u ?_
  have hl2 : ((l.take k).flatMap enc).length = k := by rw [flat_length hl, List.length_take]; omega
  rw [← List.take_append_drop k l, List.flatMap_append, List.getElem?_append_right (by rw [hl2]; omega), hl2, Nat.add_sub_cancel_left]
  exact hu

end Go.Proofs.Ytgbnhngaeefmkaa
