import Derived.Test.YtgbnhngaeefmkaaRfI
import Derived.Test.YtgbnhngaeefmkaaRfK
import Derived.Test.YtgbnhngaeefmkaaPlR

/-! A flow and the reference's, side by side. -/
namespace Go.Proofs.Ytgbnhngaeefmkaa
set_option linter.unusedVariables false
set_option linter.unusedSimpArgs false
open Go.RowKit

theorem St.capR {W0 w : World} {f k k' : Nat} {F : List En} (h : St W0 f F k w) (hk : F.length ≤ k') : St W0 f F k' w := ⟨⟨h.1.rep, h.1.good, hk, h.1.base⟩, h.2⟩
theorem RefR.low {B B' : Nat} {w : World} {r : Nat} {v : Value} {L : List REn} (h : RefR B w r v L) (hb : B' ≤ B) : RefR B' w r v L := ⟨h.flow, Nat.le_trans hb h.lo, ownsRow_base h.row hb, fun x hx => (h.rds x hx).base hb⟩

/-- blocks of nodes, and of strings, that no call turns -/
def KeepB (w w' : World) : Prop := ∀ (ib : Nat) (cs : Array Value) (t : TypeId), (t = 30 ∨ t = 9) → w.heap[ib]? = some (.cells cs t (0, 0)) → w'.heap[ib]? = some (.cells cs t (0, 0))
theorem KeepB.mv {B : Nat} {w w' : World} (h : Mv B w w') : KeepB w w' := fun ib cs t ht hb => h.block ib (lt_of_blk hb) (fun c => by
  rcases c.2 with ⟨es, c', q⟩ | ⟨cs', fr', q⟩
  · rw [hb] at q; cases q
  · rw [hb] at q; cases q; rcases ht with e | e <;> revert e <;> decide) |>.trans hb
theorem KeepB.rmv {B : Nat} {w w' : World} (h : RMv B w w') : KeepB w w' := fun ib cs t ht hb => h.blk hb (by rcases ht with rfl | rfl <;> decide) (by rcases ht with rfl | rfl <;> decide)
theorem RowO.keepB {base n : Nat} {v : Value} {l : List ByteArray} {w w' : World} (h : RowO base v n l w) (hk : KeepB w w') : RowO base v n l w' := by
  obtain ⟨h1, h2 | ⟨g, cap, cur, h3, h4, h5, h6⟩⟩ := h.row
  · exact ⟨h1, .inl h2⟩
  · exact ⟨h1, .inr ⟨g, cap, cur, h3, h4, hk g _ _ (.inr rfl) h5, h6⟩⟩

structure Bo (W1 : World) (f r : Nat) (F G : List En) (w : World) : Prop where
  st : St W1 f F 60 w
  am : Among nine F
  ref : ∃ v L, RefR W1.heap.size w r v L ∧ L.map (·.e) = G
  goodG : Good G
  amG : Among nine G

section
variable {W1 w : World} {f r : Nat} {F G : List En}
theorem Bo.later {w' : World} (h : Bo W1 f r F G w) (hb : Below w.heap.size w w') : Bo W1 f r F G w' := by
  obtain ⟨v, L, h1, h2⟩ := h.ref
  exact ⟨h.st.later hb, h.am, ⟨v, L, h1.later hb, h2⟩, h.goodG, h.amG⟩
theorem Bo.lenF (h : Bo W1 f r F G w) : F.length ≤ 9 := by have := h.am.len h.st.1.good.srt; simpa [nine] using this
theorem Bo.lenG (h : Bo W1 f r F G w) : G.length ≤ 9 := by have := h.amG.len h.goodG.srt; simpa [nine] using this
theorem Bo.mvF {w' : World} {F' : List En} {k : Nat} (h : Bo W1 f r F G w) (hs : St W1 f F' k w') (ha : Among nine F') (hm : Mv W1.heap.size w w') : Bo W1 f r F' G w' := by
  obtain ⟨v, L, h1, h2⟩ := h.ref
  refine ⟨hs.capR ?_, ha, ⟨v, L, h1.pmv hm, h2⟩, h.goodG, h.amG⟩
  have := ha.len hs.1.good.srt
  simp [nine] at this; omega
theorem Bo.mvG {w' : World} {v' : Value} {L' : List REn} (h : Bo W1 f r F G w) (hr : RefR W1.heap.size w' r v' L') (hg : Good (L'.map (·.e))) (ha : Among nine (L'.map (·.e))) (hm : RMv W1.heap.size w w') : Bo W1 f r F (L'.map (·.e)) w' :=
  ⟨h.st.rmv hm, h.am, ⟨v', L', hr, rfl⟩, hg, ha⟩

theorem Bo.fset (h : Bo W1 f r F G w) {n : ByteArray} (hn : n ∈ nine) (v : ByteArray) :
    Calls Try.prog 13 #[.pointer (some ⟨f, 0, none⟩), .string n, .string v] w fun e w' => e = .returned (.int .i64 (if setOk F n = true then 0 else 200)) ∧ Bo W1 f r (setF F n v) G w' ∧ KeepB w w' :=
  (h.st.set (by omega) n v rfl rfl).mono fun e w' ⟨q1, q2, q3⟩ => ⟨q1, h.mvF q2 (h.am.set hn) q3, KeepB.mv q3⟩
theorem Bo.fput (h : Bo W1 f r F G w) {n : ByteArray} (hn : n ∈ nine) (v : ByteArray) (ao : Option Addr) (ln cap : Nat) (l : List ByteArray) (hln : l.length = ln) (hl : ln ≤ 900) (hrow : RowK 1 encT w ao l) :
    Calls Try.prog 17 #[.pointer (some ⟨f, 0, none⟩), .agg #[.string n, .slice ao ln cap], .string v] w fun e w' => e = .returned (.int .i64 (if putOk F n l = true then 0 else 200)) ∧ Bo W1 f r (putF F n l v) G w' ∧ KeepB w w' :=
  (h.st.put (by omega) n v ao ln cap l hln (by omega) hrow rfl rfl).mono fun e w' ⟨q1, q2, q3⟩ => ⟨q1, h.mvF q2 (h.am.put hn) q3, KeepB.mv q3⟩
theorem Bo.fdrop (h : Bo W1 f r F G w) (n : ByteArray) :
    Calls Try.prog 15 #[.pointer (some ⟨f, 0, none⟩), .string n] w fun e w' => e = .returned (.int .i64 (if dropOk F n = true then 0 else 200)) ∧ Bo W1 f r (dropF F n) G w' ∧ KeepB w w' :=
  (h.st.drop (by omega) n rfl rfl).mono fun e w' ⟨q1, q2, q3⟩ => ⟨q1, h.mvF q2 h.am.drop q3, KeepB.mv q3⟩

theorem Bo.rset (h : Bo W1 f r F G w) {n : ByteArray} (hn : n ∈ nine) (v : ByteArray) :
    Calls Try.prog 14 #[.pointer (some ⟨r, 0, none⟩), .string n, .string v] w fun e w' => e = .returned (.int .i64 (if setOk G n = true then 0 else 200)) ∧ Bo W1 f r F (setF G n v) w' ∧ KeepB w w' := by
  obtain ⟨v0, L, h1, rfl⟩ := h.ref
  have hl := h.lenG
  rw [List.length_map] at hl
  refine (rset_any h1 h.st.2.size h.goodG (by omega) n v).mono ?_
  rintro e w' ⟨q1, v', L', q2, q3, q4⟩
  have := h.mvG q2 (by rw [q3]; exact h.goodG.setF n v) (by rw [q3]; exact h.amG.set hn) q4
  rw [q3] at this
  exact ⟨q1, this, KeepB.rmv q4⟩
theorem Bo.rput (h : Bo W1 f r F G w) {n : ByteArray} (hn : n ∈ nine) (v : ByteArray) (ao : Option Addr) (ln cap : Nat) (l : List ByteArray) (hln : l.length = ln) (hl : ln ≤ 900) (hrow : RowK 1 encT w ao l) :
    Calls Try.prog 18 #[.pointer (some ⟨r, 0, none⟩), .agg #[.string n, .slice ao ln cap], .string v] w fun e w' => e = .returned (.int .i64 (if putOk G n l = true then 0 else 200)) ∧ Bo W1 f r F (putF G n l v) w' ∧ KeepB w w' := by
  obtain ⟨v0, L, h1, rfl⟩ := h.ref
  have hl9 := h.lenG
  rw [List.length_map] at hl9
  refine (rput_any h1 h.st.2.size h.goodG (by omega) n v ao ln cap l hln hl hrow).mono ?_
  rintro e w' ⟨q1, v', L', q2, q3, q4⟩
  have := h.mvG q2 (by rw [q3]; exact h.goodG.putF n l v) (by rw [q3]; exact h.amG.put hn) q4
  rw [q3] at this
  exact ⟨q1, this, KeepB.rmv q4⟩
theorem Bo.rdrop (h : Bo W1 f r F G w) (n : ByteArray) :
    Calls Try.prog 16 #[.pointer (some ⟨r, 0, none⟩), .string n] w fun e w' => e = .returned (.int .i64 (if dropOk G n = true then 0 else 200)) ∧ Bo W1 f r F (dropF G n) w' ∧ KeepB w w' := by
  obtain ⟨v0, L, h1, rfl⟩ := h.ref
  have hl := h.lenG
  rw [List.length_map] at hl
  refine (rdrop_any h1 h.st.2.size h.goodG (by omega) n).mono ?_
  rintro e w' ⟨q1, v', L', q2, q3, q4⟩
  have := h.mvG q2 (by rw [q3]; exact h.goodG.dropF n) (by rw [q3]; exact h.amG.drop) q4
  rw [q3] at this
  exact ⟨q1, this, KeepB.rmv q4⟩

theorem Bo.flen (h : Bo W1 f r F G w) {n : Nat} (hn : F.length = n) : Calls Try.prog 19 #[.pointer (some ⟨f, 0, none⟩)] w fun e w' => e = .returned (.int .i64 n) ∧ w = w' := h.st.flen (by omega) hn
theorem Bo.rlen (h : Bo W1 f r F G w) {n : Nat} (hn : G.length = n) : ∃ ao cap, w.cell? ⟨r, 0, none⟩ = some (.slice ao n cap) := by
  obtain ⟨v0, L, h1, rfl⟩ := h.ref
  obtain ⟨ao, cap, rfl, _⟩ := h1.sl
  rw [List.length_map] at hn
  subst hn
  exact ⟨ao, cap, h1.vcell⟩
theorem Bo.fstale (h : Bo W1 f r F G w) {l : List ByteArray} {m : Nat} (hl : staleF F = l) (hm : l.length = m) : Calls Try.prog 21 #[.pointer (some ⟨f, 0, none⟩)] w fun e w' => ∃ ao cap, e = .returned (.slice ao m cap) ∧ RowK 1 encT w' ao l ∧ Bo W1 f r F G w' ∧ Below w.heap.size w w' :=
  (h.st.stale (by omega) (Nat.le_trans (List.length_filter_le _ _) (by have := h.lenF; omega)) hl hm).mono fun e w' ⟨ao, cap, q1, _, q2, _, q3⟩ => ⟨ao, cap, q1, q2, h.later q3, q3⟩
theorem Bo.rstale (h : Bo W1 f r F G w) {l : List ByteArray} {m : Nat} (hl : staleF G = l) (hm : l.length = m) : Calls Try.prog 22 #[.pointer (some ⟨r, 0, none⟩)] w fun e w' => ∃ ao cap, e = .returned (.slice ao m cap) ∧ RowK 1 encT w' ao l ∧ Bo W1 f r F G w' ∧ Below w.heap.size w w' := by
  obtain ⟨v0, L, h1, rfl⟩ := h.ref
  have hl9 := h.lenG
  rw [List.length_map] at hl9
  subst hl
  refine (rstale_any h1 h.goodG (by omega) hm).mono ?_
  rintro e w' ⟨xo, xc, rfl, q2, q3⟩
  obtain ⟨xo', xc', e', _, q4⟩ := q2.sl
  cases e'
  exact ⟨xo, xc, rfl, q4, h.later q3, q3⟩
theorem Bo.fvalue (h : Bo W1 f r F G w) (n : ByteArray) {v : ByteArray} {ok : Bool} (hv : valF F n = (v, ok)) : Calls Try.prog 23 #[.pointer (some ⟨f, 0, none⟩), .string n] w fun e w' => e = .returned (.tuple #[.string v, .bool ok]) ∧ w = w' := h.st.value n hv
theorem Bo.rvalue (h : Bo W1 f r F G w) (n : ByteArray) {v : ByteArray} {ok : Bool} (hv : valF G n = (v, ok)) : Calls Try.prog 25 #[.pointer (some ⟨r, 0, none⟩), .string n] w fun e w' => e = .returned (.tuple #[.string v, .bool ok]) ∧ w = w' := by
  obtain ⟨v0, L, h1, rfl⟩ := h.ref
  have hl9 := h.lenG
  rw [List.length_map] at hl9
  exact rvalue_any h1 h.goodG.srt (by omega) n hv
theorem Bo.freads (h : Bo W1 f r F G w) (n : ByteArray) {l : List ByteArray} {m : Nat} (hl : readsF F n = l) (hm : l.length = m) : Calls Try.prog 26 #[.pointer (some ⟨f, 0, none⟩), .string n] w fun e w' => ∃ ao cap, e = .returned (.slice ao m cap) ∧ RowK 1 encT w' ao l ∧ Bo W1 f r F G w' ∧ Below w.heap.size w w' :=
  (h.st.reads (by omega) n hl hm).mono fun e w' ⟨ao, cap, q1, q2, _, q3⟩ => ⟨ao, cap, q1, q2, h.later q3, q3⟩
theorem Bo.rreads (h : Bo W1 f r F G w) (n : ByteArray) {l : List ByteArray} {m : Nat} (hl : readsF G n = l) (hm : l.length = m) : Calls Try.prog 27 #[.pointer (some ⟨r, 0, none⟩), .string n] w fun e w' => ∃ ao cap, e = .returned (.slice ao m cap) ∧ RowK 1 encT w ao l ∧ w = w' := by
  obtain ⟨v0, L, h1, rfl⟩ := h.ref
  have hl9 := h.lenG
  rw [List.length_map] at hl9
  refine (rreads_any h1 h.goodG.srt (by omega) n hl hm).mono ?_
  rintro e w' ⟨ao, cap, q1, q2, q3⟩
  exact ⟨ao, cap, q1, q2, q3⟩
end

theorem same_rows {w : World} {a b : Option Addr} {m ca cb : Nat} {l : List ByteArray} (hl : l.length = m) (hm : m ≤ 1000) (ha : RowK 1 encT w a l) (hb : RowK 1 encT w b l) : Calls Try.prog 20 #[.slice a m ca, .slice b m cb] w fun e w' => e = .returned (.bool true) ∧ Below w.heap.size w w' := by
  refine (same_any a b ca cb m m l l w hl hl (by omega) ha hb).mono ?_
  rintro e w' ⟨rfl, h2⟩
  exact ⟨by unfold sameB; simp, h2⟩

/-- a round of the law: the node, and what it reads -/
structure Rd (W1 : World) (f r : Nat) (F G : List En) (nb : Nat) (nn : ByteArray) (ao : Option Addr) (q cap : Nat) (rd : List ByteArray) (base : Nat) (w : World) : Prop where
  bo : Bo W1 f r F G w
  nod : w.heap[nb]? = some (.cells #[.string nn, .slice ao q cap] 30 (0, 0))
  row : RowO base (.slice ao q cap) q rd w
section
variable {W1 w : World} {f r nb q cap base : Nat} {F G : List En} {nn : ByteArray} {ao : Option Addr} {rd : List ByteArray}
theorem Rd.later {w' : World} (h : Rd W1 f r F G nb nn ao q cap rd base w) (hb : Below w.heap.size w w') : Rd W1 f r F G nb nn ao q cap rd base w' := ⟨h.bo.later hb, (hb.block nb (lt_of_blk h.nod)).trans h.nod, h.row.later hb⟩
theorem Rd.keep {w' : World} {F' G' : List En} (h : Rd W1 f r F G nb nn ao q cap rd base w) (hb : Bo W1 f r F' G' w') (hk : KeepB w w') : Rd W1 f r F' G' nb nn ao q cap rd base w' := ⟨hb, hk nb _ _ (.inl rfl) h.nod, h.row.keepB hk⟩
theorem Rd.cells (h : Rd W1 f r F G nb nn ao q cap rd base w) : w.cell? ⟨nb, 0, none⟩ = some (.string nn) ∧ w.cell? ⟨nb, 1, none⟩ = some (.slice ao q cap) := ⟨cell_blk h.nod rfl, cell_blk h.nod rfl⟩
theorem Rd.rowK (h : Rd W1 f r F G nb nn ao q cap rd base w) : rd.length = q ∧ RowK 1 encT w ao rd := by
  obtain ⟨ao', cap', e, h1, h2⟩ := h.row.sl
  cases e
  exact ⟨h1, h2⟩
def RdE (W1 : World) (f r : Nat) (F G : List En) (nb : Nat) (nn : ByteArray) (ao : Option Addr) (q cap : Nat) (rd : List ByteArray) (base : Nat) (c : Int) (e : Ending) (w' : World) : Prop := e = .returned (.int .i64 c) ∧ Rd W1 f r F G nb nn ao q cap rd base w'
theorem Rd.fset (h : Rd W1 f r F G nb nn ao q cap rd base w) (hn : nn ∈ nine) (v : ByteArray) :
    Calls Try.prog 13 #[.pointer (some ⟨f, 0, none⟩), .string nn, .string v] w (RdE W1 f r (setF F nn v) G nb nn ao q cap rd base (if setOk F nn = true then 0 else 200)) :=
  (h.bo.fset hn v).mono fun e w' ⟨q1, q2, q3⟩ => ⟨q1, h.keep q2 q3⟩
theorem Rd.rset (h : Rd W1 f r F G nb nn ao q cap rd base w) (hn : nn ∈ nine) (v : ByteArray) :
    Calls Try.prog 14 #[.pointer (some ⟨r, 0, none⟩), .string nn, .string v] w (RdE W1 f r F (setF G nn v) nb nn ao q cap rd base (if setOk G nn = true then 0 else 200)) :=
  (h.bo.rset hn v).mono fun e w' ⟨q1, q2, q3⟩ => ⟨q1, h.keep q2 q3⟩
theorem Rd.fput (h : Rd W1 f r F G nb nn ao q cap rd base w) (hn : nn ∈ nine) (hq : q ≤ 900) (v : ByteArray) :
    Calls Try.prog 17 #[.pointer (some ⟨f, 0, none⟩), .agg #[.string nn, .slice ao q cap], .string v] w (RdE W1 f r (putF F nn rd v) G nb nn ao q cap rd base (if putOk F nn rd = true then 0 else 200)) :=
  (h.bo.fput hn v ao q cap rd h.rowK.1 hq h.rowK.2).mono fun e w' ⟨q1, q2, q3⟩ => ⟨q1, h.keep q2 q3⟩
theorem Rd.rput (h : Rd W1 f r F G nb nn ao q cap rd base w) (hn : nn ∈ nine) (hq : q ≤ 900) (v : ByteArray) :
    Calls Try.prog 18 #[.pointer (some ⟨r, 0, none⟩), .agg #[.string nn, .slice ao q cap], .string v] w (RdE W1 f r F (putF G nn rd v) nb nn ao q cap rd base (if putOk G nn rd = true then 0 else 200)) :=
  (h.bo.rput hn v ao q cap rd h.rowK.1 hq h.rowK.2).mono fun e w' ⟨q1, q2, q3⟩ => ⟨q1, h.keep q2 q3⟩
theorem Rd.fdrop (h : Rd W1 f r F G nb nn ao q cap rd base w) :
    Calls Try.prog 15 #[.pointer (some ⟨f, 0, none⟩), .string nn] w (RdE W1 f r (dropF F nn) G nb nn ao q cap rd base (if dropOk F nn = true then 0 else 200)) :=
  (h.bo.fdrop nn).mono fun e w' ⟨q1, q2, q3⟩ => ⟨q1, h.keep q2 q3⟩
theorem Rd.rdrop (h : Rd W1 f r F G nb nn ao q cap rd base w) :
    Calls Try.prog 16 #[.pointer (some ⟨r, 0, none⟩), .string nn] w (RdE W1 f r F (dropF G nn) nb nn ao q cap rd base (if dropOk G nn = true then 0 else 200)) :=
  (h.bo.rdrop nn).mono fun e w' ⟨q1, q2, q3⟩ => ⟨q1, h.keep q2 q3⟩
end

end Go.Proofs.Ytgbnhngaeefmkaa

/-! DataflowMatchesReference: the walk. -/
namespace Go.Proofs.Ytgbnhngaeefmkaa
set_option linter.unusedVariables false
set_option linter.unusedSimpArgs false
open Go.RowKit

set_option maxRecDepth 100000 in
theorem conv_atR (w : World) (k n : Nat) (hn : n < 256) (hc : w.cell? ⟨k, 0, none⟩ = some (.int .u8 (n : Int))) :
    (convert 36 9 (.slice (some ⟨k, 0, none⟩) 1 1)).run Try.prog w = .ok (.string (chr n)) w := by
  have hu : (UInt8.ofNat n).toNat = n := by simp; omega
  exact run_convert_bytes_back (P := Try.prog) w 36 9 5 ⟨k, 0, none⟩ 1 [UInt8.ofNat n] (by rfl) (by rfl) (by rfl) (fun j hj => by
    match j, hj with
    | 0, _ => exact hc.trans (by simp [hu]))


namespace dataflowMatchesReference

set_option maxRecDepth 100000 in
set_option maxHeartbeats 8000000 in
theorem walk (a0 : Option Addr) (len0 cap0 : Nat) (l : List StepV) (W : World) (hl : l.length = len0) (hbig : len0 ≤ 9223372036854775807) (hrow : RowK 4 encStep W a0 l) (hok : ∀ s ∈ l, StepOk W s) :
    Calls Try.prog 3 #[.slice a0 len0 cap0] W fun e w' => e = .returned (.bool true) ∧ Below W.heap.size W w' := by
  have HL := Lib.hid hl
  have HR := Lib.hid hrow
  have HOK := Lib.hid hok
  clear hl hrow hok
  go_enter Try.func3, Try.ntmps3
  go_upto_block 0 with (first
    | (go_at_call 8; refine (sane_any _).mono ?_; rintro e w1 ⟨rfl, hb1⟩; have B1 := Lib.hid hb1; clear hb1)
    | (go_at_call 9; refine (st_new _).mono ?_; rintro e w2 ⟨f, rfl, hs⟩; have S2 := Lib.hid hs; clear hs)
    | (go_at_call 10; refine (rnew _).mono ?_; rintro e w3 ⟨r, rfl, hr3, hb3⟩; have BO3 := Lib.hid (show Bo w1 f r [] [] w3 from ⟨(S2.out.later hb3).capR (by simp), Among.nil _, ⟨_, [], hr3.low S2.out.2.size, rfl⟩, good_nil, Among.nil _⟩); clear hr3 hb3))
  go_wp2_with fail
  go_loopw [6] (fun i wr => ∃ (k : Nat) (F : List En), k ≤ len0 ∧ k ≤ 60 ∧ i = .int .i64 (k : Int) ∧ Bo w1 f r F F wr) (fun i _ => 60 - (intOf i).toNat)
  case atStart => exact ⟨0, [], Nat.zero_le _, by omega, rfl, BO3.out⟩
  case round =>
    obtain ⟨k, F, hk, hk60, rfl, hbo⟩ := hrel
    have BK := Lib.hid hbo
    clear hbo
    have hbw : Below W.heap.size W wr := B1.out.trans (BK.out.st.2.mono B1.out.size)
    have k0 : (0 : Int) ≤ (k : Int) := by omega
    by_cases hlt : k < len0 ∧ k < 60
    · obtain ⟨hlt, h60⟩ := hlt
      have hkl : k < l.length := by rw [HL.out]; exact hlt
      have hso := HOK.out l[k] (List.getElem_mem hkl)
      obtain ⟨b0, off, rfl, hlb, hce⟩ := HR.out k l[k] (List.getElem?_eq_getElem hkl)
      have c0 : wr.cell? ⟨b0, off + k * 4, none⟩ = some (.int .i64 l[k].call) := (hbw.cell (p := ⟨b0, off + k * 4 + 0, none⟩) hlb).trans (hce 0 _ rfl)
      have c1 := (hbw.cell (p := ⟨b0, off + k * 4 + 1, none⟩) hlb).trans (hce 1 _ rfl)
      have c2 := (hbw.cell (p := ⟨b0, off + k * 4 + 2, none⟩) hlb).trans (hce 2 _ rfl)
      have c3 := (hbw.cell (p := ⟨b0, off + k * 4 + 3, none⟩) hlb).trans (hce 3 _ rfl)
      have hso2 := hso.later hbw
      have OFC := Lib.hid (stepOf_any l[k].call l[k].name l[k].val l[k].ao l[k].ln l[k].cap l[k].zs wr hso2.len hso2.big hso2.n.1 hso2.n.2 hso2.z hso2.row)
      have hrl := rdsZ_len l[k].zs
      obtain ⟨p5, hp5, hpe5⟩ := pickZ_nat l[k].call 5 (by omega)
      obtain ⟨p4, hp4, hpe4⟩ := pickZ_nat l[k].val 4 (by omega)
      rw [show ((5 : Nat) : Int) = 5 from rfl] at hpe5
      rw [show ((4 : Nat) : Int) = 4 from rfl] at hpe4
      have PK5 := Lib.hid (show ∀ w, Calls Try.prog 12 #[.int .i64 l[k].call, .int .i64 5] w fun e w' => e = .returned (.int .i64 p5) ∧ w = w' from fun w => (pick_any l[k].call 5 w hso2.c.1 hso2.c.2 (by omega) (by omega)).mono fun e w' ⟨q1, q2⟩ => ⟨by rw [q1, hpe5], q2⟩)
      have PK4 := Lib.hid (show ∀ w, Calls Try.prog 12 #[.int .i64 l[k].val, .int .i64 4] w fun e w' => e = .returned (.int .i64 p4) ∧ w = w' from fun w => (pick_any l[k].val 4 w hso2.v.1 hso2.v.2 (by omega) (by omega)).mono fun e w' ⟨q1, q2⟩ => ⟨by rw [q1, hpe4], q2⟩)
      have hnm := nmZ_mem l[k].name
      obtain ⟨rd, hrd⟩ : ∃ rd, rdsZ l[k].zs = rd := ⟨_, rfl⟩
      rw [hrd] at OFC hrl
      obtain ⟨nn, hnn⟩ : ∃ nn, nmZ l[k].name = nn := ⟨_, rfl⟩
      rw [hnn] at OFC hnm
      obtain ⟨q, hq⟩ : ∃ q, rd.length = q := ⟨_, rfl⟩
      rw [hq] at OFC hrl
      have HQ := Lib.hid hq
      have HNM := Lib.hid hnm
      clear hso hso2 hce hpe5 hpe4 hrd hnn hq
      obtain ⟨s, hs⟩ : ∃ s, l[k] = s := ⟨_, rfl⟩
      rw [hs] at c0 c1 c2 c3 OFC PK5 PK4
      clear hs hkl
      obtain ⟨sc, sn, sv, sa, sl, sp, sz⟩ := s
      dsimp only at c0 c1 c2 c3 OFC PK5 PK4
      have k1 : (k : Int) < (len0 : Int) := by omega
      have k60 : (k : Int) < 60 := by omega
      have KC0 := Lib.hid (show ∀ w3, Below wr.heap.size wr w3 → w3.cell? ⟨b0, off + k * 4, none⟩ = some (.int .i64 sc) from fun w3 hb => by rw [hb.cell (p := ⟨b0, off + k * 4, none⟩) (World.block_lt_of_cell? _ _ c0)]; exact c0)
      have KC2 := Lib.hid (show ∀ w3, Below wr.heap.size wr w3 → w3.cell? ⟨b0, off + k * 4 + 2, none⟩ = some (.int .i64 sv) from fun w3 hb => by rw [hb.cell (p := ⟨b0, off + k * 4 + 2, none⟩) (World.block_lt_of_cell? _ _ c2)]; exact c2)
      go_upto_region 8 with (first
        | (go_at_call 11; refine OFC.out.mono ?_; rintro e w4 ⟨v4, rfl, hown, hb4⟩; obtain ⟨ao, cap, rfl, _, _⟩ := row_of hown; have OW := Lib.hid (show RowO wr.heap.size (.slice ao q cap) q rd w4 from ⟨hown⟩); have BO4 := Lib.hid hb4; clear hown hb4))
      have NB0 := World.alloc_heap_new w4 (.cells #[.string nn, .slice ao q cap] 30)
      have LB5 := (Below.refl w4.heap.size w4).alloc (Nat.le_refl _) (.cells #[.string nn, .slice ao q cap] 30)
      obtain ⟨nb, hnb⟩ : ∃ nb, w4.heap.size = nb := ⟨_, rfl⟩
      obtain ⟨w5, hw5⟩ : ∃ w5, w4.alloc (.cells #[.string nn, .slice ao q cap] 30) = w5 := ⟨_, rfl⟩
      rw [hw5] at NB0 LB5 ⊢
      have RD5 := Lib.hid (show Rd w1 f r F F nb nn ao q cap rd wr.heap.size w5 from ⟨(BK.out.later BO4.out).later LB5, by rw [← hnb]; exact NB0, OW.out.later LB5⟩)
      have B5 := Lib.hid (BO4.out.trans (LB5.mono BO4.out.size))
      rw [hnb]
      clear NB0 LB5 hnb hw5 OW BO4
      have c25 := KC2.out w5 B5.out
      obtain ⟨vs, hvs⟩ : ∃ vs, dig p4 = vs := ⟨_, rfl⟩
      have cv := conv_atR (w5.alloc (.cells #[.int .u8 (48 + (p4 : Int))] 5)) w5.heap.size (48 + p4) (by omega) (cell_blk (World.alloc_heap_new w5 _) (by rw [show ((48 + p4 : Nat) : Int) = 48 + (p4 : Int) from by omega]; rfl))
      rw [show chr (48 + p4) = vs from hvs] at cv
      have LB6 := (Below.refl w5.heap.size w5).alloc (Nat.le_refl _) (.cells #[.int .u8 (48 + (p4 : Int))] 5)
      have RD6 := Lib.hid (RD5.out.later LB6)
      have c06 := KC0.out _ (B5.out.trans (LB6.mono B5.out.size))
      clear LB6 hvs
      have hw1 : IntKind.wrap .i64 (48 + (p4 : Int)) = 48 + (p4 : Int) := by rw [IntKind.wrap_i64]; omega
      have hw2 : IntKind.wrap .u8 (48 + (p4 : Int)) = 48 + (p4 : Int) := by rw [IntKind.wrap_u8]; omega
      go_upto_block 2 with (first
        | (go_at_call 12; (first | (with_reducible refine (PK4.out _).mono ?_) | (with_reducible refine (PK5.out _).mono ?_)); rintro e w' ⟨rfl, rfl⟩))
      obtain ⟨w6, hw6⟩ : ∃ w6, w5.alloc (.cells #[.int .u8 (48 + (p4 : Int))] 5) = w6 := ⟨_, rfl⟩
      rw [hw6] at RD6 ⊢
      clear hw6 cv c06 c25 hw1 hw2
      have RDD := Lib.hid (RD6.out.later ((Below.refl _ w6).drew))
      obtain ⟨cx0, cx1⟩ := RD6.out.cells
      obtain ⟨cd0, cd1⟩ := RDD.out.cells
      go_cut [9] (fun t wx => t = .bool true ∧ ∃ F', Bo w1 f r F' F' wx)
      case first =>
        by_cases hp0 : p5 = 0
        case' pos =>
          subst hp0
          have d0 : (((0 : Nat) : Int) == 0) = true := by decide
          have FS := Lib.hid (RDD.out.fset HNM.out vs)
          obtain ⟨c, hc⟩ : ∃ c : Int, (if setOk F nn = true then 0 else 200) = c := ⟨_, rfl⟩
          obtain ⟨F', hF⟩ : ∃ F', setF F nn vs = F' := ⟨_, rfl⟩
          rw [hc, hF] at FS
          have HC := Lib.hid hc
          have HF := Lib.hid hF
          clear hc hF
          go_upto_region 13 with (fail)
          go_region_law (first
            | (go_simp; go_at_call 13; (with_reducible refine FS.out.mono ?_); rintro e w8 ⟨rfl, hr8⟩; have RS := Lib.hid (hr8.rset HNM.out vs); rw [HC.out, HF.out] at RS; obtain ⟨ce0, ce1⟩ := hr8.cells; clear hr8)
            | (go_simp; go_at_call 14; (with_reducible refine RS.out.mono ?_); rintro e w9 ⟨rfl, hr9⟩; have BF := Lib.hid hr9.bo; clear hr9))
        case' neg =>
          have d0 : ((p5 : Int) == 0) = false := beq_eq_false_iff_ne.2 (by omega)
          have d1 : ¬ (p5 : Int) = 0 := by omega
          by_cases hp4 : p5 = 4
          case' pos =>
            subst hp4
            have d4 : (((4 : Nat) : Int) == 4) = true := by decide
            have FS := Lib.hid (RDD.out.fdrop)
            obtain ⟨c, hc⟩ : ∃ c : Int, (if dropOk F nn = true then 0 else 200) = c := ⟨_, rfl⟩
            obtain ⟨F', hF⟩ : ∃ F', dropF F nn = F' := ⟨_, rfl⟩
            rw [hc, hF] at FS
            have HC := Lib.hid hc
            have HF := Lib.hid hF
            clear hc hF
            go_upto_region 15 with (fail)
            go_region_law (first
              | (go_simp; go_at_call 15; (with_reducible refine FS.out.mono ?_); rintro e w8 ⟨rfl, hr8⟩; have RS := Lib.hid (hr8.rdrop); rw [HC.out, HF.out] at RS; obtain ⟨ce0, ce1⟩ := hr8.cells; clear hr8)
              | (go_simp; go_at_call 16; (with_reducible refine RS.out.mono ?_); rintro e w9 ⟨rfl, hr9⟩; have BF := Lib.hid hr9.bo; clear hr9))
          case' neg =>
            have d4 : ((p5 : Int) == 4) = false := beq_eq_false_iff_ne.2 (by omega)
            have d5 : ¬ (p5 : Int) = 4 := by omega
            have FS := Lib.hid (RDD.out.fput HNM.out (by omega) vs)
            obtain ⟨c, hc⟩ : ∃ c : Int, (if putOk F nn rd = true then 0 else 200) = c := ⟨_, rfl⟩
            obtain ⟨F', hF⟩ : ∃ F', putF F nn rd vs = F' := ⟨_, rfl⟩
            rw [hc, hF] at FS
            have HC := Lib.hid hc
            have HF := Lib.hid hF
            clear hc hF
            go_upto_region 11 with (fail)
            go_region_law (first
              | (go_simp; go_at_call 17; (with_reducible refine FS.out.mono ?_); rintro e w8 ⟨rfl, hr8⟩; have RS := Lib.hid (hr8.rput HNM.out (by omega) vs); rw [HC.out, HF.out] at RS; obtain ⟨ce0, ce1⟩ := hr8.cells; clear hr8)
              | (go_simp; go_at_call 18; (with_reducible refine RS.out.mono ?_); rintro e w9 ⟨rfl, hr9⟩; have BF := Lib.hid hr9.bo; clear hr9))
        all_goals
          go_wp2_with fail
          go_meet
          first
            | exact ⟨rfl, _, BF.out⟩
            | exact ⟨rfl, _, BF.out.later ((Below.refl _ _).drew)⟩
            | trace_state
      case rest =>
        obtain ⟨rfl, F', hbf⟩ := hcut
        have BF := Lib.hid hbf
        clear hbf
        obtain ⟨w7, rfl⟩ : ∃ w7 : World, w7 = wc := ⟨_, rfl⟩
        have BD := Lib.hid (BF.out.later ((Below.refl _ w7).drew))
        obtain ⟨nF, hnF⟩ : ∃ nF, F'.length = nF := ⟨_, rfl⟩
        have hn9 : nF ≤ 9 := by rw [← hnF]; exact BF.out.lenF
        have LEN := Lib.hid (BD.out.flen hnF)
        obtain ⟨ro, rc, cr7⟩ := BF.out.rlen hnF
        have cr8 : w7.drew.cell? ⟨r, 0, none⟩ = some (.slice ro nF rc) := cr7
        obtain ⟨ls, hls⟩ : ∃ ls, staleF F' = ls := ⟨_, rfl⟩
        obtain ⟨ms, hms⟩ : ∃ ms, ls.length = ms := ⟨_, rfl⟩
        have hms9 : ms ≤ 9 := by
          rw [← hms, ← hls, (staleF_perm F').length_eq, List.length_map]
          exact Nat.le_trans (List.length_filter_le _ _) (by rw [hnF]; exact hn9)
        have HLS := Lib.hid hls
        have HMS := Lib.hid hms
        have STL := Lib.hid (BD.out.fstale hls hms)
        have qn : ((nF : Int) != (nF : Int)) = false := by simp
        clear hls hms
        go_upto_region 16 with (fail)
        have HNF := Lib.hid hnF
        clear LEN STL hnF
        go_region_held3 (fun w' => w'.cell? ⟨r, 0, none⟩ = some (.slice ro nF rc) ∧ Bo w1 f r F' F' w')
          (first | (exact ⟨cr8, BD.out⟩) | (exact ⟨c8, hb1⟩) | (exact ⟨c9, hb2⟩) | (exact ⟨cA, hbA⟩) | (go_split_ands; exact ⟨by assumption, by assumption⟩))
          (first
            | (go_at_call 19; refine (Bo.flen (W1 := w1) (f := f) (r := r) (F := F') (G := F') BD.out HNF.out).mono ?_; rintro e w' ⟨rfl, rfl⟩)
            | (go_at_call 21; refine (Bo.fstale (W1 := w1) (f := f) (r := r) (F := F') (G := F') BD.out HLS.out HMS.out).mono ?_; rintro e w8 ⟨so1, sc1, rfl, hr1, hb1, hbl1⟩; have c8 := (hbl1.cell (p := ⟨r, 0, none⟩) (World.block_lt_of_cell? _ _ cr8)).trans cr8)
            | (go_at_call 22; refine (Bo.rstale (W1 := w1) (f := f) (r := r) (F := F') (G := F') hb1 HLS.out HMS.out).mono ?_; rintro e w9 ⟨so2, sc2, rfl, hr2, hb2, hbl2⟩; have c9 := (hbl2.cell (p := ⟨r, 0, none⟩) (World.block_lt_of_cell? _ _ c8)).trans c8)
            | (go_at_call 20; refine (same_rows (ca := sc1) (cb := sc2) HMS.out (by omega) (hr1.later hbl2) hr2).mono ?_; rintro e wA ⟨rfl, hblA⟩; have hbA := hb2.later hblA; have cA := (hblA.cell (p := ⟨r, 0, none⟩) (World.block_lt_of_cell? _ _ c9)).trans c9))
        have BA := Lib.hid hbA
        clear hr1 hb1 hbl1 hr2 hb2 hbl2 hblA hbA c8 c9 cA cr7 cr8 BD BF
        go_wp2_with fail
        go_loopw [10] (fun j wx => ∃ q : Nat, q ≤ 9 ∧ j = .int .i64 (q : Int) ∧ Bo w1 f r F' F' wx) (fun j _ => 9 - (intOf j).toNat)
        case atStart => exact ⟨0, by omega, rfl, BA.out⟩
        case round =>
          obtain ⟨q2, hq2, rfl, hbx⟩ := hrel
          obtain ⟨wx, rfl⟩ : ∃ wx : World, wx = wr := ⟨_, rfl⟩
          have BX := Lib.hid hbx
          clear hbx
          have q20 : (0 : Int) ≤ (q2 : Int) := by omega
          by_cases hq9 : q2 < 9
          · have q21 : (q2 : Int) < 9 := by omega
            have NMS := Lib.hid (show ∀ w, Bo w1 f r F' F' w → Calls Try.prog 24 #[] w fun e w' => ∃ b, e = .returned (.slice (some ⟨b, 0, none⟩) 9 9) ∧ w'.cell? ⟨b, q2, none⟩ = some (.string (nameAt q2)) ∧ Bo w1 f r F' F' w' ∧ Below w.heap.size w w' from fun w hb => (names_any w).mono fun e w' ⟨h1, h2⟩ => ⟨w.heap.size, h1, by rw [h2]; exact names_cell w hq9, by rw [h2]; exact hb.later ((Below.refl _ w).alloc (Nat.le_refl _) _), by rw [h2]; exact (Below.refl _ w).alloc (Nat.le_refl _) _⟩)
            obtain ⟨nq, hnq⟩ : ∃ nq, nameAt q2 = nq := ⟨_, rfl⟩
            rw [hnq] at NMS
            clear hnq
            obtain ⟨v, hv⟩ : ∃ v, (valF F' nq).1 = v := ⟨_, rfl⟩
            obtain ⟨ok, hokv⟩ : ∃ ok, (valF F' nq).2 = ok := ⟨_, rfl⟩
            have HV := Lib.hid (show valF F' nq = (v, ok) from by rw [← hv, ← hokv])
            obtain ⟨rl, hrl2⟩ : ∃ rl, readsF F' nq = rl := ⟨_, rfl⟩
            obtain ⟨mr, hmr⟩ : ∃ mr, rl.length = mr := ⟨_, rfl⟩
            have hmr9 : mr ≤ 900 := by
              rw [← hmr, ← hrl2]
              unfold readsF
              rcases he : atF F' nq with _ | e
              · simp
              · have h1 := BX.out.goodG.rlen e (atF_some he).1
                have h2 := BX.out.lenF
                show e.rds.length ≤ 900
                omega
            have HRL := Lib.hid hrl2
            have HMR := Lib.hid hmr
            have qv : (v.toList == v.toList) = true := by simp
            clear hv hokv hrl2 hmr
            rcases ok with _ | _
            all_goals
              go_wp2_with (first
                | (go_at_call 24; (with_reducible refine (NMS.out wx BX.out).mono ?_); rintro e wa ⟨ba, rfl, ca, hba, hla⟩; have Ba := Lib.hid hba; clear hba hla)
                | (go_at_call 24; (with_reducible refine (NMS.out wa Ba.out).mono ?_); rintro e wb ⟨bb, rfl, cb, hbb, hlb⟩; have Bb := Lib.hid hbb; clear hbb hlb)
                | (go_at_call 24; (with_reducible refine (NMS.out wb Bb.out).mono ?_); rintro e wc ⟨bc, rfl, cc, hbc, hlc⟩; have Bc := Lib.hid hbc; clear hbc hlc)
                | (go_at_call 24; (with_reducible refine (NMS.out wd Bd.out).mono ?_); rintro e we ⟨be, rfl, ce, hbe, hle⟩; have Be := Lib.hid hbe; have RWe := Lib.hid (RWd.out.later hle); clear hbe hle)
                | (go_at_call 23; (with_reducible refine (Ba.out.fvalue nq HV.out).mono ?_); rintro e w' ⟨rfl, rfl⟩)
                | (go_at_call 25; (with_reducible refine (Bb.out.rvalue nq HV.out).mono ?_); rintro e w' ⟨rfl, rfl⟩)
                | (go_at_call 26; (with_reducible refine (Bc.out.freads nq HRL.out HMR.out).mono ?_); rintro e wd ⟨ro1, rc1, rfl, hrw1, hbd, _⟩; have Bd := Lib.hid hbd; have RWd := Lib.hid hrw1; clear hbd hrw1)
                | (go_at_call 27; (with_reducible refine (Be.out.rreads nq HRL.out HMR.out).mono ?_); rintro e w' ⟨ro2, rc2, rfl, hrw2, rfl⟩; have SM := Lib.hid (same_rows (ca := rc1) (cb := rc2) HMR.out (by omega) RWe.out hrw2); clear hrw2)
                | (go_at_call 20; (with_reducible refine SM.out.mono ?_); rintro e wf ⟨rfl, hbf⟩; have Bf := Lib.hid (Be.out.later hbf); clear hbf))
              go_roundw
              case rel => exact ⟨q2 + 1, by omega, by go_num, Bf.out⟩
              case measure => simp [intOf]; omega
          · have q21 : ¬ (q2 : Int) < 9 := by omega
            go_wp2
            go_roundw
            case rel => exact ⟨k + 1, F', by omega, by omega, by go_num, BX.out⟩
            case measure => simp [intOf]; omega
    · by_cases h1 : k < len0
      · have k60 : ¬ (k : Int) < 60 := by omega
        have k1 : (k : Int) < (len0 : Int) := by omega
        go_wp2
        go_ret
        exact ⟨rfl, hbw⟩
      · have k1 : ¬ (k : Int) < (len0 : Int) := by omega
        go_wp2
        go_ret
        exact ⟨rfl, hbw⟩

end dataflowMatchesReference
end Go.Proofs.Ytgbnhngaeefmkaa
