/-
  counting and its iterator: the usages that count, with their weights.
-/
import Derived.Test.YtbkmcncakpmgkaaKA
import Derived.Test.YtbkmcncakpmgkaaRange
namespace Go.Proofs.Ytbkmcncakpmgkaa
set_option linter.unusedVariables false
open Go.ChangeShapes Go.WideShapes Go.ChangeAt Go.RowKit Go.Shelf

attribute [local go_sem] Oper.semAt_some

def encC (u : Us) : Array Value := #[.agg #[.int .i64 u.acc, .int .i64 u.rcd, .int .i64 u.val, .int .i64 u.held], .int .i64 (u.val + u.held)]
def cntL (l : List Us) : List Us := l.filter countsB

theorem cnt_yes {l : List Us} {k : Nat} (h : k < l.length) (hc : countsB l[k] = true) : cntL (l.take (k + 1)) = cntL (l.take k) ++ [l[k]] ∧ cntL l = cntL (l.take k) ++ l[k] :: cntL (l.drop (k + 1)) := by
  unfold cntL
  constructor
  · rw [List.take_succ_eq_append_getElem h, List.filter_append]; simp [hc]
  · conv => lhs; rw [← List.take_append_drop k l, List.drop_eq_getElem_cons h, List.filter_append, List.filter_cons_of_pos hc]
theorem cnt_no {l : List Us} {k : Nat} (h : k < l.length) (hc : countsB l[k] = false) : cntL (l.take (k + 1)) = cntL (l.take k) := by
  unfold cntL
  rw [List.take_succ_eq_append_getElem h, List.filter_append]; simp [hc]

theorem counting_any (uo : Option Addr) (cap m : Nat) (w : World) :
    Calls Try.prog 26 #[.slice uo m cap] w fun e w' => e = .returned (.func (.func 41) #[] #[.pointer (some ⟨w.heap.size, 0, none⟩)]) ∧ w' = w.alloc (.cells #[.slice uo m cap] 22) := by
  go_enter Try.func26, Try.ntmps26
  go_wp2
  go_ret
  exact ⟨rfl, rfl⟩

set_option maxRecDepth 100000 in
set_option maxHeartbeats 2000000 in
theorem cnt_all (n B : Nat) (uo : Option Addr) (cap m : Nat) (l : List Us) (w : World) (hm : m ≤ 1000000) (hl : l.length = m) (hr : RowK 4 encU w uo l) (hB : w.cell? ⟨B, 0, none⟩ = some (.slice uo m cap)) :
    SeqAll n Try.prog 41 #[.pointer (some ⟨B, 0, none⟩)] encC (fun k => 0 < m ∧ ∃ off, uo = some ⟨k, off, none⟩) (cntL l) w := by
  intro lp J O W hW hO hJ hY h0
  have HL := Lib.hid hl
  have HR := Lib.hid hr
  have HJ := Lib.hid hJ
  have HY := Lib.hid hY
  have hBc : W.cell? ⟨B, 0, none⟩ = some (.slice uo m cap) := by rw [hW.cell (p := ⟨B, 0, none⟩) (World.block_lt_of_cell? _ _ hB)]; exact hB
  have START := Lib.hid (show 0 < m → ∀ b off, uo = some ⟨b, off, none⟩ → ¬ O b ∧ (b < w.heap.size → W.heap[b]? = w.heap[b]?) from fun hm0 b off e => ⟨fun h => (hO b h).2 ⟨hm0, off, e⟩, fun h => hW.block b h⟩)
  have H0 := Lib.hid h0
  have HWS := Lib.hid hW.size
  clear hl hr hJ hY hB hO h0 hW
  refine callsIn_of_wp Try.func41 rfl trivial ?_ rfl
  simp only [Try.ntmps41, List.size_toArray, List.length_cons, List.length_nil, Nat.reduceAdd, Nat.reduceSub, Array.replicate_succ, Array.replicate_zero, List.push_toArray, List.append_toArray, List.nil_append, List.cons_append]
  gi_wp2
  gi_loopw [8] (fun i wr => ∃ (k : Nat) (O1 : Nat → Prop), i = .int .i64 k ∧ k ≤ m ∧ J (cntL (l.take k)) O1 wr ∧ w.heap.size ≤ wr.heap.size ∧ (0 < m → ∀ b off, uo = some ⟨b, off, none⟩ → ¬ O1 b ∧ (b < w.heap.size → wr.heap[b]? = w.heap[b]?))) (fun i _ => m - (intOf i).toNat)
  case atStart => exact ⟨0, O, rfl, Nat.zero_le _, H0.out, HWS.out, START.out⟩
  case round =>
    obtain ⟨k, O1, rfl, hk, hj, hws, hx⟩ := hrel
    have JJ := Lib.hid hj
    have HX := Lib.hid hx
    have HS := Lib.hid hws
    clear hj hx hws
    by_cases hlt : k < m
    · have hkl : k < l.length := by rw [HL.out]; exact hlt
      obtain ⟨sb, off, rfl, hbl, c0, c1, c2, c3⟩ := HR.out.usage hkl
      have hblk := (HX.out (by omega) sb off rfl).2 hbl
      have e0 : wr.cell? ⟨sb, off + k * 4, none⟩ = some (.int .i64 l[k].acc) := by rw [World.cell?_of_block (w := w) hblk]; exact c0
      have e1 : wr.cell? ⟨sb, off + k * 4 + 1, none⟩ = some (.int .i64 l[k].rcd) := by rw [World.cell?_of_block (w := w) hblk]; exact c1
      have e2 : wr.cell? ⟨sb, off + k * 4 + 2, none⟩ = some (.int .i64 l[k].val) := by rw [World.cell?_of_block (w := w) hblk]; exact c2
      have e3 : wr.cell? ⟨sb, off + k * 4 + 3, none⟩ = some (.int .i64 l[k].held) := by rw [World.cell?_of_block (w := w) hblk]; exact c3
      have HNO := Lib.hid (@cnt_no l k hkl)
      have HYES := Lib.hid (@cnt_yes l k hkl)
      obtain ⟨u, hu⟩ : ∃ u, l[k] = u := ⟨_, rfl⟩
      rw [hu] at e0 e1 e2 e3 HNO HYES
      have HCB := Lib.hid (show countsB u = decide (0 ≤ u.val ∧ u.val ≤ 1000000000 ∧ 0 ≤ u.held ∧ u.held ≤ 1000000000 ∧ 0 < u.val + u.held) from rfl)
      clear hu hblk c0 c1 c2 c3
      obtain ⟨ua, ur, uv, uh⟩ := u
      dsimp only at e0 e1 e2 e3 HCB
      have J1 := Lib.hid (HJ.out _ _ _ _ _ JJ.out (Chg.alloc (fun _ => False) wr (.cells #[.int .i64 ua, .int .i64 ur, .int .i64 uv, .int .i64 uh] 42)) (fun k h => h.elim))
      have X1 := Lib.hid (show w.heap.size ≤ (wr.alloc (.cells #[.int .i64 ua, .int .i64 ur, .int .i64 uv, .int .i64 uh] 42)).heap.size ∧ ∀ b off', some (⟨sb, off, none⟩ : Addr) = some ⟨b, off', none⟩ → ¬ O1 b ∧ (b < w.heap.size → (wr.alloc (.cells #[.int .i64 ua, .int .i64 ur, .int .i64 uv, .int .i64 uh] 42)).heap[b]? = w.heap[b]?) from
        ⟨by have := HS.out; simp; omega, fun b off' e => ⟨(HX.out (by omega) b off' e).1, fun h => by rw [Below.heap_alloc _ _ _ (by have := HS.out; omega)]; exact (HX.out (by omega) b off' e).2 h⟩⟩)
      by_cases hcnt : 0 ≤ uv ∧ uv ≤ 1000000000 ∧ 0 ≤ uh ∧ uh ≤ 1000000000 ∧ 0 < uv + uh
      · have hcb : countsB ⟨ua, ur, uv, uh⟩ = true := by rw [HCB.out]; exact decide_eq_true hcnt
        obtain ⟨hn1, hn2⟩ := HYES.out hcb
        have HN1 := Lib.hid hn1
        have HN2 := Lib.hid hn2
        obtain ⟨h1, h2, h3, h4, h5⟩ := hcnt
        obtain ⟨fn, tmps, assign, body, hy, hR⟩ := HY.out _ _ _ _ _ hn2 J1.out
        dsimp only [encC] at hy
        have HRD := Lib.hid hR
        clear hcb hn1 hn2 hR
        gi_wp2
        refine ⟨fun h => absurd h (by simp [Fence.wide]), HRD.out.mono ?_⟩
        rintro e W3 ⟨rfl, O2, hj3, hc3, ho3⟩
        have R : J (cntL (l.take (k + 1))) O2 W3 ∧ w.heap.size ≤ W3.heap.size ∧ ∀ b off', some (⟨sb, off, none⟩ : Addr) = some ⟨b, off', none⟩ → ¬ O2 b ∧ (b < w.heap.size → W3.heap[b]? = w.heap[b]?) := by
          refine ⟨by rw [HN1.out]; exact hj3, Nat.le_trans X1.out.1 hc3.size, fun b off' e => ?_⟩
          obtain ⟨x1, x2⟩ := X1.out.2 b off' e
          have hb : b = sb := by simp at e; exact e.1.symm
          subst hb
          have hbs : b < (wr.alloc (.cells #[.int .i64 ua, .int .i64 ur, .int .i64 uv, .int .i64 uh] 42)).heap.size := Nat.lt_of_lt_of_le hbl X1.out.1
          exact ⟨fun h => by rcases ho3 b h with h | h; exact x1 h; omega, fun h => by rw [hc3.block b hbs x1]; exact x2 h⟩
        have RR := Lib.hid R
        clear R hj3 hc3 ho3
        gi_wp2
        go_roundw
        case rel => exact ⟨k + 1, O2, by go_num, by omega, RR.out.1, RR.out.2.1, fun _ => RR.out.2.2⟩
        case measure => simp [intOf]; omega
      · have hcb : countsB ⟨ua, ur, uv, uh⟩ = false := by rw [HCB.out]; exact decide_eq_false hcnt
        have HN := Lib.hid (HNO.out hcb)
        clear hcb
        have hw : uv < 0 ∨ (0 ≤ uv ∧ 1000000000 < uv) ∨ (0 ≤ uv ∧ uv ≤ 1000000000 ∧ uh < 0) ∨ (0 ≤ uv ∧ uv ≤ 1000000000 ∧ 0 ≤ uh ∧ 1000000000 < uh) ∨ (0 ≤ uv ∧ uv ≤ 1000000000 ∧ 0 ≤ uh ∧ uh ≤ 1000000000 ∧ uv + uh ≤ 0) := by omega
        clear hcnt
        rcases hw with h1 | ⟨h1, h2⟩ | ⟨h1, h2, h3⟩ | ⟨h1, h2, h3, h4⟩ | ⟨h1, h2, h3, h4, h5⟩
        all_goals
          gi_wp2
          refine ⟨fun _ h => (by cases h), ?_⟩
          gi_wp2
          go_roundw
          case rel => exact ⟨k + 1, O1, by go_num, by omega, by rw [HN.out]; exact J1.out, X1.out.1, fun _ => X1.out.2⟩
          case measure => simp [intOf]; omega
    · have HN := Lib.hid (show l.take k = l from List.take_of_length_le (by rw [HL.out]; omega))
      gi_wp2
      go_end0
      have hj := JJ.out
      rw [HN.out] at hj
      exact ⟨⟨_, rfl⟩, O1, hj⟩

end Go.Proofs.Ytbkmcncakpmgkaa
