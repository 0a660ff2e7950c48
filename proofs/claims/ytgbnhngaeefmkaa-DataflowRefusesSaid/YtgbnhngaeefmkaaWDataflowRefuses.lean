import Derived.Test.YtgbnhngaeefmkaaPlR

/-! DataflowRefuses, walked. -/
namespace Go.Proofs.Ytgbnhngaeefmkaa
set_option linter.unusedVariables false
set_option linter.unusedSimpArgs false
open Go.RowKit

theorem same_names {w : World} {a b : Option Addr} {m ca cb : Nat} {l : List ByteArray} (hl : l.length = m) (hm : m ≤ 1000) (ha : RowK 1 encT w a l) (hb : RowK 1 encT w b l) : Calls Try.prog 20 #[.slice a m ca, .slice b m cb] w fun e w' => e = .returned (.bool true) ∧ Below w.heap.size w w' := by
  refine (same_any a b ca cb m m l l w hl hl (by omega) ha hb).mono ?_
  rintro e w' ⟨rfl, h2⟩
  exact ⟨by unfold sameB; simp, h2⟩

theorem owns_row {w : World} {base n : Nat} {v : Value} {l : List ByteArray} (h : w.ownsRow base 9 1 v n (l.flatMap encT)) : ∃ ao cap, v = .slice ao n cap ∧ l.length = n ∧ RowK 1 encT w ao l := by
  have h1 := h.1
  rw [flat_length encT_len] at h1
  obtain ⟨ao, cap, rfl, _, h3⟩ := rowK_of_owns encT_len (by decide) h
  have hn : l.length = n := by omega
  subst hn
  exact ⟨ao, cap, rfl, rfl, h3⟩

theorem St.setN {W0 w : World} {f k : Nat} {F : List En} {N : List ByteArray} (h : St W0 f F k w) (hk : k ≤ 900) (ha : Among N F) (n v : ByteArray) (hn : n ∈ N) :
    Calls Try.prog 13 #[.pointer (some ⟨f, 0, none⟩), .string n, .string v] w fun e w' => ∃ (c : Int) (F' : List En), e = .returned (.int .i64 c) ∧ St W0 f F' (k + 1) w' ∧ Among N F' :=
  (h.set hk n v rfl rfl).mono fun e w' ⟨h1, h2, _⟩ => ⟨_, _, h1, h2, ha.set hn⟩
theorem St.putN {W0 w : World} {f k : Nat} {F : List En} {N : List ByteArray} (h : St W0 f F k w) (hk : k ≤ 900) (ha : Among N F) (n v : ByteArray) (hn : n ∈ N) (ao : Option Addr) (ln cap : Nat) (l : List ByteArray) (hln : l.length = ln) (hl : ln ≤ 1000) (hrow : RowK 1 encT w ao l) :
    Calls Try.prog 17 #[.pointer (some ⟨f, 0, none⟩), .agg #[.string n, .slice ao ln cap], .string v] w fun e w' => ∃ (c : Int) (F' : List En), e = .returned (.int .i64 c) ∧ St W0 f F' (k + 1) w' ∧ Among N F' :=
  (h.put hk n v ao ln cap l hln hl hrow rfl rfl).mono fun e w' ⟨h1, h2, _⟩ => ⟨_, _, h1, h2, ha.put hn⟩

theorem St.at {W0 w : World} {f k k' : Nat} {F : List En} (h : St W0 f F k w) (hk : F.length ≤ k') : St W0 f F k' w := ⟨⟨h.1.rep, h.1.good, hk, h.1.base⟩, h.2⟩

def vals (F : List En) (k : Nat) : List ByteArray := (List.range k).map fun i => (valF F (nameAt i)).1
theorem vals_snoc (F : List En) (k : Nat) : vals F (k + 1) = vals F k ++ [(valF F (nameAt k)).1] := by unfold vals; rw [List.range_succ, List.map_append]; rfl
theorem vals_get (F : List En) {k m : Nat} (h : k < m) : (vals F m)[k]? = some (valF F (nameAt k)).1 := by unfold vals; simp [h]

namespace dataflowRefuses

/-- what the law keeps while it asks what must be refused -/
structure Kp (w1 : World) (f : Nat) (F : List En) (s1 s2 : Nat) (v1 v2 : Value) (n1 n2 : Nat) (x1 x2 : List ByteArray) (nb : Nat) (nn : ByteArray) (v3 : Value) (n3 : Nat) (x3 : List ByteArray) (w : World) : Prop where
  st : St w1 f F 60 w
  r1 : w.ownsRow s1 9 1 v1 n1 (x1.flatMap encT)
  r2 : w.ownsRow s2 9 1 v2 n2 (x2.flatMap encT)
  r3 : w.ownsRow s2 9 1 v3 n3 (x3.flatMap encT)
  nod : w.heap[nb]? = some (.cells #[.string nn, v3] 30 (0, 0))

section
variable {w1 w : World} {f s1 s2 n1 n2 nb n3 : Nat} {F : List En} {v1 v2 v3 : Value} {x1 x2 x3 : List ByteArray} {nn : ByteArray}

theorem Kp.later {w' : World} (h : Kp w1 f F s1 s2 v1 v2 n1 n2 x1 x2 nb nn v3 n3 x3 w) (hb : Below w.heap.size w w') : Kp w1 f F s1 s2 v1 v2 n1 n2 x1 x2 nb nn v3 n3 x3 w' :=
  ⟨h.st.later hb, ownsRow_blk h.r1 (fun g _ hg => hb.block g hg), ownsRow_blk h.r2 (fun g _ hg => hb.block g hg), ownsRow_blk h.r3 (fun g _ hg => hb.block g hg), (hb.block nb (lt_of_blk h.nod)).trans h.nod⟩
theorem Kp.mv {w' : World} (h : Kp w1 f F s1 s2 v1 v2 n1 n2 x1 x2 nb nn v3 n3 x3 w) (hs : St w1 f F 60 w') (hm : Mv w1.heap.size w w') : Kp w1 f F s1 s2 v1 v2 n1 n2 x1 x2 nb nn v3 n3 x3 w' :=
  ⟨hs, ownsRow_mv h.r1 (by decide) hm, ownsRow_mv h.r2 (by decide) hm, ownsRow_mv h.r3 (by decide) hm, (hm.block nb (lt_of_blk h.nod) (fun c => by
    rcases c.2 with ⟨es, c', q⟩ | ⟨cs, fr', q⟩
    · rw [h.nod] at q; cases q
    · rw [h.nod] at q; cases q)).trans h.nod⟩

theorem Kp.put (h : Kp w1 f F s1 s2 v1 v2 n1 n2 x1 x2 nb nn v3 n3 x3 w) (hF : F.length ≤ 60) (n v : ByteArray) (ao : Option Addr) (ln cap : Nat) (l : List ByteArray) (hln : l.length = ln) (hl : ln ≤ 1000) (hrow : RowK 1 encT w ao l) (hno : putOk F n l = false) :
    Calls Try.prog 17 #[.pointer (some ⟨f, 0, none⟩), .agg #[.string n, .slice ao ln cap], .string v] w fun e w' => e = .returned (.int .i64 200) ∧ Kp w1 f F s1 s2 v1 v2 n1 n2 x1 x2 nb nn v3 n3 x3 w' :=
  (h.st.put (by omega) n v ao ln cap l hln hl hrow (put_no hno) hno).mono fun e w' ⟨q1, q2, q3⟩ => ⟨q1, h.mv (q2.at hF) q3⟩
theorem Kp.set (h : Kp w1 f F s1 s2 v1 v2 n1 n2 x1 x2 nb nn v3 n3 x3 w) (hF : F.length ≤ 60) (v : ByteArray) :
    Calls Try.prog 13 #[.pointer (some ⟨f, 0, none⟩), .string ⟨#[]⟩, .string v] w fun e w' => e = .returned (.int .i64 200) ∧ Kp w1 f F s1 s2 v1 v2 n1 n2 x1 x2 nb nn v3 n3 x3 w' :=
  (h.st.set (by omega) ⟨#[]⟩ v (set_empty (F := F) (v := v)).2 (set_empty (F := F) (v := v)).1).mono fun e w' ⟨q1, q2, q3⟩ => ⟨q1, h.mv (q2.at hF) q3⟩
theorem Kp.drop (h : Kp w1 f F s1 s2 v1 v2 n1 n2 x1 x2 nb nn v3 n3 x3 w) (hF : F.length ≤ 60) (n : ByteArray) (hn : atF F n = none) :
    Calls Try.prog 15 #[.pointer (some ⟨f, 0, none⟩), .string n] w fun e w' => e = .returned (.int .i64 200) ∧ Kp w1 f F s1 s2 v1 v2 n1 n2 x1 x2 nb nn v3 n3 x3 w' :=
  (h.st.drop (by omega) n (drop_unknown hn).2 (drop_unknown hn).1).mono fun e w' ⟨q1, q2, q3⟩ => ⟨q1, h.mv (q2.at hF) q3⟩

theorem Kp.self {g' q cap' : Nat} {rd : List ByteArray} (h : Kp w1 f F s1 s2 v1 v2 n1 n2 x1 x2 nb nn (.slice (some ⟨g', 0, none⟩) (q + 1) cap') (q + 1) (rd ++ [nn]) w) (hF : F.length ≤ 60) (hq : (rd ++ [nn]).length = q + 1) (h6 : q ≤ 6) :
    Calls Try.prog 17 #[.pointer (some ⟨f, 0, none⟩), .agg #[.string nn, .slice (some ⟨g', 0, none⟩) (q + 1) cap'], .string ⟨#[51]⟩] w fun e w' => e = .returned (.int .i64 200) ∧ Kp w1 f F s1 s2 v1 v2 n1 n2 x1 x2 nb nn (.slice (some ⟨g', 0, none⟩) (q + 1) cap') (q + 1) (rd ++ [nn]) w' :=
  h.put hF nn ⟨#[51]⟩ (some ⟨g', 0, none⟩) (q + 1) cap' (rd ++ [nn]) hq (by omega) (by obtain ⟨a, c, e, _, r⟩ := owns_row h.r3; cases e; exact r) (put_self (by simp))
theorem Kp.unknown (h : Kp w1 f F s1 s2 v1 v2 n1 n2 x1 x2 nb nn v3 n3 x3 w) (hF : F.length ≤ 60) (hn : atF F ⟨#[110, 111, 98, 111, 100, 121]⟩ = none) :
    Calls Try.prog 17 #[.pointer (some ⟨f, 0, none⟩), .agg #[.string ⟨#[104]⟩, .slice (some ⟨w.heap.size, 0, none⟩) 1 1], .string ⟨#[51]⟩] (w.alloc (.cells #[.string ⟨#[110, 111, 98, 111, 100, 121]⟩] 9)) fun e w' => e = .returned (.int .i64 200) ∧ Kp w1 f F s1 s2 v1 v2 n1 n2 x1 x2 nb nn v3 n3 x3 w' :=
  (h.later ((Below.refl _ w).alloc (Nat.le_refl _) (.cells #[.string ⟨#[110, 111, 98, 111, 100, 121]⟩] 9))).put hF ⟨#[104]⟩ ⟨#[51]⟩ (some ⟨w.heap.size, 0, none⟩) 1 1 [⟨#[110, 111, 98, 111, 100, 121]⟩] rfl (by omega) (RowK_lit w [⟨#[110, 111, 98, 111, 100, 121]⟩]) (put_unknown (by simp) hn)
theorem Kp.blank (h : Kp w1 f F s1 s2 v1 v2 n1 n2 x1 x2 nb nn v3 n3 x3 w) (hF : F.length ≤ 60) :
    Calls Try.prog 17 #[.pointer (some ⟨f, 0, none⟩), .agg #[.string ⟨#[]⟩, .slice none 0 0], .string ⟨#[51]⟩] w fun e w' => e = .returned (.int .i64 200) ∧ Kp w1 f F s1 s2 v1 v2 n1 n2 x1 x2 nb nn v3 n3 x3 w' :=
  h.put hF ⟨#[]⟩ ⟨#[51]⟩ none 0 0 [] rfl (by omega) (RowK.nil _ _ _ _) put_empty
theorem Kp.stale {sl : Nat} (h : Kp w1 f F s1 s2 v1 v2 n1 n2 x1 x2 nb nn v3 n3 x3 w) (hF : F.length ≤ 9) (hsl : (staleF F).length = sl) :
    Calls Try.prog 21 #[.pointer (some ⟨f, 0, none⟩)] w fun e w' => ∃ ao cap, e = .returned (.slice ao sl cap) ∧ RowK 1 encT w' ao (staleF F) ∧ Kp w1 f F s1 s2 v1 v2 n1 n2 x1 x2 nb nn v3 n3 x3 w' :=
  (h.st.stale (by omega) (Nat.le_trans (List.length_filter_le _ _) (by omega)) (l := staleF F) rfl hsl).mono fun e w' ⟨ao, cap, q1, _, q2, _, q3⟩ => ⟨ao, cap, q1, q2, h.later q3⟩
theorem Kp.same {sl : Nat} {ao ao3 : Option Addr} {cap cap3 : Nat} (h : Kp w1 f F s1 s2 (.slice ao3 sl cap3) v2 sl n2 (staleF F) x2 nb nn v3 n3 x3 w) (hsl : (staleF F).length = sl) (h9 : sl ≤ 9) (hrw : RowK 1 encT w ao (staleF F)) :
    Calls Try.prog 20 #[.slice ao sl cap, .slice ao3 sl cap3] w fun e w' => e = .returned (.bool true) ∧ Kp w1 f F s1 s2 (.slice ao3 sl cap3) v2 sl n2 (staleF F) x2 nb nn v3 n3 x3 w' :=
  (same_names hsl (by omega) hrw (by obtain ⟨a, c, e, _, r⟩ := owns_row h.r1; cases e; exact r)).mono fun e w' ⟨q1, q2⟩ => ⟨q1, h.later q2⟩

theorem Kp.make {wr w5 w6 : World} {v5 v' : Value} {n5 : Nat} {x5 : List ByteArray} {o : Obj} (hst : St w1 f F 60 wr) (hr1 : wr.ownsRow s1 9 1 v1 n1 (x1.flatMap encT)) (hr2 : wr.ownsRow s2 9 1 v2 n2 (x2.flatMap encT)) (hs2 : s2 ≤ wr.heap.size) (hb5 : Below wr.heap.size wr w5)
    (h5 : w5.ownsRow wr.heap.size 9 1 v5 n5 (x5.flatMap encT)) (own' : w6.ownsRow wr.heap.size 9 1 v' (n5 + 1) (x5.flatMap encT ++ encT nn)) (gr : ((w5.alloc (.cells #[.string nn, v5] 30)).alloc o).grownBy w6 v5.ownBlock) :
    (w6.cell? ⟨w5.heap.size, 1, none⟩ = some v5 ∧ w6.frozen? ⟨w5.heap.size, 1, none⟩ = false ∧ w6.cell? ⟨w5.heap.size, 0, none⟩ = some (.string nn)) ∧ Kp w1 f F s1 s2 v1 v2 n1 n2 x1 x2 w5.heap.size nn v' (n5 + 1) (x5 ++ [nn]) (w6.setCell ⟨w5.heap.size, 1, none⟩ v') := by
  have hnb0 : ((w5.alloc (.cells #[.string nn, v5] 30)).alloc o).heap[w5.heap.size]? = some (.cells #[.string nn, v5] 30 (0, 0)) := by rw [Below.heap_alloc _ _ _ (by simp)]; exact World.alloc_heap_new w5 _
  have hne : v5.ownBlock ≠ some w5.heap.size := fun e => by have := (owns_ltK h5 _ e).2; omega
  have hnb : w6.heap[w5.heap.size]? = some (.cells #[.string nn, v5] 30 (0, 0)) := (gr.block _ (lt_of_blk hnb0) (fun e => hne e.symm)).trans hnb0
  have hset : ∀ j, j ≠ w5.heap.size → (w6.setCell ⟨w5.heap.size, 1, none⟩ v').heap[j]? = w6.heap[j]? := fun j hj => Below.heap_setCell w6 ⟨w5.heap.size, 1, none⟩ v' j hj
  have b1 : Below wr.heap.size wr ((w5.alloc (.cells #[.string nn, v5] 30)).alloc o) := (hb5.alloc hb5.size _).alloc (by simp; have := hb5.size; omega) _
  have b2 : Below wr.heap.size wr w6 := b1.grown gr b1.size (fun j hj => (owns_ltK h5 j hj).1)
  have b3 : Below wr.heap.size wr (w6.setCell ⟨w5.heap.size, 1, none⟩ v') := b2.setCell (p := ⟨w5.heap.size, 1, none⟩) hb5.size v'
  refine ⟨⟨cell_blk hnb rfl, frz_blk hnb, cell_blk hnb rfl⟩, hst.later b3, ownsRow_blk hr1 (fun g _ hg => b3.block g hg), ownsRow_blk hr2 (fun g _ hg => b3.block g hg), ?_, heap_setC hnb v'⟩
  rw [flat_snoc]
  refine ownsRow_low (ownsRow_blk own' (fun g hg hl => hset g (fun e => ?_))) hs2
  obtain ⟨_, h2 | ⟨g', cap, cur, h3, _, h6, _⟩⟩ := own'
  · rw [h2.1] at hg; simp [Value.ownBlock] at hg
  · rw [h3] at hg; simp [Value.ownBlock] at hg; subst hg; rw [e, hnb] at h6; cases h6
end

set_option maxRecDepth 100000 in
set_option maxHeartbeats 8000000 in
theorem walk (a0 : Option Addr) (len0 cap0 : Nat) (l : List StepV) (x : StepV) (W : World) (hl : l.length = len0) (hbig : len0 ≤ 9223372036854775807) (hrow : RowK 4 encStep W a0 l) (hok : ∀ s ∈ l, StepOk W s) (hx : StepOk W x) :
    Calls Try.prog 7 #[.slice a0 len0 cap0, .agg #[.int .i64 x.call, .int .i64 x.name, .int .i64 x.val, .slice x.ao x.ln x.cap]] W fun e w' => e = .returned (.bool true) ∧ Below W.heap.size W w' := by
  have HL := Lib.hid hl
  have HR := Lib.hid hrow
  have HOK := Lib.hid hok
  have HX := Lib.hid hx
  clear hl hrow hok hx
  obtain ⟨xc, xn, xv, xa, xl, xp, xz⟩ := x
  dsimp only
  go_enter Try.func7, Try.ntmps7
  go_upto_block 0 with (first
    | (go_at_call 8; refine (sane_any _).mono ?_; rintro e w1 ⟨rfl, hb1⟩; have B1 := Lib.hid hb1; clear hb1)
    | (go_at_call 9; refine (st_new _).mono ?_; rintro e w2 ⟨f, rfl, hs⟩; have S2 := Lib.hid hs; clear hs))
  have BW1 := Lib.hid (((Below.refl W.heap.size W).alloc (Nat.le_refl _) (.cells #[.int .i64 xc, .int .i64 xn, .int .i64 xv, .slice xa xl xp] 34)).trans (B1.out.mono (by simp)))
  have XB := Lib.hid (show w1.heap[W.heap.size]? = some (.cells #[.int .i64 xc, .int .i64 xn, .int .i64 xv, .slice xa xl xp] 34 (0, 0)) from by rw [B1.out.block _ (by simp)]; exact World.alloc_heap_new W _)
  go_cut [] (fun wx => ∃ F, St w1 f F 60 wx ∧ Among nine F)
  case first =>
   go_wp2_with fail
   go_loopw [7] (fun i wr => ∃ (k : Nat) (F : List En), k ≤ len0 ∧ k ≤ 30 ∧ i = .int .i64 k ∧ St w1 f F k wr ∧ Among nine F) (fun i _ => 30 - (intOf i).toNat)
   case atStart => exact ⟨0, [], Nat.zero_le _, by omega, rfl, S2.out, Among.nil _⟩
   case round =>
     obtain ⟨k, F, hk, hk30, rfl, hst, ham⟩ := hrel
     have SK := Lib.hid hst
     have AM := Lib.hid ham
     clear hst ham
     by_cases hlt : k < len0 ∧ k < 30
     · obtain ⟨hlt, h30⟩ := hlt
       have hkl : k < l.length := by rw [HL.out]; exact hlt
       have hso := HOK.out l[k] (List.getElem_mem hkl)
       obtain ⟨b0, off, rfl, hlb, hce⟩ := HR.out k l[k] (List.getElem?_eq_getElem hkl)
       have hbw : Below W.heap.size W wr := BW1.out.trans (SK.out.2.mono BW1.out.size)
       have c0 : wr.cell? ⟨b0, off + k * 4, none⟩ = some (.int .i64 l[k].call) := (hbw.cell (p := ⟨b0, off + k * 4 + 0, none⟩) hlb).trans (hce 0 _ rfl)
       have c1 := (hbw.cell (p := ⟨b0, off + k * 4 + 1, none⟩) hlb).trans (hce 1 _ rfl)
       have c2 := (hbw.cell (p := ⟨b0, off + k * 4 + 2, none⟩) hlb).trans (hce 2 _ rfl)
       have c3 := (hbw.cell (p := ⟨b0, off + k * 4 + 3, none⟩) hlb).trans (hce 3 _ rfl)
       have hso2 := hso.later hbw
       have OFC := Lib.hid (stepOf_any l[k].call l[k].name l[k].val l[k].ao l[k].ln l[k].cap l[k].zs wr hso2.len hso2.big hso2.n.1 hso2.n.2 hso2.z hso2.row)
       have hrl := rdsZ_len l[k].zs
       obtain ⟨p3, hp3, hpe⟩ := pickZ_nat l[k].call 3 (by omega)
       have PK := Lib.hid (show ∀ w, Calls Try.prog 12 #[.int .i64 l[k].call, .int .i64 3] w fun e w' => e = .returned (.int .i64 p3) ∧ w = w' from fun w => (pick_any l[k].call 3 w hso2.c.1 hso2.c.2 (by omega) (by omega)).mono fun e w' ⟨q1, q2⟩ => ⟨by rw [q1]; rw [show ((3 : Nat) : Int) = 3 from rfl] at hpe; rw [hpe], q2⟩)
       have hnm := nmZ_mem l[k].name
       obtain ⟨rd, hrd⟩ : ∃ rd, rdsZ l[k].zs = rd := ⟨_, rfl⟩
       rw [hrd] at OFC hrl
       obtain ⟨nn, hnn⟩ : ∃ nn, nmZ l[k].name = nn := ⟨_, rfl⟩
       rw [hnn] at OFC hnm
       obtain ⟨q, hq⟩ : ∃ q, rd.length = q := ⟨_, rfl⟩
       rw [hq] at OFC hrl
       have HQ := Lib.hid hq
       have HNM := Lib.hid hnm
       clear hso hso2 hce hpe hrd hnn hq
       obtain ⟨s, hs⟩ : ∃ s, l[k] = s := ⟨_, rfl⟩
       rw [hs] at c0 c1 c2 c3 OFC PK
       clear hs hkl
       obtain ⟨sc, sn, sv, sa, sl, sp, sz⟩ := s
       dsimp only at c0 c1 c2 c3 OFC PK
       have k0 : (0 : Int) ≤ (k : Int) := by omega
       have k1 : (k : Int) < (len0 : Int) := by omega
       have k30 : (k : Int) < 30 := by omega
       have KC0 := Lib.hid (show ∀ w3, Below wr.heap.size wr w3 → w3.cell? ⟨b0, off + k * 4, none⟩ = some (.int .i64 sc) from fun w3 hb => by rw [hb.cell (p := ⟨b0, off + k * 4, none⟩) (World.block_lt_of_cell? _ _ c0)]; exact c0)
       have SF := Lib.hid (fun w3 (hb : Below wr.heap.size wr w3) (o : Obj) => St.setN ((SK.out.later hb).alloc o) (by omega) AM.out nn ⟨#[49]⟩ HNM.out)
       have PF := Lib.hid (fun w3 (hb : Below wr.heap.size wr w3) (o : Obj) ao cap (hrw : RowK 1 encT w3 ao rd) => St.putN ((SK.out.later hb).alloc o) (by omega) AM.out nn ⟨#[50]⟩ HNM.out ao q cap rd HQ.out (by omega) (hrw.later ((Below.refl _ w3).alloc (Nat.le_refl _) o)))
       rcases Nat.eq_zero_or_pos p3 with hp0 | hp0
       · subst hp0
         have d0 : (((0 : Nat) : Int) == 0) = true := by decide
         go_wp2_with (first
           | (go_at_call 11; refine OFC.out.mono ?_; rintro e w3 ⟨v, rfl, hown, hbo⟩; obtain ⟨ao3, cap3, rfl, _, hrw3⟩ := owns_row hown; have RW3 := Lib.hid hrw3; have BO := Lib.hid hbo; have c5 := cell_up (KC0.out w3 hbo) (.cells #[.string nn, .slice ao3 q cap3] 30); clear hown hrw3 hbo)
           | (go_at_call 12; refine (PK.out _).mono ?_; rintro e w' ⟨rfl, rfl⟩)
           | (go_at_call 13; refine (SF.out _ BO.out _).mono ?_; rintro e w4 ⟨c4, F4, rfl, hs4, ha4⟩; have S4 := Lib.hid hs4; have A4 := Lib.hid ha4; clear hs4 ha4))
         go_roundw
         case rel => exact ⟨k + 1, F4, by omega, by omega, by go_num, S4.out, A4.out⟩
         case measure => simp [intOf]; omega
       · have d0 : ((p3 : Int) == 0) = false := beq_eq_false_iff_ne.2 (by omega)
         have d1 : ¬ (p3 : Int) = 0 := by omega
         go_wp2_with (first
           | (go_at_call 11; refine OFC.out.mono ?_; rintro e w3 ⟨v, rfl, hown, hbo⟩; obtain ⟨ao3, cap3, rfl, _, hrw3⟩ := owns_row hown; have RW3 := Lib.hid hrw3; have BO := Lib.hid hbo; have c5 := cell_up (KC0.out w3 hbo) (.cells #[.string nn, .slice ao3 q cap3] 30); clear hown hrw3 hbo)
           | (go_at_call 12; refine (PK.out _).mono ?_; rintro e w' ⟨rfl, rfl⟩)
           | (go_at_call 17; refine (PF.out _ BO.out _ _ _ RW3.out).mono ?_; rintro e w4 ⟨c4, F4, rfl, hs4, ha4⟩; have S4 := Lib.hid hs4; have A4 := Lib.hid ha4; clear hs4 ha4))
         go_roundw
         case rel => exact ⟨k + 1, F4, by omega, by omega, by go_num, S4.out, A4.out⟩
         case measure => simp [intOf]; omega
     · have hF : F.length ≤ 60 := by have := AM.out.len SK.out.1.good.srt; simp [nine] at this; omega
       have FIN := Lib.hid (show ∃ F, St w1 f F 60 wr ∧ Among nine F from ⟨F, SK.out.at hF, AM.out⟩)
       by_cases h1 : k < len0
       · have h30 : ¬ (k : Int) < 30 := by omega
         have k1 : (k : Int) < (len0 : Int) := by omega
         go_wp2_with fail
         go_meet
         exact FIN.out
       · have k1 : ¬ (k : Int) < (len0 : Int) := by omega
         go_wp2_with fail
         go_meet
         exact FIN.out
  case rest =>
    obtain ⟨F, hst, ham⟩ := hcut
    obtain ⟨i0, hi, hz0, hz1, hz2⟩ := info_parts Try.infoStr
    have AM := Lib.hid ham
    have SC := Lib.hid hst
    have hF9 : F.length ≤ 9 := by have := ham.len hst.1.good.srt; simpa [nine] using this
    have STL := Lib.hid (hst.stale (by omega) (Nat.le_trans (List.length_filter_le _ _) (by omega)) (l := staleF F) rfl rfl)
    have hsl : (staleF F).length ≤ 9 := by
      have h1 := (staleF_perm F).length_eq
      rw [h1, List.length_map]
      exact Nat.le_trans (List.length_filter_le _ _) hF9
    obtain ⟨sl, hsle⟩ : ∃ sl, (staleF F).length = sl := ⟨_, rfl⟩
    rw [hsle] at STL hsl
    have HSL := Lib.hid hsle
    clear hst ham hsle
    go_wp2_with (go_at_call 21; refine STL.out.mono ?_; rintro e w3 ⟨ao3, cap3, rfl, how3, hrw3, hs3, hb3⟩; have R3 := Lib.hid how3; have S3 := Lib.hid hs3; have B3 := Lib.hid hb3; clear how3 hrw3 hs3 hb3)
    go_loopw [10, 11] (fun v i wr => ∃ k : Nat, k ≤ 9 ∧ i = .int .i64 k ∧ wr.ownsRow w3.heap.size 9 1 v k ((vals F k).flatMap encT) ∧ Below w3.heap.size w3 wr) (fun _ i _ => 9 - (intOf i).toNat)
    case atStart => exact ⟨0, by omega, rfl, World.ownsRow_nil _ _ _ _, Below.refl _ _⟩
    case round =>
      obtain ⟨k, hk, rfl, hown, hb⟩ := hrel
      have OWN := Lib.hid hown
      have HB := Lib.hid hb
      clear hown hb
      obtain ⟨vo, vc, rfl, hvl, _⟩ := owns_row OWN.out
      have k0 : (0 : Int) ≤ (k : Int) := by omega
      rcases Nat.lt_or_ge k 9 with hlt | hge
      · have k9 : (k : Int) < 9 := by omega
        have NC := Lib.hid (names_cell wr hlt)
        have hnc := names_cell wr hlt
        have VAL := Lib.hid (show ∀ o, Calls Try.prog 23 #[.pointer (some ⟨f, 0, none⟩), .string (nameAt k)] (wr.alloc o) fun e w' => e = .returned (.tuple #[.string (valF F (nameAt k)).1, .bool (valF F (nameAt k)).2]) ∧ wr.alloc o = w' from fun o => ((S3.out.later HB.out).alloc o).value (nameAt k) rfl)
        have VS := Lib.hid (vals_snoc F k)
        obtain ⟨nk, hnk⟩ : ∃ nk, nameAt k = nk := ⟨_, rfl⟩
        rw [hnk] at hnc VAL VS
        obtain ⟨vk, hvk⟩ : ∃ vk, (valF F nk).1 = vk := ⟨_, rfl⟩
        rw [hvk] at VAL VS
        obtain ⟨bk, hbk⟩ : ∃ bk, (valF F nk).2 = bk := ⟨_, rfl⟩
        rw [hbk] at VAL
        clear hnk hvk hbk NC
        go_wp2_with (first
          | (go_at_call 24; refine (names_any _).mono ?_; rintro e w' ⟨rfl, rfl⟩)
          | (go_at_call 23; refine (VAL.out _).mono ?_; rintro e w' ⟨rfl, rfl⟩)
          | (at_builtin; refine wpList_append_own _ rfl (.tmp 72) (.tmp 74) 28 rfl w3.heap.size 9 i0 (.string (ByteArray.mk #[])) 1 16 Try.underlying28 hi hz0 hz1 hz2 rfl (by decide) _ _ _ rfl ((OWN.out.alloc _).alloc _) ⟨wr.heap.size + 1, 0, none⟩ 1 1 (encT vk) rfl rfl (cells_at (wr.alloc (.cells nineV 9)) (encT vk) 9 (wr.heap.size + 1) (by simp)) (encT_one _) (by unfold maxLen; omega) (by omega) (by have := HB.out.size; simp; omega) ?_; intro v' w4 own gr _h; have OWN' := Lib.hid own; have HB' := Lib.hid (grown_own ((HB.out.alloc HB.out.size _).alloc (by simp; have := HB.out.size; omega) _) (Nat.le_refl _) ((OWN.out.alloc _).alloc _) gr); clear own gr _h))
        go_roundw
        case rel => exact ⟨k + 1, by omega, by go_num, by rw [VS.out, flat_snoc]; exact OWN'.out, HB'.out⟩
        case measure => simp [intOf]; omega
      · have hk9 : k = 9 := by omega
        subst hk9
        have hsr : St w1 f F 60 wr := S3.out.later HB.out
        have hbw : Below W.heap.size W wr := BW1.out.trans (hsr.2.mono BW1.out.size)
        have hxb : wr.heap[W.heap.size]? = some (.cells #[.int .i64 xc, .int .i64 xn, .int .i64 xv, .slice xa xl xp] 34 (0, 0)) := by rw [hsr.2.block _ (lt_of_blk XB.out)]; exact XB.out
        have c0 := cell_blk (o := 0) hxb rfl
        have c1 := cell_blk (o := 1) hxb rfl
        have c2 := cell_blk (o := 2) hxb rfl
        have c3 := cell_blk (o := 3) hxb rfl
        have hxo := HX.out.later hbw
        have OFC := Lib.hid (stepOf_any xc xn xv xa xl xp xz wr hxo.len hxo.big hxo.n.1 hxo.n.2 hxo.z hxo.row)
        have hrl := rdsZ_len xz
        obtain ⟨rd, hrd⟩ : ∃ rd, rdsZ xz = rd := ⟨_, rfl⟩
        rw [hrd] at OFC hrl
        obtain ⟨nn, hnn⟩ : ∃ nn, nmZ xn = nn := ⟨_, rfl⟩
        rw [hnn] at OFC
        obtain ⟨q, hq⟩ : ∃ q, rd.length = q := ⟨_, rfl⟩
        rw [hq] at OFC hrl
        have HQ := Lib.hid hq
        have hr1 : wr.ownsRow wc.heap.size 9 1 (.slice ao3 sl cap3) sl ((staleF F).flatMap encT) := ownsRow_blk R3.out (fun g _ hg => HB.out.block g hg)
        have MK := Lib.hid (fun (w5 w6 : World) (v5 v' : Value) (o : Obj) (hb5 : Below wr.heap.size wr w5) (h5 : w5.ownsRow wr.heap.size 9 1 v5 q (rd.flatMap encT)) own' gr => Kp.make (nn := nn) (w6 := w6) (v' := v') (o := o) hsr hr1 OWN.out HB.out.size hb5 h5 own' gr)
        have HNB := Lib.hid (AM.out.none nobody)
        have hF60 : F.length ≤ 60 := by omega
        have HF60 := Lib.hid hF60
        have HF9 := Lib.hid hF9
        have hqq : (rd ++ [nn]).length = q + 1 := by rw [List.length_append, hq]; rfl
        have HQQ := Lib.hid hqq
        clear hrd hnn hq hr1 hxo hxb hbw hsr hF60 hqq
        go_wp2_with (first
          | (go_at_call 11; refine OFC.out.mono ?_; rintro e w5 ⟨v, rfl, hown, hbo⟩; obtain ⟨ao5, cap5, rfl, _, _⟩ := owns_row hown; have OW5 := Lib.hid hown; have BO := Lib.hid hbo; clear hown hbo)
          | (at_builtin; refine wpList_append_own _ rfl (.tmp 79) (.tmp 82) 28 rfl wr.heap.size 9 i0 (.string (ByteArray.mk #[])) 1 16 Try.underlying28 hi hz0 hz1 hz2 rfl (by decide) _ _ _ rfl ((OW5.out.alloc _).alloc _) ⟨w5.heap.size + 1, 0, none⟩ 1 1 (encT nn) rfl rfl (cells_at (w5.alloc _) (encT nn) 9 (w5.heap.size + 1) (by simp)) (encT_one _) (by unfold maxLen; omega) (by omega) (by have := BO.out.size; simp; omega) ?_; intro v' w6 own gr _h; obtain ⟨g', cap', rfl⟩ := ownsRow_succ own; obtain ⟨⟨hc6, hf6, hc60⟩, hk0⟩ := MK.out _ _ _ _ _ BO.out OW5.out own gr; have K0 := Lib.hid hk0; clear own gr _h hk0)
          | (go_at_call 17; with_reducible refine (K0.out.self HF60.out HQQ.out hrl).mono ?_; rintro e w8 ⟨rfl, hk1⟩; have K1 := Lib.hid hk1; clear hk1)
          | (go_at_call 17; with_reducible refine (K1.out.unknown HF60.out HNB.out).mono ?_; rintro e w9 ⟨rfl, hk2⟩; have K2 := Lib.hid hk2; clear hk2)
          | (go_at_call 13; with_reducible refine (K2.out.set HF60.out _).mono ?_; rintro e w10 ⟨rfl, hk3⟩; have K3 := Lib.hid hk3; clear hk3)
          | (go_at_call 15; with_reducible refine (K3.out.drop HF60.out _ HNB.out).mono ?_; rintro e w11 ⟨rfl, hk4⟩; have K4 := Lib.hid hk4; clear hk4)
          | (go_at_call 17; with_reducible refine (K4.out.blank HF60.out).mono ?_; rintro e w12 ⟨rfl, hk5⟩; have K5 := Lib.hid hk5; clear hk5)
          | (go_at_call 21; with_reducible refine (K5.out.stale HF9.out HSL.out).mono ?_; rintro e w13 ⟨ao13, cap13, rfl, hrw13, hk6⟩; have R13 := Lib.hid hrw13; have K6 := Lib.hid hk6; clear hrw13 hk6)
          | (go_at_call 20; with_reducible refine (K6.out.same HSL.out hsl R13.out).mono ?_; rintro e w14 ⟨rfl, hk7⟩; have K7 := Lib.hid hk7; clear hk7))
        have K8 := Lib.hid K7.out
        clear K0 K1 K2 K3 K4 K5 K6 K7 R13 OFC OW5 BO c0 c1 c2 c3 hc6 hf6 hc60 MK
        obtain ⟨wq, hwq⟩ : ∃ wq : World, wq = w14 := ⟨_, rfl⟩
        clear hwq
        go_loopw [20] (fun i wy => ∃ k : Nat, k ≤ 9 ∧ i = .int .i64 k ∧ Kp w1 f F wc.heap.size w3.heap.size (.slice ao3 sl cap3) (.slice vo 9 vc) sl 9 (staleF F) (vals F 9) w5.heap.size nn (.slice (some ⟨g', 0, none⟩) (q + 1) cap') (q + 1) (rd ++ [nn]) wy) (fun i _ => 9 - (intOf i).toNat)
        case atStart => exact ⟨0, by omega, rfl, K8.out⟩
        case round =>
          obtain ⟨k, hk, rfl, hkp⟩ := hrel
          have KK := Lib.hid hkp
          clear hkp
          have k0 : (0 : Int) ≤ (k : Int) := by omega
          rcases Nat.lt_or_ge k 9 with hlt | hge
          · have k9 : (k : Int) < 9 := by omega
            obtain ⟨av, cv, hve, hvl9, hvr⟩ := owns_row KK.out.r2
            cases hve
            have hkv : k < (vals F 9).length := by rw [hvl9]; exact hlt
            obtain ⟨b8, off8, rfl, _, hce⟩ := hvr.str hkv
            have hvk2 : (vals F 9)[k] = (valF F (nameAt k)).1 := by
              have := vals_get F hlt
              rw [List.getElem?_eq_getElem hkv] at this; exact Option.some.inj this
            rw [hvk2] at hce
            have hnc := names_cell wr hlt
            have hce2 := cell_up hce (.cells nineV 9)
            have VAL := Lib.hid (show ∀ o, Calls Try.prog 23 #[.pointer (some ⟨f, 0, none⟩), .string (nameAt k)] (wr.alloc o) fun e w' => e = .returned (.tuple #[.string (valF F (nameAt k)).1, .bool (valF F (nameAt k)).2]) ∧ wr.alloc o = w' from fun o => (KK.out.st.alloc o).value (nameAt k) rfl)
            obtain ⟨nk, hnk⟩ : ∃ nk, nameAt k = nk := ⟨_, rfl⟩
            rw [hnk] at hnc VAL hce hce2
            obtain ⟨vk, hvk⟩ : ∃ vk, (valF F nk).1 = vk := ⟨_, rfl⟩
            rw [hvk] at VAL hce hce2
            obtain ⟨bk, hbk⟩ : ∃ bk, (valF F nk).2 = bk := ⟨_, rfl⟩
            rw [hbk] at VAL
            have hneq : (vk.toList != vk.toList) = false := by simp
            have NX := Lib.hid (KK.out.later ((Below.refl _ wr).alloc (Nat.le_refl _) (.cells nineV 9)))
            clear hnk hvk hbk hvk2 hvr hkv hvl9
            go_wp2_with (first
              | (go_at_call 24; refine (names_any _).mono ?_; rintro e w' ⟨rfl, rfl⟩)
              | (go_at_call 23; refine (VAL.out _).mono ?_; rintro e w' ⟨rfl, rfl⟩))
            go_roundw
            case rel => exact ⟨k + 1, by omega, by go_num, NX.out⟩
            case measure => simp [intOf]; omega
          · have k9 : ¬ (k : Int) < 9 := by omega
            have cn0 := cell_blk (o := 0) KK.out.nod rfl
            have cn1 := cell_blk (o := 1) KK.out.nod rfl
            have BF := Lib.hid (show Below W.heap.size W wr from BW1.out.trans (KK.out.st.2.mono BW1.out.size))
            go_wp2_with (first
              | (go_at_call 23; refine (nvalue _ _).mono ?_; rintro e w' ⟨rfl, rfl⟩)
              | (go_at_call 13; refine (nset _ _ _ ⟨_, rfl⟩ ⟨_, rfl⟩).mono ?_; rintro e w' ⟨rfl, rfl⟩)
              | (go_at_call 17; refine (nput _ _ _ _ _ _).mono ?_; rintro e w15 ⟨rfl, hb15⟩; have B15 := Lib.hid hb15; clear hb15)
              | (go_at_call 15; refine (ndrop _ _).mono ?_; rintro e w' ⟨rfl, rfl⟩)
              | (go_at_call 19; refine (nlen _).mono ?_; rintro e w' ⟨rfl, rfl⟩)
              | (go_at_call 21; refine (nstale _).mono ?_; rintro e w' ⟨rfl, rfl⟩)
              | (go_at_call 26; refine (nreads _ _).mono ?_; rintro e w' ⟨rfl, rfl⟩))
            go_ret
            exact ⟨rfl, BF.out.trans (B15.out.mono BF.out.size)⟩

end dataflowRefuses
end Go.Proofs.Ytgbnhngaeefmkaa
