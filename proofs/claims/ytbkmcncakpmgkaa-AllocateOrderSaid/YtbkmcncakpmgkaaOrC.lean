/-
  What the walk of AllocateOrder carries: the two rows of its own, a swap in each, the parting of a usage, the calls with their results named.
-/
import Derived.Test.YtbkmcncakpmgkaaOrB
import Derived.Test.YtbkmcncakpmgkaaRowU
namespace Go.Proofs.Ytbkmcncakpmgkaa
set_option linter.unusedVariables false
open Go.ChangeShapes Go.WideShapes Go.ChangeAt Go.RowKit

theorem wpList_abs {P : Program} {ops : Array Oper} {Q : Exit → Act → World → Prop} {rest : List Oper} {a : Act} (S : World → Prop) (w : World) (h : S w) (hk : ∀ wv, S wv → wpList P ops Q rest a wv) : wpList P ops Q rest a w := hk w h

/-- the two rows of the call's own -/
structure Rows2 (z3 z4 : Nat) (us : List Us) (ps : List (Int × Int)) (v q : Value) (wr : World) (vl : List Us) (ql : List (Int × Int)) : Prop where
  ownV : wr.ownsRow z3 42 4 v us.length (vl.flatMap encU)
  ownQ : wr.ownsRow z4 47 2 q ps.length (ql.flatMap encS)
  low : ∀ g, v.ownBlock = some g → g < z4
  alikeV : Alike vl us
  alikeQ : Alike ql ps
  memV : ∀ x ∈ vl, x ∈ us
  memQ : ∀ x ∈ ql, x ∈ ps
  lenV : vl.length = us.length
  lenQ : ql.length = ps.length

theorem Rows2.swV {z3 z4 : Nat} {us : List Us} {ps : List (Int × Int)} {g vc n : Nat} {q : Value} {w wr : World} {vl : List Us} {ql : List (Int × Int)} (h : Rows2 z3 z4 us ps (.slice (some ⟨g, 0, none⟩) n vc) q wr vl ql) (hn : us.length = n) (hb : Below z3 w wr)
    (a : Nat) (h0 : 0 < vl.length) (ha : a < vl.length) (x y : Us) (hx : vl[0] = x) (hy : vl[a] = y) (f : Nat) (hf : a * 4 = f) :
    Rows2 z3 z4 us ps (.slice (some ⟨g, 0, none⟩) n vc) q ((wr.setCells g 0 (encU y)).setCells g f (encU x)).drew (swapL vl a h0 ha) ql ∧ Below z3 w ((wr.setCells g 0 (encU y)).setCells g f (encU x)).drew := by
  subst hf
  have hv := h.ownV
  rw [hn] at hv
  have h1 := owns_setU hv 0 h0 y
  have h2 := owns_setU h1 a (by rw [List.length_set]; exact ha) x
  rw [Nat.zero_mul] at h2
  have hg := (owns_ltK hv g rfl).1
  refine ⟨⟨?_, (ownsRow_blk h.ownQ (fun g' hg hl => ?_)).drew, h.low, (swap_alike vl a h0 ha).trans h.alikeV, h.alikeQ, fun z hz => h.memV z (swap_mem vl a h0 ha z hz), h.memQ, by rw [swap_len]; exact h.lenV, h.lenQ⟩, (below_setCells (below_setCells hb hg _ _) hg _ _).drew⟩
  · unfold swapL
    rw [hx, hy, hn]; exact h2.drew
  · have hne : g' ≠ g := by
      have := h.low g rfl
      have := (owns_ltK h.ownQ g' hg).1
      omega
    rw [block_setCells hne, block_setCells hne]

theorem Rows2.swQ {z3 z4 : Nat} {us : List Us} {ps : List (Int × Int)} {g qc np : Nat} {v : Value} {w wr : World} {vl : List Us} {ql : List (Int × Int)} (h : Rows2 z3 z4 us ps v (.slice (some ⟨g, 0, none⟩) np qc) wr vl ql) (hnp : ps.length = np) (hz : z3 ≤ z4) (hb : Below z3 w wr)
    (a : Nat) (h0 : 0 < ql.length) (ha : a < ql.length) (x y : Int × Int) (hx : ql[0] = x) (hy : ql[a] = y) (f : Nat) (hf : a * 2 = f) :
    Rows2 z3 z4 us ps v (.slice (some ⟨g, 0, none⟩) np qc) ((wr.setCells g 0 (encS y)).setCells g f (encS x)).drew vl (swapL ql a h0 ha) ∧ Below z3 w ((wr.setCells g 0 (encS y)).setCells g f (encS x)).drew := by
  subst hf
  have hv := h.ownQ
  rw [hnp] at hv
  have h1 := owns_setS hv 0 h0 y
  have h2 := owns_setS h1 a (by rw [List.length_set]; exact ha) x
  rw [Nat.zero_mul] at h2
  have hg := Nat.le_trans hz (owns_ltK hv g rfl).1
  refine ⟨⟨(ownsRow_blk h.ownV (fun g' hg hl => ?_)).drew, ?_, h.low, h.alikeV, (swap_alike ql a h0 ha).trans h.alikeQ, h.memV, fun z hz => h.memQ z (swap_mem ql a h0 ha z hz), h.lenV, by rw [swap_len]; exact h.lenQ⟩, (below_setCells (below_setCells hb hg _ _) hg _ _).drew⟩
  · have hne : g' ≠ g := by
      have := h.low g' hg
      have := (owns_ltK h.ownQ g rfl).1
      omega
    rw [block_setCells hne, block_setCells hne]
  · unfold swapL
    rw [hx, hy, hnp]; exact h2.drew

theorem Rows2.blockV {z3 z4 : Nat} {us : List Us} {ps : List (Int × Int)} {v q : Value} {wr : World} {vl : List Us} {ql : List (Int × Int)} (h : Rows2 z3 z4 us ps v q wr vl ql) {n : Nat} (hn : us.length = n) (h0 : 0 < n) : ∃ g c, v = .slice (some ⟨g, 0, none⟩) n c ∧ z3 ≤ g := by
  obtain ⟨g, c, _, hv, hg, _⟩ := h.ownV.2.resolve_left (fun h => by omega)
  rw [hn] at hv
  exact ⟨g, c, hv, hg⟩
theorem Rows2.blockQ {z3 z4 : Nat} {us : List Us} {ps : List (Int × Int)} {v q : Value} {wr : World} {vl : List Us} {ql : List (Int × Int)} (h : Rows2 z3 z4 us ps v q wr vl ql) {n : Nat} (hn : ps.length = n) (h0 : 0 < n) : ∃ g c, q = .slice (some ⟨g, 0, none⟩) n c ∧ z4 ≤ g := by
  obtain ⟨g, c, _, hv, hg, _⟩ := h.ownQ.2.resolve_left (fun h => by omega)
  rw [hn] at hv
  exact ⟨g, c, hv, hg⟩

/-- the cells of an element of a row of usages -/
theorem cellsU {w : World} {B e g n c : Nat} {l : List Us} (h : w.ownsRow B e 4 (.slice (some ⟨g, 0, none⟩) n c) n (l.flatMap encU)) (i : Nat) (hi : i < l.length) (x : Us) (hx : l[i] = x) :
    w.cell? ⟨g, i * 4, none⟩ = some (.int .i64 x.acc) ∧ w.cell? ⟨g, i * 4 + 1, none⟩ = some (.int .i64 x.rcd) ∧ w.cell? ⟨g, i * 4 + 2, none⟩ = some (.int .i64 x.val) ∧ w.cell? ⟨g, i * 4 + 3, none⟩ = some (.int .i64 x.held) := by
  obtain ⟨g0, g1, g2, g3⟩ := getU l i hi
  have hl := h.1
  rw [flat_length encU_len] at hl
  rw [hx] at g0 g1 g2 g3
  exact ⟨by rw [h.cellAt _ (by omega)]; exact g0, by rw [h.cellAt _ (by omega)]; exact g1, by rw [h.cellAt _ (by omega)]; exact g2, by rw [h.cellAt _ (by omega)]; exact g3⟩
theorem cellsS {w : World} {B e g n c : Nat} {l : List (Int × Int)} (h : w.ownsRow B e 2 (.slice (some ⟨g, 0, none⟩) n c) n (l.flatMap encS)) (i : Nat) (hi : i < l.length) (x : Int × Int) (hx : l[i] = x) :
    w.cell? ⟨g, i * 2, none⟩ = some (.int .i64 x.1) ∧ w.cell? ⟨g, i * 2 + 1, none⟩ = some (.int .i64 x.2) := by
  have g0 : ∀ (j : Nat) (v : Value), (encS l[i])[j]? = some v → (l.flatMap encS)[i * 2 + j]? = some v := fun j v hv => flat_get encS_len l i l[i] j v (List.getElem?_eq_getElem hi) hv
  have hl := h.1
  rw [flat_length encS_len] at hl
  rw [hx] at g0
  exact ⟨by rw [h.cellAt _ (by omega)]; exact g0 0 _ rfl, by rw [h.cellAt _ (by omega)]; exact g0 1 _ rfl⟩

theorem Rows2.part {z3 z4 : Nat} {us : List Us} {ps : List (Int × Int)} {g vc n : Nat} {q : Value} {w wr : World} {vl : List Us} {ql : List (Int × Int)} (h : Rows2 z3 z4 us ps (.slice (some ⟨g, 0, none⟩) n vc) q wr vl ql) (hn : us.length = n) (hb : Below z3 w wr) (hz : z3 ≤ w.heap.size)
    (k : Nat) (hk : k < vl.length) (x : Us) (hx : vl[k] = x) (A B : Int) (o : Obj) (wp : World) (hwp : wp = (((wr.setCell ⟨g, k * 4 + 2, none⟩ (.int .i64 A)).setCell ⟨g, k * 4 + 3, none⟩ (.int .i64 B)).alloc o).drew.drew) :
    wp.ownsRow z3 42 4 (.slice (some ⟨g, 0, none⟩) n vc) n ((vl.set k ⟨x.acc, x.rcd, A, B⟩).flatMap encU) ∧ wp.ownsRow z4 47 2 q ps.length (ql.flatMap encS) ∧ Below z3 w wp := by
  subst hwp
  have hv := h.ownV
  rw [hn] at hv
  have h1 := (hv.stored (k * 4 + 2) (.int .i64 A)).1
  rw [flat_val vl k hk, hx] at h1
  have h2 := (h1.stored (k * 4 + 3) (.int .i64 B)).1
  rw [flat_held _ k (by rw [List.length_set]; exact hk)] at h2
  simp only [List.getElem_set_self, List.set_set] at h2
  have hg := (owns_ltK hv g rfl).1
  refine ⟨(h2.alloc o).drew.drew, ((World.ownsRow.alloc (ownsRow_blk h.ownQ (fun g' hg' hl => ?_)) o).drew).drew, ?_⟩
  · have hne : g' ≠ g := by
      have := h.low g rfl
      have := (owns_ltK h.ownQ g' hg').1
      omega
    rw [Below.heap_setCell _ ⟨g, k * 4 + 3, none⟩ _ _ hne, Below.heap_setCell _ ⟨g, k * 4 + 2, none⟩ _ _ hne]
  · have b2 := (hb.setCell (p := ⟨g, k * 4 + 2, none⟩) hg (.int .i64 A)).setCell (p := ⟨g, k * 4 + 3, none⟩) hg (.int .i64 B)
    exact ((b2.alloc (Nat.le_trans hz b2.size) o).drew).drew

theorem small_U64 {l : List Us} (h : SmallU l) : U64 l := fun u hu => by
  have := h u hu
  exact ⟨WalkArith.wf_i64 (by omega), WalkArith.wf_i64 (by omega)⟩

/-- what the end of the law needs of the usages and payments in their new order -/
structure Ready (w0 wx : World) (us : List Us) (ps : List (Int × Int)) (vo : Option Addr) (vn : Nat) (qo : Option Addr) (np : Nat) (vl : List Us) (ql : List (Int × Int)) : Prop where
  rowV : RowK 4 encU wx vo vl
  rowQ : RowK 2 encS wx qo ql
  lenV : vl.length = vn
  lenQ : ql.length = np
  small : SmallU vl
  weq : WEq vl us
  alike : Alike ql ps
  s64 : S64 ql
  below : Below w0.heap.size w0 wx

theorem ready_parted {z4 : Nat} {us : List Us} {ps : List (Int × Int)} {g vc n np kk : Nat} {qo : Option Addr} {qc : Nat} {w0 wk wq w7 : World} {vl : List Us} {ql : List (Int × Int)} {v' : Value} {x : Us} {o : Obj}
    (h : Rows2 w0.heap.size z4 us ps (.slice (some ⟨g, 0, none⟩) n vc) (.slice qo np qc) wk vl ql) (hn : us.length = n) (hnp : ps.length = np) (hs : SmallU us) (hS : S64 ps) (hk : kk < vl.length) (hx : vl[kk] = x)
    (hq : wq.ownsRow z4 47 2 (.slice qo np qc) ps.length (ql.flatMap encS)) (hb : Below w0.heap.size w0 wq)
    (hv : wq.ownsRow w0.heap.size 42 4 (.slice (some ⟨g, 0, none⟩) n vc) n ((vl.set kk ⟨x.acc, x.rcd, x.val - x.val / 2, x.held - x.held / 3⟩).flatMap encU))
    (own : w7.ownsRow w0.heap.size 42 4 v' (n + 1) ((vl.set kk ⟨x.acc, x.rcd, x.val - x.val / 2, x.held - x.held / 3⟩).flatMap encU ++ encU ⟨x.acc, x.rcd, x.val / 2, x.held / 3⟩))
    (gr : (wq.alloc o).grownBy w7 (Value.slice (some ⟨g, 0, none⟩) n vc).ownBlock) :
    ∃ vo c, v' = .slice vo (n + 1) c ∧ Ready w0 w7 us ps vo (n + 1) qo np (partL vl kk hk) ql := by
  have e : (vl.set kk ⟨x.acc, x.rcd, x.val - x.val / 2, x.held - x.held / 3⟩).flatMap encU ++ encU ⟨x.acc, x.rcd, x.val / 2, x.held / 3⟩ = (partL vl kk hk).flatMap encU := by
    unfold partL; rw [hx, List.flatMap_append]; simp
  rw [e] at own
  obtain ⟨vo, c, hv', _, hrow⟩ := rowK_of_owns encU_len (by decide) own
  have hl : (partL vl kk hk).length = n + 1 := by unfold partL; rw [List.length_append, List.length_set, h.lenV, hn]; rfl
  rw [hl] at hv'
  have hsv : SmallU vl := fun u hu => hs u (h.memV u hu)
  have hg := h.low g rfl
  have hq7 : w7.ownsRow z4 47 2 (.slice qo np qc) ps.length (ql.flatMap encS) := ownsRow_blk (hq.alloc o) (fun g' hg' hl => gr.block g' hl (fun e => by
    have := (owns_ltK hq g' hg').1
    simp [Value.ownBlock] at e; omega))
  have hqr : RowK 2 encS w7 qo ql := by
    obtain ⟨ao, cp, hv2, _, hr⟩ := rowK_of_owns encS_len (by decide) hq7
    cases hv2; exact hr
  exact ⟨vo, c, hv', ⟨hrow, hqr, hl, by rw [h.lenQ, hnp], part_small hsv kk hk, fun all acc y => (part_weq kk hk all acc y).trans (h.alikeV.weq all acc y), h.alikeQ, fun s hs' => hS s (h.memQ s hs'), grown_own (hb.alloc hb.size o) (Nat.le_refl _) (hv.alloc o) gr⟩⟩

theorem ready_plain {z4 : Nat} {us : List Us} {ps : List (Int × Int)} {vc n np : Nat} {vo qo : Option Addr} {qc : Nat} {w0 wk : World} {vl : List Us} {ql : List (Int × Int)} 
    (h : Rows2 w0.heap.size z4 us ps (.slice vo n vc) (.slice qo np qc) wk vl ql) (hn : us.length = n) (hnp : ps.length = np) (hs : SmallU us) (hS : S64 ps) (hb : Below w0.heap.size w0 wk) : Ready w0 wk us ps vo n qo np vl ql := by
  refine ⟨?_, ?_, by rw [h.lenV, hn], by rw [h.lenQ, hnp], fun u hu => hs u (h.memV u hu), h.alikeV.weq, h.alikeQ, fun s hs' => hS s (h.memQ s hs'), hb⟩
  · obtain ⟨ao, cp, hv2, _, hr⟩ := rowK_of_owns encU_len (by decide) h.ownV
    cases hv2; exact hr
  · obtain ⟨ao, cp, hv2, _, hr⟩ := rowK_of_owns encS_len (by decide) h.ownQ
    cases hv2; exact hr

theorem usr_o {w : World} {s : List (Int × Int)} {so : Option Addr} {ns sc : Nat} {u : List Us} {uo : Option Addr} {n uc : Nat} (hls : s.length = ns) (h12 : ns ≤ 12) (hS : S64 s) (hrs : RowK 2 encS w so s) (hlu : u.length = n) (hn60 : n ≤ 60) (hU : U64 u) (hru : RowK 4 encU w uo u) (A : List (Int × Int)) (na : Nat) (r : Int) (hA : tidyL (userA u s).1 = A) (hn : A.length = na) (hr : (userA u s).2 = r) :
    Calls Try.prog 12 #[.slice so ns sc, .slice uo n uc] w fun e w' => ∃ ao ac, e = .returned (.tuple #[.slice ao na ac, .int .i64 r]) ∧ RowK 2 encS w' ao A ∧ Below w.heap.size w w' := by
  subst hA hn hr
  exact (user_any so uo sc uc ns n s u w (by omega) (by omega) hls hlu hrs hru hS hU).mono fun e w' ⟨ao, ac, h1, h2, h3, h4⟩ => ⟨ao, ac, h1, h3, h4⟩
theorem pro_o {w : World} {u : List Us} {uo : Option Addr} {n uc : Nat} (t : Int) (hlu : u.length = n) (hn60 : n ≤ 60) (hU : U64 u) (hru : RowK 4 encU w uo u) (M : List (Int × Int)) (nm : Nat) (hM : proL t u = M) (hn : M.length = nm) :
    Calls Try.prog 20 #[.int .i64 t, .slice uo n uc] w fun e w' => ∃ ao ac, e = .returned (.slice ao nm ac) ∧ RowK 2 encS w' ao M ∧ Below w.heap.size w w' := by
  subst hM hn
  refine (prorata_any t uo uc n u w (by omega) hlu hru hU).mono fun e w' hh => ?_
  rw [addAll_div t (weights_all true 0 u).1] at hh
  obtain ⟨ao, ac, h1, _, h3, h4⟩ := hh
  exact ⟨ao, ac, h1, h3, h4⟩
theorem same_o {w : World} {s t : List (Int × Int)} {so to : Option Addr} {ns sc tc : Nat} (hs : RowK 2 encS w so s) (ht : RowK 2 encS w to s) (hl : s.length = ns) (hn : ns ≤ 1000000) :
    Calls Try.prog 14 #[.slice so ns sc, .slice to ns tc] w fun e w' => e = .returned (.bool true) ∧ Below w.heap.size w w' :=
  (sameS_any so to sc tc s s ns ns w hl hl hn hs ht).mono (by rintro e w' ⟨rfl, m, rfl⟩; exact ⟨by simp, below_dn _ _⟩)

theorem user_leno {us : List Us} (hus : us.length ≤ 60) {l : List (Int × Int)} (hl : l.length ≤ 12) : (tidyL (userA us l).1).length ≤ 1000 := by
  have hb := user_bd us hus l l.length (Nat.le_refl _)
  rw [List.take_length] at hb
  have := List.length_filter_le (fun s : Int × Int => decide (0 < s.2)) (userA us l).1
  have h5 := hb.2.1
  unfold tidyL; omega
theorem pro_leno {u : List Us} (h : u.length ≤ 60) (t : Int) : (proL t u).length ≤ 1000000 := by
  have hw := (weights_bd true 0 u u.length (Nat.le_refl _)).2
  rw [List.take_length] at hw
  have hd := div_len_le t (weightsL true 0 u)
  have h2 := List.length_filter_le (fun s : Int × Int => decide (0 < s.2)) (divL t (weightsL true 0 u))
  unfold proL tidyL; omega

/-- the answers agree -/
theorem order_law {us vs : List Us} {ps qs : List (Int × Int)} (t : Int) (hus : us.length ≤ 60) (hu : SmallU us) (hv : SmallU vs) (h : WEq vs us) (hq : Alike qs ps) :
    tidyL (userA vs qs).1 = tidyL (userA us ps).1 ∧ (userA vs qs).2 = (userA us ps).2 ∧ proL t vs = proL t us := by
  have e : userA vs qs = userA us qs := userA_eq (fun acc => weights_eq hv hu h false acc) qs
  rw [e]
  obtain ⟨h1, h2⟩ := user_alike us hus hq
  exact ⟨h1, h2, by unfold proL; rw [weights_eq hv hu h true 0]⟩

end Go.Proofs.Ytbkmcncakpmgkaa
