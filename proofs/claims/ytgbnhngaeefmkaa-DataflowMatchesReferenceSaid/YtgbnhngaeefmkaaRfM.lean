import Derived.Test.YtgbnhngaeefmkaaRf

/-! The reference: add. -/
namespace Go.Proofs.Ytgbnhngaeefmkaa
set_option linter.unusedVariables false
set_option linter.unusedSimpArgs false
open Go.RowKit

/-- a row of entries of the call's own -/
structure EntO (base : Nat) (v : Value) (n : Nat) (L : List REn) (w : World) : Prop where
  row : w.ownsRow base 85 5 v n (L.flatMap encR)
theorem EntO.later {base : Nat} {v : Value} {n : Nat} {l : List REn} {w w' : World} (h : EntO base v n l w) (hb : Below w.heap.size w w') : EntO base v n l w' := ⟨ownsRow_blk h.row (fun g _ hl => hb.block g hl)⟩
theorem EntO.nil (base : Nat) (w : World) : EntO base (.slice none 0 0) 0 [] w := ⟨World.ownsRow_nil _ _ _ _⟩
theorem Try.infoEnt : (Try.prog.info? 85).map (fun i => (i.zero, i.size, i.bytes)) = some (some (.agg #[.string (ByteArray.mk #[]), .string (ByteArray.mk #[]), .bool false, .bool false, .slice none 0 0]), 5, 64) := by kernel_rfl
theorem flatR_one (L : List REn) : ∀ u ∈ L.flatMap encR, u.oneCell' = true := fun u hu => by
  obtain ⟨x, _, h⟩ := List.mem_flatMap.1 hu
  exact encR_one x u h

/-- append(out, entries...) -/
theorem wp_appE {W w : World} {ops : Array Oper} {rest : List Oper} {o : Oper} {a : Act} {Q : Exit → Act → World → Prop} (hgd : o.guard = none) (s x : Operand) (ho : o.op = .call { callee := .builtin .append, args := #[s, x], argTypes := #[42, 42] })
    {base n m c q : Nat} {v : Value} {ad : Addr} {A M : List REn} (hs : a.eval s = v) (h : EntO base v n A w) (hlow : Below base W w) (hb : base ≤ w.heap.size) (hq : n + m = q) (hq5 : q ≤ 100000) (hx : a.eval x = .slice (some ad) m c) (hm : M.length = m) (hc : ∀ j u, (M.flatMap encR)[j]? = some u → w.cell? (ad.add j) = some u)
    (hk : ∀ xo xc w', EntO base (.slice xo q xc) q (A ++ M) w' → Below base W w' → wpList Try.prog ops Q rest (a.put o.dst (.slice xo q xc)) w') : wpList Try.prog ops Q (o :: rest) a w := by
  subst hq
  obtain ⟨i0, hi, hz0, hz1, hz2⟩ := info_parts Try.infoEnt
  refine wpList_append_own _ hgd s x 42 ho base 85 i0 _ 5 64 Try.underlying42 hi hz0 hz1 hz2 rfl (by decide) _ _ _ hs h.row ad m c (M.flatMap encR) hx (by rw [flat_length encR_len, hm]) hc (flatR_one M) (by unfold maxLen; omega) (by omega) hb ?_
  intro v' w' own gr _
  obtain ⟨xo, xc, rfl⟩ : ∃ xo xc, v' = .slice xo (n + m) xc := by
    rw [← List.flatMap_append] at own
    have h1 := own.1
    rw [flat_length encR_len] at h1
    obtain ⟨xo, xc, e, _⟩ := rowK_of_owns encR_len (by decide) own
    exact ⟨xo, xc, by rw [e, show (A ++ M).length = n + m from by omega]⟩
  refine hk _ _ _ ⟨by rw [List.flatMap_append]; exact own⟩ (hlow.grown gr hb (fun j hj => ?_))
  exact (owns_ltK h.row j hj).1
theorem wp_appN {w : World} {ops : Array Oper} {rest : List Oper} {o : Oper} {a : Act} {Q : Exit → Act → World → Prop} (hgd : o.guard = none) (s x : Operand) (ho : o.op = .call { callee := .builtin .append, args := #[s, x], argTypes := #[42, 42] })
    {base n : Nat} {v : Value} {A : List REn} (hs : a.eval s = v) (h : EntO base v n A w) (hx : a.eval x = .slice none 0 0)
    (hk : wpList Try.prog ops Q rest (a.put o.dst v) w) : wpList Try.prog ops Q (o :: rest) a w := by
  obtain ⟨i0, hi, hz0, hz1, hz2⟩ := info_parts Try.infoEnt
  exact wpList_append_own_none hgd s x 42 ho base 85 i0 5 Try.underlying42 hi _ _ _ hs h.row hx hk

theorem insF_mid {x : En} : ∀ {a b : List En}, (∀ y ∈ a, ¬ ltB x.nm y.nm) → (∀ y ∈ b, ltB x.nm y.nm) → insF x (a ++ b) = a ++ x :: b
  | [], [], _, _ => rfl
  | [], y :: t, _, h => by
    show (if ltB x.nm y.nm then x :: y :: t else y :: insF x t) = _
    rw [if_pos (h y (by simp))]; rfl
  | y :: t, b, h, h2 => by
    show (if ltB x.nm y.nm then x :: y :: (t ++ b) else y :: insF x (t ++ b)) = _
    rw [if_neg (h y (by simp)), insF_mid (fun z hz => h z (by simp [hz])) h2]; rfl
theorem insF_at {x : En} {F : List En} (hS : SortedF F) {k : Nat} (hhi : ∀ j y, k ≤ j → F[j]? = some y → ltB x.nm y.nm) (hlo : k = 0 ∨ ∃ y, F[k - 1]? = some y ∧ ¬ ltB x.nm y.nm) : insF x F = F.take k ++ x :: F.drop k := by
  have h := insF_mid (x := x) (a := F.take k) (b := F.drop k) (fun y hy => by
    rcases hlo with rfl | ⟨z, hz, hn⟩
    · simp at hy
    · obtain ⟨j, hj⟩ := List.mem_iff_getElem?.1 hy
      rw [List.getElem?_take] at hj
      split at hj
      · rename_i hjk
        rcases Nat.lt_or_ge j (k - 1) with q | q
        · obtain ⟨jl, je⟩ := List.getElem?_eq_some_iff.1 hj
          obtain ⟨kl, ke⟩ := List.getElem?_eq_some_iff.1 hz
          have hp := List.pairwise_iff_getElem.1 hS j (k - 1) jl kl q
          rw [je, ke] at hp
          exact fun e => hn (ltB_trans e hp)
        · have : j = k - 1 := by omega
          subst this
          rw [hz] at hj; cases hj; exact hn
      · cases hj) (fun y hy => by
    obtain ⟨j, hj⟩ := List.mem_iff_getElem?.1 hy
    rw [List.getElem?_drop] at hj
    exact hhi (k + j) y (by omega) hj)
  rw [List.take_append_drop] at h
  exact h

theorem add_addr (b o j : Nat) : (⟨b, o, none⟩ : Addr).add j = ⟨b, o + j, none⟩ := by unfold Addr.add; split <;> simp_all
section
variable {B : Nat} {w : World} {r g n cap : Nat} {L : List REn}
theorem RefR.flat (h : RefR B w r (.slice (some ⟨g, 0, none⟩) n cap) L) : ∀ j u, (L.flatMap encR)[j]? = some u → w.cell? ⟨g, j, none⟩ = some u := fun j u hu => by
  rcases h.open with ⟨q, _⟩ | ⟨g', cap', cur, h1, _, _, h4, h5, _⟩
  · cases q
  · cases h1
    refine cell_blk h4 ?_
    rw [← h5, List.getElem?_take] at hu
    split at hu
    · rw [← Array.getElem?_toList]; exact hu
    · cases hu
theorem RefR.take_cells (h : RefR B w r (.slice (some ⟨g, 0, none⟩) n cap) L) (k : Nat) : ∀ j u, ((L.take k).flatMap encR)[j]? = some u → w.cell? ((⟨g, 0, none⟩ : Addr).add j) = some u := fun j u hu => by
  rw [add_addr, Nat.zero_add]
  refine h.flat j u ?_
  rw [← List.take_append_drop k L, List.flatMap_append, List.getElem?_append_left (List.getElem?_eq_some_iff.1 hu).1]
  exact hu
theorem RefR.drop_cells (h : RefR B w r (.slice (some ⟨g, 0, none⟩) n cap) L) {k : Nat} (hk : k ≤ L.length) : ∀ j u, ((L.drop k).flatMap encR)[j]? = some u → w.cell? ((⟨g, k * 5, none⟩ : Addr).add j) = some u := fun j u hu => by
  rw [add_addr]
  refine h.flat _ u ?_
  have hl : ((L.take k).flatMap encR).length = k * 5 := by rw [flat_length encR_len, List.length_take, Nat.min_eq_left hk]
  rw [← List.take_append_drop k L, List.flatMap_append, List.getElem?_append_right (by rw [hl]; omega), hl, Nat.add_sub_cancel_left]
  exact hu
theorem RefR.drop_at (h : RefR B w r (.slice (some ⟨g, 0, none⟩) n cap) L) {k : Nat} (hk : k ≤ L.length) (hc : cap = k → k = L.length) : ∀ j u, ((L.drop k).flatMap encR)[j]? = some u → w.cell? ((if cap = k then (⟨g, 0, none⟩ : Addr) else ⟨g, k * 5, none⟩).add j) = some u := fun j u hu => by
  by_cases e : cap = k
  · rw [List.drop_eq_nil_of_le (by have := hc e; omega)] at hu; simp at hu
  · rw [if_neg e]; exact h.drop_cells hk j u hu
end

def AddE (B : Nat) (w : World) (r : Nat) (F : List En) (x : En) (e : Ending) (w' : World) : Prop := e = .returned (.tuple #[]) ∧ ∃ v' L', RefR B w' r v' L' ∧ L'.map (·.e) = insF x F ∧ RMv B w w'

set_option maxRecDepth 100000 in
set_option maxHeartbeats 2000000 in
theorem radd_some {B : Nat} {w : World} {r g n cap : Nat} {L : List REn} (h : RefR B w r (.slice (some ⟨g, 0, none⟩) n cap) L) (hnl : L.length = n) (hcap : n ≤ cap) (hB : B ≤ w.heap.size) (hn : L.length ≤ 1000) (hS : SortedF (L.map (·.e))) (x : REn) (hx : RowO B (.slice x.ao x.ln x.cap) x.ln x.e.rds w) (hno : ∀ y ∈ L, y.e.nm ≠ x.e.nm) :
    Calls Try.prog 39 #[.pointer (some ⟨r, 0, none⟩), .agg #[.string x.e.nm, .string x.e.val, .bool x.e.node, .bool x.e.stale, .slice x.ao x.ln x.cap]] w (AddE B w r (L.map (·.e)) x.e) := by
  obtain ⟨ao', cap', e', hrow⟩ := h.sl
  rw [hnl] at hn e'
  cases e'
  obtain ⟨w1, hw1⟩ : ∃ w1, w.alloc (.cells #[.string x.e.nm, .string x.e.val, .bool x.e.node, .bool x.e.stale, .slice x.ao x.ln x.cap] 85) = w1 := ⟨_, rfl⟩
  have BX := Lib.hid (show ∀ w', Below w1.heap.size w1 w' → ∀ j u, (encR x)[j]? = some u → w'.cell? ⟨w.heap.size, j, none⟩ = some u from fun w' hb j u hu => by
    have hb0 : w1.heap[w.heap.size]? = some (.cells (encR x).toArray 85 (0, 0)) := by rw [← hw1]; exact World.alloc_heap_new w _
    exact cell_blk ((hb.block _ (lt_of_blk hb0)).trans hb0) (by rw [List.getElem?_toArray]; exact hu))
  have B1 := Lib.hid (show Below w.heap.size w w1 from by rw [← hw1]; exact (Below.refl _ w).alloc (Nat.le_refl _) _)
  have HW1 := Lib.hid hw1
  have H0 := Lib.hid h
  have HN := Lib.hid hnl
  have HR := Lib.hid hrow
  have HX := Lib.hid hx
  have HS := Lib.hid hS
  have NO := Lib.hid hno
  clear hno h hnl hrow hx hS hw1
  go_enter Try.func39, Try.ntmps39
  go_upto_region 1 with (fail)
  rw [HW1.out]
  have cv1 := (H0.out.later B1.out).vcell
  go_wp2_with fail
  go_loopw [4] (fun i wr => ∃ k : Nat, k ≤ n ∧ i = .int .i64 (k : Int) ∧ Below w1.heap.size w1 wr ∧ ∀ j y, k ≤ j → L[j]? = some y → ltB x.e.nm y.e.nm) (fun i _ => (intOf i).toNat)
  case atStart => exact ⟨n, Nat.le_refl _, rfl, Below.refl _ w1, fun j y hj hy => absurd (List.getElem?_eq_some_iff.1 hy).1 (by rw [HN.out]; omega)⟩
  case round =>
    obtain ⟨k, hk, rfl, hb1, hhi⟩ := hrel
    have BR := Lib.hid hb1
    have HI := Lib.hid hhi
    clear hb1 hhi
    have BW := Lib.hid (B1.out.trans (BR.out.mono B1.out.size))
    have cv := (H0.out.later BW.out).vcell
    have cx := BX.out wr BR.out 0 _ rfl
    have k0 : (0 : Int) ≤ (k : Int) := by omega
    by_cases hkz : k = 0
    case' pos =>
      have kz : ¬ (0 : Int) < (k : Int) := by omega
      have dz : decide ((0 : Int) < (k : Int)) = false := decide_eq_false kz
      have LO := Lib.hid (show k = 0 ∨ ∃ y, (L.map (·.e))[k - 1]? = some y ∧ ¬ ltB x.e.nm y.nm from .inl hkz)
      go_upto_region 2 with (fail)
      go_quiet (fail)
      go_upto_region 4 with (fail)
      clear hkz kz dz
    case' neg =>
      obtain ⟨t, ht⟩ : ∃ t, k = t + 1 := ⟨k - 1, by omega⟩
      have kz : (0 : Int) < (k : Int) := by omega
      have dz : decide ((0 : Int) < (k : Int)) = true := decide_eq_true kz
      have ek : (k : Int) - 1 = (t : Int) := by omega
      have htn : t < n := by omega
      have tn : (t : Int) < (n : Int) := by omega
      have t0 : (0 : Int) ≤ (t : Int) := by omega
      have dt0 : decide ((t : Int) < 0) = false := decide_eq_false (by omega)
      have dtn : decide (n ≤ t) = false := decide_eq_false (by omega)
      have dtn2 : decide ((n : Int) ≤ (t : Int)) = false := decide_eq_false (by omega)
      have HY := Lib.hid (show L[t]? = some (L[t]'(by rw [HN.out]; exact htn)) from List.getElem?_eq_getElem _)
      obtain ⟨y, hy⟩ : ∃ y, L[t]'(by rw [HN.out]; exact htn) = y := ⟨_, rfl⟩
      rw [hy] at HY
      clear hy
      obtain ⟨g', o, e', _, hce⟩ := (HR.out.later BW.out) t y HY.out
      cases e'
      have cy : wr.cell? ⟨g, t * 5, none⟩ = some (.string y.e.nm) := by have q := hce 0 _ rfl; rwa [Nat.zero_add, Nat.add_zero] at q
      have hne := NO.out y (List.mem_of_getElem? HY.out)
      have q2 : (y.e.nm.toList == x.e.nm.toList) = false := (Lib.bytes_beq_false_iff _ _).2 hne
      clear hce
      by_cases hlt : ltB x.e.nm y.e.nm
      case' pos =>
        have q1 := less_f (fun q => ltB_irr _ (ltB_trans hlt q))
        have NX := Lib.hid (show ∀ j z, t ≤ j → L[j]? = some z → ltB x.e.nm z.e.nm from fun j z hj hz => by
          rcases Nat.lt_or_ge j k with q | q
          · have : j = t := by omega
            subst this
            rw [HY.out] at hz; cases hz; exact hlt
          · exact HI.out j z q hz)
        clear hlt
        go_upto_region 2 with (fail)
        go_quiet (fail)
        go_wp2
        clear ek
        go_roundw
        case rel => exact ⟨t, by omega, by go_num, BR.out.trans ((below_dn wr _).mono BR.out.size), NX.out⟩
        case measure => simp [intOf]; omega
      case' neg =>
        have q1 := less_t (show ltB y.e.nm x.e.nm from by
          rcases ltB_tri y.e.nm x.e.nm with q | q | q
          · exact q
          · exact absurd q hne
          · exact absurd q hlt)
        have LO := Lib.hid (show k = 0 ∨ ∃ y, (L.map (·.e))[k - 1]? = some y ∧ ¬ ltB x.e.nm y.nm from .inr ⟨y.e, by rw [List.getElem?_map, show k - 1 = t from by omega, HY.out]; rfl, hlt⟩)
        clear hlt
        go_upto_region 2 with (fail)
        go_quiet (fail)
        go_upto_region 4 with (fail)
        clear ek ht kz dz hkz
    all_goals
      obtain ⟨w2, hw2⟩ : ∃ w2, wr.drewN nq = w2 := ⟨_, rfl⟩
      have BX2 := Lib.hid (show Below w1.heap.size w1 w2 from by rw [← hw2]; exact BR.out.trans ((below_dn wr _).mono BR.out.size))
      rw [hw2]
      clear hw2
      have B2 := Lib.hid (B1.out.trans (BX2.out.mono B1.out.size))
      have R2 := Lib.hid (H0.out.later B2.out)
      have cv2 := R2.out.vcell
      have kc : (k : Int) ≤ (cap : Int) := by omega
      have kn : (k : Int) ≤ (n : Int) := by omega
      have nc : (n : Int) ≤ (cap : Int) := by omega
      have TKL := Lib.hid (show (L.take k).length = k from by rw [List.length_take, HN.out]; omega)
      have DKL := Lib.hid (show (L.drop k).length = n - k from by rw [List.length_drop, HN.out])
      by_cases hck : cap = k
      case' pos =>
        have DC := Lib.hid (show ∀ w3, Below w2.heap.size w2 w3 → ∀ j u, ((L.drop k).flatMap encR)[j]? = some u → w3.cell? ((⟨g, 0, none⟩ : Addr).add j) = some u from fun w3 _ j u hu => by
          rw [List.drop_eq_nil_of_le (by rw [HN.out]; omega)] at hu; simp at hu)
      case' neg =>
        have DC := Lib.hid (show ∀ w3, Below w2.heap.size w2 w3 → ∀ j u, ((L.drop k).flatMap encR)[j]? = some u → w3.cell? ((⟨g, k * 5, none⟩ : Addr).add j) = some u from fun w3 hb => (R2.out.later hb).drop_cells (by rw [HN.out]; exact hk))
      all_goals
        go_wp2_with (first
          | (at_builtin; refine wp_appE (W := w2) (base := w2.heap.size) rfl (.tmp 29) (.tmp 35) rfl rfl (EntO.nil _ _) (Below.refl _ _) (Nat.le_refl _) (Nat.zero_add k) (by omega) rfl TKL.out (R2.out.take_cells k) ?_; intro xo5 xc5 w5 h5 l5; have H5 := Lib.hid h5; have L5 := Lib.hid l5; have BX5 := Lib.hid (BX2.out.trans (l5.mono BX2.out.size)); have cx0 : w5.cell? ⟨w.heap.size, 0, none⟩ = some (.string x.e.nm) := BX.out w5 BX5.out 0 _ rfl; have cx1 : w5.cell? ⟨w.heap.size, 1, none⟩ = some (.string x.e.val) := BX.out w5 BX5.out 1 _ rfl; have cx2 : w5.cell? ⟨w.heap.size, 2, none⟩ = some (.bool x.e.node) := BX.out w5 BX5.out 2 _ rfl; have cx3 : w5.cell? ⟨w.heap.size, 3, none⟩ = some (.bool x.e.stale) := BX.out w5 BX5.out 3 _ rfl; have cx4 : w5.cell? ⟨w.heap.size, 4, none⟩ = some (.slice x.ao x.ln x.cap) := BX.out w5 BX5.out 4 _ rfl; clear h5 l5)
          | (at_builtin; refine wp_appE (W := w2) (base := w2.heap.size) (M := [x]) rfl (.tmp 37) (.tmp 39) rfl rfl (H5.out.later ((Below.refl _ w5).alloc (Nat.le_refl _) _)) (L5.out.alloc L5.out.size _) (Nat.le_trans L5.out.size (by simp)) (rfl : k + 1 = k + 1) (by omega) rfl rfl (cells_at w5 (encR x) 85 w5.heap.size rfl) ?_; intro xo6 xc6 w6 h6 l6; have H6 := Lib.hid h6; have L6 := Lib.hid l6; have R6 := Lib.hid (R2.out.later l6); have cv6 := R6.out.vcell; clear h6 l6)
          | (at_builtin; refine wp_appE (W := w2) (base := w2.heap.size) (M := L.drop k) rfl (.tmp 42) (.tmp 48) rfl rfl H6.out L6.out L6.out.size (show k + 1 + (n - k) = n + 1 by omega) (by omega) rfl DKL.out (DC.out w6 L6.out) ?_; intro xo7 xc7 w7 h7 l7; have H7 := Lib.hid h7; have L7 := Lib.hid l7; have R7 := Lib.hid (R2.out.later l7); have cv7 := R7.out.vcell; have fv7 := R7.out.vfrz; clear h7 l7))
        go_end0
        have HL := Lib.hid (insF_at (x := x.e) (F := L.map (·.e)) HS.out (k := k) (fun j y hj hy => by
          rw [List.getElem?_map] at hy
          rcases q : L[j]? with _ | z
          · rw [q] at hy; cases hy
          · rw [q] at hy; cases hy; exact HI.out j z hj q) LO.out)
        have hlen : (([] ++ L.take k) ++ [x] ++ L.drop k).length = n + 1 := by
          rw [List.length_append, List.length_append, List.length_append, TKL.out, DKL.out]; simp; omega
        have NV := R7.out.newv (v' := .slice xo7 (n + 1) xc7) (L' := ([] ++ L.take k) ++ [x] ++ L.drop k) (by rw [hlen]; exact ownsRow_base H7.out.row (Nat.le_trans hB B2.out.size)) (fun z hz => by
          have B7 := B2.out.trans (L7.out.mono B2.out.size)
          rcases List.mem_append.1 hz with hz | hz
          · rcases List.mem_append.1 hz with hz | hz
            · exact R7.out.rds z (List.mem_of_mem_take (by simpa using hz))
            · rw [List.mem_singleton] at hz; subst hz; exact HX.out.later B7
          · exact R7.out.rds z (List.mem_of_mem_drop hz))
        refine ⟨rfl, _, _, NV.1, ?_, (RMv.of_below (B2.out.trans (L7.out.mono B2.out.size))).trans NV.2⟩
        rw [HL.out]
        simp

set_option maxRecDepth 100000 in
set_option maxHeartbeats 2000000 in
theorem radd_none {B : Nat} {w : World} {r : Nat} (h : RefR B w r (.slice none 0 0) []) (hB : B ≤ w.heap.size) (x : REn) (hx : RowO B (.slice x.ao x.ln x.cap) x.ln x.e.rds w) :
    Calls Try.prog 39 #[.pointer (some ⟨r, 0, none⟩), .agg #[.string x.e.nm, .string x.e.val, .bool x.e.node, .bool x.e.stale, .slice x.ao x.ln x.cap]] w (AddE B w r [] x.e) := by
  obtain ⟨w1, hw1⟩ : ∃ w1, w.alloc (.cells #[.string x.e.nm, .string x.e.val, .bool x.e.node, .bool x.e.stale, .slice x.ao x.ln x.cap] 85) = w1 := ⟨_, rfl⟩
  have BX := Lib.hid (show ∀ w', Below w1.heap.size w1 w' → ∀ j u, (encR x)[j]? = some u → w'.cell? ⟨w.heap.size, j, none⟩ = some u from fun w' hb j u hu => by
    have hb0 : w1.heap[w.heap.size]? = some (.cells (encR x).toArray 85 (0, 0)) := by rw [← hw1]; exact World.alloc_heap_new w _
    exact cell_blk ((hb.block _ (lt_of_blk hb0)).trans hb0) (by rw [List.getElem?_toArray]; exact hu))
  have B1 := Lib.hid (show Below w.heap.size w w1 from by rw [← hw1]; exact (Below.refl _ w).alloc (Nat.le_refl _) _)
  have HW1 := Lib.hid hw1
  have H0 := Lib.hid h
  have HX := Lib.hid hx
  clear h hx hw1
  go_enter Try.func39, Try.ntmps39
  go_upto_region 1 with (fail)
  rw [HW1.out]
  have cv1 := (H0.out.later B1.out).vcell
  go_wp2_with fail
  go_loopw [4] (fun i wr => i = .int .i64 0 ∧ Below w1.heap.size w1 wr) (fun i _ => (intOf i).toNat)
  case atStart => exact ⟨rfl, Below.refl _ w1⟩
  case round =>
    obtain ⟨rfl, hb1⟩ := hrel
    have BR := Lib.hid hb1
    clear hb1
    have dz : decide ((0 : Int) < 0) = false := by decide
    go_upto_region 2 with (fail)
    go_quiet (fail)
    go_upto_region 4 with (fail)
    obtain ⟨w2, hw2⟩ : ∃ w2, wr.drewN nq = w2 := ⟨_, rfl⟩
    have BX2 := Lib.hid (show Below w1.heap.size w1 w2 from by rw [← hw2]; exact BR.out.trans ((below_dn wr _).mono BR.out.size))
    rw [hw2]
    clear hw2
    have B2 := Lib.hid (B1.out.trans (BX2.out.mono B1.out.size))
    have R2 := Lib.hid (H0.out.later B2.out)
    have cv2 := R2.out.vcell
    have cx0 : w2.cell? ⟨w.heap.size, 0, none⟩ = some (.string x.e.nm) := BX.out w2 BX2.out 0 _ rfl
    have cx1 : w2.cell? ⟨w.heap.size, 1, none⟩ = some (.string x.e.val) := BX.out w2 BX2.out 1 _ rfl
    have cx2 : w2.cell? ⟨w.heap.size, 2, none⟩ = some (.bool x.e.node) := BX.out w2 BX2.out 2 _ rfl
    have cx3 : w2.cell? ⟨w.heap.size, 3, none⟩ = some (.bool x.e.stale) := BX.out w2 BX2.out 3 _ rfl
    have cx4 : w2.cell? ⟨w.heap.size, 4, none⟩ = some (.slice x.ao x.ln x.cap) := BX.out w2 BX2.out 4 _ rfl
    go_wp2_with (first
      | (at_builtin; refine wp_appN rfl (.tmp 29) (.tmp 35) rfl rfl (EntO.nil w2.heap.size _) rfl ?_)
      | (at_builtin; refine wp_appE (W := w2) (base := w2.heap.size) (A := []) (M := [x]) rfl (.tmp 37) (.tmp 39) rfl rfl (EntO.nil _ _) ((Below.refl _ w2).alloc (Nat.le_refl _) _) (by simp) (rfl : 0 + 1 = 1) (by omega) rfl rfl (cells_at w2 (encR x) 85 w2.heap.size rfl) ?_; intro xo6 xc6 w6 h6 l6; have H6 := Lib.hid h6; have L6 := Lib.hid l6; have R6 := Lib.hid (R2.out.later l6); have cv6 := R6.out.vcell; have fv6 := R6.out.vfrz; clear h6 l6)
      | (at_builtin; refine wp_appN rfl (.tmp 42) (.tmp 48) rfl rfl H6.out rfl ?_))
    go_end0
    have B6 := B2.out.trans (L6.out.mono B2.out.size)
    have NV := R6.out.newv (v' := .slice xo6 1 xc6) (L' := [] ++ [x]) (ownsRow_base H6.out.row (Nat.le_trans hB B2.out.size)) (fun z hz => by
      rw [List.nil_append, List.mem_singleton] at hz; subst hz; exact HX.out.later B6)
    exact ⟨rfl, _, _, NV.1, rfl, (RMv.of_below B6).trans NV.2⟩

theorem radd_any {B : Nat} {w : World} {r : Nat} {v : Value} {L : List REn} (h : RefR B w r v L) (hB : B ≤ w.heap.size) (hn : L.length ≤ 1000) (hS : SortedF (L.map (·.e))) (x : REn) (hx : RowO B (.slice x.ao x.ln x.cap) x.ln x.e.rds w) (hno : ∀ y ∈ L, y.e.nm ≠ x.e.nm) :
    Calls Try.prog 39 #[.pointer (some ⟨r, 0, none⟩), .agg #[.string x.e.nm, .string x.e.val, .bool x.e.node, .bool x.e.stale, .slice x.ao x.ln x.cap]] w (AddE B w r (L.map (·.e)) x.e) := by
  rcases h.open with ⟨rfl, rfl⟩ | ⟨g, cap, cur, rfl, _, hc, _⟩
  · exact radd_none h hB x hx
  · exact radd_some h rfl hc hB hn hS x hx hno

end Go.Proofs.Ytgbnhngaeefmkaa

/-! The reference: Set, Drop. -/
namespace Go.Proofs.Ytgbnhngaeefmkaa
set_option linter.unusedVariables false
set_option linter.unusedSimpArgs false
open Go.RowKit

/-- what Set, Put and Drop do -/
def RStE (B : Nat) (w : World) (r : Nat) (F' : List En) (c : Int) (e : Ending) (w' : World) : Prop := e = .returned (.int .i64 c) ∧ ∃ v' L', RefR B w' r v' L' ∧ L'.map (·.e) = F' ∧ RMv B w w'

theorem sorted_ne {L : List REn} (hS : SortedF (L.map (·.e))) {k i : Nat} {x y : REn} (hx : L[k]? = some x) (hy : L[i]? = some y) (hne : i ≠ k) : y.e.nm ≠ x.e.nm := fun e => by
  obtain ⟨kl, ke⟩ := List.getElem?_eq_some_iff.1 hx
  obtain ⟨il, ie⟩ := List.getElem?_eq_some_iff.1 hy
  have hp := List.pairwise_iff_getElem.1 hS
  rcases Nat.lt_or_ge i k with q | q
  · have h := hp i k (by simpa using il) (by simpa using kl) q
    rw [List.getElem_map, List.getElem_map, ke, ie, e] at h; exact ltB_irr _ h
  · have h := hp k i (by simpa using kl) (by simpa using il) (by omega)
    rw [List.getElem_map, List.getElem_map, ke, ie, e] at h; exact ltB_irr _ h

theorem set_upd {L : List REn} (hS : SortedF (L.map (·.e))) {k : Nat} {x : REn} (hx : L[k]? = some x) (x' : REn) (gE : En → En) (he : x'.e = gE x.e) : (L.set k x').map (·.e) = updF (L.map (·.e)) x.e.nm gE := by
  obtain ⟨kl, ke⟩ := List.getElem?_eq_some_iff.1 hx
  apply List.ext_getElem?
  intro i
  unfold updF
  rw [List.map_map, List.getElem?_map, List.getElem?_map, List.getElem?_set]
  by_cases hi : k = i
  · subst hi
    rw [if_pos rfl, if_pos kl, hx]
    simp [he]
  · rw [if_neg hi]
    rcases q : L[i]? with _ | y
    · rfl
    · have := sorted_ne hS hx q (fun e => hi e.symm)
      simp [this]

theorem drop_out {L : List REn} (hS : SortedF (L.map (·.e))) {k : Nat} {x : REn} (hx : L[k]? = some x) : (L.take k ++ L.drop (k + 1)).map (·.e) = outF (L.map (·.e)) x.e.nm := by
  obtain ⟨kl, ke⟩ := List.getElem?_eq_some_iff.1 hx
  have hL : L = L.take k ++ x :: L.drop (k + 1) := by
    conv => lhs; rw [← List.take_append_drop k L, List.drop_eq_getElem_cons kl, ke]
  unfold outF
  have h1 : ∀ y ∈ L.take k, y.e.nm ≠ x.e.nm := fun y hy => by
    obtain ⟨j, hj⟩ := List.mem_iff_getElem?.1 hy
    rw [List.getElem?_take] at hj
    split at hj
    · exact sorted_ne hS hx hj (by omega)
    · cases hj
  have h2 : ∀ y ∈ L.drop (k + 1), y.e.nm ≠ x.e.nm := fun y hy => by
    obtain ⟨j, hj⟩ := List.mem_iff_getElem?.1 hy
    rw [List.getElem?_drop] at hj
    exact sorted_ne hS hx hj (by omega)
  conv => rhs; rw [hL]
  rw [List.map_append, List.map_append, List.map_cons, List.filter_append, List.filter_cons]
  rw [if_neg (by simp)]
  congr 1
  · rw [List.filter_eq_self.2]
    intro e he
    obtain ⟨y, hy, rfl⟩ := List.mem_map.1 he
    simpa using h1 y hy
  · rw [List.filter_eq_self.2]
    intro e he
    obtain ⟨y, hy, rfl⟩ := List.mem_map.1 he
    simpa using h2 y hy

theorem chgF_some {F : List En} {n v : ByteArray} {e : En} (he : atF F n = some e) : chgF F n v = if e.val = v then F else markF (updF F n fun e => { e with val := v }) n := by
  unfold chgF; rw [he]

section
variable {B : Nat} {w : World} {r : Nat} {v : Value} {L : List REn}

theorem RefR.names (h : RefR B w r v L) {nm : ByteArray} (hn : atF (L.map (·.e)) nm = none) : ∀ y ∈ L, y.e.nm ≠ nm := fun y hy => atF_none hn y.e (List.mem_map.2 ⟨y, hy, rfl⟩)
theorem good_rl (hG : Good (L.map (·.e))) (hn : L.length ≤ 1000) : ∀ x ∈ L, x.e.rds.length ≤ 1000 := fun x hx => by
  have := hG.rlen x.e (List.mem_map.2 ⟨x, hx, rfl⟩)
  rw [List.length_map] at this; omega

set_option maxRecDepth 100000 in
set_option maxHeartbeats 2000000 in
theorem rset_any (h : RefR B w r v L) (hB : B ≤ w.heap.size) (hG : Good (L.map (·.e))) (hn : L.length ≤ 900) (nm val : ByteArray) :
    Calls Try.prog 14 #[.pointer (some ⟨r, 0, none⟩), .string nm, .string val] w (RStE B w r (setF (L.map (·.e)) nm val) (if setOk (L.map (·.e)) nm = true then 0 else 200)) := by
  have AT := Lib.hid (rat_any h (by omega) nm)
  rcases he : atF (L.map (·.e)) nm with _ | e
  · have A := Lib.hid (AT.out (-1) (AtR.none he))
    rcases hnn : nm.toList.isEmpty with _ | _
    · have hn2 : (nm.toList == []) = false := by rcases hh : nm.toList with _ | ⟨a, r⟩ <;> simp_all
      have hok : setOk (L.map (·.e)) nm = true := by unfold setOk; rw [he, hnn]; rfl
      have hsf : setF (L.map (·.e)) nm val = insF ⟨nm, val, false, false, []⟩ (L.map (·.e)) := by unfold setF; rw [if_pos hok, he]
      rw [hok, hsf]
      have AD := Lib.hid (radd_any h hB (by omega) hG.srt ⟨⟨nm, val, false, false, []⟩, none, 0, 0⟩ (RowO.nil _ _) (h.names he))
      have cv := h.vcell
      obtain ⟨ao, cap, rfl, _⟩ := h.sl
      obtain ⟨n, hnl⟩ : ∃ n, L.length = n := ⟨_, rfl⟩
      rw [hnl] at cv hn
      have nn : ¬ (20000 : Int) ≤ (n : Int) := by omega
      clear h he hok hsf hG AT hnn hnl
      go_enter Try.func14, Try.ntmps14
      go_wp2_with (first
        | (go_at_call 38; refine A.out.mono ?_; rintro e w' ⟨rfl, rfl⟩)
        | (go_at_call 39; refine AD.out.mono ?_; rintro e w' ⟨rfl, hr⟩; have HR := Lib.hid hr; clear hr))
      go_ret
      exact ⟨rfl, HR.out⟩
    · have hn2 : (nm.toList == []) = true := by rcases hh : nm.toList with _ | ⟨a, r⟩ <;> simp_all
      have hok : ¬ setOk (L.map (·.e)) nm = true := by unfold setOk; rw [hnn]; simp
      have hsf : setF (L.map (·.e)) nm val = (L.map (·.e)) := by unfold setF; rw [if_neg hok]
      rw [if_neg hok, hsf]
      have H := Lib.hid h
      clear h he hok hsf hG AT hnn
      go_enter Try.func14, Try.ntmps14
      go_wp2_with (first
        | (go_at_call 38; refine A.out.mono ?_; rintro e w' ⟨rfl, rfl⟩))
      go_ret
      exact ⟨rfl, _, _, H.out, rfl, RMv.refl _ _⟩
  · obtain ⟨k, x, g, cap, hx, rfl, ha, hk, rfl, _, c1, c2, _, _, _, _⟩ := h.found hG.srt he
    have A := Lib.hid (AT.out k ha)
    have cv := h.vcell
    have hnmx := (atF_some he).2
    have H := Lib.hid h
    have HX := Lib.hid hx
    have fr := h.frz rfl (k * 5 + 1)
    obtain ⟨n, hnl⟩ : ∃ n, L.length = n := ⟨_, rfl⟩
    have HNL := Lib.hid hnl
    rw [hnl] at cv hk
    have k0 : (0 : Int) ≤ (k : Int) := by omega
    have k1 : (k : Int) < (n : Int) := by omega
    have kn : ¬ (k : Int) < 0 := by omega
    rcases hnn : nm.toList.isEmpty with _ | _
    · have hn2 : (nm.toList == []) = false := by rcases hh : nm.toList with _ | ⟨a, r⟩ <;> simp_all
      rcases hnd : x.e.node with _ | _
      · have hok : setOk (L.map (·.e)) nm = true := by unfold setOk; rw [he, hnn]; simp [hnd]
        have hsf : setF (L.map (·.e)) nm val = chgF (L.map (·.e)) nm val := by unfold setF; rw [if_pos hok, he]
        rw [hok, hsf]
        rw [chgF_some he]
        rw [hnd] at c2
        by_cases hv : x.e.val = val
        · have hvb : (x.e.val.toList == val.toList) = true := by rw [hv]; simp
          rw [if_pos hv]
          obtain ⟨xv, hxv⟩ : ∃ xv, x.e.val = xv := ⟨_, rfl⟩
          rw [hxv] at c1 hvb
          clear h he hok hsf hG AT hnn hnl hx ha hnd hv hxv hnmx
          go_enter Try.func14, Try.ntmps14
          go_wp2_with (first
            | (go_at_call 38; refine A.out.mono ?_; rintro e w' ⟨rfl, rfl⟩))
          go_ret
          exact ⟨rfl, _, _, H.out, rfl, RMv.refl _ _⟩
        · have hvb : (x.e.val.toList == val.toList) = false := (Lib.bytes_beq_false_iff _ _).2 hv
          rw [if_neg hv]
          have UP := Lib.hid (h.updN rfl (j := 1) (x' := { x with e := { x.e with val := val } }) (u := .string val) hx rfl (by decide) (h.rds x (List.mem_of_getElem? hx)))
          have MP := Lib.hid (set_upd hG.srt hx { x with e := { x.e with val := val } } (fun e => { e with val := val }) rfl)
          rw [hnmx] at MP
          have CH := Lib.hid (rchange_any UP.out.1 (by rw [List.length_set]; omega) (fun y hy => by
            rcases List.mem_or_eq_of_mem_set hy with q | q
            · exact good_rl hG (by omega) y q
            · subst q; exact good_rl hG (by omega) x (List.mem_of_getElem? hx)) nm)
          obtain ⟨xv, hxv⟩ : ∃ xv, x.e.val = xv := ⟨_, rfl⟩
          rw [hxv] at c1 hvb
          clear h he hok hsf hG AT hnn hnl hx ha hnd hv hxv hnmx
          go_enter Try.func14, Try.ntmps14
          go_wp2_with (first
            | (go_at_call 38; refine A.out.mono ?_; rintro e w' ⟨rfl, rfl⟩)
            | (go_at_call 40; refine CH.out.mono ?_; rintro e w' ⟨rfl, hr, hm⟩; have HR := Lib.hid hr; have HM := Lib.hid hm; clear hr hm))
          go_ret
          exact ⟨rfl, _, _, HR.out, by rw [markR_map, MP.out], UP.out.2.trans HM.out⟩
      · have hok : ¬ setOk (L.map (·.e)) nm = true := by unfold setOk; rw [he, hnn]; simp [hnd]
        have hsf : setF (L.map (·.e)) nm val = (L.map (·.e)) := by unfold setF; rw [if_neg hok]
        rw [if_neg hok, hsf]
        rw [hnd] at c2
        clear h he hok hsf hG AT hnn hnl hx ha hnd c1 hnmx
        go_enter Try.func14, Try.ntmps14
        go_wp2_with (first
          | (go_at_call 38; refine A.out.mono ?_; rintro e w' ⟨rfl, rfl⟩))
        go_ret
        exact ⟨rfl, _, _, H.out, rfl, RMv.refl _ _⟩
    · have hn2 : (nm.toList == []) = true := by rcases hh : nm.toList with _ | ⟨a, r⟩ <;> simp_all
      have hok : ¬ setOk (L.map (·.e)) nm = true := by unfold setOk; rw [hnn]; simp
      have hsf : setF (L.map (·.e)) nm val = (L.map (·.e)) := by unfold setF; rw [if_neg hok]
      rw [if_neg hok, hsf]
      clear h he hok hsf hG AT hnn hnl hx ha c1 c2 hnmx
      go_enter Try.func14, Try.ntmps14
      go_wp2_with (first
        | (go_at_call 38; refine A.out.mono ?_; rintro e w' ⟨rfl, rfl⟩))
      go_ret
      exact ⟨rfl, _, _, H.out, rfl, RMv.refl _ _⟩
end

end Go.Proofs.Ytgbnhngaeefmkaa

/-! The reference: Drop. -/
namespace Go.Proofs.Ytgbnhngaeefmkaa
set_option linter.unusedVariables false
set_option linter.unusedSimpArgs false
open Go.RowKit

section
variable {B : Nat} {w : World} {r : Nat} {v : Value} {L : List REn}

theorem has_none {L : List REn} {nm : ByteArray} : ((L.map (·.e)).filter (hasR · nm)).isEmpty = true ↔ ∀ x ∈ L, hasR x.e nm = false := by
  rw [List.isEmpty_iff, List.filter_eq_nil_iff]
  constructor
  · intro h x hx
    have := h x.e (List.mem_map.2 ⟨x, hx, rfl⟩)
    simpa using this
  · intro h e he
    obtain ⟨x, hx, rfl⟩ := List.mem_map.1 he
    rw [h x hx]; simp

set_option maxRecDepth 100000 in
set_option maxHeartbeats 4000000 in
theorem rdrop_any (h : RefR B w r v L) (hB : B ≤ w.heap.size) (hG : Good (L.map (·.e))) (hn : L.length ≤ 900) (nm : ByteArray) :
    Calls Try.prog 16 #[.pointer (some ⟨r, 0, none⟩), .string nm] w (RStE B w r (dropF (L.map (·.e)) nm) (if dropOk (L.map (·.e)) nm = true then 0 else 200)) := by
  have AT := Lib.hid (rat_any h (by omega) nm)
  rcases he : atF (L.map (·.e)) nm with _ | e
  · have A := Lib.hid (AT.out (-1) (AtR.none he))
    have hok : ¬ dropOk (L.map (·.e)) nm = true := by unfold dropOk; rw [he]; simp
    have hsf : dropF (L.map (·.e)) nm = (L.map (·.e)) := by unfold dropF; rw [if_neg hok]
    rw [if_neg hok, hsf]
    have H := Lib.hid h
    clear h he hok hsf hG AT
    go_enter Try.func16, Try.ntmps16
    go_wp2_with (first
      | (go_at_call 38; refine A.out.mono ?_; rintro e w' ⟨rfl, rfl⟩))
    go_ret
    exact ⟨rfl, _, _, H.out, rfl, RMv.refl _ _⟩
  · obtain ⟨k, x, g, cap, hx, rfl, ha, hk, rfl, _⟩ := h.found hG.srt he
    have A := Lib.hid (AT.out k ha)
    have cv := h.vcell
    have fv := h.vfrz
    have hnmx := (atF_some he).2
    have H := Lib.hid h
    have HX := Lib.hid hx
    obtain ⟨n, hnl⟩ : ∃ n, L.length = n := ⟨_, rfl⟩
    have HN := Lib.hid hnl
    have hcap : n ≤ cap := by
      rcases h.open with ⟨q, _⟩ | ⟨_, _, _, q, _, q2, _⟩
      · cases q
      · cases q; omega
    have OUT := Lib.hid (drop_out hG.srt hx)
    rw [hnmx] at OUT
    have RL := Lib.hid (good_rl hG (by omega : L.length ≤ 1000))
    have OK1 := Lib.hid (show (∃ x ∈ L, hasR x.e nm = true) → ¬ dropOk (L.map (·.e)) nm = true from fun ⟨z, hz, hh⟩ hd => by
      unfold dropOk at hd
      rw [Bool.and_eq_true] at hd
      have := has_none.1 hd.2 z hz
      rw [hh] at this; cases this)
    have OK2 := Lib.hid (show (∀ x ∈ L, hasR x.e nm = false) → dropOk (L.map (·.e)) nm = true from fun hd => by
      unfold dropOk
      rw [he, has_none.2 hd]; rfl)
    obtain ⟨c, hc⟩ : ∃ c : Int, (if dropOk (L.map (·.e)) nm = true then 0 else 200) = c := ⟨_, rfl⟩
    obtain ⟨F', hF⟩ : ∃ F', dropF (L.map (·.e)) nm = F' := ⟨_, rfl⟩
    rw [hc, hF]
    have HC := Lib.hid hc
    have HF := Lib.hid hF
    clear hc hF
    rw [hnl] at cv hk hn
    have k0 : (0 : Int) ≤ (k : Int) := by omega
    have k1 : (k : Int) < (n : Int) := by omega
    have kn : ¬ (k : Int) < 0 := by omega
    clear h he hG AT hnl hx ha hnmx
    go_enter Try.func16, Try.ntmps16
    go_wp2_with (first
      | (go_at_call 38; refine A.out.mono ?_; rintro e w' ⟨rfl, rfl⟩))
    go_loopw [6] (fun j wr => wr = w ∧ ∃ q : Nat, q ≤ n ∧ j = .int .i64 (q : Int) ∧ ∀ i z, i < q → L[i]? = some z → hasR z.e nm = false) (fun j _ => n - (intOf j).toNat)
    case atStart => exact ⟨rfl, 0, Nat.zero_le _, rfl, fun i z hi _ => absurd hi (Nat.not_lt_zero i)⟩
    case round =>
      obtain ⟨rfl, q, hq, rfl, hno⟩ := hrel
      have NO := Lib.hid hno
      clear hno
      have q0 : (0 : Int) ≤ (q : Int) := by omega
      by_cases hlt : q < n
      · have q1 : (q : Int) < (n : Int) := by omega
        have HZ := Lib.hid (show L[q]? = some (L[q]'(by rw [HN.out]; exact hlt)) from List.getElem?_eq_getElem _)
        obtain ⟨z, hz⟩ : ∃ z, L[q]'(by rw [HN.out]; exact hlt) = z := ⟨_, rfl⟩
        rw [hz] at HZ
        clear hz
        obtain ⟨g', cap', e1, _, _, hce⟩ := H.out.cells HZ.out
        cases e1
        have c4 : wr.cell? ⟨g, q * 5 + 4, none⟩ = some (.slice z.ao z.ln z.cap) := hce 4 _ rfl
        obtain ⟨rl, rr⟩ := H.out.reads HZ.out
        have hz1 := RL.out z (List.mem_of_getElem? HZ.out)
        rw [rl] at hz1
        have HAS := Lib.hid (has_any z.ao z.ln z.cap z.e.rds nm wr rl (by omega) rr)
        have HHR := Lib.hid (show (z.e.rds.any fun q => decide (q = nm)) = hasR z.e nm from rfl)
        rw [HHR.out] at HAS
        obtain ⟨zo, hzo⟩ : ∃ zo, z.ao = zo := ⟨_, rfl⟩
        obtain ⟨zl, hzl⟩ : ∃ zl, z.ln = zl := ⟨_, rfl⟩
        obtain ⟨zc, hzc⟩ : ∃ zc, z.cap = zc := ⟨_, rfl⟩
        rw [hzo, hzl, hzc] at c4 HAS
        obtain ⟨b, hb⟩ : ∃ b, hasR z.e nm = b := ⟨_, rfl⟩
        rw [hb] at HAS
        have HB := Lib.hid hb
        clear hce rl rr hzo hzl hzc hb
        rcases b with _ | _
        · have NX := Lib.hid (show ∀ i y, i < q + 1 → L[i]? = some y → hasR y.e nm = false from fun i y hi hy => by
            rcases Nat.lt_or_ge i q with h | h
            · exact NO.out i y h hy
            · have : i = q := by omega
              subst this
              rw [HZ.out] at hy; cases hy; exact HB.out)
          go_wp2_with (first | (go_at_call 42; refine HAS.out.mono ?_; rintro e w' ⟨rfl, rfl⟩))
          go_roundw
          case rel => exact ⟨trivial, q + 1, by omega, by go_num, NX.out⟩
          case measure => simp [intOf]; omega
        · have hok := OK1.out ⟨z, List.mem_of_getElem? HZ.out, HB.out⟩
          have hsf : dropF (L.map (·.e)) nm = (L.map (·.e)) := by unfold dropF; rw [if_neg hok]
          have hc : c = 200 := by rw [← HC.out, if_neg hok]
          have hF : F' = L.map (·.e) := by rw [← HF.out, hsf]
          subst hc
          subst hF
          clear hok hsf
          go_wp2_with (first | (go_at_call 42; refine HAS.out.mono ?_; rintro e w' ⟨rfl, rfl⟩))
          go_ret
          exact ⟨rfl, _, _, H.out, rfl, RMv.refl _ _⟩
      · have q1 : ¬ (q : Int) < (n : Int) := by omega
        have hok := OK2.out (fun y hy => by
          obtain ⟨i, hi⟩ := List.mem_iff_getElem?.1 hy
          have hil := (List.getElem?_eq_some_iff.1 hi).1
          rw [HN.out] at hil
          exact NO.out i y (by omega) hi)
        have hsf : dropF (L.map (·.e)) nm = outF (L.map (·.e)) nm := by unfold dropF; rw [if_pos hok]
        have hc : c = 0 := by rw [← HC.out, if_pos hok]
        have hF : F' = outF (L.map (·.e)) nm := by rw [← HF.out, hsf]
        subst hc
        subst hF
        clear hok hsf hq hlt
        have kc : (k : Int) ≤ (cap : Int) := by omega
        have k2 : (0 : Int) ≤ (k : Int) + 1 := by omega
        have k3 : (k : Int) + 1 ≤ (n : Int) := by omega
        have k4 : (k : Int) + 1 ≤ (cap : Int) := by omega
        have nc : (n : Int) ≤ (cap : Int) := by omega
        have TKL := Lib.hid (show (L.take k).length = k from by rw [List.length_take, HN.out]; omega)
        have DKL := Lib.hid (show (L.drop (k + 1)).length = n - (k + 1) from by rw [List.length_drop, HN.out])
        obtain ⟨w2, rfl⟩ : ∃ w2 : World, w2 = wr := ⟨_, rfl⟩
        by_cases hck : cap = k + 1
        case' pos =>
          have DC := Lib.hid (show ∀ w3, Below w2.heap.size w2 w3 → ∀ j u, ((L.drop (k + 1)).flatMap encR)[j]? = some u → w3.cell? ((⟨g, 0, none⟩ : Addr).add j) = some u from fun w3 _ j u hu => by
            rw [List.drop_eq_nil_of_le (by rw [HN.out]; omega)] at hu; simp at hu)
        case' neg =>
          have DC := Lib.hid (show ∀ w3, Below w2.heap.size w2 w3 → ∀ j u, ((L.drop (k + 1)).flatMap encR)[j]? = some u → w3.cell? ((⟨g, (k + 1) * 5, none⟩ : Addr).add j) = some u from fun w3 hb => (H.out.later hb).drop_cells (by rw [HN.out]; omega))
        all_goals
          go_wp2_with (first
            | (at_builtin; refine wp_appE (W := w2) (base := w2.heap.size) rfl (.tmp 34) (.tmp 40) rfl rfl (EntO.nil _ _) (Below.refl _ _) (Nat.le_refl _) (Nat.zero_add k) (by omega) rfl TKL.out (H.out.take_cells k) ?_; intro xo5 xc5 w5 h5 l5; have H5 := Lib.hid h5; have L5 := Lib.hid l5; have cv5 := (H.out.later l5).vcell; rw [HN.out] at cv5; clear h5 l5)
            | (at_builtin; refine wp_appE (W := w2) (base := w2.heap.size) (M := L.drop (k + 1)) rfl (.tmp 43) (.tmp 50) rfl rfl H5.out L5.out L5.out.size (show k + (n - (k + 1)) = n - 1 by omega) (by omega) rfl DKL.out (DC.out w5 L5.out) ?_; intro xo7 xc7 w7 h7 l7; have H7 := Lib.hid h7; have L7 := Lib.hid l7; have R7 := Lib.hid (H.out.later l7); have cv7 := R7.out.vcell; have fv7 := R7.out.vfrz; clear h7 l7))
          go_ret
          have hlen : (([] ++ L.take k) ++ L.drop (k + 1)).length = n - 1 := by
            rw [List.length_append, List.length_append, TKL.out, DKL.out]; simp; omega
          have NV := R7.out.newv (v' := .slice xo7 (n - 1) xc7) (L' := ([] ++ L.take k) ++ L.drop (k + 1)) (by rw [hlen]; exact ownsRow_base H7.out.row hB) (fun z hz => by
            rcases List.mem_append.1 hz with hz | hz
            · exact R7.out.rds z (List.mem_of_mem_take (by simpa using hz))
            · exact R7.out.rds z (List.mem_of_mem_drop hz))
          refine ⟨rfl, _, _, NV.1, ?_, (RMv.of_below L7.out).trans NV.2⟩
          rw [← OUT.out]
          simp
end

end Go.Proofs.Ytgbnhngaeefmkaa
