import Derived.Test.YtbkmcncakpmgkaaDivide

/-! The reference's ProRata. -/
namespace Go.Proofs.Ytbkmcncakpmgkaa
set_option linter.unusedVariables false
open Go.ChangeShapes Go.WideShapes Go.ChangeAt Go.RowKit

def proL (t : Int) (l : List Us) : List (Int × Int) := tidyL (divL t (weightsL true 0 l))

theorem weights_i64 (all : Bool) (acc : Int) (l : List Us) (h : l.length ≤ 1000) : I64s (amts (weightsL all acc l)) ∧ (weightsL all acc l).length ≤ 1000 := by
  obtain ⟨h1, h2⟩ := weights_bd all acc l l.length (Nat.le_refl _)
  rw [List.take_length] at h1 h2
  exact ⟨h1.i64 (by omega), by omega⟩

theorem div_len_le (t : Int) (l : List (Int × Int)) : (divL t l).length ≤ l.length := by
  rw [div_len]; have := apV_len t (amts l); rw [amts_len] at this; exact this

set_option maxRecDepth 100000 in
set_option maxHeartbeats 1000000 in
theorem rprorata_any (t : Int) (ao : Option Addr) (cap m : Nat) (l : List Us) (w : World) (hm : m ≤ 1000) (hl : l.length = m) (hr : RowK 4 encU w ao l) :
    Calls Try.prog 21 #[.int .i64 t, .slice ao m cap] w (SlcK 2 encS w (proL t l)) := by
  have hw := weights_i64 true 0 l (by omega)
  have HW := Lib.hid hw
  have HA := Lib.hid (weights_any ao cap m true 0 l w hm hl hr)
  clear hw hl hr
  go_enter Try.func21, Try.ntmps21
  go_wp2_with (first
    | (go_at_call 32; refine HA.out.mono ?_; rintro e w1 ⟨a1, c1, rfl, h1, hr1, hb1⟩; have HB1 := Lib.hid hb1; have HD := Lib.hid (rdivide_any t a1 c1 _ _ w1 HW.out.2 rfl hr1 HW.out.1); clear h1 hr1 hb1)
    | (go_at_call 31; refine HD.out.mono ?_; rintro e w2 ⟨a2, c2, rfl, h2, hr2, hb2⟩; have HB2 := Lib.hid (bch HB1.out hb2 HB1.out.size); have HTD := Lib.hid (tidy_any a2 c2 _ _ w2 (by have := div_len_le t (weightsL true 0 l); have := HW.out.2; omega) rfl hr2); clear h2 hr2 hb2)
    | (go_at_call 34; refine HTD.out.mono ?_; rintro e w3 ⟨a3, c3, rfl, h3, hr3, hb3⟩; have HB3 := Lib.hid (bch HB2.out hb3 HB2.out.size); have H3 := Lib.hid h3; have HR3 := Lib.hid hr3; clear h3 hr3 hb3))
  go_ret
  exact ⟨a3, c3, rfl, H3.out, HR3.out, HB3.out⟩

end Go.Proofs.Ytbkmcncakpmgkaa

/-! The reference's Held. -/
namespace Go.Proofs.Ytbkmcncakpmgkaa
set_option linter.unusedVariables false
open Go.ChangeShapes Go.WideShapes Go.ChangeAt Go.RowKit

def hStep (r : Int) (p : Int × Int) (u : Us) : Int × Int := if countsB u = true ∧ u.rcd = r then (p.1 + u.val, p.2 + u.held) else p
/-- the valid and the held streams of a recording -/
def heldS (r : Int) (l : List Us) : Int × Int := l.foldl (hStep r) (0, 0)

theorem held_take (r : Int) (l : List Us) (k : Nat) (h : k < l.length) : heldS r (l.take (k + 1)) = hStep r (heldS r (l.take k)) l[k] := by
  unfold heldS; rw [List.take_succ_eq_append_getElem h, List.foldl_append]; rfl

theorem held_bd (r : Int) (l : List Us) : ∀ k, k ≤ l.length → 0 ≤ (heldS r (l.take k)).1 ∧ (heldS r (l.take k)).1 ≤ 1000000000 * k ∧ 0 ≤ (heldS r (l.take k)).2 ∧ (heldS r (l.take k)).2 ≤ 1000000000 * k
  | 0, _ => by simp [heldS]
  | k + 1, h => by
    have := held_bd r l k (by omega)
    rw [held_take r l k h]
    unfold hStep
    split
    · rename_i hc
      have hb := counts_bd hc.1
      dsimp only; push_cast; omega
    · push_cast; omega

/-- what Held returns -/
def heldP (t v h : Int) : Int × Int := if apB t [v, h] = true then ((apV t [v, h]).getD 0 0, (apV t [v, h]).getD 1 0) else (0, 0)

theorem two_row (W : World) (a b : Int) (t : TypeId) : Row (W.alloc (.cells #[.int .i64 a, .int .i64 b] t)) (some ⟨W.heap.size, 0, none⟩) [a, b] := by
  intro i hi
  refine ⟨W.heap.size, 0, rfl, by simp, ?_⟩
  have h2 : i < 2 := hi
  match i, h2 with
  | 0, _ => exact cell_box W _ t 0 _ rfl _ rfl
  | 1, _ => exact cell_box W _ t 1 _ rfl _ rfl

theorem two_i64 {a b : Int} (h : 0 ≤ a ∧ a ≤ 9223372036854775807 ∧ 0 ≤ b ∧ b ≤ 9223372036854775807) : I64s [a, b] := by
  intro i
  match i with
  | 0 => simp; omega
  | 1 => simp; omega
  | i + 2 => simp

theorem apV_two {t a b : Int} (h : apB t [a, b] = true) : (apV t [a, b]).length = 2 := by
  unfold apV; rw [if_pos h, App.app_length]; rfl

set_option maxRecDepth 100000 in
set_option maxHeartbeats 1000000 in
theorem rheld_any (t r : Int) (ao : Option Addr) (cap m : Nat) (l : List Us) (w : World) (hm : m ≤ 1000) (hl : l.length = m) (hr : RowK 4 encU w ao l) :
    Calls Try.prog 19 #[.int .i64 t, .int .i64 r, .slice ao m cap] w fun e w' => e = .returned (.tuple #[.int .i64 (heldP t (heldS r l).1 (heldS r l).2).1, .int .i64 (heldP t (heldS r l).1 (heldS r l).2).2]) ∧ Below w.heap.size w w' := by
  have HL := Lib.hid hl
  have HR := Lib.hid hr
  clear hl hr
  go_enter Try.func19, Try.ntmps19
  go_wp2
  go_loopw [8, 9, 10] (fun a b i wr => ∃ (k : Nat) (x y : Int), k ≤ m ∧ i = .int .i64 k ∧ a = .int .i64 x ∧ b = .int .i64 y ∧ heldS r (l.take k) = (x, y) ∧ Below w.heap.size w wr) (fun _ _ i _ => m - (intOf i).toNat)
  case atStart => exact ⟨0, 0, 0, Nat.zero_le _, rfl, rfl, rfl, rfl, Below.refl _ _⟩
  case round =>
    obtain ⟨k, x, y, hk, rfl, rfl, rfl, hs, hb⟩ := hrel
    have hbd := held_bd r l k (by rw [HL.out]; exact hk)
    rw [hs] at hbd
    dsimp only at hbd
    have HS := Lib.hid hs
    have HB := Lib.hid hb
    clear hs hb
    by_cases hlt : k < m
    · have hkl : k < l.length := by rw [HL.out]; exact hlt
      obtain ⟨sb, off, rfl, hbl, c0, c1, c2, c3⟩ := HR.out.usage hkl
      have e0 : wr.cell? ⟨sb, off + k * 4, none⟩ = some (.int .i64 l[k].acc) := by rw [HB.out.cell (p := ⟨sb, off + k * 4, none⟩) hbl]; exact c0
      have e1 : wr.cell? ⟨sb, off + k * 4 + 1, none⟩ = some (.int .i64 l[k].rcd) := by rw [HB.out.cell (p := ⟨sb, off + k * 4 + 1, none⟩) hbl]; exact c1
      have e2 : wr.cell? ⟨sb, off + k * 4 + 2, none⟩ = some (.int .i64 l[k].val) := by rw [HB.out.cell (p := ⟨sb, off + k * 4 + 2, none⟩) hbl]; exact c2
      have e3 : wr.cell? ⟨sb, off + k * 4 + 3, none⟩ = some (.int .i64 l[k].held) := by rw [HB.out.cell (p := ⟨sb, off + k * 4 + 3, none⟩) hbl]; exact c3
      have HT := Lib.hid (held_take r l k hkl)
      obtain ⟨u, hu⟩ : ∃ u, l[k] = u := ⟨_, rfl⟩
      rw [hu, HS.out] at HT
      rw [hu] at e0 e1 e2 e3
      have hsb : sb < wr.heap.size := Nat.lt_of_lt_of_le hbl HB.out.size
      have HC := Lib.hid (fun W => counts_any u W)
      have HUB := Lib.hid (@counts_bd u)
      have HW := Lib.hid (show hStep r (x, y) u = if countsB u = true ∧ u.rcd = r then (x + u.val, y + u.held) else (x, y) from rfl)
      clear hu c0 c1 c2 c3
      obtain ⟨ua, ur, uv, uh⟩ := u
      dsimp only at e0 e1 e2 e3 HC HUB HW
      rcases hcb : countsB ⟨ua, ur, uv, uh⟩ with _ | _
      · have HN := Lib.hid (show heldS r (l.take (k + 1)) = (x, y) by rw [HT.out, HW.out, if_neg (by rw [hcb]; simp)])
        rw [hcb] at HC
        clear hcb
        go_wp2_with (go_at_call 24; refine (HC.out _).mono ?_; rintro e w2 ⟨rfl, hb2⟩; have HB2 := Lib.hid hb2; clear hb2)
        go_roundw
        case rel => exact ⟨k + 1, x, y, by omega, by go_num, rfl, rfl, HN.out, HB.out.trans (HB2.out.mono HB.out.size)⟩
        case measure => simp [intOf]; omega
      · have hub := HUB.out hcb
        rw [hcb] at HC
        by_cases hrr : ur = r
        · subst hrr
          have HN := Lib.hid (show heldS ur (l.take (k + 1)) = (x + uv, y + uh) by rw [HT.out, HW.out, if_pos ⟨hcb, rfl⟩])
          clear hcb
          go_wp2_with (go_at_call 24; refine (HC.out _).mono ?_; rintro e w2 ⟨rfl, hb2⟩; have g0 : w2.cell? ⟨sb, off + k * 4, none⟩ = some (.int .i64 ua) := (by rw [hb2.cell (p := ⟨sb, off + k * 4, none⟩) hsb]; exact e0); have g1 : w2.cell? ⟨sb, off + k * 4 + 1, none⟩ = some (.int .i64 ur) := (by rw [hb2.cell (p := ⟨sb, off + k * 4 + 1, none⟩) hsb]; exact e1); have g2 : w2.cell? ⟨sb, off + k * 4 + 2, none⟩ = some (.int .i64 uv) := (by rw [hb2.cell (p := ⟨sb, off + k * 4 + 2, none⟩) hsb]; exact e2); have g3 : w2.cell? ⟨sb, off + k * 4 + 3, none⟩ = some (.int .i64 uh) := (by rw [hb2.cell (p := ⟨sb, off + k * 4 + 3, none⟩) hsb]; exact e3); have HB2 := Lib.hid hb2; clear hb2)
          go_roundw
          case rel => exact ⟨k + 1, _, _, by omega, by go_num, by go_num, by go_num, HN.out, HB.out.trans (HB2.out.mono HB.out.size)⟩
          case measure => simp [intOf]; omega
        · have HN := Lib.hid (show heldS r (l.take (k + 1)) = (x, y) by rw [HT.out, HW.out, if_neg (by simp [hrr])])
          have hq : (ur == r) = false := beq_eq_false_iff_ne.2 hrr
          clear hcb
          go_wp2_with (go_at_call 24; refine (HC.out _).mono ?_; rintro e w2 ⟨rfl, hb2⟩; have g0 : w2.cell? ⟨sb, off + k * 4, none⟩ = some (.int .i64 ua) := (by rw [hb2.cell (p := ⟨sb, off + k * 4, none⟩) hsb]; exact e0); have g1 : w2.cell? ⟨sb, off + k * 4 + 1, none⟩ = some (.int .i64 ur) := (by rw [hb2.cell (p := ⟨sb, off + k * 4 + 1, none⟩) hsb]; exact e1); have g2 : w2.cell? ⟨sb, off + k * 4 + 2, none⟩ = some (.int .i64 uv) := (by rw [hb2.cell (p := ⟨sb, off + k * 4 + 2, none⟩) hsb]; exact e2); have g3 : w2.cell? ⟨sb, off + k * 4 + 3, none⟩ = some (.int .i64 uh) := (by rw [hb2.cell (p := ⟨sb, off + k * 4 + 3, none⟩) hsb]; exact e3); have HB2 := Lib.hid hb2; clear hb2)
          go_roundw
          case rel => exact ⟨k + 1, x, y, by omega, by go_num, rfl, rfl, HN.out, HB.out.trans (HB2.out.mono HB.out.size)⟩
          case measure => simp [intOf]; omega
    · have HN := Lib.hid (show heldS r l = (x, y) by rw [← HS.out, List.take_of_length_le (by rw [HL.out]; omega)])
      have HAP := Lib.hid (rapportion_any t (some ⟨wr.heap.size, 0, none⟩) 2 2 [x, y] (wr.alloc (.cells #[.int .i64 x, .int .i64 y] 3)) (by omega) rfl (two_row wr x y _) (two_i64 (by omega)))
      have HB0 := Lib.hid (HB.out.alloc HB.out.size (.cells #[.int .i64 x, .int .i64 y] 3))
      rcases hab : apB t [x, y] with _ | _
      · have HP := Lib.hid (show heldP t (heldS r l).1 (heldS r l).2 = (0, 0) by rw [HN.out]; unfold heldP; rw [if_neg (by rw [hab]; simp)])
        rw [hab] at HAP
        clear hab
        go_wp2_with (go_at_call 36; refine HAP.out.mono ?_; rintro e w2 ⟨ao2, cap2, rfl, hcap2, hrow2, hb2⟩; have HB2 := Lib.hid (bch HB0.out hb2 HB0.out.size); clear hcap2 hrow2 hb2)
        go_ret2
        exact ⟨by rw [HP.out]; rfl, HB2.out⟩
      · have HP := Lib.hid (show heldP t (heldS r l).1 (heldS r l).2 = ((apV t [x, y]).getD 0 0, (apV t [x, y]).getD 1 0) by rw [HN.out]; unfold heldP; rw [if_pos hab])
        have HLN := Lib.hid (apV_two hab)
        rw [hab] at HAP
        clear hab
        go_wp2_with (go_at_call 36; refine HAP.out.mono ?_; rintro e w2 ⟨ao2, cap2, rfl, hcap2, hrow2, hb2⟩; have HB2 := Lib.hid (bch HB0.out hb2 HB0.out.size); obtain ⟨pb, po, rfl, hpb, hp0⟩ := hrow2 0 (by rw [HLN.out]; omega); obtain ⟨pb', po', hpp, hpb', hp1⟩ := hrow2 1 (by rw [HLN.out]; omega); cases hpp; rw [HLN.out]; rw [Nat.add_zero] at hp0; clear hcap2 hrow2 hb2)
        go_quiet (fail)
        go_wp2
        go_ret2
        exact ⟨by rw [HP.out]; rfl, HB2.out.trans ⟨rfl, rfl, rfl, Nat.le_refl _, fun _ _ => rfl⟩⟩

end Go.Proofs.Ytbkmcncakpmgkaa

/-! The reference's Merge. -/
namespace Go.Proofs.Ytbkmcncakpmgkaa
set_option linter.unusedVariables false
open Go.ChangeShapes Go.WideShapes Go.ChangeAt Go.RowKit

/-- the cells of a slice of structs, as append asks for them -/
theorem flat_of {α : Type} {k : Nat} {enc : α → List Value} (hk : ∀ x, (enc x).length = k) (hk0 : 0 < k) : ∀ (l : List α) (j : Nat) (u : Value), (l.flatMap enc)[j]? = some u → ∃ i x r, l[i]? = some x ∧ (enc x)[r]? = some u ∧ j = i * k + r
  | [], j, u, h => by simp at h
  | y :: t, j, u, h => by
    rw [List.flatMap_cons] at h
    rcases Nat.lt_or_ge j k with hj | hj
    · rw [List.getElem?_append_left (by rw [hk]; exact hj)] at h
      exact ⟨0, y, j, rfl, h, by omega⟩
    · rw [List.getElem?_append_right (by rw [hk]; exact hj), hk] at h
      obtain ⟨i, x, r, h1, h2, h3⟩ := flat_of hk hk0 t _ u h
      exact ⟨i + 1, x, r, by simpa using h1, h2, by rw [Nat.succ_mul]; omega⟩

theorem RowK.news {α : Type} {k : Nat} {enc : α → List Value} (hk : ∀ x, (enc x).length = k) (hk0 : 0 < k) {w : World} {ad : Addr} {l : List α} (h : RowK k enc w (some ad) l) : ∀ j u, (l.flatMap enc)[j]? = some u → w.cell? (ad.add j) = some u := by
  intro j u hu
  obtain ⟨i, x, r, h1, h2, rfl⟩ := flat_of hk hk0 l j u hu
  obtain ⟨b, off, e, _, hc⟩ := h i x h1
  simp only [Option.some.injEq] at e
  subst e
  have e : (Addr.add ⟨b, off, none⟩ (i * k + r)) = ⟨b, off + i * k + r, none⟩ := by unfold Addr.add; split <;> simp_all [Nat.add_assoc]
  rw [e]; exact hc r u h2

theorem flat_one {α : Type} {enc : α → List Value} (h : ∀ x, ∀ u ∈ enc x, u.oneCell' = true) (l : List α) : ∀ u ∈ l.flatMap enc, u.oneCell' = true := by
  intro u hu
  rw [List.mem_flatMap] at hu
  obtain ⟨x, _, hx⟩ := hu
  exact h x u hx

theorem owns_emptyK {α : Type} (enc : α → List Value) (k : Nat) (w : World) (e : TypeId) : (w.alloc (.cells #[] e)).ownsRow w.heap.size e k (.slice (some ⟨w.heap.size, 0, none⟩) 0 0) 0 (([] : List α).flatMap enc) :=
  ⟨by simp, .inr ⟨w.heap.size, 0, #[], rfl, Nat.le_refl _, heap_alloc_new w _, Nat.le_refl _, by unfold maxLen; omega, by simp, by simp⟩⟩

/-- append of a whole slice, nil or not, onto the call's own row -/
theorem wpList_append_row {α : Type} {P : Program} {w : World} {ops : Array Oper} {rest : List Oper} {o : Oper} {a : Act} {Q : Exit → Act → World → Prop} (hgd : o.guard = none) (s x : Operand) (t : TypeId)
    (ho : o.op = .call { callee := .builtin .append, args := #[s, x], argTypes := #[t, t] })
    (base : Nat) (e : TypeId) (i : TypeInfo) (z : Value) (size bytes : Nat) (ht : P.underlying t = some (.slice e)) (hi : P.info? e = some i) (hz : i.zero = some z)
    (hsize : i.size = size) (hby : i.bytes = bytes) (hzs : z.cells.size = size) (hsz : 0 < size)
    (v : Value) (n : Nat) (xs : List Value) (hs : a.eval s = v) (hown : w.ownsRow base e size v n xs)
    (enc : α → List Value) (hk : ∀ x, (enc x).length = size) (h1 : ∀ x, ∀ u ∈ enc x, u.oneCell' = true) (bo : Option Addr) (m c : Nat) (l : List α) (hx : a.eval x = .slice bo m c) (hl : l.length = m) (hc : (bo = none → c = 0) ∧ m ≤ c) (hrow : RowK size enc w bo l)
    (h63 : n + m ≤ maxLen) (hbytes : (n + m) * bytes ≤ 140737488355328) (hbase : base ≤ w.heap.size)
    (h : ∀ v' w', w'.ownsRow base e size v' (n + m) (xs ++ l.flatMap enc) → w.grownBy w' v.ownBlock → wpList P ops Q rest (a.put o.dst v') w') : wpList P ops Q (o :: rest) a w := by
  rcases bo with _ | ad
  · obtain rfl := hc.1 rfl
    obtain rfl : m = 0 := by omega
    obtain rfl : l = [] := List.eq_nil_of_length_eq_zero hl
    exact wpList_append_own_none hgd s x t ho base e i size ht hi v n xs hs hown hx (h v w (by simpa using hown) (World.grownBy.refl _ _))
  · exact wpList_append_own w hgd s x t ho base e i z size bytes ht hi hz hsize hby hzs hsz v n xs hs hown ad m c (l.flatMap enc) hx (by rw [flat_length hk, hl]) (hrow.news hk hsz) (flat_one h1 l) h63 hbytes hbase (fun v' w' h2 h3 _ => h v' w' h2 h3)

def mStep (out : List (Int × Int)) (s : Int × Int) : List (Int × Int) := if soundB s = true then addGo s.1 s.2 false out else out
def mergeA (l : List (Int × Int)) : List (Int × Int) := l.foldl mStep []
def mergeL (a b : List (Int × Int)) : List (Int × Int) := tidyL (mergeA (a ++ b))

theorem sound_bd {s : Int × Int} (h : soundB s = true) : 0 ≤ s.2 ∧ s.2 ≤ 1000000000000000 := of_decide_eq_true h

theorem merge_take (l : List (Int × Int)) (k : Nat) (h : k < l.length) : mergeA (l.take (k + 1)) = mStep (mergeA (l.take k)) l[k] := by
  unfold mergeA; rw [List.take_succ_eq_append_getElem h, List.foldl_append]; rfl

theorem merge_bd (l : List (Int × Int)) : ∀ k, k ≤ l.length → AmtLe (1000000000000000 * k) (mergeA (l.take k)) ∧ (mergeA (l.take k)).length ≤ k
  | 0, _ => ⟨fun s hs => by simp [mergeA] at hs, by simp [mergeA]⟩
  | k + 1, h => by
    obtain ⟨h1, h2⟩ := merge_bd l k (by omega)
    rw [merge_take l k h]
    unfold mStep
    split
    · rename_i hc
      have hb := sound_bd hc
      refine ⟨(addGo_amt (by omega) (by omega) _ _ h1).mono (by push_cast; omega), ?_⟩
      have := addGo_len l[k].1 l[k].2 (mergeA (l.take k)) false
      simp at this; omega
    · exact ⟨h1.mono (by push_cast; omega), by omega⟩

set_option maxRecDepth 100000 in
set_option maxHeartbeats 2000000 in
theorem rmerge_any (ao bo : Option Addr) (ca cb na nb : Nat) (a b : List (Int × Int)) (w : World) (ha : na ≤ 1000) (hb : nb ≤ 1000) (hla : a.length = na) (hlb : b.length = nb) (hra : RowK 2 encS w ao a) (hrb : RowK 2 encS w bo b)
    (hca : (ao = none → ca = 0) ∧ na ≤ ca) (hcb : (bo = none → cb = 0) ∧ nb ≤ cb) :
    Calls Try.prog 16 #[.slice ao na ca, .slice bo nb cb] w (SlcK 2 encS w (mergeL a b)) := by
  have HLA := Lib.hid hla
  have HLB := Lib.hid hlb
  have HRA := Lib.hid hra
  have HRB := Lib.hid hrb
  have HCA := Lib.hid hca
  have HCB := Lib.hid hcb
  clear hla hlb hra hrb hca hcb
  obtain ⟨i0, hi, hz0, hz1, hz2⟩ := info_parts Try.infoS
  have O := Lib.hid (owns_emptyK encS 2 w 47)
  have HB0 := Lib.hid ((Below.refl w.heap.size w).alloc (Nat.le_refl _) (.cells #[] 47))
  go_enter Try.func16, Try.ntmps16
  go_wp2_with (first
    | (at_builtin; refine wpList_append_row rfl (.tmp 9) (.tmp 10) 23 rfl w.heap.size 47 i0 (.agg #[.int .i64 0, .int .i64 0]) 2 16 Try.underlying23 hi hz0 hz1 hz2 rfl (by decide) _ _ _ rfl O.out encS encS_len encS_one ao na ca a rfl HLA.out HCA.out (HRA.out.later HB0.out) (by unfold maxLen; omega) (by omega) HB0.out.size ?_; intro v1 w1 own1 gr1; have OWN1 := Lib.hid own1; have HB1 := Lib.hid (grown_own HB0.out (Nat.le_refl _) O.out gr1); clear own1 gr1)
    | (at_builtin; refine wpList_append_row rfl (.tmp 11) (.tmp 12) 23 rfl w.heap.size 47 i0 (.agg #[.int .i64 0, .int .i64 0]) 2 16 Try.underlying23 hi hz0 hz1 hz2 rfl (by decide) _ _ _ rfl OWN1.out encS encS_len encS_one bo nb cb b rfl HLB.out HCB.out (HRB.out.later HB1.out) (by unfold maxLen; omega) (by omega) HB1.out.size ?_; intro v2 w2 own2 gr2; have OWN2 := Lib.hid own2; have HB2 := Lib.hid (grown_own HB1.out (Nat.le_refl _) OWN1.out gr2); clear own2 gr2))
  obtain ⟨c, hc⟩ : ∃ c, a ++ b = c := ⟨_, rfl⟩
  have own2 := OWN2.out
  have e0 : ([] : List (Int × Int)).flatMap encS ++ a.flatMap encS ++ b.flatMap encS = c.flatMap encS := by rw [← hc]; simp
  rw [e0] at own2
  obtain ⟨co, cc, rfl, hcc, hrc⟩ := rowK_of_owns encS_len (by decide) own2
  obtain ⟨n, hn⟩ : ∃ n, c.length = n := ⟨_, rfl⟩
  have hn2 : n ≤ 2000 := by rw [← hn, ← hc, List.length_append, HLA.out, HLB.out]; omega
  rw [hn]
  have HR := Lib.hid hrc
  have HL := Lib.hid hn
  have HG := Lib.hid (show mergeL a b = tidyL (mergeA c) by unfold mergeL; rw [hc])
  clear hc own2 e0 hcc hrc hn OWN1 OWN2
  go_loopw [5, 7] (fun v i wr => ∃ (k : Nat) (oo : Option Addr) (oc on : Nat), k ≤ n ∧ i = .int .i64 k ∧ v = .slice oo on oc ∧ (mergeA (c.take k)).length = on ∧ RowK 2 encS wr oo (mergeA (c.take k)) ∧ Below w2.heap.size w2 wr) (fun _ i _ => n - (intOf i).toNat)
  case atStart => exact ⟨0, none, 0, 0, Nat.zero_le _, rfl, rfl, rfl, RowK.nil _ _ _ _, Below.refl _ _⟩
  case round =>
    obtain ⟨k, oo, oc, on, hk, rfl, rfl, hlen, hrow, hb⟩ := hrel
    have hkl' : k ≤ c.length := by rw [HL.out]; exact hk
    have BD := Lib.hid (merge_bd c k hkl')
    have hon : on ≤ k := by rw [← hlen]; exact BD.out.2
    have HLEN := Lib.hid hlen
    have HROW := Lib.hid hrow
    have HB := Lib.hid hb
    clear hlen hrow hb
    by_cases hlt : k < n
    · have hkl : k < c.length := by rw [HL.out]; exact hlt
      obtain ⟨sb, off, rfl, hbl, c0, c1⟩ := HR.out.share hkl
      have e0 : wr.cell? ⟨sb, off + k * 2, none⟩ = some (.int .i64 c[k].1) := by rw [HB.out.cell (p := ⟨sb, off + k * 2, none⟩) hbl]; exact c0
      have e1 : wr.cell? ⟨sb, off + k * 2 + 1, none⟩ = some (.int .i64 c[k].2) := by rw [HB.out.cell (p := ⟨sb, off + k * 2 + 1, none⟩) hbl]; exact c1
      have HT := Lib.hid (merge_take c k hkl)
      obtain ⟨u, hu⟩ : ∃ u, c[k] = u := ⟨_, rfl⟩
      rw [hu] at e0 e1 HT
      have hsb : sb < wr.heap.size := Nat.lt_of_lt_of_le hbl HB.out.size
      obtain ⟨x, y⟩ := u
      have HC := Lib.hid (fun W => rsound_any x y W)
      have HUB := Lib.hid (@sound_bd (x, y))
      have HW := Lib.hid (show mStep (mergeA (c.take k)) (x, y) = if soundB (x, y) = true then addGo x y false (mergeA (c.take k)) else mergeA (c.take k) from rfl)
      clear hu c0 c1
      dsimp only at e0 e1
      rcases hcb : soundB (x, y) with _ | _
      · have HN := Lib.hid (show mergeA (c.take (k + 1)) = mergeA (c.take k) by rw [HT.out, HW.out, if_neg (by rw [hcb]; simp)])
        rw [hcb] at HC
        clear hcb
        go_wp2_with (go_at_call 30; refine (HC.out _).mono ?_; rintro e w3 ⟨rfl, hb3⟩; have HB3 := Lib.hid hb3; clear hb3)
        go_roundw
        case rel => exact ⟨k + 1, oo, oc, on, by omega, by go_num, rfl, by rw [HN.out]; exact HLEN.out, by rw [HN.out]; exact HROW.out.later HB3.out, HB.out.trans (HB3.out.mono HB.out.size)⟩
        case measure => simp [intOf]; omega
      · have hub := HUB.out hcb
        dsimp only at hub
        have HN := Lib.hid (show mergeA (c.take (k + 1)) = addGo x y false (mergeA (c.take k)) by rw [HT.out, HW.out, if_pos hcb])
        rw [hcb] at HC
        clear hcb
        go_wp2_with (go_at_call 30; refine (HC.out _).mono ?_; rintro e w3 ⟨rfl, hb3⟩; have g0 : w3.cell? ⟨sb, off + k * 2, none⟩ = some (.int .i64 x) := (by rw [hb3.cell (p := ⟨sb, off + k * 2, none⟩) hsb]; exact e0); have g1 : w3.cell? ⟨sb, off + k * 2 + 1, none⟩ = some (.int .i64 y) := (by rw [hb3.cell (p := ⟨sb, off + k * 2 + 1, none⟩) hsb]; exact e1); have HB3 := Lib.hid hb3; clear hb3)
        go_still_tail 11, (by kernel_rfl)
        change wpList _ _ _ _ _ w3.drew
        have HB4 := Lib.hid ((Below.refl w3.heap.size w3).drew)
        generalize w3.drew = w4 at HB4 ⊢
        have HB34 := Lib.hid (bch HB3.out HB4.out HB3.out.size)
        have HAD := Lib.hid (add_any oo oc on x y _ w4 (by omega) HLEN.out (HROW.out.later HB34.out) (BD.out.1.sumOk (by omega) (by omega)))
        go_wp2_with (go_at_call 33; refine HAD.out.mono ?_; rintro e w5 ⟨no, nc, rfl, hnc, hrow5, hb5⟩; have HROW5 := Lib.hid hrow5; have HB5 := Lib.hid hb5; clear hrow5 hnc hb5)
        go_roundw
        case rel => exact ⟨k + 1, no, nc, _, by omega, by go_num, rfl, by rw [HN.out], by rw [HN.out]; exact HROW5.out, HB.out.trans ((bch HB34.out HB5.out HB34.out.size).mono HB.out.size)⟩
        case measure => simp [intOf]; omega
    · have hN : c.take k = c := List.take_of_length_le (by rw [HL.out]; omega)
      have hr := HROW.out
      have hn := HLEN.out
      rw [hN] at hr hn
      have HTD := Lib.hid (tidy_any oo oc on _ wr (by omega) hn hr)
      clear hN hr hn
      go_wp2_with (go_at_call 34; refine HTD.out.mono ?_; rintro e w6 ⟨a6, c6, rfl, h6, hr6, hb6⟩; have H6 := Lib.hid h6; have HR6 := Lib.hid hr6; have HB6 := Lib.hid (bch HB2.out (bch HB.out hb6 HB.out.size) HB2.out.size); clear h6 hr6 hb6)
      go_ret
      rw [HG.out]
      exact ⟨a6, c6, rfl, H6.out, HR6.out, HB6.out⟩

end Go.Proofs.Ytbkmcncakpmgkaa

/-! Bounds of the parts; the pure form of UserCentric. -/
namespace Go.Proofs.Ytbkmcncakpmgkaa
set_option linter.unusedVariables false
open Go.ChangeShapes Go.WideShapes Go.ChangeAt Go.RowKit

theorem app_nonneg {t : Int} {l : List Int} (h : App.Ok t l) : ∀ x ∈ App.app t l, 0 ≤ x := by
  intro x hx
  obtain ⟨i, hi, rfl⟩ := List.getElem_of_mem hx
  have hil : i < l.length := by rw [App.app_length] at hi; exact hi
  have := App.app_quota h hil
  have e : (App.app t l).getD i 0 = (App.app t l)[i] := by simp [hi]
  have h0 := (getD_le_sum h.pos i).1
  have hs := h.sum1
  have ht := h.t0
  rw [App.app_getD hil] at e
  rw [← e]
  have hq : 0 ≤ t * l.getD i 0 / l.sum := Int.ediv_nonneg (Int.mul_nonneg ht h0) (by omega)
  split <;> omega

theorem apV_bd (t : Int) (l : List Int) : ∀ x ∈ apV t l, 0 ≤ x ∧ x ≤ 1000000000000000 := by
  intro x hx
  unfold apV at hx
  split at hx
  · rename_i hb
    obtain ⟨ok, _, ht⟩ := apB_iff.1 hb
    have hn := app_nonneg ok
    obtain ⟨i, hi, rfl⟩ := List.getElem_of_mem hx
    have := getD_le_sum hn i
    rw [App.app_sum ok] at this
    have e : (App.app t l).getD i 0 = (App.app t l)[i] := by simp [hi]
    rw [e] at this
    omega
  · simp at hx

theorem div_bd (t : Int) (l : List (Int × Int)) : AmtLe 1000000000000000 (divL t l) := by
  intro s hs
  unfold divL at hs
  obtain ⟨i, hi, rfl⟩ := List.getElem_of_mem hs
  rw [List.getElem_zipWith]
  exact apV_bd t _ _ (List.getElem_mem _)

def addAll (out d : List (Int × Int)) : List (Int × Int) := d.foldl (fun o q => addGo q.1 q.2 false o) out

theorem addAll_take (out d : List (Int × Int)) (k : Nat) (h : k < d.length) : addAll out (d.take (k + 1)) = addGo d[k].1 d[k].2 false (addAll out (d.take k)) := by
  unfold addAll; rw [List.take_succ_eq_append_getElem h, List.foldl_append]; rfl

theorem addAll_bd {B : Int} (hB : 0 ≤ B) {out d : List (Int × Int)} (ho : AmtLe B out) (hd : AmtLe 1000000000000000 d) : ∀ k, k ≤ d.length → AmtLe (B + 1000000000000000 * k) (addAll out (d.take k)) ∧ (addAll out (d.take k)).length ≤ out.length + k
  | 0, _ => ⟨by simpa [addAll] using ho, by simp [addAll]⟩
  | k + 1, h => by
    obtain ⟨h1, h2⟩ := addAll_bd hB ho hd k (by omega)
    rw [addAll_take out d k h]
    have hb := hd d[k] (List.getElem_mem _)
    refine ⟨(addGo_amt hb.1 (by omega) _ _ h1).mono (by push_cast; omega), ?_⟩
    have := addGo_len d[k].1 d[k].2 (addAll out (d.take k)) false
    simp at this; omega

/-- one payment -/
def uStep (us : List Us) (p : List (Int × Int) × Int) (s : Int × Int) : List (Int × Int) × Int :=
  if soundB s = true then (addAll p.1 (divL s.2 (weightsL false s.1 us)), if apB s.2 (amts (weightsL false s.1 us)) = true then p.2 else p.2 + s.2) else p
def userA (us : List Us) (l : List (Int × Int)) : List (Int × Int) × Int := l.foldl (uStep us) ([], 0)

theorem user_take (us : List Us) (l : List (Int × Int)) (k : Nat) (h : k < l.length) : userA us (l.take (k + 1)) = uStep us (userA us (l.take k)) l[k] := by
  unfold userA; rw [List.take_succ_eq_append_getElem h, List.foldl_append]; rfl

theorem user_bd (us : List Us) (hus : us.length ≤ 60) (l : List (Int × Int)) : ∀ k, k ≤ l.length → AmtLe (60000000000000000 * k) (userA us (l.take k)).1 ∧ (userA us (l.take k)).1.length ≤ 60 * k ∧ 0 ≤ (userA us (l.take k)).2 ∧ (userA us (l.take k)).2 ≤ 1000000000000000 * k
  | 0, _ => ⟨fun s hs => by simp [userA] at hs, by simp [userA], by simp [userA], by simp [userA]⟩
  | k + 1, h => by
    obtain ⟨h1, h2, h3, h4⟩ := user_bd us hus l k (by omega)
    rw [user_take us l k h]
    unfold uStep
    split
    · rename_i hc
      have hb := sound_bd hc
      have hw := (weights_bd false l[k].1 us us.length (Nat.le_refl _)).2
      rw [List.take_length] at hw
      have hdl := div_len_le l[k].2 (weightsL false l[k].1 us)
      obtain ⟨g1, g2⟩ := addAll_bd (by omega) h1 (div_bd l[k].2 (weightsL false l[k].1 us)) _ (Nat.le_refl _)
      rw [List.take_length] at g1 g2
      refine ⟨g1.mono ?_, ?_, ?_, ?_⟩
      · push_cast
        have : ((divL l[k].2 (weightsL false l[k].1 us)).length : Int) ≤ 60 := by omega
        omega
      · dsimp only; omega
      · dsimp only; split <;> omega
      · dsimp only; push_cast; split <;> omega
    · exact ⟨h1.mono (by push_cast; omega), by omega, h3, by push_cast; omega⟩

end Go.Proofs.Ytbkmcncakpmgkaa
