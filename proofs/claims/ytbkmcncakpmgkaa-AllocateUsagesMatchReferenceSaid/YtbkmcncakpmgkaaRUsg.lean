import Derived.Test.YtbkmcncakpmgkaaOpn
import Derived.Test.YtbkmcncakpmgkaaRowU
import Derived.Deep.QuietTactic
import Derived.BigQuiet
import Derived.Deep.RegionHeld3
import Derived.IntWalk

/-! The reference's Usages: what it returns. -/
namespace Go.Proofs.Ytbkmcncakpmgkaa
set_option linter.unusedVariables false
set_option linter.unusedSimpArgs false
open Go.ChangeShapes Go.WideShapes Go.ChangeAt Go.RowKit

theorem ltK_irr {a r a' r' : Int} (h : ltK a r a' r') : ¬ ltK a' r' a r ∧ ¬ (a = a' ∧ r = r') ∧ ¬ (a' = a ∧ r' = r) := by unfold ltK at *; omega

def Lower (a r : Int) (S : List Us) (p : Nat) : Prop := ∀ j (h : j < S.length), j < p → ltK S[j].acc S[j].rcd a r

theorem Lower.zero (a r : Int) (S : List Us) : Lower a r S 0 := fun j _ h => by omega
theorem Lower.succ {a r : Int} {S : List Us} {p : Nat} (h : Lower a r S p) (hp : p < S.length) (hl : ltK S[p].acc S[p].rcd a r) : Lower a r S (p + 1) := fun j hj h1 => by
  by_cases e : j = p
  · subst e; exact hl
  · exact h j hj (by omega)

theorem bump_ins {a r v h : Int} : ∀ {S : List Us} {k : Nat}, k ≤ S.length → Lower a r S k → (∀ (hk : k < S.length), ltK a r S[k].acc S[k].rcd) → bumpU a r v h S = S.take k ++ ⟨a, r, v, h⟩ :: S.drop k
  | [], k, hk, _, _ => by simp [bumpU]
  | u :: t, 0, _, _, hg => by
    have := hg (by simp)
    simp only [List.getElem_cons_zero] at this
    simp [bumpU, this]
  | u :: t, k + 1, hk, hl, hg => by
    have h0 := hl 0 (by simp) (by omega)
    simp only [List.getElem_cons_zero] at h0
    obtain ⟨n1, n2, n3⟩ := ltK_irr h0
    rw [bumpU, if_neg n1, if_neg n2, bump_ins (S := t) (k := k) (by simpa using hk) (fun j hj hjk => by have := hl (j + 1) (by simpa using hj) (by omega); simpa using this) (fun hk' => by have := hg (by simpa using hk'); simpa using this)]
    simp

theorem bump_at {a r v h : Int} : ∀ {S : List Us} {k : Nat} (hk : k < S.length), Lower a r S k → S[k].acc = a → S[k].rcd = r → bumpU a r v h S = S.set k ⟨a, r, S[k].val + v, S[k].held + h⟩
  | [], k, hk, _, _, _ => by simp at hk
  | u :: t, 0, _, _, h1, h2 => by
    simp only [List.getElem_cons_zero] at h1 h2
    have n1 : ¬ ltK a r u.acc u.rcd := by unfold ltK; omega
    rw [bumpU, if_neg n1, if_pos ⟨h1, h2⟩]; rfl
  | u :: t, k + 1, hk, hl, h1, h2 => by
    have h0 := hl 0 (by simp) (by omega)
    simp only [List.getElem_cons_zero] at h0
    obtain ⟨n1, n2, n3⟩ := ltK_irr h0
    rw [bumpU, if_neg n1, if_neg n2, bump_at (S := t) (k := k) (by simpa using hk) (fun j hj hjk => by have := hl (j + 1) (by simpa using hj) (by omega); simpa using this) (by simpa using h1) (by simpa using h2)]
    simp

/-- the list with the place for (a, r) made -/
def insU (a r : Int) (S : List Us) (k : Nat) : List Us := S.take k ++ ⟨a, r, 0, 0⟩ :: S.drop k

theorem ins_len (a r : Int) (S : List Us) (k : Nat) (h : k ≤ S.length) : (insU a r S k).length = S.length + 1 := by simp [insU]; omega
theorem ins_get (a r : Int) (S : List Us) (k : Nat) (h : k ≤ S.length) : (insU a r S k)[k]'(by rw [ins_len a r S k h]; omega) = ⟨a, r, 0, 0⟩ := by
  simp [insU, List.getElem_append_right, Nat.min_eq_left h]
theorem ins_set (a r : Int) (S : List Us) (k : Nat) (h : k ≤ S.length) (u : Us) : (insU a r S k).set k u = S.take k ++ u :: S.drop k := by
  have : (S.take k).length = k := by simp; omega
  unfold insU
  rw [List.set_append_right _ _ (by omega), this, Nat.sub_self, List.set_cons_zero]

/-- behind the search: the list S' has (a, r) at k -/
structure Found (a r : Int) (S S' : List Us) (k : Nat) (cv ch : Int) : Prop where
  lt : k < S'.length
  at_ : S'[k] = ⟨a, r, cv, ch⟩
  len : S'.length ≤ S.length + 1
  is : ∀ v h, S'.set k ⟨a, r, cv + v, ch + h⟩ = bumpU a r v h S

theorem found_ins {a r : Int} {S : List Us} {k : Nat} (hk : k ≤ S.length) (hl : Lower a r S k) (hg : ∀ (hk : k < S.length), ltK a r S[k].acc S[k].rcd) : Found a r S (insU a r S k) k 0 0 :=
  ⟨by rw [ins_len a r S k hk]; omega, ins_get a r S k hk, by rw [ins_len a r S k hk]; omega, fun v h => by rw [bump_ins hk hl hg, ins_set a r S k hk]; simp⟩
theorem found_at {a r : Int} {S : List Us} {k : Nat} (hk : k < S.length) (hl : Lower a r S k) (h1 : S[k].acc = a) (h2 : S[k].rcd = r) : Found a r S S k S[k].val S[k].held :=
  ⟨hk, by cases hh : S[k]; simp_all, by omega, fun v h => (bump_at hk hl h1 h2).symm⟩

theorem RowK.drop {α : Type} {k : Nat} {enc : α → List Value} {w : World} {b o : Nat} {l : List α} (h : RowK k enc w (some ⟨b, o, none⟩) l) (p : Nat) : RowK k enc w (some ⟨b, o + p * k, none⟩) (l.drop p) := fun i x hx => by
  rw [List.getElem?_drop] at hx
  obtain ⟨b', off, e, h1, h2⟩ := h (p + i) x hx
  cases e
  exact ⟨b, o + p * k, rfl, h1, fun j v hv => by have := h2 j v hv; rw [Nat.add_mul] at this; rw [show o + p * k + i * k + j = o + (p * k + i * k) + j by omega]; exact this⟩
theorem RowK.take {α : Type} {k : Nat} {enc : α → List Value} {w : World} {ao : Option Addr} {l : List α} (h : RowK k enc w ao l) (p : Nat) : RowK k enc w ao (l.take p) := fun i x hx => by
  rw [List.getElem?_take] at hx
  split at hx
  · exact h i x hx
  · cases hx
theorem owns_one (W : World) (a r : Int) : (W.alloc (.cells #[.int .i64 a, .int .i64 r, .int .i64 0, .int .i64 0] 42)).ownsRow W.heap.size 42 4 (.slice (some ⟨W.heap.size, 0, none⟩) 1 1) 1 (encU ⟨a, r, 0, 0⟩) :=
  ⟨rfl, .inr ⟨W.heap.size, 1, _, rfl, Nat.le_refl _, heap_alloc_new W _, Nat.le_refl _, by unfold maxLen; omega, rfl, rfl⟩⟩

theorem owns_slice {w : World} {B e n : Nat} {v : Value} {xs : List Value} (h : w.ownsRow B e 4 v n xs) (hn : 1 ≤ n) : ∃ g o c, v = .slice (some ⟨g, o, none⟩) n c ∧ o = 0 ∧ w.ownsRow B e 4 (.slice (some ⟨g, o, none⟩) n c) n xs := by
  obtain ⟨g, c, cur, hv, hg, _⟩ := h.2.resolve_left (fun h => by omega)
  exact ⟨g, 0, c, hv, rfl, by rw [← hv]; exact h⟩
theorem owns_news {w : World} {B e n g o c : Nat} {xs : List Value} (h : w.ownsRow B e 4 (.slice (some ⟨g, o, none⟩) n c) n xs) (ho : o = 0) : ∀ j u, xs[j]? = some u → w.cell? ((⟨g, o, none⟩ : Addr).add j) = some u := fun j u hu => by
  subst ho
  rw [Addr.add_mid, Nat.zero_add, h.cellAt j (by rw [← h.1]; exact (List.getElem?_eq_some_iff.1 hu).1)]; exact hu

structure RU (w wr : World) (S : List Us) (v : Value) : Prop where
  own : wr.ownsRow w.heap.size 42 4 v S.length (S.flatMap encU)
  below : Below w.heap.size w wr

theorem Found.cells {w X : World} {a r cv ch : Int} {S S' : List Us} {p g o n c : Nat} (F : Found a r S S' p cv ch) (hn : S'.length = n) (ho : o = 0) (own : X.ownsRow w.heap.size 42 4 (.slice (some ⟨g, o, none⟩) n c) n (S'.flatMap encU)) :
    X.cell? ⟨g, o + p * 4 + 2, none⟩ = some (.int .i64 cv) ∧ X.cell? ⟨g, o + p * 4 + 3, none⟩ = some (.int .i64 ch) ∧ X.frozen? ⟨g, o + p * 4 + 2, none⟩ = false ∧ X.frozen? ⟨g, o + p * 4 + 3, none⟩ = false := by
  subst ho
  have hp := F.lt
  obtain ⟨_, _, h2, h3⟩ := getU S' p hp
  rw [F.at_] at h2 h3
  rw [Nat.zero_add]
  exact ⟨by rw [own.cellAt (p * 4 + 2) (by omega)]; exact h2, by rw [own.cellAt (p * 4 + 3) (by omega)]; exact h3, own.frozenAt _, own.frozenAt _⟩

theorem fin_val {w X : World} {a r cv ch : Int} {S S' : List Us} {p g o n c : Nat} (F : Found a r S S' p cv ch) (hn : S'.length = n) (ho : o = 0) (own : X.ownsRow w.heap.size 42 4 (.slice (some ⟨g, o, none⟩) n c) n (S'.flatMap encU)) (hb : Below w.heap.size w X) :
    RU w (X.setCell ⟨g, o + p * 4 + 2, none⟩ (.int .i64 (cv + 1))) (bumpU a r 1 0 S) (.slice (some ⟨g, o, none⟩) n c) := by
  subst ho
  obtain ⟨g', _, _, hv, hg, _⟩ := own.2.resolve_left (fun h => by cases h.1)
  cases hv
  rw [Nat.zero_add]
  have h1 := (own.stored (p * 4 + 2) (.int .i64 (cv + 1))).1
  rw [flat_val S' p F.lt, F.at_] at h1
  have h2 := F.is 1 0
  rw [Int.add_zero] at h2
  dsimp only at h1
  rw [h2] at h1
  refine ⟨?_, hb.setCell (p := ⟨g, p * 4 + 2, none⟩) hg _⟩
  have hl : (bumpU a r 1 0 S).length = n := by rw [← h2, List.length_set]; exact hn
  rw [hl]; exact h1

theorem fin_held {w X : World} {a r cv ch : Int} {S S' : List Us} {p g o n c : Nat} (F : Found a r S S' p cv ch) (hn : S'.length = n) (ho : o = 0) (own : X.ownsRow w.heap.size 42 4 (.slice (some ⟨g, o, none⟩) n c) n (S'.flatMap encU)) (hb : Below w.heap.size w X) :
    RU w (X.setCell ⟨g, o + p * 4 + 3, none⟩ (.int .i64 (ch + 1))) (bumpU a r 0 1 S) (.slice (some ⟨g, o, none⟩) n c) := by
  subst ho
  obtain ⟨g', _, _, hv, hg, _⟩ := own.2.resolve_left (fun h => by cases h.1)
  cases hv
  rw [Nat.zero_add]
  have h1 := (own.stored (p * 4 + 3) (.int .i64 (ch + 1))).1
  rw [flat_held S' p F.lt, F.at_] at h1
  have h2 := F.is 0 1
  rw [Int.add_zero] at h2
  dsimp only at h1
  rw [h2] at h1
  refine ⟨?_, hb.setCell (p := ⟨g, p * 4 + 3, none⟩) hg _⟩
  have hl : (bumpU a r 0 1 S).length = n := by rw [← h2, List.length_set]; exact hn
  rw [hl]; exact h1

theorem ins_flat (a r : Int) (S : List Us) (p : Nat) : (S.take p).flatMap encU ++ (encU ⟨a, r, 0, 0⟩ ++ (S.drop p).flatMap encU) = (insU a r S p).flatMap encU := by simp [insU]

structure InR (W wx : World) (a r : Int) (S : List Us) (p : Nat) : Prop where
  low : Lower a r S p
  below : Below W.heap.size W wx

set_option maxRecDepth 100000 in
set_option maxHeartbeats 4000000 in
theorem rusages_any (so : Option Addr) (cap m : Nat) (l : List St) (w : World) (hm : m ≤ 1000) (hl : l.length = m) (hr : RowK 9 encT w so l) :
    Calls Try.prog 23 #[.slice so m cap] w (SlcK 4 encU w (usL l)) := by
  have HL := Lib.hid hl
  have HR := Lib.hid hr
  clear hl hr
  obtain ⟨i0, hi, hz0, hz1, hz2⟩ := info_parts Try.infoU
  go_enter Try.func23, Try.ntmps23
  go_wp2
  go_loopw [3, 4] (fun v i wr => ∃ k : Nat, k ≤ m ∧ i = .int .i64 k ∧ RU w wr (usL (l.take k)) v) (fun _ i _ => m - (intOf i).toNat)
  case atStart => exact ⟨0, Nat.zero_le _, rfl, ⟨World.ownsRow_nil _ _ _ _, Below.refl _ _⟩⟩
  case round =>
    obtain ⟨k, hk, rfl, hru⟩ := hrel
    have RR := Lib.hid hru
    have FACT := Lib.hid (usL_facts l k (by rw [HL.out]; exact hk))
    clear hru
    obtain ⟨wo, rfl⟩ : ∃ wo : World, wo = wr := ⟨_, rfl⟩
    by_cases hlt : k < m
    · have hkl : k < l.length := by rw [HL.out]; exact hlt
      obtain ⟨sb, off, rfl, hbl, c0, c1, c2, c3, c4, c5, c6, c7, c8⟩ := HR.out.stream hkl
      have low : ∀ o v, w.cell? ⟨sb, o, none⟩ = some v → wo.cell? ⟨sb, o, none⟩ = some v := fun o v h => by rw [RR.out.below.cell (p := ⟨sb, o, none⟩) hbl]; exact h
      have e0 := low _ _ c0
      have e1 := low _ _ c1
      have e2 := low _ _ c2
      have e3 := low _ _ c3
      have e4 := low _ _ c4
      have e5 := low _ _ c5
      have e6 := low _ _ c6
      have e7 := low _ _ c7
      have e8 := low _ _ c8
      have HT := Lib.hid (usL_take l k hkl)
      obtain ⟨s, hs⟩ : ∃ s, l[k] = s := ⟨_, rfl⟩
      rw [hs] at e0 e1 e2 e3 e4 e5 e6 e7 e8 HT
      clear c0 c1 c2 c3 c4 c5 c6 c7 c8 low hs
      obtain ⟨d0, d1, a, r, d4, d5, d6, d7, mk⟩ := s
      dsimp only at e0 e1 e2 e3 e4 e5 e6 e7 e8
      by_cases hm1 : mk = 1
      · have HM := Lib.hid (show usL (l.take (k + 1)) = bumpU a r 1 0 (usL (l.take k)) by rw [HT.out]; unfold uStepS; simp [hm1])
        subst hm1
        obtain ⟨S, hS⟩ : ∃ S, usL (l.take k) = S := ⟨_, rfl⟩
        rw [hS] at RR FACT HM
        clear hS HT
        obtain ⟨n, hn⟩ : ∃ n, S.length = n := ⟨_, rfl⟩
        have hnk : n ≤ k := by rw [← hn]; exact FACT.out.2.1
        obtain ⟨ao, cp, rfl, hcp, hrow⟩ := rowK_of_owns encU_len (by decide) RR.out.own
        rw [hn] at hcp
        have HN := Lib.hid hn
        have HROW := Lib.hid hrow
        obtain ⟨hcn, hnc⟩ := hcp
        have HCN := Lib.hid hcn
        clear hrow hcn
        rw [hn]
        clear hn
        go_wp2
        obtain ⟨sp, hsp⟩ : ∃ sp, wo.heap.size = sp := ⟨_, rfl⟩
        obtain ⟨W, hW⟩ : ∃ W : World, W = wo.alloc (.cells #[.int .i64 d0, .int .i64 d1, .int .i64 a, .int .i64 r, .int .i64 d4, .int .i64 d5, .int .i64 d6, .int .i64 d7, .int .i64 1] 52) := ⟨_, rfl⟩
        have x2 : W.cell? ⟨sp, 2, none⟩ = some (.int .i64 a) := by rw [hW]; exact cell_box _ _ _ 2 _ rfl _ hsp
        have x3 : W.cell? ⟨sp, 3, none⟩ = some (.int .i64 r) := by rw [hW]; exact cell_box _ _ _ 3 _ rfl _ hsp
        have x8 : W.cell? ⟨sp, 8, none⟩ = some (.int .i64 1) := by rw [hW]; exact cell_box _ _ _ 8 _ rfl _ hsp
        have OW := Lib.hid (show W.ownsRow w.heap.size 42 4 (.slice ao n cp) n (S.flatMap encU) by have o := RR.out.own; rw [HN.out] at o; rw [hW]; exact o.alloc _)
        have HROWW := Lib.hid (show RowK 4 encU W ao S by rw [hW]; exact HROW.out.alloc _)
        have BW := Lib.hid (show Below w.heap.size w W by rw [hW]; exact RR.out.below.alloc RR.out.below.size _)
        have hspW : sp < W.heap.size := by rw [hW, World.size_alloc]; omega
        rw [hsp, ← hW]
        clear hsp hW HROW RR e0 e1 e2 e3 e4 e5 e6 e7 e8
        have HDROP := Lib.hid (show ∀ (W' : World) (b o p : Nat), ao = some ⟨b, o, none⟩ → Below W.heap.size W W' → RowK 4 encU W' (some ⟨b, o + p * 4, none⟩) (S.drop p) from fun W' b o p e h => by subst e; exact (HROWW.out.later h).drop p)
        have HTAKE := Lib.hid (show ∀ (W' : World) (p : Nat), Below W.heap.size W W' → RowK 4 encU W' ao (S.take p) from fun W' p h => (HROWW.out.later h).take p)
        have HZERO := Lib.hid (show ∀ b o, ao = some ⟨b, o, none⟩ → o = 0 ∧ w.heap.size ≤ b from fun b o e => by
          subst e
          obtain ⟨g, _, _, hv, hg, _⟩ := OW.out.2.resolve_left (fun h => by cases h.1)
          cases hv; exact ⟨rfl, hg⟩)
        have HNONE := Lib.hid (show ao = none → n = 0 ∧ cp = 0 from fun e => by
          subst e
          rcases OW.out.2 with ⟨h, h0⟩ | ⟨g, _, _, hv, _⟩
          · cases h; exact ⟨h0, rfl⟩
          · cases hv)
        have HSOME := Lib.hid (show ao = none ∨ ∃ b o, ao = some ⟨b, o, none⟩ from by
          rcases OW.out.2 with ⟨h, h0⟩ | ⟨g, _, _, hv, _⟩
          · cases h; exact .inl rfl
          · cases hv; exact .inr ⟨_, _, rfl⟩)
        rcases HSOME.out with h | h
        · subst h
          obtain ⟨rfl, rfl⟩ := HNONE.out rfl
          go_loopw [6] (fun j wx => j = .int .i64 0 ∧ InR W wx a r S 0) (fun j _ => 0)
          case atStart => exact ⟨rfl, ⟨Lower.zero _ _ _, Below.refl _ _⟩⟩
          case round =>
            obtain ⟨rfl, hin⟩ := hrel
            have IN := Lib.hid hin
            have y2 : wr.cell? ⟨sp, 2, none⟩ = some (.int .i64 a) := by rw [hin.below.cell (p := ⟨sp, 2, none⟩) hspW]; exact x2
            have y3 : wr.cell? ⟨sp, 3, none⟩ = some (.int .i64 r) := by rw [hin.below.cell (p := ⟨sp, 3, none⟩) hspW]; exact x3
            have y8 : wr.cell? ⟨sp, 8, none⟩ = some (.int .i64 1) := by rw [hin.below.cell (p := ⟨sp, 8, none⟩) hspW]; exact x8
            clear hin x2 x3 x8
            go_wp2
            go_quiet (fail)
            obtain ⟨wx, hwx⟩ : ∃ wx : World, wx = wr.drewN nq := ⟨_, rfl⟩
            have z2 : wx.cell? ⟨sp, 2, none⟩ = some (.int .i64 a) := by rw [hwx]; exact y2
            have z3 : wx.cell? ⟨sp, 3, none⟩ = some (.int .i64 r) := by rw [hwx]; exact y3
            have z8 : wx.cell? ⟨sp, 8, none⟩ = some (.int .i64 1) := by rw [hwx]; exact y8
            have BX := Lib.hid (show Below W.heap.size W wx by rw [hwx]; exact IN.out.below.trans ((below_dn wr nq).mono IN.out.below.size))
            skip
            skip
            rw [← hwx]
            clear hwx
            go_wp2
            go_quiet (fail)
            obtain ⟨wy, hwy⟩ : ∃ wy : World, wy = wx.drewN nq := ⟨_, rfl⟩
            have s2 : wy.cell? ⟨sp, 2, none⟩ = some (.int .i64 a) := by rw [hwy]; exact z2
            have s3 : wy.cell? ⟨sp, 3, none⟩ = some (.int .i64 r) := by rw [hwy]; exact z3
            have s8 : wy.cell? ⟨sp, 8, none⟩ = some (.int .i64 1) := by rw [hwy]; exact z8
            have BY := Lib.hid (show Below W.heap.size W wy by rw [hwy]; exact BX.out.trans ((below_dn wx nq).mono BX.out.size))
            skip
            rw [← hwy]
            clear hwy z2 z3 z8 y2 y3 y8
            go_wp2
            have hS0 : S = [] := List.eq_nil_of_length_eq_zero HN.out
            obtain ⟨cv, cv0, cv1, hFD⟩ : ∃ cv : Int, 0 ≤ cv ∧ cv ≤ 1000 ∧ Found a r S [⟨a, r, 0, 0⟩] 0 cv cv := ⟨0, by omega, by omega, by have h := found_ins (a := a) (r := r) (S := S) (k := 0) (Nat.zero_le _) (Lower.zero _ _ _) (fun h => absurd h (by rw [HN.out]; omega)); rw [hS0] at h ⊢; exact h⟩
            have FD := Lib.hid hFD
            clear hFD hS0
            have KEEP := Lib.hid (show ∀ W', Below wy.heap.size wy W' → W'.cell? ⟨sp, 2, none⟩ = some (.int .i64 a) ∧ W'.cell? ⟨sp, 3, none⟩ = some (.int .i64 r) ∧ Below wy.heap.size wy W' from fun W' h => ⟨by rw [h.cell (p := ⟨sp, 2, none⟩) (Nat.lt_of_lt_of_le hspW BY.out.size)]; exact s2, by rw [h.cell (p := ⟨sp, 3, none⟩) (Nat.lt_of_lt_of_le hspW BY.out.size)]; exact s3, h⟩)
            have OO := Lib.hid ((owns_one wy a r).drew)
            have BO := Lib.hid (((Below.refl wy.heap.size wy).alloc (Nat.le_refl _) (.cells #[.int .i64 a, .int .i64 r, .int .i64 0, .int .i64 0] 42)).drew)
            go_region_held3 (fun w' => w'.cell? ⟨sp, 2, none⟩ = some (.int .i64 a) ∧ w'.cell? ⟨sp, 3, none⟩ = some (.int .i64 r) ∧ Below wy.heap.size wy w')
              (first | (exact KEEP.out _ ((Below.refl _ wy).drew)) | (exact KEEP.out _ BO.out) | (go_split_ands; exact ⟨by assumption, by assumption, by assumption⟩))
              ((refine step_own_none (by rfl) (.tmp 91) (.tmp 94) 22 (by rfl) wy.heap.size 42 i0 4 Try.underlying22 hi (.slice (some ⟨wy.heap.size, 0, none⟩) 1 1) 1 (encU ⟨a, r, 0, 0⟩) ?_ ?_ ?_ ?_; (first | rfl | fail "A"); (first | with_reducible exact OO.out | fail "B"); (first | rfl | fail "C")))
            obtain ⟨w6, hw6⟩ : ∃ w6 : World, w6 = (wy.alloc (.cells #[.int .i64 a, .int .i64 r, .int .i64 0, .int .i64 0] 42)).drew := ⟨_, rfl⟩
            have HB6 := Lib.hid (show Below wy.heap.size wy w6 by rw [hw6]; exact BO.out)
            have ownA : w6.ownsRow wy.heap.size 42 4 (.slice (some ⟨wy.heap.size, 0, none⟩) 1 1) 1 (encU ⟨a, r, 0, 0⟩) := by rw [hw6]; exact OO.out
            rw [← hw6]
            clear hw6 OO BO
            have NW6 := Lib.hid (owns_news ownA rfl)
            obtain ⟨g1, hg1⟩ : ∃ g1, wy.heap.size = g1 := ⟨_, rfl⟩
            rw [hg1] at NW6 ⊢
            clear hg1 ownA
            have t8 : w6.cell? ⟨sp, 8, none⟩ = some (.int .i64 1) := by rw [HB6.out.cell (p := ⟨sp, 8, none⟩) (Nat.lt_of_lt_of_le hspW BY.out.size)]; exact s8
            have hsp6 : sp < w6.heap.size := Nat.lt_of_lt_of_le hspW (Nat.le_trans BY.out.size HB6.out.size)
            have B6 := Lib.hid (BW.out.trans ((BY.out.trans (HB6.out.mono BY.out.size)).mono BW.out.size))
            have HBASE := Lib.hid (show w.heap.size ≤ w6.heap.size from B6.out.size)
            clear s2 s3 s8
            go_wp2_with (at_builtin; refine wpList_append_grows _ rfl (.tmp 99) (.tmp 100) 22 rfl 42 i0 (.agg #[.int .i64 0, .int .i64 0, .int .i64 0, .int .i64 0]) 4 32 Try.underlying22 hi hz0 hz1 hz2 rfl (by decide) none 0 0 [] rfl (fun _ => ⟨rfl, rfl⟩) rfl (fun bb e => by cases e) ⟨g1, 0, none⟩ 1 1 (encU ⟨a, r, 0, 0⟩) rfl rfl NW6.out (encU_one _) (by omega) (by unfold maxLen; omega) (by omega) ?_; intro v2 w7 own2 gr2; have own3 : w7.ownsRow w.heap.size 42 4 v2 1 ([(⟨a, r, 0, 0⟩ : Us)].flatMap encU) := owns_base own2 HBASE.out; obtain ⟨g2, o2, c2, rfl, ho2, ownB⟩ := owns_slice own3 (by omega); obtain ⟨f2, f3, k2, k3⟩ := FD.out.cells rfl ho2 ownB; simp only [Nat.zero_mul, Nat.add_zero] at f2 f3 k2 k3; have r8 : w7.cell? ⟨sp, 8, none⟩ = some (.int .i64 1) := (by rw [World.cell?_of_block (w := w6) (gr2.block sp hsp6 (by simp))]; exact t8); have B7 := Lib.hid (B6.out.grown gr2 HBASE.out (fun j hj => by cases hj)); have HO2 := Lib.hid ho2; have OWNB := Lib.hid ownB; clear own2 own3 gr2 ho2 ownB)
            have HF := Lib.hid (fin_val FD.out rfl HO2.out OWNB.out B7.out)
            simp only [Nat.zero_mul, Nat.add_zero] at HF
            go_roundw
            case rel => exact ⟨k + 1, by omega, by go_num, by rw [HM.out]; exact HF.out⟩
            case measure => simp [intOf]; omega
        have hsome : Hid (∃ b o, ao = some ⟨b, o, none⟩) := Lib.hid h
        clear h
        go_loopw [6] (fun j wx => ∃ p : Nat, p ≤ n ∧ j = .int .i64 p ∧ InR W wx a r S p) (fun j _ => n - (intOf j).toNat)
        case atStart => exact ⟨0, Nat.zero_le _, rfl, ⟨Lower.zero _ _ _, Below.refl _ _⟩⟩
        case round =>
          obtain ⟨p, hp, rfl, hin⟩ := hrel
          have IN := Lib.hid hin
          have y2 : wr.cell? ⟨sp, 2, none⟩ = some (.int .i64 a) := by rw [hin.below.cell (p := ⟨sp, 2, none⟩) hspW]; exact x2
          have y3 : wr.cell? ⟨sp, 3, none⟩ = some (.int .i64 r) := by rw [hin.below.cell (p := ⟨sp, 3, none⟩) hspW]; exact x3
          have y8 : wr.cell? ⟨sp, 8, none⟩ = some (.int .i64 1) := by rw [hin.below.cell (p := ⟨sp, 8, none⟩) hspW]; exact x8
          clear hin x2 x3 x8
          by_cases hpn : p < n
          · have hpS : p < S.length := by rw [HN.out]; exact hpn
            obtain ⟨b, o, rfl, hb, g0, g1, g2, g3⟩ := (HROWW.out.later IN.out.below).usage hpS
            obtain ⟨x, hx⟩ : ∃ x, S[p].acc = x := ⟨_, rfl⟩
            obtain ⟨y, hy⟩ : ∃ y, S[p].rcd = y := ⟨_, rfl⟩
            rw [hx] at g0
            rw [hy] at g1
            have HX := Lib.hid hx
            have HY := Lib.hid hy
            clear hx hy g2 g3
            have p0 : (0 : Int) ≤ (p : Int) := by omega
            have p1 : (p : Int) < (n : Int) := by omega
            have NX := Lib.hid (fun (h : ltK x y a r) (n' : Nat) => (⟨IN.out.low.succ hpS (by rw [HX.out, HY.out]; exact h), IN.out.below.trans ((below_dn wr n').mono IN.out.below.size)⟩ : InR W (wr.drewN n') a r S (p + 1)))
            rcases Int.lt_trichotomy x a with h1 | h1 | h1
            · have NN := Lib.hid (NX.out (.inl h1))
              clear NX
              go_wp2
              go_quiet (fail)
              go_wp2
              go_roundw
              case rel => exact ⟨p + 1, by omega, by go_num, NN.out _⟩
              case measure => simp [intOf]; omega
            · have h1' := h1.symm
              subst h1'
              clear h1
              rcases Int.lt_trichotomy y r with h2 | h2 | h2
              · have q1 : (decide (a < a)) = false := by simp
                have NN := Lib.hid (NX.out (.inr ⟨rfl, h2⟩))
                clear NX
                go_wp2
                go_quiet (fail)
                go_wp2
                go_roundw
                case rel => exact ⟨p + 1, by omega, by go_num, NN.out _⟩
                case measure => simp [intOf]; omega
              · have h2' := h2.symm
                subst h2'
                clear h2
                have q1 : decide (a < a) = false := by simp
                have q2 : decide (r < r) = false := by simp
                have q3 : ((p : Int) == (n : Int)) = false := by simp; omega
                have q4 : (a != a) = false := by simp
                have q5 : (r != r) = false := by simp
                have FD := Lib.hid (found_at hpS IN.out.low HX.out HY.out)
                have hub := FACT.out.2.2 S[p] (List.getElem_mem hpS)
                obtain ⟨cv, hcv⟩ : ∃ cv, S[p].val = cv := ⟨_, rfl⟩
                obtain ⟨ch, hch⟩ : ∃ ch, S[p].held = ch := ⟨_, rfl⟩
                rw [hcv, hch] at FD hub
                clear hcv hch
                have cv0 : 0 ≤ cv := by omega
                have cv1 : cv ≤ 1000 := by omega
                have ch0 : 0 ≤ ch := by omega
                have ch1 : ch ≤ 1000 := by omega
                clear hub
                go_wp2
                go_quiet (fail)
                obtain ⟨wx, hwx⟩ : ∃ wx : World, wx = wr.drewN nq := ⟨_, rfl⟩
                have z2 : wx.cell? ⟨sp, 2, none⟩ = some (.int .i64 a) := by rw [hwx]; exact y2
                have z3 : wx.cell? ⟨sp, 3, none⟩ = some (.int .i64 r) := by rw [hwx]; exact y3
                have z8 : wx.cell? ⟨sp, 8, none⟩ = some (.int .i64 1) := by rw [hwx]; exact y8
                have BX := Lib.hid (show Below W.heap.size W wx by rw [hwx]; exact IN.out.below.trans ((below_dn wr nq).mono IN.out.below.size))
                have j0 : wx.cell? ⟨b, o + p * 4, none⟩ = some (.int .i64 a) := by rw [hwx]; exact g0
                have j1 : wx.cell? ⟨b, o + p * 4 + 1, none⟩ = some (.int .i64 r) := by rw [hwx]; exact g1
                rw [← hwx]
                clear hwx
                go_wp2
                go_quiet (fail)
                obtain ⟨wy, hwy⟩ : ∃ wy : World, wy = wx.drewN nq := ⟨_, rfl⟩
                have s2 : wy.cell? ⟨sp, 2, none⟩ = some (.int .i64 a) := by rw [hwy]; exact z2
                have s3 : wy.cell? ⟨sp, 3, none⟩ = some (.int .i64 r) := by rw [hwy]; exact z3
                have s8 : wy.cell? ⟨sp, 8, none⟩ = some (.int .i64 1) := by rw [hwy]; exact z8
                have BY := Lib.hid (show Below W.heap.size W wy by rw [hwy]; exact BX.out.trans ((below_dn wx nq).mono BX.out.size))
                have OWX := Lib.hid (ownsRow_blk OW.out (fun g hg hl => BY.out.block g (owns_ltK OW.out g hg).2))
                obtain ⟨f2, f3, k2, k3⟩ := FD.out.cells HN.out (HZERO.out b o rfl).1 OWX.out
                rw [← hwy]
                clear hwy z2 z3 z8 y2 y3 y8
                go_wp2
                go_roundw
                case rel => exact ⟨k + 1, by omega, by go_num, by rw [HM.out]; exact fin_val FD.out HN.out (HZERO.out b o rfl).1 OWX.out (BW.out.trans (BY.out.mono BW.out.size))⟩
                case measure => simp [intOf]; omega
              · have q1 : decide (a < a) = false := by simp
                have q2 : decide (y < r) = false := by simp; omega
                have q3 : ((p : Int) == (n : Int)) = false := by simp; omega
                have q4 : (a != a) = false := by simp
                have q5 : (y != r) = true := by simp; omega
                obtain ⟨cv, cv0, cv1, hFD⟩ : ∃ cv : Int, 0 ≤ cv ∧ cv ≤ 1000 ∧ Found a r S (insU a r S p) p cv cv := ⟨0, by omega, by omega, found_ins (by rw [HN.out]; exact hp) IN.out.low (fun h => by rw [HX.out, HY.out]; exact .inr ⟨rfl, h2⟩)⟩
                have FD := Lib.hid hFD
                clear hFD NX
                have hpc : p < cp := by omega
                have i1' : (p : Int) < (cp : Int) := by omega
                have i2' : (p : Int) ≤ (cp : Int) := by omega
                have i3' : (p : Int) ≤ (n : Int) := by omega
                have i4' : (n : Int) ≤ (cp : Int) := by omega
                have HDR := Lib.hid (fun W' h => HDROP.out W' b o p rfl h)
                go_wp2
                go_quiet (fail)
                obtain ⟨wx, hwx⟩ : ∃ wx : World, wx = wr.drewN nq := ⟨_, rfl⟩
                have z2 : wx.cell? ⟨sp, 2, none⟩ = some (.int .i64 a) := by rw [hwx]; exact y2
                have z3 : wx.cell? ⟨sp, 3, none⟩ = some (.int .i64 r) := by rw [hwx]; exact y3
                have z8 : wx.cell? ⟨sp, 8, none⟩ = some (.int .i64 1) := by rw [hwx]; exact y8
                have BX := Lib.hid (show Below W.heap.size W wx by rw [hwx]; exact IN.out.below.trans ((below_dn wr nq).mono IN.out.below.size))
                have j0 : wx.cell? ⟨b, o + p * 4, none⟩ = some (.int .i64 a) := by rw [hwx]; exact g0
                have j1 : wx.cell? ⟨b, o + p * 4 + 1, none⟩ = some (.int .i64 y) := by rw [hwx]; exact g1
                rw [← hwx]
                clear hwx
                go_wp2
                go_quiet (fail)
                obtain ⟨wy, hwy⟩ : ∃ wy : World, wy = wx.drewN nq := ⟨_, rfl⟩
                have s2 : wy.cell? ⟨sp, 2, none⟩ = some (.int .i64 a) := by rw [hwy]; exact z2
                have s3 : wy.cell? ⟨sp, 3, none⟩ = some (.int .i64 r) := by rw [hwy]; exact z3
                have s8 : wy.cell? ⟨sp, 8, none⟩ = some (.int .i64 1) := by rw [hwy]; exact z8
                have BY := Lib.hid (show Below W.heap.size W wy by rw [hwy]; exact BX.out.trans ((below_dn wx nq).mono BX.out.size))
                skip
                rw [← hwy]
                clear hwy z2 z3 z8 y2 y3 y8
                go_wp2
                have KEEP := Lib.hid (show ∀ W', Below wy.heap.size wy W' → W'.cell? ⟨sp, 2, none⟩ = some (.int .i64 a) ∧ W'.cell? ⟨sp, 3, none⟩ = some (.int .i64 r) ∧ Below wy.heap.size wy W' from fun W' h => ⟨by rw [h.cell (p := ⟨sp, 2, none⟩) (Nat.lt_of_lt_of_le hspW BY.out.size)]; exact s2, by rw [h.cell (p := ⟨sp, 3, none⟩) (Nat.lt_of_lt_of_le hspW BY.out.size)]; exact s3, h⟩)
                have OO := Lib.hid ((owns_one wy a r).drew)
                have BO := Lib.hid (((Below.refl wy.heap.size wy).alloc (Nat.le_refl _) (.cells #[.int .i64 a, .int .i64 r, .int .i64 0, .int .i64 0] 42)).drew)
                have HDL := Lib.hid (show ((S.drop p).flatMap encU).length = (n - p) * 4 by rw [flat_length encU_len, List.length_drop, HN.out])
                go_region_held3 (fun w' => w'.cell? ⟨sp, 2, none⟩ = some (.int .i64 a) ∧ w'.cell? ⟨sp, 3, none⟩ = some (.int .i64 r) ∧ Below wy.heap.size wy w')
                  (first | (exact KEEP.out _ E1) | (exact KEEP.out _ ((Below.refl _ wy).drew)) | (exact KEEP.out _ BO.out) | (go_split_ands; exact ⟨by assumption, by assumption, by assumption⟩))
                  ((refine step_own (by rfl) (.tmp 91) (.tmp 94) 22 (by rfl) wy.heap.size 42 i0 (.agg #[.int .i64 0, .int .i64 0, .int .i64 0, .int .i64 0]) 4 32 Try.underlying22 hi hz0 hz1 hz2 (by rfl) (by decide) (.slice (some ⟨wy.heap.size, 0, none⟩) 1 1) 1 (encU ⟨a, r, 0, 0⟩) ?_ ?_ ⟨b, o + p * 4, none⟩ (n - p) (cp - p) ((S.drop p).flatMap encU) ?_ HDL.out ?_ (flat_one encU_one _) ?_ ?_ ?_ ?_; (first | rfl | fail "A"); (first | with_reducible exact OO.out | fail "B"); (simp [Act.eval, Act.put]); (intro h; omega); (exact (HDR.out _ (BY.out.trans (BO.out.mono BY.out.size))).news encU_len (by decide)); (unfold maxLen; omega); omega; (simp); intro v1 w6 own1 gr1; have E1 := grown_own BO.out (Nat.le_refl _) OO.out gr1; clear gr1))
                obtain ⟨g1, o1, c1, rfl, ho1, ownA⟩ := owns_slice own1 (by omega)
                have HB6 := Lib.hid E1
                have OWN1 := Lib.hid ownA
                have NW6 := Lib.hid (owns_news ownA ho1)
                have t8 : w6.cell? ⟨sp, 8, none⟩ = some (.int .i64 1) := by rw [E1.cell (p := ⟨sp, 8, none⟩) (Nat.lt_of_lt_of_le hspW BY.out.size)]; exact s8
                clear own1 E1 ownA ho1 s2 s3 s8
                obtain ⟨m1, hm1e⟩ : ∃ m1, 1 + (n - p) = m1 := ⟨_, rfl⟩
                have hm1 : 1 ≤ m1 := by omega
                have hm1' : m1 ≤ n + 1 := by omega
                rw [hm1e] at OWN1 ⊢
                have HM1 := Lib.hid hm1e
                clear hm1e
                have HTL := Lib.hid (show ((S.take p).flatMap encU).length = p * 4 by rw [flat_length encU_len, List.length_take, HN.out, Nat.min_eq_left hp])
                have HOLD := Lib.hid (show ∀ bb, (some ⟨b, o, none⟩ : Option Addr) = some bb → ∀ j u, ((S.take p).flatMap encU)[j]? = some u → w6.cell? (bb.add j) = some u from fun bb e => by
                  have h := HTAKE.out _ p (BY.out.trans (HB6.out.mono BY.out.size))
                  rw [e] at h
                  exact h.news encU_len (by decide))
                have HNL := Lib.hid (show (encU ⟨a, r, 0, 0⟩ ++ (S.drop p).flatMap encU).length = m1 * 4 by rw [List.length_append, HDL.out, ← HM1.out]; simp [encU]; omega)
                have HONE := Lib.hid (show ∀ u ∈ (encU ⟨a, r, 0, 0⟩ ++ (S.drop p).flatMap encU), u.oneCell' = true from fun u hu => by
                  rcases List.mem_append.1 hu with h | h
                  · exact encU_one _ u h
                  · exact flat_one encU_one _ u h)
                have HNN := Lib.hid (show (some ⟨b, o, none⟩ : Option Addr) = none → p = 0 ∧ p = 0 from fun e => by have := HNONE.out e; omega)
                have hsp6 : sp < w6.heap.size := Nat.lt_of_lt_of_le hspW (Nat.le_trans BY.out.size HB6.out.size)
                have B6 := Lib.hid (BW.out.trans ((BY.out.trans (HB6.out.mono BY.out.size)).mono BW.out.size))
                have HBASE := Lib.hid (show w.heap.size ≤ w6.heap.size from B6.out.size)
                have HIL := Lib.hid (show (insU a r S p).length = p + m1 by rw [ins_len a r S p (by rw [HN.out]; exact hp), HN.out, ← HM1.out]; omega)
                clear hpn q1 q2
                go_wp2_with (at_builtin; refine wpList_append_grows _ rfl (.tmp 99) (.tmp 100) 22 rfl 42 i0 (.agg #[.int .i64 0, .int .i64 0, .int .i64 0, .int .i64 0]) 4 32 Try.underlying22 hi hz0 hz1 hz2 rfl (by decide) (some ⟨b, o, none⟩ : Option Addr) p p ((S.take p).flatMap encU) rfl HNN.out HTL.out HOLD.out ⟨g1, o1, none⟩ m1 c1 (encU ⟨a, r, 0, 0⟩ ++ (S.drop p).flatMap encU) rfl HNL.out NW6.out HONE.out (by omega) (by unfold maxLen; omega) (by omega) ?_; intro v2 w7 own2 gr2; have own3 := owns_base own2 HBASE.out; rw [ins_flat] at own3; obtain ⟨g2, o2, c2, rfl, ho2, ownB⟩ := owns_slice own3 (by omega); obtain ⟨f2, f3, k2, k3⟩ := FD.out.cells HIL.out ho2 ownB; have r8 : w7.cell? ⟨sp, 8, none⟩ = some (.int .i64 1) := (by rw [World.cell?_of_block (w := w6) (gr2.block sp hsp6 (by simp))]; exact t8); have B7 := Lib.hid (B6.out.grown gr2 HBASE.out (fun j hj => by cases hj)); have HO2 := Lib.hid ho2; have OWNB := Lib.hid ownB; clear own2 own3 gr2 ho2 ownB)
                go_roundw
                case rel => exact ⟨k + 1, by omega, by go_num, by rw [HM.out]; exact fin_val FD.out HIL.out HO2.out OWNB.out B7.out⟩
                case measure => simp [intOf]; omega
            · have q1 : decide (x < a) = false := by simp; omega
              have q2 : (x == a) = false := by simp; omega
              have q3 : ((p : Int) == (n : Int)) = false := by simp; omega
              have q4 : (x != a) = true := by simp; omega
              obtain ⟨cv, cv0, cv1, hFD⟩ : ∃ cv : Int, 0 ≤ cv ∧ cv ≤ 1000 ∧ Found a r S (insU a r S p) p cv cv := ⟨0, by omega, by omega, found_ins (by rw [HN.out]; exact hp) IN.out.low (fun h => by rw [HX.out, HY.out]; exact .inl h1)⟩
              have FD := Lib.hid hFD
              clear hFD NX
              have hpc : p < cp := by omega
              have i1' : (p : Int) < (cp : Int) := by omega
              have i2' : (p : Int) ≤ (cp : Int) := by omega
              have i3' : (p : Int) ≤ (n : Int) := by omega
              have i4' : (n : Int) ≤ (cp : Int) := by omega
              have HDR := Lib.hid (fun W' h => HDROP.out W' b o p rfl h)
              go_wp2
              go_quiet (fail)
              obtain ⟨wx, hwx⟩ : ∃ wx : World, wx = wr.drewN nq := ⟨_, rfl⟩
              have z2 : wx.cell? ⟨sp, 2, none⟩ = some (.int .i64 a) := by rw [hwx]; exact y2
              have z3 : wx.cell? ⟨sp, 3, none⟩ = some (.int .i64 r) := by rw [hwx]; exact y3
              have z8 : wx.cell? ⟨sp, 8, none⟩ = some (.int .i64 1) := by rw [hwx]; exact y8
              have BX := Lib.hid (show Below W.heap.size W wx by rw [hwx]; exact IN.out.below.trans ((below_dn wr nq).mono IN.out.below.size))
              have j0 : wx.cell? ⟨b, o + p * 4, none⟩ = some (.int .i64 x) := by rw [hwx]; exact g0
              have j1 : wx.cell? ⟨b, o + p * 4 + 1, none⟩ = some (.int .i64 y) := by rw [hwx]; exact g1
              rw [← hwx]
              clear hwx
              go_wp2
              go_quiet (fail)
              obtain ⟨wy, hwy⟩ : ∃ wy : World, wy = wx.drewN nq := ⟨_, rfl⟩
              have s2 : wy.cell? ⟨sp, 2, none⟩ = some (.int .i64 a) := by rw [hwy]; exact z2
              have s3 : wy.cell? ⟨sp, 3, none⟩ = some (.int .i64 r) := by rw [hwy]; exact z3
              have s8 : wy.cell? ⟨sp, 8, none⟩ = some (.int .i64 1) := by rw [hwy]; exact z8
              have BY := Lib.hid (show Below W.heap.size W wy by rw [hwy]; exact BX.out.trans ((below_dn wx nq).mono BX.out.size))
              skip
              rw [← hwy]
              clear hwy z2 z3 z8 y2 y3 y8
              go_wp2
              have KEEP := Lib.hid (show ∀ W', Below wy.heap.size wy W' → W'.cell? ⟨sp, 2, none⟩ = some (.int .i64 a) ∧ W'.cell? ⟨sp, 3, none⟩ = some (.int .i64 r) ∧ Below wy.heap.size wy W' from fun W' h => ⟨by rw [h.cell (p := ⟨sp, 2, none⟩) (Nat.lt_of_lt_of_le hspW BY.out.size)]; exact s2, by rw [h.cell (p := ⟨sp, 3, none⟩) (Nat.lt_of_lt_of_le hspW BY.out.size)]; exact s3, h⟩)
              have OO := Lib.hid ((owns_one wy a r).drew)
              have BO := Lib.hid (((Below.refl wy.heap.size wy).alloc (Nat.le_refl _) (.cells #[.int .i64 a, .int .i64 r, .int .i64 0, .int .i64 0] 42)).drew)
              have HDL := Lib.hid (show ((S.drop p).flatMap encU).length = (n - p) * 4 by rw [flat_length encU_len, List.length_drop, HN.out])
              go_region_held3 (fun w' => w'.cell? ⟨sp, 2, none⟩ = some (.int .i64 a) ∧ w'.cell? ⟨sp, 3, none⟩ = some (.int .i64 r) ∧ Below wy.heap.size wy w')
                (first | (exact KEEP.out _ E1) | (exact KEEP.out _ ((Below.refl _ wy).drew)) | (exact KEEP.out _ BO.out) | (go_split_ands; exact ⟨by assumption, by assumption, by assumption⟩))
                ((refine step_own (by rfl) (.tmp 91) (.tmp 94) 22 (by rfl) wy.heap.size 42 i0 (.agg #[.int .i64 0, .int .i64 0, .int .i64 0, .int .i64 0]) 4 32 Try.underlying22 hi hz0 hz1 hz2 (by rfl) (by decide) (.slice (some ⟨wy.heap.size, 0, none⟩) 1 1) 1 (encU ⟨a, r, 0, 0⟩) ?_ ?_ ⟨b, o + p * 4, none⟩ (n - p) (cp - p) ((S.drop p).flatMap encU) ?_ HDL.out ?_ (flat_one encU_one _) ?_ ?_ ?_ ?_; (first | rfl | fail "A"); (first | with_reducible exact OO.out | fail "B"); (simp [Act.eval, Act.put]); (intro h; omega); (exact (HDR.out _ (BY.out.trans (BO.out.mono BY.out.size))).news encU_len (by decide)); (unfold maxLen; omega); omega; (simp); intro v1 w6 own1 gr1; have E1 := grown_own BO.out (Nat.le_refl _) OO.out gr1; clear gr1))
              obtain ⟨g1, o1, c1, rfl, ho1, ownA⟩ := owns_slice own1 (by omega)
              have HB6 := Lib.hid E1
              have OWN1 := Lib.hid ownA
              have NW6 := Lib.hid (owns_news ownA ho1)
              have t8 : w6.cell? ⟨sp, 8, none⟩ = some (.int .i64 1) := by rw [E1.cell (p := ⟨sp, 8, none⟩) (Nat.lt_of_lt_of_le hspW BY.out.size)]; exact s8
              clear own1 E1 ownA ho1 s2 s3 s8
              obtain ⟨m1, hm1e⟩ : ∃ m1, 1 + (n - p) = m1 := ⟨_, rfl⟩
              have hm1 : 1 ≤ m1 := by omega
              have hm1' : m1 ≤ n + 1 := by omega
              rw [hm1e] at OWN1 ⊢
              have HM1 := Lib.hid hm1e
              clear hm1e
              have HTL := Lib.hid (show ((S.take p).flatMap encU).length = p * 4 by rw [flat_length encU_len, List.length_take, HN.out, Nat.min_eq_left hp])
              have HOLD := Lib.hid (show ∀ bb, (some ⟨b, o, none⟩ : Option Addr) = some bb → ∀ j u, ((S.take p).flatMap encU)[j]? = some u → w6.cell? (bb.add j) = some u from fun bb e => by
                have h := HTAKE.out _ p (BY.out.trans (HB6.out.mono BY.out.size))
                rw [e] at h
                exact h.news encU_len (by decide))
              have HNL := Lib.hid (show (encU ⟨a, r, 0, 0⟩ ++ (S.drop p).flatMap encU).length = m1 * 4 by rw [List.length_append, HDL.out, ← HM1.out]; simp [encU]; omega)
              have HONE := Lib.hid (show ∀ u ∈ (encU ⟨a, r, 0, 0⟩ ++ (S.drop p).flatMap encU), u.oneCell' = true from fun u hu => by
                rcases List.mem_append.1 hu with h | h
                · exact encU_one _ u h
                · exact flat_one encU_one _ u h)
              have HNN := Lib.hid (show (some ⟨b, o, none⟩ : Option Addr) = none → p = 0 ∧ p = 0 from fun e => by have := HNONE.out e; omega)
              have hsp6 : sp < w6.heap.size := Nat.lt_of_lt_of_le hspW (Nat.le_trans BY.out.size HB6.out.size)
              have B6 := Lib.hid (BW.out.trans ((BY.out.trans (HB6.out.mono BY.out.size)).mono BW.out.size))
              have HBASE := Lib.hid (show w.heap.size ≤ w6.heap.size from B6.out.size)
              have HIL := Lib.hid (show (insU a r S p).length = p + m1 by rw [ins_len a r S p (by rw [HN.out]; exact hp), HN.out, ← HM1.out]; omega)
              clear hpn q1 q2
              go_wp2_with (at_builtin; refine wpList_append_grows _ rfl (.tmp 99) (.tmp 100) 22 rfl 42 i0 (.agg #[.int .i64 0, .int .i64 0, .int .i64 0, .int .i64 0]) 4 32 Try.underlying22 hi hz0 hz1 hz2 rfl (by decide) (some ⟨b, o, none⟩ : Option Addr) p p ((S.take p).flatMap encU) rfl HNN.out HTL.out HOLD.out ⟨g1, o1, none⟩ m1 c1 (encU ⟨a, r, 0, 0⟩ ++ (S.drop p).flatMap encU) rfl HNL.out NW6.out HONE.out (by omega) (by unfold maxLen; omega) (by omega) ?_; intro v2 w7 own2 gr2; have own3 := owns_base own2 HBASE.out; rw [ins_flat] at own3; obtain ⟨g2, o2, c2, rfl, ho2, ownB⟩ := owns_slice own3 (by omega); obtain ⟨f2, f3, k2, k3⟩ := FD.out.cells HIL.out ho2 ownB; have r8 : w7.cell? ⟨sp, 8, none⟩ = some (.int .i64 1) := (by rw [World.cell?_of_block (w := w6) (gr2.block sp hsp6 (by simp))]; exact t8); have B7 := Lib.hid (B6.out.grown gr2 HBASE.out (fun j hj => by cases hj)); have HO2 := Lib.hid ho2; have OWNB := Lib.hid ownB; clear own2 own3 gr2 ho2 ownB)
              go_roundw
              case rel => exact ⟨k + 1, by omega, by go_num, by rw [HM.out]; exact fin_val FD.out HIL.out HO2.out OWNB.out B7.out⟩
              case measure => simp [intOf]; omega
          · have q1 : decide (p < n) = false := by simp; omega
            have q2 : ((p : Int) == (n : Int)) = true := by simp; omega
            obtain ⟨cv, cv0, cv1, hFD⟩ : ∃ cv : Int, 0 ≤ cv ∧ cv ≤ 1000 ∧ Found a r S (insU a r S p) p cv cv := ⟨0, by omega, by omega, found_ins (by rw [HN.out]; exact hp) IN.out.low (fun h => absurd (by rw [HN.out] at h; exact h) hpn)⟩
            have FD := Lib.hid hFD
            clear hFD
            obtain ⟨b, o, h⟩ := hsome.out
            · subst h
              by_cases hpc : p < cp
              · have i0' : (0 : Int) ≤ (p : Int) := by omega
                have i1' : (p : Int) < (cp : Int) := by omega
                have i2' : (p : Int) ≤ (cp : Int) := by omega
                have i3' : (p : Int) ≤ (n : Int) := by omega
                have i4' : (n : Int) ≤ (cp : Int) := by omega
                have HDR := Lib.hid (fun W' h => HDROP.out W' b o p rfl h)
                go_wp2
                go_quiet (fail)
                obtain ⟨wx, hwx⟩ : ∃ wx : World, wx = wr.drewN nq := ⟨_, rfl⟩
                have z2 : wx.cell? ⟨sp, 2, none⟩ = some (.int .i64 a) := by rw [hwx]; exact y2
                have z3 : wx.cell? ⟨sp, 3, none⟩ = some (.int .i64 r) := by rw [hwx]; exact y3
                have z8 : wx.cell? ⟨sp, 8, none⟩ = some (.int .i64 1) := by rw [hwx]; exact y8
                have BX := Lib.hid (show Below W.heap.size W wx by rw [hwx]; exact IN.out.below.trans ((below_dn wr nq).mono IN.out.below.size))
                skip
                skip
                rw [← hwx]
                clear hwx
                go_wp2
                go_quiet (fail)
                obtain ⟨wy, hwy⟩ : ∃ wy : World, wy = wx.drewN nq := ⟨_, rfl⟩
                have s2 : wy.cell? ⟨sp, 2, none⟩ = some (.int .i64 a) := by rw [hwy]; exact z2
                have s3 : wy.cell? ⟨sp, 3, none⟩ = some (.int .i64 r) := by rw [hwy]; exact z3
                have s8 : wy.cell? ⟨sp, 8, none⟩ = some (.int .i64 1) := by rw [hwy]; exact z8
                have BY := Lib.hid (show Below W.heap.size W wy by rw [hwy]; exact BX.out.trans ((below_dn wx nq).mono BX.out.size))
                skip
                rw [← hwy]
                clear hwy z2 z3 z8 y2 y3 y8
                go_wp2
                have KEEP := Lib.hid (show ∀ W', Below wy.heap.size wy W' → W'.cell? ⟨sp, 2, none⟩ = some (.int .i64 a) ∧ W'.cell? ⟨sp, 3, none⟩ = some (.int .i64 r) ∧ Below wy.heap.size wy W' from fun W' h => ⟨by rw [h.cell (p := ⟨sp, 2, none⟩) (Nat.lt_of_lt_of_le hspW BY.out.size)]; exact s2, by rw [h.cell (p := ⟨sp, 3, none⟩) (Nat.lt_of_lt_of_le hspW BY.out.size)]; exact s3, h⟩)
                have OO := Lib.hid ((owns_one wy a r).drew)
                have BO := Lib.hid (((Below.refl wy.heap.size wy).alloc (Nat.le_refl _) (.cells #[.int .i64 a, .int .i64 r, .int .i64 0, .int .i64 0] 42)).drew)
                have HDL := Lib.hid (show ((S.drop p).flatMap encU).length = (n - p) * 4 by rw [flat_length encU_len, List.length_drop, HN.out])
                go_region_held3 (fun w' => w'.cell? ⟨sp, 2, none⟩ = some (.int .i64 a) ∧ w'.cell? ⟨sp, 3, none⟩ = some (.int .i64 r) ∧ Below wy.heap.size wy w')
                  (first | (exact KEEP.out _ E1) | (exact KEEP.out _ ((Below.refl _ wy).drew)) | (exact KEEP.out _ BO.out) | (go_split_ands; exact ⟨by assumption, by assumption, by assumption⟩))
                  ((refine step_own (by rfl) (.tmp 91) (.tmp 94) 22 (by rfl) wy.heap.size 42 i0 (.agg #[.int .i64 0, .int .i64 0, .int .i64 0, .int .i64 0]) 4 32 Try.underlying22 hi hz0 hz1 hz2 (by rfl) (by decide) (.slice (some ⟨wy.heap.size, 0, none⟩) 1 1) 1 (encU ⟨a, r, 0, 0⟩) ?_ ?_ ⟨b, o + p * 4, none⟩ (n - p) (cp - p) ((S.drop p).flatMap encU) ?_ HDL.out ?_ (flat_one encU_one _) ?_ ?_ ?_ ?_; (first | rfl | fail "A"); (first | with_reducible exact OO.out | fail "B"); (simp [Act.eval, Act.put]); (intro h; omega); (exact (HDR.out _ (BY.out.trans (BO.out.mono BY.out.size))).news encU_len (by decide)); (unfold maxLen; omega); omega; (simp); intro v1 w6 own1 gr1; have E1 := grown_own BO.out (Nat.le_refl _) OO.out gr1; clear gr1))
                obtain ⟨g1, o1, c1, rfl, ho1, ownA⟩ := owns_slice own1 (by omega)
                have HB6 := Lib.hid E1
                have OWN1 := Lib.hid ownA
                have NW6 := Lib.hid (owns_news ownA ho1)
                have t8 : w6.cell? ⟨sp, 8, none⟩ = some (.int .i64 1) := by rw [E1.cell (p := ⟨sp, 8, none⟩) (Nat.lt_of_lt_of_le hspW BY.out.size)]; exact s8
                clear own1 E1 ownA ho1 s2 s3 s8
                obtain ⟨m1, hm1e⟩ : ∃ m1, 1 + (n - p) = m1 := ⟨_, rfl⟩
                have hm1 : 1 ≤ m1 := by omega
                have hm1' : m1 ≤ n + 1 := by omega
                rw [hm1e] at OWN1 ⊢
                have HM1 := Lib.hid hm1e
                clear hm1e
                have HTL := Lib.hid (show ((S.take p).flatMap encU).length = p * 4 by rw [flat_length encU_len, List.length_take, HN.out, Nat.min_eq_left hp])
                have HOLD := Lib.hid (show ∀ bb, (some ⟨b, o, none⟩ : Option Addr) = some bb → ∀ j u, ((S.take p).flatMap encU)[j]? = some u → w6.cell? (bb.add j) = some u from fun bb e => by
                  have h := HTAKE.out _ p (BY.out.trans (HB6.out.mono BY.out.size))
                  rw [e] at h
                  exact h.news encU_len (by decide))
                have HNL := Lib.hid (show (encU ⟨a, r, 0, 0⟩ ++ (S.drop p).flatMap encU).length = m1 * 4 by rw [List.length_append, HDL.out, ← HM1.out]; simp [encU]; omega)
                have HONE := Lib.hid (show ∀ u ∈ (encU ⟨a, r, 0, 0⟩ ++ (S.drop p).flatMap encU), u.oneCell' = true from fun u hu => by
                  rcases List.mem_append.1 hu with h | h
                  · exact encU_one _ u h
                  · exact flat_one encU_one _ u h)
                have HNN := Lib.hid (show (some ⟨b, o, none⟩ : Option Addr) = none → p = 0 ∧ p = 0 from fun e => by have := HNONE.out e; omega)
                have hsp6 : sp < w6.heap.size := Nat.lt_of_lt_of_le hspW (Nat.le_trans BY.out.size HB6.out.size)
                have B6 := Lib.hid (BW.out.trans ((BY.out.trans (HB6.out.mono BY.out.size)).mono BW.out.size))
                have HBASE := Lib.hid (show w.heap.size ≤ w6.heap.size from B6.out.size)
                have HIL := Lib.hid (show (insU a r S p).length = p + m1 by rw [ins_len a r S p (by rw [HN.out]; exact hp), HN.out, ← HM1.out]; omega)
                clear hpn q1 q2
                go_wp2_with (at_builtin; refine wpList_append_grows _ rfl (.tmp 99) (.tmp 100) 22 rfl 42 i0 (.agg #[.int .i64 0, .int .i64 0, .int .i64 0, .int .i64 0]) 4 32 Try.underlying22 hi hz0 hz1 hz2 rfl (by decide) (some ⟨b, o, none⟩ : Option Addr) p p ((S.take p).flatMap encU) rfl HNN.out HTL.out HOLD.out ⟨g1, o1, none⟩ m1 c1 (encU ⟨a, r, 0, 0⟩ ++ (S.drop p).flatMap encU) rfl HNL.out NW6.out HONE.out (by omega) (by unfold maxLen; omega) (by omega) ?_; intro v2 w7 own2 gr2; have own3 := owns_base own2 HBASE.out; rw [ins_flat] at own3; obtain ⟨g2, o2, c2, rfl, ho2, ownB⟩ := owns_slice own3 (by omega); obtain ⟨f2, f3, k2, k3⟩ := FD.out.cells HIL.out ho2 ownB; have r8 : w7.cell? ⟨sp, 8, none⟩ = some (.int .i64 1) := (by rw [World.cell?_of_block (w := w6) (gr2.block sp hsp6 (by simp))]; exact t8); have B7 := Lib.hid (B6.out.grown gr2 HBASE.out (fun j hj => by cases hj)); have HO2 := Lib.hid ho2; have OWNB := Lib.hid ownB; clear own2 own3 gr2 ho2 ownB)
                go_roundw
                case rel => exact ⟨k + 1, by omega, by go_num, by rw [HM.out]; exact fin_val FD.out HIL.out HO2.out OWNB.out B7.out⟩
                case measure => simp [intOf]; omega
              · obtain rfl : cp = p := by omega
                have i0' : (0 : Int) ≤ (cp : Int) := by omega
                have i2' : (cp : Int) ≤ (cp : Int) := by omega
                have i3' : (cp : Int) ≤ (n : Int) := by omega
                have i4' : (n : Int) ≤ (cp : Int) := by omega
                have HDR := Lib.hid (show ∀ W', Below W.heap.size W W' → RowK 4 encU W' (some ⟨b, o, none⟩) (S.drop cp) from fun W' h => by rw [List.drop_eq_nil_of_le (by rw [HN.out]; omega)]; exact RowK.nil _ _ _ _)
                go_wp2
                go_quiet (fail)
                obtain ⟨wx, hwx⟩ : ∃ wx : World, wx = wr.drewN nq := ⟨_, rfl⟩
                have z2 : wx.cell? ⟨sp, 2, none⟩ = some (.int .i64 a) := by rw [hwx]; exact y2
                have z3 : wx.cell? ⟨sp, 3, none⟩ = some (.int .i64 r) := by rw [hwx]; exact y3
                have z8 : wx.cell? ⟨sp, 8, none⟩ = some (.int .i64 1) := by rw [hwx]; exact y8
                have BX := Lib.hid (show Below W.heap.size W wx by rw [hwx]; exact IN.out.below.trans ((below_dn wr nq).mono IN.out.below.size))
                skip
                skip
                rw [← hwx]
                clear hwx
                go_wp2
                go_quiet (fail)
                obtain ⟨wy, hwy⟩ : ∃ wy : World, wy = wx.drewN nq := ⟨_, rfl⟩
                have s2 : wy.cell? ⟨sp, 2, none⟩ = some (.int .i64 a) := by rw [hwy]; exact z2
                have s3 : wy.cell? ⟨sp, 3, none⟩ = some (.int .i64 r) := by rw [hwy]; exact z3
                have s8 : wy.cell? ⟨sp, 8, none⟩ = some (.int .i64 1) := by rw [hwy]; exact z8
                have BY := Lib.hid (show Below W.heap.size W wy by rw [hwy]; exact BX.out.trans ((below_dn wx nq).mono BX.out.size))
                skip
                rw [← hwy]
                clear hwy z2 z3 z8 y2 y3 y8
                go_wp2
                have KEEP := Lib.hid (show ∀ W', Below wy.heap.size wy W' → W'.cell? ⟨sp, 2, none⟩ = some (.int .i64 a) ∧ W'.cell? ⟨sp, 3, none⟩ = some (.int .i64 r) ∧ Below wy.heap.size wy W' from fun W' h => ⟨by rw [h.cell (p := ⟨sp, 2, none⟩) (Nat.lt_of_lt_of_le hspW BY.out.size)]; exact s2, by rw [h.cell (p := ⟨sp, 3, none⟩) (Nat.lt_of_lt_of_le hspW BY.out.size)]; exact s3, h⟩)
                have OO := Lib.hid ((owns_one wy a r).drew)
                have BO := Lib.hid (((Below.refl wy.heap.size wy).alloc (Nat.le_refl _) (.cells #[.int .i64 a, .int .i64 r, .int .i64 0, .int .i64 0] 42)).drew)
                have HDL := Lib.hid (show ((S.drop cp).flatMap encU).length = (n - cp) * 4 by rw [flat_length encU_len, List.length_drop, HN.out])
                go_region_held3 (fun w' => w'.cell? ⟨sp, 2, none⟩ = some (.int .i64 a) ∧ w'.cell? ⟨sp, 3, none⟩ = some (.int .i64 r) ∧ Below wy.heap.size wy w')
                  (first | (exact KEEP.out _ E1) | (exact KEEP.out _ ((Below.refl _ wy).drew)) | (exact KEEP.out _ BO.out) | (go_split_ands; exact ⟨by assumption, by assumption, by assumption⟩))
                  ((refine step_own (by rfl) (.tmp 91) (.tmp 94) 22 (by rfl) wy.heap.size 42 i0 (.agg #[.int .i64 0, .int .i64 0, .int .i64 0, .int .i64 0]) 4 32 Try.underlying22 hi hz0 hz1 hz2 (by rfl) (by decide) (.slice (some ⟨wy.heap.size, 0, none⟩) 1 1) 1 (encU ⟨a, r, 0, 0⟩) ?_ ?_ ⟨b, o, none⟩ (n - cp) (cp - cp) ((S.drop cp).flatMap encU) ?_ HDL.out ?_ (flat_one encU_one _) ?_ ?_ ?_ ?_; (first | rfl | fail "A"); (first | with_reducible exact OO.out | fail "B"); (simp [Act.eval, Act.put]); omega; (exact (HDR.out _ (BY.out.trans (BO.out.mono BY.out.size))).news encU_len (by decide)); (unfold maxLen; omega); omega; (simp); intro v1 w6 own1 gr1; have E1 := grown_own BO.out (Nat.le_refl _) OO.out gr1; clear gr1))
                obtain ⟨g1, o1, c1, rfl, ho1, ownA⟩ := owns_slice own1 (by omega)
                have HB6 := Lib.hid E1
                have OWN1 := Lib.hid ownA
                have NW6 := Lib.hid (owns_news ownA ho1)
                have t8 : w6.cell? ⟨sp, 8, none⟩ = some (.int .i64 1) := by rw [E1.cell (p := ⟨sp, 8, none⟩) (Nat.lt_of_lt_of_le hspW BY.out.size)]; exact s8
                clear own1 E1 ownA ho1 s2 s3 s8
                obtain ⟨m1, hm1e⟩ : ∃ m1, 1 + (n - cp) = m1 := ⟨_, rfl⟩
                have hm1 : 1 ≤ m1 := by omega
                have hm1' : m1 ≤ n + 1 := by omega
                rw [hm1e] at OWN1 ⊢
                have HM1 := Lib.hid hm1e
                clear hm1e
                have HTL := Lib.hid (show ((S.take cp).flatMap encU).length = cp * 4 by rw [flat_length encU_len, List.length_take, HN.out, Nat.min_eq_left hp])
                have HOLD := Lib.hid (show ∀ bb, (some ⟨b, o, none⟩ : Option Addr) = some bb → ∀ j u, ((S.take cp).flatMap encU)[j]? = some u → w6.cell? (bb.add j) = some u from fun bb e => by
                  have h := HTAKE.out _ cp (BY.out.trans (HB6.out.mono BY.out.size))
                  rw [e] at h
                  exact h.news encU_len (by decide))
                have HNL := Lib.hid (show (encU ⟨a, r, 0, 0⟩ ++ (S.drop cp).flatMap encU).length = m1 * 4 by rw [List.length_append, HDL.out, ← HM1.out]; simp [encU]; omega)
                have HONE := Lib.hid (show ∀ u ∈ (encU ⟨a, r, 0, 0⟩ ++ (S.drop cp).flatMap encU), u.oneCell' = true from fun u hu => by
                  rcases List.mem_append.1 hu with h | h
                  · exact encU_one _ u h
                  · exact flat_one encU_one _ u h)
                have HNN := Lib.hid (show (some ⟨b, o, none⟩ : Option Addr) = none → cp = 0 ∧ cp = 0 from fun e => by have := HNONE.out e; omega)
                have hsp6 : sp < w6.heap.size := Nat.lt_of_lt_of_le hspW (Nat.le_trans BY.out.size HB6.out.size)
                have B6 := Lib.hid (BW.out.trans ((BY.out.trans (HB6.out.mono BY.out.size)).mono BW.out.size))
                have HBASE := Lib.hid (show w.heap.size ≤ w6.heap.size from B6.out.size)
                have HIL := Lib.hid (show (insU a r S cp).length = cp + m1 by rw [ins_len a r S cp (by rw [HN.out]; exact hp), HN.out, ← HM1.out]; omega)
                clear hpn q1 q2
                go_wp2_with (at_builtin; refine wpList_append_grows _ rfl (.tmp 99) (.tmp 100) 22 rfl 42 i0 (.agg #[.int .i64 0, .int .i64 0, .int .i64 0, .int .i64 0]) 4 32 Try.underlying22 hi hz0 hz1 hz2 rfl (by decide) (some ⟨b, o, none⟩ : Option Addr) cp cp ((S.take cp).flatMap encU) rfl HNN.out HTL.out HOLD.out ⟨g1, o1, none⟩ m1 c1 (encU ⟨a, r, 0, 0⟩ ++ (S.drop cp).flatMap encU) rfl HNL.out NW6.out HONE.out (by omega) (by unfold maxLen; omega) (by omega) ?_; intro v2 w7 own2 gr2; have own3 := owns_base own2 HBASE.out; rw [ins_flat] at own3; obtain ⟨g2, o2, c2, rfl, ho2, ownB⟩ := owns_slice own3 (by omega); obtain ⟨f2, f3, k2, k3⟩ := FD.out.cells HIL.out ho2 ownB; have r8 : w7.cell? ⟨sp, 8, none⟩ = some (.int .i64 1) := (by rw [World.cell?_of_block (w := w6) (gr2.block sp hsp6 (by simp))]; exact t8); have B7 := Lib.hid (B6.out.grown gr2 HBASE.out (fun j hj => by cases hj)); have HO2 := Lib.hid ho2; have OWNB := Lib.hid ownB; clear own2 own3 gr2 ho2 ownB)
                go_roundw
                case rel => exact ⟨k + 1, by omega, by go_num, by rw [HM.out]; exact fin_val FD.out HIL.out HO2.out OWNB.out B7.out⟩
                case measure => simp [intOf]; omega
      · by_cases hm2 : mk = 2
        · have HM := Lib.hid (show usL (l.take (k + 1)) = bumpU a r 0 1 (usL (l.take k)) by rw [HT.out]; unfold uStepS; simp [hm2])
          subst hm2
          obtain ⟨S, hS⟩ : ∃ S, usL (l.take k) = S := ⟨_, rfl⟩
          rw [hS] at RR FACT HM
          clear hS HT
          obtain ⟨n, hn⟩ : ∃ n, S.length = n := ⟨_, rfl⟩
          have hnk : n ≤ k := by rw [← hn]; exact FACT.out.2.1
          obtain ⟨ao, cp, rfl, hcp, hrow⟩ := rowK_of_owns encU_len (by decide) RR.out.own
          rw [hn] at hcp
          have HN := Lib.hid hn
          have HROW := Lib.hid hrow
          obtain ⟨hcn, hnc⟩ := hcp
          have HCN := Lib.hid hcn
          clear hrow hcn
          rw [hn]
          clear hn
          go_wp2
          obtain ⟨sp, hsp⟩ : ∃ sp, wo.heap.size = sp := ⟨_, rfl⟩
          obtain ⟨W, hW⟩ : ∃ W : World, W = wo.alloc (.cells #[.int .i64 d0, .int .i64 d1, .int .i64 a, .int .i64 r, .int .i64 d4, .int .i64 d5, .int .i64 d6, .int .i64 d7, .int .i64 2] 52) := ⟨_, rfl⟩
          have x2 : W.cell? ⟨sp, 2, none⟩ = some (.int .i64 a) := by rw [hW]; exact cell_box _ _ _ 2 _ rfl _ hsp
          have x3 : W.cell? ⟨sp, 3, none⟩ = some (.int .i64 r) := by rw [hW]; exact cell_box _ _ _ 3 _ rfl _ hsp
          have x8 : W.cell? ⟨sp, 8, none⟩ = some (.int .i64 2) := by rw [hW]; exact cell_box _ _ _ 8 _ rfl _ hsp
          have OW := Lib.hid (show W.ownsRow w.heap.size 42 4 (.slice ao n cp) n (S.flatMap encU) by have o := RR.out.own; rw [HN.out] at o; rw [hW]; exact o.alloc _)
          have HROWW := Lib.hid (show RowK 4 encU W ao S by rw [hW]; exact HROW.out.alloc _)
          have BW := Lib.hid (show Below w.heap.size w W by rw [hW]; exact RR.out.below.alloc RR.out.below.size _)
          have hspW : sp < W.heap.size := by rw [hW, World.size_alloc]; omega
          rw [hsp, ← hW]
          clear hsp hW HROW RR e0 e1 e2 e3 e4 e5 e6 e7 e8
          have HDROP := Lib.hid (show ∀ (W' : World) (b o p : Nat), ao = some ⟨b, o, none⟩ → Below W.heap.size W W' → RowK 4 encU W' (some ⟨b, o + p * 4, none⟩) (S.drop p) from fun W' b o p e h => by subst e; exact (HROWW.out.later h).drop p)
          have HTAKE := Lib.hid (show ∀ (W' : World) (p : Nat), Below W.heap.size W W' → RowK 4 encU W' ao (S.take p) from fun W' p h => (HROWW.out.later h).take p)
          have HZERO := Lib.hid (show ∀ b o, ao = some ⟨b, o, none⟩ → o = 0 ∧ w.heap.size ≤ b from fun b o e => by
            subst e
            obtain ⟨g, _, _, hv, hg, _⟩ := OW.out.2.resolve_left (fun h => by cases h.1)
            cases hv; exact ⟨rfl, hg⟩)
          have HNONE := Lib.hid (show ao = none → n = 0 ∧ cp = 0 from fun e => by
            subst e
            rcases OW.out.2 with ⟨h, h0⟩ | ⟨g, _, _, hv, _⟩
            · cases h; exact ⟨h0, rfl⟩
            · cases hv)
          have HSOME := Lib.hid (show ao = none ∨ ∃ b o, ao = some ⟨b, o, none⟩ from by
            rcases OW.out.2 with ⟨h, h0⟩ | ⟨g, _, _, hv, _⟩
            · cases h; exact .inl rfl
            · cases hv; exact .inr ⟨_, _, rfl⟩)
          rcases HSOME.out with h | h
          · subst h
            obtain ⟨rfl, rfl⟩ := HNONE.out rfl
            go_loopw [6] (fun j wx => j = .int .i64 0 ∧ InR W wx a r S 0) (fun j _ => 0)
            case atStart => exact ⟨rfl, ⟨Lower.zero _ _ _, Below.refl _ _⟩⟩
            case round =>
              obtain ⟨rfl, hin⟩ := hrel
              have IN := Lib.hid hin
              have y2 : wr.cell? ⟨sp, 2, none⟩ = some (.int .i64 a) := by rw [hin.below.cell (p := ⟨sp, 2, none⟩) hspW]; exact x2
              have y3 : wr.cell? ⟨sp, 3, none⟩ = some (.int .i64 r) := by rw [hin.below.cell (p := ⟨sp, 3, none⟩) hspW]; exact x3
              have y8 : wr.cell? ⟨sp, 8, none⟩ = some (.int .i64 2) := by rw [hin.below.cell (p := ⟨sp, 8, none⟩) hspW]; exact x8
              clear hin x2 x3 x8
              go_wp2
              go_quiet (fail)
              obtain ⟨wx, hwx⟩ : ∃ wx : World, wx = wr.drewN nq := ⟨_, rfl⟩
              have z2 : wx.cell? ⟨sp, 2, none⟩ = some (.int .i64 a) := by rw [hwx]; exact y2
              have z3 : wx.cell? ⟨sp, 3, none⟩ = some (.int .i64 r) := by rw [hwx]; exact y3
              have z8 : wx.cell? ⟨sp, 8, none⟩ = some (.int .i64 2) := by rw [hwx]; exact y8
              have BX := Lib.hid (show Below W.heap.size W wx by rw [hwx]; exact IN.out.below.trans ((below_dn wr nq).mono IN.out.below.size))
              skip
              skip
              rw [← hwx]
              clear hwx
              go_wp2
              go_quiet (fail)
              obtain ⟨wy, hwy⟩ : ∃ wy : World, wy = wx.drewN nq := ⟨_, rfl⟩
              have s2 : wy.cell? ⟨sp, 2, none⟩ = some (.int .i64 a) := by rw [hwy]; exact z2
              have s3 : wy.cell? ⟨sp, 3, none⟩ = some (.int .i64 r) := by rw [hwy]; exact z3
              have s8 : wy.cell? ⟨sp, 8, none⟩ = some (.int .i64 2) := by rw [hwy]; exact z8
              have BY := Lib.hid (show Below W.heap.size W wy by rw [hwy]; exact BX.out.trans ((below_dn wx nq).mono BX.out.size))
              skip
              rw [← hwy]
              clear hwy z2 z3 z8 y2 y3 y8
              go_wp2
              have hS0 : S = [] := List.eq_nil_of_length_eq_zero HN.out
              obtain ⟨cv, cv0, cv1, hFD⟩ : ∃ cv : Int, 0 ≤ cv ∧ cv ≤ 1000 ∧ Found a r S [⟨a, r, 0, 0⟩] 0 cv cv := ⟨0, by omega, by omega, by have h := found_ins (a := a) (r := r) (S := S) (k := 0) (Nat.zero_le _) (Lower.zero _ _ _) (fun h => absurd h (by rw [HN.out]; omega)); rw [hS0] at h ⊢; exact h⟩
              have FD := Lib.hid hFD
              clear hFD hS0
              have KEEP := Lib.hid (show ∀ W', Below wy.heap.size wy W' → W'.cell? ⟨sp, 2, none⟩ = some (.int .i64 a) ∧ W'.cell? ⟨sp, 3, none⟩ = some (.int .i64 r) ∧ Below wy.heap.size wy W' from fun W' h => ⟨by rw [h.cell (p := ⟨sp, 2, none⟩) (Nat.lt_of_lt_of_le hspW BY.out.size)]; exact s2, by rw [h.cell (p := ⟨sp, 3, none⟩) (Nat.lt_of_lt_of_le hspW BY.out.size)]; exact s3, h⟩)
              have OO := Lib.hid ((owns_one wy a r).drew)
              have BO := Lib.hid (((Below.refl wy.heap.size wy).alloc (Nat.le_refl _) (.cells #[.int .i64 a, .int .i64 r, .int .i64 0, .int .i64 0] 42)).drew)
              go_region_held3 (fun w' => w'.cell? ⟨sp, 2, none⟩ = some (.int .i64 a) ∧ w'.cell? ⟨sp, 3, none⟩ = some (.int .i64 r) ∧ Below wy.heap.size wy w')
                (first | (exact KEEP.out _ ((Below.refl _ wy).drew)) | (exact KEEP.out _ BO.out) | (go_split_ands; exact ⟨by assumption, by assumption, by assumption⟩))
                ((refine step_own_none (by rfl) (.tmp 91) (.tmp 94) 22 (by rfl) wy.heap.size 42 i0 4 Try.underlying22 hi (.slice (some ⟨wy.heap.size, 0, none⟩) 1 1) 1 (encU ⟨a, r, 0, 0⟩) ?_ ?_ ?_ ?_; (first | rfl | fail "A"); (first | with_reducible exact OO.out | fail "B"); (first | rfl | fail "C")))
              obtain ⟨w6, hw6⟩ : ∃ w6 : World, w6 = (wy.alloc (.cells #[.int .i64 a, .int .i64 r, .int .i64 0, .int .i64 0] 42)).drew := ⟨_, rfl⟩
              have HB6 := Lib.hid (show Below wy.heap.size wy w6 by rw [hw6]; exact BO.out)
              have ownA : w6.ownsRow wy.heap.size 42 4 (.slice (some ⟨wy.heap.size, 0, none⟩) 1 1) 1 (encU ⟨a, r, 0, 0⟩) := by rw [hw6]; exact OO.out
              rw [← hw6]
              clear hw6 OO BO
              have NW6 := Lib.hid (owns_news ownA rfl)
              obtain ⟨g1, hg1⟩ : ∃ g1, wy.heap.size = g1 := ⟨_, rfl⟩
              rw [hg1] at NW6 ⊢
              clear hg1 ownA
              have t8 : w6.cell? ⟨sp, 8, none⟩ = some (.int .i64 2) := by rw [HB6.out.cell (p := ⟨sp, 8, none⟩) (Nat.lt_of_lt_of_le hspW BY.out.size)]; exact s8
              have hsp6 : sp < w6.heap.size := Nat.lt_of_lt_of_le hspW (Nat.le_trans BY.out.size HB6.out.size)
              have B6 := Lib.hid (BW.out.trans ((BY.out.trans (HB6.out.mono BY.out.size)).mono BW.out.size))
              have HBASE := Lib.hid (show w.heap.size ≤ w6.heap.size from B6.out.size)
              clear s2 s3 s8
              go_wp2_with (at_builtin; refine wpList_append_grows _ rfl (.tmp 99) (.tmp 100) 22 rfl 42 i0 (.agg #[.int .i64 0, .int .i64 0, .int .i64 0, .int .i64 0]) 4 32 Try.underlying22 hi hz0 hz1 hz2 rfl (by decide) none 0 0 [] rfl (fun _ => ⟨rfl, rfl⟩) rfl (fun bb e => by cases e) ⟨g1, 0, none⟩ 1 1 (encU ⟨a, r, 0, 0⟩) rfl rfl NW6.out (encU_one _) (by omega) (by unfold maxLen; omega) (by omega) ?_; intro v2 w7 own2 gr2; have own3 : w7.ownsRow w.heap.size 42 4 v2 1 ([(⟨a, r, 0, 0⟩ : Us)].flatMap encU) := owns_base own2 HBASE.out; obtain ⟨g2, o2, c2, rfl, ho2, ownB⟩ := owns_slice own3 (by omega); obtain ⟨f2, f3, k2, k3⟩ := FD.out.cells rfl ho2 ownB; simp only [Nat.zero_mul, Nat.add_zero] at f2 f3 k2 k3; have r8 : w7.cell? ⟨sp, 8, none⟩ = some (.int .i64 2) := (by rw [World.cell?_of_block (w := w6) (gr2.block sp hsp6 (by simp))]; exact t8); have B7 := Lib.hid (B6.out.grown gr2 HBASE.out (fun j hj => by cases hj)); have HO2 := Lib.hid ho2; have OWNB := Lib.hid ownB; clear own2 own3 gr2 ho2 ownB)
              have HF := Lib.hid (fin_held FD.out rfl HO2.out OWNB.out B7.out)
              simp only [Nat.zero_mul, Nat.add_zero] at HF
              go_roundw
              case rel => exact ⟨k + 1, by omega, by go_num, by rw [HM.out]; exact HF.out⟩
              case measure => simp [intOf]; omega
          have hsome : Hid (∃ b o, ao = some ⟨b, o, none⟩) := Lib.hid h
          clear h
          go_loopw [6] (fun j wx => ∃ p : Nat, p ≤ n ∧ j = .int .i64 p ∧ InR W wx a r S p) (fun j _ => n - (intOf j).toNat)
          case atStart => exact ⟨0, Nat.zero_le _, rfl, ⟨Lower.zero _ _ _, Below.refl _ _⟩⟩
          case round =>
            obtain ⟨p, hp, rfl, hin⟩ := hrel
            have IN := Lib.hid hin
            have y2 : wr.cell? ⟨sp, 2, none⟩ = some (.int .i64 a) := by rw [hin.below.cell (p := ⟨sp, 2, none⟩) hspW]; exact x2
            have y3 : wr.cell? ⟨sp, 3, none⟩ = some (.int .i64 r) := by rw [hin.below.cell (p := ⟨sp, 3, none⟩) hspW]; exact x3
            have y8 : wr.cell? ⟨sp, 8, none⟩ = some (.int .i64 2) := by rw [hin.below.cell (p := ⟨sp, 8, none⟩) hspW]; exact x8
            clear hin x2 x3 x8
            by_cases hpn : p < n
            · have hpS : p < S.length := by rw [HN.out]; exact hpn
              obtain ⟨b, o, rfl, hb, g0, g1, g2, g3⟩ := (HROWW.out.later IN.out.below).usage hpS
              obtain ⟨x, hx⟩ : ∃ x, S[p].acc = x := ⟨_, rfl⟩
              obtain ⟨y, hy⟩ : ∃ y, S[p].rcd = y := ⟨_, rfl⟩
              rw [hx] at g0
              rw [hy] at g1
              have HX := Lib.hid hx
              have HY := Lib.hid hy
              clear hx hy g2 g3
              have p0 : (0 : Int) ≤ (p : Int) := by omega
              have p1 : (p : Int) < (n : Int) := by omega
              have NX := Lib.hid (fun (h : ltK x y a r) (n' : Nat) => (⟨IN.out.low.succ hpS (by rw [HX.out, HY.out]; exact h), IN.out.below.trans ((below_dn wr n').mono IN.out.below.size)⟩ : InR W (wr.drewN n') a r S (p + 1)))
              rcases Int.lt_trichotomy x a with h1 | h1 | h1
              · have NN := Lib.hid (NX.out (.inl h1))
                clear NX
                go_wp2
                go_quiet (fail)
                go_wp2
                go_roundw
                case rel => exact ⟨p + 1, by omega, by go_num, NN.out _⟩
                case measure => simp [intOf]; omega
              · have h1' := h1.symm
                subst h1'
                clear h1
                rcases Int.lt_trichotomy y r with h2 | h2 | h2
                · have q1 : (decide (a < a)) = false := by simp
                  have NN := Lib.hid (NX.out (.inr ⟨rfl, h2⟩))
                  clear NX
                  go_wp2
                  go_quiet (fail)
                  go_wp2
                  go_roundw
                  case rel => exact ⟨p + 1, by omega, by go_num, NN.out _⟩
                  case measure => simp [intOf]; omega
                · have h2' := h2.symm
                  subst h2'
                  clear h2
                  have q1 : decide (a < a) = false := by simp
                  have q2 : decide (r < r) = false := by simp
                  have q3 : ((p : Int) == (n : Int)) = false := by simp; omega
                  have q4 : (a != a) = false := by simp
                  have q5 : (r != r) = false := by simp
                  have FD := Lib.hid (found_at hpS IN.out.low HX.out HY.out)
                  have hub := FACT.out.2.2 S[p] (List.getElem_mem hpS)
                  obtain ⟨cv, hcv⟩ : ∃ cv, S[p].val = cv := ⟨_, rfl⟩
                  obtain ⟨ch, hch⟩ : ∃ ch, S[p].held = ch := ⟨_, rfl⟩
                  rw [hcv, hch] at FD hub
                  clear hcv hch
                  have cv0 : 0 ≤ cv := by omega
                  have cv1 : cv ≤ 1000 := by omega
                  have ch0 : 0 ≤ ch := by omega
                  have ch1 : ch ≤ 1000 := by omega
                  clear hub
                  go_wp2
                  go_quiet (fail)
                  obtain ⟨wx, hwx⟩ : ∃ wx : World, wx = wr.drewN nq := ⟨_, rfl⟩
                  have z2 : wx.cell? ⟨sp, 2, none⟩ = some (.int .i64 a) := by rw [hwx]; exact y2
                  have z3 : wx.cell? ⟨sp, 3, none⟩ = some (.int .i64 r) := by rw [hwx]; exact y3
                  have z8 : wx.cell? ⟨sp, 8, none⟩ = some (.int .i64 2) := by rw [hwx]; exact y8
                  have BX := Lib.hid (show Below W.heap.size W wx by rw [hwx]; exact IN.out.below.trans ((below_dn wr nq).mono IN.out.below.size))
                  have j0 : wx.cell? ⟨b, o + p * 4, none⟩ = some (.int .i64 a) := by rw [hwx]; exact g0
                  have j1 : wx.cell? ⟨b, o + p * 4 + 1, none⟩ = some (.int .i64 r) := by rw [hwx]; exact g1
                  rw [← hwx]
                  clear hwx
                  go_wp2
                  go_quiet (fail)
                  obtain ⟨wy, hwy⟩ : ∃ wy : World, wy = wx.drewN nq := ⟨_, rfl⟩
                  have s2 : wy.cell? ⟨sp, 2, none⟩ = some (.int .i64 a) := by rw [hwy]; exact z2
                  have s3 : wy.cell? ⟨sp, 3, none⟩ = some (.int .i64 r) := by rw [hwy]; exact z3
                  have s8 : wy.cell? ⟨sp, 8, none⟩ = some (.int .i64 2) := by rw [hwy]; exact z8
                  have BY := Lib.hid (show Below W.heap.size W wy by rw [hwy]; exact BX.out.trans ((below_dn wx nq).mono BX.out.size))
                  have OWX := Lib.hid (ownsRow_blk OW.out (fun g hg hl => BY.out.block g (owns_ltK OW.out g hg).2))
                  obtain ⟨f2, f3, k2, k3⟩ := FD.out.cells HN.out (HZERO.out b o rfl).1 OWX.out
                  rw [← hwy]
                  clear hwy z2 z3 z8 y2 y3 y8
                  go_wp2
                  go_roundw
                  case rel => exact ⟨k + 1, by omega, by go_num, by rw [HM.out]; exact fin_held FD.out HN.out (HZERO.out b o rfl).1 OWX.out (BW.out.trans (BY.out.mono BW.out.size))⟩
                  case measure => simp [intOf]; omega
                · have q1 : decide (a < a) = false := by simp
                  have q2 : decide (y < r) = false := by simp; omega
                  have q3 : ((p : Int) == (n : Int)) = false := by simp; omega
                  have q4 : (a != a) = false := by simp
                  have q5 : (y != r) = true := by simp; omega
                  obtain ⟨cv, cv0, cv1, hFD⟩ : ∃ cv : Int, 0 ≤ cv ∧ cv ≤ 1000 ∧ Found a r S (insU a r S p) p cv cv := ⟨0, by omega, by omega, found_ins (by rw [HN.out]; exact hp) IN.out.low (fun h => by rw [HX.out, HY.out]; exact .inr ⟨rfl, h2⟩)⟩
                  have FD := Lib.hid hFD
                  clear hFD NX
                  have hpc : p < cp := by omega
                  have i1' : (p : Int) < (cp : Int) := by omega
                  have i2' : (p : Int) ≤ (cp : Int) := by omega
                  have i3' : (p : Int) ≤ (n : Int) := by omega
                  have i4' : (n : Int) ≤ (cp : Int) := by omega
                  have HDR := Lib.hid (fun W' h => HDROP.out W' b o p rfl h)
                  go_wp2
                  go_quiet (fail)
                  obtain ⟨wx, hwx⟩ : ∃ wx : World, wx = wr.drewN nq := ⟨_, rfl⟩
                  have z2 : wx.cell? ⟨sp, 2, none⟩ = some (.int .i64 a) := by rw [hwx]; exact y2
                  have z3 : wx.cell? ⟨sp, 3, none⟩ = some (.int .i64 r) := by rw [hwx]; exact y3
                  have z8 : wx.cell? ⟨sp, 8, none⟩ = some (.int .i64 2) := by rw [hwx]; exact y8
                  have BX := Lib.hid (show Below W.heap.size W wx by rw [hwx]; exact IN.out.below.trans ((below_dn wr nq).mono IN.out.below.size))
                  have j0 : wx.cell? ⟨b, o + p * 4, none⟩ = some (.int .i64 a) := by rw [hwx]; exact g0
                  have j1 : wx.cell? ⟨b, o + p * 4 + 1, none⟩ = some (.int .i64 y) := by rw [hwx]; exact g1
                  rw [← hwx]
                  clear hwx
                  go_wp2
                  go_quiet (fail)
                  obtain ⟨wy, hwy⟩ : ∃ wy : World, wy = wx.drewN nq := ⟨_, rfl⟩
                  have s2 : wy.cell? ⟨sp, 2, none⟩ = some (.int .i64 a) := by rw [hwy]; exact z2
                  have s3 : wy.cell? ⟨sp, 3, none⟩ = some (.int .i64 r) := by rw [hwy]; exact z3
                  have s8 : wy.cell? ⟨sp, 8, none⟩ = some (.int .i64 2) := by rw [hwy]; exact z8
                  have BY := Lib.hid (show Below W.heap.size W wy by rw [hwy]; exact BX.out.trans ((below_dn wx nq).mono BX.out.size))
                  skip
                  rw [← hwy]
                  clear hwy z2 z3 z8 y2 y3 y8
                  go_wp2
                  have KEEP := Lib.hid (show ∀ W', Below wy.heap.size wy W' → W'.cell? ⟨sp, 2, none⟩ = some (.int .i64 a) ∧ W'.cell? ⟨sp, 3, none⟩ = some (.int .i64 r) ∧ Below wy.heap.size wy W' from fun W' h => ⟨by rw [h.cell (p := ⟨sp, 2, none⟩) (Nat.lt_of_lt_of_le hspW BY.out.size)]; exact s2, by rw [h.cell (p := ⟨sp, 3, none⟩) (Nat.lt_of_lt_of_le hspW BY.out.size)]; exact s3, h⟩)
                  have OO := Lib.hid ((owns_one wy a r).drew)
                  have BO := Lib.hid (((Below.refl wy.heap.size wy).alloc (Nat.le_refl _) (.cells #[.int .i64 a, .int .i64 r, .int .i64 0, .int .i64 0] 42)).drew)
                  have HDL := Lib.hid (show ((S.drop p).flatMap encU).length = (n - p) * 4 by rw [flat_length encU_len, List.length_drop, HN.out])
                  go_region_held3 (fun w' => w'.cell? ⟨sp, 2, none⟩ = some (.int .i64 a) ∧ w'.cell? ⟨sp, 3, none⟩ = some (.int .i64 r) ∧ Below wy.heap.size wy w')
                    (first | (exact KEEP.out _ E1) | (exact KEEP.out _ ((Below.refl _ wy).drew)) | (exact KEEP.out _ BO.out) | (go_split_ands; exact ⟨by assumption, by assumption, by assumption⟩))
                    ((refine step_own (by rfl) (.tmp 91) (.tmp 94) 22 (by rfl) wy.heap.size 42 i0 (.agg #[.int .i64 0, .int .i64 0, .int .i64 0, .int .i64 0]) 4 32 Try.underlying22 hi hz0 hz1 hz2 (by rfl) (by decide) (.slice (some ⟨wy.heap.size, 0, none⟩) 1 1) 1 (encU ⟨a, r, 0, 0⟩) ?_ ?_ ⟨b, o + p * 4, none⟩ (n - p) (cp - p) ((S.drop p).flatMap encU) ?_ HDL.out ?_ (flat_one encU_one _) ?_ ?_ ?_ ?_; (first | rfl | fail "A"); (first | with_reducible exact OO.out | fail "B"); (simp [Act.eval, Act.put]); (intro h; omega); (exact (HDR.out _ (BY.out.trans (BO.out.mono BY.out.size))).news encU_len (by decide)); (unfold maxLen; omega); omega; (simp); intro v1 w6 own1 gr1; have E1 := grown_own BO.out (Nat.le_refl _) OO.out gr1; clear gr1))
                  obtain ⟨g1, o1, c1, rfl, ho1, ownA⟩ := owns_slice own1 (by omega)
                  have HB6 := Lib.hid E1
                  have OWN1 := Lib.hid ownA
                  have NW6 := Lib.hid (owns_news ownA ho1)
                  have t8 : w6.cell? ⟨sp, 8, none⟩ = some (.int .i64 2) := by rw [E1.cell (p := ⟨sp, 8, none⟩) (Nat.lt_of_lt_of_le hspW BY.out.size)]; exact s8
                  clear own1 E1 ownA ho1 s2 s3 s8
                  obtain ⟨m1, hm1e⟩ : ∃ m1, 1 + (n - p) = m1 := ⟨_, rfl⟩
                  have hm1 : 1 ≤ m1 := by omega
                  have hm1' : m1 ≤ n + 1 := by omega
                  rw [hm1e] at OWN1 ⊢
                  have HM1 := Lib.hid hm1e
                  clear hm1e
                  have HTL := Lib.hid (show ((S.take p).flatMap encU).length = p * 4 by rw [flat_length encU_len, List.length_take, HN.out, Nat.min_eq_left hp])
                  have HOLD := Lib.hid (show ∀ bb, (some ⟨b, o, none⟩ : Option Addr) = some bb → ∀ j u, ((S.take p).flatMap encU)[j]? = some u → w6.cell? (bb.add j) = some u from fun bb e => by
                    have h := HTAKE.out _ p (BY.out.trans (HB6.out.mono BY.out.size))
                    rw [e] at h
                    exact h.news encU_len (by decide))
                  have HNL := Lib.hid (show (encU ⟨a, r, 0, 0⟩ ++ (S.drop p).flatMap encU).length = m1 * 4 by rw [List.length_append, HDL.out, ← HM1.out]; simp [encU]; omega)
                  have HONE := Lib.hid (show ∀ u ∈ (encU ⟨a, r, 0, 0⟩ ++ (S.drop p).flatMap encU), u.oneCell' = true from fun u hu => by
                    rcases List.mem_append.1 hu with h | h
                    · exact encU_one _ u h
                    · exact flat_one encU_one _ u h)
                  have HNN := Lib.hid (show (some ⟨b, o, none⟩ : Option Addr) = none → p = 0 ∧ p = 0 from fun e => by have := HNONE.out e; omega)
                  have hsp6 : sp < w6.heap.size := Nat.lt_of_lt_of_le hspW (Nat.le_trans BY.out.size HB6.out.size)
                  have B6 := Lib.hid (BW.out.trans ((BY.out.trans (HB6.out.mono BY.out.size)).mono BW.out.size))
                  have HBASE := Lib.hid (show w.heap.size ≤ w6.heap.size from B6.out.size)
                  have HIL := Lib.hid (show (insU a r S p).length = p + m1 by rw [ins_len a r S p (by rw [HN.out]; exact hp), HN.out, ← HM1.out]; omega)
                  clear hpn q1 q2
                  go_wp2_with (at_builtin; refine wpList_append_grows _ rfl (.tmp 99) (.tmp 100) 22 rfl 42 i0 (.agg #[.int .i64 0, .int .i64 0, .int .i64 0, .int .i64 0]) 4 32 Try.underlying22 hi hz0 hz1 hz2 rfl (by decide) (some ⟨b, o, none⟩ : Option Addr) p p ((S.take p).flatMap encU) rfl HNN.out HTL.out HOLD.out ⟨g1, o1, none⟩ m1 c1 (encU ⟨a, r, 0, 0⟩ ++ (S.drop p).flatMap encU) rfl HNL.out NW6.out HONE.out (by omega) (by unfold maxLen; omega) (by omega) ?_; intro v2 w7 own2 gr2; have own3 := owns_base own2 HBASE.out; rw [ins_flat] at own3; obtain ⟨g2, o2, c2, rfl, ho2, ownB⟩ := owns_slice own3 (by omega); obtain ⟨f2, f3, k2, k3⟩ := FD.out.cells HIL.out ho2 ownB; have r8 : w7.cell? ⟨sp, 8, none⟩ = some (.int .i64 2) := (by rw [World.cell?_of_block (w := w6) (gr2.block sp hsp6 (by simp))]; exact t8); have B7 := Lib.hid (B6.out.grown gr2 HBASE.out (fun j hj => by cases hj)); have HO2 := Lib.hid ho2; have OWNB := Lib.hid ownB; clear own2 own3 gr2 ho2 ownB)
                  go_roundw
                  case rel => exact ⟨k + 1, by omega, by go_num, by rw [HM.out]; exact fin_held FD.out HIL.out HO2.out OWNB.out B7.out⟩
                  case measure => simp [intOf]; omega
              · have q1 : decide (x < a) = false := by simp; omega
                have q2 : (x == a) = false := by simp; omega
                have q3 : ((p : Int) == (n : Int)) = false := by simp; omega
                have q4 : (x != a) = true := by simp; omega
                obtain ⟨cv, cv0, cv1, hFD⟩ : ∃ cv : Int, 0 ≤ cv ∧ cv ≤ 1000 ∧ Found a r S (insU a r S p) p cv cv := ⟨0, by omega, by omega, found_ins (by rw [HN.out]; exact hp) IN.out.low (fun h => by rw [HX.out, HY.out]; exact .inl h1)⟩
                have FD := Lib.hid hFD
                clear hFD NX
                have hpc : p < cp := by omega
                have i1' : (p : Int) < (cp : Int) := by omega
                have i2' : (p : Int) ≤ (cp : Int) := by omega
                have i3' : (p : Int) ≤ (n : Int) := by omega
                have i4' : (n : Int) ≤ (cp : Int) := by omega
                have HDR := Lib.hid (fun W' h => HDROP.out W' b o p rfl h)
                go_wp2
                go_quiet (fail)
                obtain ⟨wx, hwx⟩ : ∃ wx : World, wx = wr.drewN nq := ⟨_, rfl⟩
                have z2 : wx.cell? ⟨sp, 2, none⟩ = some (.int .i64 a) := by rw [hwx]; exact y2
                have z3 : wx.cell? ⟨sp, 3, none⟩ = some (.int .i64 r) := by rw [hwx]; exact y3
                have z8 : wx.cell? ⟨sp, 8, none⟩ = some (.int .i64 2) := by rw [hwx]; exact y8
                have BX := Lib.hid (show Below W.heap.size W wx by rw [hwx]; exact IN.out.below.trans ((below_dn wr nq).mono IN.out.below.size))
                have j0 : wx.cell? ⟨b, o + p * 4, none⟩ = some (.int .i64 x) := by rw [hwx]; exact g0
                have j1 : wx.cell? ⟨b, o + p * 4 + 1, none⟩ = some (.int .i64 y) := by rw [hwx]; exact g1
                rw [← hwx]
                clear hwx
                go_wp2
                go_quiet (fail)
                obtain ⟨wy, hwy⟩ : ∃ wy : World, wy = wx.drewN nq := ⟨_, rfl⟩
                have s2 : wy.cell? ⟨sp, 2, none⟩ = some (.int .i64 a) := by rw [hwy]; exact z2
                have s3 : wy.cell? ⟨sp, 3, none⟩ = some (.int .i64 r) := by rw [hwy]; exact z3
                have s8 : wy.cell? ⟨sp, 8, none⟩ = some (.int .i64 2) := by rw [hwy]; exact z8
                have BY := Lib.hid (show Below W.heap.size W wy by rw [hwy]; exact BX.out.trans ((below_dn wx nq).mono BX.out.size))
                skip
                rw [← hwy]
                clear hwy z2 z3 z8 y2 y3 y8
                go_wp2
                have KEEP := Lib.hid (show ∀ W', Below wy.heap.size wy W' → W'.cell? ⟨sp, 2, none⟩ = some (.int .i64 a) ∧ W'.cell? ⟨sp, 3, none⟩ = some (.int .i64 r) ∧ Below wy.heap.size wy W' from fun W' h => ⟨by rw [h.cell (p := ⟨sp, 2, none⟩) (Nat.lt_of_lt_of_le hspW BY.out.size)]; exact s2, by rw [h.cell (p := ⟨sp, 3, none⟩) (Nat.lt_of_lt_of_le hspW BY.out.size)]; exact s3, h⟩)
                have OO := Lib.hid ((owns_one wy a r).drew)
                have BO := Lib.hid (((Below.refl wy.heap.size wy).alloc (Nat.le_refl _) (.cells #[.int .i64 a, .int .i64 r, .int .i64 0, .int .i64 0] 42)).drew)
                have HDL := Lib.hid (show ((S.drop p).flatMap encU).length = (n - p) * 4 by rw [flat_length encU_len, List.length_drop, HN.out])
                go_region_held3 (fun w' => w'.cell? ⟨sp, 2, none⟩ = some (.int .i64 a) ∧ w'.cell? ⟨sp, 3, none⟩ = some (.int .i64 r) ∧ Below wy.heap.size wy w')
                  (first | (exact KEEP.out _ E1) | (exact KEEP.out _ ((Below.refl _ wy).drew)) | (exact KEEP.out _ BO.out) | (go_split_ands; exact ⟨by assumption, by assumption, by assumption⟩))
                  ((refine step_own (by rfl) (.tmp 91) (.tmp 94) 22 (by rfl) wy.heap.size 42 i0 (.agg #[.int .i64 0, .int .i64 0, .int .i64 0, .int .i64 0]) 4 32 Try.underlying22 hi hz0 hz1 hz2 (by rfl) (by decide) (.slice (some ⟨wy.heap.size, 0, none⟩) 1 1) 1 (encU ⟨a, r, 0, 0⟩) ?_ ?_ ⟨b, o + p * 4, none⟩ (n - p) (cp - p) ((S.drop p).flatMap encU) ?_ HDL.out ?_ (flat_one encU_one _) ?_ ?_ ?_ ?_; (first | rfl | fail "A"); (first | with_reducible exact OO.out | fail "B"); (simp [Act.eval, Act.put]); (intro h; omega); (exact (HDR.out _ (BY.out.trans (BO.out.mono BY.out.size))).news encU_len (by decide)); (unfold maxLen; omega); omega; (simp); intro v1 w6 own1 gr1; have E1 := grown_own BO.out (Nat.le_refl _) OO.out gr1; clear gr1))
                obtain ⟨g1, o1, c1, rfl, ho1, ownA⟩ := owns_slice own1 (by omega)
                have HB6 := Lib.hid E1
                have OWN1 := Lib.hid ownA
                have NW6 := Lib.hid (owns_news ownA ho1)
                have t8 : w6.cell? ⟨sp, 8, none⟩ = some (.int .i64 2) := by rw [E1.cell (p := ⟨sp, 8, none⟩) (Nat.lt_of_lt_of_le hspW BY.out.size)]; exact s8
                clear own1 E1 ownA ho1 s2 s3 s8
                obtain ⟨m1, hm1e⟩ : ∃ m1, 1 + (n - p) = m1 := ⟨_, rfl⟩
                have hm1 : 1 ≤ m1 := by omega
                have hm1' : m1 ≤ n + 1 := by omega
                rw [hm1e] at OWN1 ⊢
                have HM1 := Lib.hid hm1e
                clear hm1e
                have HTL := Lib.hid (show ((S.take p).flatMap encU).length = p * 4 by rw [flat_length encU_len, List.length_take, HN.out, Nat.min_eq_left hp])
                have HOLD := Lib.hid (show ∀ bb, (some ⟨b, o, none⟩ : Option Addr) = some bb → ∀ j u, ((S.take p).flatMap encU)[j]? = some u → w6.cell? (bb.add j) = some u from fun bb e => by
                  have h := HTAKE.out _ p (BY.out.trans (HB6.out.mono BY.out.size))
                  rw [e] at h
                  exact h.news encU_len (by decide))
                have HNL := Lib.hid (show (encU ⟨a, r, 0, 0⟩ ++ (S.drop p).flatMap encU).length = m1 * 4 by rw [List.length_append, HDL.out, ← HM1.out]; simp [encU]; omega)
                have HONE := Lib.hid (show ∀ u ∈ (encU ⟨a, r, 0, 0⟩ ++ (S.drop p).flatMap encU), u.oneCell' = true from fun u hu => by
                  rcases List.mem_append.1 hu with h | h
                  · exact encU_one _ u h
                  · exact flat_one encU_one _ u h)
                have HNN := Lib.hid (show (some ⟨b, o, none⟩ : Option Addr) = none → p = 0 ∧ p = 0 from fun e => by have := HNONE.out e; omega)
                have hsp6 : sp < w6.heap.size := Nat.lt_of_lt_of_le hspW (Nat.le_trans BY.out.size HB6.out.size)
                have B6 := Lib.hid (BW.out.trans ((BY.out.trans (HB6.out.mono BY.out.size)).mono BW.out.size))
                have HBASE := Lib.hid (show w.heap.size ≤ w6.heap.size from B6.out.size)
                have HIL := Lib.hid (show (insU a r S p).length = p + m1 by rw [ins_len a r S p (by rw [HN.out]; exact hp), HN.out, ← HM1.out]; omega)
                clear hpn q1 q2
                go_wp2_with (at_builtin; refine wpList_append_grows _ rfl (.tmp 99) (.tmp 100) 22 rfl 42 i0 (.agg #[.int .i64 0, .int .i64 0, .int .i64 0, .int .i64 0]) 4 32 Try.underlying22 hi hz0 hz1 hz2 rfl (by decide) (some ⟨b, o, none⟩ : Option Addr) p p ((S.take p).flatMap encU) rfl HNN.out HTL.out HOLD.out ⟨g1, o1, none⟩ m1 c1 (encU ⟨a, r, 0, 0⟩ ++ (S.drop p).flatMap encU) rfl HNL.out NW6.out HONE.out (by omega) (by unfold maxLen; omega) (by omega) ?_; intro v2 w7 own2 gr2; have own3 := owns_base own2 HBASE.out; rw [ins_flat] at own3; obtain ⟨g2, o2, c2, rfl, ho2, ownB⟩ := owns_slice own3 (by omega); obtain ⟨f2, f3, k2, k3⟩ := FD.out.cells HIL.out ho2 ownB; have r8 : w7.cell? ⟨sp, 8, none⟩ = some (.int .i64 2) := (by rw [World.cell?_of_block (w := w6) (gr2.block sp hsp6 (by simp))]; exact t8); have B7 := Lib.hid (B6.out.grown gr2 HBASE.out (fun j hj => by cases hj)); have HO2 := Lib.hid ho2; have OWNB := Lib.hid ownB; clear own2 own3 gr2 ho2 ownB)
                go_roundw
                case rel => exact ⟨k + 1, by omega, by go_num, by rw [HM.out]; exact fin_held FD.out HIL.out HO2.out OWNB.out B7.out⟩
                case measure => simp [intOf]; omega
            · have q1 : decide (p < n) = false := by simp; omega
              have q2 : ((p : Int) == (n : Int)) = true := by simp; omega
              obtain ⟨cv, cv0, cv1, hFD⟩ : ∃ cv : Int, 0 ≤ cv ∧ cv ≤ 1000 ∧ Found a r S (insU a r S p) p cv cv := ⟨0, by omega, by omega, found_ins (by rw [HN.out]; exact hp) IN.out.low (fun h => absurd (by rw [HN.out] at h; exact h) hpn)⟩
              have FD := Lib.hid hFD
              clear hFD
              obtain ⟨b, o, h⟩ := hsome.out
              · subst h
                by_cases hpc : p < cp
                · have i0' : (0 : Int) ≤ (p : Int) := by omega
                  have i1' : (p : Int) < (cp : Int) := by omega
                  have i2' : (p : Int) ≤ (cp : Int) := by omega
                  have i3' : (p : Int) ≤ (n : Int) := by omega
                  have i4' : (n : Int) ≤ (cp : Int) := by omega
                  have HDR := Lib.hid (fun W' h => HDROP.out W' b o p rfl h)
                  go_wp2
                  go_quiet (fail)
                  obtain ⟨wx, hwx⟩ : ∃ wx : World, wx = wr.drewN nq := ⟨_, rfl⟩
                  have z2 : wx.cell? ⟨sp, 2, none⟩ = some (.int .i64 a) := by rw [hwx]; exact y2
                  have z3 : wx.cell? ⟨sp, 3, none⟩ = some (.int .i64 r) := by rw [hwx]; exact y3
                  have z8 : wx.cell? ⟨sp, 8, none⟩ = some (.int .i64 2) := by rw [hwx]; exact y8
                  have BX := Lib.hid (show Below W.heap.size W wx by rw [hwx]; exact IN.out.below.trans ((below_dn wr nq).mono IN.out.below.size))
                  skip
                  skip
                  rw [← hwx]
                  clear hwx
                  go_wp2
                  go_quiet (fail)
                  obtain ⟨wy, hwy⟩ : ∃ wy : World, wy = wx.drewN nq := ⟨_, rfl⟩
                  have s2 : wy.cell? ⟨sp, 2, none⟩ = some (.int .i64 a) := by rw [hwy]; exact z2
                  have s3 : wy.cell? ⟨sp, 3, none⟩ = some (.int .i64 r) := by rw [hwy]; exact z3
                  have s8 : wy.cell? ⟨sp, 8, none⟩ = some (.int .i64 2) := by rw [hwy]; exact z8
                  have BY := Lib.hid (show Below W.heap.size W wy by rw [hwy]; exact BX.out.trans ((below_dn wx nq).mono BX.out.size))
                  skip
                  rw [← hwy]
                  clear hwy z2 z3 z8 y2 y3 y8
                  go_wp2
                  have KEEP := Lib.hid (show ∀ W', Below wy.heap.size wy W' → W'.cell? ⟨sp, 2, none⟩ = some (.int .i64 a) ∧ W'.cell? ⟨sp, 3, none⟩ = some (.int .i64 r) ∧ Below wy.heap.size wy W' from fun W' h => ⟨by rw [h.cell (p := ⟨sp, 2, none⟩) (Nat.lt_of_lt_of_le hspW BY.out.size)]; exact s2, by rw [h.cell (p := ⟨sp, 3, none⟩) (Nat.lt_of_lt_of_le hspW BY.out.size)]; exact s3, h⟩)
                  have OO := Lib.hid ((owns_one wy a r).drew)
                  have BO := Lib.hid (((Below.refl wy.heap.size wy).alloc (Nat.le_refl _) (.cells #[.int .i64 a, .int .i64 r, .int .i64 0, .int .i64 0] 42)).drew)
                  have HDL := Lib.hid (show ((S.drop p).flatMap encU).length = (n - p) * 4 by rw [flat_length encU_len, List.length_drop, HN.out])
                  go_region_held3 (fun w' => w'.cell? ⟨sp, 2, none⟩ = some (.int .i64 a) ∧ w'.cell? ⟨sp, 3, none⟩ = some (.int .i64 r) ∧ Below wy.heap.size wy w')
                    (first | (exact KEEP.out _ E1) | (exact KEEP.out _ ((Below.refl _ wy).drew)) | (exact KEEP.out _ BO.out) | (go_split_ands; exact ⟨by assumption, by assumption, by assumption⟩))
                    ((refine step_own (by rfl) (.tmp 91) (.tmp 94) 22 (by rfl) wy.heap.size 42 i0 (.agg #[.int .i64 0, .int .i64 0, .int .i64 0, .int .i64 0]) 4 32 Try.underlying22 hi hz0 hz1 hz2 (by rfl) (by decide) (.slice (some ⟨wy.heap.size, 0, none⟩) 1 1) 1 (encU ⟨a, r, 0, 0⟩) ?_ ?_ ⟨b, o + p * 4, none⟩ (n - p) (cp - p) ((S.drop p).flatMap encU) ?_ HDL.out ?_ (flat_one encU_one _) ?_ ?_ ?_ ?_; (first | rfl | fail "A"); (first | with_reducible exact OO.out | fail "B"); (simp [Act.eval, Act.put]); (intro h; omega); (exact (HDR.out _ (BY.out.trans (BO.out.mono BY.out.size))).news encU_len (by decide)); (unfold maxLen; omega); omega; (simp); intro v1 w6 own1 gr1; have E1 := grown_own BO.out (Nat.le_refl _) OO.out gr1; clear gr1))
                  obtain ⟨g1, o1, c1, rfl, ho1, ownA⟩ := owns_slice own1 (by omega)
                  have HB6 := Lib.hid E1
                  have OWN1 := Lib.hid ownA
                  have NW6 := Lib.hid (owns_news ownA ho1)
                  have t8 : w6.cell? ⟨sp, 8, none⟩ = some (.int .i64 2) := by rw [E1.cell (p := ⟨sp, 8, none⟩) (Nat.lt_of_lt_of_le hspW BY.out.size)]; exact s8
                  clear own1 E1 ownA ho1 s2 s3 s8
                  obtain ⟨m1, hm1e⟩ : ∃ m1, 1 + (n - p) = m1 := ⟨_, rfl⟩
                  have hm1 : 1 ≤ m1 := by omega
                  have hm1' : m1 ≤ n + 1 := by omega
                  rw [hm1e] at OWN1 ⊢
                  have HM1 := Lib.hid hm1e
                  clear hm1e
                  have HTL := Lib.hid (show ((S.take p).flatMap encU).length = p * 4 by rw [flat_length encU_len, List.length_take, HN.out, Nat.min_eq_left hp])
                  have HOLD := Lib.hid (show ∀ bb, (some ⟨b, o, none⟩ : Option Addr) = some bb → ∀ j u, ((S.take p).flatMap encU)[j]? = some u → w6.cell? (bb.add j) = some u from fun bb e => by
                    have h := HTAKE.out _ p (BY.out.trans (HB6.out.mono BY.out.size))
                    rw [e] at h
                    exact h.news encU_len (by decide))
                  have HNL := Lib.hid (show (encU ⟨a, r, 0, 0⟩ ++ (S.drop p).flatMap encU).length = m1 * 4 by rw [List.length_append, HDL.out, ← HM1.out]; simp [encU]; omega)
                  have HONE := Lib.hid (show ∀ u ∈ (encU ⟨a, r, 0, 0⟩ ++ (S.drop p).flatMap encU), u.oneCell' = true from fun u hu => by
                    rcases List.mem_append.1 hu with h | h
                    · exact encU_one _ u h
                    · exact flat_one encU_one _ u h)
                  have HNN := Lib.hid (show (some ⟨b, o, none⟩ : Option Addr) = none → p = 0 ∧ p = 0 from fun e => by have := HNONE.out e; omega)
                  have hsp6 : sp < w6.heap.size := Nat.lt_of_lt_of_le hspW (Nat.le_trans BY.out.size HB6.out.size)
                  have B6 := Lib.hid (BW.out.trans ((BY.out.trans (HB6.out.mono BY.out.size)).mono BW.out.size))
                  have HBASE := Lib.hid (show w.heap.size ≤ w6.heap.size from B6.out.size)
                  have HIL := Lib.hid (show (insU a r S p).length = p + m1 by rw [ins_len a r S p (by rw [HN.out]; exact hp), HN.out, ← HM1.out]; omega)
                  clear hpn q1 q2
                  go_wp2_with (at_builtin; refine wpList_append_grows _ rfl (.tmp 99) (.tmp 100) 22 rfl 42 i0 (.agg #[.int .i64 0, .int .i64 0, .int .i64 0, .int .i64 0]) 4 32 Try.underlying22 hi hz0 hz1 hz2 rfl (by decide) (some ⟨b, o, none⟩ : Option Addr) p p ((S.take p).flatMap encU) rfl HNN.out HTL.out HOLD.out ⟨g1, o1, none⟩ m1 c1 (encU ⟨a, r, 0, 0⟩ ++ (S.drop p).flatMap encU) rfl HNL.out NW6.out HONE.out (by omega) (by unfold maxLen; omega) (by omega) ?_; intro v2 w7 own2 gr2; have own3 := owns_base own2 HBASE.out; rw [ins_flat] at own3; obtain ⟨g2, o2, c2, rfl, ho2, ownB⟩ := owns_slice own3 (by omega); obtain ⟨f2, f3, k2, k3⟩ := FD.out.cells HIL.out ho2 ownB; have r8 : w7.cell? ⟨sp, 8, none⟩ = some (.int .i64 2) := (by rw [World.cell?_of_block (w := w6) (gr2.block sp hsp6 (by simp))]; exact t8); have B7 := Lib.hid (B6.out.grown gr2 HBASE.out (fun j hj => by cases hj)); have HO2 := Lib.hid ho2; have OWNB := Lib.hid ownB; clear own2 own3 gr2 ho2 ownB)
                  go_roundw
                  case rel => exact ⟨k + 1, by omega, by go_num, by rw [HM.out]; exact fin_held FD.out HIL.out HO2.out OWNB.out B7.out⟩
                  case measure => simp [intOf]; omega
                · obtain rfl : cp = p := by omega
                  have i0' : (0 : Int) ≤ (cp : Int) := by omega
                  have i2' : (cp : Int) ≤ (cp : Int) := by omega
                  have i3' : (cp : Int) ≤ (n : Int) := by omega
                  have i4' : (n : Int) ≤ (cp : Int) := by omega
                  have HDR := Lib.hid (show ∀ W', Below W.heap.size W W' → RowK 4 encU W' (some ⟨b, o, none⟩) (S.drop cp) from fun W' h => by rw [List.drop_eq_nil_of_le (by rw [HN.out]; omega)]; exact RowK.nil _ _ _ _)
                  go_wp2
                  go_quiet (fail)
                  obtain ⟨wx, hwx⟩ : ∃ wx : World, wx = wr.drewN nq := ⟨_, rfl⟩
                  have z2 : wx.cell? ⟨sp, 2, none⟩ = some (.int .i64 a) := by rw [hwx]; exact y2
                  have z3 : wx.cell? ⟨sp, 3, none⟩ = some (.int .i64 r) := by rw [hwx]; exact y3
                  have z8 : wx.cell? ⟨sp, 8, none⟩ = some (.int .i64 2) := by rw [hwx]; exact y8
                  have BX := Lib.hid (show Below W.heap.size W wx by rw [hwx]; exact IN.out.below.trans ((below_dn wr nq).mono IN.out.below.size))
                  skip
                  skip
                  rw [← hwx]
                  clear hwx
                  go_wp2
                  go_quiet (fail)
                  obtain ⟨wy, hwy⟩ : ∃ wy : World, wy = wx.drewN nq := ⟨_, rfl⟩
                  have s2 : wy.cell? ⟨sp, 2, none⟩ = some (.int .i64 a) := by rw [hwy]; exact z2
                  have s3 : wy.cell? ⟨sp, 3, none⟩ = some (.int .i64 r) := by rw [hwy]; exact z3
                  have s8 : wy.cell? ⟨sp, 8, none⟩ = some (.int .i64 2) := by rw [hwy]; exact z8
                  have BY := Lib.hid (show Below W.heap.size W wy by rw [hwy]; exact BX.out.trans ((below_dn wx nq).mono BX.out.size))
                  skip
                  rw [← hwy]
                  clear hwy z2 z3 z8 y2 y3 y8
                  go_wp2
                  have KEEP := Lib.hid (show ∀ W', Below wy.heap.size wy W' → W'.cell? ⟨sp, 2, none⟩ = some (.int .i64 a) ∧ W'.cell? ⟨sp, 3, none⟩ = some (.int .i64 r) ∧ Below wy.heap.size wy W' from fun W' h => ⟨by rw [h.cell (p := ⟨sp, 2, none⟩) (Nat.lt_of_lt_of_le hspW BY.out.size)]; exact s2, by rw [h.cell (p := ⟨sp, 3, none⟩) (Nat.lt_of_lt_of_le hspW BY.out.size)]; exact s3, h⟩)
                  have OO := Lib.hid ((owns_one wy a r).drew)
                  have BO := Lib.hid (((Below.refl wy.heap.size wy).alloc (Nat.le_refl _) (.cells #[.int .i64 a, .int .i64 r, .int .i64 0, .int .i64 0] 42)).drew)
                  have HDL := Lib.hid (show ((S.drop cp).flatMap encU).length = (n - cp) * 4 by rw [flat_length encU_len, List.length_drop, HN.out])
                  go_region_held3 (fun w' => w'.cell? ⟨sp, 2, none⟩ = some (.int .i64 a) ∧ w'.cell? ⟨sp, 3, none⟩ = some (.int .i64 r) ∧ Below wy.heap.size wy w')
                    (first | (exact KEEP.out _ E1) | (exact KEEP.out _ ((Below.refl _ wy).drew)) | (exact KEEP.out _ BO.out) | (go_split_ands; exact ⟨by assumption, by assumption, by assumption⟩))
                    ((refine step_own (by rfl) (.tmp 91) (.tmp 94) 22 (by rfl) wy.heap.size 42 i0 (.agg #[.int .i64 0, .int .i64 0, .int .i64 0, .int .i64 0]) 4 32 Try.underlying22 hi hz0 hz1 hz2 (by rfl) (by decide) (.slice (some ⟨wy.heap.size, 0, none⟩) 1 1) 1 (encU ⟨a, r, 0, 0⟩) ?_ ?_ ⟨b, o, none⟩ (n - cp) (cp - cp) ((S.drop cp).flatMap encU) ?_ HDL.out ?_ (flat_one encU_one _) ?_ ?_ ?_ ?_; (first | rfl | fail "A"); (first | with_reducible exact OO.out | fail "B"); (simp [Act.eval, Act.put]); omega; (exact (HDR.out _ (BY.out.trans (BO.out.mono BY.out.size))).news encU_len (by decide)); (unfold maxLen; omega); omega; (simp); intro v1 w6 own1 gr1; have E1 := grown_own BO.out (Nat.le_refl _) OO.out gr1; clear gr1))
                  obtain ⟨g1, o1, c1, rfl, ho1, ownA⟩ := owns_slice own1 (by omega)
                  have HB6 := Lib.hid E1
                  have OWN1 := Lib.hid ownA
                  have NW6 := Lib.hid (owns_news ownA ho1)
                  have t8 : w6.cell? ⟨sp, 8, none⟩ = some (.int .i64 2) := by rw [E1.cell (p := ⟨sp, 8, none⟩) (Nat.lt_of_lt_of_le hspW BY.out.size)]; exact s8
                  clear own1 E1 ownA ho1 s2 s3 s8
                  obtain ⟨m1, hm1e⟩ : ∃ m1, 1 + (n - cp) = m1 := ⟨_, rfl⟩
                  have hm1 : 1 ≤ m1 := by omega
                  have hm1' : m1 ≤ n + 1 := by omega
                  rw [hm1e] at OWN1 ⊢
                  have HM1 := Lib.hid hm1e
                  clear hm1e
                  have HTL := Lib.hid (show ((S.take cp).flatMap encU).length = cp * 4 by rw [flat_length encU_len, List.length_take, HN.out, Nat.min_eq_left hp])
                  have HOLD := Lib.hid (show ∀ bb, (some ⟨b, o, none⟩ : Option Addr) = some bb → ∀ j u, ((S.take cp).flatMap encU)[j]? = some u → w6.cell? (bb.add j) = some u from fun bb e => by
                    have h := HTAKE.out _ cp (BY.out.trans (HB6.out.mono BY.out.size))
                    rw [e] at h
                    exact h.news encU_len (by decide))
                  have HNL := Lib.hid (show (encU ⟨a, r, 0, 0⟩ ++ (S.drop cp).flatMap encU).length = m1 * 4 by rw [List.length_append, HDL.out, ← HM1.out]; simp [encU]; omega)
                  have HONE := Lib.hid (show ∀ u ∈ (encU ⟨a, r, 0, 0⟩ ++ (S.drop cp).flatMap encU), u.oneCell' = true from fun u hu => by
                    rcases List.mem_append.1 hu with h | h
                    · exact encU_one _ u h
                    · exact flat_one encU_one _ u h)
                  have HNN := Lib.hid (show (some ⟨b, o, none⟩ : Option Addr) = none → cp = 0 ∧ cp = 0 from fun e => by have := HNONE.out e; omega)
                  have hsp6 : sp < w6.heap.size := Nat.lt_of_lt_of_le hspW (Nat.le_trans BY.out.size HB6.out.size)
                  have B6 := Lib.hid (BW.out.trans ((BY.out.trans (HB6.out.mono BY.out.size)).mono BW.out.size))
                  have HBASE := Lib.hid (show w.heap.size ≤ w6.heap.size from B6.out.size)
                  have HIL := Lib.hid (show (insU a r S cp).length = cp + m1 by rw [ins_len a r S cp (by rw [HN.out]; exact hp), HN.out, ← HM1.out]; omega)
                  clear hpn q1 q2
                  go_wp2_with (at_builtin; refine wpList_append_grows _ rfl (.tmp 99) (.tmp 100) 22 rfl 42 i0 (.agg #[.int .i64 0, .int .i64 0, .int .i64 0, .int .i64 0]) 4 32 Try.underlying22 hi hz0 hz1 hz2 rfl (by decide) (some ⟨b, o, none⟩ : Option Addr) cp cp ((S.take cp).flatMap encU) rfl HNN.out HTL.out HOLD.out ⟨g1, o1, none⟩ m1 c1 (encU ⟨a, r, 0, 0⟩ ++ (S.drop cp).flatMap encU) rfl HNL.out NW6.out HONE.out (by omega) (by unfold maxLen; omega) (by omega) ?_; intro v2 w7 own2 gr2; have own3 := owns_base own2 HBASE.out; rw [ins_flat] at own3; obtain ⟨g2, o2, c2, rfl, ho2, ownB⟩ := owns_slice own3 (by omega); obtain ⟨f2, f3, k2, k3⟩ := FD.out.cells HIL.out ho2 ownB; have r8 : w7.cell? ⟨sp, 8, none⟩ = some (.int .i64 2) := (by rw [World.cell?_of_block (w := w6) (gr2.block sp hsp6 (by simp))]; exact t8); have B7 := Lib.hid (B6.out.grown gr2 HBASE.out (fun j hj => by cases hj)); have HO2 := Lib.hid ho2; have OWNB := Lib.hid ownB; clear own2 own3 gr2 ho2 ownB)
                  go_roundw
                  case rel => exact ⟨k + 1, by omega, by go_num, by rw [HM.out]; exact fin_held FD.out HIL.out HO2.out OWNB.out B7.out⟩
                  case measure => simp [intOf]; omega
        · have HM := Lib.hid (show usL (l.take (k + 1)) = usL (l.take k) by rw [HT.out]; unfold uStepS; simp [hm1, hm2])
          have t1 : (mk != 1) = true := by simpa using hm1
          have t2 : (mk != 2) = true := by simpa using hm2
          have R1 := Lib.hid (show RU w (wo.alloc (.cells #[.int .i64 d0, .int .i64 d1, .int .i64 a, .int .i64 r, .int .i64 d4, .int .i64 d5, .int .i64 d6, .int .i64 d7, .int .i64 mk] 52)) (usL (l.take k)) u3 from ⟨RR.out.own.alloc _, RR.out.below.alloc RR.out.below.size _⟩)
          go_wp2
          go_roundw
          case rel => exact ⟨k + 1, by omega, by go_num, by rw [HM.out]; exact R1.out⟩
          case measure => simp [intOf]; omega
    · have Q := Lib.hid (show usL (l.take k) = usL l by rw [List.take_of_length_le (by rw [HL.out]; omega)])
      go_wp2
      go_ret
      have own := RR.out.own
      rw [Q.out] at own
      exact fin_U own RR.out.below

end Go.Proofs.Ytbkmcncakpmgkaa
