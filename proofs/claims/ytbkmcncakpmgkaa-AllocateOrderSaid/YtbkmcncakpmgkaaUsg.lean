/-
  Usages: the walk.
-/
import Derived.Test.YtbkmcncakpmgkaaUsgW
namespace Go.Proofs.Ytbkmcncakpmgkaa
set_option linter.unusedVariables false
open Go.ChangeShapes Go.WideShapes Go.ChangeAt Go.RowKit Go.Maps

def T64 (l : List St) : Prop := ∀ s ∈ l, (Lit.int .i64 s.acc).wf = true ∧ (Lit.int .i64 s.rcd).wf = true

theorem RowK.stream {w : World} {ao : Option Addr} {l : List St} (h : RowK 9 encT w ao l) {i : Nat} (hi : i < l.length) : ∃ b off, ao = some ⟨b, off, none⟩ ∧ b < w.heap.size ∧ w.cell? ⟨b, off + i * 9, none⟩ = some (.int .i64 l[i].dev) ∧ w.cell? ⟨b, off + i * 9 + 1, none⟩ = some (.int .i64 l[i].id) ∧ w.cell? ⟨b, off + i * 9 + 2, none⟩ = some (.int .i64 l[i].acc) ∧ w.cell? ⟨b, off + i * 9 + 3, none⟩ = some (.int .i64 l[i].rcd) ∧
    w.cell? ⟨b, off + i * 9 + 4, none⟩ = some (.int .i64 l[i].ter) ∧ w.cell? ⟨b, off + i * 9 + 5, none⟩ = some (.int .i64 l[i].sec) ∧ w.cell? ⟨b, off + i * 9 + 6, none⟩ = some (.int .i64 l[i].per) ∧ w.cell? ⟨b, off + i * 9 + 7, none⟩ = some (.int .i64 l[i].ses) ∧ w.cell? ⟨b, off + i * 9 + 8, none⟩ = some (.int .i64 l[i].mark) := by
  obtain ⟨b, off, e, h1, h2⟩ := h i l[i] (List.getElem?_eq_getElem hi)
  exact ⟨b, off, e, h1, by simpa using h2 0 _ rfl, by simpa using h2 1 _ rfl, by simpa using h2 2 _ rfl, by simpa using h2 3 _ rfl, by simpa using h2 4 _ rfl, by simpa using h2 5 _ rfl, by simpa using h2 6 _ rfl, by simpa using h2 7 _ rfl, by simpa using h2 8 _ rfl⟩

theorem holdsK_of_owns {w : World} {base e g cap : Nat} {L : List Us} (h : w.ownsRow base e 4 (.slice (some ⟨g, 0, none⟩) L.length cap) L.length (L.flatMap encU)) : Go.Sort.HoldsK encU 4 w g 0 L.toArray := by
  obtain ⟨ao, cap', hv, _, hr⟩ := rowK_of_owns encU_len (by decide) h
  simp only [Value.slice.injEq] at hv
  obtain ⟨rfl, _, _⟩ := hv
  have hf : ∀ o, w.frozen? ⟨g, o, none⟩ = false := fun o => by
    obtain ⟨_, h | ⟨g', c', cur, e', _, hb, _⟩⟩ := h
    · cases h.1
    · cases e'; simp [World.frozen?, hb]
  intro j hj
  rw [Go.Sort.size_flatK] at hj
  rw [Go.Sort.get_flatK _ _ _ _ hj]
  have hj' : j / 4 < L.length := by simp at hj; omega
  refine ⟨?_, hf _⟩
  obtain ⟨b, off, e1, _, hc⟩ := hr (j / 4) L[j / 4] (List.getElem?_eq_getElem hj')
  cases e1
  have hlt : j % 4 < (encU L[j / 4]).length := by rw [encU_len]; omega
  have := hc (j % 4) _ (List.getElem?_eq_getElem hlt)
  have e2 : 0 + j / 4 * 4 + j % 4 = 0 + j := by omega
  rw [e2] at this
  rw [this]
  have e3 : L.toArray[j / 4]! = L[j / 4] := by simp [hj']
  rw [e3]
  simp [hlt]

theorem u1_mark (k : Int) : (k != 1) = decide (k ≠ 1) := by rw [Bool.eq_iff_iff]; simp

set_option maxRecDepth 100000 in
set_option maxHeartbeats 4000000 in
theorem usages_any (so : Option Addr) (cap m : Nat) (l : List St) (w : World) (hm : m ≤ 1000) (hl : l.length = m) (hr : RowK 9 encT w so l) (hT : T64 l) :
    Calls Try.prog 22 #[.slice so m cap] w (SlcK 4 encU w (usL l)) := by
  have HL := Lib.hid hl
  have HR := Lib.hid hr
  have HTT := Lib.hid hT
  clear hl hr hT
  have hmm := @run_makeMap Try.prog
  obtain ⟨i0, hi, hz0, hz1, hz2⟩ := info_parts Try.infoU
  have MADE := Lib.hid (UG.made w w.heap.size)
  have BEL0 := Lib.hid ((Below.refl w.heap.size w).alloc (Nat.le_refl _) (.map #[] 0))
  go_enter Try.func22, Try.ntmps22
  go_wp2
  go_loopw [13] (fun i wr => ∃ (k : Nat) (D : DataW Unit) (bl : Int → Int → Nat), k ≤ m ∧ i = .int .i64 k ∧ UG w.heap.size wr w.heap.size k D bl (usL (l.take k)) ∧ Below w.heap.size w wr) (fun i _ => m - (intOf i).toNat)
  case atStart => exact ⟨0, _, _, Nat.zero_le _, rfl, MADE.out, BEL0.out⟩
  case round =>
    obtain ⟨k, D, bl, hk, rfl, hug, hb⟩ := hrel
    have UGK := Lib.hid hug
    have HB := Lib.hid hb
    have FACT := Lib.hid (usL_facts l k (by rw [HL.out]; exact hk))
    clear hug hb
    by_cases hlt : k < m
    · have hkl : k < l.length := by rw [HL.out]; exact hlt
      obtain ⟨sb, off, rfl, hbl, c0, c1, c2, c3, c4, c5, c6, c7, c8⟩ := HR.out.stream hkl
      have low : ∀ o v, w.cell? ⟨sb, o, none⟩ = some v → wr.cell? ⟨sb, o, none⟩ = some v := fun o v h => by rw [HB.out.cell (p := ⟨sb, o, none⟩) hbl]; exact h
      have e0 := low _ _ c0
      have e1 := low _ _ c1
      have e2 := low _ _ c2
      have e3 := low _ _ c3
      have e4 := low _ _ c4
      have e5 := low _ _ c5
      have e6 := low _ _ c6
      have e7 := low _ _ c7
      have e8 := low _ _ c8
      have HT := Lib.hid (usL_take l k hkl)
      obtain ⟨hwa, hwr⟩ := HTT.out l[k] (List.getElem_mem hkl)
      obtain ⟨s, hs⟩ : ∃ s, l[k] = s := ⟨_, rfl⟩
      rw [hs] at e0 e1 e2 e3 e4 e5 e6 e7 e8 HT hwa hwr
      clear c0 c1 c2 c3 c4 c5 c6 c7 c8 low hs
      obtain ⟨d0, d1, a, r, d4, d5, d6, d7, mk⟩ := s
      dsimp only at e0 e1 e2 e3 e4 e5 e6 e7 e8 hwa hwr
      by_cases hm1 : mk = 1
      · subst hm1
        rcases hfu : findU a r (usL (l.take k)) with _ | u
        · have HN := Lib.hid (show usL (l.take (k + 1)) = bumpU a r 1 0 (usL (l.take k)) by rw [HT.out]; unfold uStepS; simp)
          have G2 := Lib.hid ((UGK.out.later ((Below.refl _ _).alloc (Nat.le_refl _) (.cells #[.int .i64 d0, .int .i64 d1, .int .i64 a, .int .i64 r, .int .i64 d4, .int .i64 d5, .int .i64 d6, .int .i64 d7, .int .i64 1] 52))).later ((Below.refl _ _).alloc (Nat.le_refl _) (.cells #[.int .i64 a, .int .i64 r] 69)))
          have hlk := G2.out.look_miss hwa hwr hfu
          obtain ⟨kl, hkl⟩ := key_mk a r hwa hwr
          unfold kv at hkl
          have HKL := Lib.hid hkl
          have HFU := Lib.hid hfu
          have hBB := UGK.out.own.lt
          have hws := HB.out.size
          have OWA := Lib.hid (G2.out.own.alloc (.cells #[.int .i64 a, .int .i64 r, .int .i64 0, .int .i64 0] 42))
          clear hfu hkl
          go_wp2_with (at_mapUpdate; refine wpList_mapUpdate_own _ rfl _ _ _ 67 rfl 69 70 keyedS Try.underlying67 RP w.heap.size k _ rfl OWA.out (by unfold maxLen; omega) _ _ _ rfl rfl HKL.out (.lit (.int .i64 ((wr.heap.size + 1 + 1 : Nat) : Int))) [] rfl ?_; intro w5 hown5 hgr5; have G5 := Lib.hid (G2.out.new hwa hwr HFU.out (by simp; omega) HKL.out (by simpa using hgr5) (by simpa using hown5)); have M5 := Lib.hid (show (⟨a, r, 0, 0⟩ : Us) ∈ bumpU a r 0 0 (usL (l.take k)) from (by have h1 := findU_some (find_same (a := a) (r := r) (v := 0) (h := 0) G2.out.srt); rw [HFU.out] at h1; exact h1.1)); have hlk5 := G5.out.look_hit M5.out; dsimp only at hlk5; rw [if_pos ⟨rfl, rfl⟩] at hlk5; have hc5 := (G5.out.cel _ M5.out).2; dsimp only at hc5; rw [if_pos ⟨rfl, rfl⟩] at hc5; simp only [World.size_alloc] at hlk5 hc5; have hcl5 : w5.cell? ⟨wr.heap.size + 1 + 1, 2, none⟩ = some (.int .i64 0) := (by simp [World.cell?, hc5]); have hfr5 : w5.frozen? ⟨wr.heap.size + 1 + 1, 2, none⟩ = false := (by simp [World.frozen?, hc5]); have low5 : ∀ (j : Nat) (o : Nat) (v : Value), j ≠ w.heap.size → (((wr.alloc (.cells #[.int .i64 d0, .int .i64 d1, .int .i64 a, .int .i64 r, .int .i64 d4, .int .i64 d5, .int .i64 d6, .int .i64 d7, .int .i64 1] 52)).alloc (.cells #[.int .i64 a, .int .i64 r] 69))).cell? ⟨j, o, none⟩ = some v → w5.cell? ⟨j, o, none⟩ = some v := (fun j o v hj h => by rw [World.cell?_of_block (w := ((wr.alloc (.cells #[.int .i64 d0, .int .i64 d1, .int .i64 a, .int .i64 r, .int .i64 d4, .int .i64 d5, .int .i64 d6, .int .i64 d7, .int .i64 1] 52)).alloc (.cells #[.int .i64 a, .int .i64 r] 69))) ((hgr5.block j (by have := World.block_lt_of_cell? _ _ h; simp at this ⊢; omega) (fun e => hj (by simpa using e))).trans (Below.heap_alloc _ _ _ (World.block_lt_of_cell? _ _ h)))]; exact h); have k05 : w5.cell? ⟨wr.heap.size + 1, 0, none⟩ = some (.int .i64 a) := low5 _ _ _ (by omega) (cell_box _ _ _ 0 _ rfl _ (by simp)); have k15 : w5.cell? ⟨wr.heap.size + 1, 1, none⟩ = some (.int .i64 r) := low5 _ _ _ (by omega) (cell_box _ _ _ 1 _ rfl _ (by simp)); have m5 : w5.cell? ⟨wr.heap.size, 8, none⟩ = some (.int .i64 1) := low5 _ _ _ (by omega) (cell_up (cell_box _ _ _ 8 _ rfl _ rfl) _); have BB5 := Lib.hid (show Below w.heap.size w w5 from (((HB.out.alloc HB.out.size _).alloc (by have := HB.out.size; simp; omega) _).alloc (by have := HB.out.size; simp; omega) _).grown hgr5 (by have := HB.out.size; simp; omega) (fun j e => by cases e; exact Nat.le_refl _)); clear hown5 hgr5 low5 hc5)
          have R := G5.out.bump M5.out 1 0 ⟨2, .int .i64 1, rfl, by simp⟩
          dsimp only at R
          rw [bump_bump, if_pos ⟨rfl, rfl⟩] at R
          simp only [World.size_alloc] at R
          have RR := Lib.hid R
          clear R
          go_roundw
          case rel => exact ⟨k + 1, _, _, by omega, by go_num, by rw [HN.out]; exact RR.out, BB5.out.setCell (p := ⟨wr.heap.size + 1 + 1, 2, none⟩) (by dsimp only; omega) _⟩
          case measure => simp [intOf]; omega
        · have hu := (findU_some hfu).1
          obtain ⟨hua, hur⟩ := (findU_some hfu).2
          have HN := Lib.hid (show usL (l.take (k + 1)) = bumpU a r 1 0 (usL (l.take k)) by rw [HT.out]; unfold uStepS; simp)
          have G2 := Lib.hid ((UGK.out.later ((Below.refl _ _).alloc (Nat.le_refl _) (.cells #[.int .i64 d0, .int .i64 d1, .int .i64 a, .int .i64 r, .int .i64 d4, .int .i64 d5, .int .i64 d6, .int .i64 d7, .int .i64 1] 52))).later ((Below.refl _ _).alloc (Nat.le_refl _) (.cells #[.int .i64 a, .int .i64 r] 69)))
          have hlk := G2.out.look_hit hu
          have hcell := (G2.out.cel u hu).2
          have hub := FACT.out.2.2 u hu
          have BU := Lib.hid (G2.out.bump hu 1 0 ⟨2, .int .i64 (u.val + 1), rfl, by simp⟩)
          have hcl : ((wr.alloc (.cells #[.int .i64 d0, .int .i64 d1, .int .i64 a, .int .i64 r, .int .i64 d4, .int .i64 d5, .int .i64 d6, .int .i64 d7, .int .i64 1] 52)).alloc (.cells #[.int .i64 a, .int .i64 r] 69)).cell? ⟨bl u.acc u.rcd, 2, none⟩ = some (.int .i64 u.val) := by simp [World.cell?, hcell]
          have hfr : ((wr.alloc (.cells #[.int .i64 d0, .int .i64 d1, .int .i64 a, .int .i64 r, .int .i64 d4, .int .i64 d5, .int .i64 d6, .int .i64 d7, .int .i64 1] 52)).alloc (.cells #[.int .i64 a, .int .i64 r] 69)).frozen? ⟨bl u.acc u.rcd, 2, none⟩ = false := by simp [World.frozen?, hcell]
          have hbz := (G2.out.cel u hu).1
          have BD := Lib.hid (show Below w.heap.size w (((wr.alloc (.cells #[.int .i64 d0, .int .i64 d1, .int .i64 a, .int .i64 r, .int .i64 d4, .int .i64 d5, .int .i64 d6, .int .i64 d7, .int .i64 1] 52)).alloc (.cells #[.int .i64 a, .int .i64 r] 69)).setCell ⟨bl u.acc u.rcd, 2, none⟩ (.int .i64 (u.val + 1))) from ((HB.out.alloc HB.out.size _).alloc (by have := HB.out.size; simp; omega) _).setCell (p := ⟨bl u.acc u.rcd, 2, none⟩) hbz _)
          rw [hua, hur] at hlk hcl hfr BU BD
          obtain ⟨cv, hcv⟩ : ∃ cv, u.val = cv := ⟨_, rfl⟩
          rw [hcv] at hcl BU BD hub
          obtain ⟨bb, hbb⟩ : ∃ bb, bl a r = bb := ⟨_, rfl⟩
          rw [hbb] at hlk hcl hfr BU BD
          clear hfu hu hua hur hcell hcv hbb hbz
          go_wp2
          go_roundw
          case rel => exact ⟨k + 1, D, bl, by omega, by go_num, by rw [HN.out]; exact BU.out.mono (by omega), BD.out⟩
          case measure => simp [intOf]; omega
      · by_cases hm2 : mk = 2
        · subst hm2
          rcases hfu : findU a r (usL (l.take k)) with _ | u
          · have HN := Lib.hid (show usL (l.take (k + 1)) = bumpU a r 0 1 (usL (l.take k)) by rw [HT.out]; unfold uStepS; simp)
            have G2 := Lib.hid ((UGK.out.later ((Below.refl _ _).alloc (Nat.le_refl _) (.cells #[.int .i64 d0, .int .i64 d1, .int .i64 a, .int .i64 r, .int .i64 d4, .int .i64 d5, .int .i64 d6, .int .i64 d7, .int .i64 2] 52))).later ((Below.refl _ _).alloc (Nat.le_refl _) (.cells #[.int .i64 a, .int .i64 r] 69)))
            have hlk := G2.out.look_miss hwa hwr hfu
            obtain ⟨kl, hkl⟩ := key_mk a r hwa hwr
            unfold kv at hkl
            have HKL := Lib.hid hkl
            have HFU := Lib.hid hfu
            have hBB := UGK.out.own.lt
            have hws := HB.out.size
            have OWA := Lib.hid (G2.out.own.alloc (.cells #[.int .i64 a, .int .i64 r, .int .i64 0, .int .i64 0] 42))
            clear hfu hkl
            go_wp2_with (at_mapUpdate; refine wpList_mapUpdate_own _ rfl _ _ _ 67 rfl 69 70 keyedS Try.underlying67 RP w.heap.size k _ rfl OWA.out (by unfold maxLen; omega) _ _ _ rfl rfl HKL.out (.lit (.int .i64 ((wr.heap.size + 1 + 1 : Nat) : Int))) [] rfl ?_; intro w5 hown5 hgr5; have G5 := Lib.hid (G2.out.new hwa hwr HFU.out (by simp; omega) HKL.out (by simpa using hgr5) (by simpa using hown5)); have M5 := Lib.hid (show (⟨a, r, 0, 0⟩ : Us) ∈ bumpU a r 0 0 (usL (l.take k)) from (by have h1 := findU_some (find_same (a := a) (r := r) (v := 0) (h := 0) G2.out.srt); rw [HFU.out] at h1; exact h1.1)); have hlk5 := G5.out.look_hit M5.out; dsimp only at hlk5; rw [if_pos ⟨rfl, rfl⟩] at hlk5; have hc5 := (G5.out.cel _ M5.out).2; dsimp only at hc5; rw [if_pos ⟨rfl, rfl⟩] at hc5; simp only [World.size_alloc] at hlk5 hc5; have hcl5 : w5.cell? ⟨wr.heap.size + 1 + 1, 3, none⟩ = some (.int .i64 0) := (by simp [World.cell?, hc5]); have hfr5 : w5.frozen? ⟨wr.heap.size + 1 + 1, 3, none⟩ = false := (by simp [World.frozen?, hc5]); have low5 : ∀ (j : Nat) (o : Nat) (v : Value), j ≠ w.heap.size → (((wr.alloc (.cells #[.int .i64 d0, .int .i64 d1, .int .i64 a, .int .i64 r, .int .i64 d4, .int .i64 d5, .int .i64 d6, .int .i64 d7, .int .i64 2] 52)).alloc (.cells #[.int .i64 a, .int .i64 r] 69))).cell? ⟨j, o, none⟩ = some v → w5.cell? ⟨j, o, none⟩ = some v := (fun j o v hj h => by rw [World.cell?_of_block (w := ((wr.alloc (.cells #[.int .i64 d0, .int .i64 d1, .int .i64 a, .int .i64 r, .int .i64 d4, .int .i64 d5, .int .i64 d6, .int .i64 d7, .int .i64 2] 52)).alloc (.cells #[.int .i64 a, .int .i64 r] 69))) ((hgr5.block j (by have := World.block_lt_of_cell? _ _ h; simp at this ⊢; omega) (fun e => hj (by simpa using e))).trans (Below.heap_alloc _ _ _ (World.block_lt_of_cell? _ _ h)))]; exact h); have k05 : w5.cell? ⟨wr.heap.size + 1, 0, none⟩ = some (.int .i64 a) := low5 _ _ _ (by omega) (cell_box _ _ _ 0 _ rfl _ (by simp)); have k15 : w5.cell? ⟨wr.heap.size + 1, 1, none⟩ = some (.int .i64 r) := low5 _ _ _ (by omega) (cell_box _ _ _ 1 _ rfl _ (by simp)); have m5 : w5.cell? ⟨wr.heap.size, 8, none⟩ = some (.int .i64 2) := low5 _ _ _ (by omega) (cell_up (cell_box _ _ _ 8 _ rfl _ rfl) _); have BB5 := Lib.hid (show Below w.heap.size w w5 from (((HB.out.alloc HB.out.size _).alloc (by have := HB.out.size; simp; omega) _).alloc (by have := HB.out.size; simp; omega) _).grown hgr5 (by have := HB.out.size; simp; omega) (fun j e => by cases e; exact Nat.le_refl _)); clear hown5 hgr5 low5 hc5)
            have R := G5.out.bump M5.out 0 1 ⟨3, .int .i64 1, rfl, by simp⟩
            dsimp only at R
            rw [bump_bump, if_pos ⟨rfl, rfl⟩] at R
            simp only [World.size_alloc] at R
            have RR := Lib.hid R
            clear R
            go_roundw
            case rel => exact ⟨k + 1, _, _, by omega, by go_num, by rw [HN.out]; exact RR.out, BB5.out.setCell (p := ⟨wr.heap.size + 1 + 1, 3, none⟩) (by dsimp only; omega) _⟩
            case measure => simp [intOf]; omega
          · have hu := (findU_some hfu).1
            obtain ⟨hua, hur⟩ := (findU_some hfu).2
            have HN := Lib.hid (show usL (l.take (k + 1)) = bumpU a r 0 1 (usL (l.take k)) by rw [HT.out]; unfold uStepS; simp)
            have G2 := Lib.hid ((UGK.out.later ((Below.refl _ _).alloc (Nat.le_refl _) (.cells #[.int .i64 d0, .int .i64 d1, .int .i64 a, .int .i64 r, .int .i64 d4, .int .i64 d5, .int .i64 d6, .int .i64 d7, .int .i64 2] 52))).later ((Below.refl _ _).alloc (Nat.le_refl _) (.cells #[.int .i64 a, .int .i64 r] 69)))
            have hlk := G2.out.look_hit hu
            have hcell := (G2.out.cel u hu).2
            have hub := FACT.out.2.2 u hu
            have BU := Lib.hid (G2.out.bump hu 0 1 ⟨3, .int .i64 (u.held + 1), rfl, by simp⟩)
            have hcl : ((wr.alloc (.cells #[.int .i64 d0, .int .i64 d1, .int .i64 a, .int .i64 r, .int .i64 d4, .int .i64 d5, .int .i64 d6, .int .i64 d7, .int .i64 2] 52)).alloc (.cells #[.int .i64 a, .int .i64 r] 69)).cell? ⟨bl u.acc u.rcd, 3, none⟩ = some (.int .i64 u.held) := by simp [World.cell?, hcell]
            have hfr : ((wr.alloc (.cells #[.int .i64 d0, .int .i64 d1, .int .i64 a, .int .i64 r, .int .i64 d4, .int .i64 d5, .int .i64 d6, .int .i64 d7, .int .i64 2] 52)).alloc (.cells #[.int .i64 a, .int .i64 r] 69)).frozen? ⟨bl u.acc u.rcd, 3, none⟩ = false := by simp [World.frozen?, hcell]
            have hbz := (G2.out.cel u hu).1
            have BD := Lib.hid (show Below w.heap.size w (((wr.alloc (.cells #[.int .i64 d0, .int .i64 d1, .int .i64 a, .int .i64 r, .int .i64 d4, .int .i64 d5, .int .i64 d6, .int .i64 d7, .int .i64 2] 52)).alloc (.cells #[.int .i64 a, .int .i64 r] 69)).setCell ⟨bl u.acc u.rcd, 3, none⟩ (.int .i64 (u.held + 1))) from ((HB.out.alloc HB.out.size _).alloc (by have := HB.out.size; simp; omega) _).setCell (p := ⟨bl u.acc u.rcd, 3, none⟩) hbz _)
            rw [hua, hur] at hlk hcl hfr BU BD
            obtain ⟨cv, hcv⟩ : ∃ cv, u.held = cv := ⟨_, rfl⟩
            rw [hcv] at hcl BU BD hub
            obtain ⟨bb, hbb⟩ : ∃ bb, bl a r = bb := ⟨_, rfl⟩
            rw [hbb] at hlk hcl hfr BU BD
            clear hfu hu hua hur hcell hcv hbb hbz
            go_wp2
            go_roundw
            case rel => exact ⟨k + 1, D, bl, by omega, by go_num, by rw [HN.out]; exact BU.out.mono (by omega), BD.out⟩
            case measure => simp [intOf]; omega
        · have HN := Lib.hid (show usL (l.take (k + 1)) = usL (l.take k) by rw [HT.out]; unfold uStepS; rw [if_neg hm1, if_neg hm2])
          have q1 : (mk != 1) = true := by rw [bne_iff_ne]; exact hm1
          have q2 : (mk != 2) = true := by rw [bne_iff_ne]; exact hm2
          clear hm1 hm2
          go_wp2
          go_roundw
          case rel => exact ⟨k + 1, D, bl, by omega, by go_num, by rw [HN.out]; exact (UGK.out.later ((Below.refl _ _).alloc (Nat.le_refl _) _)).mono (by omega), HB.out.alloc HB.out.size _⟩
          case measure => simp [intOf]; omega
    · obtain rfl : k = m := by omega
      have hN : l.take k = l := List.take_of_length_le (by rw [HL.out]; exact Nat.le_refl _)
      rw [hN] at UGK FACT
      have HSZ := Lib.hid (size_le UGK.out.own)
      have hdec : decide ((k : Int) < (k : Int)) = false := by simp
      have hdec2 : decide (k < k) = false := by simp
      clear hN
      obtain ⟨S, hS⟩ : ∃ S, usL l = S := ⟨_, rfl⟩
      rw [hS] at UGK FACT
      have HSS := Lib.hid hS
      clear hS
      obtain ⟨wo, rfl⟩ : ∃ wo : World, wo = wr := ⟨_, rfl⟩
      go_wp2_with (at_range; refine wpList_range_own _ rfl _ 67 rfl 69 70 keyedS Try.underlying67 RP w.heap.size k _ rfl UGK.out.own ?_; intro w0 hrg0 hg0 hs0; have RG0 := Lib.hid hrg0; have G0 := Lib.hid hg0; clear hrg0 hg0 hs0)
      go_frame
      go_loopw [4] (fun v wq => ∃ (left : Lit → Bool) (cnt : Nat) (L : List Us), wq.ranges (H := Unit) Try.prog 69 RP w.heap.size wo.heap.size k D left cnt ∧ L.length + cnt ≤ Maps.size D ∧ wq.ownsRow wo.heap.size 42 4 v L.length (L.flatMap encU) ∧ ColU S left L ∧ Below wo.heap.size wo wq) (fun _ wq => wq.rangeLeft w.heap.size wo.heap.size)
      case atStart => exact ⟨_, _, [], RG0.out, by simp, World.ownsRow_nil _ _ _ _, ColU.start UGK.out, (Below.refl _ _).grown G0.out (Nat.le_refl _) (fun j hj => by cases hj)⟩
      case round =>
        rename_i wq
        obtain ⟨left, cnt, L, hrg, hcs, hrow, hC, hnx⟩ := hrel
        have RG := Lib.hid hrg
        have ROW := Lib.hid hrow
        have HC := Lib.hid hC
        have NX := Lib.hid hnx
        have hwo := HB.out.size
        have hBo := UGK.out.own.lt
        clear hrg hrow hC hnx
        go_wp2_with (at_next; refine wpList_next_ranges _ rfl _ rfl 69 keyedS RP (fun v : Value => v) Value.pointer (fun key kl _ => ⟨key, rfl⟩) (fun v y hv => by obtain ⟨o, rfl, _⟩ := RP_inv hv; exact ⟨_, rfl⟩) w.heap.size wo.heap.size k _ _ _ rfl RG.out ?_ ?_)
        · intro hc0 hl0
          have PM := Lib.hid (HC.out.perm UGK.out.srt hl0)
          clear hl0 hc0
          have hlen : L.length ≤ k := by have := PM.out.length_eq; have := FACT.out.2.1; omega
          have row := ROW.out
          obtain ⟨_, hnil | ⟨g, cap', cur, hv, hbase, hb, h1, h2, h3, h4⟩⟩ := row
          · obtain ⟨rfl, hk0⟩ := hnil
            have hS0 : S = [] := List.eq_nil_of_length_eq_zero (by rw [← PM.out.length_eq]; exact hk0)
            go_wp2_with (go_at_call 37; refine (usort_none none 0 _).mono ?_; rintro e w' ⟨rfl, rfl⟩)
            go_ret
            rw [HSS.out, hS0]
            exact ⟨none, 0, rfl, ⟨fun _ => rfl, Nat.le_refl _⟩, RowK.nil _ _ _ _, HB.out.trans (NX.out.mono hwo)⟩
          · subst hv
            have HSO := Lib.hid (usort_any g cap' L S _ PM.out UGK.out.srt (holdsK_of_owns ROW.out) (Array.getElem?_eq_some_iff.1 hb).1 (by omega))
            have hcap : S.length ≤ cap' := by rw [← PM.out.length_eq]; exact h1
            have HLN := Lib.hid PM.out.length_eq
            clear hb h1 h2 h3 h4
            go_wp2_with (go_at_call 37; refine HSO.out.mono ?_; rintro e w7 ⟨rfl, hrow7, hch7⟩; have R7 := Lib.hid hrow7; have C7 := Lib.hid hch7; clear hrow7 hch7)
            go_ret
            rw [HSS.out]
            refine ⟨some ⟨g, 0, none⟩, cap', by rw [HLN.out]; rfl, ⟨(fun h => by cases h), hcap⟩, R7.out, HB.out.trans ((NX.out.mono hwo).trans (C7.out.below (by have := NX.out.size; omega) (fun j h => by omega)))⟩
        · intro x c kl yd yp w2 cnt2 hkey hlk hv hat hrg2 hlt hg2 hs2 hen
          obtain ⟨a, r, rfl, hwa, hwr⟩ := key_inv hkey
          have hhas := has_true_of_atKey hat
          obtain ⟨u, hfu⟩ : ∃ u, findU a r S = some u := by
            cases hf : findU a r S with
            | none => rw [UGK.out.miss a r kl hkey hf] at hhas; cases hhas
            | some u => exact ⟨u, rfl⟩
          obtain ⟨hu, hua, hur⟩ := findU_some hfu
          subst hua hur
          have hcb : c = some ⟨bl u.acc u.rcd, 0, none⟩ := by
            obtain ⟨o, ho, hy⟩ := RP_inv hv
            have h1 := hat zP
            rw [(UGK.out.hit u hu kl hkey).2] at h1
            simp only [Prod.mk.injEq] at hy
            rw [hy.1] at h1
            simp only [DataW.lit.injEq, Lit.int.injEq, true_and] at h1
            cases o with
            | none => dsimp only at h1; omega
            | some b =>
              have e : b = bl u.acc u.rcd := by dsimp only at h1; omega
              subst e
              simpa [mkP] using ho
          subst hcb
          have hblk : w2.heap[bl u.acc u.rcd]? = some (.cells #[.int .i64 u.acc, .int .i64 u.rcd, .int .i64 u.val, .int .i64 u.held] 42 (0, 0)) := by
            have hlt2 := UGK.out.lt hu
            rw [hg2.block _ (by have := NX.out.size; omega) (fun e => by simp only [Option.some.injEq] at e; omega), NX.out.block _ hlt2]
            exact (UGK.out.cel u hu).2
          have ROW2 := Lib.hid (ROW.out.kept hg2 (Or.inr (Go.row_ne_iter ROW.out RG.out).symm))
          have RG2 := Lib.hid hrg2
          have C2 := Lib.hid (HC.out.step UGK.out.srt hu hkey hlk)
          have NX2 := Lib.hid (NX.out.grown hg2 NX.out.size (fun j hj => by cases hj; exact Nat.le_refl _))
          have f0 : w2.cell? ⟨bl u.acc u.rcd, 0, none⟩ = some (.int .i64 u.acc) := by simp [World.cell?, hblk]
          have f1 : w2.cell? ⟨bl u.acc u.rcd, 1, none⟩ = some (.int .i64 u.rcd) := by simp [World.cell?, hblk]
          have f2 : w2.cell? ⟨bl u.acc u.rcd, 2, none⟩ = some (.int .i64 u.val) := by simp [World.cell?, hblk]
          have f3 : w2.cell? ⟨bl u.acc u.rcd, 3, none⟩ = some (.int .i64 u.held) := by simp [World.cell?, hblk]
          have hsz := HSZ.out
          have CNT := Lib.hid hlt
          obtain ⟨bb, hbb⟩ : ∃ bb, bl u.acc u.rcd = bb := ⟨_, rfl⟩
          rw [hbb] at f0 f1 f2 f3 hen ⊢
          clear hs2 hrg2 hg2 hlk hat hkey hv hblk hfu hbb hhas hlt
          go_wp2_with (at_builtin; refine wpList_append_own _ rfl _ _ 22 rfl wo.heap.size 42 i0 (.agg #[.int .i64 0, .int .i64 0, .int .i64 0, .int .i64 0]) 4 32 Try.underlying22 hi hz0 hz1 hz2 rfl (by decide) _ _ _ rfl (ROW2.out.alloc _) ⟨w2.heap.size, 0, none⟩ 1 1 (encU u) rfl rfl (cells_at _ _ _ _ rfl) (encU_one _) (by unfold maxLen; omega) (by omega) (by have := NX2.out.size; simp; omega) ?_; intro v' w3 hown' hg3 hnil3; go_frame)
          have RG3 := Lib.hid ((RG2.out.alloc _).kept hg3 (Go.row_ne_low ROW2.out hBo) (Go.row_ne_iter ROW2.out RG2.out))
          have NX3 := Lib.hid ((NX2.out.alloc NX2.out.size _).grown hg3 (by have := NX2.out.size; simp; omega) (fun j hj => (ROW2.out.lt j hj).1))
          have O3 := Lib.hid (show w3.ownsRow wo.heap.size 42 4 v' (L ++ [u]).length ((L ++ [u]).flatMap encU) by rw [flat_snoc, List.length_append]; exact hown')
          clear hown' hg3 hnil3
          go_roundw
          case rel => exact ⟨_, cnt2, L ++ [u], RG3.out, by have := CNT.out; simp; omega, O3.out, C2.out, NX3.out⟩
          case measure => rw [RG3.out.left_eq, RG.out.left_eq]; exact CNT.out

end Go.Proofs.Ytbkmcncakpmgkaa
