import Derived.Test.YtgbnhngaeefmkaaFl15

/-! Flows: insertion sort, walked. -/
namespace Go.Proofs.Ytgbnhngaeefmkaa
set_option linter.unusedVariables false
set_option linter.unusedSimpArgs false
open Go.RowKit Go.Shelf Go.Lib

/-- what a comparison does, on the names of l -/
def CmpOk (F : List En) (rk bl : ByteArray → Nat) (W0 : World) (m bx : Nat) : Prop :=
  ∀ x ∈ F, ∀ y ∈ F, ∀ w', Below W0.heap.size W0 w' → Memo F rk bl w' m → w'.cell? ⟨bx, 0, none⟩ = some (.func (.func 47) #[.map (some m)] #[]) →
    Calls Try.prog 49 #[.pointer (some ⟨bl x.nm, 0, none⟩), .pointer (some ⟨bl y.nm, 0, none⟩), .pointer (some ⟨bx, 0, none⟩)] w' fun e w2 => e = .returned (.int .i64 (cmpE F rk x.nm y.nm)) ∧ Srt F rk bl W0 w' m w2

section
variable {F : List En} {rk bl : ByteArray → Nat} {W0 W : World} {m g o bx : Nat}

theorem SG.drewN {w' : World} {l : List En} (h : SG F rk bl W0 W m g o w' l) (n : Nat) : SG F rk bl W0 W m g o (w'.drewN n) l := by
  obtain ⟨L, hL, h1, h2⟩ := h.memo
  exact ⟨⟨h.low.os, h.low.tape, h.low.output, h.low.size, h.low.block⟩, ⟨L, hL.kept rfl, h1, h2⟩, h.os, h.tape, h.output, h.size, h.block, h.row⟩

/-- the outer loop: the first k are sorted -/
structure Out (F : List En) (rk bl : ByteArray → Nat) (W0 W : World) (m g o : Nat) (l0 : List En) (k : Nat) (wr : World) (s : List En) : Prop where
  sg : SG F rk bl W0 W m g o wr (s ++ l0.drop k)
  perm : s.Perm (l0.take k)
  srt : s.Pairwise (ltE F rk)
/-- the inner loop: x stands at j -/
structure Inn (F : List En) (rk bl : ByteArray → Nat) (W0 W : World) (m g o : Nat) (l0 : List En) (k : Nat) (x : En) (s : List En) (j : Nat) (wr : World) : Prop where
  sg : SG F rk bl W0 W m g o wr (insAt s x j ++ l0.drop (k + 1))
  big : ∀ y ∈ s.drop j, ltE F rk x y

theorem Inn.out {l0 : List En} {k : Nat} (hk : k < l0.length) {s : List En} {j : Nat} {wr : World} (h : Inn F rk bl W0 W m g o l0 k l0[k] s j wr) (hp : s.Perm (l0.take k)) (hs : s.Pairwise (ltE F rk)) (h1 : ∀ y ∈ s.take j, ltE F rk y l0[k]) {w2 : World} (h2 : SG F rk bl W0 W m g o w2 (insAt s l0[k] j ++ l0.drop (k + 1))) : Out F rk bl W0 W m g o l0 (k + 1) w2 (insAt s l0[k] j) :=
  ⟨h2, (insAt_perm s l0[k] j).trans (by rw [List.take_succ_eq_append_getElem hk]; exact (hp.cons _).trans (List.perm_append_singleton _ _).symm), insAt_sorted (ltE_trans F rk) hs h1 h.big⟩

set_option maxRecDepth 100000 in
set_option maxHeartbeats 4000000 in
theorem isort_any (hO : CmpOk F rk bl W0 m bx) (l0 : List En) (n cap : Nat) (hn : l0.length = n) (hn12 : n ≤ 12) (hF : ∀ x ∈ l0, x ∈ F) (hnd : l0.Pairwise (fun a b => a.nm ≠ b.nm)) (hgm : g ≠ m) (hg0 : W0.heap.size ≤ g) (hxm : bx ≠ m) (hxg : bx ≠ g)
    (hS : SG F rk bl W0 W m g o W l0) (hc : W.cell? ⟨bx, 0, none⟩ = some (.func (.func 47) #[.map (some m)] #[])) (hn1 : 1 ≤ n) :
    Calls Try.prog 71 #[.slice (some ⟨g, o, none⟩) n cap, .int .i64 0, .int .i64 n, .func (.func 49) #[] #[.pointer (some ⟨bx, 0, none⟩)]] W fun e w' => e = .returned (.tuple #[]) ∧ ∃ s, SG F rk bl W0 W m g o w' s ∧ s.Perm l0 ∧ s.Pairwise (ltE F rk) := by
  have eg : ∀ args w, (callFunc 49 args).run Try.prog w = .ok (.enter 49 args) w := enters_of Try.func49 (by kernel_rfl) rfl
  have HO := Lib.hid hO
  have HL := Lib.hid hn
  have HF := Lib.hid hF
  have HND := Lib.hid hnd
  have HS := Lib.hid hS
  have HCB := Lib.hid (show ∀ w' l, SG F rk bl W0 W m g o w' l → w'.cell? ⟨bx, 0, none⟩ = some (.func (.func 47) #[.map (some m)] #[]) from fun w' l h => by rw [World.cell?_of_block (w := W) (h.block bx (World.block_lt_of_cell? _ _ hc) hxm hxg)]; exact hc)
  have O0 := Lib.hid (show Out F rk bl W0 W m g o l0 1 W (l0.take 1) from ⟨by rw [List.take_append_drop]; exact hS, List.Perm.refl _, by rcases l0 with _ | ⟨a, r⟩ <;> simp⟩)
  clear hO hn hF hnd hS hc
  go_enter Try.func71, Try.ntmps71
  go_wp2_with fail
  go_loopw [8] (fun i wr => ∃ (k : Nat) (s : List En), 1 ≤ k ∧ k ≤ n ∧ i = .int .i64 k ∧ Out F rk bl W0 W m g o l0 k wr s) (fun i _ => n - (intOf i).toNat)
  case atStart => exact ⟨1, _, by omega, hn1, rfl, O0.out⟩
  case round =>
    obtain ⟨k, s, hk1, hkn, rfl, hout⟩ := hrel
    have OU := Lib.hid hout
    clear hout
    obtain ⟨wo, rfl⟩ : ∃ wo : World, wo = wr := ⟨_, rfl⟩
    by_cases hlt : k < n
    · have hkl : k < l0.length := by rw [HL.out]; exact hlt
      have hsl : s.length = k := by rw [OU.out.perm.length_eq, List.length_take]; omega
      have SL := Lib.hid hsl
      have I0 : Inn F rk bl W0 W m g o l0 k l0[k] s k wo := ⟨by
        have h := OU.out.sg
        rw [List.drop_eq_getElem_cons hkl] at h
        unfold insAt
        rw [List.take_of_length_le (by omega), List.drop_eq_nil_of_le (by omega)]
        simpa using h, fun y hy => by rw [List.drop_eq_nil_of_le (by omega)] at hy; cases hy⟩
      have FO := Lib.hid (fun (j : Nat) (wr : World) (h : Inn F rk bl W0 W m g o l0 k l0[k] s j wr) (h1 : ∀ y ∈ s.take j, ltE F rk y l0[k]) (w2 : World) (h2 : SG F rk bl W0 W m g o w2 (insAt s l0[k] j ++ l0.drop (k + 1))) => h.out hkl OU.out.perm OU.out.srt h1 h2)
      have hxF : l0[k] ∈ F := HF.out _ (List.getElem_mem hkl)
      have hsF : ∀ y ∈ s, y ∈ F ∧ y.nm ≠ l0[k].nm := fun y hy => by
        have hm := OU.out.perm.mem_iff.1 hy
        refine ⟨HF.out _ (List.mem_of_mem_take hm), ?_⟩
        obtain ⟨i, hi, he⟩ := List.mem_iff_getElem.1 hm
        rw [List.length_take] at hi
        rw [List.getElem_take] at he
        rw [← he]
        exact List.pairwise_iff_getElem.1 HND.out i k (by omega) hkl (by omega)
      obtain ⟨x, hx⟩ : ∃ x, l0[k] = x := ⟨_, rfl⟩
      rw [hx] at I0 FO hxF hsF
      have II := Lib.hid I0
      have XF := Lib.hid hxF
      have SF := Lib.hid hsF
      clear hsl I0 hx hkl hxF hsF
      go_wp2_with fail
      go_loopw [9] (fun i wr => ∃ j : Nat, j ≤ k ∧ i = .int .i64 j ∧ Inn F rk bl W0 W m g o l0 k x s j wr) (fun i _ => (intOf i).toNat)
      case atStart => exact ⟨k, Nat.le_refl _, rfl, II.out⟩
      case round =>
        obtain ⟨j, hj, rfl, hin⟩ := hrel
        have IN := Lib.hid hin
        clear hin
        rcases Nat.eq_zero_or_pos j with h0 | h0
        · subst h0
          have FIN := Lib.hid (fun (nq : Nat) => FO.out 0 wr IN.out (by simp) _ (IN.out.sg.drewN nq))
          have d0 : decide ((0 : Int) < 0) = false := by decide
          go_wp2_with fail
          go_quiet (fail)
          go_wp2_with fail
          go_roundw
          case rel => exact ⟨k + 1, _, by omega, by omega, by go_num, FIN.out _⟩
          case measure => simp [intOf]; omega
        · obtain ⟨i, rfl⟩ : ∃ i, j = i + 1 := ⟨j - 1, by omega⟩
          have his : i < s.length := by rw [SL.out]; omega
          obtain ⟨hyF, hyn⟩ := SF.out s[i] (List.getElem_mem his)
          have cx := IN.out.sg.cell (i := i + 1) (x := x) (by rw [List.getElem?_append_left (by rw [insAt_len]; omega)]; exact insAt_at s x (i + 1) his)
          have cy := IN.out.sg.cell (i := i) (x := s[i]) (by rw [List.getElem?_append_left (by rw [insAt_len]; omega), insAt_before s x i his, List.getElem?_eq_getElem his])
          have hsw := insAt_swap s x s[i] i his rfl
          have hdr : ∀ z ∈ s.drop i, z = s[i] ∨ z ∈ s.drop (i + 1) := fun z hz => by
            rw [List.drop_eq_getElem_cons his] at hz
            exact List.mem_cons.1 hz
          have htk := fun h => take_lt (ltE_trans F rk) his OU.out.srt (x := x) h
          obtain ⟨y, hy⟩ : ∃ y, s[i] = y := ⟨_, rfl⟩
          rw [hy] at hyF hyn cy hsw hdr htk
          have CL := Lib.hid (show ∀ w' l, SG F rk bl W0 W m g o w' l → Calls Try.prog 49 #[.pointer (some ⟨bl x.nm, 0, none⟩), .pointer (some ⟨bl y.nm, 0, none⟩), .pointer (some ⟨bx, 0, none⟩)] w' fun e w2 => e = .returned (.int .i64 (cmpE F rk x.nm y.nm)) ∧ SG F rk bl W0 W m g o w2 l from fun w' l h => (HO.out x XF.out y hyF w' h.low h.memo (HCB.out w' l h)).mono fun e w2 ⟨q1, q2⟩ => ⟨q1, h.srt hgm q2⟩)
          obtain ⟨ls, hls⟩ : ∃ ls, insAt s x (i + 1) ++ l0.drop (k + 1) = ls := ⟨_, rfl⟩
          have SG0 := Lib.hid (show SG F rk bl W0 W m g o wr ls from by rw [← hls]; exact IN.out.sg)
          have KEEP := Lib.hid (show ∀ w', SG F rk bl W0 W m g o w' ls → w'.cell? ⟨g, o + (i + 1), none⟩ = some (.pointer (some ⟨bl x.nm, 0, none⟩)) ∧ w'.cell? ⟨g, o + i, none⟩ = some (.pointer (some ⟨bl y.nm, 0, none⟩)) ∧ w'.frozen? ⟨g, o + (i + 1), none⟩ = false ∧ w'.frozen? ⟨g, o + i, none⟩ = false ∧ SG F rk bl W0 W m g o w' ls from fun w' h => ⟨h.cell (by rw [← hls, List.getElem?_append_left (by rw [insAt_len]; omega)]; exact insAt_at s x (i + 1) his), h.cell (by rw [← hls, List.getElem?_append_left (by rw [insAt_len]; omega), insAt_before s x i his, List.getElem?_eq_getElem his, hy]), h.frz _, h.frz _, h⟩)
          have NXT := Lib.hid (show ∀ w', SG F rk bl W0 W m g o w' ls → ltE F rk x y → Inn F rk bl W0 W m g o l0 k x s i ((w'.setCell ⟨g, o + (i + 1), none⟩ (.pointer (some ⟨bl y.nm, 0, none⟩))).setCell ⟨g, o + i, none⟩ (.pointer (some ⟨bl x.nm, 0, none⟩))) from fun w' h hlt' => ⟨by
            have hl1 : i + 1 < ls.length := by rw [← hls, List.length_append, insAt_len]; omega
            have h1 := (h.set hgm hg0 hl1 y).set hgm hg0 (i := i) (by rw [List.length_set]; omega) x
            rw [← hls, List.set_append_left _ _ (by rw [insAt_len]; omega), List.set_append_left _ _ (by rw [List.length_set, insAt_len]; omega), hsw] at h1
            exact h1, fun z hz => by
            rcases hdr z hz with q | q
            · rw [q]; exact hlt'
            · exact IN.out.big z q⟩)
          have DONE := Lib.hid (show ∀ w', SG F rk bl W0 W m g o w' ls → ¬ ltE F rk x y → Out F rk bl W0 W m g o l0 (k + 1) w' (insAt s x (i + 1)) from fun w' h hn' => FO.out (i + 1) wr IN.out (htk (ltE_tot F rk (fun e => hyn e.symm) hn')) w' (by rw [hls]; exact h))
          have LT := Lib.hid (show ltE F rk x y ↔ cmpE F rk x.nm y.nm < 0 from Iff.rfl)
          obtain ⟨ce, hce⟩ : ∃ ce, cmpE F rk x.nm y.nm = ce := ⟨_, rfl⟩
          obtain ⟨bX, hbX⟩ : ∃ bX, bl x.nm = bX := ⟨_, rfl⟩
          obtain ⟨bY, hbY⟩ : ∃ bY, bl y.nm = bY := ⟨_, rfl⟩
          rw [hce] at CL LT
          rw [hbX, hbY] at CL KEEP NXT
          have d0 : decide ((0 : Int) < (i : Int) + 1) = true := decide_eq_true (by omega)
          have d1 : (0 : Int) < (i : Int) + 1 := by omega
          have d2 : ((i : Int) + 1) < (n : Int) := by omega
          have d3 : (0 : Int) ≤ (i : Int) := by omega
          have d4 : (i : Int) < (n : Int) := by omega
          have d5 : (0 : Int) ≤ (i : Int) + 1 := by omega
          have d6 : IntKind.i64.wrap ((i : Int) + 1 - 1) = (i : Int) := by rw [IntKind.wrap_i64]; omega
          have d7 : IntKind.i64.wrap (i : Int) = (i : Int) := by rw [IntKind.wrap_i64]; omega
          clear cx cy hsw hdr htk hls hce hbX hbY hy his hyF hyn
          go_wp2_with fail
          go_region_held3 (fun w' => w'.cell? ⟨g, o + (i + 1), none⟩ = some (.pointer (some ⟨bX, 0, none⟩)) ∧ w'.cell? ⟨g, o + i, none⟩ = some (.pointer (some ⟨bY, 0, none⟩)) ∧ w'.frozen? ⟨g, o + (i + 1), none⟩ = false ∧ w'.frozen? ⟨g, o + i, none⟩ = false ∧ SG F rk bl W0 W m g o w' ls)
            (first | (exact KEEP.out _ SG0.out.drew) | (exact KEEP.out _ E2) | (go_split_ands; exact KEEP.out _ (by assumption)))
            (first | (go_at_call 49; (with_reducible refine (CL.out _ ls ?_).mono ?_); (go_split_ands; assumption); rintro e w5 ⟨rfl, E2⟩))
          have E3 := Lib.hid E2
          clear E2
          by_cases hlt0 : ce < 0
          · obtain ⟨k1, k2, k3, k4, _⟩ := KEEP.out w5 E3.out
            have N2 := Lib.hid (NXT.out w5.drew E3.out.drew (LT.out.2 hlt0))
            go_wp2_with fail
            go_region
            go_wp2_with fail
            go_roundw
            case rel => exact ⟨i, by omega, by go_num, N2.out⟩
            case measure => simp [intOf]
          · have FIN := Lib.hid (DONE.out w5 E3.out (fun q => hlt0 (LT.out.1 q)))
            go_wp2_with fail
            go_roundw
            case rel => exact ⟨k + 1, _, by omega, by omega, by go_num, FIN.out⟩
            case measure => simp [intOf]; omega
    · have hkn' : k = n := by omega
      have FIN := Lib.hid (show ∃ s, SG F rk bl W0 W m g o wo s ∧ s.Perm l0 ∧ s.Pairwise (ltE F rk) from by
        have h1 := OU.out.sg
        have h2 := OU.out.perm
        rw [hkn', ← HL.out, List.drop_length, List.append_nil] at h1
        rw [hkn', ← HL.out, List.take_length] at h2
        exact ⟨s, h1, h2, OU.out.srt⟩)
      clear hkn'
      go_wp2_with fail
      go_end0
      exact ⟨rfl, FIN.out⟩
end

end Go.Proofs.Ytgbnhngaeefmkaa
