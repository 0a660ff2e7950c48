import Derived.Test.YtgbnhngaeefmkaaFl12

/-! Flows: the comparator of Stale. -/
namespace Go.Proofs.Ytgbnhngaeefmkaa
set_option linter.unusedVariables false
set_option linter.unusedSimpArgs false
open Go.RowKit Go.Shelf Go.Lib

section
variable {B : Nat} {W0 : World} {f M : Nat} {bl rb : ByteArray → Nat} {sl : ByteArray → Value} {F : List En} {rk : ByteArray → Nat}

set_option maxRecDepth 100000 in
set_option maxHeartbeats 4000000 in
theorem cmp_any (h : Rep B W0 f M bl rb sl F) (hC : Closed F) (hK : Ranked F rk) (hR : ∀ e ∈ F, e.rds.length ≤ 1000) (hk : ∀ e ∈ F, rk e.nm ≤ 1000) (m : Nat) (hm0 : W0.heap.size ≤ m) (bx : Nat) (hbm : bx ≠ m)
    (x y : En) (hx : x ∈ F) (hy : y ∈ F) (W : World) (hb : Below W0.heap.size W0 W) (hM : Memo F rk bl W m) (hc : W.cell? ⟨bx, 0, none⟩ = some (.func (.func 47) #[.map (some m)] #[])) :
    Calls Try.prog 49 #[.pointer (some ⟨bl x.nm, 0, none⟩), .pointer (some ⟨bl y.nm, 0, none⟩), .pointer (some ⟨bx, 0, none⟩)] W fun e' w' => e' = .returned (.int .i64 (cmpE F rk x.nm y.nm)) ∧ Srt F rk bl W0 W m w' := by
  have hax := atF_mem h.srt hx
  have hay := atF_mem h.srt hy
  have OFX := Lib.hid (show ∀ w', Srt F rk bl W0 W m w' → Calls Try.prog 47 #[.map (some m), .pointer (some ⟨bl x.nm, 0, none⟩)] w' fun e' w2 => e' = .returned (.int .i64 (dp F rk x.nm)) ∧ Srt F rk bl W0 W m w2 from fun w' hs => (of_any h hC hK hR hk m hm0 _ x.nm x w' (Nat.lt_succ_self _) hax hs.low hs.memo).mono fun e' w2 ⟨q1, q2, q3, q4⟩ => ⟨q1, q2, q3, hs.only.trans (OnlyM.grown q4)⟩)
  have OFY := Lib.hid (show ∀ w', Srt F rk bl W0 W m w' → Calls Try.prog 47 #[.map (some m), .pointer (some ⟨bl y.nm, 0, none⟩)] w' fun e' w2 => e' = .returned (.int .i64 (dp F rk y.nm)) ∧ Srt F rk bl W0 W m w2 from fun w' hs => (of_any h hC hK hR hk m hm0 _ y.nm y w' (Nat.lt_succ_self _) hay hs.low hs.memo).mono fun e' w2 ⟨q1, q2, q3, q4⟩ => ⟨q1, q2, q3, hs.only.trans (OnlyM.grown q4)⟩)
  have hcx := (cells_ent (h.ent x hx)).c0
  have hcy := (cells_ent (h.ent y hy)).c0
  have hlx := h.ltB hx
  have hly := h.ltB hy
  have hlb := World.block_lt_of_cell? _ _ hc
  have KEEP := Lib.hid (show ∀ w', Srt F rk bl W0 W m w' → w'.cell? ⟨bx, 0, none⟩ = some (.func (.func 47) #[.map (some m)] #[]) ∧ w'.cell? ⟨bl x.nm, 0, none⟩ = some (.string x.nm) ∧ w'.cell? ⟨bl y.nm, 0, none⟩ = some (.string y.nm) ∧ Srt F rk bl W0 W m w' from fun w' hs => ⟨by rw [World.cell?_of_block (w := W) (hs.only.block bx hlb hbm)]; exact hc, by rw [hs.low.cell (p := ⟨bl x.nm, 0, none⟩) hlx]; exact hcx, by rw [hs.low.cell (p := ⟨bl y.nm, 0, none⟩) hly]; exact hcy, hs⟩)
  have S0 := Lib.hid (show Srt F rk bl W0 W m W from ⟨hb, hM, OnlyM.refl _ _⟩)
  have eg : ∀ args w, (callFunc 47 args).run Try.prog w = .ok (.enter 47 args) w := enters_of Try.func47 (by kernel_rfl) rfl
  have hwx : W.cell? ⟨bl x.nm, 0, none⟩ = some (.string x.nm) := (KEEP.out W S0.out).2.1
  have hwy : W.cell? ⟨bl y.nm, 0, none⟩ = some (.string y.nm) := (KEEP.out W S0.out).2.2.1
  have CE := Lib.hid (show cmpE F rk x.nm y.nm = orZ (Lib.compareInt (dp F rk x.nm) (dp F rk y.nm)) (cmpB x.nm y.nm) from rfl)
  rw [CE.out]
  obtain ⟨bX, hbX⟩ : ∃ bX, bl x.nm = bX := ⟨_, rfl⟩
  obtain ⟨bY, hbY⟩ : ∃ bY, bl y.nm = bY := ⟨_, rfl⟩
  obtain ⟨dX, hdX⟩ : ∃ dX, dp F rk x.nm = dX := ⟨_, rfl⟩
  obtain ⟨dY, hdY⟩ : ∃ dY, dp F rk y.nm = dY := ⟨_, rfl⟩
  obtain ⟨nX, hnX⟩ : ∃ nX, x.nm = nX := ⟨_, rfl⟩
  obtain ⟨nY, hnY⟩ : ∃ nY, y.nm = nY := ⟨_, rfl⟩
  rw [hdX, hbX] at OFX
  rw [hdY, hbY] at OFY
  rw [hbX, hbY, hnX, hnY] at KEEP
  rw [hbX, hnX] at hwx
  rw [hbY, hnY] at hwy
  rw [hbX, hbY, hdX, hdY, hnX, hnY]
  clear h hC hK hR hk hx hy hb hM hax hay hcx hcy hlx hly hlb hbX hbY hdX hdY hnX hnY CE
  go_enter Try.func49, Try.ntmps49
  go_wp2_with fail
  go_region_held3 (fun w' => w'.cell? ⟨bx, 0, none⟩ = some (.func (.func 47) #[.map (some m)] #[]) ∧ w'.cell? ⟨bX, 0, none⟩ = some (.string nX) ∧ w'.cell? ⟨bY, 0, none⟩ = some (.string nY) ∧ Srt F rk bl W0 W m w')
    (first | (exact KEEP.out _ S0.out.drew) | (exact KEEP.out _ E2) | (go_split_ands; exact KEEP.out _ (by assumption)) | (go_split_ands; exact KEEP.out _ (Srt.alloc (by assumption) _)) | (go_split_ands; exact ⟨by assumption, by assumption, by assumption, by assumption⟩))
    (first
      | (go_at_call 47; (with_reducible refine (OFX.out _ ?_).mono ?_); (go_split_ands; assumption); rintro e w5 ⟨rfl, E2⟩)
      | (go_at_call 47; (with_reducible refine (OFY.out _ ?_).mono ?_); (go_split_ands; assumption); rintro e w5 ⟨rfl, E2⟩)
      | (go_at_call 51; refine (Try.cmp_Compare_int _ _ _).mono ?_; rintro e w' ⟨rfl, rfl⟩)
      | (go_at_call 52; refine (cmpS_any _ _ _).mono ?_; rintro e w' ⟨rfl, rfl⟩)
      | (go_at_call 50; refine (or_any (Lib.compareInt dX dY) (cmpB nX nY) _ _ ?_ ?_).mono ?_; (simp [World.cell?_alloc_at]); (simp [World.cell?_alloc_at]); rintro e w' ⟨rfl, rfl⟩))
  go_wp2
  go_ret
  exact ⟨rfl, Srt.alloc E2 _⟩
end

end Go.Proofs.Ytgbnhngaeefmkaa
