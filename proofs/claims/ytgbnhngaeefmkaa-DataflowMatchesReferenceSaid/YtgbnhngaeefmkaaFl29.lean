import Derived.Test.YtgbnhngaeefmkaaFl28
import Derived.BigRegion

/-! Flows: Put, walked. -/
namespace Go.Proofs.Ytgbnhngaeefmkaa
set_option linter.unusedVariables false
set_option linter.unusedSimpArgs false
open Go.RowKit

theorem resOk_in {F : List En} {n : ByteArray} {l : List ByteArray} (h : resOk F n l = true) : ∀ r ∈ l, ∃ d ∈ F, d.nm = r := fun r hr => by
  obtain ⟨d, hd, _⟩ := rdOk_in (resOk_mem h hr)
  exact ⟨d, atF_some hd⟩

section
variable {B : Nat} {W : World} {f M : Nat} {bl rb : ByteArray → Nat} {sl : ByteArray → Value} {F : List En}

theorem Rep.drew (h : Rep B W f M bl rb sl F) : Rep B W.drew f M bl rb sl F := h.kept (fun k _ => rfl)
theorem Mv.same {X Y Z : World} (h : Mv B X Y) (h2 : Below Y.heap.size Y Z) : Mv B X Z := h.trans (Mv.of_below h2)

set_option maxRecDepth 100000 in
set_option maxHeartbeats 4000000 in
theorem put_any (h : Rep B W f M bl rb sl F) (hB : B ≤ W.heap.size) (hG : Good F) (hF : F.length ≤ 999) (n v : ByteArray) (ao : Option Addr) (ln cap : Nat) (l : List ByteArray) (hln : l.length = ln) (hn : ln ≤ 1000) (hrow : RowK 1 encT W ao l) :
    Calls Try.prog 17 #[.pointer (some ⟨f, 0, none⟩), .agg #[.string n, .slice ao ln cap], .string v] W (StP B W f M (putF F n l v) (if putOk F n l = true then 0 else 200)) := by
  have hsl : (sortU l).length ≤ 1000 := by
    have h1 : (sortU l).length ≤ l.length := by rw [← compact_sortU, List.length_map]; exact Nat.le_trans (Lib.compact_length_le _) (by rw [sortedL_len]; exact Nat.le_refl _)
    omega
  obtain ⟨W1, hW1⟩ : ∃ W1 : World, W.alloc (.cells #[.string n, .slice ao ln cap] 30) = W1 := ⟨_, rfl⟩
  have hb0 : W1.heap[W.heap.size]? = some (.cells #[.string n, .slice ao ln cap] 30 (0, 0)) := by rw [← hW1]; exact World.alloc_heap_new W _
  have hB1 : Below W.heap.size W W1 := by rw [← hW1]; exact (Below.refl _ W).alloc (Nat.le_refl _) _
  have hn0 : W1.cell? ⟨W.heap.size, 0, none⟩ = some (.string n) := cell_blk hb0 rfl
  have hn1 : W1.cell? ⟨W.heap.size, 1, none⟩ = some (.slice ao ln cap) := cell_blk hb0 rfl
  have hc := (h.later hB1).cellM
  have hr2 := (h.later hB1).drew
  have hB2 : Below W.heap.size W W1.drew := hB1.drew
  have hBs : B ≤ W1.drew.heap.size := Nat.le_trans hB hB2.size
  have H2 := Lib.hid hr2
  have M2 := Lib.hid (Mv.of_below (B := B) hB2)
  have RM := Lib.hid (room_any hr2 (by omega))
  have RS := Lib.hid (resolve_any hr2 hG (by omega) n ao ln cap l hln hn (hrow.later hB2))
  rcases he : atF F n with _ | e
  · have hl := hr2.look_miss he true
    rcases hne : n.toList.isEmpty with _ | _
    · have hn2 : (n.toList == []) = false := by rcases hh : n.toList with _ | ⟨a, r⟩ <;> simp_all
      have hok : putOk F n l = resOk F n (sortU l) := by unfold putOk; rw [hne, he, resOk_sort]; rfl
      rcases hf : resOk F n (sortU l) with _ | _
      · rw [hf] at hok
        have hok2 : ¬ putOk F n l = true := by rw [hok]; simp
        have hsf : putF F n l v = F := by unfold putF; rw [if_neg hok2]
        rw [if_neg hok2, hsf]
        have RSF := Lib.hid (RS.out.mono (R' := fun e w' => e = .returned (.tuple #[.slice none 0 0, .bool false]) ∧ Below W1.drew.heap.size W1.drew w') fun e w' ⟨hb, hor⟩ => by
          rcases hor with ⟨h1, _⟩ | ⟨_, h2⟩
          · rw [hf] at h1; cases h1
          · exact ⟨h2, hb⟩)
        clear h he hok hok2 hsf hf hG hrow hB1 hB2 hr2 hb0 hBs hB hln hne RS
        go_enter Try.func17, Try.ntmps17
        go_wp2
        go_region
        go_wp2_with (first
          | (go_at_call 35; refine RM.out.mono ?_; rintro e w' ⟨rfl, rfl⟩)
          | (go_at_call 43; refine RSF.out.mono ?_; rintro e w3 ⟨rfl, hb3⟩; have HB3 := Lib.hid hb3; clear hb3))
        go_ret
        exact ⟨_, _, _, rfl, H2.out.later HB3.out, M2.out.same HB3.out⟩
      · rw [hf] at hok
        have hsf : putF F n l v = insF ⟨n, v, true, false, sortU l⟩ F := by unfold putF; rw [if_pos hok, he]
        rw [if_pos hok, hsf]
        have RST := Lib.hid (RS.out.mono (R' := fun e w' => ∃ ao' cap', e = .returned (.tuple #[.slice ao' (sortU l).length cap', .bool true]) ∧ Below W1.drew.heap.size W1.drew w' ∧ RowP w' (.slice ao' (sortU l).length cap') ((sortU l).map bl)) fun e w' ⟨hb, hor⟩ => by
          rcases hor with ⟨_, ao', cap', h2, h3⟩ | ⟨h1, _⟩
          · exact ⟨ao', cap', h2, hb, h3⟩
          · rw [hf] at h1; cases h1)
        have NEW := Lib.hid (fun (w' : World) (hb : Below W1.drew.heap.size W1.drew w') (ao' : Option Addr) (cap' : Nat) (hrw : RowP w' (.slice ao' (sortU l).length cap') ((sortU l).map bl)) => put_new (v := v) (H2.out.later hb) (Nat.le_trans hBs hb.size) hG hF he l (resOk_in hf) hsl ao' cap' hrw)
        have FIN := Lib.hid (show ∀ w' w2 bl' rb' sl', Below W1.drew.heap.size W1.drew w' → Rep B w2 f M bl' rb' sl' (insF ⟨n, v, true, false, sortU l⟩ F) → Mv B w' w2 → StP B W f M (insF ⟨n, v, true, false, sortU l⟩ F) 0 (.returned (.int .i64 0)) w2 from fun w' w2 bl' rb' sl' hb h1 h2 => ⟨_, _, _, rfl, h1, (M2.out.same hb).trans h2⟩)
        have KC := Lib.hid (show ∀ w', Below W1.drew.heap.size W1.drew w' → w'.cell? ⟨W.heap.size, 0, none⟩ = some (.string n) from fun w' hb => by rw [hb.cell (p := ⟨W.heap.size, 0, none⟩) (lt_of_blk hb0)]; exact hn0)
        obtain ⟨q, hq⟩ : ∃ q, (sortU l).length = q := ⟨_, rfl⟩
        rw [hq] at RST NEW
        clear h he hok hsf hf hG hrow hB1 hB2 hr2 hb0 hBs hB hln hne RS hq
        go_enter Try.func17, Try.ntmps17
        go_wp2
        go_region
        go_wp2_with (first
          | (go_at_call 35; refine RM.out.mono ?_; rintro e w' ⟨rfl, rfl⟩)
          | (go_at_call 43; refine RST.out.mono ?_; rintro e w3 ⟨ao', cap', rfl, hb3, hrw⟩; have HB3 := Lib.hid hb3; have hk3 := KC.out w3 hb3; have AD := Lib.hid (NEW.out w3 hb3 ao' cap' hrw); clear hb3 hrw)
          | (go_at_call 37; refine AD.out.mono ?_; rintro e w4 ⟨b4, rfl, hc4, hf4, hrd⟩; have RD := Lib.hid hrd; clear hrd)
          | (go_at_call 41; refine RD.out.mono ?_; rintro e w5 ⟨rfl, hc5, hf5, hch⟩; have CH := Lib.hid hch; clear hch)
          | (go_at_call 36; refine CH.out.mono ?_; rintro e w6 ⟨rfl, hr6⟩; have R6 := Lib.hid hr6; clear hr6))
        go_ret
        obtain ⟨bl', rb', sl', h1, h2⟩ := R6.out
        exact FIN.out w3 w6 bl' rb' sl' HB3.out h1 h2
    · have hn2 : (n.toList == []) = true := by rcases hh : n.toList with _ | ⟨a, r⟩ <;> simp_all
      have hok : ¬ putOk F n l = true := by unfold putOk; rw [hne]; simp
      have hsf : putF F n l v = F := by unfold putF; rw [if_neg hok]
      rw [if_neg hok, hsf]
      clear h he hok hsf hG hrow hB1 hB2 hr2 hb0 hBs hB hln hne RM RS
      go_enter Try.func17, Try.ntmps17
      go_wp2
      go_region
      go_wp2
      go_ret
      exact ⟨_, _, _, rfl, H2.out, M2.out⟩
  · have hl := hr2.look_hit he true
    obtain ⟨c0, c1, c2, c3, c4, c5, fz⟩ := hr2.cells he
    rcases hne : n.toList.isEmpty with _ | _
    · have hn2 : (n.toList == []) = false := by rcases hh : n.toList with _ | ⟨a, r⟩ <;> simp_all
      rcases hnd : e.node with _ | _
      · have hok : ¬ putOk F n l = true := by unfold putOk; rw [hne, he]; simp [hnd]
        have hsf : putF F n l v = F := by unfold putF; rw [if_neg hok]
        rw [if_neg hok, hsf]
        rw [hnd] at c2
        clear h he hok hsf hG hrow hB1 hB2 hr2 hb0 hBs hB hln hne RM RS c0 c1 c3 c4 c5 fz hnd
        go_enter Try.func17, Try.ntmps17
        go_wp2
        go_region
        go_wp2
        go_ret
        exact ⟨_, _, _, rfl, H2.out, M2.out⟩
      · have hok : putOk F n l = resOk F n (sortU l) := by unfold putOk; rw [hne, he, resOk_sort]; simp [hnd]
        rw [hnd] at c2
        rcases hf : resOk F n (sortU l) with _ | _
        · rw [hf] at hok
          have hok2 : ¬ putOk F n l = true := by rw [hok]; simp
          have hsf : putF F n l v = F := by unfold putF; rw [if_neg hok2]
          rw [if_neg hok2, hsf]
          have RSF := Lib.hid (RS.out.mono (R' := fun e w' => e = .returned (.tuple #[.slice none 0 0, .bool false]) ∧ Below W1.drew.heap.size W1.drew w') fun e w' ⟨hb, hor⟩ => by
            rcases hor with ⟨h1, _⟩ | ⟨_, h2⟩
            · rw [hf] at h1; cases h1
            · exact ⟨h2, hb⟩)
          clear h he hok hok2 hsf hf hG hrow hB1 hB2 hr2 hb0 hBs hB hln hne RS c0 c1 c3 c4 c5 fz hnd RM
          go_enter Try.func17, Try.ntmps17
          go_wp2
          go_region
          go_wp2_with (go_at_call 43; refine RSF.out.mono ?_; rintro e w3 ⟨rfl, hb3⟩; have HB3 := Lib.hid hb3; clear hb3)
          go_ret
          exact ⟨_, _, _, rfl, H2.out.later HB3.out, M2.out.same HB3.out⟩
        · rw [hf] at hok
          have hsf : putF F n l v = chgF (updF F n fun e => { e with rds := sortU l, stale := false }) n v := by unfold putF; rw [if_pos hok, he]
          rw [if_pos hok, hsf]
          have RST := Lib.hid (RS.out.mono (R' := fun e w' => ∃ ao' cap', e = .returned (.tuple #[.slice ao' (sortU l).length cap', .bool true]) ∧ Below W1.drew.heap.size W1.drew w' ∧ RowP w' (.slice ao' (sortU l).length cap') ((sortU l).map bl)) fun e w' ⟨hb, hor⟩ => by
            rcases hor with ⟨_, ao', cap', h2, h3⟩ | ⟨h1, _⟩
            · exact ⟨ao', cap', h2, hb, h3⟩
            · rw [hf] at h1; cases h1)
          have NEW := Lib.hid (fun (w' : World) (hb : Below W1.drew.heap.size W1.drew w') (ao' : Option Addr) (cap' : Nat) (hrw : RowP w' (.slice ao' (sortU l).length cap') ((sortU l).map bl)) => put_known (v := v) (H2.out.later hb) hG (by omega) he l (resOk_in hf) hsl ao' cap' hrw)
          have FIN := Lib.hid (show ∀ w' w2 sl', Below W1.drew.heap.size W1.drew w' → Rep B w2 f M bl rb sl' (chgF (updF F n fun e => { e with rds := sortU l, stale := false }) n v) → Mv B w' w2 → StP B W f M (chgF (updF F n fun e => { e with rds := sortU l, stale := false }) n v) 0 (.returned (.int .i64 0)) w2 from fun w' w2 sl' hb h1 h2 => ⟨_, _, _, rfl, h1, (M2.out.same hb).trans h2⟩)
          obtain ⟨q, hq⟩ : ∃ q, (sortU l).length = q := ⟨_, rfl⟩
          rw [hq] at RST NEW
          clear h he hok hsf hf hG hrow hB1 hB2 hr2 hb0 hBs hB hln hne RS hq c0 c1 c3 c4 c5 fz hnd RM
          go_enter Try.func17, Try.ntmps17
          go_wp2
          go_region
          go_wp2_with (first
            | (go_at_call 43; refine RST.out.mono ?_; rintro e w3 ⟨ao', cap', rfl, hb3, hrw⟩; have HB3 := Lib.hid hb3; have RD := Lib.hid (NEW.out w3 hb3 ao' cap' hrw); clear hb3 hrw)
            | (go_at_call 41; refine RD.out.mono ?_; rintro e w5 ⟨rfl, hm5, hc5, hf5, hch⟩; have CH := Lib.hid hch; clear hch)
            | (go_at_call 36; refine CH.out.mono ?_; rintro e w6 ⟨rfl, hr6⟩; have R6 := Lib.hid hr6; clear hr6))
          go_ret
          obtain ⟨sl', h1, h2⟩ := R6.out
          exact FIN.out w3 w6 sl' HB3.out h1 h2
    · have hn2 : (n.toList == []) = true := by rcases hh : n.toList with _ | ⟨a, r⟩ <;> simp_all
      have hok : ¬ putOk F n l = true := by unfold putOk; rw [hne]; simp
      have hsf : putF F n l v = F := by unfold putF; rw [if_neg hok]
      rw [if_neg hok, hsf]
      clear h he hok hsf hG hrow hB1 hB2 hr2 hb0 hBs hB hln hne RM RS c0 c1 c2 c3 c4 c5 fz
      go_enter Try.func17, Try.ntmps17
      go_wp2
      go_region
      go_wp2
      go_ret
      exact ⟨_, _, _, rfl, H2.out, M2.out⟩
end

end Go.Proofs.Ytgbnhngaeefmkaa
