/-
  Flows: the depth of a name.
-/
import Derived.Test.YtffifhbldcjelaaGreatDoorDs06

/-! Flows: the depth of a name. -/
namespace Go.Proofs.YtffifhbldcjelaaGreatDoor
set_option linter.unusedVariables false
set_option linter.unusedSimpArgs false
open Go.RowKit

def maxL (l : List Nat) : Nat := l.foldl max 0
theorem maxL_take {l : List Nat} {k : Nat} (h : k < l.length) : maxL (l.take (k + 1)) = max (maxL (l.take k)) l[k] := by
  unfold maxL; rw [List.take_succ_eq_append_getElem h, List.foldl_append]; rfl

/-- the depth, looked at down to k levels -/
def depF (F : List En) : Nat → ByteArray → Nat
  | 0, _ => 0
  | k + 1, n => match atF F n with
    | some e => if e.node = true then maxL (e.rds.map (depF F k)) + 1 else 0
    | none => 0

def Ranked (F : List En) (rk : ByteArray → Nat) : Prop := ∀ e ∈ F, ∀ r ∈ e.rds, rk r < rk e.nm

theorem depF_stable {F : List En} {rk : ByteArray → Nat} (h : Ranked F rk) : ∀ (k : Nat) (n : ByteArray), rk n < k → depF F k n = depF F (rk n + 1) n := by
  intro k
  induction k using Nat.strongRecOn with
  | _ k ih =>
    intro n hn
    obtain ⟨k', rfl⟩ : ∃ k', k = k' + 1 := ⟨k - 1, by omega⟩
    unfold depF
    rcases he : atF F n with _ | e
    · rfl
    · obtain ⟨heF, hen⟩ := atF_some he
      simp only
      congr 2
      congr 1
      refine List.map_congr_left fun r hr => ?_
      have h1 := h e heF r hr
      rw [hen] at h1
      rw [ih k' (by omega) r (by omega)]
      by_cases h2 : rk n < k' + 1 ∧ rk n ≠ k'
      · exact (ih (rk n) (by omega) r h1).symm
      · have : rk n = k' := by omega
        rw [this, ← this]
        exact (ih (rk n) (by omega) r h1).symm

def dp (F : List En) (rk : ByteArray → Nat) (n : ByteArray) : Nat := depF F (rk n + 1) n

theorem dp_eq {F : List En} {rk : ByteArray → Nat} (h : Ranked F rk) {n : ByteArray} {e : En} (he : atF F n = some e) : dp F rk n = if e.node = true then maxL (e.rds.map (dp F rk)) + 1 else 0 := by
  obtain ⟨heF, hen⟩ := atF_some he
  unfold dp
  rw [depF, he]
  simp only
  congr 2
  congr 1
  refine List.map_congr_left fun r hr => ?_
  have h1 := h e heF r hr
  rw [hen] at h1
  exact depF_stable h (rk n) r h1

theorem maxL_le {l : List Nat} {b : Nat} (h : ∀ x ∈ l, x ≤ b) : maxL l ≤ b := by
  unfold maxL
  have key : ∀ (l : List Nat) (a : Nat), a ≤ b → (∀ x ∈ l, x ≤ b) → l.foldl max a ≤ b := by
    intro l
    induction l with
    | nil => intro a ha _; exact ha
    | cons y r ih => intro a ha hl; exact ih _ (by have := hl y (by simp); omega) (fun x hx => hl x (by simp [hx]))
  exact key l 0 (Nat.zero_le _) h

theorem depF_le (F : List En) : ∀ (k : Nat) (n : ByteArray), depF F k n ≤ k
  | 0, n => Nat.le_refl _
  | k + 1, n => by
    have key : ∀ l : List ByteArray, maxL (l.map (depF F k)) ≤ k := fun l => maxL_le (fun x hx => by obtain ⟨r, _, rfl⟩ := List.mem_map.1 hx; exact depF_le F k r)
    unfold depF
    rcases he : atF F n with _ | e
    · simp
    · simp only
      have := key e.rds
      split <;> omega
theorem dp_le (F : List En) (rk : ByteArray → Nat) (n : ByteArray) : dp F rk n ≤ rk n + 1 := depF_le F _ n

/-- the memo -/
def Memo (F : List En) (rk : ByteArray → Nat) (bl : ByteArray → Nat) (w : World) (m : Nat) : Prop :=
  ∃ L, RawMap w m L ∧ (L.map (·.1)).Nodup ∧ ∀ p ∈ L, ∃ e ∈ F, p = (ptr (bl e.nm), .int .i64 (dp F rk e.nm))

theorem zeroI (w : World) : (zeroValue 3).run Tryz.prog w = .ok (.int .i64 0) w := by kernel_rfl

section
variable {B : Nat} {W0 : World} {f M : Nat} {bl rb : ByteArray → Nat} {sl : ByteArray → Value} {F : List En} {rk : ByteArray → Nat}

theorem getV_putV (k v : Value) : ∀ (L : List (Value × Value)), getV k (putV k v L) = some v
  | [] => by simp [putV, getV]
  | p :: L => by
    unfold putV
    split
    · simp [getV]
    · rename_i hne
      unfold getV
      rw [if_neg hne]; exact getV_putV k v L

theorem mem_putV {k v : Value} {p : Value × Value} : ∀ {L : List (Value × Value)}, p ∈ putV k v L → p = (k, v) ∨ p ∈ L
  | [], h => by simp [putV] at h; exact .inl h
  | q :: L, h => by
    unfold putV at h
    split at h
    · rcases List.mem_cons.1 h with h | h
      · exact .inl h
      · exact .inr (by simp [h])
    · rcases List.mem_cons.1 h with h | h
      · exact .inr (by simp [h])
      · rcases mem_putV h with h | h
        · exact .inl h
        · exact .inr (by simp [h])

theorem putV_nodup {k v : Value} : ∀ {L : List (Value × Value)}, (L.map (·.1)).Nodup → ((putV k v L).map (·.1)).Nodup
  | [], _ => by simp [putV]
  | q :: L, h => by
    rw [List.map_cons, List.nodup_cons] at h
    unfold putV
    split
    · rename_i hq
      rw [List.map_cons, List.nodup_cons]
      exact ⟨by rw [← hq]; exact h.1, h.2⟩
    · rename_i hq
      rw [List.map_cons, List.nodup_cons]
      refine ⟨fun hm => ?_, putV_nodup h.2⟩
      obtain ⟨p, hp, hpe⟩ := List.mem_map.1 hm
      rcases mem_putV hp with hp | hp
      · rw [hp] at hpe; exact hq hpe.symm
      · exact h.1 (List.mem_map.2 ⟨p, hp, hpe⟩)

/-- what the memo says of a name -/
structure MemoAt (F : List En) (rk bl : ByteArray → Nat) (W : World) (m : Nat) (e : En) (L : List (Value × Value)) : Prop where
  map : RawMap W m L
  good : KeysGood goodP W L
  key : goodP W (.pointer (some ⟨bl e.nm, 0, none⟩))
  hit : getV (ptr (bl e.nm)) L = none ∨ getV (ptr (bl e.nm)) L = some (.int .i64 (dp F rk e.nm))
  put : ∀ W2 : World, RawMap W2 m (putV (ptr (bl e.nm)) (.int .i64 (dp F rk e.nm)) L) → Memo F rk bl W2 m

theorem Memo.at (h : Rep B W0 f M bl rb sl F) {W : World} (hb : Below W0.heap.size W0 W) {m : Nat} (hm : Memo F rk bl W m) {e : En} (he : e ∈ F) : ∃ L, MemoAt F rk bl W m e L := by
  obtain ⟨L, hL, hn, hp⟩ := hm
  have h' := h.later hb
  refine ⟨L, hL, fun p hp' => ?_, ⟨_, _, _, rfl, h'.ent e he⟩, ?_, fun W2 h2 => ⟨_, h2, putV_nodup hn, fun p hp' => ?_⟩⟩
  · obtain ⟨x, hx, rfl⟩ := hp p hp'
    exact ⟨_, _, _, rfl, h'.ent x hx⟩
  · rcases hg : getV (ptr (bl e.nm)) L with _ | v
    · exact .inl rfl
    · obtain ⟨x, hx, hpe⟩ := hp _ ((getV_mem hn).1 hg)
      injection hpe with h1 h2
      have := h.injB e he x hx (ptr_inj h1)
      rw [h2, this]; exact .inr rfl
  · rcases mem_putV hp' with q | q
    · exact ⟨e, he, q⟩
    · exact hp p q

set_option maxRecDepth 100000 in
set_option maxHeartbeats 4000000 in
theorem of_any (h : Rep B W0 f M bl rb sl F) (hC : Closed F) (hK : Ranked F rk) (hR : ∀ e ∈ F, e.rds.length ≤ 1000) (hk : ∀ e ∈ F, rk e.nm ≤ 1000) (m : Nat) (hm0 : W0.heap.size ≤ m) :
    ∀ (K : Nat) (n : ByteArray) (e : En) (W : World), rk n < K → atF F n = some e → Below W0.heap.size W0 W → Memo F rk bl W m →
      Calls Tryz.prog 31 #[.map (some m), .pointer (some ⟨bl n, 0, none⟩)] W fun e' w' => e' = .returned (.int .i64 (dp F rk n)) ∧ Below W0.heap.size W0 w' ∧ Memo F rk bl w' m ∧ W.grownBy w' (some m) := by
  intro K
  induction K with
  | zero => intro n e W hK; omega
  | succ K ih =>
    intro n e W hrk he hb hM
    obtain ⟨heF, hen⟩ := atF_some he
    obtain ⟨L, hat⟩ := Memo.at h hb hM heF
    obtain ⟨c0, c1, c2, c3, c4, c5, fz⟩ := (h.later hb).cells he
    have hdp := dp_eq hK he
    have hdb := dp_le F rk n
    have hkn := hk e heF
    rw [hen] at hkn
    have hlook := hat.map.lookup keyP Tryz.underlying87 hat.good hat.key (zeroI W) true
    rw [hen] at hlook
    obtain ⟨D, hD⟩ : ∃ D, dp F rk n = D := ⟨_, rfl⟩
    rcases hat.hit with hit | hit
    · rw [hen] at hit
      unfold ptr at hit
      rw [hit] at hlook
      simp only [if_true, Option.getD_none, Option.isSome_none] at hlook
      rcases hnd : e.node with _ | _
      · rw [hnd] at c2 hdp
        simp only [Bool.false_eq_true, if_false] at hdp
        rw [hdp]
        have HB := Lib.hid hb
        have HM := Lib.hid hM
        clear hat hdp hD hit he h ih hb hM hnd
        go_enter Tryz.func31, Tryz.ntmps31
        go_wp2_with fail
        go_ret
        exact ⟨rfl, HB.out, HM.out, World.grownBy.refl _ _⟩
      · rw [hnd] at c2 hdp
        simp only [if_true] at hdp
        obtain ⟨oo, oc, hso, _, _⟩ := (h.later hb).row e heF
        rw [List.length_map, hen] at hso
        have hrow := h.row e heF
        rw [hen, hso] at hrow
        rw [hso] at c4
        have hr1 := hR e heF
        obtain ⟨q, hq⟩ : ∃ q, e.rds.length = q := ⟨_, rfl⟩
        rw [hq] at hr1 c4 hrow
        have HQ := Lib.hid hq
        have ROW := Lib.hid hrow
        have H := Lib.hid h
        have HB := Lib.hid hb
        have HM := Lib.hid hM
        have HDP := Lib.hid hdp
        have HD := Lib.hid hD
        have HE := Lib.hid heF
        have HEN := Lib.hid hen
        have HCE := Lib.hid (fun r hr => hC e heF r hr)
        have HKE := Lib.hid (fun r hr => hK e heF r hr)
        have IH := Lib.hid ih
        have HMX := Lib.hid (show ∀ j, maxL ((e.rds.map (dp F rk)).take j) ≤ 1000 from fun j => maxL_le (fun x hx => by
          obtain ⟨r, hr, rfl⟩ := List.mem_map.1 (List.mem_of_mem_take hx)
          have h1 := dp_le F rk r
          have h2 := hK e heF r hr
          rw [hen] at h2
          omega))
        clear hat hdp hD hit he h ih hb hM hnd hso hrow hq heF hen fz c0 c1 c3 c5
        go_enter Tryz.func31, Tryz.ntmps31
        go_wp2_with fail
        go_loopw [7, 30] (fun v i wr => ∃ j : Nat, j ≤ q ∧ i = .int .i64 j ∧ v = .int .i64 (maxL ((e.rds.map (dp F rk)).take j)) ∧ Below W0.heap.size W0 wr ∧ Memo F rk bl wr m ∧ W.grownBy wr (some m)) (fun _ i _ => q - (intOf i).toNat)
        case atStart => exact ⟨0, Nat.zero_le _, rfl, rfl, HB.out, HM.out, World.grownBy.refl _ _⟩
        case round =>
          obtain ⟨j, hj, rfl, rfl, hb2, hm2, hg2⟩ := hrel
          have HB2 := Lib.hid hb2
          have HM2 := Lib.hid hm2
          have HG2 := Lib.hid hg2
          have mxj := HMX.out j
          clear hb2 hm2 hg2
          by_cases hlt : j < q
          · have hje : j < e.rds.length := by rw [HQ.out]; exact hlt
            obtain ⟨b0, off, rfl, hce⟩ := ROW.out.at (i := j) (p := bl e.rds[j]) (by rw [List.getElem?_map, List.getElem?_eq_getElem hje]; rfl)
            have hlb := World.block_lt_of_cell? _ _ hce
            have e1 : wr.cell? ⟨b0, off + j, none⟩ = some (.pointer (some ⟨bl e.rds[j], 0, none⟩)) := by rw [HB2.out.cell (p := ⟨b0, off + j, none⟩) hlb]; exact hce
            obtain ⟨d, hd, hdn⟩ := HCE.out e.rds[j] (List.getElem_mem hje)
            have had : atF F e.rds[j] = some d := by rw [← hdn]; exact atF_mem H.out.srt hd
            have hrr := HKE.out e.rds[j] (List.getElem_mem hje)
            rw [HEN.out] at hrr
            have CL := Lib.hid (IH.out e.rds[j] d wr (by omega) had HB2.out HM2.out)
            have MT := Lib.hid (maxL_take (l := e.rds.map (dp F rk)) (k := j) (by simpa using hje))
            have hdr := dp_le F rk e.rds[j]
            simp only [List.getElem_map] at MT
            obtain ⟨x, hx⟩ : ∃ x, e.rds[j] = x := ⟨_, rfl⟩
            rw [hx] at e1 CL MT hdr hrr
            obtain ⟨bx, hbx⟩ : ∃ bx, bl x = bx := ⟨_, rfl⟩
            rw [hbx] at e1 CL
            obtain ⟨dx, hdx⟩ : ∃ dx, dp F rk x = dx := ⟨_, rfl⟩
            rw [hdx] at CL MT hdr
            obtain ⟨mx, hmx⟩ : ∃ mx, maxL ((e.rds.map (dp F rk)).take j) = mx := ⟨_, rfl⟩
            rw [hmx] at MT mxj ⊢
            have k0 : (0 : Int) ≤ (j : Int) := by omega
            have k1 : (j : Int) < (q : Int) := by omega
            clear hce hlb hdn hd had hx hbx hdx hmx
            go_wp2_with (go_at_call 31; refine CL.out.mono ?_; rintro e' w3 ⟨rfl, hb3, hm3, hg3⟩; have B3 := Lib.hid hb3; have M3 := Lib.hid hm3; have G3 := Lib.hid hg3; clear hb3 hm3 hg3)
            go_roundw
            case rel => exact ⟨j + 1, by omega, by go_num, by rw [MT.out]; go_num, B3.out, M3.out, HG2.out.trans G3.out⟩
            case measure => simp [intOf]; omega
          · have hjq : j = q := by omega
            obtain ⟨L2, hat2⟩ := Memo.at H.out HB2.out HM2.out HE.out
            have hmax : maxL ((e.rds.map (dp F rk)).take j) + 1 = D := by
              rw [hjq, ← HQ.out, List.take_of_length_le (by simp), ← HDP.out]; exact HD.out
            obtain ⟨mx, hmx⟩ : ∃ mx, maxL ((e.rds.map (dp F rk)).take j) = mx := ⟨_, rfl⟩
            rw [hmx] at mxj hmax ⊢
            have hg2 := hat2.good
            have hk2 := hat2.key
            have hp2 := hat2.put
            rw [HEN.out] at hk2 hp2
            rw [HD.out] at hp2
            unfold ptr at hp2
            have HAT := Lib.hid hat2.map
            have HGD := Lib.hid hg2
            have HKY := Lib.hid hk2
            have FIN := Lib.hid (show ∀ ob, RawMap (wr.putObj m ob) m (putV (.pointer (some ⟨bl n, 0, none⟩)) (.int .i64 ((mx : Int) + 1)) L2) → Below W0.heap.size W0 (wr.putObj m ob) ∧ Memo F rk bl (wr.putObj m ob) m ∧ W.grownBy (wr.putObj m ob) (some m) ∧ (Instr.lookup 87 (.map (some m)) (.pointer (some ⟨bl n, 0, none⟩)) false).run Tryz.prog (wr.putObj m ob) = .ok (.int .i64 ((mx : Int) + 1)) (wr.putObj m ob) from fun ob hob => by
              have e3 : (mx : Int) + 1 = ((D : Nat) : Int) := by omega
              have hlt4 : ∀ k, k < W0.heap.size → (wr.putObj m ob).heap[k]? = wr.heap[k]? := fun k hk => World.putObj_heap_other (by omega)
              have hb4 : Below W0.heap.size W0 (wr.putObj m ob) := ⟨HB2.out.os, HB2.out.tape, HB2.out.output, by rw [World.putObj_size]; exact HB2.out.size, fun k hk => (hlt4 k hk).trans (HB2.out.block k hk)⟩
              have hm4 : Memo F rk bl (wr.putObj m ob) m := hp2 _ (by rw [← e3]; exact hob)
              have hg4 : W.grownBy (wr.putObj m ob) (some m) := HG2.out.trans ⟨rfl, rfl, rfl, by rw [World.putObj_size]; exact Nat.le_refl _, fun k hk hne => World.putObj_heap_other (fun e4 => hne (by rw [e4]))⟩
              refine ⟨hb4, hm4, hg4, ?_⟩
              have hgood : KeysGood goodP (wr.putObj m ob) (putV (.pointer (some ⟨bl n, 0, none⟩)) (.int .i64 ((mx : Int) + 1)) L2) := fun p hp => by
                obtain ⟨b', cs, t, hx, hbk⟩ : goodP wr p.1 := by
                  rcases mem_putV hp with q' | q'
                  · rw [q']; exact HKY.out
                  · exact HGD.out p q'
                refine ⟨b', cs, t, hx, ?_⟩
                rw [World.putObj_heap_other (fun e4 => by
                  obtain ⟨es, c, q1, _⟩ := HAT.out
                  rw [e4, q1] at hbk; cases hbk)]
                exact hbk
              have hkey : goodP (wr.putObj m ob) (.pointer (some ⟨bl n, 0, none⟩)) := by
                obtain ⟨b', cs, t, hx, hbk⟩ := HKY.out
                refine ⟨b', cs, t, hx, ?_⟩
                rw [World.putObj_heap_other (fun e4 => by
                  obtain ⟨es, c, q1, _⟩ := HAT.out
                  rw [e4, q1] at hbk; cases hbk)]
                exact hbk
              rw [hob.lookup keyP Tryz.underlying87 hgood hkey (zeroI _) false, getV_putV]
              rfl)
            have HDD := Lib.hid hmax
            clear hjq hat2 hmx hmax hg2 hk2 hp2
            go_wp2_with (refine wpList_mapUpdate_raw _ rfl (.tmp 40) (.tmp 41) (.tmp 43) 87 (by rfl) 53 3 Tryz.underlying87 keyP m L2 (by rfl) HAT.out HGD.out (.pointer (some ⟨bl n, 0, none⟩)) (.int .i64 ((mx : Int) + 1)) (by rfl) (by rfl) HKY.out ?_; intro ob hob; have FF := Lib.hid (FIN.out ob hob); have hl4 := (FIN.out ob hob).2.2.2; clear hob)
            go_ret
            rw [HD.out, ← HDD.out]
            exact ⟨by go_num, FF.out.1, FF.out.2.1, FF.out.2.2.1⟩
    · rw [hen] at hit
      unfold ptr at hit
      rw [hit] at hlook
      simp only [if_true, Option.getD_some, Option.isSome_some] at hlook
      rw [hD] at hlook ⊢
      have HB := Lib.hid hb
      have HM := Lib.hid hM
      clear hat hdp hD hit he h ih hb hM
      go_enter Tryz.func31, Tryz.ntmps31
      go_wp2_with fail
      go_ret
      exact ⟨rfl, HB.out, HM.out, World.grownBy.refl _ _⟩
end

end Go.Proofs.YtffifhbldcjelaaGreatDoor
