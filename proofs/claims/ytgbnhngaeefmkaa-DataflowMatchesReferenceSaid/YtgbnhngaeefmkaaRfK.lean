import Derived.Test.YtgbnhngaeefmkaaRf
import Derived.Test.YtgbnhngaeefmkaaRfM
import Derived.Deep.RegionLaw

/-! The reference: the walk of Stale. -/
namespace Go.Proofs.Ytgbnhngaeefmkaa
set_option linter.unusedVariables false
set_option linter.unusedSimpArgs false
open Go.RowKit

theorem own_some {w : World} {base e n xc : Nat} {xo : Option Addr} {xs : List Value} (h : w.ownsRow base e 1 (.slice xo n xc) n xs) (hn : 0 < n) : ∃ g, xo = some ⟨g, 0, none⟩ ∧ n ≤ xc := by
  obtain ⟨_, ⟨_, h2⟩ | ⟨g, cap, cur, h2, _, _, h5, _⟩⟩ := h
  · omega
  · cases h2; exact ⟨g, rfl, h5⟩
theorem Two.down {W0 W w : World} {vN vR : Value} {a b : Nat} {l1 : List ByteArray} {l2 : List Nat} (h : Two W vN a l1 vR b l2 w) (hb : Below W0.heap.size W0 W) : Two W0 vN a l1 vR b l2 w :=
  ⟨ownsRow_base h.s hb.size, ownsRow_base h.d hb.size, hb.trans (h.low.mono hb.size)⟩

section
variable {W w : World} {ops : Array Oper} {o : Oper} {a : Act} {K : Act → World → Prop} {Q : Exit → Act → World → Prop} {E : Prop} {vN vR : Value} {n b : Nat} {l1 : List ByteArray} {l2 : List Nat}
theorem step_twoS (hg : o.guard = none) (s x : Operand) (ho : o.op = .call { callee := .builtin .append, args := #[s, x], argTypes := #[28, 28] }) {m c q : Nat} {ad : Addr} {M : List ByteArray} (hs : a.eval s = vN) (T : Two W vN n l1 vR b l2 w) (hx : a.eval x = .slice (some ad) m c) (hm : M.length = m) (hq : n + m = q) (hq5 : q ≤ 100000) (hc : ∀ j u, (M.flatMap encT)[j]? = some u → w.cell? (ad.add j) = some u)
    (hk : ∀ xo xc w', Two W (.slice xo q xc) q (l1 ++ M) vR b l2 w' → K (a.put o.dst (.slice xo q xc)) w') : if Region.wanted o (yielded ops a.tmps) = true then Oper.wp Try.prog o a w K Q else E := by
  rw [if_pos (by simp [Region.wanted, hg])]
  exact wp_twoS s x ho hs T hx hm hq hq5 hc hk
theorem step_twoD (hg : o.guard = none) (s x : Operand) (ho : o.op = .call { callee := .builtin .append, args := #[s, x], argTypes := #[32, 32] }) {m c q : Nat} {ad : Addr} {M : List Nat} (hs : a.eval s = vR) (T : Two W vN n l1 vR b l2 w) (hx : a.eval x = .slice (some ad) m c) (hm : M.length = m) (hq : b + m = q) (hq5 : q ≤ 100000) (hc : ∀ j u, (M.flatMap encZ)[j]? = some u → w.cell? (ad.add j) = some u)
    (hk : ∀ xo xc w', Two W vN n l1 (.slice xo q xc) q (l2 ++ M) w' → K (a.put o.dst (.slice xo q xc)) w') : if Region.wanted o (yielded ops a.tmps) = true then Oper.wp Try.prog o a w K Q else E := by
  rw [if_pos (by simp [Region.wanted, hg])]
  exact wp_twoD s x ho hs T hx hm hq hq5 hc hk
theorem step_appZ (hg : o.guard = none) (s x : Operand) (t e : TypeId) (ho : o.op = .call { callee := .builtin .append, args := #[s, x], argTypes := #[t, t] }) (ht : Try.prog.underlying t = some (.slice e)) (hi : ∃ i, Try.prog.info? e = some i) {base k : Nat} {v : Value} {xs : List Value} (hs : a.eval s = v) (hown : w.ownsRow base e k v n xs) (hx : a.eval x = .slice none 0 0) (hk : K (a.put o.dst v) w) : if Region.wanted o (yielded ops a.tmps) = true then Oper.wp Try.prog o a w K Q else E := by
  rw [if_pos (by simp [Region.wanted, hg])]
  exact wp_appZ s x t e ho ht hi hs hown hx hk

theorem list_twoS {rest : List Oper} (hgd : o.guard = none) (s x : Operand) (ho : o.op = .call { callee := .builtin .append, args := #[s, x], argTypes := #[28, 28] }) {m c q : Nat} {ad : Addr} {M : List ByteArray} (hs : a.eval s = vN) (T : Two W vN n l1 vR b l2 w) (hx : a.eval x = .slice (some ad) m c) (hm : M.length = m) (hq : n + m = q) (hq5 : q ≤ 100000) (hc : ∀ j u, (M.flatMap encT)[j]? = some u → w.cell? (ad.add j) = some u)
    (hk : ∀ xo xc w', Two W (.slice xo q xc) q (l1 ++ M) vR b l2 w' → wpList Try.prog ops Q rest (a.put o.dst (.slice xo q xc)) w') : wpList Try.prog ops Q (o :: rest) a w :=
  wpList_plain hgd fun _ hK => wp_twoS s x ho hs T hx hm hq hq5 hc fun xo xc w' h => hK _ _ (hk xo xc w' h)
theorem list_twoD {rest : List Oper} (hgd : o.guard = none) (s x : Operand) (ho : o.op = .call { callee := .builtin .append, args := #[s, x], argTypes := #[32, 32] }) {m c q : Nat} {ad : Addr} {M : List Nat} (hs : a.eval s = vR) (T : Two W vN n l1 vR b l2 w) (hx : a.eval x = .slice (some ad) m c) (hm : M.length = m) (hq : b + m = q) (hq5 : q ≤ 100000) (hc : ∀ j u, (M.flatMap encZ)[j]? = some u → w.cell? (ad.add j) = some u)
    (hk : ∀ xo xc w', Two W vN n l1 (.slice xo q xc) q (l2 ++ M) w' → wpList Try.prog ops Q rest (a.put o.dst (.slice xo q xc)) w') : wpList Try.prog ops Q (o :: rest) a w :=
  wpList_plain hgd fun _ hK => wp_twoD s x ho hs T hx hm hq hq5 hc fun xo xc w' h => hK _ _ (hk xo xc w' h)
theorem list_appZ {rest : List Oper} (hgd : o.guard = none) (s x : Operand) (t e : TypeId) (ho : o.op = .call { callee := .builtin .append, args := #[s, x], argTypes := #[t, t] }) (ht : Try.prog.underlying t = some (.slice e)) (hi : ∃ i, Try.prog.info? e = some i) {base k : Nat} {v : Value} {xs : List Value} (hs : a.eval s = v) (hown : w.ownsRow base e k v n xs) (hx : a.eval x = .slice none 0 0) (hk : wpList Try.prog ops Q rest (a.put o.dst v) w) : wpList Try.prog ops Q (o :: rest) a w :=
  wpList_plain hgd fun _ hK => wp_appZ s x t e ho ht hi hs hown hx (hK _ _ hk)
end

theorem one_S (w : World) (nx : ByteArray) : ∀ j u, (([nx] : List ByteArray).flatMap encT)[j]? = some u → (w.alloc (.cells #[.string nx] 9)).cell? ((⟨w.heap.size, 0, none⟩ : Addr).add j) = some u := fun j u hu => cells_at w (encT nx) 9 w.heap.size rfl j u (by simpa using hu)
theorem one_D (w : World) (d : Nat) : ∀ j u, (([d] : List Nat).flatMap encZ)[j]? = some u → (w.alloc (.cells #[.int .i64 (d : Int)] 3)).cell? ((⟨w.heap.size, 0, none⟩ : Addr).add j) = some u := fun j u hu => cells_at w (encZ d) 3 w.heap.size rfl j u (by simpa using hu)

section
variable {B : Nat} {w : World} {r : Nat} {v : Value} {L : List REn}

def StaE (w : World) (l : List ByteArray) (m : Nat) (e : Ending) (w' : World) : Prop := ∃ xo xc, e = .returned (.slice xo m xc) ∧ RowO w.heap.size (.slice xo m xc) m l w' ∧ Below w.heap.size w w'

set_option maxRecDepth 100000 in
set_option maxHeartbeats 8000000 in
theorem rstale_any (h : RefR B w r v L) (hG : Good (L.map (·.e))) (hn : L.length ≤ 900) {m0 : Nat} (hm0 : (staleF (L.map (·.e))).length = m0) :
    Calls Try.prog 22 #[.pointer (some ⟨r, 0, none⟩)] w (StaE w (staleF (L.map (·.e))) m0) := by
  obtain ⟨rk, hrk, hrl⟩ := hG.rank
  obtain ⟨vo, vc, rfl, _⟩ := h.sl
  obtain ⟨n, hnl⟩ : ∃ n, L.length = n := ⟨_, rfl⟩
  rw [hnl] at h hn
  have H0 := Lib.hid h
  have HN := Lib.hid hnl
  have HG := Lib.hid hG
  have DEP := Lib.hid (fun (w' : World) (hb : Below w.heap.size w w') a => rdepth_any (h.later hb) hG (by rw [hnl]; omega) hrk (fun x => by have := hrl x; rw [List.length_map, hnl] at this; omega) (rk a + 1) a (Nat.lt_succ_self _))
  have DD := Lib.hid (fun x => hG.depth hrk hrl x)
  have DLE := Lib.hid (show ∀ x, depth (L.map (·.e)) x ≤ 1000 from fun x => by
    rw [← hG.depth hrk hrl x]
    have h1 := dp_le (L.map (·.e)) rk x
    have h2 := hrl x
    rw [List.length_map, hnl] at h2; omega)
  have HM0 := Lib.hid hm0
  clear h hnl hG hrk hrl hm0
  go_enter Try.func22, Try.ntmps22
  go_wp2
  go_loopw [3, 4, 5] (fun o dd i wr => ∃ (q m : Nat) (out : List ByteArray) (xo yo : Option Addr) (xc yc : Nat), q ≤ n ∧ i = .int .i64 (q : Int) ∧ o = .slice xo m xc ∧ dd = .slice yo m yc ∧ out.length = m ∧ StaleI (L.map (·.e)) q out ∧ Two w (.slice xo m xc) m out (.slice yo m yc) m (out.map (depth (L.map (·.e)))) wr ∧ (m = 0 → xo = none ∧ xc = 0 ∧ yo = none ∧ yc = 0)) (fun _ _ i _ => n - (intOf i).toNat)
  case atStart => exact ⟨0, 0, [], none, none, 0, 0, Nat.zero_le _, rfl, rfl, rfl, rfl, StaleI.zero _, Two.new w, fun _ => ⟨rfl, rfl, rfl, rfl⟩⟩
  case round =>
    obtain ⟨q, m, out, xo, yo, xc, yc, hq, rfl, rfl, rfl, hom, hsi, htw, hnil⟩ := hrel
    obtain ⟨w1, rfl⟩ : ∃ w1 : World, w1 = wr := ⟨_, rfl⟩
    have OM := Lib.hid hom
    have SI := Lib.hid hsi
    have TW := Lib.hid htw
    have NIL := Lib.hid hnil
    have hmq : m ≤ q := by rw [← hom]; exact hsi.len
    clear hom hsi htw hnil
    have R1 := Lib.hid (H0.out.later TW.out.low)
    have cv := R1.out.vcell
    have q0 : (0 : Int) ≤ (q : Int) := by omega
    by_cases hlt : q < n
    · have q1 : (q : Int) < (n : Int) := by omega
      have HX := Lib.hid (show L[q]? = some (L[q]'(by rw [HN.out]; exact hlt)) from List.getElem?_eq_getElem _)
      obtain ⟨x, hx⟩ : ∃ x, L[q]'(by rw [HN.out]; exact hlt) = x := ⟨_, rfl⟩
      rw [hx] at HX
      clear hx
      have HXE := Lib.hid (show (L.map (·.e))[q]? = some x.e from by rw [List.getElem?_map, HX.out]; rfl)
      obtain ⟨g, cap, e1, _, _, hce⟩ := R1.out.cells HX.out
      rw [HN.out] at e1
      cases e1
      have c0 : w1.cell? ⟨g, q * 5, none⟩ = some (.string x.e.nm) := hce 0 _ rfl
      have c3 : w1.cell? ⟨g, q * 5 + 3, none⟩ = some (.bool x.e.stale) := hce 3 _ rfl
      clear hce
      rcases hs : x.e.stale with _ | _
      · rw [hs] at c3
        have NX := Lib.hid (SI.out.skip HXE.out hs)
        clear hs
        go_wp2
        go_roundw
        case rel => exact ⟨q + 1, m, out, _, _, _, _, by omega, by go_num, rfl, rfl, OM.out, NX.out, TW.out, NIL.out⟩
        case measure => simp [intOf]; omega
      · rw [hs] at c3
        have INS := Lib.hid (fun k h1 h2 => SI.out.ins (k := k) HG.out.srt HXE.out hs h1 h2)
        have DX := Lib.hid (DEP.out w1 TW.out.low x.e.nm)
        have hdx := DD.out x.e.nm
        rw [hdx] at DX
        have hdl := DLE.out x.e.nm
        obtain ⟨d, hd⟩ : ∃ d, depth (L.map (·.e)) x.e.nm = d := ⟨_, rfl⟩
        rw [hd] at DX INS hdl
        obtain ⟨nx, hnx⟩ : ∃ nx, x.e.nm = nx := ⟨_, rfl⟩
        rw [hnx] at c0 DX INS
        have HD := Lib.hid (show depth (L.map (·.e)) nx = d from by rw [← hnx]; exact hd)
        clear hs hdx hd hnx
        by_cases hm : m = 0
        · obtain ⟨rfl, rfl, rfl, rfl⟩ := NIL.out hm
          subst hm
          have ho0 : out = [] := List.length_eq_zero_iff.1 OM.out
          subst ho0
          have NX := Lib.hid (INS.out 0 (fun j y _ hy => by simp at hy) (.inl rfl))
          go_upto_region 9 with (first
            | (go_at_call 53; refine DX.out.mono ?_; rintro e w' ⟨rfl, rfl⟩))
          go_loopw [7] (fun j wr => wr = w1 ∧ j = .int .i64 0) (fun j _ => (intOf j).toNat)
          case atStart => exact ⟨rfl, rfl⟩
          case round =>
            obtain ⟨rfl, rfl⟩ := hrel
            have T0 := Lib.hid (Two.new wr)
            go_upto_region 17 with (first
              | (at_builtin; refine list_appZ rfl (.tmp 53) (.tmp 56) 28 9 rfl Try.underlying28 infS rfl T0.out.s rfl ?_)
              | (at_builtin; refine list_twoS (M := [nx]) (q := 1) rfl (.tmp 58) (.tmp 67) rfl rfl (T0.out.alloc _) rfl rfl (rfl : 0 + 1 = 1) (by omega) (one_S wr nx) ?_; intro xs1 xc1 w2 t1; have T1 := Lib.hid t1; clear t1)
              | (at_builtin; refine list_appZ rfl (.tmp 69) (.tmp 72) 32 3 rfl Try.underlying32 infI rfl T1.out.d rfl ?_)
              | (at_builtin; refine list_twoD (M := [d]) (q := 1) rfl (.tmp 74) (.tmp 76) rfl rfl (T1.out.alloc _) rfl rfl (rfl : 0 + 1 = 1) (by omega) (one_D w2 d) ?_; intro ys2 yc2 w3 t2; have T2 := Lib.hid t2; clear t2))
            have T3 := Lib.hid (T2.out.later ((Below.refl _ w3).drew))
            go_region_law (first
              | (refine step_appZ (by rfl) (.tmp 78) (.tmp 81) 28 9 (by rfl) Try.underlying28 infS (base := wr.heap.size) (k := 1) (n := 1) (v := .slice xs1 1 xc1) (xs := ([] ++ [nx]).flatMap encT) ?_ ?_ ?_ ?_; (simp [Act.eval, Act.put]); (with_reducible exact T3.out.s); (simp [Act.eval, Act.put]))
              | (refine step_appZ (by rfl) (.tmp 83) (.tmp 86) 32 3 (by rfl) Try.underlying32 infI (base := wr.heap.size) (k := 1) (n := 1) (v := .slice ys2 1 yc2) (xs := ([] ++ [d]).flatMap encZ) ?_ ?_ ?_ ?_; (simp [Act.eval, Act.put]); (with_reducible exact T3.out.d); (simp [Act.eval, Act.put])))
            all_goals
              go_wp2_with fail
              go_roundw
              case rel => exact ⟨q + 1, 1, [nx], _, _, _, _, by omega, by go_num, rfl, rfl, rfl, by simpa using NX.out, by
                have h := T3.out.down TW.out.low
                rw [show ([nx] : List ByteArray).map (depth (L.map (·.e))) = [] ++ [d] from by simp [HD.out]]
                exact h, fun h => absurd h (by decide)⟩
              case measure => simp [intOf]; omega
        · have hm1 : 0 < m := by omega
          obtain ⟨g1, rfl, hc1⟩ := own_some TW.out.s hm1
          obtain ⟨g2, rfl, hc2⟩ := own_some TW.out.d hm1
          clear NIL
          obtain ⟨l2, hl2⟩ : ∃ l2, out.map (depth (L.map (·.e))) = l2 := ⟨_, rfl⟩
          have HL2 := Lib.hid hl2
          rw [hl2] at TW
          clear hl2
          have HLL := Lib.hid (show l2.length = m from by rw [← HL2.out, List.length_map]; exact OM.out)
          go_upto_region 9 with (first
            | (go_at_call 53; refine DX.out.mono ?_; rintro e w' ⟨rfl, rfl⟩))
          go_loopw [7] (fun j wr => wr = w1 ∧ ∃ k : Nat, k ≤ m ∧ j = .int .i64 (k : Int) ∧ ∀ i y, k ≤ i → out[i]? = some y → d < depth (L.map (·.e)) y) (fun j _ => (intOf j).toNat)
          case atStart => exact ⟨rfl, m, Nat.le_refl _, rfl, fun i y hi hy => absurd (List.getElem?_eq_some_iff.1 hy).1 (by rw [OM.out]; omega)⟩
          case round =>
            obtain ⟨rfl, k, hk, rfl, hhi⟩ := hrel
            have HI := Lib.hid hhi
            clear hhi
            have k0 : (0 : Int) ≤ (k : Int) := by omega
            by_cases hkz : k = 0
            case' pos =>
              have kz : ¬ (0 : Int) < (k : Int) := by omega
              have LOK := Lib.hid (show k = 0 ∨ ∃ y, out[k - 1]? = some y ∧ depth (L.map (·.e)) y ≤ d from .inl hkz)
              go_upto_region 11 with (fail)
              clear kz hkz
            case' neg =>
              obtain ⟨t, ht⟩ : ∃ t, k = t + 1 := ⟨k - 1, by omega⟩
              have kz : (0 : Int) < (k : Int) := by omega
              have ek : (k : Int) - 1 = (t : Int) := by omega
              have htm : t < m := by omega
              have tm : (t : Int) < (m : Int) := by omega
              have t0 : (0 : Int) ≤ (t : Int) := by omega
              have HY := Lib.hid (show out[t]? = some (out[t]'(by rw [OM.out]; exact htm)) from List.getElem?_eq_getElem _)
              obtain ⟨y, hy⟩ : ∃ y, out[t]'(by rw [OM.out]; exact htm) = y := ⟨_, rfl⟩
              rw [hy] at HY
              clear hy
              have cy : wr.cell? ⟨g2, t, none⟩ = some (.int .i64 (depth (L.map (·.e)) y : Nat)) := by
                have hf : (l2.flatMap encZ)[t * 1 + 0]? = some (.int .i64 (depth (L.map (·.e)) y : Nat)) := flat_get encZ_len l2 t (depth (L.map (·.e)) y) 0 _ (by rw [← HL2.out, List.getElem?_map, HY.out]; rfl) rfl
                have hq := TW.out.d.cells rfl _ _ hf
                rw [add_addr] at hq
                simpa using hq
              have hdy := DLE.out y
              obtain ⟨dy, hdy2⟩ : ∃ dy, depth (L.map (·.e)) y = dy := ⟨_, rfl⟩
              rw [hdy2] at cy hdy
              have HDY := Lib.hid hdy2
              clear hdy2
              by_cases hgt : d < dy
              case' pos =>
                have dg : (d : Int) < (dy : Int) := by omega
                have NXI := Lib.hid (show ∀ i z, t ≤ i → out[i]? = some z → d < depth (L.map (·.e)) z from fun i z hi hz => by
                  rcases Nat.lt_or_ge i k with q | q
                  · have : i = t := by omega
                    subst this
                    rw [HY.out] at hz; cases hz; rw [HDY.out]; exact hgt
                  · exact HI.out i z q hz)
                go_wp2
                clear ek
                go_roundw
                case rel => exact ⟨trivial, t, by omega, by go_num, NXI.out⟩
                case measure => simp [intOf]; omega
              case' neg =>
                have dg : ¬ (d : Int) < (dy : Int) := by omega
                have LOK := Lib.hid (show k = 0 ∨ ∃ y, out[k - 1]? = some y ∧ depth (L.map (·.e)) y ≤ d from .inr ⟨y, by rw [show k - 1 = t from by omega]; exact HY.out, by rw [HDY.out]; omega⟩)
                go_upto_region 11 with (fail)
                clear ek ht kz hkz
            all_goals
              have NX := Lib.hid (INS.out k HI.out LOK.out)
              have T0 := Lib.hid (Two.new wr)
              have kc1 : (k : Int) ≤ (xc : Int) := by omega
              have kc2 : (k : Int) ≤ (yc : Int) := by omega
              have km : (k : Int) ≤ (m : Int) := by omega
              have mc1 : (m : Int) ≤ (xc : Int) := by omega
              have mc2 : (m : Int) ≤ (yc : Int) := by omega
              have TK1 := Lib.hid (show (out.take k).length = k from by rw [List.length_take, OM.out]; omega)
              have DK1 := Lib.hid (show (out.drop k).length = m - k from by rw [List.length_drop, OM.out])
              have TK2 := Lib.hid (show (l2.take k).length = k from by rw [List.length_take, HLL.out]; omega)
              have DK2 := Lib.hid (show (l2.drop k).length = m - k from by rw [List.length_drop, HLL.out])
              have TWL := Lib.hid (fun (w' : World) (hb : Below wr.heap.size wr w') => TW.out.later hb)
              have RL := Lib.hid (fun (w' : World) (hb : Below wr.heap.size wr w') => R1.out.later hb)
              have C0 := Lib.hid (show ∀ w' : World, Below wr.heap.size wr w' → w'.cell? ⟨g, q * 5, none⟩ = some (.string nx) from fun w' hb => (hb.cell (p := ⟨g, q * 5, none⟩) (World.block_lt_of_cell? _ _ c0)).trans c0)
              have LN := Lib.hid (show (out.take k ++ [nx] ++ out.drop k).length = m + 1 from by rw [List.length_append, List.length_append, TK1.out, DK1.out]; simp; omega)
              have EQ2 := Lib.hid (show (out.take k ++ [nx] ++ out.drop k).map (depth (L.map (·.e))) = ([] ++ l2.take k) ++ [d] ++ l2.drop k from by rw [← HL2.out]; simp [HD.out, List.map_take, List.map_drop])
              have hmk : k + 1 + (m - k) = m + 1 := by omega
              have hm5 : m + 1 ≤ 100000 := by omega
              by_cases hxk : xc = k
              all_goals by_cases hyk : yc = k
              all_goals
                go_upto_region 17 with (first
                  | (at_builtin; refine list_twoS (W := wr) (M := out.take k) (q := k) rfl (.tmp 53) (.tmp 56) rfl rfl T0.out rfl TK1.out (Nat.zero_add k) (by omega) (own_take encT_len TW.out.s k) ?_; intro xs1 xc1 w2 t1; have T1 := Lib.hid t1; have cv2 := (RL.out w2 t1.low).vcell; have c02 := C0.out w2 t1.low; clear t1)
                  | (at_builtin; refine list_twoS (W := wr) (M := [nx]) (q := k + 1) rfl (.tmp 58) (.tmp 67) rfl rfl (T1.out.alloc _) rfl rfl rfl (by omega) (one_S w2 nx) ?_; intro xs2 xc2 w3 t2; have T2 := Lib.hid t2; clear t2)
                  | (at_builtin; refine list_twoD (W := wr) (M := l2.take k) (q := k) rfl (.tmp 69) (.tmp 72) rfl rfl T2.out rfl TK2.out (Nat.zero_add k) (by omega) (own_take encZ_len (TWL.out w3 T2.out.low).d k) ?_; intro ys3 yc3 w4 t3; have T3 := Lib.hid t3; clear t3)
                  | (at_builtin; refine list_twoD (W := wr) (M := [d]) (q := k + 1) rfl (.tmp 74) (.tmp 76) rfl rfl (T3.out.alloc _) rfl rfl rfl (by omega) (one_D w4 d) ?_; intro ys4 yc4 w5 t4; have T4 := Lib.hid t4; clear t4))
                have T5 := Lib.hid (T4.out.later ((Below.refl _ w5).drew))
                have KA := Lib.hid (fun (w' : World) (hb : Below wr.heap.size wr w') => own_drop encT_len (TWL.out w' hb).s (k := k) (by rw [OM.out]; exact hk))
                have KB := Lib.hid (fun (w' : World) (hb : Below wr.heap.size wr w') => own_drop encZ_len (TWL.out w' hb).d (k := k) (by rw [HLL.out]; exact hk))
                have KA0 := Lib.hid (show xc = k → ∀ (w' : World), ∀ j u, ((out.drop k).flatMap encT)[j]? = some u → w'.cell? ((⟨g1, 0, none⟩ : Addr).add j) = some u from fun e w' j u hu => by
                  rw [List.drop_eq_nil_of_le (by rw [OM.out]; omega)] at hu; simp at hu)
                have KB0 := Lib.hid (show yc = k → ∀ (w' : World), ∀ j u, ((l2.drop k).flatMap encZ)[j]? = some u → w'.cell? ((⟨g2, 0, none⟩ : Addr).add j) = some u from fun e w' j u hu => by
                  rw [List.drop_eq_nil_of_le (by rw [HLL.out]; omega)] at hu; simp at hu)
                go_region_law (first
                  | (refine step_twoS (by rfl) (.tmp 78) (.tmp 81) (by rfl) (W := wr) (w := w5.drew) (n := k + 1) (m := m - k) (q := m + 1) (M := out.drop k) (ad := ⟨g1, k, none⟩) (c := xc - k) ?_ T5.out ?_ DK1.out hmk hm5 (KA.out w5.drew T5.out.low) ?_; (focus (simp [Act.eval, Act.put]; done)); (focus (simp [Act.eval, Act.put]; done)); intro xs7 xc7 w7 t7; have T7 := Lib.hid t7; clear t7)
                  | (refine step_twoS (by rfl) (.tmp 78) (.tmp 81) (by rfl) (W := wr) (w := w5.drew) (n := k + 1) (m := m - k) (q := m + 1) (M := out.drop k) (ad := ⟨g1, 0, none⟩) (c := 0) ?_ T5.out ?_ DK1.out hmk hm5 (KA0.out hxk w5.drew) ?_; (focus (simp [Act.eval, Act.put]; done)); (focus (simp [Act.eval, Act.put]; done)); intro xs7 xc7 w7 t7; have T7 := Lib.hid t7; clear t7)
                  | (refine step_twoD (by rfl) (.tmp 83) (.tmp 86) (by rfl) (W := wr) (w := w7) (b := k + 1) (m := m - k) (q := m + 1) (M := l2.drop k) (ad := ⟨g2, k, none⟩) (c := yc - k) ?_ T7.out ?_ DK2.out hmk hm5 (KB.out w7 T7.out.low) ?_; (focus (simp [Act.eval, Act.put]; done)); (focus (simp [Act.eval, Act.put]; done)); intro ys8 yc8 w8 t8; have T8 := Lib.hid t8; clear t8)
                  | (refine step_twoD (by rfl) (.tmp 83) (.tmp 86) (by rfl) (W := wr) (w := w7) (b := k + 1) (m := m - k) (q := m + 1) (M := l2.drop k) (ad := ⟨g2, 0, none⟩) (c := 0) ?_ T7.out ?_ DK2.out hmk hm5 (KB0.out hyk w7) ?_; (focus (simp [Act.eval, Act.put]; done)); (focus (simp [Act.eval, Act.put]; done)); intro ys8 yc8 w8 t8; have T8 := Lib.hid t8; clear t8))
                all_goals
                  go_wp2_with fail
                  go_roundw
                  case rel => exact ⟨q + 1, m + 1, out.take k ++ [nx] ++ out.drop k, _, _, _, _, by omega, by go_num, rfl, rfl, LN.out, NX.out, by rw [EQ2.out]; exact T8.out.down TW.out.low, fun h => absurd h (by omega)⟩
                  case measure => simp [intOf]; omega
    · have q1 : ¬ (q : Int) < (n : Int) := by omega
      have hqn : q = n := by omega
      subst hqn
      have FIN := Lib.hid (show out = staleF (L.map (·.e)) from by
        have h := SI.out
        rw [show q = (L.map (·.e)).length from by rw [List.length_map, HN.out]] at h
        exact h.fin HG.out.srt)
      have hm : m = m0 := by rw [← OM.out, FIN.out]; exact HM0.out
      subst hm
      go_wp2
      go_ret
      exact ⟨_, _, rfl, by rw [← FIN.out]; exact ⟨TW.out.s⟩, TW.out.low⟩
end

end Go.Proofs.Ytgbnhngaeefmkaa
