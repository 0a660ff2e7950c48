import Derived.Test.YtgbnhngaeefmkaaNetA
import Derived.Test.YtgbnhngaeefmkaaNetM
import Derived.OwnWalk

/-! Networks: a cell of the law's own turns; built. -/
namespace Go.Proofs.Ytgbnhngaeefmkaa
set_option linter.unusedVariables false
set_option linter.unusedSimpArgs false
open Go.RowKit

theorem Rep.turned {B : Nat} {W W' : World} {f M : Nat} {bl rb : ByteArray → Nat} {sl : ByteArray → Value} {F : List En} (h : Rep B W f M bl rb sl F) {ib : Nat} {cs : Array Value} {t : TypeId} {fr : Nat × Nat} (hi : W.heap[ib]? = some (.cells cs t fr))
    (h1 : t ≠ 74) (h2 : t ≠ 80) (h3 : t ≠ 75) (hk : ∀ j, j ≠ ib → W'.heap[j]? = W.heap[j]?) : Rep B W' f M bl rb sl F := by
  have hc : ∀ {j : Nat} {o : Obj}, W.heap[j]? = some o → (∀ cs', o ≠ .cells cs' t fr) → W'.heap[j]? = W.heap[j]? := fun {j o} hj hne => hk j (fun e => by
    subst e; rw [hi] at hj; cases hj; exact hne cs rfl)
  obtain ⟨L, hL, hp⟩ := h.names
  have hm : ∀ {b : Nat} {L : List (Value × Value)}, RawMap W b L → W'.heap[b]? = W.heap[b]? := fun {b L} hb => by
    obtain ⟨es, c, q, _⟩ := hb
    exact hc q (fun cs' e => by cases e)
  refine ⟨(hc h.flow (fun cs' e => by cases e; exact h1 rfl)).trans h.flow, ⟨L, hL.kept (hm hL), hp⟩, fun e he => (hc (h.ent e he) (fun cs' e' => by unfold entC at e'; cases e'; exact h2 rfl)).trans (h.ent e he), fun e he => (h.row e he).kept (fun g cur fr' hg => hc hg (fun cs' e' => by cases e'; exact h3 rfl)), fun e he => ?_, h.injB, h.injR, h.rbM, h.baseM, h.baseB, h.baseR, h.srt⟩
  obtain ⟨L', hL', hp'⟩ := h.rdr e he
  exact ⟨L', hL'.kept (hm hL'), hp'⟩

theorem St.turned {W0 w : World} {f k : Nat} {F : List En} (h : St W0 f F k w) {ib o : Nat} {cs : Array Value} {t : TypeId} {fr : Nat × Nat} (hi : w.heap[ib]? = some (.cells cs t fr)) (hB : W0.heap.size ≤ ib)
    (h1 : t ≠ 74) (h2 : t ≠ 80) (h3 : t ≠ 75) (v : Value) : St W0 f F k (w.setCell ⟨ib, o, none⟩ v) := by
  obtain ⟨M, bl, rb, sl, hr⟩ := h.1.rep
  have hl := h.2.setCell (p := ⟨ib, o, none⟩) hB v
  exact ⟨⟨⟨M, bl, rb, sl, hr.turned hi h1 h2 h3 (fun j hj => Below.heap_setCell w ⟨ib, o, none⟩ v j hj)⟩, h.1.good, h.1.len, hl.size⟩, hl⟩

theorem St.cap {W0 w : World} {f k k' : Nat} {F : List En} (h : St W0 f F k w) (hk : F.length ≤ k') : St W0 f F k' w := ⟨⟨h.1.rep, h.1.good, hk, h.1.base⟩, h.2⟩

/-- a block of the law's own is not turned by a flow -/
theorem Mv.blk {B : Nat} {X Y : World} (h : Mv B X Y) {ib : Nat} {cs : Array Value} {t : TypeId} {fr : Nat × Nat} (hi : X.heap[ib]? = some (.cells cs t fr)) (ht : t ≠ 80) : Y.heap[ib]? = some (.cells cs t fr) := by
  refine (h.block ib (lt_of_blk hi) (fun c => ?_)).trans hi
  rcases c.2 with ⟨es, c', q⟩ | ⟨cs', fr', q⟩
  · rw [hi] at q; cases q
  · rw [hi] at q; cases q; exact ht rfl
theorem RowO.mv {B base : Nat} {v : Value} {n : Nat} {l : List ByteArray} {w w' : World} (h : RowO base v n l w) (hm : Mv B w w') : RowO base v n l w' := ⟨ownsRow_mv h.row (by decide) hm⟩

/-- the four inputs of a law, in their block -/
def InsB (ins : List Nat) : Obj := .cells (ins.map (fun (n : Nat) => Value.int .i64 (n : Int))).toArray 3 (0, 0)
theorem InsB.row {w : World} {ib : Nat} {ins : List Nat} (h : w.heap[ib]? = some (InsB ins)) : RowK 1 encZ w (some ⟨ib, 0, none⟩) ins := fun i x hx => by
  refine ⟨ib, 0, rfl, lt_of_blk h, fun j v hv => ?_⟩
  have hj : j = 0 := by
    have := (List.getElem?_eq_some_iff.1 hv).1
    simp [encZ] at this; exact this
  subst hj
  simp [encZ] at hv
  subst hv
  refine cell_blk h ?_
  rw [List.getElem?_toArray, List.getElem?_map, show 0 + i * 1 + 0 = i from by omega, hx]; rfl

def S0 (gs : List GateV) (m : Nat) : NS := ⟨fun j => (freshN [0, 1, 2, 3] gs m).getD j 0, fun _ => false⟩

/-- what built returns -/
def BuiltE (W : World) (gs : List GateV) (m : Nat) (e : Ending) (w' : World) : Prop :=
  ∃ f ib, e = .returned (.tuple #[.pointer (some ⟨f, 0, none⟩), .slice (some ⟨ib, 0, none⟩) 4 4, .bool true]) ∧ St W f (netF gs (4 + m) (S0 gs m)) 16 w' ∧ w'.heap[ib]? = some (InsB [0, 1, 2, 3]) ∧ W.heap.size ≤ ib

end Go.Proofs.Ytgbnhngaeefmkaa

/-! Networks: the walk of built. -/
namespace Go.Proofs.Ytgbnhngaeefmkaa
set_option linter.unusedVariables false
set_option linter.unusedSimpArgs false
open Go.RowKit

theorem freshN_pre (ins : List Nat) (gs : List GateV) : ∀ (m k j : Nat), k ≤ m → j < ins.length + k → (freshN ins gs m).getD j 0 = (freshN ins gs k).getD j 0
  | 0, k, j, h, _ => by rw [show k = 0 from by omega]
  | m + 1, k, j, h, hj => by
    rcases Nat.lt_or_ge m k with q | q
    · rw [show k = m + 1 from by omega]
    · rw [← freshN_pre ins gs m k j q hj, freshN]
      rw [List.getD_eq_getElem?_getD, List.getD_eq_getElem?_getD, List.getElem?_append_left (by rw [freshN_len]; omega)]

/-- the row of the values that built read, and the block of the inputs -/
structure BuiltI (W : World) (gs : List GateV) (m f ib : Nat) (vo : Option Addr) (vc : Nat) (n : Nat) (w : World) : Prop where
  st : St W f (netF gs n (S0 gs m)) 16 w
  ins : w.heap[ib]? = some (InsB [0, 1, 2, 3])
  row : RowO W.heap.size (.slice vo (4 + m) vc) (4 + m) ((freshN [0, 1, 2, 3] gs m).map dig) w
theorem BuiltI.later {W w w' : World} {gs : List GateV} {m f ib : Nat} {vo : Option Addr} {vc n : Nat} (h : BuiltI W gs m f ib vo vc n w) (hb : Below w.heap.size w w') : BuiltI W gs m f ib vo vc n w' :=
  ⟨h.st.later hb, (hb.block ib (lt_of_blk h.ins)).trans h.ins, h.row.later hb⟩
theorem BuiltI.mv {W w w' : World} {gs : List GateV} {m f ib : Nat} {vo : Option Addr} {vc n n' k' : Nat} (h : BuiltI W gs m f ib vo vc n w) (hs : St W f (netF gs n' (S0 gs m)) k' w') (h16 : n' ≤ 16) (hm : Mv W.heap.size w w') : BuiltI W gs m f ib vo vc n' w' :=
  ⟨hs.cap (by rw [netF_len]; exact h16), hm.blk h.ins (by decide), h.row.mv hm⟩
theorem BuiltI.cell {W w : World} {gs : List GateV} {m f ib : Nat} {vo : Option Addr} {vc n : Nat} (h : BuiltI W gs m f ib vo vc n w) {j : Nat} (hj : j < 4 + m) : ∃ b off, vo = some ⟨b, off, none⟩ ∧ w.cell? ⟨b, off + j, none⟩ = some (.string (dig ((S0 gs m).vals j))) := by
  obtain ⟨ao, cap, e, hl, hr⟩ := h.row.sl
  cases e
  have hjl : j < (freshN [0, 1, 2, 3] gs m).length := by rw [freshN_len]; exact hj
  obtain ⟨b, off, q, _, hc⟩ := hr j (dig ((S0 gs m).vals j)) (by
    rw [List.getElem?_map, List.getElem?_eq_getElem hjl]
    show some (dig _) = some (dig ((freshN [0, 1, 2, 3] gs m).getD j 0))
    rw [List.getD_eq_getElem?_getD, List.getElem?_eq_getElem hjl]; rfl)
  refine ⟨b, off, q, ?_⟩
  have := hc 0 _ rfl
  rwa [Nat.mul_one, Nat.add_zero] at this

theorem BuiltI.set {W w : World} {gs : List GateV} {m f ib : Nat} {vo : Option Addr} {vc k : Nat} (h : BuiltI W gs m f ib vo vc k w) (hk : k < 4) {nm v : ByteArray} (hn : gName k = nm) (hv : dig ((S0 gs m).vals k) = v) :
    Calls Try.prog 13 #[.pointer (some ⟨f, 0, none⟩), .string nm, .string v] w fun e w' => e = .returned (.int .i64 0) ∧ BuiltI W gs m f ib vo vc (k + 1) w' := by
  subst hn; subst hv
  obtain ⟨h1, h2⟩ := setnet_new gs hk (S0 gs m)
  refine (h.st.set (by omega) _ _ h2 h1).mono ?_
  rintro e w' ⟨rfl, hs, hm⟩
  exact ⟨rfl, h.mv hs (by omega) hm⟩

theorem BuiltI.put {W w : World} {gs : List GateV} {m f ib : Nat} {vo : Option Addr} {vc k : Nat} (h : BuiltI W gs m f ib vo vc (4 + k) w) (hk : k < 12) {nv : NodeV} {g : GateV} (hg : gs[k]? = some g) (hnm : nv.name = gName (4 + k)) (hrd : nv.reads = (gIx k g).map gName) (hrr : RowK 1 encT w nv.ao nv.reads) (hrl : nv.reads.length = nv.ln) {v : ByteArray} (hv : dig ((S0 gs m).vals (4 + k)) = v) :
    Calls Try.prog 17 #[.pointer (some ⟨f, 0, none⟩), .agg #[.string nv.name, .slice nv.ao nv.ln nv.cap], .string v] w fun e w' => e = .returned (.int .i64 0) ∧ BuiltI W gs m f ib vo vc (4 + k + 1) w' := by
  subst hv
  obtain ⟨h1, h2⟩ := putnet_new gs (n := 4 + k) (by omega) (by omega) (S0 gs m) rfl (fun y _ _ => rfl)
  rw [rdL_node hg, ← hrd, ← hnm] at h1 h2
  have hl := gIx_len k g
  have hrl2 := hrl
  rw [hrd, List.length_map] at hrl2
  refine (h.st.put (by omega) _ _ nv.ao nv.ln nv.cap nv.reads hrl (by omega) hrr h2 h1).mono ?_
  rintro e w' ⟨rfl, hs, hm⟩
  exact ⟨rfl, h.mv hs (by omega) hm⟩

set_option maxRecDepth 100000 in
set_option maxHeartbeats 4000000 in
theorem built_any (W : World) (gs : List GateV) (ao : Option Addr) (ln cap : Nat) (hg : GatesK W gs ao ln) (no : Option Addr) (m nc : Nat) (nvs : List NodeV) (hn : NetK W gs no m nvs) :
    Calls Try.prog 29 #[.slice ao ln cap, .slice no m nc] W (BuiltE W gs m) := by
  have HG := Lib.hid hg
  have HN := Lib.hid hn
  have NW := Lib.hid (st_new W)
  clear hg hn
  have hsame : (freshN [0, 1, 2, 3] gs m).length = 4 + m := by rw [freshN_len]; rfl
  go_enter Try.func29, Try.ntmps29
  go_wp2_with (first
    | (go_at_call 9; refine NW.out.mono ?_; rintro e w1 ⟨f, rfl, hs1⟩; have S1 := Lib.hid hs1; have hw1 := hs1.2; have i2 := World.alloc_heap_new w1 (InsB [0, 1, 2, 3]); have B2 := Lib.hid (hw1.trans (((Below.refl _ w1).alloc (Nat.le_refl _) (InsB [0, 1, 2, 3])).mono hw1.size)); have FR := Lib.hid (fresh_any (w1.alloc (InsB [0, 1, 2, 3])) (some ⟨w1.heap.size, 0, none⟩) 4 [0, 1, 2, 3] rfl (by decide) (InsB.row i2) gs ao ln cap (HG.out.later B2.out) no m nc nvs (HN.out.later B2.out)); have I2 := Lib.hid i2; clear hs1 hw1 i2)
    | (go_at_call 32; refine FR.out.mono ?_; rintro e w3 ⟨vo, vc, rfl, _, hro, hb3⟩; have RO := Lib.hid hro; have B3 := Lib.hid hb3; clear hro hb3))
  have hW1 : W.heap.size ≤ w1.heap.size := S1.out.2.size
  have BI := Lib.hid (show BuiltI W gs m f w1.heap.size vo vc 0 w3 from
    ⟨((S1.out.alloc (InsB [0, 1, 2, 3])).later B3.out).cap (by show (netF gs 0 (S0 gs m)).length ≤ 16; rw [netF_len]; omega), (B3.out.block _ (lt_of_blk I2.out)).trans I2.out, ⟨ownsRow_base RO.out.row (by simp; omega)⟩⟩)
  have hib : W.heap.size ≤ w1.heap.size := hW1
  clear RO B3 I2 S1 NW FR B2
  go_loopw [10] (fun i wr => ∃ k : Nat, k ≤ 4 ∧ i = .int .i64 k ∧ BuiltI W gs m f w1.heap.size vo vc k wr) (fun i _ => 4 - (intOf i).toNat)
  case atStart => exact ⟨0, by omega, rfl, BI.out⟩
  case round =>
    obtain ⟨k, hk, rfl, hbi⟩ := hrel
    clear BI
    have BI := Lib.hid hbi
    clear hbi
    have k0 : (0 : Int) ≤ (k : Int) := by omega
    by_cases hlt : k < 4
    · have k1 : (k : Int) < 4 := by omega
      obtain ⟨b, off, rfl, hc⟩ := BI.out.cell (j := k) (by omega)
      have GT := Lib.hid (fun w => gate_at k (by omega) w)
      obtain ⟨v, hv⟩ : ∃ v, dig ((S0 gs m).vals k) = v := ⟨_, rfl⟩
      rw [hv] at hc
      obtain ⟨nm, hnm⟩ : ∃ nm, gName k = nm := ⟨_, rfl⟩
      rw [hnm] at GT
      have hc2 := cell_up hc (.cells #[.int .u8 (97 + (k : Int))] 5)
      have SET := Lib.hid ((BI.out.later (((Below.refl _ wr).alloc (Nat.le_refl _) (.cells #[.int .u8 (97 + (k : Int))] 5)).drew)).set hlt hnm hv)
      have k4 : (k : Int) < 4 + (m : Int) := by omega
      clear hv hnm hsame
      go_wp2
      go_region_law (first
        | (go_simp; go_at_call 30; (with_reducible refine (GT.out _).mono ?_); rintro e w' ⟨rfl, rfl⟩)
        | (go_simp; go_at_call 13; (with_reducible refine SET.out.mono ?_); rintro e w5 ⟨rfl, hb5⟩; have B5 := Lib.hid hb5; clear hb5))
      all_goals
        go_wp2
        go_roundw
        case rel => exact ⟨k + 1, by omega, by go_num, B5.out⟩
        case measure => simp [intOf]; omega
    · have k1 : ¬ (k : Int) < 4 := by omega
      have hk4 : k = 4 := by omega
      subst hk4
      go_wp2
      go_loopw [11] (fun i wr => ∃ k : Nat, k ≤ m ∧ i = .int .i64 k ∧ BuiltI W gs m f w1.heap.size vo vc (4 + k) wr) (fun i _ => m - (intOf i).toNat)
      case atStart => exact ⟨0, by omega, rfl, BI.out⟩
      case round =>
        obtain ⟨k, hk, rfl, hbi⟩ := hrel
        clear BI
        have BI := Lib.hid hbi
        clear hbi
        have k0 : (0 : Int) ≤ (k : Int) := by omega
        by_cases hlt : k < m
        · have k1 : (k : Int) < (m : Int) := by omega
          have hm12 := HN.out.m12
          obtain ⟨b, off, rfl, hc⟩ := BI.out.cell (j := 4 + k) (by omega)
          have hkn : k < nvs.length := by rw [HN.out.len]; exact hlt
          obtain ⟨g, hgk, hnm, hrd, hrr, hrl⟩ := HN.out.all k nvs[k] (List.getElem?_eq_getElem hkn)
          obtain ⟨b0, off0, rfl, hlb, hce⟩ := HN.out.row k nvs[k] (List.getElem?_eq_getElem hkn)
          obtain ⟨nv, hnv⟩ : ∃ nv, nvs[k] = nv := ⟨_, rfl⟩
          rw [hnv] at hnm hrd hrr hrl hce
          have hlow := BI.out.st.2
          have cn0 : wr.cell? ⟨b0, off0 + k * 2, none⟩ = some (.string nv.name) := by
            rw [hlow.cell (p := ⟨b0, off0 + k * 2, none⟩) hlb]; have := hce 0 _ rfl; rwa [Nat.add_zero] at this
          have cn1 : wr.cell? ⟨b0, off0 + k * 2 + 1, none⟩ = some (.slice nv.ao nv.ln nv.cap) := by
            rw [hlow.cell (p := ⟨b0, off0 + k * 2 + 1, none⟩) hlb]; exact hce 1 _ rfl
          obtain ⟨v, hv⟩ : ∃ v, dig ((S0 gs m).vals (4 + k)) = v := ⟨_, rfl⟩
          rw [hv] at hc
          have PUT := Lib.hid ((BI.out.later ((Below.refl wr.heap.size wr).drew)).put (by omega) hgk hnm hrd (hrr.later (hlow.drew)) hrl hv)
          have hwr : IntKind.wrap .i64 (4 + (k : Int)) = 4 + (k : Int) := by rw [IntKind.wrap_i64]; omega
          have k4 : 4 + (k : Int) < 4 + (m : Int) := by omega
          have z4 : (0 : Int) ≤ 4 + (k : Int) := by omega
          have t4 : (4 + (k : Int)).toNat = 4 + k := by omega
          clear hv hgk hnm hrd hrr hrl hce hnv hsame
          go_wp2
          go_region_law (first
            | (go_simp; go_at_call 17; (with_reducible refine PUT.out.mono ?_); rintro e w5 ⟨rfl, hb5⟩; have B5 := Lib.hid hb5; clear hb5))
          all_goals
            go_wp2
            go_roundw
            case rel => exact ⟨k + 1, by omega, by go_num, B5.out⟩
            case measure => simp [intOf]; omega
        · have k1 : ¬ (k : Int) < (m : Int) := by omega
          have hkm : k = m := by omega
          subst hkm
          go_wp2
          go_ret3
          exact ⟨f, w1.heap.size, rfl, BI.out.st, BI.out.ins, hib⟩

end Go.Proofs.Ytgbnhngaeefmkaa

/-! Networks: the walk of reach. -/
namespace Go.Proofs.Ytgbnhngaeefmkaa
set_option linter.unusedVariables false
set_option linter.unusedSimpArgs false
open Go.RowKit

def encB (b : Bool) : List Value := [.bool b]
/-- does the node k read a name that is on -/
def onB (gs : List GateV) (k : Nat) (bs : List Bool) : Bool := (rdL gs (4 + k)).any fun x => bs.getD x false

set_option maxRecDepth 100000 in
set_option maxHeartbeats 1000000 in
theorem reach_any (W : World) (gs : List GateV) (no : Option Addr) (m nc : Nat) (nvs : List NodeV) (hn : NetK W gs no m nvs) (k : Nat) (hk : k < m) (bo : Option Addr) (bc : Nat) (bs : List Bool) (hb : bs.length = 4 + m) (hbr : RowK 1 encB W bo bs) :
    Calls Try.prog 33 #[.slice no m nc, .int .i64 k, .slice bo (4 + m) bc] W fun e w' => e = .returned (.bool (onB gs k bs)) ∧ W = w' := by
  have hkn : k < nvs.length := by rw [hn.len]; exact hk
  have hm12 := hn.m12
  obtain ⟨g, hgk, hnm, hrd, hrr, hrl⟩ := hn.all k nvs[k] (List.getElem?_eq_getElem hkn)
  obtain ⟨b0, off0, rfl, hlb, hce⟩ := hn.row k nvs[k] (List.getElem?_eq_getElem hkn)
  obtain ⟨nv, hnv⟩ : ∃ nv, nvs[k] = nv := ⟨_, rfl⟩
  rw [hnv] at hnm hrd hrr hrl hce
  have cn1 : W.cell? ⟨b0, off0 + k * 2 + 1, none⟩ = some (.slice nv.ao nv.ln nv.cap) := hce 1 _ rfl
  have hrl2 := hrl
  rw [hrd, List.length_map] at hrl2
  rw [hrd] at hrr
  have HX := Lib.hid (gIx_lt k g)
  have HRL := Lib.hid hrl2
  have HRR := Lib.hid hrr
  have HB := Lib.hid hbr
  have HBL := Lib.hid hb
  have HON : Hid (onB gs k bs = (gIx k g).any fun x => bs.getD x false) := Lib.hid (by unfold onB; rw [rdL_node hgk])
  have hnl := gIx_len k g
  rw [hrl2] at hnl
  have k0 : (0 : Int) ≤ (k : Int) := by omega
  have k1 : (k : Int) < (m : Int) := by omega
  clear hn hgk hnm hrd hrr hrl hrl2 hce hbr hb hnv
  go_enter Try.func33, Try.ntmps33
  go_wp2
  go_loopw [7] (fun i wr => wr = W ∧ ∃ q : Nat, q ≤ nv.ln ∧ i = .int .i64 q ∧ ∀ x ∈ (gIx k g).take q, bs.getD x false = false) (fun i _ => nv.ln - (intOf i).toNat)
  case atStart => exact ⟨rfl, 0, by omega, rfl, fun x hx => by simp at hx⟩
  case round =>
    obtain ⟨rfl, q, hq, rfl, hno⟩ := hrel
    have NO := Lib.hid hno
    clear hno
    have q0 : (0 : Int) ≤ (q : Int) := by omega
    by_cases hql : q < nv.ln
    · have q1 : (q : Int) < (nv.ln : Int) := by omega
      have hqx : q < (gIx k g).length := by rw [HRL.out]; exact hql
      have hxl := HX.out (gIx k g)[q] (List.getElem_mem hqx)
      have hxq : ((gIx k g).map gName)[q]? = some (gName (gIx k g)[q]) := by rw [List.getElem?_map, List.getElem?_eq_getElem hqx]; rfl
      obtain ⟨b2, off2, hao, hlb2, hce2⟩ := HRR.out q _ hxq
      have cx := hce2 0 _ rfl
      rw [Nat.mul_one, Nat.add_zero] at cx
      have HT := Lib.hid (show (gIx k g).take (q + 1) = (gIx k g).take q ++ [(gIx k g)[q]] from List.take_succ_eq_append_getElem hqx)
      have HM := Lib.hid (List.getElem_mem hqx)
      rw [hao] at cn1
      obtain ⟨x, hx⟩ : ∃ x, (gIx k g)[q] = x := ⟨_, rfl⟩
      rw [hx] at hxl cx HT HM
      have hxb : x < bs.length := by rw [HBL.out]; omega
      obtain ⟨b3, off3, hbo, hlb3, hce3⟩ := HB.out x bs[x] (List.getElem?_eq_getElem hxb)
      have cy := hce3 0 _ rfl
      rw [Nat.mul_one, Nat.add_zero] at cy
      have HD : Hid (bs.getD x false = bs[x]) := Lib.hid (by rw [List.getD_eq_getElem?_getD, List.getElem?_eq_getElem hxb]; rfl)
      obtain ⟨b, hb⟩ : ∃ b, bs[x] = b := ⟨_, rfl⟩
      rw [hb] at cy HD
      subst hbo
      have hgb := gName_byte x (by omega)
      have hgs := gName_size x
      have x0 : (0 : Int) ≤ (x : Int) := by omega
      have x1 : (x : Int) < 4 + (m : Int) := by omega
      clear hxb hb hx hxq hqx hce2 hce3 hao
      rcases b with _ | _
      · go_wp2
        go_roundw
        case rel => exact ⟨trivial, q + 1, by omega, by go_num, fun y hy => by
          rw [HT.out, List.mem_append, List.mem_singleton] at hy
          rcases hy with hy | rfl
          · exact NO.out y hy
          · exact HD.out⟩
        case measure => simp [intOf]; omega
      · go_wp2
        go_ret
        exact ⟨by rw [HON.out, show ((gIx k g).any fun x => bs.getD x false) = true from List.any_eq_true.2 ⟨x, HM.out, HD.out⟩]; rfl, rfl⟩
    · have q1 : ¬ (q : Int) < (nv.ln : Int) := by omega
      have ht : (gIx k g).take q = gIx k g := List.take_of_length_le (by rw [HRL.out]; omega)
      rw [ht] at NO
      clear ht
      go_wp2
      go_ret
      exact ⟨by rw [HON.out, show ((gIx k g).any fun x => bs.getD x false) = false from List.any_eq_false.2 (fun x hx => by rw [NO.out x hx]; simp)]; rfl, rfl⟩

end Go.Proofs.Ytgbnhngaeefmkaa

/-! Networks: the calls of a law on a network's flow; rows of truth values. -/
namespace Go.Proofs.Ytgbnhngaeefmkaa
set_option linter.unusedVariables false
set_option linter.unusedSimpArgs false
open Go.RowKit

set_option maxRecDepth 100000 in
theorem conv_at (w : World) (k n : Nat) (hn : n < 256) (hc : w.cell? ⟨k, 0, none⟩ = some (.int .u8 (n : Int))) :
    (convert 36 9 (.slice (some ⟨k, 0, none⟩) 1 1)).run Try.prog w = .ok (.string (chr n)) w := by
  have hu : (UInt8.ofNat n).toNat = n := by simp; omega
  exact run_convert_bytes_back (P := Try.prog) w 36 9 5 ⟨k, 0, none⟩ 1 [UInt8.ofNat n] (by rfl) (by rfl) (by rfl) (fun j hj => by
    match j, hj with
    | 0, _ => exact hc.trans (by simp [hu]))

theorem ltN_irr (gs : List GateV) (n x : Nat) : ¬ ltN gs n x x := fun h => by rcases h with h | ⟨_, h⟩ <;> omega
theorem ltN_trans {gs : List GateV} {n a b c : Nat} (h1 : ltN gs n a b) (h2 : ltN gs n b c) : ltN gs n a c := by
  unfold ltN at *; omega
theorem ltN_nodup {gs : List GateV} {n : Nat} {xs : List Nat} (h : xs.Pairwise (ltN gs n)) : xs.Nodup := h.imp (fun hlt e => by subst e; exact ltN_irr _ _ _ hlt)

theorem in_range {xs : List Nat} {m : Nat} (hn : xs.Nodup) (h : ∀ x ∈ xs, 4 ≤ x ∧ x < 4 + m) : xs.length ≤ m := by
  have := nodup_len (b := (List.range m).map (4 + ·)) hn (fun x hx => by
    obtain ⟨h1, h2⟩ := h x hx
    exact List.mem_map.2 ⟨x - 4, List.mem_range.2 (by omega), by omega⟩)
  simpa using this

theorem stale_calls {W0 w : World} {f m : Nat} {gs : List GateV} {S : NS} (h : St W0 f (netF gs (4 + m) S) 16 w) (hm : m ≤ 12) :
    Calls Try.prog 21 #[.pointer (some ⟨f, 0, none⟩)] w fun e w' => ∃ (xs : List Nat) (so : Option Addr) (sc : Nat), e = .returned (.slice so xs.length sc) ∧ RowO w.heap.size (.slice so xs.length sc) xs.length (xs.map gName) w' ∧ RowK 1 encT w' so (xs.map gName) ∧ (∀ x, x ∈ xs ↔ 4 ≤ x ∧ x < 4 + m ∧ S.st x = true) ∧ xs.Pairwise (ltN gs (4 + m)) ∧ xs.length ≤ m ∧ St W0 f (netF gs (4 + m) S) 16 w' ∧ Below w.heap.size w w' := by
  obtain ⟨xs, h1, h2, h3⟩ := stale_net gs (n := 4 + m) (by omega) S
  have hl : xs.length ≤ m := in_range (ltN_nodup h3) (fun x hx => ⟨((h2 x).1 hx).1, ((h2 x).1 hx).2.1⟩)
  have h12 : ((netF gs (4 + m) S).filter (·.stale)).length ≤ 12 := by
    have := (staleF_perm (netF gs (4 + m) S)).length_eq
    rw [h1, List.length_map, List.length_map] at this
    omega
  refine (h.stale (by omega) h12 h1 (m := xs.length) (by rw [List.length_map])).mono ?_
  rintro e w' ⟨ao, cap, rfl, ho, hr, hs, hb⟩
  exact ⟨xs, ao, cap, rfl, ⟨ho⟩, hr, h2, h3, hl, hs, hb⟩

theorem chgS_lt {gs : List GateV} {S : NS} {j v : Nat} (h : ∀ i, S.vals i < 8) (hv : v < 8) : ∀ i, (chgS gs S j v).vals i < 8 := fun i => by
  unfold chgS
  split
  · exact h i
  · show updN S.vals j v i < 8
    unfold updN; split
    · exact hv
    · exact h i
theorem putS_lt {gs : List GateV} {S : NS} {j v : Nat} (h : ∀ i, S.vals i < 8) (hv : v < 8) : ∀ i, (putS gs S j v).vals i < 8 := chgS_lt h hv
theorem S0_lt (gs : List GateV) (m i : Nat) : (S0 gs m).vals i < 8 := getD_lt8 (freshN_lt [0, 1, 2, 3] gs (by decide) m) i

theorem set_calls {W0 w : World} {f m : Nat} {gs : List GateV} {S : NS} (h : St W0 f (netF gs (4 + m) S) 16 w) (hm : m ≤ 12) (hS : ∀ i, S.vals i < 8) {j v : Nat} (hj : j < 4) (hv : v < 8) {nm vs : ByteArray} (hnm : gName j = nm) (hvs : dig v = vs) :
    Calls Try.prog 13 #[.pointer (some ⟨f, 0, none⟩), .string nm, .string vs] w fun e w' => e = .returned (.int .i64 0) ∧ St W0 f (netF gs (4 + m) (chgS gs S j v)) 16 w' ∧ Mv W0.heap.size w w' := by
  subst hnm; subst hvs
  obtain ⟨h1, h2⟩ := set_net gs (n := 4 + m) (by omega) S hj (by omega) hv (hS j)
  refine (h.set (by omega) _ _ h2 h1).mono ?_
  rintro e w' ⟨rfl, hs, hm'⟩
  exact ⟨rfl, hs.cap (by rw [netF_len]; omega), hm'⟩

/-- a block of truth values -/
def BoolB (bs : List Bool) : Obj := .cells (bs.map Value.bool).toArray 4 (0, 0)
theorem BoolB.row {w : World} {ib : Nat} {bs : List Bool} (h : w.heap[ib]? = some (BoolB bs)) : RowK 1 encB w (some ⟨ib, 0, none⟩) bs := fun i x hx => by
  refine ⟨ib, 0, rfl, lt_of_blk h, fun j v hv => ?_⟩
  have hj : j = 0 := by
    have := (List.getElem?_eq_some_iff.1 hv).1
    simp [encB] at this; exact this
  subst hj
  simp [encB] at hv
  subst hv
  refine cell_blk h ?_
  rw [List.getElem?_toArray, List.getElem?_map, show 0 + i * 1 + 0 = i from by omega, hx]; rfl
theorem BoolB.cell {w : World} {ib : Nat} {bs : List Bool} (h : w.heap[ib]? = some (BoolB bs)) {i : Nat} {b : Bool} (hi : i < bs.length) (hb : bs.getD i false = b) : w.cell? ⟨ib, i, none⟩ = some (.bool b) := by
  refine cell_blk h ?_
  rw [List.getElem?_toArray, List.getElem?_map, List.getElem?_eq_getElem hi]
  rw [List.getD_eq_getElem?_getD, List.getElem?_eq_getElem hi] at hb
  show some (Value.bool bs[i]) = _
  rw [← hb]; rfl
theorem BoolB.set {w : World} {ib : Nat} {bs : List Bool} (h : w.heap[ib]? = some (BoolB bs)) (i : Nat) (b : Bool) : (w.setCell ⟨ib, i, none⟩ (.bool b)).heap[ib]? = some (BoolB (bs.set i b)) := by
  have := heap_setC h (o := i) (.bool b)
  rw [this]
  unfold BoolB
  rw [List.map_set, List.setIfInBounds_toArray]
theorem getD_set {bs : List Bool} {i j : Nat} {b : Bool} (h : (bs.set i b).getD j false = true) : (j = i ∧ b = true) ∨ bs.getD j false = true := by
  rw [List.getD_eq_getElem?_getD, List.getElem?_set] at h
  split at h
  · rename_i e
    split at h
    · exact .inl ⟨e.symm, h⟩
    · cases h
  · exact .inr (by rw [List.getD_eq_getElem?_getD]; exact h)
theorem getD_rep {n j : Nat} : (List.replicate n false).getD j false = false := by
  rw [List.getD_eq_getElem?_getD, List.getElem?_replicate]
  split <;> rfl

/-- what is after me -/
structure AfterOk (gs : List GateV) (n me : Nat) (al : List Bool) : Prop where
  len : al.length = n
  ok : ∀ x, al.getD x false = true → x = me ∨ dN gs n me < dN gs n x
theorem AfterOk.new (gs : List GateV) (n me : Nat) : AfterOk gs n me ((List.replicate n false).set me true) :=
  ⟨by simp, fun x hx => by
    rcases getD_set hx with ⟨h, _⟩ | h
    · exact .inl h
    · rw [getD_rep] at h; cases h⟩
theorem AfterOk.on {gs : List GateV} {m me : Nat} {al : List Bool} (h : AfterOk gs (4 + m) me al) (hm : m ≤ 12) {j : Nat} (hj : j < m) (ho : onB gs j al = true) : AfterOk gs (4 + m) me (al.set (4 + j) true) :=
  ⟨by simp [h.len], fun x hx => by
    rcases getD_set hx with ⟨rfl, _⟩ | hx
    · obtain ⟨y, hy, hyo⟩ := List.any_eq_true.1 ho
      have h1 := dN_lt gs (n := 4 + m) (by omega) (by omega) hy
      rcases h.ok y hyo with rfl | h2
      · exact .inr h1
      · exact .inr (by omega)
    · exact h.ok x hx⟩
theorem AfterOk.not {gs : List GateV} {n me x : Nat} {al : List Bool} (h : AfterOk gs n me al) (hx : ltN gs n x me) : al.getD x false = false := by
  rcases q : al.getD x false with _ | _
  · rfl
  · rcases h.ok x q with rfl | h2
    · exact absurd hx (ltN_irr _ _ _)
    · rcases hx with h3 | ⟨h3, _⟩ <;> omega

theorem Try.infoBool : (Try.prog.info? 4).map (fun i => (i.zero, i.size, i.bytes)) = some (some (.bool false), 1, 1) := by kernel_rfl
theorem made_bools (n : Nat) : madeCells (Value.bool false).cells (n * 1) = ((List.replicate n false).map Value.bool).toArray := by
  apply Array.ext
  · rw [size_madeCells]; simp
  · intro i h1 h2
    simp [madeCells, Value.cells] at h1 ⊢
    rw [Nat.mod_one]; rfl
theorem mk_bools (n : Nat) (hn : n ≤ 1000) (w : World) : (Instr.makeSlice 64 (.int .i64 (n : Int)) (.int .i64 (n : Int))).run Try.prog w = .ok (.slice (some ⟨w.heap.size, 0, none⟩) n n) (w.alloc (BoolB (List.replicate n false))) := by
  obtain ⟨i0, hi, hz0, hz1, hz2⟩ := info_parts Try.infoBool
  have h := run_makeSlice (P := Try.prog) w 64 4 i0 (.bool false) Try.underlying64 hi hz0 .i64 .i64 (n : Int) (n : Int) (by omega) (by omega) (by rw [hz1]; simp; omega) (by rw [hz2]; omega) (by omega)
  rw [h, hz1, Int.toNat_natCast, made_bools]; rfl
theorem mk_bools4 (m : Nat) (hm : m ≤ 12) (w : World) : (Instr.makeSlice 64 (.int .i64 (4 + (m : Int))) (.int .i64 (4 + (m : Int)))).run Try.prog w = .ok (.slice (some ⟨w.heap.size, 0, none⟩) (4 + m) (4 + m)) (w.alloc (BoolB (List.replicate (4 + m) false))) := by
  have h := mk_bools (4 + m) (by omega) w
  rw [show ((4 + m : Nat) : Int) = 4 + (m : Int) from by omega] at h
  exact h

theorem gName_byte2 (x : Nat) (hx : x < 100) : (((gName x)[0]'(by rw [gName_size]; omega)).toNat : Int) = 97 + x := by
  have : (gName x)[0]'(by rw [gName_size]; omega) = UInt8.ofNat (97 + x) := rfl
  rw [this, UInt8.toNat_ofNat']; omega
/-- the cell of a row of names -/
theorem name_cell {w : World} {so : Option Addr} {xs : List Nat} (h : RowK 1 encT w so (xs.map gName)) {q : Nat} (hq : q < xs.length) : ∃ b off, so = some ⟨b, off, none⟩ ∧ b < w.heap.size ∧ w.cell? ⟨b, off + q, none⟩ = some (.string (gName xs[q])) := by
  obtain ⟨b, off, h1, h2, h3⟩ := h q (gName xs[q]) (by rw [List.getElem?_map, List.getElem?_eq_getElem hq]; rfl)
  have := h3 0 _ rfl
  rw [Nat.mul_one, Nat.add_zero] at this
  exact ⟨b, off, h1, h2, this⟩
theorem frz_bool {w : World} {ib : Nat} {bs : List Bool} (h : w.heap[ib]? = some (BoolB bs)) (o : Nat) : w.frozen? ⟨ib, o, none⟩ = false := frz_blk h

end Go.Proofs.Ytgbnhngaeefmkaa
