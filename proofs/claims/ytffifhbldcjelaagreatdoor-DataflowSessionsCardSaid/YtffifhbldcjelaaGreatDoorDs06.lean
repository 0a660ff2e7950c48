/-
  Slices of strings: what is owned reads as such; the shape of a result. Flows: Reads. cmp.Compare of strings; the reference's Same.
-/
import Derived.Test.YtffifhbldcjelaaGreatDoorDs05
import Derived.OwnWalk
import Derived.Laws.AppendOwnNone
import Derived.Maps.AppendAt
import Derived.WalkLawsBesides
import Derived.WalkSpells
import Derived.Sort.Walk0
import Derived.Deep.QuietTactic
import Derived.BigQuiet

/-! Slices of strings: what is owned reads as such; the shape of a result. -/
namespace Go.Proofs.YtffifhbldcjelaaGreatDoor
set_option linter.unusedVariables false
set_option linter.unusedSimpArgs false
open Go.RowKit

/-- the slice at ao reads as l, k cells an element -/
def RowK {α : Type} (k : Nat) (enc : α → List Value) (w : World) (ao : Option Addr) (l : List α) : Prop :=
  ∀ i x, l[i]? = some x → ∃ b off, ao = some ⟨b, off, none⟩ ∧ b < w.heap.size ∧ ∀ j v, (enc x)[j]? = some v → w.cell? ⟨b, off + i * k + j, none⟩ = some v

theorem RowK.nil {α : Type} (k : Nat) (enc : α → List Value) (w : World) (ao : Option Addr) : RowK k enc w ao [] := fun i x h => by simp at h

theorem RowK.later {α : Type} {k : Nat} {enc : α → List Value} {w w' : World} {ao : Option Addr} {l : List α} (h : RowK k enc w ao l) (hb : Below w.heap.size w w') : RowK k enc w' ao l := fun i x hx => by
  obtain ⟨b, off, e, h1, h2⟩ := h i x hx
  exact ⟨b, off, e, Nat.lt_of_lt_of_le h1 hb.size, fun j v hv => by rw [hb.cell (p := ⟨b, off + i * k + j, none⟩) h1]; exact h2 j v hv⟩

theorem RowK.alloc {α : Type} {k : Nat} {enc : α → List Value} {w : World} {ao : Option Addr} {l : List α} (h : RowK k enc w ao l) (o : Obj) : RowK k enc (w.alloc o) ao l := h.later ((Below.refl _ _).alloc (Nat.le_refl _) o)

/-- the flat list of the cells, element by element -/
theorem flat_get {α : Type} {k : Nat} {enc : α → List Value} (hk : ∀ x, (enc x).length = k) : ∀ (l : List α) (i : Nat) (x : α) (j : Nat) (v : Value), l[i]? = some x → (enc x)[j]? = some v → (l.flatMap enc)[i * k + j]? = some v
  | [], i, x, j, v, h, _ => by simp at h
  | y :: r, 0, x, j, v, h, hv => by
    simp at h; subst h
    have hj : j < (enc y).length := (List.getElem?_eq_some_iff.1 hv).1
    rw [List.flatMap_cons, Nat.zero_mul, Nat.zero_add, List.getElem?_append_left hj]; exact hv
  | y :: r, i + 1, x, j, v, h, hv => by
    have e : (i + 1) * k + j = (enc y).length + (i * k + j) := by rw [hk y, Nat.succ_mul]; omega
    rw [List.flatMap_cons, e, List.getElem?_append_right (by omega), Nat.add_sub_cancel_left]
    exact flat_get hk r i x j v (by simpa using h) hv

theorem flat_length {α : Type} {k : Nat} {enc : α → List Value} (hk : ∀ x, (enc x).length = k) (l : List α) : (l.flatMap enc).length = l.length * k := by
  induction l with
  | nil => simp
  | cons a r ih => rw [List.flatMap_cons, List.length_append, ih, hk a, List.length_cons, Nat.succ_mul]; omega

theorem flat_snoc {α : Type} (enc : α → List Value) (l : List α) (x : α) : (l ++ [x]).flatMap enc = l.flatMap enc ++ enc x := by simp

/-- what is owned reads as a row -/
theorem rowK_of_owns {α : Type} {k : Nat} {enc : α → List Value} (hk : ∀ x, (enc x).length = k) (hk0 : 0 < k) {w : World} {base e n : Nat} {v : Value} {l : List α} (h : w.ownsRow base e k v n (l.flatMap enc)) :
    ∃ ao cap, v = .slice ao l.length cap ∧ ((ao = none → cap = 0) ∧ l.length ≤ cap) ∧ RowK k enc w ao l := by
  obtain ⟨hlen, h | ⟨g, cap, cur, hv, _, hb, hcap, _, _, ht⟩⟩ := h
  · obtain ⟨rfl, rfl⟩ := h
    rw [flat_length hk] at hlen
    have : l = [] := by
      rcases l with _ | ⟨a, r⟩
      · rfl
      · simp [Nat.succ_mul] at hlen; omega
    subst this
    exact ⟨none, 0, rfl, ⟨fun _ => rfl, Nat.le_refl _⟩, RowK.nil _ _ _ _⟩
  · rw [flat_length hk] at hlen
    have hn : l.length = n := Nat.eq_of_mul_eq_mul_right hk0 hlen
    refine ⟨some ⟨g, 0, none⟩, cap, by rw [hv, hn], ⟨(fun h => by cases h), by omega⟩, fun i x hx => ⟨g, 0, rfl, ?_, fun j v hv => ?_⟩⟩
    · rcases Nat.lt_or_ge g w.heap.size with h | h
      · exact h
      · rw [Array.getElem?_eq_none h] at hb; cases hb
    · rw [Nat.zero_add]
      have h1 := flat_get hk l i x j v hx hv
      rw [← ht] at h1
      have h2 : i * k + j < n * k := by
        have := (List.getElem?_eq_some_iff.1 h1).1
        rw [List.length_take] at this; omega
      rw [List.getElem?_take_of_lt h2, Array.getElem?_toList] at h1
      simp [World.cell?, hb, h1]

/-- the result: a slice that reads as l -/
def SlcK {α : Type} (k : Nat) (enc : α → List Value) (w : World) (l : List α) (e : Ending) (w' : World) : Prop :=
  ∃ (ao : Option Addr) (cap : Nat), e = .returned (.slice ao l.length cap) ∧ ((ao = none → cap = 0) ∧ l.length ≤ cap) ∧ RowK k enc w' ao l ∧ Below w.heap.size w w'

/-- the cells of a new block, as append asks for them -/
theorem cells_new (W : World) (cs : List Value) (t : TypeId) : ∀ j u, cs[j]? = some u → (W.alloc (.cells cs.toArray t)).cell? ((⟨W.heap.size, 0, none⟩ : Addr).add j) = some u := by
  intro j u hu
  have e : (Addr.add ⟨W.heap.size, 0, none⟩ j) = ⟨W.heap.size, j, none⟩ := by unfold Addr.add; split <;> simp_all
  rw [e]
  unfold World.cell?
  rw [show (⟨W.heap.size, j, none⟩ : Addr).block = W.heap.size from rfl, heap_alloc_new W]
  simpa using hu

theorem cells_at (W : World) (cs : List Value) (t : TypeId) (a : Nat) (ha : W.heap.size = a) : ∀ j u, cs[j]? = some u → (W.alloc (.cells cs.toArray t)).cell? ((⟨a, 0, none⟩ : Addr).add j) = some u := by
  subst ha; exact cells_new W cs t

theorem owns_ne {w : World} {base e k n : Nat} {v : Value} {xs : List Value} (h : w.ownsRow base e k v n xs) (g : Nat) (hg : w.heap.size ≤ g) : v.ownBlock ≠ some g := by
  obtain ⟨_, h | ⟨g', cap, cur, rfl, h1, hb, _⟩⟩ := h
  · rw [h.1]; simp [Value.ownBlock]
  · have := (Array.getElem?_eq_some_iff.1 hb).1
    simp [Value.ownBlock]; omega

/-- a cell behind an append onto another row -/
theorem keep_cell {X w1 : World} {v : Value} {g o : Nat} {u : Value} (gr : X.grownBy w1 v.ownBlock) (hc : X.cell? ⟨g, o, none⟩ = some u) (hne : v.ownBlock ≠ some g) : w1.cell? ⟨g, o, none⟩ = some u := by
  have hl := World.block_lt_of_cell? _ _ hc
  rw [World.cell?_of_block (w := X) (gr.block g hl (fun h => hne h.symm))]; exact hc

theorem cell_box (W : World) (cs : Array Value) (t : TypeId) (o : Nat) (u : Value) (hu : cs[o]? = some u) (a : Nat) (ha : W.heap.size = a) : (W.alloc (.cells cs t)).cell? ⟨a, o, none⟩ = some u := by
  subst ha
  unfold World.cell?
  rw [show (⟨W.heap.size, o, none⟩ : Addr).block = W.heap.size from rfl, heap_alloc_new W]
  simpa using hu

theorem cell_up {W : World} {g o : Nat} {u : Value} (h : W.cell? ⟨g, o, none⟩ = some u) (ob : Obj) : (W.alloc ob).cell? ⟨g, o, none⟩ = some u := by
  rw [World.cell?_of_block (w := W) (Below.heap_alloc W ob g (World.block_lt_of_cell? _ _ h))]; exact h

/-- a step of an append onto the call's own row -/
theorem grown_own {B : Nat} {w X w1 : World} {e k : Nat} {v : Value} {n : Nat} {xs : List Value} (hX : Below B w X) (hB : B ≤ w.heap.size) (ho : X.ownsRow B e k v n xs) (gr : X.grownBy w1 v.ownBlock) : Below B w w1 :=
  hX.grown gr (Nat.le_trans hB hX.size) (fun j hj => by
    obtain ⟨_, h | ⟨g, cap, cur, rfl, h1, _⟩⟩ := ho
    · rw [h.1] at hj; simp [Value.ownBlock] at hj
    · simp [Value.ownBlock] at hj; omega)

theorem flat_of {α : Type} {k : Nat} {enc : α → List Value} (hk : ∀ x, (enc x).length = k) (hk0 : 0 < k) : ∀ (l : List α) (j : Nat) (u : Value), (l.flatMap enc)[j]? = some u → ∃ i x r, l[i]? = some x ∧ (enc x)[r]? = some u ∧ j = i * k + r
  | [], j, u, h => by simp at h
  | y :: t, j, u, h => by
    rw [List.flatMap_cons] at h
    rcases Nat.lt_or_ge j k with hj | hj
    · rw [List.getElem?_append_left (by rw [hk]; exact hj)] at h
      exact ⟨0, y, j, rfl, h, by omega⟩
    · rw [List.getElem?_append_right (by rw [hk]; exact hj), hk] at h
      obtain ⟨i, x, r, h1, h2, h3⟩ := flat_of hk hk0 t _ u h
      exact ⟨i + 1, x, r, by simpa using h1, h2, by rw [Nat.succ_mul]; omega⟩

theorem RowK.news {α : Type} {k : Nat} {enc : α → List Value} (hk : ∀ x, (enc x).length = k) (hk0 : 0 < k) {w : World} {ad : Addr} {l : List α} (h : RowK k enc w (some ad) l) : ∀ j u, (l.flatMap enc)[j]? = some u → w.cell? (ad.add j) = some u := by
  intro j u hu
  obtain ⟨i, x, r, h1, h2, rfl⟩ := flat_of hk hk0 l j u hu
  obtain ⟨b, off, e, _, hc⟩ := h i x h1
  simp only [Option.some.injEq] at e
  subst e
  have e : (Addr.add ⟨b, off, none⟩ (i * k + r)) = ⟨b, off + i * k + r, none⟩ := by unfold Addr.add; split <;> simp_all [Nat.add_assoc]
  rw [e]; exact hc r u h2

theorem flat_one {α : Type} {enc : α → List Value} (h : ∀ x, ∀ u ∈ enc x, u.oneCell' = true) (l : List α) : ∀ u ∈ l.flatMap enc, u.oneCell' = true := by
  intro u hu
  rw [List.mem_flatMap] at hu
  obtain ⟨x, _, hx⟩ := hu
  exact h x u hx

theorem owns_emptyK {α : Type} (enc : α → List Value) (k : Nat) (w : World) (e : TypeId) : (w.alloc (.cells #[] e)).ownsRow w.heap.size e k (.slice (some ⟨w.heap.size, 0, none⟩) 0 0) 0 (([] : List α).flatMap enc) :=
  ⟨by simp, .inr ⟨w.heap.size, 0, #[], rfl, Nat.le_refl _, heap_alloc_new w _, Nat.le_refl _, by unfold maxLen; omega, by simp, by simp⟩⟩

/-- append of a whole slice, nil or not, onto the call's own row -/
theorem wpList_append_row {α : Type} {P : Program} {w : World} {ops : Array Oper} {rest : List Oper} {o : Oper} {a : Act} {Q : Exit → Act → World → Prop} (hgd : o.guard = none) (s x : Operand) (t : TypeId)
    (ho : o.op = .call { callee := .builtin .append, args := #[s, x], argTypes := #[t, t] })
    (base : Nat) (e : TypeId) (i : TypeInfo) (z : Value) (size bytes : Nat) (ht : P.underlying t = some (.slice e)) (hi : P.info? e = some i) (hz : i.zero = some z)
    (hsize : i.size = size) (hby : i.bytes = bytes) (hzs : z.cells.size = size) (hsz : 0 < size)
    (v : Value) (n : Nat) (xs : List Value) (hs : a.eval s = v) (hown : w.ownsRow base e size v n xs)
    (enc : α → List Value) (hk : ∀ x, (enc x).length = size) (h1 : ∀ x, ∀ u ∈ enc x, u.oneCell' = true) (bo : Option Addr) (m c : Nat) (l : List α) (hx : a.eval x = .slice bo m c) (hl : l.length = m) (hc : (bo = none → c = 0) ∧ m ≤ c) (hrow : RowK size enc w bo l)
    (h63 : n + m ≤ maxLen) (hbytes : (n + m) * bytes ≤ 140737488355328) (hbase : base ≤ w.heap.size)
    (h : ∀ v' w', w'.ownsRow base e size v' (n + m) (xs ++ l.flatMap enc) → w.grownBy w' v.ownBlock → wpList P ops Q rest (a.put o.dst v') w') : wpList P ops Q (o :: rest) a w := by
  rcases bo with _ | ad
  · obtain rfl := hc.1 rfl
    obtain rfl : m = 0 := by omega
    obtain rfl : l = [] := List.eq_nil_of_length_eq_zero hl
    exact wpList_append_own_none hgd s x t ho base e i size ht hi v n xs hs hown hx (h v w (by simpa using hown) (World.grownBy.refl _ _))
  · exact wpList_append_own w hgd s x t ho base e i z size bytes ht hi hz hsize hby hzs hsz v n xs hs hown ad m c (l.flatMap enc) hx (by rw [flat_length hk, hl]) (hrow.news hk hsz) (flat_one h1 l) h63 hbytes hbase (fun v' w' h2 h3 _ => h v' w' h2 h3)


def encT (s : ByteArray) : List Value := [.string s]
theorem encT_len (x : ByteArray) : (encT x).length = 1 := rfl
theorem encT_one (x : ByteArray) : ∀ u ∈ encT x, u.oneCell' = true := by intro u hu; simp [encT] at hu; subst hu; rfl
theorem Tryz.infoStr : (Tryz.prog.info? 9).map (fun i => (i.zero, i.size, i.bytes)) = some (some (.string (ByteArray.mk #[])), 1, 16) := by kernel_rfl

/-- the cell of a string -/
theorem RowK.str {w : World} {ao : Option Addr} {l : List ByteArray} (h : RowK 1 encT w ao l) {i : Nat} (hi : i < l.length) : ∃ b off, ao = some ⟨b, off, none⟩ ∧ b < w.heap.size ∧ w.cell? ⟨b, off + i, none⟩ = some (.string l[i]) := by
  obtain ⟨b, off, e, h1, h2⟩ := h i l[i] (List.getElem?_eq_getElem hi)
  exact ⟨b, off, e, h1, by simpa using h2 0 _ rfl⟩

theorem fin_T {w w1 : World} {v : Value} {n e : Nat} {l : List ByteArray} (ho : w1.ownsRow w.heap.size e 1 v n (l.flatMap encT)) (hb : Below w.heap.size w w1) : SlcK 1 encT w l (.returned v) w1 := by
  obtain ⟨ao, cap, rfl, h1, h2⟩ := rowK_of_owns encT_len (by decide) ho
  exact ⟨ao, cap, rfl, h1, h2, hb⟩

end Go.Proofs.YtffifhbldcjelaaGreatDoor

/-! Flows: Reads. -/
namespace Go.Proofs.YtffifhbldcjelaaGreatDoor
set_option linter.unusedVariables false
set_option linter.unusedSimpArgs false
open Go.RowKit

def readsF (F : List En) (n : ByteArray) : List ByteArray := match atF F n with | some e => e.rds | none => []

theorem flat_take {l : List ByteArray} {k : Nat} (h : k < l.length) : (l.take (k + 1)).flatMap encT = (l.take k).flatMap encT ++ encT l[k] := by
  rw [List.take_succ_eq_append_getElem h, flat_snoc]

section
variable {B : Nat} {W : World} {f M : Nat} {bl rb : ByteArray → Nat} {sl : ByteArray → Value} {F : List En}

set_option maxRecDepth 100000 in
set_option maxHeartbeats 2000000 in
theorem reads_any (h : Rep B W f M bl rb sl F) (hC : Closed F) (hR : ∀ e ∈ F, e.rds.length ≤ 1000) (n : ByteArray) :
    Calls Tryz.prog 17 #[.pointer (some ⟨f, 0, none⟩), .string n] W (SlcK 1 encT W (readsF F n)) := by
  have hc := h.cellM
  obtain ⟨i0, hi, hz0, hz1, hz2⟩ := info_parts Tryz.infoStr
  rcases he : atF F n with _ | e
  · have hl := h.look_miss he false
    have HV := Lib.hid (show readsF F n = [] by unfold readsF; rw [he])
    clear he h hC hR
    go_enter Tryz.func17, Tryz.ntmps17
    go_wp2
    go_ret
    rw [HV.out]
    exact ⟨none, 0, rfl, ⟨fun _ => rfl, Nat.le_refl _⟩, RowK.nil _ _ _ _, Below.refl _ _⟩
  · have hl := h.look_hit he false
    obtain ⟨heF, hen⟩ := atF_some he
    obtain ⟨c0, c1, c2, c3, c4, c5, fz⟩ := h.cells he
    obtain ⟨oo, oc, hso, _, _⟩ := h.row e heF
    rw [List.length_map, hen] at hso
    have hrow := h.row e heF
    rw [hen, hso] at hrow
    rw [hso] at c4
    have hr1 := hR e heF
    obtain ⟨m, hm⟩ : ∃ m, e.rds.length = m := ⟨_, rfl⟩
    rw [hm] at hr1 c4 hrow
    have HV := Lib.hid (show readsF F n = e.rds by unfold readsF; rw [he])
    have HM := Lib.hid hm
    have ROW := Lib.hid hrow
    have H := Lib.hid h
    have HCE := Lib.hid (fun r hr => hC e heF r hr)
    clear he h hC hR hso hrow hm heF hen fz c0 c1 c2 c3 c5
    go_enter Tryz.func17, Tryz.ntmps17
    go_wp2
    go_loopw [4, 28] (fun v i wr => ∃ k : Nat, k ≤ m ∧ i = .int .i64 k ∧ wr.ownsRow W.heap.size 9 1 v k ((e.rds.take k).flatMap encT) ∧ Below W.heap.size W wr) (fun _ i _ => m - (intOf i).toNat)
    case atStart => exact ⟨0, Nat.zero_le _, rfl, World.ownsRow_nil _ _ _ _, Below.refl _ _⟩
    case round =>
      obtain ⟨k, hk, rfl, hown, hb⟩ := hrel
      have OWN := Lib.hid hown
      have HB := Lib.hid hb
      clear hown hb
      by_cases hlt : k < m
      · have hke : k < e.rds.length := by rw [HM.out]; exact hlt
        obtain ⟨b0, off, rfl, hce⟩ := ROW.out.at (i := k) (p := bl e.rds[k]) (by rw [List.getElem?_map, List.getElem?_eq_getElem hke]; rfl)
        obtain ⟨d, hd, hdn⟩ := HCE.out e.rds[k] (List.getElem_mem hke)
        have hc0 := (cells_ent (H.out.ent d hd)).c0
        rw [hdn] at hc0
        have hlb := World.block_lt_of_cell? _ _ hce
        have hld := World.block_lt_of_cell? _ _ hc0
        have e1 : wr.cell? ⟨b0, off + k, none⟩ = some (.pointer (some ⟨bl e.rds[k], 0, none⟩)) := by rw [HB.out.cell (p := ⟨b0, off + k, none⟩) hlb]; exact hce
        have e2 : wr.cell? ⟨bl e.rds[k], 0, none⟩ = some (.string e.rds[k]) := by rw [HB.out.cell (p := ⟨bl e.rds[k], 0, none⟩) hld]; exact hc0
        have FT := Lib.hid (flat_take hke)
        obtain ⟨x, hx⟩ : ∃ x, e.rds[k] = x := ⟨_, rfl⟩
        rw [hx] at e1 e2 FT
        obtain ⟨bx, hbx⟩ : ∃ bx, bl x = bx := ⟨_, rfl⟩
        rw [hbx] at e1 e2
        have k0 : (0 : Int) ≤ (k : Int) := by omega
        have k1 : (k : Int) < (m : Int) := by omega
        clear hce hc0 hdn hx hbx hlb hld hd
        go_wp2_with (at_builtin; refine wpList_append_own _ rfl (.tmp 32) (.tmp 37) 26 rfl W.heap.size 9 i0 (.string (ByteArray.mk #[])) 1 16 Tryz.underlying26 hi hz0 hz1 hz2 rfl (by decide) _ _ _ rfl (OWN.out.alloc _) ⟨wr.heap.size, 0, none⟩ 1 1 (encT x) rfl rfl (cells_at _ _ _ _ rfl) (encT_one _) (by unfold maxLen; omega) (by omega) (by have := HB.out.size; simp; omega) ?_; intro v' w1 own gr _h; have OWN' := Lib.hid own; have HB' := Lib.hid (grown_own (HB.out.alloc HB.out.size _) (Nat.le_refl _) (OWN.out.alloc _) gr); clear own gr _h)
        go_roundw
        case rel => exact ⟨k + 1, by omega, by go_num, by rw [FT.out]; exact OWN'.out, HB'.out⟩
        case measure => simp [intOf]; omega
      · have hkm : k = m := by omega
        have ho := OWN.out
        rw [hkm, ← HM.out, List.take_length] at ho
        have HO := Lib.hid ho
        clear hkm ho OWN
        go_wp2
        go_ret
        rw [HV.out]
        exact fin_T HO.out HB.out
end

end Go.Proofs.YtffifhbldcjelaaGreatDoor

/-! cmp.Compare of strings; the reference's Same. -/
namespace Go.Proofs.YtffifhbldcjelaaGreatDoor
set_option linter.unusedVariables false
set_option linter.unusedSimpArgs false
open Go.RowKit

def cmpB (x y : ByteArray) : Int := if ltB x y then -1 else if x = y then 0 else 1

theorem less_t {x y : ByteArray} (h : ltB x y) : Op.bytesLess x.toList y.toList = true := by rw [bytesLess_eq]; exact decide_eq_true h
theorem less_f {x y : ByteArray} (h : ¬ ltB x y) : Op.bytesLess x.toList y.toList = false := by rw [bytesLess_eq]; exact decide_eq_false h

theorem cmpS_any (x y : ByteArray) (W : World) : Calls Tryz.prog 36 #[.string x, .string y] W fun e w' => e = .returned (.int .i64 (cmpB x y)) ∧ W = w' := by
  have hx : (x.toList != x.toList) = false := by simp
  have hy : (y.toList != y.toList) = false := by simp
  rcases ltB_tri x y with h | h | h
  · have h1 := less_t h
    have HV := Lib.hid (show cmpB x y = -1 by unfold cmpB; rw [if_pos h])
    clear h
    go_enter Tryz.func36, Tryz.ntmps36
    go_wp2
    go_ret
    rw [HV.out]; exact ⟨rfl, rfl⟩
  · subst h
    have h1 := less_f (ltB_irr x)
    have h2 : (x.toList == x.toList) = true := by simp
    have HV := Lib.hid (show cmpB x x = 0 by unfold cmpB; rw [if_neg (ltB_irr x), if_pos rfl])
    go_enter Tryz.func36, Tryz.ntmps36
    go_wp2
    go_ret
    rw [HV.out]; exact ⟨rfl, rfl⟩
  · have hn : ¬ ltB x y := fun q => ltB_irr x (ltB_trans q h)
    have hne : x ≠ y := fun q => by rw [q] at h; exact ltB_irr y h
    have h1 := less_f hn
    have h2 : (x.toList == y.toList) = false := (Lib.bytes_beq_false_iff _ _).2 hne
    have HV := Lib.hid (show cmpB x y = 1 by unfold cmpB; rw [if_neg hn, if_neg hne])
    clear h hn hne
    go_enter Tryz.func36, Tryz.ntmps36
    go_wp2
    go_ret
    rw [HV.out]; exact ⟨rfl, rfl⟩

theorem below_dn (w : World) (n : Nat) : Below w.heap.size w (w.drewN n) := ⟨rfl, rfl, rfl, Nat.le_refl _, fun _ _ => rfl⟩

/-- Same: two lists of strings -/
def sameB (a b : List ByteArray) : Bool := decide (a = b)

set_option maxRecDepth 100000 in
set_option maxHeartbeats 1000000 in
theorem same_any (ao bo : Option Addr) (ca cb na nb : Nat) (a b : List ByteArray) (W : World) (hna : a.length = na) (hnb : b.length = nb) (hn : na ≤ 1000000) (ha : RowK 1 encT W ao a) (hb : RowK 1 encT W bo b) :
    Calls Tryz.prog 15 #[.slice ao na ca, .slice bo nb cb] W fun e w' => e = .returned (.bool (sameB a b)) ∧ Below W.heap.size W w' := by
  have HA := Lib.hid ha
  have HB := Lib.hid hb
  have HNA := Lib.hid hna
  have HNB := Lib.hid hnb
  by_cases hl : na = nb
  · subst hl
    have q0 : ((na : Int) != (na : Int)) = false := by simp
    clear ha hb hna hnb
    go_enter Tryz.func15, Tryz.ntmps15
    go_wp2
    go_loopw [5] (fun i wr => ∃ k : Nat, k ≤ na ∧ i = .int .i64 k ∧ a.take k = b.take k ∧ Below W.heap.size W wr) (fun i _ => na - (intOf i).toNat)
    case atStart => exact ⟨0, Nat.zero_le _, rfl, by simp, Below.refl _ _⟩
    case round =>
      obtain ⟨k, hk, rfl, htk, hbl⟩ := hrel
      have TK := Lib.hid htk
      have BL := Lib.hid hbl
      clear htk hbl
      by_cases hlt : k < na
      · have hka : k < a.length := by rw [HNA.out]; exact hlt
        have hkb : k < b.length := by rw [HNB.out]; exact hlt
        obtain ⟨b1, o1, rfl, _, e1⟩ := (HA.out.later BL.out).str hka
        obtain ⟨b2, o2, rfl, _, e2⟩ := (HB.out.later BL.out).str hkb
        have HT := Lib.hid (show a[k] = b[k] → a.take (k + 1) = b.take (k + 1) from fun q => by rw [List.take_succ_eq_append_getElem hka, List.take_succ_eq_append_getElem hkb, TK.out, q])
        have HF := Lib.hid (show a[k] ≠ b[k] → sameB a b = false from fun q => by unfold sameB; exact decide_eq_false (fun e => q (by subst e; rfl)))
        obtain ⟨x, hx⟩ : ∃ x, a[k] = x := ⟨_, rfl⟩
        obtain ⟨y, hy⟩ : ∃ y, b[k] = y := ⟨_, rfl⟩
        rw [hx] at e1 HT HF
        rw [hy] at e2 HT HF
        have k0 : (0 : Int) ≤ (k : Int) := by omega
        have k1 : (k : Int) < (na : Int) := by omega
        have NX := Lib.hid (fun (n' : Nat) => BL.out.trans ((below_dn wr n').mono BL.out.size))
        clear hx hy hka hkb
        by_cases hxy : x = y
        · have q1 : (x.toList == y.toList) = true := by rw [hxy]; simp
          have T2 := Lib.hid (HT.out hxy)
          clear hxy
          go_wp2
          go_quiet (fail)
          go_wp2
          go_roundw
          case rel => exact ⟨k + 1, by omega, by go_num, T2.out, NX.out _⟩
          case measure => simp [intOf]; omega
        · have q1 : (x.toList == y.toList) = false := (Lib.bytes_beq_false_iff _ _).2 hxy
          have F2 := Lib.hid (HF.out hxy)
          clear hxy
          go_wp2
          go_quiet (fail)
          go_wp2
          go_ret
          rw [F2.out]
          exact ⟨rfl, NX.out _⟩
      · have hs : sameB a b = true := by
          have h := TK.out
          rw [List.take_of_length_le (by rw [HNA.out]; omega), List.take_of_length_le (by rw [HNB.out]; omega)] at h
          unfold sameB; exact decide_eq_true h
        have HS := Lib.hid hs
        clear hs
        go_wp2
        go_ret
        rw [HS.out]
        exact ⟨rfl, BL.out⟩
  · have q0 : ((na : Int) != (nb : Int)) = true := by simp; omega
    have HS := Lib.hid (show sameB a b = false by unfold sameB; exact decide_eq_false (fun e => hl (by rw [← hna, ← hnb, e])))
    clear ha hb hna hnb
    go_enter Tryz.func15, Tryz.ntmps15
    go_wp2
    go_ret
    rw [HS.out]
    exact ⟨rfl, Below.refl _ _⟩

end Go.Proofs.YtffifhbldcjelaaGreatDoor
