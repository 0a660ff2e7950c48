import Derived.Test.YtbkmcncakpmgkaaAmtC
import Derived.OwnWalk
import Derived.Laws.AppendOwnNone
import Derived.Maps.AppendAt
import Derived.WalkLawsBesides
import Derived.WalkSpells
import Derived.Deep.RegionLaw

/-! Rows of structs: slices whose elements are k cells each; what is owned reads as such; the shapes of the results. -/
namespace Go.Proofs.Ytbkmcncakpmgkaa
set_option linter.unusedVariables false
open Go.ChangeShapes Go.WideShapes Go.ChangeAt Go.RowKit

structure Us where
  acc : Int
  rcd : Int
  val : Int
  held : Int
deriving DecidableEq

def encS (s : Int × Int) : List Value := [.int .i64 s.1, .int .i64 s.2]
def encU (u : Us) : List Value := [.int .i64 u.acc, .int .i64 u.rcd, .int .i64 u.val, .int .i64 u.held]

theorem Try.infoS : (Try.prog.info? 47).map (fun i => (i.zero, i.size, i.bytes)) = some (some (.agg #[.int .i64 0, .int .i64 0]), 2, 16) := by kernel_rfl
theorem Try.infoU : (Try.prog.info? 42).map (fun i => (i.zero, i.size, i.bytes)) = some (some (.agg #[.int .i64 0, .int .i64 0, .int .i64 0, .int .i64 0]), 4, 32) := by kernel_rfl

/-- the slice at ao reads as l, k cells an element -/
def RowK {α : Type} (k : Nat) (enc : α → List Value) (w : World) (ao : Option Addr) (l : List α) : Prop :=
  ∀ i x, l[i]? = some x → ∃ b off, ao = some ⟨b, off, none⟩ ∧ b < w.heap.size ∧ ∀ j v, (enc x)[j]? = some v → w.cell? ⟨b, off + i * k + j, none⟩ = some v

theorem RowK.nil {α : Type} (k : Nat) (enc : α → List Value) (w : World) (ao : Option Addr) : RowK k enc w ao [] := fun i x h => by simp at h

theorem RowK.later {α : Type} {k : Nat} {enc : α → List Value} {w w' : World} {ao : Option Addr} {l : List α} (h : RowK k enc w ao l) (hb : Below w.heap.size w w') : RowK k enc w' ao l := fun i x hx => by
  obtain ⟨b, off, e, h1, h2⟩ := h i x hx
  exact ⟨b, off, e, Nat.lt_of_lt_of_le h1 hb.size, fun j v hv => by rw [hb.cell (p := ⟨b, off + i * k + j, none⟩) h1]; exact h2 j v hv⟩

theorem RowK.alloc {α : Type} {k : Nat} {enc : α → List Value} {w : World} {ao : Option Addr} {l : List α} (h : RowK k enc w ao l) (o : Obj) : RowK k enc (w.alloc o) ao l := h.later ((Below.refl _ _).alloc (Nat.le_refl _) o)

/-- the two cells of a share -/
theorem RowK.share {w : World} {ao : Option Addr} {l : List (Int × Int)} (h : RowK 2 encS w ao l) {i : Nat} (hi : i < l.length) : ∃ b off, ao = some ⟨b, off, none⟩ ∧ b < w.heap.size ∧ w.cell? ⟨b, off + i * 2, none⟩ = some (.int .i64 l[i].1) ∧ w.cell? ⟨b, off + i * 2 + 1, none⟩ = some (.int .i64 l[i].2) := by
  obtain ⟨b, off, e, h1, h2⟩ := h i l[i] (List.getElem?_eq_getElem hi)
  exact ⟨b, off, e, h1, by simpa using h2 0 _ rfl, by simpa using h2 1 _ rfl⟩

theorem RowK.usage {w : World} {ao : Option Addr} {l : List Us} (h : RowK 4 encU w ao l) {i : Nat} (hi : i < l.length) : ∃ b off, ao = some ⟨b, off, none⟩ ∧ b < w.heap.size ∧ w.cell? ⟨b, off + i * 4, none⟩ = some (.int .i64 l[i].acc) ∧ w.cell? ⟨b, off + i * 4 + 1, none⟩ = some (.int .i64 l[i].rcd) ∧
    w.cell? ⟨b, off + i * 4 + 2, none⟩ = some (.int .i64 l[i].val) ∧ w.cell? ⟨b, off + i * 4 + 3, none⟩ = some (.int .i64 l[i].held) := by
  obtain ⟨b, off, e, h1, h2⟩ := h i l[i] (List.getElem?_eq_getElem hi)
  exact ⟨b, off, e, h1, by simpa using h2 0 _ rfl, by simpa using h2 1 _ rfl, by simpa using h2 2 _ rfl, by simpa using h2 3 _ rfl⟩

/-- the flat list of the cells, element by element -/
theorem flat_get {α : Type} {k : Nat} {enc : α → List Value} (hk : ∀ x, (enc x).length = k) : ∀ (l : List α) (i : Nat) (x : α) (j : Nat) (v : Value), l[i]? = some x → (enc x)[j]? = some v → (l.flatMap enc)[i * k + j]? = some v
  | [], i, x, j, v, h, _ => by simp at h
  | y :: r, 0, x, j, v, h, hv => by
    simp at h; subst h
    have hj : j < (enc y).length := (List.getElem?_eq_some_iff.1 hv).1
    rw [List.flatMap_cons, Nat.zero_mul, Nat.zero_add, List.getElem?_append_left hj]; exact hv
  | y :: r, i + 1, x, j, v, h, hv => by
    have e : (i + 1) * k + j = (enc y).length + (i * k + j) := by rw [hk y, Nat.succ_mul]; omega
    rw [List.flatMap_cons, e, List.getElem?_append_right (by omega), Nat.add_sub_cancel_left]
    exact flat_get hk r i x j v (by simpa using h) hv

theorem flat_length {α : Type} {k : Nat} {enc : α → List Value} (hk : ∀ x, (enc x).length = k) (l : List α) : (l.flatMap enc).length = l.length * k := by
  induction l with
  | nil => simp
  | cons a r ih => rw [List.flatMap_cons, List.length_append, ih, hk a, List.length_cons, Nat.succ_mul]; omega

theorem flat_snoc {α : Type} (enc : α → List Value) (l : List α) (x : α) : (l ++ [x]).flatMap enc = l.flatMap enc ++ enc x := by simp

/-- what is owned reads as a row -/
theorem rowK_of_owns {α : Type} {k : Nat} {enc : α → List Value} (hk : ∀ x, (enc x).length = k) (hk0 : 0 < k) {w : World} {base e n : Nat} {v : Value} {l : List α} (h : w.ownsRow base e k v n (l.flatMap enc)) :
    ∃ ao cap, v = .slice ao l.length cap ∧ ((ao = none → cap = 0) ∧ l.length ≤ cap) ∧ RowK k enc w ao l := by
  obtain ⟨hlen, h | ⟨g, cap, cur, hv, _, hb, hcap, _, _, ht⟩⟩ := h
  · obtain ⟨rfl, rfl⟩ := h
    rw [flat_length hk] at hlen
    have : l = [] := by
      rcases l with _ | ⟨a, r⟩
      · rfl
      · simp [Nat.succ_mul] at hlen; omega
    subst this
    exact ⟨none, 0, rfl, ⟨fun _ => rfl, Nat.le_refl _⟩, RowK.nil _ _ _ _⟩
  · rw [flat_length hk] at hlen
    have hn : l.length = n := Nat.eq_of_mul_eq_mul_right hk0 hlen
    refine ⟨some ⟨g, 0, none⟩, cap, by rw [hv, hn], ⟨(fun h => by cases h), by omega⟩, fun i x hx => ⟨g, 0, rfl, ?_, fun j v hv => ?_⟩⟩
    · rcases Nat.lt_or_ge g w.heap.size with h | h
      · exact h
      · rw [Array.getElem?_eq_none h] at hb; cases hb
    · rw [Nat.zero_add]
      have h1 := flat_get hk l i x j v hx hv
      rw [← ht] at h1
      have h2 : i * k + j < n * k := by
        have := (List.getElem?_eq_some_iff.1 h1).1
        rw [List.length_take] at this; omega
      rw [List.getElem?_take_of_lt h2, Array.getElem?_toList] at h1
      simp [World.cell?, hb, h1]

/-- the result: a slice that reads as l -/
def SlcK {α : Type} (k : Nat) (enc : α → List Value) (w : World) (l : List α) (e : Ending) (w' : World) : Prop :=
  ∃ (ao : Option Addr) (cap : Nat), e = .returned (.slice ao l.length cap) ∧ ((ao = none → cap = 0) ∧ l.length ≤ cap) ∧ RowK k enc w' ao l ∧ Below w.heap.size w w'

theorem encS_len (x : Int × Int) : (encS x).length = 2 := rfl
theorem encU_len (x : Us) : (encU x).length = 4 := rfl

theorem fin_S {w w1 : World} {v : Value} {n e : Nat} {l : List (Int × Int)} (ho : w1.ownsRow w.heap.size e 2 v n (l.flatMap encS)) (hb : Below w.heap.size w w1) : SlcK 2 encS w l (.returned v) w1 := by
  obtain ⟨ao, cap, rfl, h1, h2⟩ := rowK_of_owns encS_len (by decide) ho
  exact ⟨ao, cap, rfl, h1, h2, hb⟩
theorem fin_U {w w1 : World} {v : Value} {n e : Nat} {l : List Us} (ho : w1.ownsRow w.heap.size e 4 v n (l.flatMap encU)) (hb : Below w.heap.size w w1) : SlcK 4 encU w l (.returned v) w1 := by
  obtain ⟨ao, cap, rfl, h1, h2⟩ := rowK_of_owns encU_len (by decide) ho
  exact ⟨ao, cap, rfl, h1, h2, hb⟩

theorem encS_one (x : Int × Int) : ∀ u ∈ encS x, u.oneCell' = true := by
  intro u hu; simp [encS] at hu; rcases hu with rfl | rfl <;> rfl
theorem encU_one (x : Us) : ∀ u ∈ encU x, u.oneCell' = true := by
  intro u hu; simp [encU] at hu; rcases hu with rfl | rfl | rfl | rfl <;> rfl

/-- the cells of a new block, as append asks for them -/
theorem cells_new (W : World) (cs : List Value) (t : TypeId) : ∀ j u, cs[j]? = some u → (W.alloc (.cells cs.toArray t)).cell? ((⟨W.heap.size, 0, none⟩ : Addr).add j) = some u := by
  intro j u hu
  have e : (Addr.add ⟨W.heap.size, 0, none⟩ j) = ⟨W.heap.size, j, none⟩ := by unfold Addr.add; split <;> simp_all
  rw [e]
  unfold World.cell?
  rw [show (⟨W.heap.size, j, none⟩ : Addr).block = W.heap.size from rfl, heap_alloc_new W]
  simpa using hu

theorem cells_at (W : World) (cs : List Value) (t : TypeId) (a : Nat) (ha : W.heap.size = a) : ∀ j u, cs[j]? = some u → (W.alloc (.cells cs.toArray t)).cell? ((⟨a, 0, none⟩ : Addr).add j) = some u := by
  subst ha; exact cells_new W cs t

theorem owns_ne {w : World} {base e k n : Nat} {v : Value} {xs : List Value} (h : w.ownsRow base e k v n xs) (g : Nat) (hg : w.heap.size ≤ g) : v.ownBlock ≠ some g := by
  obtain ⟨_, h | ⟨g', cap, cur, rfl, h1, hb, _⟩⟩ := h
  · rw [h.1]; simp [Value.ownBlock]
  · have := (Array.getElem?_eq_some_iff.1 hb).1
    simp [Value.ownBlock]; omega

/-- a cell behind an append onto another row -/
theorem keep_cell {X w1 : World} {v : Value} {g o : Nat} {u : Value} (gr : X.grownBy w1 v.ownBlock) (hc : X.cell? ⟨g, o, none⟩ = some u) (hne : v.ownBlock ≠ some g) : w1.cell? ⟨g, o, none⟩ = some u := by
  have hl := World.block_lt_of_cell? _ _ hc
  rw [World.cell?_of_block (w := X) (gr.block g hl (fun h => hne h.symm))]; exact hc

theorem cell_box (W : World) (cs : Array Value) (t : TypeId) (o : Nat) (u : Value) (hu : cs[o]? = some u) (a : Nat) (ha : W.heap.size = a) : (W.alloc (.cells cs t)).cell? ⟨a, o, none⟩ = some u := by
  subst ha
  unfold World.cell?
  rw [show (⟨W.heap.size, o, none⟩ : Addr).block = W.heap.size from rfl, heap_alloc_new W]
  simpa using hu

theorem cell_up {W : World} {g o : Nat} {u : Value} (h : W.cell? ⟨g, o, none⟩ = some u) (ob : Obj) : (W.alloc ob).cell? ⟨g, o, none⟩ = some u := by
  rw [World.cell?_of_block (w := W) (Below.heap_alloc W ob g (World.block_lt_of_cell? _ _ h))]; exact h

/-- a step of an append onto the call's own row -/
theorem grown_own {B : Nat} {w X w1 : World} {e k : Nat} {v : Value} {n : Nat} {xs : List Value} (hX : Below B w X) (hB : B ≤ w.heap.size) (ho : X.ownsRow B e k v n xs) (gr : X.grownBy w1 v.ownBlock) : Below B w w1 :=
  hX.grown gr (Nat.le_trans hB hX.size) (fun j hj => by
    obtain ⟨_, h | ⟨g, cap, cur, rfl, h1, _⟩⟩ := ho
    · rw [h.1] at hj; simp [Value.ownBlock] at hj
    · simp [Value.ownBlock] at hj; omega)

theorem step_own {P : Program} {w : World} {ops : Array Oper} {o : Oper} {a : Act} {K : Act → World → Prop} {Q : Exit → Act → World → Prop} {F : Prop} (hw : Region.wanted o (yielded ops a.tmps) = true) (s x : Operand) (t : TypeId)
    (ho : o.op = .call { callee := .builtin .append, args := #[s, x], argTypes := #[t, t] })
    (base : Nat) (e : TypeId) (i : TypeInfo) (z : Value) (size bytes : Nat) (ht : P.underlying t = some (.slice e)) (hi : P.info? e = some i) (hz : i.zero = some z)
    (hsize : i.size = size) (hby : i.bytes = bytes) (hzs : z.cells.size = size) (hsz : 0 < size)
    (v : Value) (n : Nat) (xs : List Value) (hs : a.eval s = v) (hown : w.ownsRow base e size v n xs)
    (ad : Addr) (m c : Nat) (news : List Value) (hx : a.eval x = .slice (some ad) m c) (hl : news.length = m * size) (hnews : ∀ j u, news[j]? = some u → w.cell? (ad.add j) = some u) (h1 : ∀ u ∈ news, u.oneCell' = true)
    (h63 : n + m ≤ maxLen) (hbytes : (n + m) * bytes ≤ 140737488355328) (hbase : base ≤ w.heap.size)
    (h : ∀ v' w', w'.ownsRow base e size v' (n + m) (xs ++ news) → w.grownBy w' v.ownBlock → K (a.put o.dst v') w') :
    if Region.wanted o (yielded ops a.tmps) = true then Oper.wp P o a w K Q else F := by
  rw [if_pos hw]
  exact wp_append_own w s x t ho base e i z size bytes ht hi hz hsize hby hzs hsz v n xs hs hown ad m c news hx hl hnews h1 h63 hbytes hbase fun v' w' h2 h3 _ => h v' w' h2 h3

theorem step_own_none {P : Program} {w : World} {ops : Array Oper} {o : Oper} {a : Act} {K : Act → World → Prop} {Q : Exit → Act → World → Prop} {F : Prop} (hw : Region.wanted o (yielded ops a.tmps) = true) (s x : Operand) (t : TypeId)
    (ho : o.op = .call { callee := .builtin .append, args := #[s, x], argTypes := #[t, t] })
    (base : Nat) (e : TypeId) (i : TypeInfo) (size : Nat) (ht : P.underlying t = some (.slice e)) (hi : P.info? e = some i)
    (v : Value) (n : Nat) (xs : List Value) (hs : a.eval s = v) (hown : w.ownsRow base e size v n xs) (hx : a.eval x = .slice none 0 0)
    (h : K (a.put o.dst v) w) :
    if Region.wanted o (yielded ops a.tmps) = true then Oper.wp P o a w K Q else F := by
  rw [if_pos hw]
  have hrun := run_append_owned_none (P := P) (w := w) base t o.type e i size ht hi v n xs hown
  unfold Oper.wp
  simp [execOp, ho, resolve, invoke, builtin, hs, hx, hrun, Result.andThen]
  exact h

end Go.Proofs.Ytbkmcncakpmgkaa

/-! The reference's Add and tidy, Same, Counts, Sound: what each returns. -/
namespace Go.Proofs.Ytbkmcncakpmgkaa
set_option linter.unusedVariables false
open Go.ChangeShapes Go.WideShapes Go.ChangeAt Go.RowKit

/-- Add, as the code goes -/
def addGo (r n : Int) : Bool → List (Int × Int) → List (Int × Int)
  | d, [] => if d = true then [] else [(r, n)]
  | d, s :: t => (if d = false ∧ r < s.1 then [(r, n)] else []) ++ (if s.1 = r then (s.1, s.2 + n) else s) :: addGo r n (d || decide (r < s.1) || decide (s.1 = r)) t

def sumOk (n : Int) (l : List (Int × Int)) : Prop := ∀ i (h : i < l.length), -9223372036854775808 ≤ l[i].2 + n ∧ l[i].2 + n ≤ 9223372036854775807

structure AddRel (w wr : World) (l : List (Int × Int)) (r n : Int) (k : Nat) (v : Value) (d : Bool) (out : List (Int × Int)) : Prop where
  kl : k ≤ l.length
  own : wr.ownsRow w.heap.size 47 2 v out.length (out.flatMap encS)
  is : out ++ addGo r n d (l.drop k) = addGo r n false l
  len : out.length ≤ 2 * k
  below : Below w.heap.size w wr

theorem addGo_drop (r n : Int) (d : Bool) (l : List (Int × Int)) (k : Nat) (h : k < l.length) : addGo r n d (l.drop k) = (if d = false ∧ r < l[k].1 then [(r, n)] else []) ++ (if l[k].1 = r then (l[k].1, l[k].2 + n) else l[k]) :: addGo r n (d || decide (r < l[k].1) || decide (l[k].1 = r)) (l.drop (k + 1)) := by
  rw [List.drop_eq_getElem_cons h, addGo]

theorem AddRel.next {w wr w1 : World} {l : List (Int × Int)} {r n : Int} {k : Nat} {v v' : Value} {d d' : Bool} {out new : List (Int × Int)} (h : AddRel w wr l r n k v d out) (hk : k < l.length) (m : Nat) (cs : List Value) (hm : m = (out ++ new).length)
    (own : w1.ownsRow w.heap.size 47 2 v' m cs) (hcs : cs = (out ++ new).flatMap encS) (hb : Below w.heap.size w w1)
    (hnew : addGo r n d (l.drop k) = new ++ addGo r n d' (l.drop (k + 1))) (h2 : new.length ≤ 2) : AddRel w w1 l r n (k + 1) v' d' (out ++ new) := by
  subst hm hcs
  refine ⟨hk, own, ?_, ?_, hb⟩
  · rw [List.append_assoc, ← hnew]; exact h.is
  · have := h.len; rw [List.length_append]; omega

theorem addGo_lt (r n : Int) (d : Bool) (l : List (Int × Int)) (k : Nat) (h : k < l.length) (x y : Int) (hx : l[k].1 = x) (hy : l[k].2 = y) (h1 : x < r) : addGo r n d (l.drop k) = [(x, y)] ++ addGo r n d (l.drop (k + 1)) := by
  rw [addGo_drop r n d l k h, hx, hy, if_neg (by omega), if_neg (by omega), decide_eq_false (by omega), decide_eq_false (by omega), ← hx, ← hy]; simp
theorem addGo_eq (n : Int) (d : Bool) (l : List (Int × Int)) (k : Nat) (h : k < l.length) (x y : Int) (hx : l[k].1 = x) (hy : l[k].2 = y) : addGo x n d (l.drop k) = [(x, y + n)] ++ addGo x n true (l.drop (k + 1)) := by
  rw [addGo_drop x n d l k h, hx, hy, if_neg (by omega), if_pos rfl, decide_eq_true rfl]; simp
theorem addGo_gtF (r n : Int) (l : List (Int × Int)) (k : Nat) (h : k < l.length) (x y : Int) (hx : l[k].1 = x) (hy : l[k].2 = y) (h1 : r < x) : addGo r n false (l.drop k) = [(r, n), (x, y)] ++ addGo r n true (l.drop (k + 1)) := by
  rw [addGo_drop r n false l k h, hx, hy, if_pos ⟨rfl, h1⟩, if_neg (by omega), decide_eq_true h1, ← hx, ← hy]; simp
theorem addGo_gtT (r n : Int) (l : List (Int × Int)) (k : Nat) (h : k < l.length) (x y : Int) (hx : l[k].1 = x) (hy : l[k].2 = y) (h1 : r < x) : addGo r n true (l.drop k) = [(x, y)] ++ addGo r n true (l.drop (k + 1)) := by
  rw [addGo_drop r n true l k h, hx, hy, if_neg (by simp), if_neg (by omega), ← hx, ← hy]; simp

set_option maxRecDepth 100000 in
set_option maxHeartbeats 1000000 in
theorem add_any (ao : Option Addr) (cap m : Nat) (r n : Int) (l : List (Int × Int)) (w : World) (hm : m ≤ 1000000) (hl : l.length = m) (hr : RowK 2 encS w ao l) (hs : sumOk n l) :
    Calls Try.prog 33 #[.slice ao m cap, .int .i64 r, .int .i64 n] w (SlcK 2 encS w (addGo r n false l)) := by
  have HL := Lib.hid hl
  have HR := Lib.hid hr
  have HS := Lib.hid hs
  clear hl hr hs
  obtain ⟨i0, hi, hz0, hz1, hz2⟩ := info_parts Try.infoS
  go_enter Try.func33, Try.ntmps33
  go_wp2
  go_loopw [7, 8, 9] (fun v d i wr => ∃ (k : Nat) (b : Bool) (out : List (Int × Int)), i = .int .i64 k ∧ d = .bool b ∧ AddRel w wr l r n k v b out) (fun _ _ i _ => m - (intOf i).toNat)
  case atStart => exact ⟨0, false, [], rfl, rfl, ⟨Nat.zero_le _, World.ownsRow_nil _ _ _ _, rfl, Nat.zero_le _, Below.refl _ _⟩⟩
  case round =>
    obtain ⟨k, b, out, rfl, rfl, hrel⟩ := hrel
    have hk : k ≤ m := by rw [← HL.out]; exact hrel.kl
    have hlen := hrel.len
    have REL := Lib.hid hrel
    clear hrel
    by_cases hlt : k < m
    · have hkl : k < l.length := by rw [HL.out]; exact hlt
      obtain ⟨sb, off, rfl, hbl, hc0, hc1⟩ := HR.out.share hkl
      have e0 : wr.cell? ⟨sb, off + k * 2, none⟩ = some (.int .i64 l[k].1) := by rw [REL.out.below.cell (p := ⟨sb, off + k * 2, none⟩) hbl]; exact hc0
      have e1 : wr.cell? ⟨sb, off + k * 2 + 1, none⟩ = some (.int .i64 l[k].2) := by rw [REL.out.below.cell (p := ⟨sb, off + k * 2 + 1, none⟩) hbl]; exact hc1
      have hs := HS.out k hkl
      have HD := Lib.hid (addGo_drop r n b l k hkl)
      obtain ⟨x, hx⟩ : ∃ x, l[k].1 = x := ⟨_, rfl⟩
      obtain ⟨y, hy⟩ : ∃ y, l[k].2 = y := ⟨_, rfl⟩
      rw [hx] at e0
      rw [hy] at e1 hs
      have HX := Lib.hid hx
      have HY := Lib.hid hy
      clear hc0 hc1 hx hy
      rcases Int.lt_trichotomy x r with h1 | h1 | h1
      · rcases b with _ | _
        · go_wp2_with (at_builtin; refine wpList_append_own _ rfl (.tmp 44) (.tmp 46) 23 rfl w.heap.size 47 i0 (.agg #[.int .i64 0, .int .i64 0]) 2 16 Try.underlying23 hi hz0 hz1 hz2 rfl (by decide) _ _ _ rfl ((REL.out.own.alloc _).alloc _) ⟨wr.heap.size + 1, 0, none⟩ 1 1 (encS (x, y)) rfl rfl (cells_at _ _ _ _ (by simp)) (encS_one _) (by unfold maxLen; omega) (by omega) (by have := REL.out.below.size; simp; omega) ?_; intro v' w1 own gr _h)
          have R := REL.out.next hkl _ _ (by simp) own (flat_snoc _ _ _).symm (grown_own ((REL.out.below.alloc REL.out.below.size _).alloc (by have := REL.out.below.size; simp; omega) _) (Nat.le_refl _) ((REL.out.own.alloc _).alloc _) gr) (addGo_lt r n _ l k hkl x y HX.out HY.out h1) (by simp)
          clear own gr _h
          go_wp2
          go_roundw
          case rel => exact ⟨k + 1, _, _, by go_num, rfl, R⟩
          case measure => simp [intOf]; omega
        · go_wp2_with (at_builtin; refine wpList_append_own _ rfl (.tmp 44) (.tmp 46) 23 rfl w.heap.size 47 i0 (.agg #[.int .i64 0, .int .i64 0]) 2 16 Try.underlying23 hi hz0 hz1 hz2 rfl (by decide) _ _ _ rfl ((REL.out.own.alloc _).alloc _) ⟨wr.heap.size + 1, 0, none⟩ 1 1 (encS (x, y)) rfl rfl (cells_at _ _ _ _ (by simp)) (encS_one _) (by unfold maxLen; omega) (by omega) (by have := REL.out.below.size; simp; omega) ?_; intro v' w1 own gr _h)
          have R := REL.out.next hkl _ _ (by simp) own (flat_snoc _ _ _).symm (grown_own ((REL.out.below.alloc REL.out.below.size _).alloc (by have := REL.out.below.size; simp; omega) _) (Nat.le_refl _) ((REL.out.own.alloc _).alloc _) gr) (addGo_lt r n _ l k hkl x y HX.out HY.out h1) (by simp)
          clear own gr _h
          go_wp2
          go_roundw
          case rel => exact ⟨k + 1, _, _, by go_num, rfl, R⟩
          case measure => simp [intOf]; omega
      · subst h1
        rcases b with _ | _
        · go_wp2_with (at_builtin; refine wpList_append_own _ rfl (.tmp 44) (.tmp 46) 23 rfl w.heap.size 47 i0 (.agg #[.int .i64 0, .int .i64 0]) 2 16 Try.underlying23 hi hz0 hz1 hz2 rfl (by decide) _ _ _ rfl ((REL.out.own.alloc _).alloc _) ⟨wr.heap.size + 1, 0, none⟩ 1 1 (encS (x, y + n)) rfl rfl (cells_at _ _ _ _ (by simp)) (encS_one _) (by unfold maxLen; omega) (by omega) (by have := REL.out.below.size; simp; omega) ?_; intro v' w1 own gr _h)
          have R := REL.out.next hkl _ _ (by simp) own (flat_snoc _ _ _).symm (grown_own ((REL.out.below.alloc REL.out.below.size _).alloc (by have := REL.out.below.size; simp; omega) _) (Nat.le_refl _) ((REL.out.own.alloc _).alloc _) gr) (addGo_eq n _ l k hkl x y HX.out HY.out) (by simp)
          clear own gr _h
          go_wp2
          go_roundw
          case rel => exact ⟨k + 1, _, _, by go_num, rfl, R⟩
          case measure => simp [intOf]; omega
        · go_wp2_with (at_builtin; refine wpList_append_own _ rfl (.tmp 44) (.tmp 46) 23 rfl w.heap.size 47 i0 (.agg #[.int .i64 0, .int .i64 0]) 2 16 Try.underlying23 hi hz0 hz1 hz2 rfl (by decide) _ _ _ rfl ((REL.out.own.alloc _).alloc _) ⟨wr.heap.size + 1, 0, none⟩ 1 1 (encS (x, y + n)) rfl rfl (cells_at _ _ _ _ (by simp)) (encS_one _) (by unfold maxLen; omega) (by omega) (by have := REL.out.below.size; simp; omega) ?_; intro v' w1 own gr _h)
          have R := REL.out.next hkl _ _ (by simp) own (flat_snoc _ _ _).symm (grown_own ((REL.out.below.alloc REL.out.below.size _).alloc (by have := REL.out.below.size; simp; omega) _) (Nat.le_refl _) ((REL.out.own.alloc _).alloc _) gr) (addGo_eq n _ l k hkl x y HX.out HY.out) (by simp)
          clear own gr _h
          go_wp2
          go_roundw
          case rel => exact ⟨k + 1, _, _, by go_num, rfl, R⟩
          case measure => simp [intOf]; omega
      · rcases b with _ | _
        · go_wp2_with (first | (at_builtin; refine wpList_append_own _ rfl (.tmp 29) (.tmp 33) 23 rfl w.heap.size 47 i0 (.agg #[.int .i64 0, .int .i64 0]) 2 16 Try.underlying23 hi hz0 hz1 hz2 rfl (by decide) _ _ _ rfl ((REL.out.own.alloc _).alloc _) ⟨wr.heap.size + 1, 0, none⟩ 1 1 (encS (r, n)) rfl rfl (cells_at _ _ _ _ (by simp)) (encS_one _) (by unfold maxLen; omega) (by omega) (by have := REL.out.below.size; simp; omega) ?_; intro v1 wa own1 gr1 _h1; have f0 := keep_cell gr1 (cell_up (cell_box wr #[.int .i64 x, .int .i64 y] 47 0 _ rfl wr.heap.size rfl) _) (owns_ne REL.out.own _ (Nat.le_refl _)); have f1 := keep_cell gr1 (cell_up (cell_box wr #[.int .i64 x, .int .i64 y] 47 1 _ rfl wr.heap.size rfl) _) (owns_ne REL.out.own _ (Nat.le_refl _)); have GR1 := Lib.hid gr1; have OWN1 := Lib.hid own1; have B1 := Lib.hid (grown_own ((REL.out.below.alloc REL.out.below.size _).alloc (by have := REL.out.below.size; simp; omega) _) (Nat.le_refl _) ((REL.out.own.alloc _).alloc _) gr1); clear gr1 own1 _h1) | (at_builtin; refine wpList_append_own _ rfl (.tmp 44) (.tmp 46) 23 rfl w.heap.size 47 i0 (.agg #[.int .i64 0, .int .i64 0]) 2 16 Try.underlying23 hi hz0 hz1 hz2 rfl (by decide) _ _ _ rfl (OWN1.out.alloc _) ⟨wa.heap.size, 0, none⟩ 1 1 (encS (x, y)) rfl rfl (cells_at _ _ _ _ rfl) (encS_one _) (by unfold maxLen; omega) (by omega) (by have := B1.out.size; simp; omega) ?_; intro v' w1 own gr _h))
          have R := REL.out.next (new := [(r, n), (x, y)]) hkl _ _ (by simp) own (by simp) (grown_own (B1.out.alloc B1.out.size _) (Nat.le_refl _) (OWN1.out.alloc _) gr) (addGo_gtF r n l k hkl x y HX.out HY.out h1) (by simp)
          clear own gr _h
          go_wp2
          go_roundw
          case rel => exact ⟨k + 1, _, _, by go_num, rfl, R⟩
          case measure => simp [intOf]; omega
        · go_wp2_with (at_builtin; refine wpList_append_own _ rfl (.tmp 44) (.tmp 46) 23 rfl w.heap.size 47 i0 (.agg #[.int .i64 0, .int .i64 0]) 2 16 Try.underlying23 hi hz0 hz1 hz2 rfl (by decide) _ _ _ rfl ((REL.out.own.alloc _).alloc _) ⟨wr.heap.size + 1, 0, none⟩ 1 1 (encS (x, y)) rfl rfl (cells_at _ _ _ _ (by simp)) (encS_one _) (by unfold maxLen; omega) (by omega) (by have := REL.out.below.size; simp; omega) ?_; intro v' w1 own gr _h)
          have R := REL.out.next hkl _ _ (by simp) own (flat_snoc _ _ _).symm (grown_own ((REL.out.below.alloc REL.out.below.size _).alloc (by have := REL.out.below.size; simp; omega) _) (Nat.le_refl _) ((REL.out.own.alloc _).alloc _) gr) (addGo_gtT r n l k hkl x y HX.out HY.out h1) (by simp)
          clear own gr _h
          go_wp2
          go_roundw
          case rel => exact ⟨k + 1, _, _, by go_num, rfl, R⟩
          case measure => simp [intOf]; omega
    · have hkm : k = m := by omega
      have hd : l.drop k = [] := List.drop_eq_nil_of_le (by rw [HL.out]; omega)
      have hq := REL.out.is
      rw [hd] at hq
      clear hd
      rcases b with _ | _
      · have Q := Lib.hid (show out ++ [(r, n)] = addGo r n false l by simpa [addGo] using hq)
        clear hq
        go_wp2_with (at_builtin; refine wpList_append_own _ rfl (.tmp 50) (.tmp 54) 23 rfl w.heap.size 47 i0 (.agg #[.int .i64 0, .int .i64 0]) 2 16 Try.underlying23 hi hz0 hz1 hz2 rfl (by decide) _ _ _ rfl (REL.out.own.alloc _) ⟨wr.heap.size, 0, none⟩ 1 1 (encS (r, n)) rfl rfl (cells_at _ _ _ _ rfl) (encS_one _) (by unfold maxLen; omega) (by omega) (by have := REL.out.below.size; simp; omega) ?_; intro v' w1 own gr _h)
        go_ret
        rw [← flat_snoc, Q.out] at own
        exact fin_S own (grown_own (REL.out.below.alloc REL.out.below.size _) (Nat.le_refl _) (REL.out.own.alloc _) gr)
      · have Q := Lib.hid (show out = addGo r n false l by simpa [addGo] using hq)
        clear hq
        go_wp2
        go_ret
        have own := REL.out.own
        rw [Q.out] at own
        exact fin_S own REL.out.below

end Go.Proofs.Ytbkmcncakpmgkaa

/-! The small functions: Counts, Sound, sound, tidy, Same, total: what each returns. -/
namespace Go.Proofs.Ytbkmcncakpmgkaa
set_option linter.unusedVariables false
open Go.ChangeShapes Go.WideShapes Go.ChangeAt Go.RowKit

def countsB (u : Us) : Bool := decide (0 ≤ u.val ∧ u.val ≤ 1000000000 ∧ 0 ≤ u.held ∧ u.held ≤ 1000000000 ∧ 0 < u.val + u.held)
def soundB (s : Int × Int) : Bool := decide (0 ≤ s.2 ∧ s.2 ≤ 1000000000000000)

theorem counts_any (u : Us) (w : World) :
    Calls Try.prog 24 #[.agg #[.int .i64 u.acc, .int .i64 u.rcd, .int .i64 u.val, .int .i64 u.held]] w fun e w' => e = .returned (.bool (countsB u)) ∧ Below w.heap.size w w' := by
  have hB : ∀ (W : World) (o : Obj), Below W.heap.size W (W.alloc o) := fun W o => (Below.refl _ _).alloc (Nat.le_refl _) _
  have hp : countsB u = decide (0 ≤ u.val ∧ u.val ≤ 1000000000 ∧ 0 ≤ u.held ∧ u.held ≤ 1000000000 ∧ 0 < u.val + u.held) := rfl
  obtain ⟨a, r, v, h⟩ := u
  dsimp only at hp ⊢
  by_cases h1 : 0 ≤ v
  · by_cases h2 : v ≤ 1000000000
    · by_cases h3 : 0 ≤ h
      · by_cases h4 : h ≤ 1000000000
        · by_cases h5 : 0 < v + h
          · rw [decide_eq_true (by omega)] at hp
            have HP := Lib.hid hp
            clear hp
            go_enter Try.func24, Try.ntmps24
            go_wp2
            go_ret
            exact ⟨by rw [HP.out]; rfl, hB _ _⟩
          · rw [decide_eq_false (by omega)] at hp
            have HP := Lib.hid hp
            clear hp
            go_enter Try.func24, Try.ntmps24
            go_wp2
            go_ret
            exact ⟨by rw [HP.out]; rfl, hB _ _⟩
        · rw [decide_eq_false (by omega)] at hp
          have HP := Lib.hid hp
          clear hp
          go_enter Try.func24, Try.ntmps24
          go_wp2
          go_ret
          exact ⟨by rw [HP.out]; rfl, hB _ _⟩
      · rw [decide_eq_false (by omega)] at hp
        have HP := Lib.hid hp
        clear hp
        go_enter Try.func24, Try.ntmps24
        go_wp2
        go_ret
        exact ⟨by rw [HP.out]; rfl, hB _ _⟩
    · rw [decide_eq_false (by omega)] at hp
      have HP := Lib.hid hp
      clear hp
      go_enter Try.func24, Try.ntmps24
      go_wp2
      go_ret
      exact ⟨by rw [HP.out]; rfl, hB _ _⟩
  · rw [decide_eq_false (by omega)] at hp
    have HP := Lib.hid hp
    clear hp
    go_enter Try.func24, Try.ntmps24
    go_wp2
    go_ret
    exact ⟨by rw [HP.out]; rfl, hB _ _⟩

theorem rsound_any (x y : Int) (w : World) :
    Calls Try.prog 30 #[.agg #[.int .i64 x, .int .i64 y]] w fun e w' => e = .returned (.bool (soundB (x, y))) ∧ Below w.heap.size w w' := by
  have hB : ∀ (W : World) (o : Obj), Below W.heap.size W (W.alloc o) := fun W o => (Below.refl _ _).alloc (Nat.le_refl _) _
  have hp : soundB (x, y) = decide (0 ≤ y ∧ y ≤ 1000000000000000) := rfl
  by_cases h1 : 0 ≤ y
  · by_cases h2 : y ≤ 1000000000000000
    · rw [decide_eq_true (by omega)] at hp
      have HP := Lib.hid hp
      clear hp
      go_enter Try.func30, Try.ntmps30
      go_wp2
      go_ret
      exact ⟨by rw [HP.out]; rfl, hB _ _⟩
    · rw [decide_eq_false (by omega)] at hp
      have HP := Lib.hid hp
      clear hp
      go_enter Try.func30, Try.ntmps30
      go_wp2
      go_ret
      exact ⟨by rw [HP.out]; rfl, hB _ _⟩
  · rw [decide_eq_false (by omega)] at hp
    have HP := Lib.hid hp
    clear hp
    go_enter Try.func30, Try.ntmps30
    go_wp2
    go_ret
    exact ⟨by rw [HP.out]; rfl, hB _ _⟩

theorem sound_any (x y : Int) (w : World) :
    Calls Try.prog 27 #[.agg #[.int .i64 x, .int .i64 y]] w fun e w' => e = .returned (.bool (soundB (x, y))) ∧ Below w.heap.size w w' := by
  have hB : ∀ (W : World) (o : Obj), Below W.heap.size W (W.alloc o) := fun W o => (Below.refl _ _).alloc (Nat.le_refl _) _
  have hp : soundB (x, y) = decide (0 ≤ y ∧ y ≤ 1000000000000000) := rfl
  by_cases h1 : 0 ≤ y
  · by_cases h2 : y ≤ 1000000000000000
    · rw [decide_eq_true (by omega)] at hp
      have HP := Lib.hid hp
      clear hp
      go_enter Try.func27, Try.ntmps27
      go_wp2
      go_ret
      exact ⟨by rw [HP.out]; rfl, hB _ _⟩
    · rw [decide_eq_false (by omega)] at hp
      have HP := Lib.hid hp
      clear hp
      go_enter Try.func27, Try.ntmps27
      go_wp2
      go_ret
      exact ⟨by rw [HP.out]; rfl, hB _ _⟩
  · rw [decide_eq_false (by omega)] at hp
    have HP := Lib.hid hp
    clear hp
    go_enter Try.func27, Try.ntmps27
    go_wp2
    go_ret
    exact ⟨by rw [HP.out]; rfl, hB _ _⟩

def tidyL (l : List (Int × Int)) : List (Int × Int) := l.filter fun s => decide (0 < s.2)

theorem tidy_succ (l : List (Int × Int)) (k : Nat) (h : k < l.length) : tidyL (l.take (k + 1)) = tidyL (l.take k) ++ (if 0 < l[k].2 then [l[k]] else []) := by
  unfold tidyL
  rw [List.take_succ_eq_append_getElem h, List.filter_append]
  congr 1
  by_cases c : 0 < l[k].2 <;> simp [c]
theorem tidy_len (l : List (Int × Int)) (k : Nat) : (tidyL (l.take k)).length ≤ k := Nat.le_trans (List.length_filter_le _ _) (by rw [List.length_take]; omega)

set_option maxRecDepth 100000 in
set_option maxHeartbeats 1000000 in
theorem tidy_any (ao : Option Addr) (cap m : Nat) (l : List (Int × Int)) (w : World) (hm : m ≤ 1000000) (hl : l.length = m) (hr : RowK 2 encS w ao l) :
    Calls Try.prog 34 #[.slice ao m cap] w (SlcK 2 encS w (tidyL l)) := by
  have HL := Lib.hid hl
  have HR := Lib.hid hr
  clear hl hr
  obtain ⟨i0, hi, hz0, hz1, hz2⟩ := info_parts Try.infoS
  go_enter Try.func34, Try.ntmps34
  go_wp2
  go_loopw [3, 4] (fun v i wr => ∃ k : Nat, k ≤ m ∧ i = .int .i64 k ∧ wr.ownsRow w.heap.size 47 2 v (tidyL (l.take k)).length ((tidyL (l.take k)).flatMap encS) ∧ Below w.heap.size w wr) (fun _ i _ => m - (intOf i).toNat)
  case atStart => exact ⟨0, Nat.zero_le _, rfl, World.ownsRow_nil _ _ _ _, Below.refl _ _⟩
  case round =>
    obtain ⟨k, hk, rfl, hown, hb⟩ := hrel
    have HO := Lib.hid hown
    have HB := Lib.hid hb
    clear hown hb
    have hlen := tidy_len l k
    by_cases hlt : k < m
    · have hkl : k < l.length := by rw [HL.out]; exact hlt
      obtain ⟨sb, off, rfl, hbl, hc0, hc1⟩ := HR.out.share hkl
      have e0 : wr.cell? ⟨sb, off + k * 2, none⟩ = some (.int .i64 l[k].1) := by rw [HB.out.cell (p := ⟨sb, off + k * 2, none⟩) hbl]; exact hc0
      have e1 : wr.cell? ⟨sb, off + k * 2 + 1, none⟩ = some (.int .i64 l[k].2) := by rw [HB.out.cell (p := ⟨sb, off + k * 2 + 1, none⟩) hbl]; exact hc1
      have HT := Lib.hid (tidy_succ l k hkl)
      obtain ⟨x, hx⟩ : ∃ x, l[k].1 = x := ⟨_, rfl⟩
      obtain ⟨y, hy⟩ : ∃ y, l[k].2 = y := ⟨_, rfl⟩
      have HXY := Lib.hid (show l[k] = (x, y) by rw [← hx, ← hy])
      rw [hx] at e0
      rw [hy] at e1
      clear hc0 hc1 hx hy
      by_cases h1 : 0 < y
      · have HN := Lib.hid (show tidyL (l.take (k + 1)) = tidyL (l.take k) ++ [(x, y)] by rw [HT.out, HXY.out, if_pos h1])
        go_wp2_with (at_builtin; refine wpList_append_own _ rfl (.tmp 17) (.tmp 22) 23 rfl w.heap.size 47 i0 (.agg #[.int .i64 0, .int .i64 0]) 2 16 Try.underlying23 hi hz0 hz1 hz2 rfl (by decide) _ _ _ rfl (HO.out.alloc _) ⟨wr.heap.size, 0, none⟩ 1 1 (encS (x, y)) rfl rfl (cells_at _ _ _ _ rfl) (encS_one _) (by unfold maxLen; omega) (by omega) (by have := HB.out.size; simp; omega) ?_; intro v' w1 own gr _h)
        have R : w1.ownsRow w.heap.size 47 2 v' (tidyL (l.take (k + 1))).length ((tidyL (l.take (k + 1))).flatMap encS) ∧ Below w.heap.size w w1 := by
          refine ⟨?_, grown_own (HB.out.alloc HB.out.size _) (Nat.le_refl _) (HO.out.alloc _) gr⟩
          rw [HN.out, flat_snoc, List.length_append]; exact own
        clear own gr _h
        go_wp2
        go_roundw
        case rel => exact ⟨k + 1, by omega, by go_num, R.1, R.2⟩
        case measure => simp [intOf]; omega
      · have HN := Lib.hid (show tidyL (l.take (k + 1)) = tidyL (l.take k) by rw [HT.out, HXY.out, if_neg h1, List.append_nil])
        go_wp2
        go_roundw
        case rel => exact ⟨k + 1, by omega, by go_num, by rw [HN.out]; exact HO.out, HB.out⟩
        case measure => simp [intOf]; omega
    · have HN := Lib.hid (show l.take k = l from List.take_of_length_le (by rw [HL.out]; omega))
      go_wp2
      go_ret
      have own := HO.out
      rw [HN.out] at own
      exact fin_S own HB.out

end Go.Proofs.Ytbkmcncakpmgkaa

/-! The reference's Same on lists of shares. -/
namespace Go.Proofs.Ytbkmcncakpmgkaa
set_option linter.unusedVariables false
open Go.ChangeShapes Go.WideShapes Go.ChangeAt Go.RowKit

theorem eq_of_get {α : Type} {a b : List α} (h : a.length = b.length) (h2 : ∀ i, i < a.length → a[i]? = b[i]?) : a = b := by
  apply List.ext_getElem?
  intro i
  rcases Nat.lt_or_ge i a.length with h3 | h3
  · exact h2 i h3
  · rw [List.getElem?_eq_none h3, List.getElem?_eq_none (by omega)]

theorem sameS_short (ao bo : Option Addr) (cap cap' : Nat) (a b : List (Int × Int)) (w : World) (hne : a.length ≠ b.length) :
    Calls Try.prog 14 #[.slice ao a.length cap, .slice bo b.length cap'] w fun e w' => e = .returned (.bool (decide (a = b))) ∧ ∃ n, w' = w.drewN n := by
  have e1 : decide (a = b) = false := decide_eq_false (fun h => hne (by rw [h]))
  have HF := Lib.hid e1
  clear e1
  generalize a.length = n at *
  generalize b.length = n' at *
  have h1 : ((n : Int) != (n' : Int)) = true := by rw [bne_iff_ne]; omega
  have h2 : (n != n') = true := by rw [bne_iff_ne]; omega
  go_enter Try.func14, Try.ntmps14
  go_wp2
  go_ret
  exact ⟨by rw [HF.out]; rfl, 0, rfl⟩

set_option maxRecDepth 100000 in
set_option maxHeartbeats 1000000 in
theorem sameS_long (ao bo : Option Addr) (cap cap' : Nat) (a b : List (Int × Int)) (n : Nat) (w : World) (ha : a.length = n) (hb : b.length = n) (hl : n ≤ 1000000) (hra : RowK 2 encS w ao a) (hrb : RowK 2 encS w bo b) :
    Calls Try.prog 14 #[.slice ao n cap, .slice bo n cap'] w fun e w' => e = .returned (.bool (decide (a = b))) ∧ ∃ n, w' = w.drewN n := by
  have HA := Lib.hid ha
  have HB := Lib.hid hb
  have HRA := Lib.hid hra
  have HRB := Lib.hid hrb
  clear ha hb hra hrb
  have h1 : ((n : Int) != (n : Int)) = false := by simp
  have h2 : (n != n) = false := by simp
  go_enter Try.func14, Try.ntmps14
  go_wp2
  go_loopw [5] (fun i wr => ∃ k m : Nat, k ≤ n ∧ (∀ j, j < k → a[j]? = b[j]?) ∧ i = .int .i64 k ∧ wr = w.drewN m) (fun i _ => n - (intOf i).toNat)
  case atStart => exact ⟨0, 0, Nat.zero_le _, fun j hj => by omega, rfl, rfl⟩
  case round =>
    obtain ⟨k, m, hk, hp, rfl, rfl⟩ := hrel
    have HP := Lib.hid hp
    clear hp
    by_cases hlt : k < n
    · have hka : k < a.length := by rw [HA.out]; exact hlt
      have hkb : k < b.length := by rw [HB.out]; exact hlt
      obtain ⟨ba, oa, rfl, hba, hca, hca'⟩ := HRA.out.share hka
      obtain ⟨bb, ob, rfl, hbb, hcb, hcb'⟩ := HRB.out.share hkb
      have HGA := Lib.hid (show a[k]? = some (a[k].1, a[k].2) by rw [List.getElem?_eq_getElem hka])
      have HGB := Lib.hid (show b[k]? = some (b[k].1, b[k].2) by rw [List.getElem?_eq_getElem hkb])
      obtain ⟨x, hx⟩ : ∃ x, x = a[k].1 := ⟨_, rfl⟩
      obtain ⟨y, hy⟩ : ∃ y, y = b[k].1 := ⟨_, rfl⟩
      obtain ⟨x', hx'⟩ : ∃ x, x = a[k].2 := ⟨_, rfl⟩
      obtain ⟨y', hy'⟩ : ∃ y, y = b[k].2 := ⟨_, rfl⟩
      rw [← hx] at hca HGA
      rw [← hy] at hcb HGB
      rw [← hx'] at hca' HGA
      rw [← hy'] at hcb' HGB
      clear hx hy hx' hy'
      by_cases e : x = y ∧ x' = y'
      · obtain ⟨rfl, rfl⟩ := e
        go_wp2
        go_quiet (fail)
        go_wp2
        go_roundw
        case rel =>
          refine ⟨k + 1, m + nq, by omega, ?_, by go_num, by first | rfl | simp [World.drewN_drewN]⟩
          intro j hj
          rcases Nat.lt_or_ge j k with h | h
          · exact HP.out j h
          · have : j = k := by omega
            subst this; rw [HGA.out, HGB.out]
        case measure => simp [intOf]; omega
      · have e1 : decide (a = b) = false := decide_eq_false fun h => e (by
          have h3 := HGA.out
          rw [h, HGB.out] at h3
          simp only [Option.some.injEq, Prod.mk.injEq] at h3
          exact ⟨h3.1.symm, h3.2.symm⟩)
        have HF := Lib.hid e1
        clear e1
        by_cases ex : x = y
        · have ex' : x' ≠ y' := fun h => e ⟨ex, h⟩
          subst ex
          have hq : (x' == y') = false := beq_eq_false_iff_ne.2 ex'
          clear e ex'
          go_wp2
          go_quiet (fail)
          go_wp2
          go_ret
          exact ⟨by rw [HF.out]; rfl, m + nq, by first | rfl | simp [World.drewN_drewN]⟩
        · have hq : (x == y) = false := beq_eq_false_iff_ne.2 ex
          clear e ex
          go_wp2
          go_quiet (fail)
          go_wp2
          go_ret
          exact ⟨by rw [HF.out]; rfl, m + nq, by first | rfl | simp [World.drewN_drewN]⟩
    · have e1 : decide (a = b) = true := decide_eq_true (eq_of_get (by rw [HA.out, HB.out]) fun i hi => HP.out i (by rw [HA.out] at hi; omega))
      have HF := Lib.hid e1
      clear e1
      go_wp2
      go_ret
      exact ⟨by rw [HF.out]; rfl, m, rfl⟩

/-- Same: two slices that read as lists -/
theorem sameS_any (ao bo : Option Addr) (cap cap' : Nat) (a b : List (Int × Int)) (n n' : Nat) (w : World) (ha : a.length = n) (hb : b.length = n') (hl : n ≤ 1000000) (hra : RowK 2 encS w ao a) (hrb : RowK 2 encS w bo b) :
    Calls Try.prog 14 #[.slice ao n cap, .slice bo n' cap'] w fun e w' => e = .returned (.bool (decide (a = b))) ∧ ∃ n, w' = w.drewN n := by
  subst ha hb
  by_cases h : a.length = b.length
  · have := sameS_long ao bo cap cap' a b a.length w rfl h.symm hl hra hrb
    rw [← h]; exact this
  · exact sameS_short ao bo cap cap' a b w h

end Go.Proofs.Ytbkmcncakpmgkaa
