/-
  fact.Valid: the walk. A play: does it qualify, when does it end.
-/
import Derived.Test.YtffifhbldcjelaaGreatDoorDs19
import Derived.Laws.StructEq
import Derived.Shelf.Abstract
import Derived.Deep.LoopGhost
import Derived.Deep.DeepCutAuto

/-! fact.Valid: the walk. -/
namespace Go.Proofs.YtffifhbldcjelaaGreatDoor
set_option linter.unusedVariables false
set_option linter.unusedSimpArgs false
open Go.RowKit

def updN (n : Nat → Int) (i : Nat) : Nat → Int := fun j => if j = i then 0 else n j
/-- the fields are within their limits; each becomes zero -/
def allIn (n : Nat → Int) : List Fd → Bool
  | [] => true
  | x :: l => inB (n x.i) x.lo x.hi && allIn (updN n x.i) l
def zeroN (n : Nat → Int) : List Fd → Nat → Int
  | [] => n
  | x :: l => zeroN (updN n x.i) l
def emptyN (n : Nat → Int) (t : ByteArray) (k v : Int) : Bool := (n 0 == k) && ((n 1 == 0) && ((n 2 == v) && ((n 3 == 0) && ((n 4 == 0) && ((n 5 == 0) && ((n 6 == 0) && ((n 7 == 0) && ((n 8 == 0) && ((n 9 == 0) && ((n 10 == 0) && ((n 11 == 0) && ((n 12 == 0) && ((n 13 == 0) && ((n 14 == 0) && ((n 15 == 0) && ((n 16 == 0) && ((t.toList == (⟨#[]⟩ : ByteArray).toList) && true)))))))))))))))))
def headOk (f : PF) : Bool := decide (1 ≤ f.n 2) && decide (f.n 2 ≤ 1000) && decide (f.t.size ≤ 2000)
def validL (f : PF) (L : List Fd) (tx : Bool) : Bool := headOk f && (allIn f.n L && emptyN (zeroN f.n L) (if tx then ⟨#[]⟩ else f.t) (f.n 0) (f.n 2))
/-- a valid play -/
def validP (f : PF) : Bool := validL f playL false

/-- a record -/
def RecAt (w : World) (b : Nat) (n : Nat → Int) (t : ByteArray) : Prop := w.heap[b]? = some (.cells (encP ⟨n, t⟩).toArray 71 (0, 0))
theorem RecAt.cell {w : World} {b : Nat} {n : Nat → Int} {t : ByteArray} (h : RecAt w b n t) {i : Nat} (hi : i < 17) : w.cell? ⟨b, i, none⟩ = some (.int .i64 (n i)) := by
  have e : ∀ i : Nat, i < 17 → (encP ⟨n, t⟩).toArray[i]? = some (.int .i64 (n i)) := by
    intro i hi
    match i, hi with
    | 0, _ => rfl | 1, _ => rfl | 2, _ => rfl | 3, _ => rfl | 4, _ => rfl | 5, _ => rfl | 6, _ => rfl | 7, _ => rfl | 8, _ => rfl
    | 9, _ => rfl | 10, _ => rfl | 11, _ => rfl | 12, _ => rfl | 13, _ => rfl | 14, _ => rfl | 15, _ => rfl | 16, _ => rfl
    | k + 17, h => omega
  unfold World.cell?
  rw [show (⟨b, i, none⟩ : Addr).block = b from rfl, h]
  exact e i hi
theorem RecAt.frozen {w : World} {b : Nat} {n : Nat → Int} {t : ByteArray} (h : RecAt w b n t) (i : Nat) : w.frozen? ⟨b, i, none⟩ = false := by
  unfold World.frozen?
  rw [show (⟨b, i, none⟩ : Addr).block = b from rfl, h]
  simp
theorem RecAt.lt {w : World} {b : Nat} {n : Nat → Int} {t : ByteArray} (h : RecAt w b n t) : b < w.heap.size := (Array.getElem?_eq_some_iff.1 h).1
theorem RecAt.later {w w' : World} {b : Nat} {n : Nat → Int} {t : ByteArray} (h : RecAt w b n t) (hb : Below w.heap.size w w') : RecAt w' b n t := (hb.block b h.lt).trans h
theorem RecAt.zero {w : World} {b : Nat} {n : Nat → Int} {t : ByteArray} (h : RecAt w b n t) {i : Nat} (hi : i < 17) : RecAt (w.setCell ⟨b, i, none⟩ (.int .i64 0)) b (updN n i) t := by
  unfold RecAt at *
  have e : (encP ⟨n, t⟩).toArray.setIfInBounds i (.int .i64 0) = (encP ⟨updN n i, t⟩).toArray := by
    match i, hi with
    | 0, _ => rfl | 1, _ => rfl | 2, _ => rfl | 3, _ => rfl | 4, _ => rfl | 5, _ => rfl | 6, _ => rfl | 7, _ => rfl | 8, _ => rfl
    | 9, _ => rfl | 10, _ => rfl | 11, _ => rfl | 12, _ => rfl | 13, _ => rfl | 14, _ => rfl | 15, _ => rfl | 16, _ => rfl
    | k + 17, h => omega
  simp [World.setCell, Array.getElem?_modify, h, ← e]

/-- what stands at a kind: its functions, and what its fields are -/
structure KindOk (f : PF) (kf : Nat) (tx : Bool) (L : List Fd) : Prop where
  enter : ∀ args w, (callFunc kf args).run Tryz.prog w = .ok (.enter kf args) w
  call : ∀ b w, RecAt w b f.n f.t → Calls Tryz.prog kf #[.pointer (some ⟨b, 0, none⟩)] w (FieldsE w b L)
  lt : ∀ x ∈ L, x.i < 17
  len : L.length ≤ 8
  one : f.n 0 = 1 → L = playL ∧ tx = false
theorem kind_ok (f : PF) : (kindV (f.n 0) = none ∧ f.n 0 ≠ 1) ∨ ∃ kf tx kv L, kindV (f.n 0) = some (.agg #[.func (.func kf) #[] #[], .bool tx, .func (.func kv) #[] #[]]) ∧ KindOk f kf tx L := by
  unfold kindV
  by_cases h10 : f.n 0 = 10
  · refine .inr ⟨80, _, _, methodL, by rw [h10]; rfl, enters_of Tryz.func80 (by kernel_rfl) rfl, fun b w h => method_any b w, by intro x hx; simp only [methodL, List.mem_cons, List.not_mem_nil, or_false] at hx; rcases hx with rfl | rfl | rfl <;> exact Nat.le_of_ble_eq_true rfl, Nat.le_of_ble_eq_true rfl, fun e => by omega⟩
  by_cases h9 : f.n 0 = 9
  · refine .inr ⟨78, _, _, rulesL, by rw [h9]; rfl, enters_of Tryz.func78 (by kernel_rfl) rfl, fun b w h => rules_any b w, by intro x hx; simp only [rulesL, List.mem_cons, List.not_mem_nil, or_false] at hx; rcases hx with rfl <;> exact Nat.le_of_ble_eq_true rfl, Nat.le_of_ble_eq_true rfl, fun e => by omega⟩
  by_cases h8 : f.n 0 = 8
  · refine .inr ⟨77, _, _, advanceL, by rw [h8]; rfl, enters_of Tryz.func77 (by kernel_rfl) rfl, fun b w h => advance_any b w, by intro x hx; simp only [advanceL, List.mem_cons, List.not_mem_nil, or_false] at hx; rcases hx with rfl | rfl | rfl | rfl <;> exact Nat.le_of_ble_eq_true rfl, Nat.le_of_ble_eq_true rfl, fun e => by omega⟩
  by_cases h7 : f.n 0 = 7
  · refine .inr ⟨75, _, _, rateL, by rw [h7]; rfl, enters_of Tryz.func75 (by kernel_rfl) rfl, fun b w h => rate_any b w, by intro x hx; simp only [rateL, List.mem_cons, List.not_mem_nil, or_false] at hx; rcases hx with rfl | rfl | rfl <;> exact Nat.le_of_ble_eq_true rfl, Nat.le_of_ble_eq_true rfl, fun e => by omega⟩
  by_cases h6 : f.n 0 = 6
  · refine .inr ⟨73, _, _, subscriptionL, by rw [h6]; rfl, enters_of Tryz.func73 (by kernel_rfl) rfl, fun b w h => subscription_any b w, by intro x hx; simp only [subscriptionL, List.mem_cons, List.not_mem_nil, or_false] at hx; rcases hx with rfl | rfl | rfl | rfl | rfl <;> exact Nat.le_of_ble_eq_true rfl, Nat.le_of_ble_eq_true rfl, fun e => by omega⟩
  by_cases h5 : f.n 0 = 5
  · refine .inr ⟨72, _, _, revenueL, by rw [h5]; rfl, enters_of Tryz.func72 (by kernel_rfl) rfl, fun b w h => revenue_any b w, by intro x hx; simp only [revenueL, List.mem_cons, List.not_mem_nil, or_false] at hx; rcases hx with rfl | rfl | rfl | rfl | rfl <;> exact Nat.le_of_ble_eq_true rfl, Nat.le_of_ble_eq_true rfl, fun e => by omega⟩
  by_cases h4 : f.n 0 = 4
  · refine .inr ⟨70, _, _, contractL, by rw [h4]; rfl, enters_of Tryz.func70 (by kernel_rfl) rfl, fun b w h => contract_any b w, by intro x hx; simp only [contractL, List.mem_cons, List.not_mem_nil, or_false] at hx; rcases hx with rfl | rfl <;> exact Nat.le_of_ble_eq_true rfl, Nat.le_of_ble_eq_true rfl, fun e => by omega⟩
  by_cases h3 : f.n 0 = 3
  · refine .inr ⟨68, _, _, (claimL f), by rw [h3]; rfl, enters_of Tryz.func68 (by kernel_rfl) rfl, fun b w h => claim_any b f w (h.cell (by omega)), by intro x hx; simp only [claimL, List.mem_cons, List.not_mem_nil, or_false] at hx; rcases hx with rfl | rfl | rfl | rfl | rfl | rfl | rfl | rfl <;> exact Nat.le_of_ble_eq_true rfl, Nat.le_of_ble_eq_true rfl, fun e => by omega⟩
  by_cases h2 : f.n 0 = 2
  · refine .inr ⟨67, _, _, markL, by rw [h2]; rfl, enters_of Tryz.func67 (by kernel_rfl) rfl, fun b w h => mark_any b w, by intro x hx; simp only [markL, List.mem_cons, List.not_mem_nil, or_false] at hx; rcases hx with rfl | rfl | rfl <;> exact Nat.le_of_ble_eq_true rfl, Nat.le_of_ble_eq_true rfl, fun e => by omega⟩
  by_cases h1 : f.n 0 = 1
  · refine .inr ⟨65, _, _, playL, by rw [h1]; rfl, enters_of Tryz.func65 (by kernel_rfl) rfl, fun b w h => play_any b w, by intro x hx; simp only [playL, List.mem_cons, List.not_mem_nil, or_false] at hx; rcases hx with rfl | rfl | rfl | rfl | rfl | rfl | rfl | rfl <;> exact Nat.le_of_ble_eq_true rfl, Nat.le_of_ble_eq_true rfl, fun e => ⟨rfl, rfl⟩⟩
  · rw [if_neg h10, if_neg h9, if_neg h8, if_neg h7, if_neg h6, if_neg h5, if_neg h4, if_neg h3, if_neg h2, if_neg h1]
    exact .inl ⟨rfl, h1⟩

end Go.Proofs.YtffifhbldcjelaaGreatDoor

/-! A play: does it qualify, when does it end. -/
namespace Go.Proofs.YtffifhbldcjelaaGreatDoor
set_option linter.unusedVariables false
set_option linter.unusedSimpArgs false
open Go.RowKit

/-- the second at which it ends -/
def pend (p : PF) : Int := wrap64 (p.n 4 + wrap64 ((wrap64 (p.n 13 + 999)).tdiv 1000))
/-- the play may count -/
def qualB (p : PF) : Bool := decide (30000 ≤ p.n 13) && decide (p.n 16 = 0)
def PlyAt (w : World) (b : Nat) (f : PF) : Prop := w.heap[b]? = some (.cells (encP f).toArray 134 (0, 0))
theorem PlyAt.lt {w : World} {b : Nat} {f : PF} (h : PlyAt w b f) : b < w.heap.size := (Array.getElem?_eq_some_iff.1 h).1
theorem PlyAt.later {w w' : World} {b : Nat} {f : PF} (h : PlyAt w b f) (hb : Below w.heap.size w w') : PlyAt w' b f := (hb.block b h.lt).trans h
theorem PlyAt.cell {w : World} {b : Nat} {f : PF} (h : PlyAt w b f) {i : Nat} {v : Value} (hv : (encP f)[i]? = some v) : w.cell? ⟨b, i, none⟩ = some v := by
  unfold World.cell?
  rw [show (⟨b, i, none⟩ : Addr).block = b from rfl, h]
  simpa using hv
theorem PlyAt.new (w : World) (f : PF) : PlyAt (w.alloc (.cells (encP f).toArray 134)) w.heap.size f := World.alloc_heap_new w _

set_option maxRecDepth 100000 in
theorem qualifies_any (p : PF) (w : World) : Calls Tryz.prog 95 #[.agg (encP p).toArray] w fun e w' => e = .returned (.bool (qualB p)) ∧ ∃ o, w' = w.alloc o := by
  have P0 := Lib.hid (PlyAt.new w p)
  have B0 := Lib.hid (show ∃ o, (w.alloc (.cells (encP p).toArray 134)) = w.alloc o from ⟨_, rfl⟩)
  unfold encP at P0 B0 ⊢
  go_enter Tryz.func95, Tryz.ntmps95
  go_upto_region 1 with (fail)
  obtain ⟨wa, hwa⟩ : ∃ wa, wa = w.alloc (.cells #[.int .i64 (p.n 0), .int .i64 (p.n 1), .int .i64 (p.n 2), .int .i64 (p.n 3), .int .i64 (p.n 4), .int .i64 (p.n 5), .int .i64 (p.n 6), .int .i64 (p.n 7), .int .i64 (p.n 8), .int .i64 (p.n 9), .int .i64 (p.n 10), .int .i64 (p.n 11), .int .i64 (p.n 12), .int .i64 (p.n 13), .int .i64 (p.n 14), .int .i64 (p.n 15), .int .i64 (p.n 16), .string p.t] 134) := ⟨_, rfl⟩
  obtain ⟨bx, hbx⟩ : ∃ bx, bx = w.heap.size := ⟨_, rfl⟩
  have HBX := Lib.hid hbx
  rw [← hwa] at P0 B0 ⊢
  rw [← HBX.out] at P0 ⊢
  clear hwa hbx
  have c13 := P0.out.cell (i := 13) rfl
  have c16 := P0.out.cell (i := 16) rfl
  obtain ⟨a, ha⟩ : ∃ a, p.n 13 = a := ⟨_, rfl⟩
  obtain ⟨b, hb⟩ : ∃ b, p.n 16 = b := ⟨_, rfl⟩
  rw [ha] at c13
  rw [hb] at c16
  have HAB := Lib.hid (And.intro ha hb)
  have HQ := Lib.hid (show qualB p = (decide (30000 ≤ a) && decide (b = 0)) by unfold qualB; rw [ha, hb])
  clear ha hb
  by_cases h1 : 30000 ≤ a
  · by_cases h2 : b = 0
    · subst h2
      go_wp2
      go_ret
      exact ⟨by rw [HQ.out, decide_eq_true h1]; rfl, B0.out⟩
    · have h3 : (b == 0) = false := beq_eq_false_iff_ne.2 h2
      go_wp2
      go_ret
      exact ⟨by rw [HQ.out, decide_eq_true h1, decide_eq_false h2]; rfl, B0.out⟩
  · go_wp2
    go_ret
    exact ⟨by rw [HQ.out, decide_eq_false (by omega)]; rfl, B0.out⟩

set_option maxRecDepth 100000 in
theorem end_any (p : PF) (w : World) : Calls Tryz.prog 96 #[.agg (encP p).toArray] w fun e w' => e = .returned (.int .i64 (pend p)) ∧ Below w.heap.size w w' := by
  have P0 := Lib.hid (PlyAt.new w p)
  have B0 := Lib.hid ((Below.refl w.heap.size w).alloc (Nat.le_refl _) (.cells (encP p).toArray 134))
  unfold encP at P0 B0 ⊢
  go_enter Tryz.func96, Tryz.ntmps96
  go_upto_region 1 with (fail)
  obtain ⟨wa, hwa⟩ : ∃ wa, wa = w.alloc (.cells #[.int .i64 (p.n 0), .int .i64 (p.n 1), .int .i64 (p.n 2), .int .i64 (p.n 3), .int .i64 (p.n 4), .int .i64 (p.n 5), .int .i64 (p.n 6), .int .i64 (p.n 7), .int .i64 (p.n 8), .int .i64 (p.n 9), .int .i64 (p.n 10), .int .i64 (p.n 11), .int .i64 (p.n 12), .int .i64 (p.n 13), .int .i64 (p.n 14), .int .i64 (p.n 15), .int .i64 (p.n 16), .string p.t] 134) := ⟨_, rfl⟩
  obtain ⟨bx, hbx⟩ : ∃ bx, bx = w.heap.size := ⟨_, rfl⟩
  have HBX := Lib.hid hbx
  rw [← hwa] at P0 B0 ⊢
  rw [← HBX.out] at P0 ⊢
  clear hwa hbx
  have c13 := P0.out.cell (i := 13) rfl
  have c4 := P0.out.cell (i := 4) rfl
  go_wp2
  go_ret
  exact ⟨rfl, B0.out⟩

/-- a map is emptied -/
theorem MapI.clear {w : World} {b : Nat} {g : Int → Option Value} (h : MapI w b g) {T E : TypeId} (hT : Tryz.prog.underlying T = some (.map 3 E)) (ty : TypeId) :
    ∃ o, (Builtin.clear_ #[T] ty #[.map (some b)]).run Tryz.prog w = .ok (.tuple #[]) (w.putObj b o) ∧ MapI (w.putObj b o) b (fun _ => none) := by
  obtain ⟨L, ⟨es, clk, hb, _, hp, hc⟩, h2, h3⟩ := h.ex
  have hlt : b < w.heap.size := (Array.getElem?_eq_some_iff.1 hb).1
  refine ⟨.map #[] clk, ?_, ⟨[], ⟨#[], clk, World.putObj_heap_same hlt, rfl, List.Pairwise.nil, by simp⟩, fun p hp => (by cases hp), fun _ => rfl⟩⟩
  simp [Builtin.clear_, run_underlying hT, MapKept.run_getObj_map hb, MapKept.run_setObj_map _ hb, World.putObj, Result.andThen]

/-- what is known of a device -/
structure LS where
  dev : Int
  last : Int
  nd : Int
  g : Int → Int
/-- the player's block -/
def plrV (dev last nd ses : Int) (mb : Nat) : Obj := .cells #[.int .i64 dev, .int .i64 last, .int .i64 nd, .int .i64 ses, .map (some mb)] 133 (0, 0)
structure Plr (w : World) (B x : Nat) (s : LS) (mb : Nat) (ses : Int) (G : Int → Option Value) : Prop where
  blk : w.heap[x]? = some (plrV s.dev s.last s.nd ses mb)
  map : MapI w mb G
  ne : x ≠ mb
  bx : B ≤ x
  bm : B ≤ mb
  vals : ∀ k, (G k).getD (.int .i64 0) = .int .i64 (s.g k)

set_option maxRecDepth 100000 in
theorem begin_any {w : World} {B x mb : Nat} {s : LS} {ses : Int} {G : Int → Option Value} (h : Plr w B x s mb ses G) : Calls Tryz.prog 94 #[.pointer (some ⟨x, 0, none⟩)] w fun e w' =>
    e = .returned (.tuple #[]) ∧ ∃ ses', Plr w' B x { s with g := fun _ => 0 } mb ses' (fun _ => none) ∧ Below B w w' ∧ ∀ k, k ≠ x → k ≠ mb → w'.heap[k]? = w.heap[k]? := by
  obtain ⟨hb, hm, hne, hbx, hbm, hv⟩ := h
  unfold plrV at hb
  have hlt : x < w.heap.size := (Array.getElem?_eq_some_iff.1 hb).1
  have c3 : w.cell? ⟨x, 3, none⟩ = some (.int .i64 ses) := cell_blk hb rfl
  have f3 : w.frozen? ⟨x, 3, none⟩ = false := by unfold World.frozen?; rw [show (⟨x, 3, none⟩ : Addr).block = x from rfl, hb]; simp
  obtain ⟨s2, hs2⟩ : ∃ z, wrap64 (ses + 1) = z := ⟨_, rfl⟩
  have HS := Lib.hid (show (w.setCell ⟨x, 3, none⟩ (.int .i64 s2)).heap[x]? = some (plrV s.dev s.last s.nd s2 mb) by
    unfold plrV
    simp [World.setCell, Array.getElem?_modify, hb])
  have HM := Lib.hid (show MapI (w.setCell ⟨x, 3, none⟩ (.int .i64 s2)) mb G from hm.kept (Below.heap_setCell _ _ _ _ (fun q => hne q.symm)))
  have c4 : (w.setCell ⟨x, 3, none⟩ (.int .i64 s2)).cell? ⟨x, 4, none⟩ = some (.map (some mb)) := cell_blk HS.out rfl
  have BB := Lib.hid (show Below B w (w.setCell ⟨x, 3, none⟩ (.int .i64 s2)) from (Below.refl B w).setCell (p := ⟨x, 3, none⟩) hbx _)
  have HH := Lib.hid (And.intro hne (And.intro hbx hbm))
  clear hb hm hne hbx hbm hv hlt
  obtain ⟨ob, hcl, hm2⟩ := HM.out.clear (T := 131) Tryz.underlying131 0
  have HM2 := Lib.hid hm2
  clear hm2
  go_enter Tryz.func94, Tryz.ntmps94
  go_wp2
  go_end0
  refine ⟨rfl, s2, ⟨?_, HM2.out, HH.out.1, HH.out.2.1, HH.out.2.2, fun _ => rfl⟩, Below.putNew BB.out HH.out.2.2 _, fun k k1 k2 => ?_⟩
  · rw [World.putObj_heap_other HH.out.1]
    exact HS.out
  · rw [World.putObj_heap_other k2]
    exact Below.heap_setCell _ _ _ _ k1

end Go.Proofs.YtffifhbldcjelaaGreatDoor
