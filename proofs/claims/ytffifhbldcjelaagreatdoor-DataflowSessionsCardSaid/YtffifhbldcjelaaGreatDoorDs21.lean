/-
  Single operations on whole facts: the fact stays folded.
-/
import Derived.Test.YtffifhbldcjelaaGreatDoorDs20
import Derived.Deep.DeepCutAuto
import Derived.Shelf.SlSortCmp.QuietGrown
import Derived.Shelf.SlSortCmp.KitK

/-! Single operations on whole facts: the fact stays folded. -/
namespace Go.Proofs.YtffifhbldcjelaaGreatDoor
set_option linter.unusedVariables false
set_option linter.unusedSimpArgs false
open Go.RowKit Go.Lib Go.Sort

section
variable {P : Program} {ops : Array Oper} {Q : Exit → Act → World → Prop} {rest : List Oper} {o : Oper} {a : Act} {w w' : World}
theorem wpList_loadV (hg : o.guard = none) {T : TypeId} {x : Operand} (hop : o.op = .load T x) {p v : Value} (hx : a.eval x = p) (hrun : (Instr.loadAt T p).run P w = .ok v w') (hK : wpList P ops Q rest (a.put o.dst v) w') : wpList P ops Q (o :: rest) a w := by
  refine wpList_plain hg fun K' hK' => ?_
  unfold Oper.wp
  simp [execOp, hop, hx, hrun, Result.andThen]
  exact hK' _ _ hK
theorem wpList_boxV (hg : o.guard = none) {T : TypeId} {x : Operand} (hop : o.op = .box T x) {p v : Value} (hx : a.eval x = p) (hrun : (Instr.box T p).run P w = .ok v w') (hK : wpList P ops Q rest (a.put o.dst v) w') : wpList P ops Q (o :: rest) a w := by
  refine wpList_plain hg fun K' hK' => ?_
  unfold Oper.wp
  simp [execOp, hop, hx, hrun, Result.andThen]
  exact hK' _ _ hK
theorem wpList_storeV (hg : o.guard = none) {T : TypeId} {x y : Operand} (hop : o.op = .store T x y) {p v : Value} (hx : a.eval x = p) (hy : a.eval y = v) (hrun : (Instr.storeAt T p v).run P w = .ok () w') (hK : wpList P ops Q rest (a.put o.dst undef) w') : wpList P ops Q (o :: rest) a w := by
  refine wpList_plain hg fun K' hK' => ?_
  unfold Oper.wp
  simp [execOp, hop, hx, hy, hrun, Result.andThen]
  exact hK' _ _ hK
theorem wpList_build1V (hg : o.guard = none) {T : TypeId} {x : Operand} {i : Nat} (hop : o.op = .build T #[(i, x)]) {p v : Value} (hx : a.eval x = p) (hrun : (Instr.build T #[(i, p)]).run P w = .ok v w') (hK : wpList P ops Q rest (a.put o.dst v) w') : wpList P ops Q (o :: rest) a w := by
  refine wpList_plain hg fun K' hK' => ?_
  unfold Oper.wp
  simp [execOp, hop, hx, hrun, Result.andThen]
  exact hK' _ _ hK
theorem wpQuiet_loadV {C : World → Prop} {R : Act → Prop} (hg : o.guard = none) {T : TypeId} {x : Operand} (hop : o.op = .load T x) {p v : Value} (hx : a.eval x = p) (hrun : ∀ w, C w → (Instr.loadAt T p).run P w = .ok v w) (hK : wpQuiet P ops C R rest (a.put o.dst v)) : wpQuiet P ops C R (o :: rest) a := by
  refine wpQuiet_step fun K hK' => ?_
  simp only [Region.wanted, hg, if_true]
  refine ⟨v, fun w hw => ?_, hK' _ hK⟩
  unfold Oper.quietAt Oper.quietUpon
  simp [execOp, hop, hx, hrun w hw, Result.andThen]
theorem wpQuiet_build2V {C : World → Prop} {R : Act → Prop} (hg : o.guard = none) {T : TypeId} {x y : Operand} {i j : Nat} (hop : o.op = .build T #[(i, x), (j, y)]) {p q v : Value} (hx : a.eval x = p) (hy : a.eval y = q) (hrun : ∀ w, C w → (Instr.build T #[(i, p), (j, q)]).run P w = .ok v w) (hK : wpQuiet P ops C R rest (a.put o.dst v)) : wpQuiet P ops C R (o :: rest) a := by
  refine wpQuiet_step fun K hK' => ?_
  simp only [Region.wanted, hg, if_true]
  refine ⟨v, fun w hw => ?_, hK' _ hK⟩
  unfold Oper.quietAt Oper.quietUpon
  simp [execOp, hop, hx, hy, hrun w hw, Result.andThen]
end
section
variable {P : Program} {ops : Array Oper} {Q : Exit → Act → World → Prop} {rest : List Oper} {a : Act} {w w' : World} {dst : Option Tmp} {ty T : TypeId} {pos : String} {af : Array Edge} {x y : Operand} {p q v : Value}
theorem wpList_loadL (hx : a.eval x = p) (hrun : (Instr.loadAt T p).run P w = .ok v w') (hK : wpList P ops Q rest (a.put dst v) w') : wpList P ops Q ({ dst := dst, op := .load T x, type := ty, pos := pos, after := af, guard := none } :: rest) a w := wpList_loadV rfl rfl hx hrun hK
theorem wpList_boxL (hx : a.eval x = p) (hrun : (Instr.box T p).run P w = .ok v w') (hK : wpList P ops Q rest (a.put dst v) w') : wpList P ops Q ({ dst := dst, op := .box T x, type := ty, pos := pos, after := af, guard := none } :: rest) a w := wpList_boxV rfl rfl hx hrun hK
theorem wpList_build1L {i : Nat} (hx : a.eval x = p) (hrun : (Instr.build T #[(i, p)]).run P w = .ok v w') (hK : wpList P ops Q rest (a.put dst v) w') : wpList P ops Q ({ dst := dst, op := .build T #[(i, x)], type := ty, pos := pos, after := af, guard := none } :: rest) a w := wpList_build1V rfl rfl hx hrun hK
theorem wpList_storeL (hx : a.eval x = p) (hy : a.eval y = v) (hrun : (Instr.storeAt T p v).run P w = .ok () w') (hK : wpList P ops Q rest a w') : wpList P ops Q ({ dst := none, op := .store T x y, type := ty, pos := pos, after := af, guard := none } :: rest) a w := wpList_storeV rfl rfl hx hy hrun hK
theorem wpList_loadG {g : Option (Nat × Bool)} (hwt : Region.wanted { dst := dst, op := .load T x, type := ty, pos := pos, after := af, guard := g } (yielded ops a.tmps) = true) (hx : a.eval x = p) (hrun : (Instr.loadAt T p).run P w = .ok v w') (hK : wpList P ops Q rest (a.put dst v) w') : wpList P ops Q ({ dst := dst, op := .load T x, type := ty, pos := pos, after := af, guard := g } :: rest) a w := by
  refine wpList_step fun K hK' => ?_
  rw [if_pos hwt]
  unfold Oper.wp
  simp [execOp, hx, hrun, Result.andThen]
  exact hK' _ _ hK
theorem wpQuiet_loadL {C : World → Prop} {R : Act → Prop} (hx : a.eval x = p) (hrun : ∀ w, C w → (Instr.loadAt T p).run P w = .ok v w) (hK : wpQuiet P ops C R rest (a.put dst v)) : wpQuiet P ops C R ({ dst := dst, op := .load T x, type := ty, pos := pos, after := af, guard := none } :: rest) a := wpQuiet_loadV rfl rfl hx hrun hK
theorem wpQuiet_build2L {C : World → Prop} {R : Act → Prop} {i j : Nat} (hx : a.eval x = p) (hy : a.eval y = q) (hrun : ∀ w, C w → (Instr.build T #[(i, p), (j, q)]).run P w = .ok v w) (hK : wpQuiet P ops C R rest (a.put dst v)) : wpQuiet P ops C R ({ dst := dst, op := .build T #[(i, x), (j, y)], type := ty, pos := pos, after := af, guard := none } :: rest) a := wpQuiet_build2V rfl rfl hx hy hrun hK
theorem wpQuiet_eqlL {C : World → Prop} {R : Act → Prop} {U : TypeId} {cs ds : Array Value} {b : Bool} (hx : a.eval x = .agg cs) (hy : a.eval y = .agg ds) (hgt : P.eqGuardType P.depth T = false) (hrun : ∀ w, C w → (Op.equalIn 10000 T (.agg cs) (.agg ds)).run P w = .ok b w) (hK : wpQuiet P ops C R rest (a.put dst (.bool b))) : wpQuiet P ops C R ({ dst := dst, op := .binOp .eql T x y U, type := ty, pos := pos, after := af, guard := none } :: rest) a := by
  refine wpQuiet_step fun K hK' => ?_
  simp only [Region.wanted, if_true]
  refine ⟨.bool b, fun w hw => ?_, hK' _ hK⟩
  have h : (Op.equalIn Op.maxDepth T (.agg cs) (.agg ds)).run P w = .ok b w := hrun w hw
  unfold Oper.quietAt Oper.quietUpon
  simp [execOp, hx, hy, eqGuard, hgt, binOp, Op.equal, h, Result.andThen]
end
theorem below_grown (w : World) (n : Nat) (os : Array Obj) : Below w.heap.size w (grow (w.drewN n) os) :=
  ⟨rfl, rfl, rfl, by show w.heap.size ≤ (w.heap ++ os).size; rw [Array.size_append]; omega, fun j hj => by
    show (w.heap ++ os)[j]? = w.heap[j]?
    rw [Array.getElem?_append_left hj]⟩

/-- a fact lies at an address -/
def FtAt (w : World) (ad : Addr) (f : PF) : Prop := ∀ j v, (encP f)[j]? = some v → w.cell? (ad.add j) = some v
theorem encP_one (f : PF) : ∀ v ∈ encP f, v.oneCell' = true := by
  intro v hv
  unfold encP at hv
  simp only [List.mem_cons, List.not_mem_nil, or_false] at hv
  rcases hv with rfl | rfl | rfl | rfl | rfl | rfl | rfl | rfl | rfl | rfl | rfl | rfl | rfl | rfl | rfl | rfl | rfl | rfl <;> rfl
theorem ft_blk {w : World} {b : Nat} {t : TypeId} {f : PF} (h : w.heap[b]? = some (.cells (encP f).toArray t (0, 0))) : FtAt w ⟨b, 0, none⟩ f := fun j v hj => by
  rw [show (Addr.add ⟨b, 0, none⟩ j) = ⟨b, j, none⟩ from by unfold Addr.add; split <;> simp_all]
  exact cell_blk h (by rw [List.getElem?_toArray]; exact hj)
theorem ft_load {w : World} {ad : Addr} {f : PF} (h : FtAt w ad f) : Sem.run Tryz.prog (loadCellsFrom ad 0 18 #[]) w = .ok (encP f).toArray w :=
  run_loadCellsFrom_list Tryz.prog w ad (encP f) 18 rfl h
theorem ft_loadC {w : World} {ad : Addr} {f : PF} (h : FtAt w ad f) : Sem.run Tryz.prog (loadCells ad 18) w = .ok (encP f).toArray w := ft_load h
theorem ld38 {w : World} {ad : Addr} {f : PF} (h : FtAt w ad f) : (Instr.loadAt 38 (.pointer (some ad))).run Tryz.prog w = .ok (.agg (encP f).toArray) w := by
  have := ft_loadC h
  simp [Instr.loadAt, Instr.sureAddr, loadVar, this, Result.andThen]
theorem ld134 {w : World} {ad : Addr} {f : PF} (h : FtAt w ad f) : (Instr.loadAt 134 (.pointer (some ad))).run Tryz.prog w = .ok (.agg (encP f).toArray) w := by
  have := ft_loadC h
  simp [Instr.loadAt, Instr.sureAddr, loadVar, this, Result.andThen]
theorem box_agg (T : TypeId) (cs : Array Value) (w : World) : (Instr.box T (.agg cs)).run Tryz.prog w = .ok (.pointer (some ⟨w.heap.size, 0, none⟩)) (w.alloc (.cells cs T)) := by
  simp [Instr.box, newVar, newRow, newObj, Value.cells, Result.andThen]
  rfl
def setM (cs : Array Value) : Nat → List Value → Array Value
  | _, [] => cs
  | o, v :: r => setM (cs.setIfInBounds o v) (o + 1) r
theorem setCells_heap {t : TypeId} {fr : Nat × Nat} {b : Nat} : ∀ (vs : List Value) (o : Nat) (w : World) (cs : Array Value), w.heap[b]? = some (.cells cs t fr) → (w.setCells b o vs).heap[b]? = some (.cells (setM cs o vs) t fr)
  | [], _, _, _, h => h
  | v :: r, o, w, cs, h => by
    unfold World.setCells setM
    exact setCells_heap r (o + 1) _ _ (by simp [World.setCell, Array.getElem?_modify, h])
theorem setM_size : ∀ (vs : List Value) (o : Nat) (cs : Array Value), (setM cs o vs).size = cs.size
  | [], _, _ => rfl
  | v :: r, o, cs => by
    unfold setM
    rw [setM_size r]
    simp
theorem setM_low : ∀ (vs : List Value) (o : Nat) (cs : Array Value) (i : Nat), i < o → (setM cs o vs)[i]? = cs[i]?
  | [], _, _, _, _ => rfl
  | v :: r, o, cs, i, h => by
    unfold setM
    rw [setM_low r (o + 1) _ i (by omega), Array.getElem?_setIfInBounds, if_neg (by omega)]
theorem setM_get : ∀ (vs : List Value) (o : Nat) (cs : Array Value) (i : Nat), o ≤ i → i < o + vs.length → i < cs.size → (setM cs o vs)[i]? = vs[i - o]?
  | [], o, cs, i, h1, h2, h3 => by simp at h2; omega
  | v :: r, o, cs, i, h1, h2, h3 => by
    unfold setM
    simp only [List.length_cons] at h2
    by_cases e : i = o
    · subst e
      rw [setM_low r _ _ _ (by omega), Array.getElem?_setIfInBounds, if_pos rfl, if_pos h3]
      simp
    · rw [setM_get r (o + 1) _ i (by omega) (by omega) (by simpa using h3), show i - o = (i - (o + 1)) + 1 by omega, List.getElem?_cons_succ]
theorem setM_all {cs : Array Value} {vs : List Value} (h : cs.size = vs.length) : setM cs 0 vs = vs.toArray := by
  apply Array.ext_getElem?
  intro i
  by_cases hi : i < cs.size
  · rw [setM_get vs 0 cs i (Nat.zero_le _) (by omega) hi]
    simp
  · rw [Array.getElem?_eq_none (by rw [setM_size]; omega), Array.getElem?_eq_none (by simp; omega)]
/-- a fact is stored into a variable of its own -/
theorem st_run {w : World} {b : Nat} {t T : TypeId} {cs : Array Value} {f : PF} (hz : (Go.sizeOf T).run Tryz.prog w = .ok 18 w) (h : w.heap[b]? = some (.cells cs t (0, 0))) (hs : cs.size = 18) :
    (Instr.storeAt T (.pointer (some ⟨b, 0, none⟩)) (.agg (encP f).toArray)).run Tryz.prog w = .ok () (w.setCells b 0 (encP f)) := by
  have hc : ∀ c, c < 18 → w.cell? ⟨b, 0 + c, none⟩ = some (cs[c]!) := fun c hc => cell_blk h (by rw [Nat.zero_add, Array.getElem?_eq_getElem (by omega)]; simp [hs, hc])
  have hf : ∀ c, w.frozen? ⟨b, c, none⟩ = false := fun c => frz_blk h
  have := run_storeCells_cells (P := Tryz.prog) b 0 (encP f) 0 w (fun c hc' => by rw [Nat.add_zero, hc c (by have : (encP f).length = 18 := rfl; omega)]; rfl) (fun c _ => hf _) (encP_one f)
  simp [Instr.storeAt, Instr.sureAddr, storeVar, hz, Result.andThen, Value.cells, show (encP f).length = 18 from rfl]
  exact this
theorem st_heap {w : World} {b : Nat} {t : TypeId} {cs : Array Value} {f : PF} (h : w.heap[b]? = some (.cells cs t (0, 0))) (hs : cs.size = 18) : (w.setCells b 0 (encP f)).heap[b]? = some (.cells (encP f).toArray t (0, 0)) := by
  rw [setCells_heap _ _ _ _ h, setM_all (by rw [hs]; rfl)]
theorem st_below {w : World} {b B : Nat} {f : PF} (hb : B ≤ b) : Below B w (w.setCells b 0 (encP f)) := by
  have : ∀ (vs : List Value) (o : Nat) (w : World), Below B w (w.setCells b o vs) := by
    intro vs
    induction vs with
    | nil => exact fun o w => Below.refl B w
    | cons v r ih => exact fun o w => ((Below.refl B w).setCell (p := ⟨b, o, none⟩) hb v).trans (ih _ _)
  exact this _ _ _
set_option maxRecDepth 100000 in
theorem bld134a (n : Nat → Int) (t : ByteArray) : ∀ w, (Instr.build 134 #[(0, .agg #[.int .i64 (n 0), .int .i64 (n 1), .int .i64 (n 2), .int .i64 (n 3), .int .i64 (n 4), .int .i64 (n 5), .int .i64 (n 6), .int .i64 (n 7), .int .i64 (n 8), .int .i64 (n 9), .int .i64 (n 10), .int .i64 (n 11), .int .i64 (n 12), .int .i64 (n 13), .int .i64 (n 14), .int .i64 (n 15), .int .i64 (n 16), .string t])]).run Tryz.prog w = .ok (.agg #[.int .i64 (n 0), .int .i64 (n 1), .int .i64 (n 2), .int .i64 (n 3), .int .i64 (n 4), .int .i64 (n 5), .int .i64 (n 6), .int .i64 (n 7), .int .i64 (n 8), .int .i64 (n 9), .int .i64 (n 10), .int .i64 (n 11), .int .i64 (n 12), .int .i64 (n 13), .int .i64 (n 14), .int .i64 (n 15), .int .i64 (n 16), .string t]) w := fun _ => by kernel_rfl
set_option maxRecDepth 100000 in
theorem bld71a (n : Nat → Int) (t : ByteArray) : ∀ w, (Instr.build 71 #[(0, .agg #[.int .i64 (n 0), .int .i64 (n 1), .int .i64 (n 2), .int .i64 (n 3), .int .i64 (n 4), .int .i64 (n 5), .int .i64 (n 6), .int .i64 (n 7), .int .i64 (n 8), .int .i64 (n 9), .int .i64 (n 10), .int .i64 (n 11), .int .i64 (n 12), .int .i64 (n 13), .int .i64 (n 14), .int .i64 (n 15), .int .i64 (n 16), .string t])]).run Tryz.prog w = .ok (.agg #[.int .i64 (n 0), .int .i64 (n 1), .int .i64 (n 2), .int .i64 (n 3), .int .i64 (n 4), .int .i64 (n 5), .int .i64 (n 6), .int .i64 (n 7), .int .i64 (n 8), .int .i64 (n 9), .int .i64 (n 10), .int .i64 (n 11), .int .i64 (n 12), .int .i64 (n 13), .int .i64 (n 14), .int .i64 (n 15), .int .i64 (n 16), .string t]) w := fun _ => by kernel_rfl
theorem bld71 (f : PF) : ∀ w, (Instr.build 71 #[(0, .agg (encP f).toArray)]).run Tryz.prog w = .ok (.agg (encP f).toArray) w := bld71a f.n f.t
set_option maxRecDepth 100000 in
theorem bldBare (k v : Int) : ∀ w, (Instr.build 38 #[(0, .int .i64 k), (2, .int .i64 v)]).run Tryz.prog w = .ok (.agg #[.int .i64 k, .int .i64 0, .int .i64 v, .int .i64 0, .int .i64 0, .int .i64 0, .int .i64 0, .int .i64 0, .int .i64 0, .int .i64 0, .int .i64 0, .int .i64 0, .int .i64 0, .int .i64 0, .int .i64 0, .int .i64 0, .int .i64 0, .string ⟨#[]⟩]) w := fun _ => by kernel_rfl
theorem bld134 (f : PF) : ∀ w, (Instr.build 134 #[(0, .agg (encP f).toArray)]).run Tryz.prog w = .ok (.agg (encP f).toArray) w := bld134a f.n f.t

end Go.Proofs.YtffifhbldcjelaaGreatDoor
