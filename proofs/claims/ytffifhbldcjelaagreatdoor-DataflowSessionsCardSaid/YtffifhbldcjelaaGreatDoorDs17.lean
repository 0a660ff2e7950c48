/-
  The laws' fixed examples: the flow, step by step. The laws' state: a flow of the call's own. The laws' fixed examples: sane. (Printed by gen_sane.py.)
-/
import Derived.Test.YtffifhbldcjelaaGreatDoorDs16
import Derived.KernelRfl

/-! The laws' fixed examples: the flow, step by step. -/
namespace Go.Proofs.YtffifhbldcjelaaGreatDoor
set_option linter.unusedVariables false
set_option linter.unusedSimpArgs false
open Go.RowKit

def b1 (x : UInt8) : ByteArray := ⟨#[x]⟩
/-- a, b are inputs, c is a node on a, d on b and c -/
def saneF (a vc vd : UInt8) (sc sd : Bool) : List En := [⟨b1 97, b1 a, false, false, []⟩, ⟨b1 98, b1 50, false, false, []⟩, ⟨b1 99, b1 vc, true, sc, [b1 97]⟩, ⟨b1 100, b1 vd, true, sd, [b1 98, b1 99]⟩]

theorem sn1 : setF [] (b1 97) (b1 49) = [⟨b1 97, b1 49, false, false, []⟩] := by kernel_rfl
theorem sn2 : setF [⟨b1 97, b1 49, false, false, []⟩] (b1 98) (b1 50) = [⟨b1 97, b1 49, false, false, []⟩, ⟨b1 98, b1 50, false, false, []⟩] := by kernel_rfl
theorem sn3 : putF [⟨b1 97, b1 49, false, false, []⟩, ⟨b1 98, b1 50, false, false, []⟩] (b1 99) [b1 97] (b1 120) = [⟨b1 97, b1 49, false, false, []⟩, ⟨b1 98, b1 50, false, false, []⟩, ⟨b1 99, b1 120, true, false, [b1 97]⟩] := by kernel_rfl
theorem sn4 : putF [⟨b1 97, b1 49, false, false, []⟩, ⟨b1 98, b1 50, false, false, []⟩, ⟨b1 99, b1 120, true, false, [b1 97]⟩] (b1 100) [b1 99, b1 98] (b1 121) = saneF 49 120 121 false false := by kernel_rfl
theorem sn5 : setF (saneF 49 120 121 false false) (b1 97) (b1 49) = saneF 49 120 121 false false := by kernel_rfl
theorem sn6 : setF (saneF 49 120 121 false false) (b1 97) (b1 53) = saneF 53 120 121 true false := by kernel_rfl
theorem sn7 : putF (saneF 53 120 121 true false) (b1 100) [b1 99, b1 98] (b1 122) = saneF 53 120 121 true false := by kernel_rfl
theorem sn8 : putF (saneF 53 120 121 true false) (b1 99) [b1 97] (b1 120) = saneF 53 120 121 false false := by kernel_rfl
theorem sn9 : setF (saneF 53 120 121 false false) (b1 97) (b1 54) = saneF 54 120 121 true false := by kernel_rfl
theorem sn10 : putF (saneF 54 120 121 true false) (b1 99) [b1 97] (b1 119) = saneF 54 119 121 false true := by kernel_rfl
theorem st4 : staleF (saneF 49 120 121 false false) = [] := by kernel_rfl
theorem st6 : staleF (saneF 53 120 121 true false) = [b1 99] := by kernel_rfl
theorem st8 : staleF (saneF 53 120 121 false false) = [] := by kernel_rfl
theorem st10 : staleF (saneF 54 119 121 false true) = [b1 100] := by kernel_rfl
theorem sk1 : setOk [] (b1 97) = true := by kernel_rfl

end Go.Proofs.YtffifhbldcjelaaGreatDoor

/-! The laws' state: a flow of the call's own. -/
namespace Go.Proofs.YtffifhbldcjelaaGreatDoor
set_option linter.unusedVariables false
set_option linter.unusedSimpArgs false
open Go.RowKit

/-- since W0 a flow was made: f; nothing that stood in W0 has turned -/
def St (W0 : World) (f : Nat) (F : List En) (k : Nat) (w : World) : Prop := Flo W0.heap.size w f F k ∧ Below W0.heap.size W0 w

section
variable {W0 w : World} {f k : Nat} {F : List En}

theorem St.later {w' : World} (h : St W0 f F k w) (hb : Below w.heap.size w w') : St W0 f F k w' := ⟨h.1.later hb, h.2.trans (hb.mono h.2.size)⟩
theorem St.drew (h : St W0 f F k w) : St W0 f F k w.drew := h.later ((Below.refl _ w).drew)
theorem St.alloc (h : St W0 f F k w) (o : Obj) : St W0 f F k (w.alloc o) := h.later ((Below.refl _ w).alloc (Nat.le_refl _) o)
theorem St.mv {w' : World} {F' : List En} {k' : Nat} (h : St W0 f F k w) (h1 : Flo W0.heap.size w' f F' k') (h2 : Mv W0.heap.size w w') : St W0 f F' k' w' := ⟨h1, h.2.trans (h2.below h.2.size)⟩

theorem st_new (W : World) : Calls Tryz.prog 5 #[] W fun e w' => ∃ f, e = .returned (.pointer (some ⟨f, 0, none⟩)) ∧ St W f [] 0 w' := (fnew W).mono fun e w' ⟨f, h1, h2, h3⟩ => ⟨f, h1, h2, h3⟩

theorem St.set (h : St W0 f F k w) (hk : k ≤ 900) (n v : ByteArray) {F' : List En} {ok : Bool} (hF : setF F n v = F') (hok : setOk F n = ok) :
    Calls Tryz.prog 6 #[.pointer (some ⟨f, 0, none⟩), .string n, .string v] w fun e w' => e = .returned (.int .i64 (if ok = true then 0 else 200)) ∧ St W0 f F' (k + 1) w' ∧ Mv W0.heap.size w w' := by
  subst hF; subst hok
  exact (h.1.set hk n v).mono fun e w' ⟨h1, h2, h3⟩ => ⟨h1, h.mv h2 h3, h3⟩

theorem St.put (h : St W0 f F k w) (hk : k ≤ 900) (n v : ByteArray) (ao : Option Addr) (ln cap : Nat) (l : List ByteArray) (hln : l.length = ln) (hn : ln ≤ 1000) (hrow : RowK 1 encT w ao l) {F' : List En} {ok : Bool} (hF : putF F n l v = F') (hok : putOk F n l = ok) :
    Calls Tryz.prog 7 #[.pointer (some ⟨f, 0, none⟩), .agg #[.string n, .slice ao ln cap], .string v] w fun e w' => e = .returned (.int .i64 (if ok = true then 0 else 200)) ∧ St W0 f F' (k + 1) w' ∧ Mv W0.heap.size w w' := by
  subst hF; subst hok
  exact (h.1.put hk n v ao ln cap l hln hn hrow).mono fun e w' ⟨h1, h2, h3⟩ => ⟨h1, h.mv h2 h3, h3⟩

theorem St.drop (h : St W0 f F k w) (hk : k ≤ 900) (n : ByteArray) {F' : List En} {ok : Bool} (hF : dropF F n = F') (hok : dropOk F n = ok) :
    Calls Tryz.prog 18 #[.pointer (some ⟨f, 0, none⟩), .string n] w fun e w' => e = .returned (.int .i64 (if ok = true then 0 else 200)) ∧ St W0 f F' k w' ∧ Mv W0.heap.size w w' := by
  subst hF; subst hok
  exact (h.1.drop hk n).mono fun e w' ⟨h1, h2, h3⟩ => ⟨h1, h.mv h2 h3, h3⟩

theorem St.value (h : St W0 f F k w) (n : ByteArray) {v : ByteArray} {ok : Bool} (hv : valF F n = (v, ok)) :
    Calls Tryz.prog 13 #[.pointer (some ⟨f, 0, none⟩), .string n] w fun e w' => e = .returned (.tuple #[.string v, .bool ok]) ∧ w = w' := by
  have := h.1.value n
  rw [hv] at this; exact this

theorem St.flen (h : St W0 f F k w) (hk : k ≤ 900) {n : Nat} (hn : F.length = n) : Calls Tryz.prog 16 #[.pointer (some ⟨f, 0, none⟩)] w fun e w' => e = .returned (.int .i64 n) ∧ w = w' := by
  subst hn; exact h.1.flen hk

theorem St.reads (h : St W0 f F k w) (hk : k ≤ 900) (n : ByteArray) {l : List ByteArray} {m : Nat} (hl : readsF F n = l) (hm : l.length = m) : Calls Tryz.prog 17 #[.pointer (some ⟨f, 0, none⟩), .string n] w fun e w' => ∃ ao cap, e = .returned (.slice ao m cap) ∧ RowK 1 encT w' ao l ∧ St W0 f F k w' ∧ Below w.heap.size w w' := by
  subst hl; subst hm
  exact (h.1.reads hk n).mono fun e w' ⟨ao, cap, h1, _, h2, h3⟩ => ⟨ao, cap, h1, h2, h.later h3, h3⟩

theorem St.stale (h : St W0 f F k w) (hk : k ≤ 900) (h12 : (F.filter (·.stale)).length ≤ 12) {l : List ByteArray} {m : Nat} (hl : staleF F = l) (hm : l.length = m) : Calls Tryz.prog 11 #[.pointer (some ⟨f, 0, none⟩)] w fun e w' => ∃ ao cap, e = .returned (.slice ao m cap) ∧ w'.ownsRow w.heap.size 9 1 (.slice ao m cap) m (l.flatMap encT) ∧ RowK 1 encT w' ao l ∧ St W0 f F k w' ∧ Below w.heap.size w w' := by
  subst hl; subst hm
  refine (h.1.stale hk h12).mono fun e w' hs => ?_
  obtain ⟨ao, cap, h1, h2, h3, h4⟩ := hs.at
  exact ⟨ao, cap, h1, h2, h3, h.later h4, h4⟩
end

theorem results_cellA {P : Program} {fn : Func} {a : Tmp} {t : TypeId} {pa : Addr} {cs : List Value} {tmps : Array Value} {w : World} (h : fn.results = #[.cell a t]) (ha : tmps.getD a undef = .pointer (some pa))
    (hta : (isAgg t).run P w = .ok true w) (hsz : (sizeOf t).run P w = .ok cs.length w) (hc : ∀ j v, cs[j]? = some v → w.cell? (pa.add j) = some v) : (results fn tmps).run P w = .ok (.agg cs.toArray) w := by
  have e1 : asAddr (tmps.getD a undef) = pure pa := by rw [ha]; rfl
  unfold results
  rw [h]
  simp only [List.mapM_toArray, List.mapM_cons, List.mapM_nil, e1]
  simp [loadVar, hta, hsz, run_loadCells_list w pa cs hc]

theorem node_any (s : ByteArray) (ao : Option Addr) (ln cap : Nat) (W : World) : Calls Tryz.prog 8 #[.string s, .slice ao ln cap] W fun e w' => e = .returned (.agg #[.string s, .slice ao ln cap]) ∧ Below W.heap.size W w' := by
  have B1 := Lib.hid ((Below.refl W.heap.size W).alloc (Nat.le_refl _) (.cells #[.string s, .slice ao ln cap] 31))
  have C1 := Lib.hid (cells_at W [.string s, .slice ao ln cap] 31 W.heap.size rfl)
  go_enter Tryz.func8, Tryz.ntmps8
  go_wp2
  exact bodyPost_ret (results_cellA rfl rfl (by kernel_rfl) (by kernel_rfl) C1.out) rfl ⟨rfl, B1.out⟩

end Go.Proofs.YtffifhbldcjelaaGreatDoor

/-! The laws' fixed examples: sane. (Printed by gen_sane.py.) -/
namespace Go.Proofs.YtffifhbldcjelaaGreatDoor
set_option linter.unusedVariables false
set_option linter.unusedSimpArgs false
open Go.RowKit

theorem RowK_lit (w : World) (l : List ByteArray) : RowK 1 encT (w.alloc (.cells (l.map Value.string).toArray 9)) (some ⟨w.heap.size, 0, none⟩) l := fun i x hx => by
  refine ⟨w.heap.size, 0, rfl, by simp, fun j v hv => ?_⟩
  have hj : j = 0 := by
    have := (List.getElem?_eq_some_iff.1 hv).1
    simp [encT] at this; exact this
  subst hj
  simp [encT] at hv
  subst hv
  rw [Nat.mul_one, Nat.add_zero]
  refine cell_box w _ _ _ _ ?_ _ rfl
  simp [hx]

theorem row1 (w w' : World) (x : ByteArray) (h : Below (w.alloc (.cells #[.string x] 9)).heap.size (w.alloc (.cells #[.string x] 9)) w') : RowK 1 encT w' (some ⟨w.heap.size, 0, none⟩) [x] := RowK.later (RowK_lit w [x]) h
theorem row2 (w w' : World) (x y : ByteArray) (h : Below (w.alloc (.cells #[.string x, .string y] 9)).heap.size (w.alloc (.cells #[.string x, .string y] 9)) w') : RowK 1 encT w' (some ⟨w.heap.size, 0, none⟩) [x, y] := RowK.later (RowK_lit w [x, y]) h

def sa1 : List En := [⟨b1 97, b1 49, false, false, []⟩]
def sa2 : List En := [⟨b1 97, b1 49, false, false, []⟩, ⟨b1 98, b1 50, false, false, []⟩]
def sa3 : List En := [⟨b1 97, b1 49, false, false, []⟩, ⟨b1 98, b1 50, false, false, []⟩, ⟨b1 99, b1 120, true, false, [b1 97]⟩]

section
variable {W0 w : World} {f : Nat}

theorem q1 (h : St W0 f [] 0 w) : Calls Tryz.prog 6 #[.pointer (some ⟨f, 0, none⟩), .string ⟨#[97]⟩, .string ⟨#[49]⟩] w fun e w' => e = .returned (.int .i64 0) ∧ St W0 f sa1 1 w' :=
  (h.set (by omega) ⟨#[97]⟩ ⟨#[49]⟩ (F' := sa1) sn1 (ok := true) (by kernel_rfl)).mono fun e w' ⟨h1, h2, _⟩ => ⟨h1, h2⟩
theorem q2 (h : St W0 f sa1 1 w) : Calls Tryz.prog 6 #[.pointer (some ⟨f, 0, none⟩), .string ⟨#[98]⟩, .string ⟨#[50]⟩] w fun e w' => e = .returned (.int .i64 0) ∧ St W0 f sa2 2 w' :=
  (h.set (by omega) ⟨#[98]⟩ ⟨#[50]⟩ (F' := sa2) sn2 (ok := true) (by kernel_rfl)).mono fun e w' ⟨h1, h2, _⟩ => ⟨h1, h2⟩
theorem q3 {wn : World} (h : St W0 f sa2 2 w) (hb : Below (w.alloc (.cells #[.string ⟨#[97]⟩] 9)).heap.size (w.alloc (.cells #[.string ⟨#[97]⟩] 9)) wn) : Calls Tryz.prog 7 #[.pointer (some ⟨f, 0, none⟩), .agg #[.string ⟨#[99]⟩, .slice (some ⟨w.heap.size, 0, none⟩) 1 1], .string ⟨#[120]⟩] wn fun e w' => e = .returned (.int .i64 0) ∧ St W0 f sa3 3 w' :=
  (((h.alloc _).later hb).put (by omega) ⟨#[99]⟩ ⟨#[120]⟩ (some ⟨w.heap.size, 0, none⟩) 1 1 [b1 97] rfl (by omega) (row1 w wn (b1 97) hb) (F' := sa3) sn3 (ok := true) (by kernel_rfl)).mono fun e w' ⟨h1, h2, _⟩ => ⟨h1, h2⟩
theorem q4 {wn : World} (h : St W0 f sa3 3 w) (hb : Below (w.alloc (.cells #[.string ⟨#[99]⟩, .string ⟨#[98]⟩] 9)).heap.size (w.alloc (.cells #[.string ⟨#[99]⟩, .string ⟨#[98]⟩] 9)) wn) : Calls Tryz.prog 7 #[.pointer (some ⟨f, 0, none⟩), .agg #[.string ⟨#[100]⟩, .slice (some ⟨w.heap.size, 0, none⟩) 2 2], .string ⟨#[121]⟩] wn fun e w' => e = .returned (.int .i64 0) ∧ St W0 f (saneF 49 120 121 false false) 4 w' :=
  (((h.alloc _).later hb).put (by omega) ⟨#[100]⟩ ⟨#[121]⟩ (some ⟨w.heap.size, 0, none⟩) 2 2 [b1 99, b1 98] rfl (by omega) (row2 w wn (b1 99) (b1 98) hb) (F' := (saneF 49 120 121 false false)) sn4 (ok := true) (by kernel_rfl)).mono fun e w' ⟨h1, h2, _⟩ => ⟨h1, h2⟩
theorem q5 (h : St W0 f (saneF 49 120 121 false false) 4 w) : Calls Tryz.prog 11 #[.pointer (some ⟨f, 0, none⟩)] w fun e w' => ∃ ao cap, e = .returned (.slice ao 0 cap) ∧ RowK 1 encT w' ao [] ∧ St W0 f (saneF 49 120 121 false false) 4 w' :=
  (h.stale (by omega) (by decide) st4 (m := 0) rfl).mono fun e w' ⟨ao, cap, h1, _, h2, h3, _⟩ => ⟨ao, cap, h1, h2, h3⟩
theorem q6 (h : St W0 f (saneF 49 120 121 false false) 4 w) : Calls Tryz.prog 6 #[.pointer (some ⟨f, 0, none⟩), .string ⟨#[97]⟩, .string ⟨#[49]⟩] w fun e w' => e = .returned (.int .i64 0) ∧ St W0 f (saneF 49 120 121 false false) 5 w' :=
  (h.set (by omega) ⟨#[97]⟩ ⟨#[49]⟩ (F' := (saneF 49 120 121 false false)) sn5 (ok := true) (by kernel_rfl)).mono fun e w' ⟨h1, h2, _⟩ => ⟨h1, h2⟩
theorem q7 (h : St W0 f (saneF 49 120 121 false false) 5 w) : Calls Tryz.prog 11 #[.pointer (some ⟨f, 0, none⟩)] w fun e w' => ∃ ao cap, e = .returned (.slice ao 0 cap) ∧ RowK 1 encT w' ao [] ∧ St W0 f (saneF 49 120 121 false false) 5 w' :=
  (h.stale (by omega) (by decide) st4 (m := 0) rfl).mono fun e w' ⟨ao, cap, h1, _, h2, h3, _⟩ => ⟨ao, cap, h1, h2, h3⟩
theorem q8 (h : St W0 f (saneF 49 120 121 false false) 5 w) : Calls Tryz.prog 6 #[.pointer (some ⟨f, 0, none⟩), .string ⟨#[97]⟩, .string ⟨#[53]⟩] w fun e w' => e = .returned (.int .i64 0) ∧ St W0 f (saneF 53 120 121 true false) 6 w' :=
  (h.set (by omega) ⟨#[97]⟩ ⟨#[53]⟩ (F' := (saneF 53 120 121 true false)) sn6 (ok := true) (by kernel_rfl)).mono fun e w' ⟨h1, h2, _⟩ => ⟨h1, h2⟩
theorem q9 (h : St W0 f (saneF 53 120 121 true false) 6 w) : Calls Tryz.prog 11 #[.pointer (some ⟨f, 0, none⟩)] w fun e w' => ∃ ao cap, e = .returned (.slice ao 1 cap) ∧ RowK 1 encT w' ao [b1 99] ∧ St W0 f (saneF 53 120 121 true false) 6 w' :=
  (h.stale (by omega) (by decide) st6 (m := 1) rfl).mono fun e w' ⟨ao, cap, h1, _, h2, h3, _⟩ => ⟨ao, cap, h1, h2, h3⟩
theorem q11 {wn : World} (h : St W0 f (saneF 53 120 121 true false) 6 w) (hb : Below (w.alloc (.cells #[.string ⟨#[99]⟩, .string ⟨#[98]⟩] 9)).heap.size (w.alloc (.cells #[.string ⟨#[99]⟩, .string ⟨#[98]⟩] 9)) wn) : Calls Tryz.prog 7 #[.pointer (some ⟨f, 0, none⟩), .agg #[.string ⟨#[100]⟩, .slice (some ⟨w.heap.size, 0, none⟩) 2 2], .string ⟨#[122]⟩] wn fun e w' => e = .returned (.int .i64 200) ∧ St W0 f (saneF 53 120 121 true false) 7 w' :=
  (((h.alloc _).later hb).put (by omega) ⟨#[100]⟩ ⟨#[122]⟩ (some ⟨w.heap.size, 0, none⟩) 2 2 [b1 99, b1 98] rfl (by omega) (row2 w wn (b1 99) (b1 98) hb) (F' := (saneF 53 120 121 true false)) sn7 (ok := false) (by kernel_rfl)).mono fun e w' ⟨h1, h2, _⟩ => ⟨h1, h2⟩
theorem q12 {wn : World} (h : St W0 f (saneF 53 120 121 true false) 7 w) (hb : Below (w.alloc (.cells #[.string ⟨#[97]⟩] 9)).heap.size (w.alloc (.cells #[.string ⟨#[97]⟩] 9)) wn) : Calls Tryz.prog 7 #[.pointer (some ⟨f, 0, none⟩), .agg #[.string ⟨#[99]⟩, .slice (some ⟨w.heap.size, 0, none⟩) 1 1], .string ⟨#[120]⟩] wn fun e w' => e = .returned (.int .i64 0) ∧ St W0 f (saneF 53 120 121 false false) 8 w' :=
  (((h.alloc _).later hb).put (by omega) ⟨#[99]⟩ ⟨#[120]⟩ (some ⟨w.heap.size, 0, none⟩) 1 1 [b1 97] rfl (by omega) (row1 w wn (b1 97) hb) (F' := (saneF 53 120 121 false false)) sn8 (ok := true) (by kernel_rfl)).mono fun e w' ⟨h1, h2, _⟩ => ⟨h1, h2⟩
theorem q13 (h : St W0 f (saneF 53 120 121 false false) 8 w) : Calls Tryz.prog 11 #[.pointer (some ⟨f, 0, none⟩)] w fun e w' => ∃ ao cap, e = .returned (.slice ao 0 cap) ∧ RowK 1 encT w' ao [] ∧ St W0 f (saneF 53 120 121 false false) 8 w' :=
  (h.stale (by omega) (by decide) st8 (m := 0) rfl).mono fun e w' ⟨ao, cap, h1, _, h2, h3, _⟩ => ⟨ao, cap, h1, h2, h3⟩
theorem q14 (h : St W0 f (saneF 53 120 121 false false) 8 w) : Calls Tryz.prog 6 #[.pointer (some ⟨f, 0, none⟩), .string ⟨#[97]⟩, .string ⟨#[54]⟩] w fun e w' => e = .returned (.int .i64 0) ∧ St W0 f (saneF 54 120 121 true false) 9 w' :=
  (h.set (by omega) ⟨#[97]⟩ ⟨#[54]⟩ (F' := (saneF 54 120 121 true false)) sn9 (ok := true) (by kernel_rfl)).mono fun e w' ⟨h1, h2, _⟩ => ⟨h1, h2⟩
theorem q15 {wn : World} (h : St W0 f (saneF 54 120 121 true false) 9 w) (hb : Below (w.alloc (.cells #[.string ⟨#[97]⟩] 9)).heap.size (w.alloc (.cells #[.string ⟨#[97]⟩] 9)) wn) : Calls Tryz.prog 7 #[.pointer (some ⟨f, 0, none⟩), .agg #[.string ⟨#[99]⟩, .slice (some ⟨w.heap.size, 0, none⟩) 1 1], .string ⟨#[119]⟩] wn fun e w' => e = .returned (.int .i64 0) ∧ St W0 f (saneF 54 119 121 false true) 10 w' :=
  (((h.alloc _).later hb).put (by omega) ⟨#[99]⟩ ⟨#[119]⟩ (some ⟨w.heap.size, 0, none⟩) 1 1 [b1 97] rfl (by omega) (row1 w wn (b1 97) hb) (F' := (saneF 54 119 121 false true)) sn10 (ok := true) (by kernel_rfl)).mono fun e w' ⟨h1, h2, _⟩ => ⟨h1, h2⟩
theorem q16 (h : St W0 f (saneF 54 119 121 false true) 10 w) : Calls Tryz.prog 11 #[.pointer (some ⟨f, 0, none⟩)] w fun e w' => ∃ ao cap, e = .returned (.slice ao 1 cap) ∧ RowK 1 encT w' ao [b1 100] ∧ St W0 f (saneF 54 119 121 false true) 10 w' :=
  (h.stale (by omega) (by decide) st10 (m := 1) rfl).mono fun e w' ⟨ao, cap, h1, _, h2, h3, _⟩ => ⟨ao, cap, h1, h2, h3⟩
theorem qv1 (h : St W0 f (saneF 54 119 121 false true) 10 w) : Calls Tryz.prog 13 #[.pointer (some ⟨f, 0, none⟩), .string ⟨#[99]⟩] w fun e w' => e = .returned (.tuple #[.string ⟨#[119]⟩, .bool true]) ∧ w = w' := h.value ⟨#[99]⟩ (by kernel_rfl)
theorem qv2 (h : St W0 f (saneF 54 119 121 false true) 10 w) : Calls Tryz.prog 13 #[.pointer (some ⟨f, 0, none⟩), .string ⟨#[100]⟩] w fun e w' => e = .returned (.tuple #[.string ⟨#[]⟩, .bool false]) ∧ w = w' := h.value ⟨#[100]⟩ (by kernel_rfl)
theorem ql (h : St W0 f (saneF 54 119 121 false true) 10 w) : Calls Tryz.prog 16 #[.pointer (some ⟨f, 0, none⟩)] w fun e w' => e = .returned (.int .i64 4) ∧ w = w' := h.flen (by omega) (n := 4) rfl
theorem qr (h : St W0 f (saneF 54 119 121 false true) 10 w) : Calls Tryz.prog 17 #[.pointer (some ⟨f, 0, none⟩), .string ⟨#[100]⟩] w fun e w' => ∃ ao cap, e = .returned (.slice ao 2 cap) ∧ RowK 1 encT w' ao [b1 98, b1 99] ∧ St W0 f (saneF 54 119 121 false true) 10 w' := (h.reads (by omega) ⟨#[100]⟩ (l := [b1 98, b1 99]) (m := 2) (by kernel_rfl) rfl).mono fun e w' ⟨ao, cap, h1, h2, h3, _⟩ => ⟨ao, cap, h1, h2, h3⟩
theorem qd1 (h : St W0 f (saneF 54 119 121 false true) 10 w) : Calls Tryz.prog 18 #[.pointer (some ⟨f, 0, none⟩), .string ⟨#[99]⟩] w fun e w' => e = .returned (.int .i64 200) ∧ St W0 f (saneF 54 119 121 false true) 10 w' := (h.drop (by omega) ⟨#[99]⟩ (F' := (saneF 54 119 121 false true)) (by kernel_rfl) (ok := false) (by kernel_rfl)).mono fun e w' ⟨h1, h2, _⟩ => ⟨h1, h2⟩
theorem qd2 (h : St W0 f (saneF 54 119 121 false true) 10 w) : Calls Tryz.prog 18 #[.pointer (some ⟨f, 0, none⟩), .string ⟨#[100]⟩] w fun e w' => e = .returned (.int .i64 0) ∧ Below W0.heap.size W0 w' := (h.drop (by omega) ⟨#[100]⟩ rfl (ok := true) (by kernel_rfl)).mono fun e w' ⟨h1, h2, _⟩ => ⟨h1, h2.2⟩
theorem qs {x : UInt8} {ao : Option Addr} {cap : Nat} (h : RowK 1 encT w ao [b1 x]) : Calls Tryz.prog 15 #[.slice ao 1 cap, .slice (some ⟨w.heap.size, 0, none⟩) 1 1] (w.alloc (.cells #[.string ⟨#[x]⟩] 9)) fun e w' => e = .returned (.bool true) ∧ Below (w.alloc (.cells #[.string ⟨#[x]⟩] 9)).heap.size (w.alloc (.cells #[.string ⟨#[x]⟩] 9)) w' := by
  refine (same_any ao (some ⟨w.heap.size, 0, none⟩) cap 1 1 1 [b1 x] [b1 x] _ rfl rfl (by omega) (h.later ((Below.refl _ w).alloc (Nat.le_refl _) _)) (RowK_lit w [b1 x])).mono ?_
  rintro e w' ⟨rfl, h2⟩
  exact ⟨by unfold sameB; simp, h2⟩
theorem qs2 {ao : Option Addr} {cap : Nat} (h : RowK 1 encT w ao [b1 98, b1 99]) : Calls Tryz.prog 15 #[.slice ao 2 cap, .slice (some ⟨w.heap.size, 0, none⟩) 2 2] (w.alloc (.cells #[.string ⟨#[98]⟩, .string ⟨#[99]⟩] 9)) fun e w' => e = .returned (.bool true) ∧ Below (w.alloc (.cells #[.string ⟨#[98]⟩, .string ⟨#[99]⟩] 9)).heap.size (w.alloc (.cells #[.string ⟨#[98]⟩, .string ⟨#[99]⟩] 9)) w' := by
  refine (same_any ao (some ⟨w.heap.size, 0, none⟩) cap 2 2 2 [b1 98, b1 99] [b1 98, b1 99] _ rfl rfl (by omega) (h.later ((Below.refl _ w).alloc (Nat.le_refl _) _)) (RowK_lit w [b1 98, b1 99])).mono ?_
  rintro e w' ⟨rfl, h2⟩
  exact ⟨by unfold sameB; simp, h2⟩
end

set_option maxRecDepth 100000 in
set_option maxHeartbeats 4000000 in
theorem sane_any (W : World) : Calls Tryz.prog 4 #[] W fun e w' => e = .returned (.bool true) ∧ Below W.heap.size W w' := by
  go_enter Tryz.func4, Tryz.ntmps4
  go_wp2_with (first
    | (go_at_call 5; refine (st_new _).mono ?_; rintro e w0 ⟨f, rfl, hs⟩; have S0 := Lib.hid hs; clear hs)
    | (go_at_call 8; refine (node_any _ _ _ _ _).mono ?_; rintro e wn ⟨rfl, hbn⟩; have BN := Lib.hid hbn; clear hbn)
    | (go_at_call 6; with_reducible refine (q1 S0.out).mono ?_; rintro e w1 ⟨rfl, hs⟩; have S1 := Lib.hid hs; clear hs)
    | (go_at_call 6; with_reducible refine (q2 S1.out).mono ?_; rintro e w2 ⟨rfl, hs⟩; have S2 := Lib.hid hs; clear hs)
    | (go_at_call 7; with_reducible refine (q3 S2.out BN.out).mono ?_; rintro e w3 ⟨rfl, hs⟩; have S3 := Lib.hid hs; clear hs)
    | (go_at_call 7; with_reducible refine (q4 S3.out BN.out).mono ?_; rintro e w4 ⟨rfl, hs⟩; have S4 := Lib.hid hs; clear hs)
    | (go_at_call 11; with_reducible refine (q5 S4.out).mono ?_; rintro e w5 ⟨ao5, cap5, rfl, hrw, hs⟩; have S5 := Lib.hid hs; clear hs; clear hrw)
    | (go_at_call 6; with_reducible refine (q6 S5.out).mono ?_; rintro e w6 ⟨rfl, hs⟩; have S6 := Lib.hid hs; clear hs)
    | (go_at_call 11; with_reducible refine (q7 S6.out).mono ?_; rintro e w7 ⟨ao7, cap7, rfl, hrw, hs⟩; have S7 := Lib.hid hs; clear hs; clear hrw)
    | (go_at_call 6; with_reducible refine (q8 S7.out).mono ?_; rintro e w8 ⟨rfl, hs⟩; have S8 := Lib.hid hs; clear hs)
    | (go_at_call 11; with_reducible refine (q9 S8.out).mono ?_; rintro e w9 ⟨ao9, cap9, rfl, hrw, hs⟩; have S9 := Lib.hid hs; clear hs; have R9 := Lib.hid hrw; clear hrw)
    | (go_at_call 15; with_reducible refine (qs R9.out).mono ?_; rintro e w10 ⟨rfl, hbs⟩; have S10 := Lib.hid ((S9.out.alloc _).later hbs); clear hbs)
    | (go_at_call 7; with_reducible refine (q11 S10.out BN.out).mono ?_; rintro e w11 ⟨rfl, hs⟩; have S11 := Lib.hid hs; clear hs)
    | (go_at_call 7; with_reducible refine (q12 S11.out BN.out).mono ?_; rintro e w12 ⟨rfl, hs⟩; have S12 := Lib.hid hs; clear hs)
    | (go_at_call 11; with_reducible refine (q13 S12.out).mono ?_; rintro e w13 ⟨ao13, cap13, rfl, hrw, hs⟩; have S13 := Lib.hid hs; clear hs; clear hrw)
    | (go_at_call 6; with_reducible refine (q14 S13.out).mono ?_; rintro e w14 ⟨rfl, hs⟩; have S14 := Lib.hid hs; clear hs)
    | (go_at_call 7; with_reducible refine (q15 S14.out BN.out).mono ?_; rintro e w15 ⟨rfl, hs⟩; have S15 := Lib.hid hs; clear hs)
    | (go_at_call 11; with_reducible refine (q16 S15.out).mono ?_; rintro e w16 ⟨ao16, cap16, rfl, hrw, hs⟩; have S16 := Lib.hid hs; clear hs; have R16 := Lib.hid hrw; clear hrw)
    | (go_at_call 15; with_reducible refine (qs R16.out).mono ?_; rintro e w17 ⟨rfl, hbs⟩; have S17 := Lib.hid ((S16.out.alloc _).later hbs); clear hbs)
    | (go_at_call 13; with_reducible refine (qv1 S17.out).mono ?_; rintro e w' ⟨rfl, rfl⟩)
    | (go_at_call 13; with_reducible refine (qv2 S17.out).mono ?_; rintro e w' ⟨rfl, rfl⟩)
    | (go_at_call 16; with_reducible refine (ql S17.out).mono ?_; rintro e w' ⟨rfl, rfl⟩)
    | (go_at_call 17; with_reducible refine (qr S17.out).mono ?_; rintro e w18 ⟨ao18, cap18, rfl, hrw, hs⟩; have R18 := Lib.hid hrw; have S18 := Lib.hid hs; clear hrw hs)
    | (go_at_call 15; with_reducible refine (qs2 R18.out).mono ?_; rintro e w19 ⟨rfl, hbs⟩; have S19 := Lib.hid ((S18.out.alloc _).later hbs); clear hbs)
    | (go_at_call 18; with_reducible refine (qd1 S19.out).mono ?_; rintro e w20 ⟨rfl, hs⟩; have S20 := Lib.hid hs; clear hs)
    | (go_at_call 18; with_reducible refine (qd2 S20.out).mono ?_; rintro e w21 ⟨rfl, hs⟩; have S21 := Lib.hid hs; clear hs))
  go_ret
  exact ⟨rfl, S21.out⟩

end Go.Proofs.YtffifhbldcjelaaGreatDoor
