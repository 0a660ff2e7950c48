import Derived.Test.YtbkmcncakpmgkaaUsr
import Derived.DeepKeys4
import Derived.ChangeKeysEq
import Derived.Test.YtbkmcncakpmgkaaShelfU

/-! Usages: the list of usages by account and recording; keys that are structs of two integers. -/
namespace Go.Proofs.Ytbkmcncakpmgkaa
set_option linter.unusedVariables false
open Go.ChangeShapes Go.WideShapes Go.ChangeAt Go.RowKit Go.Shelf Go.Maps Go.Sort

structure St where
  dev : Int
  id : Int
  acc : Int
  rcd : Int
  ter : Int
  sec : Int
  per : Int
  ses : Int
  mark : Int

def encT (s : St) : List Value := [.int .i64 s.dev, .int .i64 s.id, .int .i64 s.acc, .int .i64 s.rcd, .int .i64 s.ter, .int .i64 s.sec, .int .i64 s.per, .int .i64 s.ses, .int .i64 s.mark]

def ltK (a r a' r' : Int) : Prop := a < a' ∨ (a = a' ∧ r < r')
instance (a r a' r' : Int) : Decidable (ltK a r a' r') := by unfold ltK; exact inferInstance

/-- one more stream of (a, r): v valid, h held -/
def bumpU (a r v h : Int) : List Us → List Us
  | [] => [⟨a, r, v, h⟩]
  | u :: t => if ltK a r u.acc u.rcd then ⟨a, r, v, h⟩ :: u :: t else if u.acc = a ∧ u.rcd = r then ⟨a, r, u.val + v, u.held + h⟩ :: t else u :: bumpU a r v h t

def uStepS (S : List Us) (s : St) : List Us := if s.mark = 1 then bumpU s.acc s.rcd 1 0 S else if s.mark = 2 then bumpU s.acc s.rcd 0 1 S else S
def usL (l : List St) : List Us := l.foldl uStepS []

theorem usL_take (l : List St) (k : Nat) (h : k < l.length) : usL (l.take (k + 1)) = uStepS (usL (l.take k)) l[k] := by
  unfold usL; rw [List.take_succ_eq_append_getElem h, List.foldl_append]; rfl

def SortedU (S : List Us) : Prop := S.Pairwise (fun u v => ltK u.acc u.rcd v.acc v.rcd)

def findU (a r : Int) : List Us → Option Us
  | [] => none
  | u :: t => if u.acc = a ∧ u.rcd = r then some u else findU a r t

theorem findU_none {a r : Int} : ∀ {S : List Us}, findU a r S = none ↔ ∀ u ∈ S, ¬ (u.acc = a ∧ u.rcd = r)
  | [] => by simp [findU]
  | u :: t => by
    unfold findU
    by_cases h : u.acc = a ∧ u.rcd = r
    · simp [h]
    · rw [if_neg h, findU_none]
      exact ⟨fun q x hx => by rcases List.mem_cons.1 hx with rfl | hx; exact h; exact q x hx, fun q x hx => q x (by simp [hx])⟩

theorem findU_some {a r : Int} {u : Us} : ∀ {S : List Us}, findU a r S = some u → u ∈ S ∧ u.acc = a ∧ u.rcd = r
  | [], h => by simp [findU] at h
  | v :: t, h => by
    unfold findU at h
    split at h
    · rename_i hc; cases h; exact ⟨by simp, hc⟩
    · obtain ⟨h1, h2⟩ := findU_some h; exact ⟨by simp [h1], h2⟩

theorem findU_mem {u : Us} : ∀ {S : List Us}, SortedU S → u ∈ S → findU u.acc u.rcd S = some u
  | [], _, h => by simp at h
  | v :: t, hs, h => by
    obtain ⟨h1, h2⟩ := List.pairwise_cons.1 hs
    unfold findU
    rcases List.mem_cons.1 h with rfl | h
    · rw [if_pos ⟨rfl, rfl⟩]
    · have := h1 u h
      unfold ltK at this
      rw [if_neg (by omega)]; exact findU_mem h2 h

theorem bump_mem {a r v h : Int} {u : Us} : ∀ {S : List Us}, u ∈ bumpU a r v h S → (u.acc = a ∧ u.rcd = r) ∨ u ∈ S
  | [], hu => by simp [bumpU] at hu; subst hu; exact .inl ⟨rfl, rfl⟩
  | w :: t, hu => by
    unfold bumpU at hu
    split at hu
    · rcases List.mem_cons.1 hu with rfl | hu
      · exact .inl ⟨rfl, rfl⟩
      · exact .inr hu
    · split at hu
      · rcases List.mem_cons.1 hu with rfl | hu
        · exact .inl ⟨rfl, rfl⟩
        · exact .inr (by simp [hu])
      · rcases List.mem_cons.1 hu with rfl | hu
        · exact .inr (by simp)
        · rcases bump_mem hu with q | q
          · exact .inl q
          · exact .inr (by simp [q])

theorem bump_sorted {a r v h : Int} : ∀ {S : List Us}, SortedU S → SortedU (bumpU a r v h S)
  | [], _ => by simp [bumpU, SortedU]
  | w :: t, hs => by
    obtain ⟨h1, h2⟩ := List.pairwise_cons.1 hs
    unfold bumpU
    split
    · rename_i q
      refine List.pairwise_cons.2 ⟨fun x hx => ?_, hs⟩
      rcases List.mem_cons.1 hx with rfl | hx
      · exact q
      · have := h1 x hx; unfold ltK at *; dsimp only; omega
    · split
      · rename_i _ q
        refine List.pairwise_cons.2 ⟨fun x hx => ?_, h2⟩
        have := h1 x hx; unfold ltK at *; dsimp only; omega
      · rename_i q1 q2
        refine List.pairwise_cons.2 ⟨fun x hx => ?_, bump_sorted h2⟩
        rcases bump_mem hx with q | q
        · unfold ltK at *; omega
        · exact h1 x q

def bumped (a r v h : Int) (o : Option Us) : Us :=
  match o with
  | none => ⟨a, r, v, h⟩
  | some u => ⟨a, r, u.val + v, u.held + h⟩

theorem find_same {a r v h : Int} : ∀ {S : List Us}, SortedU S → findU a r (bumpU a r v h S) = some (bumped a r v h (findU a r S))
  | [], _ => by simp [bumpU, findU, bumped]
  | w :: t, hs => by
    obtain ⟨h1, h2⟩ := List.pairwise_cons.1 hs
    unfold bumpU
    split
    · rename_i q
      have hn : findU a r (w :: t) = none := findU_none.2 (fun u hu => by
        rcases List.mem_cons.1 hu with rfl | hu
        · unfold ltK at q; omega
        · have := h1 u hu; unfold ltK at *; omega)
      rw [hn]; simp [findU, bumped]
    · split
      · rename_i _ q
        simp [findU, q, bumped]
      · rename_i q1 q2
        simp only [findU, if_neg q2]
        exact find_same h2

theorem find_other {a r v h a' r' : Int} (hne : ¬ (a' = a ∧ r' = r)) : ∀ {S : List Us}, findU a' r' (bumpU a r v h S) = findU a' r' S
  | [] => by simp [bumpU, findU]; omega
  | w :: t => by
    unfold bumpU
    split
    · conv => lhs; unfold findU
      rw [if_neg (by dsimp only; omega)]
    · split
      · rename_i _ q
        unfold findU
        rw [if_neg (by dsimp only; omega), if_neg (by omega)]
      · rename_i q1 q2
        unfold findU
        split
        · rfl
        · exact find_other hne

theorem bump_len {a r v h : Int} : ∀ {S : List Us}, (bumpU a r v h S).length ≤ S.length + 1
  | [] => by simp [bumpU]
  | w :: t => by
    unfold bumpU
    split
    · simp
    · split
      · simp
      · have := bump_len (a := a) (r := r) (v := v) (h := h) (S := t)
        simp only [List.length_cons]; omega

theorem bump_val {a r v h n : Int} (hv : 0 ≤ v ∧ v ≤ 1) (hh : 0 ≤ h ∧ h ≤ 1) (hn : 0 ≤ n) : ∀ {S : List Us}, (∀ u ∈ S, 0 ≤ u.val ∧ u.val ≤ n ∧ 0 ≤ u.held ∧ u.held ≤ n) → ∀ u ∈ bumpU a r v h S, 0 ≤ u.val ∧ u.val ≤ n + 1 ∧ 0 ≤ u.held ∧ u.held ≤ n + 1
  | [], _, u, hu => by simp [bumpU] at hu; subst hu; dsimp only; omega
  | w :: t, hS, u, hu => by
    have hw := hS w (by simp)
    unfold bumpU at hu
    split at hu
    · rcases List.mem_cons.1 hu with rfl | hu
      · dsimp only; omega
      · have := hS u hu; omega
    · split at hu
      · rcases List.mem_cons.1 hu with rfl | hu
        · dsimp only; omega
        · have := hS u (by simp [hu]); omega
      · rcases List.mem_cons.1 hu with rfl | hu
        · omega
        · exact bump_val hv hh hn (fun x hx => hS x (by simp [hx])) u hu

theorem usL_facts (l : List St) : ∀ k, k ≤ l.length → SortedU (usL (l.take k)) ∧ (usL (l.take k)).length ≤ k ∧ (∀ u ∈ usL (l.take k), 0 ≤ u.val ∧ u.val ≤ k ∧ 0 ≤ u.held ∧ u.held ≤ k)
  | 0, _ => ⟨by simp [usL, SortedU], by simp [usL], by simp [usL]⟩
  | k + 1, h => by
    obtain ⟨h1, h2, h3⟩ := usL_facts l k (by omega)
    rw [usL_take l k h]
    unfold uStepS
    split
    · refine ⟨bump_sorted h1, by have := bump_len (a := l[k].acc) (r := l[k].rcd) (v := 1) (h := 0) (S := usL (l.take k)); omega, fun u hu => ?_⟩
      have := bump_val (by omega) (by omega) (by omega) h3 u hu
      push_cast; omega
    · split
      · refine ⟨bump_sorted h1, by have := bump_len (a := l[k].acc) (r := l[k].rcd) (v := 0) (h := 1) (S := usL (l.take k)); omega, fun u hu => ?_⟩
        have := bump_val (by omega) (by omega) (by omega) h3 u hu
        push_cast; omega
      · exact ⟨h1, by omega, fun u hu => by have := h3 u hu; push_cast; omega⟩

/-- a sorted list is what any order of its elements sorts to -/
theorem sortedU_eq {S L : List Us} (hp : L.Perm S) (hS : SortedU S) (hL : SortedU L) : L = S := by
  refine List.Perm.eq_of_pairwise (le := fun (u v : Us) => ltK u.acc u.rcd v.acc v.rcd) (fun a b _ _ h1 h2 => ?_) hL hS hp
  unfold ltK at *; omega

/-! the keys -/
def kv (a r : Int) : Value := .agg #[.int .i64 a, .int .i64 r]

theorem laidOut0 : laidOutB Try.prog = true := by kernel_rfl
theorem keyedS : Keyed Try.prog 69 :=
  Keyed.of_law (deep_law_laid laidOut0 (m := 2) (by omega) (of_decide_eq_true (by kernel_rfl)) (by kernel_rfl) (by kernel_rfl))

end Go.Proofs.Ytbkmcncakpmgkaa

/-! Keys that are structs of two integers: how they read; elements that are pointers. -/
namespace Go.Proofs.Ytbkmcncakpmgkaa
set_option linter.unusedVariables false
open Go.ChangeShapes Go.WideShapes Go.ChangeAt Go.RowKit Go.Shelf Go.Maps Go.Sort

theorem cellsK : Try.prog.cellsOf 69 = 2 := by kernel_rfl
theorem cellsI : Try.prog.cellsOf 3 = 1 := by kernel_rfl
theorem keyTypeK : Try.prog.keyType 69 = true := by kernel_rfl
theorem sizeP : ∃ d, Try.prog.types.size + 1 = d + 1 + 1 := ⟨Try.prog.types.size - 1, by have : 0 < Try.prog.types.size := of_decide_eq_true (by kernel_rfl); omega⟩

theorem key_mk (a r : Int) (ha : (Lit.int .i64 a).wf = true) (hr : (Lit.int .i64 r).wf = true) : ∃ kl, keyOf Try.prog 69 (kv a r) = some kl := by
  obtain ⟨d, hd⟩ := sizeP
  refine ⟨.string (keyBytes [.int .i64 a, .int .i64 r]), ?_⟩
  unfold keyOf
  rw [Try.underlying69]
  dsimp only
  rw [keyTypeK, hd]
  simp [kv, Value.formed, Try.underlying69, cellsK, Program.keyLits, Value.cells, cellsI, Try.underlying3, ha, hr]

set_option maxRecDepth 100000 in
theorem key_inv {v : Value} {kl : Lit} (h : keyOf Try.prog 69 v = some kl) : ∃ a r, v = kv a r ∧ (Lit.int .i64 a).wf = true ∧ (Lit.int .i64 r).wf = true := by
  obtain ⟨d, hd⟩ := sizeP
  unfold keyOf at h
  rw [Try.underlying69] at h
  dsimp only at h
  rw [keyTypeK, hd] at h
  cases v with
  | agg cs =>
    obtain ⟨l, rfl⟩ : ∃ l : List Value, cs = l.toArray := ⟨cs.toList, by simp⟩
    have hl : l.length = 2 := by
      by_cases hl : l.length = 2
      · exact hl
      · simp [Value.formed, Try.underlying69, cellsK, hl] at h
    match l, hl with
    | [x, y], _ =>
      cases x <;> simp [Value.formed, Try.underlying69, cellsK, Program.keyLits, Value.cells, cellsI, Try.underlying3] at h
      rename_i q a _hl
      by_cases c1 : q = .i64 ∧ (Lit.int .i64 a).wf = true
      · rw [if_pos c1] at h
        obtain ⟨rfl, h1⟩ := c1
        cases y with
        | int q' r =>
          by_cases c2 : q' = .i64 ∧ (Lit.int .i64 r).wf = true
          · obtain ⟨rfl, h2⟩ := c2
            exact ⟨a, r, rfl, h1, h2⟩
          · simp [c2] at h
        | _ => simp at h
      · simp [c1] at h
  | _ => simp [Value.formed, Try.underlying69] at h

end Go.Proofs.Ytbkmcncakpmgkaa

/-! The sort of usages by account and recording. -/
namespace Go.Proofs.Ytbkmcncakpmgkaa
set_option linter.unusedVariables false
open Go.ChangeShapes Go.WideShapes Go.ChangeAt Go.RowKit Go.Shelf Go.Maps Go.Lib
open Go.Sort (grow grow_grow alloc_eq_grow)

instance : Inhabited Us := ⟨⟨0, 0, 0, 0⟩⟩

def cfU (x y : Us) : Int := orZ (Lib.compareInt x.acc y.acc) (Lib.compareInt x.rcd y.rcd)

set_option maxRecDepth 100000 in
set_option maxHeartbeats 2000000 in
theorem ucmp_any (x y : Us) (W : World) : Calls Try.prog 38 #[.agg #[.int .i64 x.acc, .int .i64 x.rcd, .int .i64 x.val, .int .i64 x.held], .agg #[.int .i64 y.acc, .int .i64 y.rcd, .int .i64 y.val, .int .i64 y.held]] W fun e w' => e = .returned (.int .i64 (orZ (Lib.compareInt x.acc y.acc) (Lib.compareInt x.rcd y.rcd))) ∧ ∃ q os', w' = grow (W.drewN q) os' := by
  obtain ⟨i, r, x2, x3⟩ := x
  obtain ⟨j, s, y2, y3⟩ := y
  dsimp only
  go_enter Try.func38, Try.ntmps38
  go_wp2_with fail
  go_region_held3 (fun w' => w'.cell? ⟨W.heap.size, 0, none⟩ = some (.int .i64 i) ∧ w'.cell? ⟨W.heap.size, 1, none⟩ = some (.int .i64 r) ∧ w'.cell? ⟨W.heap.size + 1, 0, none⟩ = some (.int .i64 j) ∧ w'.cell? ⟨W.heap.size + 1, 1, none⟩ = some (.int .i64 s)) (first | go_keep)
    (first | (go_at_call 40; refine (Try.cmp_Compare_int _ _ _).mono ?_; rintro e w' ⟨rfl, rfl⟩) | (go_at_call 39; refine (or_any (Lib.compareInt i j) (Lib.compareInt r s) _ _ ?_ ?_).mono ?_; (simp [World.cell?_alloc_at]); (simp [World.cell?_alloc_at]); rintro e w' ⟨rfl, rfl⟩))
  go_wp2
  go_ret
  exact ⟨rfl, 1, _, grow3 W _ _ _⟩

theorem cmpI_lt {x y : Int} (h : x < y) : Lib.compareInt x y = -1 := by unfold Lib.compareInt; rw [if_pos h]
theorem cmpI_eq {x y : Int} (h : x = y) : Lib.compareInt x y = 0 := by unfold Lib.compareInt; rw [if_neg (by omega), if_neg (by omega)]
theorem cmpI_gt {x y : Int} (h : y < x) : Lib.compareInt x y = 1 := by unfold Lib.compareInt; rw [if_neg (by omega), if_pos h]

theorem ltCfU (x y : Us) : ltOf cfU x y = decide (ltK x.acc x.rcd y.acc y.rcd) := by
  unfold ltOf cfU
  rw [Bool.eq_iff_iff]
  simp only [decide_eq_true_eq]
  unfold ltK orZ
  rcases Int.lt_trichotomy x.acc y.acc with h | h | h
  · rw [cmpI_lt h, if_neg (by omega)]; omega
  · rw [cmpI_eq h, if_pos rfl]
    rcases Int.lt_trichotomy x.rcd y.rcd with g | g | g
    · rw [cmpI_lt g]; omega
    · rw [cmpI_eq g]; omega
    · rw [cmpI_gt g]; omega
  · rw [cmpI_gt h, if_neg (by omega)]; omega

theorem ltU_iff (x y : Us) : ltOf cfU x y = true ↔ ltK x.acc x.rcd y.acc y.rcd := by rw [ltCfU, decide_eq_true_iff]
theorem ltU_not (x y : Us) : ltOf cfU x y = false ↔ ¬ ltK x.acc x.rcd y.acc y.rcd := by rw [ltCfU, decide_eq_false_iff_not]

theorem swoU : Go.Sort.SWO (ltOf cfU) where
  irrefl x := by rw [ltU_not]; unfold ltK; omega
  trans x y z h1 h2 := by rw [ltU_iff] at *; unfold ltK at *; omega
  ntrans x y z h1 h2 := by rw [ltU_not] at *; unfold ltK at *; omega

theorem cmpLaysU (blk off size : Nat) (w : World) : CmpLays Try.prog 38 #[] encU 4 cfU blk off size w :=
  fun _ _ _ _ x y => ucmp_any x y _

/-- no key twice: sorted, it is the list -/
theorem sorted_is {L S : List Us} (hp : L.Perm S) (hS : SortedU S) {d' : Array Us} (h1 : Go.Sort.PermIn 0 L.toArray.size L.toArray d') (h2 : Go.Sort.SortedIn (ltOf cfU) 0 L.toArray.size d') : d' = S.toArray := by
  obtain ⟨hsz, _, hperm⟩ := h1
  have e1 : d'.extract 0 L.toArray.size = d' := by rw [← hsz]; exact Array.extract_size
  rw [e1, Array.extract_size] at hperm
  have hperm' : d'.toList.Perm S := by simpa using hperm.trans (by simpa using hp)
  have : d'.toList = S := by
    refine sortedU_eq hperm' hS ?_
    unfold SortedU
    rw [List.pairwise_iff_getElem]
    intro i j hi hj hij
    have hi' : i < d'.size := by simpa using hi
    have hj' : j < d'.size := by simpa using hj
    have := h2 i j (Nat.zero_le _) hij (by omega)
    rw [getElem!_pos d' j hj', getElem!_pos d' i hi', ltCfU, decide_eq_false_iff_not] at this
    simp only [Array.getElem_toList]
    -- keys differ
    have m1 : d'[i] ∈ S := hperm'.mem_iff.1 (by simp)
    have m2 : d'[j] ∈ S := hperm'.mem_iff.1 (by simp)
    have hne : ¬ (d'[i].acc = d'[j].acc ∧ d'[i].rcd = d'[j].rcd) := fun e => by
      have f1 := findU_mem hS m1
      have f2 := findU_mem hS m2
      rw [e.1, e.2, f2] at f1
      have eq : d'[j] = d'[i] := Option.some.inj f1
      have nd : d'.toList.Nodup := by
        refine hperm'.nodup_iff.2 (List.Pairwise.imp (fun {u v} h e => ?_) hS)
        subst e; unfold ltK at h; omega
      have := (List.pairwise_iff_getElem.1 nd) i j hi hj hij
      simp only [Array.getElem_toList] at this
      exact this eq.symm
    unfold ltK at *; omega
  rw [← this]

theorem usort_any (blk cap : Nat) (L S : List Us) (w : World) (hp : L.Perm S) (hS : SortedU S) (hH : Go.Sort.HoldsK encU 4 w blk 0 L.toArray) (hblk : blk < w.heap.size) (hsz : L.length < 4611686018427387904) :
    Calls Try.prog 37 #[.slice (some ⟨blk, 0, none⟩) L.length cap, .func (.func 38) #[] #[]] w fun e w' =>
      e = .returned (.tuple #[]) ∧ RowK 4 encU w' (some ⟨blk, 0, none⟩) S ∧ Chg (fun k => k = blk) w w' := by
  have eg : ∀ args w, (callFunc 38 args).run Try.prog w = .ok (.enter 38 args) w := enters_of Try.func38 (by kernel_rfl) rfl
  refine (AnyQ.slices_SortFunc Try.sortU 4 Try.isAgg42 Try.sizeOf42 encU (fun _ => rfl) (fun x v hv => encU_one x v hv) cfU swoU 38 #[] blk 0 cap L.toArray w eg (cmpLaysU blk 0 _ w) hH hblk hsz).mono ?_
  rintro e w' ⟨he, d', n, os, h1, h2, hw⟩
  have hd := sorted_is hp hS h1 h2
  subst hd
  have hlen : S.length = L.length := hp.length_eq.symm
  have hH' := holdsK_sortWorldK_c encU 4 w blk 0 L.toArray S.toArray n os hH hblk (by simp [hlen])
  rw [← hw] at hH'
  refine ⟨he, fun i x hx => ⟨blk, 0, rfl, ?_, fun j v hv => ?_⟩, ?_⟩
  · rw [hw]; exact Nat.lt_of_lt_of_le hblk (size_sortWorldK_c encU 4 w blk 0 n _ os)
  · have hi : i < S.toArray.size := by simpa using (List.getElem?_eq_some_iff.1 hx).1
    have hj : j < 4 := by have := (List.getElem?_eq_some_iff.1 hv).1; rw [encU_len] at this; exact this
    have := (hH'.cell (i := i) (c := j) hi hj).1
    rw [this]
    have e1 : S.toArray[i]! = x := by
      have := (List.getElem?_eq_some_iff.1 hx)
      obtain ⟨q1, q2⟩ := this
      simp [q1, q2]
    rw [e1]
    obtain ⟨q1, q2⟩ := List.getElem?_eq_some_iff.1 hv
    simp [q1, q2]
  · rw [hw]
    refine ⟨rfl, rfl, rfl, size_sortWorldK_c encU 4 w blk 0 n _ os, fun k hk hn => ?_⟩
    unfold sortWorldK
    rw [Go.Sort.heap_grow_old _ _ (by unfold Go.Sort.putRowK; rw [Go.Sort.size_putRow]; exact hk)]
    unfold Go.Sort.putRowK Go.Sort.putRow Go.Sort.mapBlock
    simp only [Array.getElem?_modify]
    rw [if_neg (fun h => hn h.symm)]
    rfl

theorem usort_none (p : Option Addr) (cap : Nat) (w : World) :
    Calls Try.prog 37 #[.slice p 0 cap, .func (.func 38) #[] #[]] w fun e w' => e = .returned (.tuple #[]) ∧ w = w' :=
  (AnyF.slices_SortFunc_none Try.sortU p cap _ w).mono fun _ _ ⟨h1, h2⟩ => ⟨h1, h2.symm⟩

end Go.Proofs.Ytbkmcncakpmgkaa
