import Derived.Test.YtgbnhngaeefmkaaLwE

/-! A flow of nine names, in plain words; what is refused. -/
namespace Go.Proofs.Ytgbnhngaeefmkaa
set_option linter.unusedVariables false
open Go.RowKit

theorem nm_mapped {F : List En} {g : En → En} (hg : ∀ e, (g e).nm = e.nm) : ∀ e ∈ F.map g, ∃ e' ∈ F, e'.nm = e.nm := fun e he => by
  obtain ⟨e', h1, rfl⟩ := List.mem_map.1 he
  exact ⟨e', h1, (hg e').symm⟩
theorem nm_upd {F : List En} {n : ByteArray} {g : En → En} (hg : ∀ e, (g e).nm = e.nm) : ∀ e ∈ updF F n g, ∃ e' ∈ F, e'.nm = e.nm := nm_mapped (fun e => by split; exact hg e; rfl)
theorem nm_chg {F : List En} {n v : ByteArray} : ∀ e ∈ chgF F n v, ∃ e' ∈ F, e'.nm = e.nm := fun e he => by
  unfold chgF at he
  split at he
  · split at he
    · exact ⟨e, he, rfl⟩
    · obtain ⟨e1, h1, q1⟩ := nm_mapped (g := fun e => if hasR e n = true then { e with stale := true } else e) (fun e => by split <;> rfl) e he
      obtain ⟨e2, h2, q2⟩ := nm_upd (g := fun e => { e with val := v }) (fun e => rfl) e1 h1
      exact ⟨e2, h2, q2.trans q1⟩
  · exact ⟨e, he, rfl⟩
theorem nm_set {F : List En} {n v : ByteArray} : ∀ e ∈ setF F n v, e.nm = n ∨ ∃ e' ∈ F, e'.nm = e.nm := fun e he => by
  unfold setF at he
  split at he
  · split at he
    · exact .inr (nm_chg e he)
    · rcases mem_insF.1 he with rfl | h
      · exact .inl rfl
      · exact .inr ⟨e, h, rfl⟩
  · exact .inr ⟨e, he, rfl⟩
theorem nm_put {F : List En} {n v : ByteArray} {l : List ByteArray} : ∀ e ∈ putF F n l v, e.nm = n ∨ ∃ e' ∈ F, e'.nm = e.nm := fun e he => by
  unfold putF at he
  split at he
  · split at he
    · obtain ⟨e1, h1, q1⟩ := nm_chg e he
      obtain ⟨e2, h2, q2⟩ := nm_upd (g := fun e => { e with rds := sortU l, stale := false }) (fun e => rfl) e1 h1
      exact .inr ⟨e2, h2, q2.trans q1⟩
    · rcases mem_insF.1 he with rfl | h
      · exact .inl rfl
      · exact .inr ⟨e, h, rfl⟩
  · exact .inr ⟨e, he, rfl⟩

/-- all names are among these -/
def Among (N : List ByteArray) (F : List En) : Prop := ∀ e ∈ F, e.nm ∈ N
theorem Among.set {N : List ByteArray} {F : List En} (h : Among N F) {n v : ByteArray} (hn : n ∈ N) : Among N (setF F n v) := fun e he => by
  rcases nm_set e he with q | ⟨e', h1, q⟩
  · rw [q]; exact hn
  · rw [← q]; exact h e' h1
theorem Among.put {N : List ByteArray} {F : List En} (h : Among N F) {n v : ByteArray} {l : List ByteArray} (hn : n ∈ N) : Among N (putF F n l v) := fun e he => by
  rcases nm_put e he with q | ⟨e', h1, q⟩
  · rw [q]; exact hn
  · rw [← q]; exact h e' h1
theorem Among.drop {N : List ByteArray} {F : List En} (h : Among N F) {n : ByteArray} : Among N (dropF F n) := fun e he => by
  unfold dropF at he
  split at he
  · exact h e (List.mem_filter.1 he).1
  · exact h e he
theorem Among.nil (N : List ByteArray) : Among N [] := fun e he => by cases he
theorem Among.len {N : List ByteArray} {F : List En} (h : Among N F) (hs : SortedF F) : F.length ≤ N.length := by
  have := nodup_len (a := F.map (·.nm)) (b := N) (List.pairwise_map.2 (pw_ne hs)) (fun x hx => by
    obtain ⟨e, he, rfl⟩ := List.mem_map.1 hx; exact h e he)
  simpa using this
theorem Among.stale {N : List ByteArray} {F : List En} (h : Among N F) (hs : SortedF F) : (F.filter (·.stale)).length ≤ N.length := Nat.le_trans (List.length_filter_le _ _) (h.len hs)
theorem Among.none {N : List ByteArray} {F : List En} (h : Among N F) {n : ByteArray} (hn : n ∉ N) : atF F n = none := by
  rcases he : atF F n with _ | e
  · rfl
  · obtain ⟨h1, h2⟩ := atF_some he
    exact absurd (h2 ▸ h e h1) hn

theorem nmZ_mem (c : Int) : nmZ c ∈ nine := by
  obtain ⟨k, hk, he⟩ := pickZ_nat c 9 (by omega)
  unfold nmZ
  rw [show ((9 : Nat) : Int) = 9 from rfl] at he
  rw [he]
  exact List.mem_iff_getElem?.2 ⟨k, nine_get (i := k) hk⟩

theorem put_no {F : List En} {n v : ByteArray} {l : List ByteArray} (h : putOk F n l = false) : putF F n l v = F := by unfold putF; rw [h]; simp
theorem put_self {F : List En} {n : ByteArray} {l : List ByteArray} (h : n ∈ l) : putOk F n l = false := by
  have h1 : rdOk F n n = false := by
    unfold rdOk
    rcases he : atF F n with _ | e
    · rfl
    · have : rchB F F.length n n = true := by cases F.length <;> simp [rchB]
      simp [this]
  have h2 : resOk F n l = false := by
    rw [Bool.eq_false_iff]; intro h3; rw [resOk_mem h3 h] at h1; cases h1
  unfold putOk; rw [h2]; simp
theorem put_unknown {F : List En} {n r : ByteArray} {l : List ByteArray} (h : r ∈ l) (hr : atF F r = none) : putOk F n l = false := by
  have h1 : rdOk F n r = false := by unfold rdOk; rw [hr]
  have h2 : resOk F n l = false := by
    rw [Bool.eq_false_iff]; intro h3; rw [resOk_mem h3 h] at h1; cases h1
  unfold putOk; rw [h2]; simp
theorem empty_nil : (⟨#[]⟩ : ByteArray).toList.isEmpty = true := by kernel_rfl
theorem put_empty {F : List En} {l : List ByteArray} : putOk F ⟨#[]⟩ l = false := by unfold putOk; rw [empty_nil]; simp
theorem set_empty {F : List En} {v : ByteArray} : setOk F ⟨#[]⟩ = false ∧ setF F ⟨#[]⟩ v = F := by
  have h : setOk F ⟨#[]⟩ = false := by unfold setOk; rw [empty_nil]; simp
  exact ⟨h, by unfold setF; rw [h]; simp⟩
theorem drop_unknown {F : List En} {n : ByteArray} (h : atF F n = none) : dropOk F n = false ∧ dropF F n = F := by
  have h1 : dropOk F n = false := by unfold dropOk; rw [h]; rfl
  exact ⟨h1, by unfold dropF; rw [h1]; simp⟩
theorem nobody : (⟨#[110, 111, 98, 111, 100, 121]⟩ : ByteArray) ∉ nine := by simp [nine]

/-! a step of a law -/
structure StepV where
  call : Int
  name : Int
  val : Int
  ao : Option Addr
  ln : Nat
  cap : Nat
  zs : List Int
def encStep (s : StepV) : List Value := [.int .i64 s.call, .int .i64 s.name, .int .i64 s.val, .slice s.ao s.ln s.cap]
def I64 (x : Int) : Prop := -9223372036854775808 ≤ x ∧ x ≤ 9223372036854775807
structure StepOk (w : World) (s : StepV) : Prop where
  len : s.zs.length = s.ln
  big : s.ln ≤ 9223372036854775807
  row : RowK 1 encI w s.ao s.zs
  c : I64 s.call
  n : I64 s.name
  v : I64 s.val
  z : ∀ z ∈ s.zs, I64 z
theorem StepOk.later {w w' : World} {s : StepV} (h : StepOk w s) (hb : Below w.heap.size w w') : StepOk w' s := ⟨h.len, h.big, h.row.later hb, h.c, h.n, h.v, h.z⟩

end Go.Proofs.Ytgbnhngaeefmkaa
