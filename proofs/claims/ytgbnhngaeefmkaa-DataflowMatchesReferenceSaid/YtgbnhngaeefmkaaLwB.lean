import Derived.Test.YtgbnhngaeefmkaaLwS

/-! The laws' state: a flow of the call's own. -/
namespace Go.Proofs.Ytgbnhngaeefmkaa
set_option linter.unusedVariables false
set_option linter.unusedSimpArgs false
open Go.RowKit

/-- since W0 a flow was made: f; nothing that stood in W0 has turned -/
def St (W0 : World) (f : Nat) (F : List En) (k : Nat) (w : World) : Prop := Flo W0.heap.size w f F k ∧ Below W0.heap.size W0 w

section
variable {W0 w : World} {f k : Nat} {F : List En}

theorem St.later {w' : World} (h : St W0 f F k w) (hb : Below w.heap.size w w') : St W0 f F k w' := ⟨h.1.later hb, h.2.trans (hb.mono h.2.size)⟩
theorem St.drew (h : St W0 f F k w) : St W0 f F k w.drew := h.later ((Below.refl _ w).drew)
theorem St.alloc (h : St W0 f F k w) (o : Obj) : St W0 f F k (w.alloc o) := h.later ((Below.refl _ w).alloc (Nat.le_refl _) o)
theorem St.mv {w' : World} {F' : List En} {k' : Nat} (h : St W0 f F k w) (h1 : Flo W0.heap.size w' f F' k') (h2 : Mv W0.heap.size w w') : St W0 f F' k' w' := ⟨h1, h.2.trans (h2.below h.2.size)⟩

theorem st_new (W : World) : Calls Try.prog 9 #[] W fun e w' => ∃ f, e = .returned (.pointer (some ⟨f, 0, none⟩)) ∧ St W f [] 0 w' := (fnew W).mono fun e w' ⟨f, h1, h2, h3⟩ => ⟨f, h1, h2, h3⟩

theorem St.set (h : St W0 f F k w) (hk : k ≤ 900) (n v : ByteArray) {F' : List En} {ok : Bool} (hF : setF F n v = F') (hok : setOk F n = ok) :
    Calls Try.prog 13 #[.pointer (some ⟨f, 0, none⟩), .string n, .string v] w fun e w' => e = .returned (.int .i64 (if ok = true then 0 else 200)) ∧ St W0 f F' (k + 1) w' ∧ Mv W0.heap.size w w' := by
  subst hF; subst hok
  exact (h.1.set hk n v).mono fun e w' ⟨h1, h2, h3⟩ => ⟨h1, h.mv h2 h3, h3⟩

theorem St.put (h : St W0 f F k w) (hk : k ≤ 900) (n v : ByteArray) (ao : Option Addr) (ln cap : Nat) (l : List ByteArray) (hln : l.length = ln) (hn : ln ≤ 1000) (hrow : RowK 1 encT w ao l) {F' : List En} {ok : Bool} (hF : putF F n l v = F') (hok : putOk F n l = ok) :
    Calls Try.prog 17 #[.pointer (some ⟨f, 0, none⟩), .agg #[.string n, .slice ao ln cap], .string v] w fun e w' => e = .returned (.int .i64 (if ok = true then 0 else 200)) ∧ St W0 f F' (k + 1) w' ∧ Mv W0.heap.size w w' := by
  subst hF; subst hok
  exact (h.1.put hk n v ao ln cap l hln hn hrow).mono fun e w' ⟨h1, h2, h3⟩ => ⟨h1, h.mv h2 h3, h3⟩

theorem St.drop (h : St W0 f F k w) (hk : k ≤ 900) (n : ByteArray) {F' : List En} {ok : Bool} (hF : dropF F n = F') (hok : dropOk F n = ok) :
    Calls Try.prog 15 #[.pointer (some ⟨f, 0, none⟩), .string n] w fun e w' => e = .returned (.int .i64 (if ok = true then 0 else 200)) ∧ St W0 f F' k w' ∧ Mv W0.heap.size w w' := by
  subst hF; subst hok
  exact (h.1.drop hk n).mono fun e w' ⟨h1, h2, h3⟩ => ⟨h1, h.mv h2 h3, h3⟩

theorem St.value (h : St W0 f F k w) (n : ByteArray) {v : ByteArray} {ok : Bool} (hv : valF F n = (v, ok)) :
    Calls Try.prog 23 #[.pointer (some ⟨f, 0, none⟩), .string n] w fun e w' => e = .returned (.tuple #[.string v, .bool ok]) ∧ w = w' := by
  have := h.1.value n
  rw [hv] at this; exact this

theorem St.flen (h : St W0 f F k w) (hk : k ≤ 900) {n : Nat} (hn : F.length = n) : Calls Try.prog 19 #[.pointer (some ⟨f, 0, none⟩)] w fun e w' => e = .returned (.int .i64 n) ∧ w = w' := by
  subst hn; exact h.1.flen hk

theorem St.reads (h : St W0 f F k w) (hk : k ≤ 900) (n : ByteArray) {l : List ByteArray} {m : Nat} (hl : readsF F n = l) (hm : l.length = m) : Calls Try.prog 26 #[.pointer (some ⟨f, 0, none⟩), .string n] w fun e w' => ∃ ao cap, e = .returned (.slice ao m cap) ∧ RowK 1 encT w' ao l ∧ St W0 f F k w' ∧ Below w.heap.size w w' := by
  subst hl; subst hm
  exact (h.1.reads hk n).mono fun e w' ⟨ao, cap, h1, _, h2, h3⟩ => ⟨ao, cap, h1, h2, h.later h3, h3⟩

theorem St.stale (h : St W0 f F k w) (hk : k ≤ 900) (h12 : (F.filter (·.stale)).length ≤ 12) {l : List ByteArray} {m : Nat} (hl : staleF F = l) (hm : l.length = m) : Calls Try.prog 21 #[.pointer (some ⟨f, 0, none⟩)] w fun e w' => ∃ ao cap, e = .returned (.slice ao m cap) ∧ w'.ownsRow w.heap.size 9 1 (.slice ao m cap) m (l.flatMap encT) ∧ RowK 1 encT w' ao l ∧ St W0 f F k w' ∧ Below w.heap.size w w' := by
  subst hl; subst hm
  refine (h.1.stale hk h12).mono fun e w' hs => ?_
  obtain ⟨ao, cap, h1, h2, h3, h4⟩ := hs.at
  exact ⟨ao, cap, h1, h2, h3, h.later h4, h4⟩
end

theorem results_cellA {P : Program} {fn : Func} {a : Tmp} {t : TypeId} {pa : Addr} {cs : List Value} {tmps : Array Value} {w : World} (h : fn.results = #[.cell a t]) (ha : tmps.getD a undef = .pointer (some pa))
    (hta : (isAgg t).run P w = .ok true w) (hsz : (sizeOf t).run P w = .ok cs.length w) (hc : ∀ j v, cs[j]? = some v → w.cell? (pa.add j) = some v) : (results fn tmps).run P w = .ok (.agg cs.toArray) w := by
  have e1 : asAddr (tmps.getD a undef) = pure pa := by rw [ha]; rfl
  unfold results
  rw [h]
  simp only [List.mapM_toArray, List.mapM_cons, List.mapM_nil, e1]
  simp [loadVar, hta, hsz, run_loadCells_list w pa cs hc]

theorem node_any (s : ByteArray) (ao : Option Addr) (ln cap : Nat) (W : World) : Calls Try.prog 34 #[.string s, .slice ao ln cap] W fun e w' => e = .returned (.agg #[.string s, .slice ao ln cap]) ∧ Below W.heap.size W w' := by
  have B1 := Lib.hid ((Below.refl W.heap.size W).alloc (Nat.le_refl _) (.cells #[.string s, .slice ao ln cap] 30))
  have C1 := Lib.hid (cells_at W [.string s, .slice ao ln cap] 30 W.heap.size rfl)
  go_enter Try.func34, Try.ntmps34
  go_wp2
  exact bodyPost_ret (results_cellA rfl rfl (by kernel_rfl) (by kernel_rfl) C1.out) rfl ⟨rfl, B1.out⟩

end Go.Proofs.Ytgbnhngaeefmkaa
