import Derived.Test.YtgbnhngaeefmkaaFl29
import Derived.Test.YtgbnhngaeefmkaaFl19

/-! A flow, for the laws: what each call does to it. -/
namespace Go.Proofs.Ytgbnhngaeefmkaa
set_option linter.unusedVariables false
set_option linter.unusedSimpArgs false
open Go.RowKit

/-- block f bears the flow F, of at most k names -/
structure Flo (B : Nat) (W : World) (f : Nat) (F : List En) (k : Nat) : Prop where
  rep : ∃ M bl rb sl, Rep B W f M bl rb sl F
  good : Good F
  len : F.length ≤ k
  base : B ≤ W.heap.size

section
variable {B : Nat} {W : World} {f k : Nat} {F : List En}

theorem Flo.later {W' : World} (h : Flo B W f F k) (hb : Below W.heap.size W W') : Flo B W' f F k := by
  obtain ⟨M, bl, rb, sl, hr⟩ := h.rep
  exact ⟨⟨M, bl, rb, sl, hr.later hb⟩, h.good, h.len, Nat.le_trans h.base hb.size⟩
theorem Flo.drew (h : Flo B W f F k) : Flo B W.drew f F k := h.later ((Below.refl _ W).drew)
theorem Flo.more {k' : Nat} (h : Flo B W f F k) (hk : k ≤ k') : Flo B W f F k' := ⟨h.rep, h.good, Nat.le_trans h.len hk, h.base⟩

theorem fnew (W : World) : Calls Try.prog 9 #[] W fun e w' => ∃ f, e = .returned (.pointer (some ⟨f, 0, none⟩)) ∧ Flo W.heap.size w' f [] 0 ∧ Below W.heap.size W w' :=
  (new_any W).mono fun e w' ⟨f, M, h1, h2, h3, _⟩ => ⟨f, h1, ⟨⟨_, _, _, _, h2⟩, good_nil, Nat.le_refl _, h3.size⟩, h3⟩

theorem updF_len (F : List En) (n : ByteArray) (g : En → En) : (updF F n g).length = F.length := by unfold updF; simp
theorem chgF_len (F : List En) (n v : ByteArray) : (chgF F n v).length = F.length := by
  unfold chgF
  split
  · split
    · rfl
    · unfold markF; rw [List.length_map, updF_len]
  · rfl
theorem setF_len (F : List En) (n v : ByteArray) : (setF F n v).length ≤ F.length + 1 := by
  unfold setF
  split
  · split
    · rw [chgF_len]; omega
    · rw [insF_length]; exact Nat.le_refl _
  · omega
theorem putF_len (F : List En) (n : ByteArray) (l : List ByteArray) (v : ByteArray) : (putF F n l v).length ≤ F.length + 1 := by
  unfold putF
  split
  · split
    · rw [chgF_len, updF_len]; omega
    · rw [insF_length]; exact Nat.le_refl _
  · omega
theorem dropF_len (F : List En) (n : ByteArray) : (dropF F n).length ≤ F.length := by
  unfold dropF outF
  split
  · exact List.length_filter_le _ _
  · exact Nat.le_refl _

theorem Flo.set (h : Flo B W f F k) (hk : k ≤ 900) (n v : ByteArray) :
    Calls Try.prog 13 #[.pointer (some ⟨f, 0, none⟩), .string n, .string v] W fun e w' => e = .returned (.int .i64 (if setOk F n = true then 0 else 200)) ∧ Flo B w' f (setF F n v) (k + 1) ∧ Mv B W w' := by
  obtain ⟨M, bl, rb, sl, hr⟩ := h.rep
  refine (set_any hr h.base h.good.closed (Nat.le_trans h.len (by omega)) n v).mono ?_
  rintro e w' ⟨bl', rb', sl', rfl, h1, h2⟩
  exact ⟨rfl, ⟨⟨_, _, _, _, h1⟩, h.good.setF n v, Nat.le_trans (setF_len F n v) (by have := h.len; omega), Nat.le_trans h.base h2.size⟩, h2⟩

theorem Flo.put (h : Flo B W f F k) (hk : k ≤ 900) (n v : ByteArray) (ao : Option Addr) (ln cap : Nat) (l : List ByteArray) (hln : l.length = ln) (hn : ln ≤ 1000) (hrow : RowK 1 encT W ao l) :
    Calls Try.prog 17 #[.pointer (some ⟨f, 0, none⟩), .agg #[.string n, .slice ao ln cap], .string v] W fun e w' => e = .returned (.int .i64 (if putOk F n l = true then 0 else 200)) ∧ Flo B w' f (putF F n l v) (k + 1) ∧ Mv B W w' := by
  obtain ⟨M, bl, rb, sl, hr⟩ := h.rep
  refine (put_any hr h.base h.good (Nat.le_trans h.len (by omega)) n v ao ln cap l hln hn hrow).mono ?_
  rintro e w' ⟨bl', rb', sl', rfl, h1, h2⟩
  exact ⟨rfl, ⟨⟨_, _, _, _, h1⟩, h.good.putF n l v, Nat.le_trans (putF_len F n l v) (by have := h.len; omega), Nat.le_trans h.base h2.size⟩, h2⟩

theorem Flo.drop (h : Flo B W f F k) (hk : k ≤ 900) (n : ByteArray) :
    Calls Try.prog 15 #[.pointer (some ⟨f, 0, none⟩), .string n] W fun e w' => e = .returned (.int .i64 (if dropOk F n = true then 0 else 200)) ∧ Flo B w' f (dropF F n) k ∧ Mv B W w' := by
  obtain ⟨M, bl, rb, sl, hr⟩ := h.rep
  refine (drop_any hr h.good.closed (Nat.le_trans h.len (by omega)) (fun e he => Nat.le_trans (h.good.rlen e he) (Nat.le_trans h.len (by omega))) n).mono ?_
  rintro e w' ⟨bl', rb', sl', rfl, h1, h2⟩
  exact ⟨rfl, ⟨⟨_, _, _, _, h1⟩, h.good.dropF n, Nat.le_trans (dropF_len F n) h.len, Nat.le_trans h.base h2.size⟩, h2⟩

theorem Flo.value (h : Flo B W f F k) (n : ByteArray) :
    Calls Try.prog 23 #[.pointer (some ⟨f, 0, none⟩), .string n] W fun e w' => e = .returned (.tuple #[.string (valF F n).1, .bool (valF F n).2]) ∧ W = w' := by
  obtain ⟨M, bl, rb, sl, hr⟩ := h.rep
  exact value_any hr n

theorem Flo.flen (h : Flo B W f F k) (hk : k ≤ 900) : Calls Try.prog 19 #[.pointer (some ⟨f, 0, none⟩)] W fun e w' => e = .returned (.int .i64 F.length) ∧ W = w' := by
  obtain ⟨M, bl, rb, sl, hr⟩ := h.rep
  exact len_any hr (Nat.le_trans h.len (by omega))

theorem Flo.reads (h : Flo B W f F k) (hk : k ≤ 900) (n : ByteArray) : Calls Try.prog 26 #[.pointer (some ⟨f, 0, none⟩), .string n] W (SlcK 1 encT W (readsF F n)) := by
  obtain ⟨M, bl, rb, sl, hr⟩ := h.rep
  exact reads_any hr h.good.closed (fun e he => Nat.le_trans (h.good.rlen e he) (Nat.le_trans h.len (by omega))) n

theorem Flo.stale (h : Flo B W f F k) (hk : k ≤ 900) (h12 : (F.filter (·.stale)).length ≤ 12) : Calls Try.prog 21 #[.pointer (some ⟨f, 0, none⟩)] W (SlcT W (staleF F)) := by
  obtain ⟨M, bl, rb, sl, hr⟩ := h.rep
  exact stale_any hr h.good (Nat.le_trans h.len (by omega)) h12
end

/-! what a row of the caller's own keeps -/
theorem ownsRow_mv {B : Nat} {w w' : World} {base e size n : Nat} {v : Value} {xs : List Value} (h : w.ownsRow base e size v n xs) (he : e ≠ 80) (hm : Mv B w w') : w'.ownsRow base e size v n xs := by
  obtain ⟨h1, h2 | ⟨g, cap, cur, h3, h4, h5, h6⟩⟩ := h
  · exact ⟨h1, .inl h2⟩
  · refine ⟨h1, .inr ⟨g, cap, cur, h3, h4, (hm.block g (lt_of_blk h5) (fun c => ?_)).trans h5, h6⟩⟩
    rcases c.2 with ⟨es, c', q⟩ | ⟨cs, fr', q⟩
    · rw [h5] at q; cases q
    · rw [h5] at q; cases q; exact he rfl

theorem SlcT.at {w w' : World} {l : List ByteArray} {e : Ending} (h : SlcT w l e w') : ∃ ao cap, e = .returned (.slice ao l.length cap) ∧ w'.ownsRow w.heap.size 9 1 (.slice ao l.length cap) l.length (l.flatMap encT) ∧ RowK 1 encT w' ao l ∧ Below w.heap.size w w' := by
  obtain ⟨v, rfl, h1, h2⟩ := h
  obtain ⟨ao, cap, rfl, _, h3⟩ := rowK_of_owns encT_len (by decide) h1
  exact ⟨ao, cap, rfl, h1, h3, h2⟩

/-! calls at no flow -/
theorem nset (n v : Value) (W : World) (hn : ∃ s, n = .string s) (hv : ∃ s, v = .string s) : Calls Try.prog 13 #[.pointer none, n, v] W fun e w' => e = .returned (.int .i64 1) ∧ W = w' := by
  obtain ⟨s, rfl⟩ := hn
  obtain ⟨t, rfl⟩ := hv
  go_enter Try.func13, Try.ntmps13
  go_wp2
  go_ret
  exact ⟨rfl, rfl⟩
theorem nput (n v : ByteArray) (ao : Option Addr) (ln cap : Nat) (W : World) : Calls Try.prog 17 #[.pointer none, .agg #[.string n, .slice ao ln cap], .string v] W fun e w' => e = .returned (.int .i64 1) ∧ Below W.heap.size W w' := by
  have B1 := Lib.hid ((Below.refl W.heap.size W).alloc (Nat.le_refl _) (.cells #[.string n, .slice ao ln cap] 30))
  go_enter Try.func17, Try.ntmps17
  go_wp2
  go_ret
  exact ⟨rfl, B1.out⟩
theorem ndrop (n : ByteArray) (W : World) : Calls Try.prog 15 #[.pointer none, .string n] W fun e w' => e = .returned (.int .i64 1) ∧ W = w' := by
  go_enter Try.func15, Try.ntmps15
  go_wp2
  go_ret
  exact ⟨rfl, rfl⟩
theorem nvalue (n : ByteArray) (W : World) : Calls Try.prog 23 #[.pointer none, .string n] W fun e w' => e = .returned (.tuple #[.string (ByteArray.mk #[]), .bool false]) ∧ W = w' := by
  go_enter Try.func23, Try.ntmps23
  go_wp2
  go_ret2
  exact ⟨rfl, rfl⟩
theorem nlen (W : World) : Calls Try.prog 19 #[.pointer none] W fun e w' => e = .returned (.int .i64 0) ∧ W = w' := by
  go_enter Try.func19, Try.ntmps19
  go_wp2
  go_ret
  exact ⟨rfl, rfl⟩
theorem nreads (n : ByteArray) (W : World) : Calls Try.prog 26 #[.pointer none, .string n] W fun e w' => e = .returned (.slice none 0 0) ∧ W = w' := by
  go_enter Try.func26, Try.ntmps26
  go_wp2
  go_ret
  exact ⟨rfl, rfl⟩
theorem nstale (W : World) : Calls Try.prog 21 #[.pointer none] W fun e w' => e = .returned (.slice none 0 0) ∧ W = w' := by
  go_enter Try.func21, Try.ntmps21
  go_wp2
  go_ret
  exact ⟨rfl, rfl⟩

end Go.Proofs.Ytgbnhngaeefmkaa
