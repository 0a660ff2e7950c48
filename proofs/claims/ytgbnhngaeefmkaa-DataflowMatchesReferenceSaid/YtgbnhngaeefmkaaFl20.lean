import Derived.Test.YtgbnhngaeefmkaaFl18
import Derived.Test.YtgbnhngaeefmkaaRngS

/-! Flows: what an entry depends on: IndexFunc, ContainsFunc. -/
namespace Go.Proofs.Ytgbnhngaeefmkaa
set_option linter.unusedVariables false
set_option linter.unusedSimpArgs false
open Go.RowKit

attribute [local go_sem] Oper.semAt_some

def fnV (bv : Nat) : Value := .func (.func 70) #[] #[.pointer (some ⟨bv, 0, none⟩)]

theorem index_any (n : Nat) (ao : Option Addr) (ln cap : Nat) (ps : List Nat) (bv : Nat) (I : Nat → World → Prop) (X : World → Prop) (W : World) (hln : ps.length = ln) (hn : ln ≤ 1000)
    (hrow : ∀ i W', I i W' → RowP W' (.slice ao ln cap) ps) (h0 : I 0 W)
    (hstep : ∀ i p W' m, ps[i]? = some p → I i W' → CallsIn Fence.wide m Try.prog 70 #[.pointer (some ⟨p, 0, none⟩), .pointer (some ⟨bv, 0, none⟩)] W' fun e W2 => (e = .returned (.bool false) ∧ I (i + 1) W2) ∨ (e = .returned (.bool true) ∧ X W2)) :
    CallsIn Fence.wide n Try.prog 83 #[.slice ao ln cap, fnV bv] W fun e W2 => (e = .returned (.int .i64 (-1)) ∧ I ln W2) ∨ (∃ k : Nat, e = .returned (.int .i64 k) ∧ X W2) := by
  have eg : ∀ args w, (callFunc 70 args).run Try.prog w = .ok (.enter 70 args) w := enters_of Try.func70 (by kernel_rfl) rfl
  have HL := Lib.hid hln
  have HR := Lib.hid hrow
  have H0 := Lib.hid h0
  have HS := Lib.hid hstep
  clear hln hrow h0 hstep
  unfold fnV
  refine callsIn_of_wp Try.func83 rfl trivial ?_ rfl
  simp only [Try.ntmps83, List.size_toArray, List.length_cons, List.length_nil, Nat.reduceAdd, Nat.reduceSub, Array.replicate_succ, Array.replicate_zero, List.push_toArray, List.append_toArray, List.nil_append, List.cons_append]
  gi_wp2
  gi_loopw [8] (fun i wr => ∃ k : Nat, k ≤ ln ∧ i = .int .i64 k ∧ I k wr) (fun i _ => ln - (intOf i).toNat)
  case atStart => exact ⟨0, Nat.zero_le _, rfl, H0.out⟩
  case round =>
    obtain ⟨k, hk, rfl, hi⟩ := hrel
    have HI := Lib.hid hi
    clear hi
    by_cases hlt : k < ln
    · have hkl : k < ps.length := by rw [HL.out]; exact hlt
      obtain ⟨b0, off, rfl, hce⟩ := (HR.out _ _ HI.out).at (i := k) (p := ps[k]) (List.getElem?_eq_getElem hkl)
      have ST := Lib.hid (fun m => HS.out k ps[k] wr m (List.getElem?_eq_getElem hkl) HI.out)
      obtain ⟨p, hp⟩ : ∃ p, ps[k] = p := ⟨_, rfl⟩
      rw [hp] at hce ST
      have k0 : (0 : Int) ≤ (k : Int) := by omega
      have k1 : (k : Int) < (ln : Int) := by omega
      clear hp hkl
      gi_wp2
      refine ⟨trivial, fun h => absurd h (by simp [Fence.wide]), (ST.out _).mono ?_⟩
      rintro e W2 (⟨rfl, hi2⟩ | ⟨rfl, hx⟩)
      · have H2 := Lib.hid hi2
        clear hi2
        gi_wp2
        go_roundw
        case rel => exact ⟨k + 1, by omega, by go_num, H2.out⟩
        case measure => simp [intOf]; omega
      · have H2 := Lib.hid hx
        clear hx
        gi_wp2
        go_ret
        exact .inr ⟨k, rfl, H2.out⟩
    · have hkn : k = ln := by omega
      subst hkn
      gi_wp2
      go_ret
      exact .inl ⟨rfl, HI.out⟩

theorem contains_any (n : Nat) (ao : Option Addr) (ln cap : Nat) (ps : List Nat) (bv : Nat) (I : Nat → World → Prop) (X : World → Prop) (W : World) (hln : ps.length = ln) (hn : ln ≤ 1000)
    (hrow : ∀ i W', I i W' → RowP W' (.slice ao ln cap) ps) (h0 : I 0 W)
    (hstep : ∀ i p W' m, ps[i]? = some p → I i W' → CallsIn Fence.wide m Try.prog 70 #[.pointer (some ⟨p, 0, none⟩), .pointer (some ⟨bv, 0, none⟩)] W' fun e W2 => (e = .returned (.bool false) ∧ I (i + 1) W2) ∨ (e = .returned (.bool true) ∧ X W2)) :
    CallsIn Fence.wide n Try.prog 69 #[.slice ao ln cap, fnV bv] W fun e W2 => (e = .returned (.bool false) ∧ I ln W2) ∨ (e = .returned (.bool true) ∧ X W2) := by
  have HI := Lib.hid (fun m => index_any m ao ln cap ps bv I X W hln hn hrow h0 hstep)
  clear hln hrow h0 hstep
  unfold fnV at *
  refine callsIn_of_wp Try.func69 rfl trivial ?_ rfl
  simp only [Try.ntmps69, List.size_toArray, List.length_cons, List.length_nil, Nat.reduceAdd, Nat.reduceSub, Array.replicate_succ, Array.replicate_zero, List.push_toArray, List.append_toArray, List.nil_append, List.cons_append]
  gi_wp2
  refine ⟨trivial, fun h => absurd h (by simp [Fence.wide]), (HI.out _).mono ?_⟩
  rintro e W2 (⟨rfl, hi2⟩ | ⟨k, rfl, hx⟩)
  · have H2 := Lib.hid hi2
    clear hi2
    gi_wp2
    go_ret
    exact .inl ⟨rfl, H2.out⟩
  · have H2 := Lib.hid hx
    have k0 : (0 : Int) ≤ (k : Int) := by omega
    clear hx
    gi_wp2
    go_ret
    exact .inr ⟨rfl, H2.out⟩

end Go.Proofs.Ytgbnhngaeefmkaa
