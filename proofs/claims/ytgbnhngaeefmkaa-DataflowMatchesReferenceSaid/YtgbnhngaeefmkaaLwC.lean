import Derived.Test.YtgbnhngaeefmkaaLwB

/-! The laws' fixed examples: sane. (Printed by gen_sane.py.) -/
namespace Go.Proofs.Ytgbnhngaeefmkaa
set_option linter.unusedVariables false
set_option linter.unusedSimpArgs false
open Go.RowKit

theorem RowK_lit (w : World) (l : List ByteArray) : RowK 1 encT (w.alloc (.cells (l.map Value.string).toArray 9)) (some ⟨w.heap.size, 0, none⟩) l := fun i x hx => by
  refine ⟨w.heap.size, 0, rfl, by simp, fun j v hv => ?_⟩
  have hj : j = 0 := by
    have := (List.getElem?_eq_some_iff.1 hv).1
    simp [encT] at this; exact this
  subst hj
  simp [encT] at hv
  subst hv
  rw [Nat.mul_one, Nat.add_zero]
  refine cell_box w _ _ _ _ ?_ _ rfl
  simp [hx]

theorem row1 (w w' : World) (x : ByteArray) (h : Below (w.alloc (.cells #[.string x] 9)).heap.size (w.alloc (.cells #[.string x] 9)) w') : RowK 1 encT w' (some ⟨w.heap.size, 0, none⟩) [x] := RowK.later (RowK_lit w [x]) h
theorem row2 (w w' : World) (x y : ByteArray) (h : Below (w.alloc (.cells #[.string x, .string y] 9)).heap.size (w.alloc (.cells #[.string x, .string y] 9)) w') : RowK 1 encT w' (some ⟨w.heap.size, 0, none⟩) [x, y] := RowK.later (RowK_lit w [x, y]) h

def sa1 : List En := [⟨b1 97, b1 49, false, false, []⟩]
def sa2 : List En := [⟨b1 97, b1 49, false, false, []⟩, ⟨b1 98, b1 50, false, false, []⟩]
def sa3 : List En := [⟨b1 97, b1 49, false, false, []⟩, ⟨b1 98, b1 50, false, false, []⟩, ⟨b1 99, b1 120, true, false, [b1 97]⟩]

section
variable {W0 w : World} {f : Nat}

theorem q1 (h : St W0 f [] 0 w) : Calls Try.prog 13 #[.pointer (some ⟨f, 0, none⟩), .string ⟨#[97]⟩, .string ⟨#[49]⟩] w fun e w' => e = .returned (.int .i64 0) ∧ St W0 f sa1 1 w' :=
  (h.set (by omega) ⟨#[97]⟩ ⟨#[49]⟩ (F' := sa1) sn1 (ok := true) (by kernel_rfl)).mono fun e w' ⟨h1, h2, _⟩ => ⟨h1, h2⟩
theorem q2 (h : St W0 f sa1 1 w) : Calls Try.prog 13 #[.pointer (some ⟨f, 0, none⟩), .string ⟨#[98]⟩, .string ⟨#[50]⟩] w fun e w' => e = .returned (.int .i64 0) ∧ St W0 f sa2 2 w' :=
  (h.set (by omega) ⟨#[98]⟩ ⟨#[50]⟩ (F' := sa2) sn2 (ok := true) (by kernel_rfl)).mono fun e w' ⟨h1, h2, _⟩ => ⟨h1, h2⟩
theorem q3 {wn : World} (h : St W0 f sa2 2 w) (hb : Below (w.alloc (.cells #[.string ⟨#[97]⟩] 9)).heap.size (w.alloc (.cells #[.string ⟨#[97]⟩] 9)) wn) : Calls Try.prog 17 #[.pointer (some ⟨f, 0, none⟩), .agg #[.string ⟨#[99]⟩, .slice (some ⟨w.heap.size, 0, none⟩) 1 1], .string ⟨#[120]⟩] wn fun e w' => e = .returned (.int .i64 0) ∧ St W0 f sa3 3 w' :=
  (((h.alloc _).later hb).put (by omega) ⟨#[99]⟩ ⟨#[120]⟩ (some ⟨w.heap.size, 0, none⟩) 1 1 [b1 97] rfl (by omega) (row1 w wn (b1 97) hb) (F' := sa3) sn3 (ok := true) (by kernel_rfl)).mono fun e w' ⟨h1, h2, _⟩ => ⟨h1, h2⟩
theorem q4 {wn : World} (h : St W0 f sa3 3 w) (hb : Below (w.alloc (.cells #[.string ⟨#[99]⟩, .string ⟨#[98]⟩] 9)).heap.size (w.alloc (.cells #[.string ⟨#[99]⟩, .string ⟨#[98]⟩] 9)) wn) : Calls Try.prog 17 #[.pointer (some ⟨f, 0, none⟩), .agg #[.string ⟨#[100]⟩, .slice (some ⟨w.heap.size, 0, none⟩) 2 2], .string ⟨#[121]⟩] wn fun e w' => e = .returned (.int .i64 0) ∧ St W0 f (saneF 49 120 121 false false) 4 w' :=
  (((h.alloc _).later hb).put (by omega) ⟨#[100]⟩ ⟨#[121]⟩ (some ⟨w.heap.size, 0, none⟩) 2 2 [b1 99, b1 98] rfl (by omega) (row2 w wn (b1 99) (b1 98) hb) (F' := (saneF 49 120 121 false false)) sn4 (ok := true) (by kernel_rfl)).mono fun e w' ⟨h1, h2, _⟩ => ⟨h1, h2⟩
theorem q5 (h : St W0 f (saneF 49 120 121 false false) 4 w) : Calls Try.prog 21 #[.pointer (some ⟨f, 0, none⟩)] w fun e w' => ∃ ao cap, e = .returned (.slice ao 0 cap) ∧ RowK 1 encT w' ao [] ∧ St W0 f (saneF 49 120 121 false false) 4 w' :=
  (h.stale (by omega) (by decide) st4 (m := 0) rfl).mono fun e w' ⟨ao, cap, h1, _, h2, h3, _⟩ => ⟨ao, cap, h1, h2, h3⟩
theorem q6 (h : St W0 f (saneF 49 120 121 false false) 4 w) : Calls Try.prog 13 #[.pointer (some ⟨f, 0, none⟩), .string ⟨#[97]⟩, .string ⟨#[49]⟩] w fun e w' => e = .returned (.int .i64 0) ∧ St W0 f (saneF 49 120 121 false false) 5 w' :=
  (h.set (by omega) ⟨#[97]⟩ ⟨#[49]⟩ (F' := (saneF 49 120 121 false false)) sn5 (ok := true) (by kernel_rfl)).mono fun e w' ⟨h1, h2, _⟩ => ⟨h1, h2⟩
theorem q7 (h : St W0 f (saneF 49 120 121 false false) 5 w) : Calls Try.prog 21 #[.pointer (some ⟨f, 0, none⟩)] w fun e w' => ∃ ao cap, e = .returned (.slice ao 0 cap) ∧ RowK 1 encT w' ao [] ∧ St W0 f (saneF 49 120 121 false false) 5 w' :=
  (h.stale (by omega) (by decide) st4 (m := 0) rfl).mono fun e w' ⟨ao, cap, h1, _, h2, h3, _⟩ => ⟨ao, cap, h1, h2, h3⟩
theorem q8 (h : St W0 f (saneF 49 120 121 false false) 5 w) : Calls Try.prog 13 #[.pointer (some ⟨f, 0, none⟩), .string ⟨#[97]⟩, .string ⟨#[53]⟩] w fun e w' => e = .returned (.int .i64 0) ∧ St W0 f (saneF 53 120 121 true false) 6 w' :=
  (h.set (by omega) ⟨#[97]⟩ ⟨#[53]⟩ (F' := (saneF 53 120 121 true false)) sn6 (ok := true) (by kernel_rfl)).mono fun e w' ⟨h1, h2, _⟩ => ⟨h1, h2⟩
theorem q9 (h : St W0 f (saneF 53 120 121 true false) 6 w) : Calls Try.prog 21 #[.pointer (some ⟨f, 0, none⟩)] w fun e w' => ∃ ao cap, e = .returned (.slice ao 1 cap) ∧ RowK 1 encT w' ao [b1 99] ∧ St W0 f (saneF 53 120 121 true false) 6 w' :=
  (h.stale (by omega) (by decide) st6 (m := 1) rfl).mono fun e w' ⟨ao, cap, h1, _, h2, h3, _⟩ => ⟨ao, cap, h1, h2, h3⟩
theorem q11 {wn : World} (h : St W0 f (saneF 53 120 121 true false) 6 w) (hb : Below (w.alloc (.cells #[.string ⟨#[99]⟩, .string ⟨#[98]⟩] 9)).heap.size (w.alloc (.cells #[.string ⟨#[99]⟩, .string ⟨#[98]⟩] 9)) wn) : Calls Try.prog 17 #[.pointer (some ⟨f, 0, none⟩), .agg #[.string ⟨#[100]⟩, .slice (some ⟨w.heap.size, 0, none⟩) 2 2], .string ⟨#[122]⟩] wn fun e w' => e = .returned (.int .i64 200) ∧ St W0 f (saneF 53 120 121 true false) 7 w' :=
  (((h.alloc _).later hb).put (by omega) ⟨#[100]⟩ ⟨#[122]⟩ (some ⟨w.heap.size, 0, none⟩) 2 2 [b1 99, b1 98] rfl (by omega) (row2 w wn (b1 99) (b1 98) hb) (F' := (saneF 53 120 121 true false)) sn7 (ok := false) (by kernel_rfl)).mono fun e w' ⟨h1, h2, _⟩ => ⟨h1, h2⟩
theorem q12 {wn : World} (h : St W0 f (saneF 53 120 121 true false) 7 w) (hb : Below (w.alloc (.cells #[.string ⟨#[97]⟩] 9)).heap.size (w.alloc (.cells #[.string ⟨#[97]⟩] 9)) wn) : Calls Try.prog 17 #[.pointer (some ⟨f, 0, none⟩), .agg #[.string ⟨#[99]⟩, .slice (some ⟨w.heap.size, 0, none⟩) 1 1], .string ⟨#[120]⟩] wn fun e w' => e = .returned (.int .i64 0) ∧ St W0 f (saneF 53 120 121 false false) 8 w' :=
  (((h.alloc _).later hb).put (by omega) ⟨#[99]⟩ ⟨#[120]⟩ (some ⟨w.heap.size, 0, none⟩) 1 1 [b1 97] rfl (by omega) (row1 w wn (b1 97) hb) (F' := (saneF 53 120 121 false false)) sn8 (ok := true) (by kernel_rfl)).mono fun e w' ⟨h1, h2, _⟩ => ⟨h1, h2⟩
theorem q13 (h : St W0 f (saneF 53 120 121 false false) 8 w) : Calls Try.prog 21 #[.pointer (some ⟨f, 0, none⟩)] w fun e w' => ∃ ao cap, e = .returned (.slice ao 0 cap) ∧ RowK 1 encT w' ao [] ∧ St W0 f (saneF 53 120 121 false false) 8 w' :=
  (h.stale (by omega) (by decide) st8 (m := 0) rfl).mono fun e w' ⟨ao, cap, h1, _, h2, h3, _⟩ => ⟨ao, cap, h1, h2, h3⟩
theorem q14 (h : St W0 f (saneF 53 120 121 false false) 8 w) : Calls Try.prog 13 #[.pointer (some ⟨f, 0, none⟩), .string ⟨#[97]⟩, .string ⟨#[54]⟩] w fun e w' => e = .returned (.int .i64 0) ∧ St W0 f (saneF 54 120 121 true false) 9 w' :=
  (h.set (by omega) ⟨#[97]⟩ ⟨#[54]⟩ (F' := (saneF 54 120 121 true false)) sn9 (ok := true) (by kernel_rfl)).mono fun e w' ⟨h1, h2, _⟩ => ⟨h1, h2⟩
theorem q15 {wn : World} (h : St W0 f (saneF 54 120 121 true false) 9 w) (hb : Below (w.alloc (.cells #[.string ⟨#[97]⟩] 9)).heap.size (w.alloc (.cells #[.string ⟨#[97]⟩] 9)) wn) : Calls Try.prog 17 #[.pointer (some ⟨f, 0, none⟩), .agg #[.string ⟨#[99]⟩, .slice (some ⟨w.heap.size, 0, none⟩) 1 1], .string ⟨#[119]⟩] wn fun e w' => e = .returned (.int .i64 0) ∧ St W0 f (saneF 54 119 121 false true) 10 w' :=
  (((h.alloc _).later hb).put (by omega) ⟨#[99]⟩ ⟨#[119]⟩ (some ⟨w.heap.size, 0, none⟩) 1 1 [b1 97] rfl (by omega) (row1 w wn (b1 97) hb) (F' := (saneF 54 119 121 false true)) sn10 (ok := true) (by kernel_rfl)).mono fun e w' ⟨h1, h2, _⟩ => ⟨h1, h2⟩
theorem q16 (h : St W0 f (saneF 54 119 121 false true) 10 w) : Calls Try.prog 21 #[.pointer (some ⟨f, 0, none⟩)] w fun e w' => ∃ ao cap, e = .returned (.slice ao 1 cap) ∧ RowK 1 encT w' ao [b1 100] ∧ St W0 f (saneF 54 119 121 false true) 10 w' :=
  (h.stale (by omega) (by decide) st10 (m := 1) rfl).mono fun e w' ⟨ao, cap, h1, _, h2, h3, _⟩ => ⟨ao, cap, h1, h2, h3⟩
theorem qv1 (h : St W0 f (saneF 54 119 121 false true) 10 w) : Calls Try.prog 23 #[.pointer (some ⟨f, 0, none⟩), .string ⟨#[99]⟩] w fun e w' => e = .returned (.tuple #[.string ⟨#[119]⟩, .bool true]) ∧ w = w' := h.value ⟨#[99]⟩ (by kernel_rfl)
theorem qv2 (h : St W0 f (saneF 54 119 121 false true) 10 w) : Calls Try.prog 23 #[.pointer (some ⟨f, 0, none⟩), .string ⟨#[100]⟩] w fun e w' => e = .returned (.tuple #[.string ⟨#[]⟩, .bool false]) ∧ w = w' := h.value ⟨#[100]⟩ (by kernel_rfl)
theorem ql (h : St W0 f (saneF 54 119 121 false true) 10 w) : Calls Try.prog 19 #[.pointer (some ⟨f, 0, none⟩)] w fun e w' => e = .returned (.int .i64 4) ∧ w = w' := h.flen (by omega) (n := 4) rfl
theorem qr (h : St W0 f (saneF 54 119 121 false true) 10 w) : Calls Try.prog 26 #[.pointer (some ⟨f, 0, none⟩), .string ⟨#[100]⟩] w fun e w' => ∃ ao cap, e = .returned (.slice ao 2 cap) ∧ RowK 1 encT w' ao [b1 98, b1 99] ∧ St W0 f (saneF 54 119 121 false true) 10 w' := (h.reads (by omega) ⟨#[100]⟩ (l := [b1 98, b1 99]) (m := 2) (by kernel_rfl) rfl).mono fun e w' ⟨ao, cap, h1, h2, h3, _⟩ => ⟨ao, cap, h1, h2, h3⟩
theorem qd1 (h : St W0 f (saneF 54 119 121 false true) 10 w) : Calls Try.prog 15 #[.pointer (some ⟨f, 0, none⟩), .string ⟨#[99]⟩] w fun e w' => e = .returned (.int .i64 200) ∧ St W0 f (saneF 54 119 121 false true) 10 w' := (h.drop (by omega) ⟨#[99]⟩ (F' := (saneF 54 119 121 false true)) (by kernel_rfl) (ok := false) (by kernel_rfl)).mono fun e w' ⟨h1, h2, _⟩ => ⟨h1, h2⟩
theorem qd2 (h : St W0 f (saneF 54 119 121 false true) 10 w) : Calls Try.prog 15 #[.pointer (some ⟨f, 0, none⟩), .string ⟨#[100]⟩] w fun e w' => e = .returned (.int .i64 0) ∧ Below W0.heap.size W0 w' := (h.drop (by omega) ⟨#[100]⟩ rfl (ok := true) (by kernel_rfl)).mono fun e w' ⟨h1, h2, _⟩ => ⟨h1, h2.2⟩
theorem qs {x : UInt8} {ao : Option Addr} {cap : Nat} (h : RowK 1 encT w ao [b1 x]) : Calls Try.prog 20 #[.slice ao 1 cap, .slice (some ⟨w.heap.size, 0, none⟩) 1 1] (w.alloc (.cells #[.string ⟨#[x]⟩] 9)) fun e w' => e = .returned (.bool true) ∧ Below (w.alloc (.cells #[.string ⟨#[x]⟩] 9)).heap.size (w.alloc (.cells #[.string ⟨#[x]⟩] 9)) w' := by
  refine (same_any ao (some ⟨w.heap.size, 0, none⟩) cap 1 1 1 [b1 x] [b1 x] _ rfl rfl (by omega) (h.later ((Below.refl _ w).alloc (Nat.le_refl _) _)) (RowK_lit w [b1 x])).mono ?_
  rintro e w' ⟨rfl, h2⟩
  exact ⟨by unfold sameB; simp, h2⟩
theorem qs2 {ao : Option Addr} {cap : Nat} (h : RowK 1 encT w ao [b1 98, b1 99]) : Calls Try.prog 20 #[.slice ao 2 cap, .slice (some ⟨w.heap.size, 0, none⟩) 2 2] (w.alloc (.cells #[.string ⟨#[98]⟩, .string ⟨#[99]⟩] 9)) fun e w' => e = .returned (.bool true) ∧ Below (w.alloc (.cells #[.string ⟨#[98]⟩, .string ⟨#[99]⟩] 9)).heap.size (w.alloc (.cells #[.string ⟨#[98]⟩, .string ⟨#[99]⟩] 9)) w' := by
  refine (same_any ao (some ⟨w.heap.size, 0, none⟩) cap 2 2 2 [b1 98, b1 99] [b1 98, b1 99] _ rfl rfl (by omega) (h.later ((Below.refl _ w).alloc (Nat.le_refl _) _)) (RowK_lit w [b1 98, b1 99])).mono ?_
  rintro e w' ⟨rfl, h2⟩
  exact ⟨by unfold sameB; simp, h2⟩
end

set_option maxRecDepth 100000 in
set_option maxHeartbeats 4000000 in
theorem sane_any (W : World) : Calls Try.prog 8 #[] W fun e w' => e = .returned (.bool true) ∧ Below W.heap.size W w' := by
  go_enter Try.func8, Try.ntmps8
  go_wp2_with (first
    | (go_at_call 9; refine (st_new _).mono ?_; rintro e w0 ⟨f, rfl, hs⟩; have S0 := Lib.hid hs; clear hs)
    | (go_at_call 34; refine (node_any _ _ _ _ _).mono ?_; rintro e wn ⟨rfl, hbn⟩; have BN := Lib.hid hbn; clear hbn)
    | (go_at_call 13; with_reducible refine (q1 S0.out).mono ?_; rintro e w1 ⟨rfl, hs⟩; have S1 := Lib.hid hs; clear hs)
    | (go_at_call 13; with_reducible refine (q2 S1.out).mono ?_; rintro e w2 ⟨rfl, hs⟩; have S2 := Lib.hid hs; clear hs)
    | (go_at_call 17; with_reducible refine (q3 S2.out BN.out).mono ?_; rintro e w3 ⟨rfl, hs⟩; have S3 := Lib.hid hs; clear hs)
    | (go_at_call 17; with_reducible refine (q4 S3.out BN.out).mono ?_; rintro e w4 ⟨rfl, hs⟩; have S4 := Lib.hid hs; clear hs)
    | (go_at_call 21; with_reducible refine (q5 S4.out).mono ?_; rintro e w5 ⟨ao5, cap5, rfl, hrw, hs⟩; have S5 := Lib.hid hs; clear hs; clear hrw)
    | (go_at_call 13; with_reducible refine (q6 S5.out).mono ?_; rintro e w6 ⟨rfl, hs⟩; have S6 := Lib.hid hs; clear hs)
    | (go_at_call 21; with_reducible refine (q7 S6.out).mono ?_; rintro e w7 ⟨ao7, cap7, rfl, hrw, hs⟩; have S7 := Lib.hid hs; clear hs; clear hrw)
    | (go_at_call 13; with_reducible refine (q8 S7.out).mono ?_; rintro e w8 ⟨rfl, hs⟩; have S8 := Lib.hid hs; clear hs)
    | (go_at_call 21; with_reducible refine (q9 S8.out).mono ?_; rintro e w9 ⟨ao9, cap9, rfl, hrw, hs⟩; have S9 := Lib.hid hs; clear hs; have R9 := Lib.hid hrw; clear hrw)
    | (go_at_call 20; with_reducible refine (qs R9.out).mono ?_; rintro e w10 ⟨rfl, hbs⟩; have S10 := Lib.hid ((S9.out.alloc _).later hbs); clear hbs)
    | (go_at_call 17; with_reducible refine (q11 S10.out BN.out).mono ?_; rintro e w11 ⟨rfl, hs⟩; have S11 := Lib.hid hs; clear hs)
    | (go_at_call 17; with_reducible refine (q12 S11.out BN.out).mono ?_; rintro e w12 ⟨rfl, hs⟩; have S12 := Lib.hid hs; clear hs)
    | (go_at_call 21; with_reducible refine (q13 S12.out).mono ?_; rintro e w13 ⟨ao13, cap13, rfl, hrw, hs⟩; have S13 := Lib.hid hs; clear hs; clear hrw)
    | (go_at_call 13; with_reducible refine (q14 S13.out).mono ?_; rintro e w14 ⟨rfl, hs⟩; have S14 := Lib.hid hs; clear hs)
    | (go_at_call 17; with_reducible refine (q15 S14.out BN.out).mono ?_; rintro e w15 ⟨rfl, hs⟩; have S15 := Lib.hid hs; clear hs)
    | (go_at_call 21; with_reducible refine (q16 S15.out).mono ?_; rintro e w16 ⟨ao16, cap16, rfl, hrw, hs⟩; have S16 := Lib.hid hs; clear hs; have R16 := Lib.hid hrw; clear hrw)
    | (go_at_call 20; with_reducible refine (qs R16.out).mono ?_; rintro e w17 ⟨rfl, hbs⟩; have S17 := Lib.hid ((S16.out.alloc _).later hbs); clear hbs)
    | (go_at_call 23; with_reducible refine (qv1 S17.out).mono ?_; rintro e w' ⟨rfl, rfl⟩)
    | (go_at_call 23; with_reducible refine (qv2 S17.out).mono ?_; rintro e w' ⟨rfl, rfl⟩)
    | (go_at_call 19; with_reducible refine (ql S17.out).mono ?_; rintro e w' ⟨rfl, rfl⟩)
    | (go_at_call 26; with_reducible refine (qr S17.out).mono ?_; rintro e w18 ⟨ao18, cap18, rfl, hrw, hs⟩; have R18 := Lib.hid hrw; have S18 := Lib.hid hs; clear hrw hs)
    | (go_at_call 20; with_reducible refine (qs2 R18.out).mono ?_; rintro e w19 ⟨rfl, hbs⟩; have S19 := Lib.hid ((S18.out.alloc _).later hbs); clear hbs)
    | (go_at_call 15; with_reducible refine (qd1 S19.out).mono ?_; rintro e w20 ⟨rfl, hs⟩; have S20 := Lib.hid hs; clear hs)
    | (go_at_call 15; with_reducible refine (qd2 S20.out).mono ?_; rintro e w21 ⟨rfl, hs⟩; have S21 := Lib.hid hs; clear hs))
  go_ret
  exact ⟨rfl, S21.out⟩

end Go.Proofs.Ytgbnhngaeefmkaa
