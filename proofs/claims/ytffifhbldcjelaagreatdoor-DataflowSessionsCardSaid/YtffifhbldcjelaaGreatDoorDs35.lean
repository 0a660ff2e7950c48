/-
  wire.PutString, fact.Encode. decimal and number. What the law on sessions holds in memory. Append onto a row of one's own: the row lies in its old block, or in a new one.
-/
import Derived.Test.YtffifhbldcjelaaGreatDoorDs25
import Derived.Test.YtffifhbldcjelaaGreatDoorDs34
import Derived.Test.YtffifhbldcjelaaGreatDoorDs06
import Derived.Laws.BytesArg
import Derived.Test.YtffifhbldcjelaaGreatDoorDs18
import Derived.Test.YtffifhbldcjelaaGreatDoorDs33
import Derived.Deep.RegionLaw

/-! wire.PutString, fact.Encode. -/
namespace Go.Proofs.YtffifhbldcjelaaGreatDoor
set_option linter.unusedVariables false
set_option linter.unusedSimpArgs false
set_option linter.unusedSectionVars false
open Go.RowKit

/-- the text of a string -/
def putS (s : ByteArray) : ByteArray := if (65536 : Int) < (s.size : Int) then ⟨#[]⟩ else putB (s.size : Int) ++ s
set_option maxRecDepth 100000 in
theorem putstr_any (s : ByteArray) (w : World) : Calls Tryz.prog 28 #[.string s] w fun e w' => ∃ (t : ByteArray) (er : Int), e = .returned (.tuple #[.string t, .int .i64 er]) ∧ t = putS s ∧ t.size ≤ 65546 ∧ Below w.heap.size w w' := by
  have PI := Lib.hid (putint_any (s.size : Int) w)
  by_cases h : (65536 : Int) < (s.size : Int)
  · go_enter Tryz.func28, Tryz.ntmps28
    go_wp2
    go_ret2
    exact ⟨_, _, rfl, by unfold putS; rw [if_pos h], Nat.zero_le _, Below.refl _ _⟩
  · go_enter Tryz.func28, Tryz.ntmps28
    go_wp2_with (go_at_call 26; refine PI.out.mono ?_; rintro e w1 ⟨t, er, rfl, h0, h1, h2, h3⟩; have B1 := Lib.hid h3; have H0 := Lib.hid h0; have H1 := Lib.hid h1; clear h0 h1 h2 h3)
    all_goals first
      | (exfalso; have := H1.out; omega)
      | (go_ret2; exact ⟨_, _, rfl, by unfold putS; rw [if_neg (show ¬ (65536 : Int) < (s.size : Int) by omega), H0.out], by rw [ByteArray.size_append]; have := H1.out; omega, B1.out⟩)

theorem putS_len (s : ByteArray) : (putS s).size ≤ 65546 := by
  unfold putS
  split
  · exact Nat.zero_le _
  · rw [ByteArray.size_append]
    have := putB_len (s.size : Int)
    omega
/-- the first numbers of a fact, written -/
def encTo (f : PF) : Nat → ByteArray
  | 0 => ⟨#[]⟩
  | j + 1 => encTo f j ++ putB (f.n j)
theorem encTo_len (f : PF) : ∀ j, (encTo f j).size ≤ 10 * j
  | 0 => Nat.le_refl _
  | j + 1 => by
    show (encTo f j ++ putB (f.n j)).size ≤ _
    rw [ByteArray.size_append]
    have := encTo_len f j
    have := putB_len (f.n j)
    omega
theorem encTo_mono (f : PF) : ∀ d j, (encTo f j).size ≤ (encTo f (j + d)).size
  | 0, j => Nat.le_refl _
  | d + 1, j => by
    have := encTo_mono f d j
    show _ ≤ (encTo f (j + d) ++ putB (f.n (j + d))).size
    rw [ByteArray.size_append]
    omega
/-- a fact, written -/
def encF (f : PF) : ByteArray := encTo f 17 ++ putS f.t
theorem encF_len (f : PF) : (encF f).size ≤ 65716 := by
  unfold encF
  rw [ByteArray.size_append]
  have := encTo_len f 17
  have := putS_len f.t
  omega
theorem encF_pos {f : PF} (h : f.n 0 = 1) : 1 ≤ (encF f).size := by
  unfold encF
  rw [ByteArray.size_append]
  have h1 := encTo_mono f 16 1
  have h2 : (encTo f 1).size = (putB (f.n 0)).size := by
    show ((⟨#[]⟩ : ByteArray) ++ putB (f.n 0)).size = _
    rw [ByteArray.size_append]
    show 0 + _ = _
    omega
  have h3 := putB_pos (n := f.n 0) (by omega) (by omega)
  have : (encTo f (1 + 16)).size = (encTo f 17).size := rfl
  omega

/-- what Encode says -/
def encR (f : PF) (b : Bool) : ByteArray × Int := if b then (encF f, 0) else (⟨#[]⟩, 50)
def EncE (f : PF) (b : Bool) (w : World) (e : Ending) (w' : World) : Prop := e = .returned (.tuple #[.string (encR f b).1, .int .i64 (encR f b).2]) ∧ Below w.heap.size w w'
theorem EncE.no {f : PF} {w w' : World} (hb : Below w.heap.size w w') : EncE f false w (.returned (.tuple #[.string ⟨#[]⟩, .int .i64 50])) w' := ⟨rfl, hb⟩
theorem EncE.yes {f : PF} {w w' : World} {s : ByteArray} (h : s = encF f) (hb : Below w.heap.size w w') : EncE f true w (.returned (.tuple #[.string s, .int .i64 0])) w' := ⟨by rw [h]; rfl, hb⟩

/-- while the numbers are written -/
structure ES (f : PF) (w : World) (bx bb rb : Nat) (s : ByteArray) (wr : World) : Prop where
  bld : IsB w.heap.size bb (Lib.strCells s) wr
  rc : RecAt wr rb f.n f.t
  fc : FacAt wr bx f
  low : Below w.heap.size w wr
  n1 : bx ≠ bb
  n2 : rb ≠ bb
theorem ES.later {f : PF} {w : World} {bx bb rb : Nat} {s : ByteArray} {wr w' : World} (h : ES f w bx bb rb s wr) (hb : Below wr.heap.size wr w') : ES f w bx bb rb s w' :=
  ⟨isB_later h.bld hb, h.rc.later hb, h.fc.later hb, BelowN h.low hb (Nat.le_refl _), h.n1, h.n2⟩
theorem ES.write {f : PF} {w : World} {bx bb rb : Nat} {s t : ByteArray} {wr w' : World} (h : ES f w bx bb rb s wr) (h1 : IsB w.heap.size bb (Lib.strCells s ++ Lib.strCells t) w') (h2 : Below w.heap.size wr w') (h3 : Keeps bb wr w') : ES f w bx bb rb (s ++ t) w' :=
  ⟨by rw [← strCells_app]; exact h1, h3 _ _ _ _ h.rc h.n2 (by decide), h3 _ _ _ _ h.fc h.n1 (by decide), h.low.trans h2, h.n1, h.n2⟩

set_option maxRecDepth 100000 in
set_option maxHeartbeats 4000000 in
theorem encode_at (f : PF) : ∃ b, (f.n 0 = 1 → b = validP f) ∧ ∀ w, Calls Tryz.prog 10 #[.agg (encP f).toArray] w (EncE f b w) := by
  obtain ⟨b, hb1, hva⟩ := valid_at f
  refine ⟨b, hb1, fun w => ?_⟩
  have VA := Lib.hid hva
  have F0 := Lib.hid (FacAt.new w f)
  have B0 := Lib.hid ((Below.refl w.heap.size w).alloc (Nat.le_refl _) (.cells (encP f).toArray 38))
  clear hva hb1
  go_enter Tryz.func10, Tryz.ntmps10
  go_upto_region 1 with ((with_reducible refine wpList_boxL ?_ (box_agg _ _ _) ?_); focus rfl)
  obtain ⟨wa, hwa⟩ : ∃ wa, wa = w.alloc (.cells (encP f).toArray 38) := ⟨_, rfl⟩
  obtain ⟨bx, hbx⟩ : ∃ bx, bx = w.heap.size := ⟨_, rfl⟩
  have HBX := Lib.hid hbx
  rw [← hwa] at F0 B0 ⊢
  rw [← HBX.out] at F0 ⊢
  clear hwa hbx
  have LD := Lib.hid (ld38 (ft_blk F0.out))
  obtain ⟨ag, hag⟩ : ∃ ag, ag = (encP f).toArray := ⟨_, rfl⟩
  have VA2 := Lib.hid (show ∀ w, Calls Tryz.prog 24 #[.agg ag] w (ValE b w) from by rw [hag]; exact VA.out)
  rw [← hag] at LD
  have HAG := Lib.hid hag
  clear hag VA
  rcases b with _ | _
  · go_wp2_with (first
      | ((with_reducible refine wpList_loadL ?_ LD.out ?_); focus rfl)
      | (go_at_call 24; refine (VA2.out _).mono ?_; rintro e w1 ⟨rfl, h2⟩; have H2 := Lib.hid h2; clear h2))
    go_ret2
    exact EncE.no (BelowN B0.out H2.out (Nat.le_refl _))
  · go_upto_region 3 with (first
      | ((with_reducible refine wpList_loadL ?_ LD.out ?_); focus rfl)
      | (go_at_call 24; refine (VA2.out _).mono ?_; rintro e wk ⟨rfl, h2⟩; have H2 := Lib.hid h2; clear h2))
    have FK := Lib.hid (F0.out.later H2.out)
    have BK := Lib.hid (BelowN B0.out H2.out (Nat.le_refl _))
    clear F0 B0 H2 VA2 LD
    have BLD := Lib.hid (show (wk.alloc (.cells #[.pointer none, .slice none 0 0] 68)).heap[wk.heap.size]? = some (.cells #[.pointer none, .slice none 0 0] 68 (0, 0)) from World.alloc_heap_new wk _)
    have BM := Lib.hid ((Below.refl wk.heap.size wk).alloc (Nat.le_refl _) (.cells #[.pointer none, .slice none 0 0] 68))
    have SM := Lib.hid (show (wk.alloc (.cells #[.pointer none, .slice none 0 0] 68)).heap.size = wk.heap.size + 1 by simp)
    go_upto_region 4 with (fail)
    obtain ⟨wm, hwm⟩ : ∃ wm, wm = wk.alloc (.cells #[.pointer none, .slice none 0 0] 68) := ⟨_, rfl⟩
    obtain ⟨bb, hbb⟩ : ∃ bb, bb = wk.heap.size := ⟨_, rfl⟩
    have HBB := Lib.hid hbb
    rw [← hwm] at BLD BM SM ⊢
    rw [← hbb] at BLD SM ⊢
    clear hwm hbb
    have FM := Lib.hid (FK.out.later BM.out)
    have LD := Lib.hid (ld38 (ft_blk FM.out))
    have BL := Lib.hid (bld71 f)
    have N1 := Lib.hid (show RecAt (wm.alloc (.cells (encP f).toArray 71)) wm.heap.size f.n f.t ∧ Below wm.heap.size wm (wm.alloc (.cells (encP f).toArray 71)) from ⟨World.alloc_heap_new wm _, (Below.refl _ wm).alloc (Nat.le_refl _) _⟩)
    rw [← HAG.out] at LD BL N1
    go_upto_region 5 with (first
      | ((with_reducible refine wpList_loadL ?_ LD.out ?_); focus rfl)
      | ((with_reducible refine wpList_build1L ?_ (BL.out _) ?_); focus rfl)
      | ((with_reducible refine wpList_boxL ?_ (box_agg _ _ _) ?_); focus rfl))
    obtain ⟨wr, hwr⟩ : ∃ wr, wr = wm.alloc (.cells ag 71) := ⟨_, rfl⟩
    obtain ⟨rb, hrb⟩ : ∃ rb, rb = wm.heap.size := ⟨_, rfl⟩
    have HRB := Lib.hid hrb
    rw [← hwr] at N1 ⊢
    rw [← HRB.out] at ⊢
    have BMK := Lib.hid (show Below w.heap.size w wm from BelowN BK.out BM.out (Nat.le_refl _))
    have E0 := Lib.hid (show ES f w bx bb rb (encTo f 0) wr from
      ⟨.inl ⟨by rw [HBB.out]; exact BK.out.size, _, (N1.out.2.block bb (by have := SM.out; omega)).trans BLD.out, World.ownsRow_nil _ _ _ _, by simp [Value.ownBlock]⟩,
        by rw [HRB.out]; exact N1.out.1, FM.out.later N1.out.2, BelowN BMK.out N1.out.2 (Nat.le_refl _), by have := FK.out.lt; have := HBB.out; omega, by have := SM.out; have := HRB.out; omega⟩)
    clear hwr hrb FM BLD BM SM FK BMK HBB LD BL N1 HRB BK
    have NU := Lib.hid (numbers_any rb wr)
    unfold ptrsV at NU
    go_upto_region 6 with (go_at_call 25; refine (NU.out).mono ?_; rintro e w3 ⟨rfl, h1⟩; have B3 := Lib.hid h1; clear h1)
    have E3 := Lib.hid (E0.out.later B3.out)
    clear NU B3 E0
    go_loopg [7, 8, 9, 20] 17 (fun gh v7 v8 v9 v20 w4 => ∃ (j : Nat), v20 = .int .i64 j ∧ j ≤ 17 ∧ 17 - j ≤ gh ∧ Hid (ES f w bx bb rb (encTo f j) w4))
    case atStart => exact ⟨0, rfl, by omega, by omega, E3⟩
    case round =>
      obtain ⟨j, rfl, hj, hg, HE⟩ := hrel
      clear E3
      have EL := Lib.hid (encTo_len f j)
      by_cases hlt : j < 17
      · have hltz : (j : Int) < 17 := by omega
        have ix := index_ptrs rb j hlt
        unfold ptrsV at ix
        have cj := HE.out.rc.cell hlt
        have PI := Lib.hid (fun W => putint_any (f.n j) W)
        go_wp2_with (first
          | (go_at_call 26; refine (PI.out _).mono ?_; rintro e w5 ⟨s5, er, rfl, h0, h1, h2, h3⟩; have B5 := Lib.hid h3; have S0 := Lib.hid h0; have S5 := Lib.hid h1; clear h0 h1 h2 h3; have E5 := Lib.hid (HE.out.later B5.out))
          | (go_at_call 27; refine (write_any w.heap.size bb _ s5 _ E5.out.bld (by rw [Lib.strCells_length]; have := EL.out; have := S5.out; omega) E5.out.low.size).mono ?_; rintro e w6 ⟨rfl, h6, h7, h8⟩; have E6 := Lib.hid (E5.out.write h6 h7 h8); clear h6 h7 h8))
        go_roundg (17 - (j + 1))
        case measure => omega
        case rel => exact ⟨j + 1, by go_num, by omega, by omega, (show Hid _ from by have := E6.out; rw [S0.out] at this; exact this)⟩
      · have hltz : ¬ (j : Int) < 17 := by omega
        obtain rfl : j = 17 := by omega
        have c17 := HE.out.fc.cell (i := 17) rfl
        have PI := Lib.hid (fun W => putstr_any f.t W)
        go_wp2_with (first
          | (go_at_call 28; refine (PI.out _).mono ?_; rintro e w5 ⟨s5, er, rfl, h0, h1, h3⟩; have B5 := Lib.hid h3; have S0 := Lib.hid h0; have S5 := Lib.hid h1; clear h0 h1 h3; have E5 := Lib.hid (HE.out.later B5.out))
          | (go_at_call 27; refine (write_any w.heap.size bb _ s5 _ E5.out.bld (by rw [Lib.strCells_length]; have := EL.out; have := S5.out; omega) E5.out.low.size).mono ?_; rintro e w6 ⟨rfl, h6, h7, h8⟩; have E6 := Lib.hid (E5.out.write h6 h7 h8); clear h6 h7 h8)
          | (go_at_call 29; refine (string_any w.heap.size bb _ _ E6.out.bld E6.out.low.size).mono ?_; rintro e w7 ⟨rfl, h7⟩; have B7 := Lib.hid h7; clear h7))
        go_ret2
        exact EncE.yes (by rw [S0.out]; rfl) (E6.out.low.trans B7.out)

end Go.Proofs.YtffifhbldcjelaaGreatDoor

/-! decimal and number. -/
namespace Go.Proofs.YtffifhbldcjelaaGreatDoor
set_option linter.unusedVariables false
set_option linter.unusedSimpArgs false
set_option linter.unusedSectionVars false
open Go.RowKit

/-- a number in four digits -/
def decB (n : Nat) : ByteArray := ⟨#[UInt8.ofNat (48 + n / 1000 % 10), UInt8.ofNat (48 + n / 100 % 10), UInt8.ofNat (48 + n / 10 % 10), UInt8.ofNat (48 + n % 10)]⟩
theorem u8_dig (k : Nat) : (UInt8.ofNat (48 + k % 10)).toNat = 48 + k % 10 := by simp; omega
theorem decB_inj {m n : Nat} (hm : m ≤ 9999) (hn : n ≤ 9999) (h : decB m = decB n) : m = n := by
  unfold decB at h
  simp only [ByteArray.mk.injEq, Array.mk.injEq, List.cons.injEq, and_true] at h
  obtain ⟨h1, h2, h3, h4⟩ := h
  have e : ∀ a b : Nat, UInt8.ofNat (48 + a % 10) = UInt8.ofNat (48 + b % 10) → a % 10 = b % 10 := fun a b q => by
    have := congrArg UInt8.toNat q
    rw [u8_dig, u8_dig] at this
    omega
  have := e _ _ h1
  have := e _ _ h2
  have := e _ _ h3
  have := e _ _ h4
  omega

set_option maxRecDepth 100000 in
theorem decimal_any (n : Nat) (hn : n ≤ 9999) (w : World) : Calls Tryz.prog 9 #[.int .i64 n] w fun e w' => e = .returned (.string (decB n)) ∧ Below w.heap.size w w' := by
  have cv : (convert 64 9 (.slice (some ⟨w.heap.size, 0, none⟩) 4 4)).run Tryz.prog (w.alloc (.cells #[.int .u8 (48 + (n : Int) / 1000 % 10), .int .u8 (48 + (n : Int) / 100 % 10), .int .u8 (48 + (n : Int) / 10 % 10), .int .u8 (48 + (n : Int) % 10)] 5)) = .ok (.string (decB n)) (w.alloc (.cells #[.int .u8 (48 + (n : Int) / 1000 % 10), .int .u8 (48 + (n : Int) / 100 % 10), .int .u8 (48 + (n : Int) / 10 % 10), .int .u8 (48 + (n : Int) % 10)] 5)) := run_convert_bytes_back (P := Tryz.prog) (w.alloc (.cells #[.int .u8 (48 + (n : Int) / 1000 % 10), .int .u8 (48 + (n : Int) / 100 % 10), .int .u8 (48 + (n : Int) / 10 % 10), .int .u8 (48 + (n : Int) % 10)] 5)) 64 9 5 ⟨w.heap.size, 0, none⟩ 4 (decB n).data.toList (by rfl) (by rfl) (by rfl) (fun j hj => by
    match j, hj with
    | 0, _ => exact (cell_box w #[.int .u8 (48 + (n : Int) / 1000 % 10), .int .u8 (48 + (n : Int) / 100 % 10), .int .u8 (48 + (n : Int) / 10 % 10), .int .u8 (48 + (n : Int) % 10)] 5 0 _ rfl _ rfl).trans (by simp [decB]; omega)
    | 1, _ => exact (cell_box w #[.int .u8 (48 + (n : Int) / 1000 % 10), .int .u8 (48 + (n : Int) / 100 % 10), .int .u8 (48 + (n : Int) / 10 % 10), .int .u8 (48 + (n : Int) % 10)] 5 1 _ rfl _ rfl).trans (by simp [decB]; omega)
    | 2, _ => exact (cell_box w #[.int .u8 (48 + (n : Int) / 1000 % 10), .int .u8 (48 + (n : Int) / 100 % 10), .int .u8 (48 + (n : Int) / 10 % 10), .int .u8 (48 + (n : Int) % 10)] 5 2 _ rfl _ rfl).trans (by simp [decB]; omega)
    | 3, _ => exact (cell_box w #[.int .u8 (48 + (n : Int) / 1000 % 10), .int .u8 (48 + (n : Int) / 100 % 10), .int .u8 (48 + (n : Int) / 10 % 10), .int .u8 (48 + (n : Int) % 10)] 5 3 _ rfl _ rfl).trans (by simp [decB]; omega))
  have B1 := Lib.hid ((Below.refl w.heap.size w).alloc (Nat.le_refl _) (.cells #[.int .u8 (48 + (n : Int) / 1000 % 10), .int .u8 (48 + (n : Int) / 100 % 10), .int .u8 (48 + (n : Int) / 10 % 10), .int .u8 (48 + (n : Int) % 10)] 5))
  have hm0 : (0 : Int) ≤ (n : Int) := by omega
  have hm1 : (n : Int) ≤ 9999 := by omega
  have HN := Lib.hid (show (ByteArray.mk (decB n).data.toList.toArray) = decB n from rfl)
  go_enter Tryz.func9, Tryz.ntmps9
  go_wp2
  go_ret
  exact ⟨rfl, B1.out⟩

set_option maxRecDepth 100000 in
theorem number_any (n : Nat) (hn : n ≤ 9999) (w : World) : Calls Tryz.prog 14 #[.string (decB n)] w fun e w' => e = .returned (.int .i64 n) ∧ w = w' := by
  have e0 : ((UInt8.ofNat (48 + n / 1000 % 10)).toNat : Int) = 48 + (n : Int) / 1000 % 10 := by rw [u8_dig]; omega
  have e1 : ((UInt8.ofNat (48 + n / 100 % 10)).toNat : Int) = 48 + (n : Int) / 100 % 10 := by rw [u8_dig]; omega
  have e2 : ((UInt8.ofNat (48 + n / 10 % 10)).toNat : Int) = 48 + (n : Int) / 10 % 10 := by rw [u8_dig]; omega
  have e3 : ((UInt8.ofNat (48 + n % 10)).toNat : Int) = 48 + (n : Int) % 10 := by rw [u8_dig]; omega
  have hm0 : (0 : Int) ≤ (n : Int) := by omega
  have hm1 : (n : Int) ≤ 9999 := by omega
  unfold decB
  obtain ⟨b0, hb0⟩ : ∃ b, UInt8.ofNat (48 + n / 1000 % 10) = b := ⟨_, rfl⟩
  obtain ⟨b1, hb1⟩ : ∃ b, UInt8.ofNat (48 + n / 100 % 10) = b := ⟨_, rfl⟩
  obtain ⟨b2, hb2⟩ : ∃ b, UInt8.ofNat (48 + n / 10 % 10) = b := ⟨_, rfl⟩
  obtain ⟨b3, hb3⟩ : ∃ b, UInt8.ofNat (48 + n % 10) = b := ⟨_, rfl⟩
  rw [hb0] at e0 ⊢
  rw [hb1] at e1 ⊢
  rw [hb2] at e2 ⊢
  rw [hb3] at e3 ⊢
  have E0 := Lib.hid e0
  have E1 := Lib.hid e1
  have E2 := Lib.hid e2
  have E3 := Lib.hid e3
  have g0 := b0.toNat_lt
  have g1 := b1.toNat_lt
  have g2 := b2.toNat_lt
  have g3 := b3.toNat_lt
  have l0 : (48 : Int) ≤ (b0.toNat : Int) := by omega
  have l1 : (48 : Int) ≤ (b1.toNat : Int) := by omega
  have l2 : (48 : Int) ≤ (b2.toNat : Int) := by omega
  have l3 : (48 : Int) ≤ (b3.toNat : Int) := by omega
  clear hb0 hb1 hb2 hb3 e0 e1 e2 e3
  go_enter Tryz.func14, Tryz.ntmps14
  go_wp2
  refine wp_loop_rounds 5 ?_
  rw [rounds_succ]
  go_wp2
  rw [rounds_succ]
  go_wp2
  rw [rounds_succ]
  go_wp2
  rw [rounds_succ]
  go_wp2
  rw [rounds_succ]
  go_wp2
  go_ret
  refine ⟨congrArg (fun z => Ending.returned (Value.int .i64 z)) ?_, rfl⟩
  have e0 := E0.out
  have e1 := E1.out
  have e2 := E2.out
  have e3 := E3.out
  show 10 * (10 * (10 * (((b0.toNat : Int) - 48) % 256) + ((b1.toNat : Int) - 48) % 256) + ((b2.toNat : Int) - 48) % 256) + ((b3.toNat : Int) - 48) % 256 = (n : Int)
  omega

end Go.Proofs.YtffifhbldcjelaaGreatDoor

/-! What the law on sessions holds in memory. -/
namespace Go.Proofs.YtffifhbldcjelaaGreatDoor
set_option linter.unusedVariables false
set_option linter.unusedSimpArgs false
set_option linter.unusedSectionVars false
open Go.RowKit

/-- the law's own blocks: the names, the nodes' names, the plays of each device, their texts, all plays -/
structure SesR (B : Nat) (W : World) (nb cb pb tb : Nat) (all : List PF) (P : Nat → List PF) (va : Value) (vp : Nat → Value) (t : Nat → ByteArray) : Prop where
  nam : W.heap[nb]? = some (.cells #[.string (nA 0), .string (nA 1), .string (nA 2)] 9 (0, 0))
  cnt : W.heap[cb]? = some (.cells #[.string (nX 0), .string (nX 1), .string (nX 2)] 9 (0, 0))
  tex : W.heap[tb]? = some (.cells #[.string (t 0), .string (t 1), .string (t 2)] 9 (0, 0))
  pls : W.heap[pb]? = some (.cells #[vp 0, vp 1, vp 2] 22 (0, 0))
  allO : W.ownsRow B 38 18 va all.length (all.flatMap encP)
  row : ∀ d, d < 3 → W.ownsRow B 38 18 (vp d) (P d).length ((P d).flatMap encP)
  ap1 : ∀ d, d < 3 → ∀ g, (vp d).ownBlock = some g → va.ownBlock ≠ some g
  ap2 : ∀ d e, d < 3 → e < 3 → d ≠ e → ∀ g, (vp d).ownBlock = some g → (vp e).ownBlock ≠ some g
  bn : B ≤ nb
  bc : B ≤ cb
  bp : B ≤ pb
  bt : B ≤ tb
  nt : nb ≠ tb
  ct : cb ≠ tb

section
variable {B nb cb pb tb : Nat} {W W' : World} {all : List PF} {P : Nat → List PF} {va : Value} {vp : Nat → Value} {t : Nat → ByteArray}
theorem not_mine {k : Nat} {cs : Array Value} {ty : TypeId} {fr : Nat × Nat} (h : W.heap[k]? = some (.cells cs ty fr)) (ht : ty ≠ 58) : ¬ Mine B W k := fun ⟨_, q⟩ => by
  rcases q with ⟨es, c, q⟩ | ⟨cs', fr', q⟩
  · rw [h] at q; cases q
  · rw [h] at q
    simp only [Option.some.injEq, Obj.cells.injEq] at q
    exact ht q.2.1
theorem SesR.mv (h : SesR B W nb cb pb tb all P va vp t) (hm : Mv B W W') : SesR B W' nb cb pb tb all P va vp t := by
  have keep : ∀ {k : Nat} {cs : Array Value} {ty : TypeId} {fr : Nat × Nat}, W.heap[k]? = some (.cells cs ty fr) → ty ≠ 58 → W'.heap[k]? = some (.cells cs ty fr) := fun hk ht =>
    (hm.block _ (Array.getElem?_eq_some_iff.1 hk).1 (not_mine hk ht)).trans hk
  exact ⟨keep h.nam (by decide), keep h.cnt (by decide), keep h.tex (by decide), keep h.pls (by decide), ownsRow_mv h.allO (by decide) hm, fun d hd => ownsRow_mv (h.row d hd) (by decide) hm, h.ap1, h.ap2, h.bn, h.bc, h.bp, h.bt, h.nt, h.ct⟩
theorem SesR.later (h : SesR B W nb cb pb tb all P va vp t) (hb : Below W.heap.size W W') : SesR B W' nb cb pb tb all P va vp t := h.mv (Mv.of_below hb)
theorem SesR.namC (h : SesR B W nb cb pb tb all P va vp t) {d : Nat} (hd : d < 3) : W.cell? ⟨nb, d, none⟩ = some (.string (nA d)) := by
  match d, hd with
  | 0, _ => exact cell_blk h.nam rfl
  | 1, _ => exact cell_blk h.nam rfl
  | 2, _ => exact cell_blk h.nam rfl
theorem SesR.cntC (h : SesR B W nb cb pb tb all P va vp t) {d : Nat} (hd : d < 3) : W.cell? ⟨cb, d, none⟩ = some (.string (nX d)) := by
  match d, hd with
  | 0, _ => exact cell_blk h.cnt rfl
  | 1, _ => exact cell_blk h.cnt rfl
  | 2, _ => exact cell_blk h.cnt rfl
theorem SesR.texC (h : SesR B W nb cb pb tb all P va vp t) {d : Nat} (hd : d < 3) : W.cell? ⟨tb, d, none⟩ = some (.string (t d)) := by
  match d, hd with
  | 0, _ => exact cell_blk h.tex rfl
  | 1, _ => exact cell_blk h.tex rfl
  | 2, _ => exact cell_blk h.tex rfl
theorem SesR.plsC (h : SesR B W nb cb pb tb all P va vp t) {d : Nat} (hd : d < 3) : W.cell? ⟨pb, d, none⟩ = some (vp d) := by
  match d, hd with
  | 0, _ => exact cell_blk h.pls rfl
  | 1, _ => exact cell_blk h.pls rfl
  | 2, _ => exact cell_blk h.pls rfl
/-- the row of a device's plays as an argument -/
theorem SesR.arg (h : SesR B W nb cb pb tb all P va vp t) {d : Nat} (hd : d < 3) : ∃ ao cap, vp d = .slice ao (P d).length cap ∧ RowK 18 encP W ao (P d) := by
  obtain ⟨ao, cap, h1, _, h2⟩ := rowK_of_owns encP_len18 (by decide) (h.row d hd)
  exact ⟨ao, cap, h1, h2⟩
theorem SesR.argA (h : SesR B W nb cb pb tb all P va vp t) : ∃ ao cap, va = .slice ao all.length cap ∧ RowK 18 encP W ao all := by
  obtain ⟨ao, cap, h1, _, h2⟩ := rowK_of_owns encP_len18 (by decide) h.allO
  exact ⟨ao, cap, h1, h2⟩
/-- a text turns -/
theorem SesR.text (h : SesR B W nb cb pb tb all P va vp t) {d : Nat} (hd : d < 3) (u : ByteArray) : SesR B (W.setCell ⟨tb, d, none⟩ (.string u)) nb cb pb tb all P va vp (upd t d u) := by
  have keep : ∀ {k : Nat} {o : Obj}, W.heap[k]? = some o → k ≠ tb → (W.setCell ⟨tb, d, none⟩ (.string u)).heap[k]? = some o := fun hk hn => (Below.heap_setCell _ _ _ _ hn).trans hk
  have np : pb ≠ tb := fun q => by
    have h1 := h.tex
    rw [← q, h.pls] at h1
    simp only [Option.some.injEq, Obj.cells.injEq] at h1
    exact absurd h1.2.1 (by decide)
  have nr : ∀ {v : Value} {n : Nat} {xs : List Value}, W.ownsRow B 38 18 v n xs → ∀ g, v.ownBlock = some g → g ≠ tb := fun hr g hg q => by
    obtain ⟨_, e | ⟨g', cap, cur, rfl, _, hb, _⟩⟩ := hr
    · rw [e.1] at hg; simp [Value.ownBlock] at hg
    · simp only [Value.ownBlock, Option.some.injEq] at hg
      subst hg
      rw [q, h.tex] at hb
      simp only [Option.some.injEq, Obj.cells.injEq] at hb
      exact absurd hb.2.1 (by decide)
  refine ⟨keep h.nam h.nt, keep h.cnt h.ct, ?_, keep h.pls np, ownsRow_blk h.allO (fun g hg hl => Below.heap_setCell _ _ _ _ (nr h.allO g hg)), fun e he => ownsRow_blk (h.row e he) (fun g hg hl => Below.heap_setCell _ _ _ _ (nr (h.row e he) g hg)), h.ap1, h.ap2, h.bn, h.bc, h.bp, h.bt, h.nt, h.ct⟩
  have := h.tex
  match d, hd with
  | 0, _ => simp [World.setCell, Array.getElem?_modify, this, upd]
  | 1, _ => simp [World.setCell, Array.getElem?_modify, this, upd]
  | 2, _ => simp [World.setCell, Array.getElem?_modify, this, upd]
end

end Go.Proofs.YtffifhbldcjelaaGreatDoor

/-! Append onto a row of one's own: the row lies in its old block, or in a new one. -/
namespace Go.Proofs.YtffifhbldcjelaaGreatDoor
set_option linter.unusedVariables false
set_option linter.unusedSimpArgs false
set_option linter.unusedSectionVars false
open Go.RowKit

theorem run_append_new {P : Program} (w : World) (base : Nat) (t ty e : TypeId) (i : TypeInfo) (z : Value) (size bytes : Nat) (ht : P.underlying t = some (.slice e)) (hi : P.info? e = some i) (hz : i.zero = some z)
    (hsize : i.size = size) (hby : i.bytes = bytes) (hzs : z.cells.size = size) (hsz : 0 < size)
    (v : Value) (n : Nat) (xs : List Value) (hown : w.ownsRow base e size v n xs)
    (a : Addr) (m c : Nat) (news : List Value) (hl : news.length = m * size) (hnews : ∀ j u, news[j]? = some u → w.cell? (a.add j) = some u) (h1 : ∀ u ∈ news, u.oneCell' = true)
    (h63 : n + m ≤ maxLen) (hbytes : (n + m) * bytes ≤ 140737488355328) (hbase : base ≤ w.heap.size) :
    ∃ v' w', (Builtin.append_ #[t, t] ty #[v, .slice (some a) m c]).run P w = .ok v' w' ∧ w'.ownsRow base e size v' (n + m) (xs ++ news) ∧ w.grownBy w' v.ownBlock ∧ (∀ g, v'.ownBlock = some g → v.ownBlock = some g ∨ w.heap.size ≤ g) := by
  obtain ⟨v', w', hr, h2, h3, _⟩ := run_append_own (P := P) w base t ty e i z size bytes ht hi hz hsize hby hzs hsz v n xs hown a m c news hl hnews h1 h63 hbytes hbase
  refine ⟨v', w', hr, h2, h3, fun g hg => ?_⟩
  rcases hown.2 with ⟨rfl, rfl⟩ | ⟨g0, cap, cur, rfl, hbg, hg0, hnc, hcm, hcs, htake⟩
  · have hx : xs = [] := List.eq_nil_of_length_eq_zero (by simpa using hown.1)
    subst hx
    obtain ⟨v2, w2, hr2, h22, _⟩ := run_append_own (P := P) w w.heap.size t ty e i z size bytes ht hi hz hsize hby hzs hsz (.slice none 0 0) 0 [] (World.ownsRow_nil w w.heap.size e size) a m c news hl hnews h1 h63 hbytes (Nat.le_refl _)
    rw [hr] at hr2
    injection hr2 with hv _
    subst hv
    rcases h22.2 with ⟨q, _⟩ | ⟨g2, cap2, cur2, q, hb2, _⟩
    · rw [q] at hg; cases hg
    · rw [q] at hg
      have : g2 = g := by simpa [Value.ownBlock] using hg
      exact .inr (this ▸ hb2)
  · subst hsize
    subst hby
    by_cases hroom : n + m ≤ cap
    · have hfit : n * i.size + news.length ≤ cur.size := by rw [hl, hcs, ← Nat.add_mul]; exact Nat.mul_le_mul_right _ hroom
      have hr2 := run_append_room (P := P) w t ty e i ht hi g0 n cap cur hg0 a m c news hl hnews h1 hroom hfit
      rw [hr] at hr2
      injection hr2 with hv _
      rw [hv] at hg
      exact .inl hg
    · have holds : ∀ j u, xs[j]? = some u → w.cell? ((⟨g0, 0, none⟩ : Addr).add j) = some u := hown.cells (g := g0) rfl
      have hr2 := run_append_grow (P := P) w t ty e i z ht hi hz ⟨g0, 0, none⟩ n cap xs hown.1 holds a m c news hl hnews (by omega) (by simp only [maxLen] at h63; omega) (growslice_fits (by omega) hbytes)
      rw [hr] at hr2
      injection hr2 with hv _
      rw [hv] at hg
      have : w.heap.size = g := by simpa [Value.ownBlock] using hg
      exact .inr (by omega)

theorem wp_append_new {P : Program} {w : World} {o : Oper} {a : Act} {K : Act → World → Prop} {Q : Exit → Act → World → Prop} (s x : Operand) (t : TypeId)
    (ho : o.op = .call { callee := .builtin .append, args := #[s, x], argTypes := #[t, t] })
    (base : Nat) (e : TypeId) (i : TypeInfo) (z : Value) (size bytes : Nat) (ht : P.underlying t = some (.slice e)) (hi : P.info? e = some i) (hz : i.zero = some z)
    (hsize : i.size = size) (hby : i.bytes = bytes) (hzs : z.cells.size = size) (hsz : 0 < size)
    (v : Value) (n : Nat) (xs : List Value) (hs : a.eval s = v) (hown : w.ownsRow base e size v n xs)
    (ad : Addr) (m c : Nat) (news : List Value) (hx : a.eval x = .slice (some ad) m c) (hl : news.length = m * size) (hnews : ∀ j u, news[j]? = some u → w.cell? (ad.add j) = some u) (h1 : ∀ u ∈ news, u.oneCell' = true)
    (h63 : n + m ≤ maxLen) (hbytes : (n + m) * bytes ≤ 140737488355328) (hbase : base ≤ w.heap.size)
    (h : ∀ v' w', w'.ownsRow base e size v' (n + m) (xs ++ news) → w.grownBy w' v.ownBlock → (∀ g, v'.ownBlock = some g → v.ownBlock = some g ∨ w.heap.size ≤ g) → K (a.put o.dst v') w') : o.wp P a w K Q := by
  obtain ⟨v', w', hr, h2, h3, h4⟩ := run_append_new (P := P) w base t o.type e i z size bytes ht hi hz hsize hby hzs hsz v n xs hown ad m c news hl hnews h1 h63 hbytes hbase
  unfold Oper.wp execOp
  simp only [ho, resolve, invoke, builtin, Sem.run_bind, Sem.run_pure, Result.andThen_ok, List.map_toArray, List.map_cons, List.map_nil, hs, hx, hr]
  exact h v' w' h2 h3 h4

theorem step_new {P : Program} {w : World} {ops : Array Oper} {o : Oper} {a : Act} {K : Act → World → Prop} {Q : Exit → Act → World → Prop} {F : Prop} (hw : Region.wanted o (yielded ops a.tmps) = true) (s x : Operand) (t : TypeId)
    (ho : o.op = .call { callee := .builtin .append, args := #[s, x], argTypes := #[t, t] })
    (base : Nat) (e : TypeId) (i : TypeInfo) (z : Value) (size bytes : Nat) (ht : P.underlying t = some (.slice e)) (hi : P.info? e = some i) (hz : i.zero = some z)
    (hsize : i.size = size) (hby : i.bytes = bytes) (hzs : z.cells.size = size) (hsz : 0 < size)
    (v : Value) (n : Nat) (xs : List Value) (hs : a.eval s = v) (hown : w.ownsRow base e size v n xs)
    (ad : Addr) (m c : Nat) (news : List Value) (hx : a.eval x = .slice (some ad) m c) (hl : news.length = m * size) (hnews : ∀ j u, news[j]? = some u → w.cell? (ad.add j) = some u) (h1 : ∀ u ∈ news, u.oneCell' = true)
    (h63 : n + m ≤ maxLen) (hbytes : (n + m) * bytes ≤ 140737488355328) (hbase : base ≤ w.heap.size)
    (h : ∀ v' w', w'.ownsRow base e size v' (n + m) (xs ++ news) → w.grownBy w' v.ownBlock → (∀ g, v'.ownBlock = some g → v.ownBlock = some g ∨ w.heap.size ≤ g) → K (a.put o.dst v') w') :
    if Region.wanted o (yielded ops a.tmps) = true then Oper.wp P o a w K Q else F := by
  rw [if_pos hw]
  exact wp_append_new s x t ho base e i z size bytes ht hi hz hsize hby hzs hsz v n xs hs hown ad m c news hx hl hnews h1 h63 hbytes hbase h

theorem wpList_append_new {P : Program} {w : World} {ops : Array Oper} {rest : List Oper} {o : Oper} {a : Act} {Q : Exit → Act → World → Prop} (hgd : o.guard = none) (s x : Operand) (t : TypeId)
    (ho : o.op = .call { callee := .builtin .append, args := #[s, x], argTypes := #[t, t] })
    (base : Nat) (e : TypeId) (i : TypeInfo) (z : Value) (size bytes : Nat) (ht : P.underlying t = some (.slice e)) (hi : P.info? e = some i) (hz : i.zero = some z)
    (hsize : i.size = size) (hby : i.bytes = bytes) (hzs : z.cells.size = size) (hsz : 0 < size)
    (v : Value) (n : Nat) (xs : List Value) (hs : a.eval s = v) (hown : w.ownsRow base e size v n xs)
    (ad : Addr) (m c : Nat) (news : List Value) (hx : a.eval x = .slice (some ad) m c) (hl : news.length = m * size) (hnews : ∀ j u, news[j]? = some u → w.cell? (ad.add j) = some u) (h1 : ∀ u ∈ news, u.oneCell' = true)
    (h63 : n + m ≤ maxLen) (hbytes : (n + m) * bytes ≤ 140737488355328) (hbase : base ≤ w.heap.size) (q : Nat) (hq : n + m = q)
    (h : ∀ v' w', w'.ownsRow base e size v' q (xs ++ news) → w.grownBy w' v.ownBlock → (∀ g, v'.ownBlock = some g → v.ownBlock = some g ∨ w.heap.size ≤ g) → wpList P ops Q rest (a.put o.dst v') w') : wpList P ops Q (o :: rest) a w :=
  wpList_plain hgd fun _ hK => wp_append_new s x t ho base e i z size bytes ht hi hz hsize hby hzs hsz v n xs hs hown ad m c news hx hl hnews h1 h63 hbytes hbase fun v' w' h2 h3 h4 => hK _ _ (h v' w' (hq ▸ h2) h3 h4)

end Go.Proofs.YtffifhbldcjelaaGreatDoor
