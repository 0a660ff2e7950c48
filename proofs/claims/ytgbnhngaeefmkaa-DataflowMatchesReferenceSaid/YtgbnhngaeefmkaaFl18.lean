import Derived.Test.YtgbnhngaeefmkaaFlowP
import Derived.Test.YtgbnhngaeefmkaaRngO
import Derived.Test.YtgbnhngaeefmkaaRawI

/-! Flows: maps.Values over the names, as an iterator. -/
namespace Go.Proofs.Ytgbnhngaeefmkaa
set_option linter.unusedVariables false
set_option linter.unusedSimpArgs false
open Go.RowKit

attribute [local go_sem] Oper.semAt_some

def encP (bl : ByteArray → Nat) (n : ByteArray) : Array Value := #[.pointer (some ⟨bl n, 0, none⟩)]
def isIn (F : List En) (n : ByteArray) : Prop := ∃ e ∈ F, e.nm = n

/-- the names given so far, and those that are left -/
def Part (F : List En) (bl : ByteArray → Nat) (pre : List ByteArray) (left : List (Value × Value)) : Prop :=
  ((pre.map fun n => ((.string n, ptr (bl n)) : Value × Value)) ++ left).Perm (F.map fun e => (.string e.nm, ptr (bl e.nm)))

theorem Part.step {F : List En} {bl : ByteArray → Nat} {pre : List ByteArray} {left p post : List (Value × Value)} {k v : Value} (h : Part F bl pre left) (hl : left = p ++ (k, v) :: post) :
    ∃ e ∈ F, v = .pointer (some ⟨bl e.nm, 0, none⟩) ∧ pre.length < F.length ∧ Part F bl (pre ++ [e.nm]) (p ++ post) := by
  subst hl
  obtain ⟨e, he, hq⟩ := List.mem_map.1 (h.mem_iff.1 (show (k, v) ∈ _ by simp))
  injection hq with h1 h2
  refine ⟨e, he, h2.symm, by have := h.length_eq; simp at this; omega, ?_⟩
  unfold Part at *
  refine List.Perm.trans ?_ h
  rw [← h1, ← h2, List.map_append, List.append_assoc]
  refine List.Perm.append_left _ ?_
  exact (List.perm_middle (a := ((Value.string e.nm, ptr (bl e.nm)) : Value × Value)) (l₁ := p) (l₂ := post)).symm

def unS : Value × Value → ByteArray
  | (.string s, _) => s
  | _ => ByteArray.mk #[]

theorem Part.fin {F : List En} {bl : ByteArray → Nat} {pre : List ByteArray} (h : Part F bl pre []) : pre.Perm (F.map (·.nm)) := by
  unfold Part at h
  rw [List.append_nil] at h
  have := h.map unS
  rw [List.map_map, List.map_map] at this
  have e1 : pre.map (unS ∘ fun n => ((.string n, ptr (bl n)) : Value × Value)) = pre := by
    conv => rhs; rw [← List.map_id pre]
    exact List.map_congr_left fun x _ => rfl
  rw [e1] at this
  exact this

theorem values_any (M : Nat) (w : World) :
    Calls Try.prog 46 #[.map (some M)] w fun e w' => e = .returned (.func (.func 59) #[] #[.pointer (some ⟨w.heap.size, 0, none⟩)]) ∧ w' = w.alloc (.cells #[.map (some M)] 72) := by
  go_enter Try.func46, Try.ntmps46
  go_wp2
  go_ret
  exact ⟨rfl, rfl⟩

section
variable {B : Nat} {w : World} {f M : Nat} {bl rb : ByteArray → Nat} {sl : ByteArray → Value} {F : List En}

set_option maxRecDepth 100000 in
set_option maxHeartbeats 2000000 in
theorem values_seq (n : Nat) (h : Rep B w f M bl rb sl F) (bx : Nat) (hbx : w.cell? ⟨bx, 0, none⟩ = some (.map (some M))) :
    SeqOwn n Try.prog 59 #[.pointer (some ⟨bx, 0, none⟩)] (encP bl) (fun pre x => isIn F x ∧ pre.length < F.length) (fun k => k = M) (fun xs => xs.Perm (F.map (·.nm))) w := by
  intro lp J O W hW hO hJ hY h0
  obtain ⟨L, hL0, hp⟩ := h.names
  have hL : RawMap W M L := hL0.kept (hW.block M hL0.lt)
  have hbc : W.cell? ⟨bx, 0, none⟩ = some (.map (some M)) := by rw [hW.cell (p := ⟨bx, 0, none⟩) (World.block_lt_of_cell? _ _ hbx)]; exact hbx
  have HJ := Lib.hid hJ
  have HY := Lib.hid hY
  have HL := Lib.hid hL
  have HOM := Lib.hid (show ¬ O M from fun q => (hO M q).2 rfl)
  have HOB := Lib.hid (show ¬ O W.heap.size from fun q => by have := (hO _ q).1; have := hW.size; omega)
  have HP := Lib.hid (show Part F bl [] L from by unfold Part; simpa using hp)
  have H0 := Lib.hid h0
  have HMS := Lib.hid (show M < W.heap.size from hL.lt)
  clear hJ hY hL0 hL hbx hO h0 hW h hp
  refine callsIn_of_wp Try.func59 rfl trivial ?_ rfl
  simp only [Try.ntmps59, List.size_toArray, List.length_cons, List.length_nil, Nat.reduceAdd, Nat.reduceSub, Array.replicate_succ, Array.replicate_zero, List.push_toArray, List.append_toArray, List.nil_append, List.cons_append]
  gi_wp2_with (gi_at_range; refine wpListIn_range_raw _ rfl _ 72 (by rfl) 9 75 Try.underlying72 M L (by rfl) HL.out ?_; intro ob hob; have RG0 := Lib.hid hob; have JJ0 := Lib.hid (HJ.out _ _ _ _ _ H0.out (Chg.alloc (fun _ => False) W ob) (fun k h => h.elim)); clear hob)
  obtain ⟨it, hit⟩ : ∃ it, W.heap.size = it := ⟨_, rfl⟩
  rw [hit] at RG0 HOB ⊢
  have HIT := Lib.hid hit
  clear hit
  try go_frame
  gi_loopw [] (fun wr => ∃ (pre : List ByteArray) (left : List (Value × Value)) (O1 : Nat → Prop), J pre O1 wr ∧ RawRange wr M it L left ∧ Part F bl pre left ∧ ¬ O1 M ∧ ¬ O1 it) (fun wr => wr.rangeLeft M it)
  case atStart => exact ⟨[], L, O, JJ0.out, RG0.out, HP.out, HOM.out, HOB.out⟩
  case round =>
    obtain ⟨pre, left, O1, hj, hrg, hpt, hom, hoi⟩ := hrel
    have JJ := Lib.hid hj
    have RG := Lib.hid hrg
    have LEN := Lib.hid hrg.left_len
    have PT := Lib.hid hpt
    have OM := Lib.hid hom
    have OI := Lib.hid hoi
    clear hj hrg hpt hom hoi
    gi_wp2_with (gi_at_next; refine wpListIn_next_raw _ rfl _ (by rfl) M it L left (by rfl) RG.out ?_ ?_)
    · intro hl
      subst hl
      gi_wp2
      go_end0
      exact ⟨⟨_, rfl⟩, _, _, PT.out.fin, JJ.out⟩
    · intro k x p post w2 hl hm hr2 hg2 hs2 hen2
      obtain ⟨e, he, rfl, hpl, hpt2⟩ := PT.out.step hl
      have HLL := Lib.hid hl
      have PT2 := Lib.hid hpt2
      have RG2 := Lib.hid hr2
      have J2 := Lib.hid (HJ.out _ _ _ _ _ JJ.out (Chg.grown (C := fun k => k = it) hg2 (fun k e => by cases e; rfl)) (fun k hk => by subst hk; exact ⟨by rw [HIT.out]; exact Nat.le_refl _, OI.out⟩))
      obtain ⟨fn, tmps, assign, body, hy, hR⟩ := HY.out _ _ _ _ ⟨⟨e, he, rfl⟩, hpl⟩ J2.out
      dsimp only [encP] at hy
      have HRD := Lib.hid hR
      clear hl hm hr2 hg2 hs2 hpt2 hR
      gi_wp2
      refine ⟨fun h => absurd h (by simp [Fence.wide]), HRD.out.mono ?_⟩
      rintro e3 W3 ⟨rfl, O2, hj3, hc3, ho3⟩
      have RR := Lib.hid (show RawRange W3 M it L (p ++ post) ∧ ¬ O2 M ∧ ¬ O2 it from ⟨RG2.out.kept (hc3.block _ RG2.out.map.lt OM.out) (hc3.block _ (by obtain ⟨_, _, _, _, _, _, _, _, _, q, _⟩ := RG2.out; exact lt_of_blk q) OI.out), (fun q => by rcases ho3 _ q with q | q; exact OM.out q; have := RG2.out.map.lt; omega), (fun q => by rcases ho3 _ q with q | q; exact OI.out q; obtain ⟨_, _, _, _, _, _, _, _, _, q2, _⟩ := RG2.out; have := lt_of_blk q2; omega)⟩)
      have J3 := Lib.hid hj3
      clear hj3 hc3 ho3
      gi_wp2
      go_roundw
      case rel => exact ⟨_, _, O2, J3.out, RR.out.1, PT2.out, RR.out.2.1, RR.out.2.2⟩
      case measure => rw [RR.out.1.left_len, LEN.out, HLL.out]; simp
end

end Go.Proofs.Ytgbnhngaeefmkaa
