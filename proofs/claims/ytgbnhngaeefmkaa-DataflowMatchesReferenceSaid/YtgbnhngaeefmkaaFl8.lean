import Derived.Test.YtgbnhngaeefmkaaFl7

/-! Flows: Drop. -/
namespace Go.Proofs.Ytgbnhngaeefmkaa
set_option linter.unusedVariables false
set_option linter.unusedSimpArgs false
open Go.RowKit

def outF (F : List En) (n : ByteArray) : List En := F.filter (fun x => !decide (x.nm = n))
def dropOk (F : List En) (n : ByteArray) : Bool := (atF F n).isSome && (F.filter (hasR · n)).isEmpty
def dropF (F : List En) (n : ByteArray) : List En := if dropOk F n = true then outF F n else F

section
variable {B : Nat} {W : World} {f M : Nat} {bl rb : ByteArray → Nat} {sl : ByteArray → Value} {F : List En}

theorem Rep.dropped {W' : World} (h : Rep B W f M bl rb sl F) {n : ByteArray} {e : En} (he : e ∈ F) (hn : e.nm = n) (hr : e.rds = []) (hk : ∀ k, k ≠ M → W'.heap[k]? = W.heap[k]?)
    (hM : ∀ L, RawMap W M L → RawMap W' M (delV (.string n) L)) : Rep B W' f M bl rb sl (outF F n) := by
  have hsub : ∀ {x : En}, x ∈ outF F n → x ∈ F := fun hx => (List.mem_filter.1 hx).1
  obtain ⟨L, hL, hp⟩ := h.names
  refine ⟨(hk f (h.neM h.flow)).trans h.flow, ⟨_, hM L hL, ?_⟩, fun x hx => (hk _ (h.neM (h.ent x (hsub hx)))).trans (h.ent x (hsub hx)), fun x hx => (h.row x (hsub hx)).kept (fun g cur fr hg => hk g (h.neM hg)), fun x hx => ?_, fun a ha b hb => h.injB a (hsub ha) b (hsub hb), fun a ha b hb => h.injR a (hsub ha) b (hsub hb), fun x hx => h.rbM x (hsub hx), h.baseM, fun x hx => h.baseB x (hsub hx), fun x hx => h.baseR x (hsub hx), h.srt.sublist List.filter_sublist⟩
  · rw [delV_filter ((hp.map _).nodup_iff.2 (names_nodup h.srt bl))]
    refine (hp.filter _).trans (List.Perm.of_eq ?_)
    rw [List.filter_map]
    unfold outF
    congr 1
    refine List.filter_congr fun x hx => ?_
    rw [Bool.eq_iff_iff]
    simp only [Function.comp, decide_eq_true_eq, Bool.not_eq_true', decide_eq_false_iff_not]
    constructor
    · intro q e1; exact q (by rw [e1])
    · intro q e1; exact q (str_inj e1)
  · obtain ⟨L', hL', hp'⟩ := h.rdr x (hsub hx)
    refine ⟨L', hL'.kept (hk _ (h.rbM x (hsub hx))), ?_⟩
    have e2 : (outF F n).filter (hasR · x.nm) = F.filter (hasR · x.nm) := by
      unfold outF
      rw [List.filter_filter]
      refine List.filter_congr fun y hy => ?_
      by_cases hyn : y.nm = n
      · obtain rfl := h.srt.inj y hy e he (hyn.trans hn.symm)
        have : hasR y x.nm = false := by unfold hasR; rw [hr]; rfl
        rw [this]; rfl
      · simp [hyn]
    rw [e2]; exact hp'

theorem outF_upd (F : List En) (n : ByteArray) (g : En → En) (hg : ∀ x, (g x).nm = x.nm) : outF (updF F n g) n = outF F n := by
  unfold outF updF
  rw [List.filter_map]
  have e1 : F.filter ((fun x => !decide (x.nm = n)) ∘ fun e => if e.nm = n then g e else e) = F.filter (fun x => !decide (x.nm = n)) := List.filter_congr fun x hx => by
    show (!decide ((if x.nm = n then g x else x).nm = n)) = _
    by_cases h : x.nm = n
    · rw [if_pos h, hg x]
    · rw [if_neg h]
  rw [e1]
  conv => rhs; rw [← List.map_id (F.filter (fun x => !decide (x.nm = n)))]
  refine List.map_congr_left fun x hx => ?_
  have := (List.mem_filter.1 hx).2
  simp at this
  rw [if_neg this]; rfl

set_option maxRecDepth 100000 in
set_option maxHeartbeats 2000000 in
theorem drop_any (h : Rep B W f M bl rb sl F) (hC : Closed F) (hF : F.length ≤ 1000) (hR : ∀ e ∈ F, e.rds.length ≤ 1000) (n : ByteArray) :
    Calls Try.prog 15 #[.pointer (some ⟨f, 0, none⟩), .string n] W (StP B W f M (dropF F n) (if dropOk F n = true then 0 else 200)) := by
  have hc := h.cellM
  rcases he : atF F n with _ | e
  · have hl := h.look_miss he true
    have hok : ¬ dropOk F n = true := by unfold dropOk; rw [he]; simp
    have hsf : dropF F n = F := by unfold dropF; rw [if_neg hok]
    rw [if_neg hok, hsf]
    have H := Lib.hid h
    clear h he hok hsf hC hR
    go_enter Try.func15, Try.ntmps15
    go_wp2
    go_ret
    exact ⟨_, _, _, rfl, H.out, Mv.refl _ _⟩
  · have hl := h.look_hit he true
    obtain ⟨heF, hen⟩ := atF_some he
    obtain ⟨c0, c1, c2, c3, c4, c5, fz⟩ := h.cells he
    obtain ⟨L, hL, hp⟩ := h.rdr e heF
    rw [hen] at hL hp
    obtain ⟨s, hs⟩ : ∃ s, L.length = s := ⟨_, rfl⟩
    have hs2 : s = (F.filter (hasR · n)).length := by rw [← hs, hp.length_eq]; simp
    have hlen : ∀ ty, (Builtin.len_ #[78] ty #[.map (some (rb n))]).run Try.prog W = .ok (.int .i64 s) W := fun ty => by rw [← hs]; exact hL.len Try.underlying78 ty
    have hs3 : s ≤ 1000 := by have := List.length_filter_le (hasR · n) F; omega
    rcases Nat.eq_zero_or_pos s with h0 | h0
    · have hem : (F.filter (hasR · n)).isEmpty = true := by rw [List.isEmpty_iff]; exact List.eq_nil_of_length_eq_zero (by omega)
      have hok : dropOk F n = true := by unfold dropOk; rw [he, hem]; rfl
      have hsf : dropF F n = outF F n := by unfold dropF; rw [if_pos hok]
      rw [hok, hsf]
      have s0 : ¬ (0 : Int) < (s : Int) := by omega
      have RD := Lib.hid (read_any h hC heF hen none 0 0 [] (RowP.nil W) (by simp) List.nodup_nil (hR e heF) (by simp))
      have KM := Lib.hid (h.flow)
      have HE := Lib.hid (show ∃ e' ∈ updF F n (fun x => { x with rds := [] }), e'.nm = n ∧ e'.rds = [] from ⟨{ e with rds := [] }, List.mem_map.2 ⟨e, heF, by rw [if_pos hen]⟩, hen, rfl⟩)
      have HO := Lib.hid (outF_upd F n (fun x => { x with rds := [] }) (fun _ => rfl))
      clear h he hok hsf hC hR hL hp hs hs2 h0 hem heF hen fz c4
      go_enter Try.func15, Try.ntmps15
      go_wp2_with (first
        | (go_at_call 41; refine RD.out.mono ?_; rintro e w1 ⟨rfl, hr, hm⟩; have HR := Lib.hid hr; have HM := Lib.hid hm; have hc1 := hr.cellM; obtain ⟨L1, hL1, hp1⟩ := hr.names; have HL1 := Lib.hid hL1; have HG1 := Lib.hid (goodN (w := w1) hp1); clear hr hm hL1 hp1)
        | (refine wpList_delete_raw _ rfl (.tmp 33) (.tmp 34) 72 9 75 (by rfl) Try.underlying72 keyN M L1 (by rfl) HL1.out HG1.out (.string n) (by rfl) ⟨n, rfl⟩ ?_; intro ob hob; have HOB := Lib.hid hob; clear hob))
      go_ret
      obtain ⟨e', he', hn', hr'⟩ := HE.out
      have R := HR.out.dropped (W' := w1.putObj M ob) he' hn' hr' (fun k hk => World.putObj_heap_other hk) (fun L2 hL2 => by
        have eL : L2 = L1 := by
          obtain ⟨es, c, q1, q2, _⟩ := hL2
          obtain ⟨es', c', q1', q2', _⟩ := HL1.out
          rw [q1] at q1'; cases q1'
          rw [← q2, ← q2']
        rw [eL]; exact HOB.out)
      rw [HO.out] at R
      exact ⟨_, _, _, rfl, R, HM.out.put ob (.inl HR.out.mineM)⟩
    · have hok : ¬ dropOk F n = true := by
        unfold dropOk; rw [he]
        rcases hf : F.filter (hasR · n) with _ | ⟨a, r⟩
        · rw [hf] at hs2; simp at hs2; omega
        · simp
      have hsf : dropF F n = F := by unfold dropF; rw [if_neg hok]
      rw [if_neg hok, hsf]
      have s0 : (0 : Int) < (s : Int) := by omega
      have H := Lib.hid h
      clear h he hok hsf hC hR hL hp hs hs2 heF hen fz c4
      go_enter Try.func15, Try.ntmps15
      go_wp2
      go_ret
      exact ⟨_, _, _, rfl, H.out, Mv.refl _ _⟩
end

end Go.Proofs.Ytgbnhngaeefmkaa
