/-
  UserCentric: the walk.
-/
import Derived.Test.YtbkmcncakpmgkaaUsrM
namespace Go.Proofs.Ytbkmcncakpmgkaa
set_option linter.unusedVariables false
open Go.ChangeShapes Go.WideShapes Go.ChangeAt Go.RowKit Go.Shelf Go.Maps Go.Sort

attribute [local go_sem] Oper.semAt_some

def UserP (w : World) (l : List (Int × Int)) (r : Int) (e : Ending) (w' : World) : Prop :=
  ∃ (ao : Option Addr) (cap : Nat), e = .returned (.tuple #[.slice ao l.length cap, .int .i64 r]) ∧ ((ao = none → cap = 0) ∧ l.length ≤ cap) ∧ RowK 2 encS w' ao l ∧ Below w.heap.size w w'

/-- the round's invariant, and where the usage lies -/
structure UM (V W : World) (B : Nat) (pre : List Us) (u : Us) (Bu : Nat) (om : List (Int × Int)) (O1 O : Nat → Prop) : Prop where
  ge : V.heap.size ≤ Bu
  own : ∀ k, O k ↔ O1 k ∨ k = Bu
  cel : W.heap[Bu]? = some (.cells #[.int .i64 u.acc, .int .i64 u.rcd, .int .i64 u.val, .int .i64 u.held] 42 (0, 0))
  ui : UI V W B pre om O1

theorem UM.abide {V W W' : World} {B : Nat} {pre : List Us} {u : Us} {Bu : Nat} {om : List (Int × Int)} {O1 O C : Nat → Prop} (h : UM V W B pre u Bu om O1 O) (hc : Chg C W W') (hC : ∀ k, C k → V.heap.size ≤ k ∧ ¬ O k) : UM V W' B pre u Bu om O1 O :=
  ⟨h.ge, h.own, by rw [hc.block _ (Array.getElem?_eq_some_iff.1 h.cel).1 (fun c => (hC _ c).2 ((h.own _).2 (.inr rfl)))]; exact h.cel, h.ui.abide hc (fun k c => ⟨(hC k c).1, fun o => (hC k c).2 ((h.own _).2 (.inl o))⟩)⟩

set_option maxRecDepth 100000 in
theorem UI.find {V W w3 : World} {B : Nat} {pre : List Us} {om : List (Int × Int)} {O : Nat → Prop} (h : UI V W B pre om O) (low : ∀ b, b < W.heap.size → w3.heap[b]? = W.heap[b]?) (r : Int) (hwf : (Lit.int .i64 r).wf = true) :
    ∃ mo : Option Nat, (Instr.lookup 53 (.map (some B)) (.int .i64 r) false).run Try.prog w3 = .ok (.map mo) w3 ∧ WM w3 mo pre.length (wgA r pre) ∧ ∀ k, mo = some k → k < W.heap.size := by
  obtain ⟨mo, hlk, hmo⟩ := (h.out.kept (low B h.out.lt)).look r hwf
  refine ⟨mo, hlk, ?_⟩
  by_cases hin : ∃ p ∈ om, p.1 = r
  · obtain ⟨⟨pa, pk⟩, hp, hpa⟩ := hin
    dsimp only at hpa
    subst hpa
    obtain ⟨k, hk1, hk2, hk3⟩ := h.inn _ hp
    dsimp only at hk1 hk3
    subst hk1
    have hz := getZ_mem (z := -1) h.out.2 hp
    dsimp only at hz
    rw [hz] at hmo
    have hmk : mo = some k := by
      rcases hmo with ⟨_, h⟩ | ⟨k', h1, h2⟩
      · omega
      · rw [h1]; congr 1; omega
    subst hmk
    exact ⟨hk3.kept (low k hk3.lt), fun j e => by cases e; exact hk3.lt⟩
  · have hno : ∀ p ∈ om, p.1 ≠ r := fun p hp e => hin ⟨p, hp, e⟩
    rw [getZ_no hno] at hmo
    have hmn : mo = none := by
      rcases hmo with ⟨h, _⟩ | ⟨k', h1, h2⟩
      · exact h
      · omega
    subst hmn
    exact ⟨h.non r hno, fun j e => by cases e⟩

set_option maxRecDepth 100000 in
set_option maxHeartbeats 4000000 in
theorem user_any (po uo : Option Addr) (pc uc np m : Nat) (paid : List (Int × Int)) (us : List Us) (w : World) (hnp : np ≤ 60) (hm : m ≤ 60) (hlp : paid.length = np) (hlu : us.length = m) (hrp : RowK 2 encS w po paid) (hru : RowK 4 encU w uo us) (hS : S64 paid) (hU : U64 us) :
    Calls Try.prog 12 #[.slice po np pc, .slice uo m uc] w (UserP w (tidyL (userA us paid).1) (userA us paid).2) := by
  have HRP := Lib.hid hrp
  have HRU := Lib.hid hru
  have HU := Lib.hid hU
  have HS := Lib.hid hS
  have HLP := Lib.hid hlp
  have HL := Lib.hid hlu
  have HUB := Lib.hid (show ∀ k off, uo = some ⟨k, off, none⟩ → us ≠ [] → k < w.heap.size from fun k off e hne => by
    rcases us with _ | ⟨u, r⟩
    · exact absurd rfl hne
    · obtain ⟨b', off', e', hb', _⟩ := hru 0 u rfl
      rw [e] at e'; cases e'; exact hb')
  clear hrp hru hU hS hlp hlu
  have hmm := @run_makeMap Try.prog
  have hnil := fun (w : World) (r : Option Nat) => run_eql_map_nil (P := Try.prog) w 57 3 3 r Try.underlying57
  suffices H : ∀ n, CallsIn Fence.wide n Try.prog 12 #[.slice po np pc, .slice uo m uc] w (UserP w (tidyL (userA us paid).1) (userA us paid).2) from (callsIn_wide (n := 5)).1 (H 5)
  intro n
  refine callsIn_of_wp_marks Try.func12 rfl trivial ?_ rfl
  simp only [Try.ntmps12, List.size_toArray, List.length_cons, List.length_nil, Nat.reduceAdd, Nat.reduceSub, Array.replicate_succ, Array.replicate_zero, List.push_toArray, List.append_toArray, List.nil_append, List.cons_append]
  gi_wp2
  refine wide_call (counting_any _ _ _ _) ?_
  rintro e w' ⟨rfl, rfl⟩
  gi_wp2
  obtain ⟨W2, hW2⟩ : ∃ W2, ((w.alloc (.map #[] 0)).alloc (.cells #[.map (some w.heap.size)] 53)).alloc (.cells #[.slice uo m uc] 22) = W2 := ⟨_, rfl⟩
  have hs2 : W2.heap.size = w.heap.size + 3 := by rw [← hW2]; simp
  have B2 := Lib.hid (show Below w.heap.size w W2 by rw [← hW2]; exact (((Below.refl _ w).alloc (Nat.le_refl _) _).alloc (by simp) _).alloc (by simp; omega) _)
  have MW := Lib.hid (show OwnsO W2 w.heap.size 0 [] by
    rw [← hW2]
    refine OwnsO.kept ⟨World.ownsMap_made w _ _ _, List.Pairwise.nil⟩ ?_
    rw [Below.heap_alloc _ _ _ (by simp only [World.size_alloc]; omega), Below.heap_alloc _ _ _ (by simp only [World.size_alloc]; omega)])
  have BX := Lib.hid (show W2.cell? ⟨w.heap.size + 1, 0, none⟩ = some (.map (some w.heap.size)) by rw [← hW2]; exact cell_up (cell_box _ _ _ 0 _ rfl _ (by simp)) _)
  have BC := Lib.hid (show W2.cell? ⟨w.heap.size + 1 + 1, 0, none⟩ = some (.slice uo m uc) by rw [← hW2]; exact cell_box _ _ _ 0 _ rfl _ (by simp))
  rw [hW2]
  have HS2 := Lib.hid hs2
  clear hW2 hs2
  refine wpIn_range_all (gf := 41) (lb := #[.pointer (some ⟨w.heap.size + 1 + 1, 0, none⟩)]) rfl (enters_of Try.func41 (by kernel_rfl) rfl)
    (cnt_all _ (w.heap.size + 1 + 1) uo uc m us W2 (by omega) HL.out (HRU.out.later B2.out) BC.out) (fun _ => rfl)
    (fun pre O W => ∃ om, UI W2 W w.heap.size pre om O) (fun k => k = w.heap.size) ?hO0 ?hI ?h0
    (fun pre x a' O W => ∃ Bu om O1, a' = { tmps := #[.slice po np pc, .slice uo m uc, undef, undef, .slice none 0 0, .int .i64 0, .pointer (some ⟨w.heap.size + 1, 0, none⟩), .pointer (some ⟨Bu, 0, none⟩), .int .i64 (x.val + x.held), undef, undef, undef, undef, .map (some w.heap.size), .slice uo m uc, .func (.func 41) #[] #[.pointer (some ⟨w.heap.size + 1 + 1, 0, none⟩)], .agg #[.int .i64 x.acc, .int .i64 x.rcd, .int .i64 x.val, .int .i64 x.held], .int .i64 (x.val + x.held), undef, undef, undef, undef, undef, undef, undef, undef, undef, undef, undef, undef, undef, undef, undef, undef, undef, undef, undef, undef, undef, undef, undef, undef, undef, undef, undef, undef, undef, undef, undef, undef, undef, undef, undef, undef, undef, undef, undef, undef, undef, undef, undef, undef, undef, undef], defers := [] } ∧ UM W2 W w.heap.size pre x Bu om O1 O) ?hM ?assign ?body ?done
  case hO0 =>
    rintro k rfl
    exact ⟨by have := HS2.out; omega, fun ⟨h1, off, h2⟩ => by have := HUB.out _ off h2 (fun e => by rw [← HL.out, e] at h1; simp at h1); omega⟩
  case hI => rintro s O A A' C ⟨om, h⟩ hc hC; exact ⟨om, h.abide hc hC⟩
  case h0 => exact ⟨[], MW.out, (fun p hp => by simp at hp), (fun p hp => by simp at hp), fun a _ => rfl, fun k => ⟨.inl, fun h => by rcases h with h | ⟨p, hp, _⟩; exact h; simp at hp⟩, Chg.refl _ _⟩
  case hM => rintro s x a' O A A' C ⟨Bu, om, O1, e, h⟩ hc hC; exact ⟨Bu, om, O1, e, h.abide hc hC⟩
  case assign =>
    rintro l' pre ⟨ua, ur, uv, uh⟩ rest O W K hx ⟨om, h⟩ hK
    dsimp only [encC]
    gi_wp2
    refine hK _ (fun k => O k ∨ k = W.heap.size) _ ⟨W.heap.size, om, O, rfl, h.chg.size, fun k => Iff.rfl, World.alloc_heap_new W _, h.abide (Chg.alloc (fun _ => False) _ _) (fun k c => c.elim)⟩ (Chg.alloc _ _ _) ?_
    rintro k (hk | rfl)
    · exact .inl hk
    · exact .inr (Nat.le_refl _)
  case body =>
    rintro l' pre ⟨ua, ur, uv, uh⟩ rest a' O W hx ⟨Bu, om, O1, rfl, hum⟩
    dsimp only
    have hmem : (⟨ua, ur, uv, uh⟩ : Us) ∈ cntL us := by rw [hx]; simp
    obtain ⟨hml, hcb⟩ := cnt_mem hmem
    have hcd := counts_bd hcb
    dsimp only at hcd
    obtain ⟨hwfa, hwfr⟩ := HU.out _ hml
    dsimp only at hwfa hwfr
    have hkeyA := keyOf_int_mk Try.underlying3 hwfa
    have hkeyR := keyOf_int_mk Try.underlying3 hwfr
    have hbw := wgA_bd ua (xs := pre) (fun u hu => (cnt_mem (l := us) (by rw [hx]; simp [hu])).2)
    have hpl : pre.length ≤ 1000 := by
      have h1 := cnt_len us
      rw [hx, HL.out] at h1
      simp at h1; omega
    have hW2s := HS2.out
    have hcg := hum.ui.chg
    have hbu := hum.cel
    have hge := hum.ge
    have c6 : W.cell? ⟨w.heap.size + 1, 0, none⟩ = some (.map (some w.heap.size)) := hcg.cell BX.out (by dsimp only; omega)
    have cb0 : W.cell? ⟨Bu, 0, none⟩ = some (.int .i64 ua) := by simp [World.cell?, hbu]
    have cb1 : W.cell? ⟨Bu, 1, none⟩ = some (.int .i64 ur) := by simp [World.cell?, hbu]
    have HUM := Lib.hid hum
    have HBW := Lib.hid hbw
    clear hmem hml hcb hx hcg hbu hum hbw
    by_cases hin : ∃ p ∈ om, p.1 = ua
    · obtain ⟨⟨pa, pk⟩, hp, hpa⟩ := hin
      dsimp only at hpa
      subst hpa
      obtain ⟨k, hk1, hk2, hk3⟩ := HUM.out.ui.inn _ hp
      dsimp only at hk1 hk3
      subst hk1
      obtain ⟨mo, hlk, hmo⟩ := HUM.out.ui.out.look pa hwfa
      have hz := getZ_mem (z := -1) HUM.out.ui.out.2 hp
      dsimp only at hz
      rw [hz] at hmo
      have hmk : mo = some k := by
        rcases hmo with ⟨_, h⟩ | ⟨k', h1, h2⟩
        · omega
        · rw [h1]; congr 1; omega
      subst hmk
      have hlk2 := (hk3.look ur hwfr).1
      have hgb := getL_bd HBW.out.1 (by omega) ur
      have hput := md_put hk3.2 ur (uv + uh)
      have hasc := asc_add hk3.2 ur (uv + uh)
      obtain ⟨G, hG⟩ : ∃ G, getL (wgA pa pre) ur = G := ⟨_, rfl⟩
      rw [hG] at hlk2 hgb hput
      have OK3 := Lib.hid hk3
      have HPUT := Lib.hid hput
      have HASC := Lib.hid hasc
      have HP := Lib.hid hp
      have hG2 : G + (uv + uh) ≤ 9223372036854775807 := by omega
      have hG3 : 0 ≤ G + (uv + uh) := by omega
      clear hput hasc hG hk3 hp hmo hz
      gi_wp2_with (gi_at_mapUpdate; refine wpListIn_mapUpdate_own _ rfl _ _ _ 57 rfl 3 3 keyed Try.underlying57 _ k pre.length _ rfl OK3.out.1 (by unfold maxLen; omega) _ _ _ rfl rfl hkeyR _ [] (plainElem_int Try.underlying3 (WalkArith.wf_i64 (by omega))) ?_; intro w6 hown6 hgr6)
      rw [HPUT.out] at hown6
      refine ⟨O1, ⟨om, HUM.out.ui.add (by omega) ⟨pa, ur, uv, uh⟩ HP.out hgr6 ⟨hown6, HASC.out⟩⟩, Chg.grown hgr6 (fun j e => by cases e; exact (HUM.out.own _).2 (.inl ((HUM.out.ui.own _).2 (.inr ⟨_, HP.out, rfl⟩)))), fun k hk => .inl ((HUM.out.own _).2 (.inl hk))⟩
    · have hno : ∀ p ∈ om, p.1 ≠ ua := fun p hp e => hin ⟨p, hp, e⟩
      obtain ⟨mo, hlk, hmo⟩ := HUM.out.ui.out.look ua hwfa
      rw [getZ_no hno] at hmo
      have hmn : mo = none := by
        rcases hmo with ⟨h, _⟩ | ⟨k', h1, h2⟩
        · exact h
        · omega
      subst hmn
      have hput := md_put HUM.out.ui.out.2 ua (W.heap.size : Int)
      rw [getL_no hno, Int.zero_add] at hput
      have hasc := asc_add HUM.out.ui.out.2 ua (W.heap.size : Int)
      have hputR := md_put (l := []) List.Pairwise.nil ur (uv + uh)
      rw [show getL [] ur = 0 from rfl, Int.zero_add] at hputR
      have hascR := asc_add (l := []) List.Pairwise.nil ur (uv + uh)
      have OUT := Lib.hid (HUM.out.ui.out.1.alloc (.map #[] 0))
      have HPUT := Lib.hid hput
      have HASC := Lib.hid hasc
      have HPUTR := Lib.hid hputR
      have HASCR := Lib.hid hascR
      have HNO := Lib.hid hno
      have hBuW : Bu < W.heap.size := World.block_lt_of_cell? _ _ cb0
      have hWs := HUM.out.ui.chg.size
      have hG2 : uv + uh ≤ 9223372036854775807 := by omega
      have hG3 : 0 ≤ uv + uh := by omega
      clear hput hasc hputR hascR hmo hin hno
      gi_wp2_with (first
        | (gi_at_mapUpdate; refine wpListIn_mapUpdate_own _ rfl _ _ _ 53 rfl 3 57 keyed Try.underlying53 RM w.heap.size pre.length _ rfl OUT.out (by unfold maxLen; omega) _ _ _ rfl rfl hkeyA (.lit (.int .i64 (W.heap.size : Int))) [] rfl ?_; intro w5 hown5 hgr5; rw [HPUT.out] at hown5; have NEW := Lib.hid (HUM.out.ui.new (by omega) ua HNO.out hgr5 ⟨hown5, HASC.out⟩); obtain ⟨mo5, hlk5, hmo5⟩ := OwnsO.look ⟨hown5, HASC.out⟩ ua hwfa; have hz5 := getZ_mem (z := -1) HASC.out NEW.out.2.1; dsimp only at hz5; rw [hz5] at hmo5; have hmk5 : mo5 = some W.heap.size := (by rcases hmo5 with ⟨_, h⟩ | ⟨k', h1, h2⟩; omega; rw [h1]; congr 1; omega); subst hmk5; have hlr5 := (NEW.out.1.look ur hwfr).1; rw [show getL [] ur = 0 from rfl] at hlr5; have c65 : w5.cell? ⟨w.heap.size + 1, 0, none⟩ = some (.map (some w.heap.size)) := (by rw [World.cell?_of_block (w := W) ((hgr5.block _ (by simp; omega) (fun e => by simp only [Option.some.injEq] at e; omega)).trans (Below.heap_alloc _ _ _ (by dsimp only; omega)))]; exact c6); have cb05 : w5.cell? ⟨Bu, 0, none⟩ = some (.int .i64 ua) := (by rw [World.cell?_of_block (w := W) ((hgr5.block _ (by simp; omega) (fun e => by simp only [Option.some.injEq] at e; omega)).trans (Below.heap_alloc _ _ _ hBuW))]; exact cb0); have cb15 : w5.cell? ⟨Bu, 1, none⟩ = some (.int .i64 ur) := (by rw [World.cell?_of_block (w := W) ((hgr5.block _ (by simp; omega) (fun e => by simp only [Option.some.injEq] at e; omega)).trans (Below.heap_alloc _ _ _ hBuW))]; exact cb1); have GR5 := Lib.hid hgr5; clear hown5 hgr5 hz5 hmo5)
        | (gi_at_mapUpdate; refine wpListIn_mapUpdate_own _ rfl _ _ _ 57 rfl 3 3 keyed Try.underlying57 _ W.heap.size 0 _ rfl NEW.out.1.1 (by unfold maxLen; omega) _ _ _ rfl rfl hkeyR _ [] (plainElem_int Try.underlying3 (WalkArith.wf_i64 (by omega))) ?_; intro w6 hown6 hgr6))
      rw [HPUTR.out] at hown6
      have hgA : Chg O W w6 := (Chg.alloc O W (.map #[] 0)).trans ((Chg.grown GR5.out (fun j e => by cases e; exact .inl ((HUM.out.own _).2 (.inl ((HUM.out.ui.own _).2 (.inl rfl)))))).trans (Chg.grown hgr6 (fun j e => by cases e; exact .inl (.inr (Nat.le_refl _)))))
      refine ⟨_, ⟨_, NEW.out.2.2 ⟨ua, ur, uv, uh⟩ w6 hgr6 ⟨hown6.mono (by omega), HASCR.out⟩ rfl⟩, hgA, fun k hk => ?_⟩
      rcases hk with rfl | ⟨p, hp, e⟩
      · exact .inl ((HUM.out.own _).2 (.inl ((HUM.out.ui.own _).2 (.inl rfl))))
      · rcases (mem_addGo_new HUM.out.ui.out.2 HNO.out).1 hp with rfl | hp
        · exact .inr (by dsimp only at e; omega)
        · exact .inl ((HUM.out.own _).2 (.inl ((HUM.out.ui.own _).2 (.inr ⟨p, hp, e⟩))))
  case done =>
    rintro D O W hD hnD ⟨om, hui⟩ hK
    have hW2 := HS2.out
    have hcs := hui.chg.size
    have hDW : D < W.heap.size := (Array.getElem?_eq_some_iff.1 hK).1
    have c6 : W.cell? ⟨w.heap.size + 1, 0, none⟩ = some (.map (some w.heap.size)) := hui.chg.cell BX.out (by dsimp only; omega)
    have HUI := Lib.hid hui
    have HK := Lib.hid hK
    have BEL := Lib.hid (B2.out.trans (hui.chg.below (by omega) (fun k h => by omega)))
    have C6 := Lib.hid c6
    obtain ⟨W3, hW3⟩ : ∃ W3, W.alloc (.map #[] 0) = W3 := ⟨_, rfl⟩
    have hs3 : W3.heap.size = W.heap.size + 1 := by rw [← hW3]; simp
    have HS3 := Lib.hid hs3
    have KEEP3 := Lib.hid (show ∀ k, k < W.heap.size → W3.heap[k]? = W.heap[k]? from fun k h => by rw [← hW3]; exact Below.heap_alloc _ _ _ h)
    have MO := Lib.hid (show OwnsM W3 W.heap.size 0 [] by rw [← hW3]; exact OwnsM.made W)
    have BEL3 := Lib.hid (show Below W.heap.size W W3 by rw [← hW3]; exact (Below.refl _ W).alloc (Nat.le_refl _) _)
    clear hui hK c6 hnD hs3
    gi_wp2
    clear hW3
    gi_loopw [39, 10] (fun i r wr => ∃ (k : Nat) (x : Int), i = .int .i64 k ∧ r = .int .i64 x ∧ k ≤ np ∧ (userA us (paid.take k)).2 = x ∧ OwnsM wr W.heap.size (60 * k) (userA us (paid.take k)).1 ∧ Chg (fun j => j = W.heap.size) W3 wr) (fun i _ _ => np - (intOf i).toNat)
    case atStart => exact ⟨0, 0, rfl, rfl, Nat.zero_le _, rfl, MO.out, Chg.refl _ _⟩
    case round =>
      obtain ⟨k, x, rfl, rfl, hk, hx, hown, hch⟩ := hrel
      have HX := Lib.hid hx
      have OW := Lib.hid hown
      have CH := Lib.hid hch
      have hks := hch.size
      have hs3 := HS3.out
      have BD := Lib.hid (user_bd us (by rw [HL.out]; exact hm) paid k (by rw [HLP.out]; exact hk))
      have hxb : 0 ≤ x ∧ x ≤ 1000000000000000 * k := by rw [← hx]; exact BD.out.2.2
      have low : ∀ b, b < W.heap.size → wr.heap[b]? = W.heap[b]? := fun b h => by rw [hch.block b (by omega) (by omega)]; exact KEEP3.out b h
      have LOW := Lib.hid low
      clear hx hown hch low hs3
      by_cases hlt : k < np
      · have hkl : k < paid.length := by rw [HLP.out]; exact hlt
        obtain ⟨sb, off, rfl, hbl, c0, c1⟩ := HRP.out.share hkl
        have hwW := BEL.out.size
        have e0 : wr.cell? ⟨sb, off + k * 2, none⟩ = some (.int .i64 paid[k].1) := by rw [World.cell?_of_block (w := W) (LOW.out sb (by omega)), BEL.out.cell (p := ⟨sb, off + k * 2, none⟩) hbl]; exact c0
        have e1 : wr.cell? ⟨sb, off + k * 2 + 1, none⟩ = some (.int .i64 paid[k].2) := by rw [World.cell?_of_block (w := W) (LOW.out sb (by omega)), BEL.out.cell (p := ⟨sb, off + k * 2 + 1, none⟩) hbl]; exact c1
        have HT := Lib.hid (user_take us paid k hkl)
        have hwf := HS.out paid[k] (List.getElem_mem hkl)
        obtain ⟨u, hu⟩ : ∃ u, paid[k] = u := ⟨_, rfl⟩
        rw [hu] at e0 e1 HT hwf
        obtain ⟨r, y⟩ := u
        dsimp only at e0 e1 hwf
        have HC := Lib.hid (fun W => sound_any r y W)
        have HUB2 := Lib.hid (@sound_bd (r, y))
        have HW := Lib.hid (show uStep us (userA us (paid.take k)) (r, y) = if soundB (r, y) = true then (addAll (userA us (paid.take k)).1 (divL y (weightsL false r us)), if apB y (amts (weightsL false r us)) = true then (userA us (paid.take k)).2 else (userA us (paid.take k)).2 + y) else userA us (paid.take k) from rfl)
        clear hu c0 c1
        rcases hcb : soundB (r, y) with _ | _
        · have HN := Lib.hid (show userA us (paid.take (k + 1)) = userA us (paid.take k) by rw [HT.out, HW.out, if_neg (by rw [hcb]; simp)])
          rw [hcb] at HC
          clear hcb hwf
          gi_wp2
          refine wide_call (HC.out _) ?_
          rintro e w3 ⟨rfl, hb3⟩
          have HB3 := Lib.hid hb3
          clear hb3
          gi_wp2
          refine ⟨trivial, ?_⟩
          gi_wp2
          go_roundw
          case rel =>
            refine ⟨k + 1, x, by go_num, rfl, by omega, by rw [HN.out]; exact HX.out, ?_, (CH.out.trans (Chg.alloc _ _ _)).trans (Chg.of_below HB3.out (fun j h1 h2 => by omega))⟩
            rw [HN.out]
            exact ((OW.out.kept (Below.heap_alloc _ _ _ OW.out.lt)).later HB3.out).mono (by omega)
          case measure => simp [intOf]; omega
        · have hub := HUB2.out hcb
          dsimp only at hub
          rw [HW.out, if_pos hcb] at HT
          rw [hcb] at HC
          clear hcb HW
          gi_wp2
          refine wide_call (HC.out _) ?_
          rintro e w3 ⟨rfl, hb3⟩
          have g0 : w3.cell? ⟨wr.heap.size, 0, none⟩ = some (.int .i64 r) := by rw [hb3.cell (p := ⟨wr.heap.size, 0, none⟩) (by simp)]; exact cell_box wr _ _ 0 _ rfl _ rfl
          have g1 : w3.cell? ⟨wr.heap.size, 1, none⟩ = some (.int .i64 y) := by rw [hb3.cell (p := ⟨wr.heap.size, 1, none⟩) (by simp)]; exact cell_box wr _ _ 1 _ rfl _ rfl
          have low3 : ∀ b, b < W.heap.size → w3.heap[b]? = W.heap[b]? := fun b h => by
            rw [hb3.block b (by have := HS3.out; simp; omega), Below.heap_alloc _ _ _ (by have := HS3.out; omega)]; exact LOW.out b h
          have g6 : w3.cell? ⟨w.heap.size + 1, 0, none⟩ = some (.map (some w.heap.size)) := by rw [World.cell?_of_block (w := W) (low3 _ (World.block_lt_of_cell? _ _ C6.out))]; exact C6.out
          obtain ⟨mo, hlk, hwm, hmo⟩ := HUI.out.find low3 r hwf
          rw [wgA_cnt] at hwm
          have O3 := Lib.hid ((OW.out.kept (Below.heap_alloc wr (.cells #[.int .i64 r, .int .i64 y] 47) _ OW.out.lt)).later hb3)
          have hwl := (weights_bd false r us us.length (Nat.le_refl _)).2
          rw [List.take_length, HL.out] at hwl
          have HDV := Lib.hid (adivide_any y mo W.heap.size (60 * k) (cntL us).length (userA us (paid.take k)).1 (weightsL false r us) w3 hwm (fun e => by have := hmo _ e; omega) O3.out (by omega) (by omega) (60000000000000000 * k) (by omega) BD.out.1 (by omega) (weights_i64 false r us (by rw [HL.out]; omega)).1)
          have C3 := Lib.hid ((CH.out.trans (Chg.alloc _ _ (.cells #[.int .i64 r, .int .i64 y] 47))).trans (Chg.of_below hb3 (fun j h1 h2 => by omega)))
          have hb3s := hb3.size
          clear hb3 low3 hwm hmo
          rcases hab : apB y (amts (weightsL false r us)) with _ | _
          · have HN := Lib.hid (show userA us (paid.take (k + 1)) = (addAll (userA us (paid.take k)).1 (divL y (weightsL false r us)), x + y) by rw [HT.out, hab, HX.out]; simp)
            rw [hab] at HDV
            clear hab HT
            gi_wp2
            refine wide_call HDV.out ?_
            rintro e w5 ⟨rfl, hown5, hch5⟩
            have O5 := Lib.hid hown5
            have C5 := Lib.hid hch5
            have g15 : w5.cell? ⟨wr.heap.size, 1, none⟩ = some (.int .i64 y) := hch5.cell g1 (by have := HS3.out; dsimp only; omega)
            clear hown5 hch5
            gi_wp2
            go_roundw
            case rel =>
              refine ⟨k + 1, x + y, by go_num, by go_num, by omega, by rw [HN.out], ?_, C3.out.trans (C5.out.mono (fun j _ h => .inl h))⟩
              rw [HN.out]
              exact O5.out.mono (by omega)
            case measure => simp [intOf]; omega
          · have HN := Lib.hid (show userA us (paid.take (k + 1)) = (addAll (userA us (paid.take k)).1 (divL y (weightsL false r us)), x) by rw [HT.out, hab, HX.out]; simp)
            rw [hab] at HDV
            clear hab HT
            gi_wp2
            refine wide_call HDV.out ?_
            rintro e w5 ⟨rfl, hown5, hch5⟩
            have O5 := Lib.hid hown5
            have C5 := Lib.hid hch5
            clear hown5 hch5
            gi_wp2
            go_roundw
            case rel =>
              refine ⟨k + 1, x, by go_num, rfl, by omega, by rw [HN.out], ?_, C3.out.trans (C5.out.mono (fun j _ h => .inl h))⟩
              rw [HN.out]
              exact O5.out.mono (by omega)
            case measure => simp [intOf]; omega
      · have HT := Lib.hid (show paid.take k = paid from List.take_of_length_le (by rw [HLP.out]; omega))
        have hown := OW.out
        have hx := HX.out
        have hbl := BD.out.2.1
        rw [HT.out] at hown hx hbl
        have HSH := Lib.hid (shares_any W.heap.size (60 * k) (userA us paid).1 wr (by omega) hown)
        have HXX := Lib.hid hx
        have hKr : wr.heap[D]? = some (.deferred (some [])) := by rw [LOW.out D hDW]; exact HK.out
        have HKR := Lib.hid hKr
        clear hown hx hbl hKr
        gi_wp2
        refine wide_call HSH.out ?_
        rintro e w7 ⟨ao7, cp7, rfl, hcp7, hrow7, hb7⟩
        have hK7 : w7.heap[D]? = some (.deferred (some [])) := by rw [hb7.block D (Array.getElem?_eq_some_iff.1 HKR.out).1]; exact HKR.out
        have R7 := Lib.hid hrow7
        have P7 := Lib.hid hcp7
        have B7 := Lib.hid hb7
        have HK7 := Lib.hid hK7
        clear hrow7 hcp7 hb7 hK7
        gi_wp2
        refine ⟨by simp, .inl ⟨_, _, rfl, run_takeDeferred HK7.out, ?_⟩⟩
        refine ⟨_, results_tmp2 rfl _ _ _, ao7, cp7, by rw [HXX.out]; rfl, P7.out, R7.out.put HK7.out _, ?_⟩
        have hs3 := HS3.out
        have hwW := BEL.out.size
        refine BEL.out.trans ((BEL3.out.mono hwW).trans ((CH.out.below (by omega) (fun j h => by omega)).trans ((B7.out.mono (by omega)).trans ?_)))
        exact (Chg.put w7 D _ (C := fun j => j = D) rfl).below (by have := B7.out.size; omega) (fun j h => by have := HS2.out; omega)

end Go.Proofs.Ytbkmcncakpmgkaa
