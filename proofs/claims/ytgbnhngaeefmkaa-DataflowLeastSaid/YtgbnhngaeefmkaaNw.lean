import Derived.Test.YtgbnhngaeefmkaaNetQ

/-! Networks in plain words: computing the first stale node until there is none. -/
namespace Go.Proofs.Ytgbnhngaeefmkaa
set_option linter.unusedVariables false
set_option linter.unusedSimpArgs false

/-- the value of a node, by the values that it reads -/
def evN (gs : List GateV) (S : NS) (x : Nat) : Nat := match gs[x - 4]? with | some g => wN g.kind ((gIx (x - 4) g).map S.vals) | none => 0
theorem rdL_some {gs : List GateV} {x : Nat} (h4 : 4 ≤ x) {g : GateV} (hg : gs[x - 4]? = some g) : rdL gs x = gIx (x - 4) g := by unfold rdL; rw [if_pos h4, hg]
theorem evN_congr {gs : List GateV} {S S' : NS} {x : Nat} (h4 : 4 ≤ x) (h : ∀ y ∈ rdL gs x, S.vals y = S'.vals y) : evN gs S x = evN gs S' x := by
  unfold evN
  rcases hg : gs[x - 4]? with _ | g
  · rfl
  · rw [rdL_some h4 hg] at h
    simp only
    congr 1
    exact List.map_congr_left h
theorem evN_lt {gs : List GateV} {S : NS} (h : ∀ i, S.vals i < 8) (x : Nat) : evN gs S x < 8 := by
  unfold evN
  split
  · exact wN_lt _ _ (fun n hn => by obtain ⟨j, _, rfl⟩ := List.mem_map.1 hn; exact h j)
  · omega

/-- what is not stale has the value that it should -/
def Coh (gs : List GateV) (n : Nat) (S : NS) : Prop := ∀ x, 4 ≤ x → x < n → S.st x = false → S.vals x = evN gs S x

theorem rdL_self (gs : List GateV) (x : Nat) : x ∉ rdL gs x := fun h => Nat.lt_irrefl _ (rdL_lt h)

theorem Coh.chg {gs : List GateV} {n : Nat} {S : NS} (h : Coh gs n S) {j v : Nat} (hj : j < 4) : Coh gs n (chgS gs S j v) := by
  unfold chgS
  split
  · exact h
  · intro x h4 hx hs
    have hs' : (S.st x || decide (j ∈ rdL gs x)) = false := hs
    rw [Bool.or_eq_false_iff, decide_eq_false_iff_not] at hs'
    show updN S.vals j v x = _
    rw [updN_ne _ _ (by omega), h x h4 hx hs'.1]
    refine evN_congr h4 (fun y hy => ?_)
    show S.vals y = updN S.vals j v y
    rw [updN_ne]; intro e; subst e; exact hs'.2 hy

theorem Coh.put {gs : List GateV} {n : Nat} {S : NS} (h : Coh gs n S) {j : Nat} (h4j : 4 ≤ j) : Coh gs n (putS gs S j (evN gs S j)) := by
  unfold putS chgS
  split
  · rename_i hv
    intro x h4 hx hs
    by_cases hxj : x = j
    · subst hxj; exact hv
    · have hs' : updN S.st j false x = false := hs
      rw [updN_ne _ _ hxj] at hs'
      exact h x h4 hx hs'
  · intro x h4 hx hs
    have hs' : (updN S.st j false x || decide (j ∈ rdL gs x)) = false := hs
    rw [Bool.or_eq_false_iff, decide_eq_false_iff_not] at hs'
    have hev : evN gs S x = evN gs ⟨updN S.vals j (evN gs S j), fun k => updN S.st j false k || decide (j ∈ rdL gs k)⟩ x := evN_congr h4 (fun y hy => by
      show S.vals y = updN S.vals j _ y
      rw [updN_ne]; intro e; subst e; exact hs'.2 hy)
    show updN S.vals j (evN gs S j) x = _
    by_cases hxj : x = j
    · subst hxj; rw [updN_self]; exact hev
    · rw [updN_ne _ _ hxj]
      rw [updN_ne _ _ hxj] at hs'
      rw [← hev]; exact h x h4 hx hs'.1

/-! what is computed from nothing -/
theorem fresh_at {ins : List Nat} (h4 : ins.length = 4) {gs : List GateV} {m k : Nat} (hk : k < m) {g : GateV} (hg : gs[k]? = some g) :
    (freshN ins gs m).getD (4 + k) 0 = wN g.kind ((gIx k g).map fun j => (freshN ins gs m).getD j 0) := by
  rw [freshN_pre ins gs m (k + 1) (4 + k) (by omega) (by omega)]
  rw [freshN, hg, List.getD_eq_getElem?_getD, List.getElem?_append_right (by rw [freshN_len]; omega)]
  rw [freshN_len, show 4 + k - (ins.length + k) = 0 from by omega]
  show wN g.kind _ = _
  congr 1
  refine List.map_congr_left fun j hj => ?_
  exact (freshN_pre ins gs m k j (by omega) (by have := gIx_lt k g j hj; omega)).symm

/-- below what is stale, all values are those computed from the inputs -/
theorem fin_at {gs : List GateV} {m : Nat} (hm : m ≤ 12) (hgl : m ≤ gs.length) {S : NS} (hC : Coh gs (4 + m) S) {ins : List Nat} (h4 : ins.length = 4) (hin : ∀ j, j < 4 → S.vals j = ins.getD j 0) :
    ∀ x, x < 4 + m → (∀ y, 4 ≤ y → y < 4 + m → (y = x ∨ dN gs (4 + m) y < dN gs (4 + m) x) → S.st y = false) → S.vals x = (freshN ins gs m).getD x 0 := by
  intro x
  induction x using Nat.strongRecOn with
  | _ x ih =>
    intro hx hs
    rcases Nat.lt_or_ge x 4 with h | h
    · rw [hin x h, freshN_pre ins gs m 0 x (by omega) (by omega)]; rfl
    · rw [hC x h hx (hs x h hx (.inl rfl))]
      obtain ⟨k, rfl⟩ : ∃ k, x = 4 + k := ⟨x - 4, by omega⟩
      obtain ⟨g, hg⟩ : ∃ g, gs[k]? = some g := ⟨_, List.getElem?_eq_getElem (by omega)⟩
      rw [fresh_at h4 (by omega) hg]
      unfold evN
      rw [show 4 + k - 4 = k from by omega, hg]
      simp only
      congr 1
      refine List.map_congr_left fun y hy => ?_
      have hyr : y ∈ rdL gs (4 + k) := by rw [rdL_node hg]; exact hy
      have hlt := rdL_lt hyr
      have hd := dN_lt gs (n := 4 + m) (by omega) hx hyr
      refine ih y hlt (by omega) (fun z h4z hz hzy => hs z h4z hz (.inr ?_))
      rcases hzy with rfl | hzy
      · exact hd
      · omega

theorem S0_coh {gs : List GateV} {m : Nat} (hgl : m ≤ gs.length) : Coh gs (4 + m) (S0 gs m) := by
  intro x h4 hx _
  obtain ⟨k, rfl⟩ : ∃ k, x = 4 + k := ⟨x - 4, by omega⟩
  obtain ⟨g, hg⟩ : ∃ g, gs[k]? = some g := ⟨_, List.getElem?_eq_getElem (by omega)⟩
  show (freshN [0, 1, 2, 3] gs m).getD (4 + k) 0 = _
  rw [fresh_at rfl (by omega) hg]
  unfold evN
  rw [show 4 + k - 4 = k from by omega, hg]; rfl

/-! the steps of compute -/
structure First (gs : List GateV) (n : Nat) (S : NS) (x : Nat) : Prop where
  lo : 4 ≤ x
  hi : x < n
  st : S.st x = true
  min : ∀ y, 4 ≤ y → y < n → S.st y = true → y = x ∨ ltN gs n x y
theorem First.reads {gs : List GateV} {n : Nat} (hn : n ≤ 100) {S : NS} {x : Nat} (h : First gs n S x) : ∀ y ∈ rdL gs x, 4 ≤ y → S.st y = false := fun y hy h4 => by
  rcases q : S.st y with _ | _
  · rfl
  · have hlt := rdL_lt hy
    have hd := dN_lt gs hn h.hi hy
    rcases h.min y h4 (by have := h.hi; omega) q with rfl | h2
    · omega
    · unfold ltN at h2; omega

inductive Steps (gs : List GateV) (n : Nat) : NS → List Nat → NS → Prop
  | nil (S : NS) : Steps gs n S [] S
  | snoc {S S' : NS} {done : List Nat} {x : Nat} : Steps gs n S done S' → First gs n S' x → Steps gs n S (done ++ [x]) (putS gs S' x (evN gs S' x))

theorem putS_st {gs : List GateV} {S : NS} {j v k : Nat} (h : (putS gs S j v).st k = true) : (k ≠ j ∧ S.st k = true) ∨ (j ∈ rdL gs k ∧ S.vals j ≠ v) := by
  have hu : updN S.st j false k = true → (k ≠ j ∧ S.st k = true) := fun hq => by
    by_cases e : k = j
    · subst e; rw [updN_self] at hq; cases hq
    · rw [updN_ne _ _ e] at hq; exact ⟨e, hq⟩
  unfold putS chgS at h
  split at h
  · exact .inl (hu h)
  · rename_i hv
    have h' : (updN S.st j false k || decide (j ∈ rdL gs k)) = true := h
    rw [Bool.or_eq_true, decide_eq_true_eq] at h'
    rcases h' with h' | h'
    · exact .inl (hu h')
    · exact .inr ⟨h', hv⟩
theorem putS_vals {gs : List GateV} {S : NS} {j v : Nat} (k : Nat) : (putS gs S j v).vals k = if k = j then v else S.vals k := by
  unfold putS chgS
  split
  · rename_i hv
    have hv' : S.vals j = v := hv
    split
    · rename_i e; rw [e]; exact hv
    · rfl
  · show updN S.vals j v k = _
    unfold updN; rfl

theorem Steps.asc {gs : List GateV} {n : Nat} (hn : n ≤ 100) {S S' : NS} {done : List Nat} (h : Steps gs n S done S') :
    done.Pairwise (ltN gs n) ∧ (∀ x ∈ done, 4 ≤ x ∧ x < n) ∧ ∀ y, 4 ≤ y → y < n → S'.st y = true → ∀ z ∈ done, ltN gs n z y := by
  induction h with
  | nil => exact ⟨List.Pairwise.nil, (fun x hx => by cases hx), fun y _ _ _ z hz => by cases hz⟩
  | @snoc S' done x h1 hF ih =>
    obtain ⟨i1, i2, i3⟩ := ih
    have hzx : ∀ z ∈ done, ltN gs n z x := i3 x hF.lo hF.hi hF.st
    refine ⟨?_, ?_, ?_⟩
    · rw [List.pairwise_append]
      exact ⟨i1, List.pairwise_singleton _ _, fun a ha b hb => by rw [List.mem_singleton] at hb; subst hb; exact hzx a ha⟩
    · intro y hy
      rcases List.mem_append.1 hy with hy | hy
      · exact i2 y hy
      · rw [List.mem_singleton] at hy; subst hy; exact ⟨hF.lo, hF.hi⟩
    · intro y h4 hy hs z hz
      have hxy : ltN gs n x y := by
        rcases putS_st hs with ⟨hne, hs'⟩ | ⟨hr, _⟩
        · rcases hF.min y h4 hy hs' with e | h2
          · exact absurd e hne
          · exact h2
        · exact .inl (dN_lt gs hn hy hr)
      rcases List.mem_append.1 hz with hz | hz
      · exact ltN_trans (hzx z hz) hxy
      · rw [List.mem_singleton] at hz; subst hz; exact hxy

theorem Steps.len {gs : List GateV} {m : Nat} (hm : m ≤ 12) {S S' : NS} {done : List Nat} (h : Steps gs (4 + m) S done S') : done.length ≤ m := by
  obtain ⟨h1, h2, _⟩ := h.asc (by omega)
  exact in_range (ltN_nodup h1) h2
theorem Steps.coh {gs : List GateV} {n : Nat} {S S' : NS} {done : List Nat} (h : Steps gs n S done S') (hC : Coh gs n S) : Coh gs n S' := by
  induction h with
  | nil => exact hC
  | snoc h1 hF ih => exact Coh.put ih hF.lo
theorem Steps.ins {gs : List GateV} {n : Nat} {S S' : NS} {done : List Nat} (h : Steps gs n S done S') : ∀ j, j < 4 → S'.vals j = S.vals j := by
  induction h with
  | nil => exact fun j _ => rfl
  | @snoc S' done x h1 hF ih =>
    intro j hj
    rw [putS_vals, if_neg (by have := hF.lo; omega)]; exact ih j hj
theorem Steps.lt8 {gs : List GateV} {n : Nat} {S S' : NS} {done : List Nat} (h : Steps gs n S done S') (hS : ∀ i, S.vals i < 8) : ∀ i, S'.vals i < 8 := by
  induction h with
  | nil => exact hS
  | snoc h1 hF ih => exact putS_lt ih (evN_lt ih _)

/-- FROM NOTHING: behind compute all values are those computed from the inputs alone -/
theorem Steps.fresh {gs : List GateV} {m : Nat} (hm : m ≤ 12) (hgl : m ≤ gs.length) {S S' : NS} {done : List Nat} (h : Steps gs (4 + m) S done S') (hC : Coh gs (4 + m) S) {ins : List Nat} (h4 : ins.length = 4) (hin : ∀ j, j < 4 → S.vals j = ins.getD j 0) (hno : ∀ y, 4 ≤ y → y < 4 + m → S'.st y = false) :
    ∀ x, x < 4 + m → S'.vals x = (freshN ins gs m).getD x 0 := fun x hx =>
  fin_at hm hgl (h.coh hC) h4 (fun j hj => (h.ins j hj).trans (hin j hj)) x hx (fun y h1 h2 _ => hno y h1 h2)

end Go.Proofs.Ytgbnhngaeefmkaa

/-! Networks: the walk of compute. -/
namespace Go.Proofs.Ytgbnhngaeefmkaa
set_option linter.unusedVariables false
set_option linter.unusedSimpArgs false
open Go.RowKit

/-- what compute returns -/
def CompE (W0 : World) (f : Nat) (gs : List GateV) (m : Nat) (S : NS) (W : World) (e : Ending) (w' : World) : Prop :=
  ∃ (done : List Nat) (S' : NS) (ao : Option Addr) (cap : Nat), e = .returned (.tuple #[.slice ao done.length cap, .bool true]) ∧ Steps gs (4 + m) S done S' ∧ (∀ y, 4 ≤ y → y < 4 + m → S'.st y = false) ∧ St W0 f (netF gs (4 + m) S') 16 w' ∧ RowO W.heap.size (.slice ao done.length cap) done.length (done.map gName) w' ∧ Mv W0.heap.size W w'

/-- what holds ahead of each round -/
structure CompI (W0 : World) (f : Nat) (gs : List GateV) (m : Nat) (S : NS) (W : World) (vo : Option Addr) (vc : Nat) (done : List Nat) (S' : NS) (w : World) : Prop where
  st : St W0 f (netF gs (4 + m) S') 16 w
  steps : Steps gs (4 + m) S done S'
  row : RowO W.heap.size (.slice vo done.length vc) done.length (done.map gName) w
  mv : Mv W0.heap.size W w

theorem CompI.later {W0 W w w' : World} {f m : Nat} {gs : List GateV} {S S' : NS} {vo : Option Addr} {vc : Nat} {done : List Nat} (h : CompI W0 f gs m S W vo vc done S' w) (hb : Below w.heap.size w w') : CompI W0 f gs m S W vo vc done S' w' :=
  ⟨h.st.later hb, h.steps, h.row.later hb, h.mv.trans (Mv.of_below hb)⟩

theorem First.of {gs : List GateV} {n : Nat} {S : NS} {x : Nat} {rest : List Nat} (hx : ∀ y, y ∈ x :: rest ↔ 4 ≤ y ∧ y < n ∧ S.st y = true) (hp : (x :: rest).Pairwise (ltN gs n)) : First gs n S x := by
  obtain ⟨h1, h2, h3⟩ := (hx x).1 (by simp)
  refine ⟨h1, h2, h3, fun y h4 hy hs => ?_⟩
  rcases List.mem_cons.1 ((hx y).2 ⟨h4, hy, hs⟩) with e | hm
  · exact .inl e
  · exact .inr ((List.pairwise_cons.1 hp).1 y hm)

/-- a node is computed -/
theorem CompI.put {W0 W w : World} {f m : Nat} {gs : List GateV} {S S' : NS} {vo : Option Addr} {vc : Nat} {done : List Nat} (h : CompI W0 f gs m S W vo vc done S' w) (hm : m ≤ 12) (hS : ∀ i, S.vals i < 8) {k : Nat} (hF : First gs (4 + m) S' (4 + k)) {nv : NodeV} {g : GateV} (hg : gs[k]? = some g) (hnm : nv.name = gName (4 + k)) (hrd : nv.reads = (gIx k g).map gName) (hrr : RowK 1 encT w nv.ao nv.reads) (hrl : nv.reads.length = nv.ln) {v : ByteArray} (hv : dig (evN gs S' (4 + k)) = v) :
    Calls Try.prog 17 #[.pointer (some ⟨f, 0, none⟩), .agg #[.string nv.name, .slice nv.ao nv.ln nv.cap], .string v] w fun e w' => e = .returned (.int .i64 0) ∧ St W0 f (netF gs (4 + m) (putS gs S' (4 + k) (evN gs S' (4 + k)))) 16 w' ∧ RowO W.heap.size (.slice vo done.length vc) done.length (done.map gName) w' ∧ Mv W0.heap.size W w' ∧ Mv W0.heap.size w w' := by
  subst hv
  have h8 := h.steps.lt8 hS
  have hhi := hF.hi
  obtain ⟨h1, h2⟩ := put_net gs (n := 4 + m) (by omega) S' (j := 4 + k) (by omega) hhi (evN_lt h8 _) (h8 _) (hF.reads (by omega))
  rw [rdL_node hg, ← hrd, ← hnm] at h1 h2
  have hl := gIx_len k g
  have hrl2 := hrl
  rw [hrd, List.length_map] at hrl2
  refine (h.st.put (by omega) _ _ nv.ao nv.ln nv.cap nv.reads hrl (by omega) hrr h2 h1).mono ?_
  rintro e w' ⟨rfl, hs, hm'⟩
  exact ⟨rfl, hs.cap (by rw [netF_len]; omega), h.row.mv hm', h.mv.trans hm', hm'⟩

theorem Rep.grown {B : Nat} {W W' : World} {f M : Nat} {bl rb : ByteArray → Nat} {sl : ByteArray → Value} {F : List En} (h : Rep B W f M bl rb sl F) {base n : Nat} {v : Value} {xs : List Value} (ho : W.ownsRow base 9 1 v n xs) (gr : W.grownBy W' v.ownBlock) : Rep B W' f M bl rb sl F := by
  have hc : ∀ {j : Nat} {o : Obj}, W.heap[j]? = some o → (∀ cs', o ≠ .cells cs' 9 (0, 0)) → W'.heap[j]? = W.heap[j]? := fun {j o} hj hne => gr.block j (lt_of_blk hj) (fun e => by
    obtain ⟨_, h2 | ⟨g, cap, cur, h3, _, h5, _⟩⟩ := ho
    · rw [h2.1] at e; simp [Value.ownBlock] at e
    · rw [h3] at e
      simp [Value.ownBlock] at e
      subst e
      rw [h5] at hj; cases hj; exact hne cur rfl)
  obtain ⟨L, hL, hp⟩ := h.names
  have hm : ∀ {b : Nat} {L : List (Value × Value)}, RawMap W b L → W'.heap[b]? = W.heap[b]? := fun {b L} hb => by
    obtain ⟨es, c, q, _⟩ := hb
    exact hc q (fun cs' e => by cases e)
  refine ⟨(hc h.flow (fun cs' e => by cases e)).trans h.flow, ⟨L, hL.kept (hm hL), hp⟩, fun e he => (hc (h.ent e he) (fun cs' e' => by unfold entC at e'; cases e')).trans (h.ent e he), fun e he => (h.row e he).kept (fun g cur fr' hg => hc hg (fun cs' e' => by cases e')), fun e he => ?_, h.injB, h.injR, h.rbM, h.baseM, h.baseB, h.baseR, h.srt⟩
  obtain ⟨L', hL', hp'⟩ := h.rdr e he
  exact ⟨L', hL'.kept (hm hL'), hp'⟩

theorem Mv.grown_own {B base e k n : Nat} {X Y Z : World} {v : Value} {xs : List Value} (h : Mv B X Y) (ho : Y.ownsRow base e k v n xs) (hb : X.heap.size ≤ base) (g : Y.grownBy Z v.ownBlock) : Mv B X Z :=
  ⟨g.os.trans h.os, g.tape.trans h.tape, g.output.trans h.output, Nat.le_trans h.size g.size, fun j hj hn => by
    rw [g.block j (Nat.lt_of_lt_of_le hj h.size) (fun e1 => by have := (owns_ltK ho j e1.symm).1; omega)]
    exact h.block j hj hn⟩

theorem St.grown {W0 w w' : World} {f k : Nat} {F : List En} (h : St W0 f F k w) {base n : Nat} {v : Value} {xs : List Value} (ho : w.ownsRow base 9 1 v n xs) (hb : W0.heap.size ≤ base) (gr : w.grownBy w' v.ownBlock) : St W0 f F k w' := by
  obtain ⟨M, bl, rb, sl, hr⟩ := h.1.rep
  have hl := h.2.grown gr h.2.size (fun j hj => Nat.le_trans hb (owns_ltK ho j hj).1)
  exact ⟨⟨⟨M, bl, rb, sl, hr.grown ho gr⟩, h.1.good, h.1.len, hl.size⟩, hl⟩

/-- the computed node is noted -/
theorem CompI.add {W0 W w7 w8 : World} {f m : Nat} {gs : List GateV} {S S' : NS} {vo : Option Addr} {vc k : Nat} {done : List Nat} {nx : ByteArray} {g' cap' d : Nat} (h0 : W0.heap.size ≤ W.heap.size) (hd : done.length = d) (hs : St W0 f (netF gs (4 + m) (putS gs S' (4 + k) (evN gs S' (4 + k)))) 16 w7) (hr : RowO W.heap.size (.slice vo d vc) d (done.map gName) w7) (hm : Mv W0.heap.size W w7) (hst : Steps gs (4 + m) S done S') (hF : First gs (4 + m) S' (4 + k)) (hnx : gName (4 + k) = nx)
    (own : w8.ownsRow W.heap.size 9 1 (.slice (some ⟨g', 0, none⟩) (d + 1) cap') (d + 1) ((done.map gName).flatMap encT ++ encT nx)) (gr : (w7.alloc (.cells #[.string nx] 9)).grownBy w8 (Value.slice vo d vc).ownBlock) :
    CompI W0 f gs m S W (some ⟨g', 0, none⟩) cap' (done ++ [4 + k]) (putS gs S' (4 + k) (evN gs S' (4 + k))) w8 := by
  subst hnx
  have hX := (Below.refl w7.heap.size w7).alloc (Nat.le_refl _) (.cells #[.string (gName (4 + k))] 9)
  have hrX := (hr.later hX).row
  have hl : (done ++ [4 + k]).length = d + 1 := by rw [List.length_append, hd]; rfl
  refine ⟨(hs.later hX).grown hrX h0 gr, .snoc hst hF, ⟨?_⟩, (hm.trans (Mv.of_below hX)).grown_own hrX (Nat.le_refl _) gr⟩
  rw [hl, List.map_append, List.map_cons, List.map_nil, flat_snoc]; exact own

set_option maxRecDepth 100000 in
set_option maxHeartbeats 4000000 in
theorem compute_any (W0 W : World) (f : Nat) (gs : List GateV) (m : Nat) (S : NS) (hst : St W0 f (netF gs (4 + m) S) 16 W) (hm : m ≤ 12) (hS : ∀ i, S.vals i < 8) (ao : Option Addr) (ln cap : Nat) (hg : GatesK W0 gs ao ln) (no : Option Addr) (nc : Nat) (nvs : List NodeV) (hn : NetK W0 gs no m nvs) :
    Calls Try.prog 31 #[.pointer (some ⟨f, 0, none⟩), .slice ao ln cap, .slice no m nc] W (CompE W0 f gs m S W) := by
  obtain ⟨i0, hi, hz0, hz1, hz2⟩ := info_parts Try.infoStr
  have HG := Lib.hid hg
  have HN := Lib.hid hn
  have ST := Lib.hid hst
  have S8 := Lib.hid hS
  clear hg hn hst hS
  go_enter Try.func31, Try.ntmps31
  go_wp2
  go_loopw [8, 9] (fun o i wr => ∃ (done : List Nat) (S' : NS) (vo : Option Addr) (vc : Nat), i = .int .i64 (done.length : Int) ∧ o = .slice vo done.length vc ∧ CompI W0 f gs m S W vo vc done S' wr) (fun o i _ => 13 - (intOf i).toNat)
  case atStart => exact ⟨[], S, none, 0, rfl, rfl, ST.out, Steps.nil S, RowO.nil _ _, Mv.refl _ _⟩
  case round =>
    obtain ⟨done, S', vo, vc, rfl, rfl, hci⟩ := hrel
    have CI := Lib.hid hci
    clear hci
    have hdl := CI.out.steps.len hm
    obtain ⟨d, hd⟩ : ∃ d, done.length = d := ⟨_, rfl⟩
    have HD := Lib.hid hd
    rw [hd] at hdl
    rw [hd]
    clear hd
    have d0 : (0 : Int) ≤ (d : Int) := by omega
    have d1 : (d : Int) < 100 := by omega
    go_upto_region 6 with (first
      | (go_at_call 21; refine (stale_calls CI.out.st hm).mono ?_; rintro e w2 ⟨xs, so, sc, rfl, hro2, hr2, hx2, hp2, hl2, hs2, hb2⟩; have RO2 := Lib.hid hro2; have R2 := Lib.hid hr2; have X2 := Lib.hid hx2; have P2 := Lib.hid hp2; have C2 := Lib.hid (CI.out.later hb2); have hs2W := hb2.size; clear hro2 hr2 hx2 hp2 hs2 hb2))
    rcases xs with _ | ⟨x, rest⟩
    · have e0 : ((([] : List Nat).length : Int) == 0) = true := by decide
      go_wp2
      go_ret2
      refine ⟨done, S', vo, vc, by rw [HD.out]; rfl, C2.out.steps, fun y h4 hy => ?_, C2.out.st, C2.out.row, C2.out.mv⟩
      rcases q : S'.st y with _ | _
      · rfl
      · exact absurd ((X2.out y).2 ⟨h4, hy, q⟩) (List.not_mem_nil)
    · have FI := Lib.hid (First.of X2.out P2.out)
      have h4x := FI.out.lo
      obtain ⟨k, rfl⟩ : ∃ k, x = 4 + k := ⟨x - 4, by omega⟩
      have hkm : k < m := by have := FI.out.hi; omega
      obtain ⟨b, off, rfl, hlb, hce⟩ := R2.out 0 (gName (4 + k)) rfl
      have cs0 : w2.cell? ⟨b, off, none⟩ = some (.string (gName (4 + k))) := hce 0 _ rfl
      have hkn : k < nvs.length := by rw [HN.out.len]; exact hkm
      obtain ⟨g, hgk, hnm, hrd, hrr, hrl⟩ := HN.out.all k nvs[k] (List.getElem?_eq_getElem hkn)
      obtain ⟨b0, off0, rfl, hlb0, hce0⟩ := HN.out.row k nvs[k] (List.getElem?_eq_getElem hkn)
      obtain ⟨b1, off1, rfl, hlb1, hce1⟩ := HG.out.row k g hgk
      obtain ⟨nv, hnv⟩ : ∃ nv, nvs[k] = nv := ⟨_, rfl⟩
      rw [hnv] at hnm hrd hrr hrl hce0
      have NC0 := Lib.hid (show ∀ w, Below W0.heap.size W0 w → w.cell? ⟨b0, off0 + k * 2, none⟩ = some (.string nv.name) from fun w hb => by
        rw [hb.cell (p := ⟨b0, off0 + k * 2, none⟩) hlb0]; have := hce0 0 _ rfl; rwa [Nat.add_zero] at this)
      have NC1 := Lib.hid (show ∀ w, Below W0.heap.size W0 w → w.cell? ⟨b0, off0 + k * 2 + 1, none⟩ = some (.slice nv.ao nv.ln nv.cap) from fun w hb => by
        rw [hb.cell (p := ⟨b0, off0 + k * 2 + 1, none⟩) hlb0]; exact hce0 1 _ rfl)
      have KC := Lib.hid (show ∀ w, Below W0.heap.size W0 w → w.cell? ⟨b1, off1 + k * 2 + 1, none⟩ = some (.int .i64 g.kind) from fun w hb => by
        rw [hb.cell (p := ⟨b1, off1 + k * 2 + 1, none⟩) hlb1]; exact hce1 1 _ rfl)
      have hmg : m ≤ ln := by have := HN.out.gl; rw [HG.out.len] at this; exact this
      have HRD := Lib.hid hrd
      have HRR := Lib.hid hrr
      have HRL := Lib.hid hrl
      have HNM := Lib.hid hnm
      have HGK := Lib.hid hgk
      have HGI := Lib.hid (HG.out.ok g (List.mem_of_getElem? hgk)).k
      have hrl2 := hrl
      rw [hrd, List.length_map] at hrl2
      have HXL := Lib.hid (gIx_len k g)
      have HXI := Lib.hid (gIx_lt k g)
      have HR2L := Lib.hid hrl2
      have hn4 : nv.ln ≤ 4 := by have := gIx_len k g; omega
      have h8 := Lib.hid (C2.out.steps.lt8 S8.out)
      have hgb : (((gName (4 + k))[0]'(by rw [gName_size]; omega)).toNat - 97 : Int) % 256 = 4 + (k : Int) := by rw [gName_byte (4 + k) (by omega)]; omega
      have hgs := gName_size (4 + k)
      have hk4 : 4 + (k : Int) - 4 = (k : Int) := by omega
      have cn2 := NC0.out w2 C2.out.st.2
      rw [hnm] at cn2
      have k0 : (0 : Int) ≤ (k : Int) := by omega
      have k1 : (k : Int) < (m : Int) := by omega
      obtain ⟨ll, hll⟩ : ∃ ll, (((4 + k) :: rest).length) = ll := ⟨_, rfl⟩
      have hl1 : 1 ≤ ll := by rw [← hll]; simp
      have e0 : (((ll : Nat) : Int) == 0) = false := beq_eq_false_iff_ne.2 (by omega)
      have z0 : (0 : Int) < (ll : Int) := by omega
      rw [hll]
      clear hce hce0 hce1 hnv hrd hrr hrl hrl2 hgk hnm
      have dk0 : decide ((k : Int) < 0) = false := decide_eq_false (by omega)
      have dkm : decide (m ≤ k) = false := decide_eq_false (by omega)
      have dkm2 : decide ((m : Int) ≤ (k : Int)) = false := decide_eq_false (by omega)
      go_upto_region 11 with (fail)
      go_quiet (fail)
      go_wp2
      clear hgb hk4 cn2 cs0
      have B23 : Below w2.heap.size w2 (w2.drewN nq) := ⟨rfl, rfl, rfl, Nat.le_refl _, fun _ _ => rfl⟩
      have C3 := Lib.hid (C2.out.later B23)
      have RO3 := Lib.hid (RO2.out.later B23)
      rw [hll] at RO3
      obtain ⟨w3, hw3⟩ : ∃ w3, w2.drewN nq = w3 := ⟨_, rfl⟩
      rw [hw3] at C3 RO3
      rw [hw3]
      clear hw3 hll B23
      obtain ⟨wb, rfl⟩ : ∃ wb : World, wb = wr := ⟨_, rfl⟩
      go_loopw [12, 13] (fun v j wr => ∃ (q : Nat) (xo : Option Addr) (xc : Nat), q ≤ nv.ln ∧ j = .int .i64 q ∧ v = .slice xo q xc ∧ RowO w3.heap.size (.slice xo q xc) q ((((gIx k g).take q).map S'.vals).map dig) wr ∧ Below w3.heap.size w3 wr) (fun o i _ => nv.ln - (intOf i).toNat)
      case atStart => exact ⟨0, none, 0, by omega, rfl, rfl, RowO.nil _ _, Below.refl _ w3⟩
      case round =>
        obtain ⟨q, xo, xc, hq, rfl, rfl, hov, hlv⟩ := hrel
        have OV := Lib.hid hov
        have LV := Lib.hid hlv
        have CV := Lib.hid (C3.out.later hlv)
        clear hov hlv
        have cn1 := NC1.out wr CV.out.st.2
        have q0 : (0 : Int) ≤ (q : Int) := by omega
        by_cases hql : q < nv.ln
        · have q1 : (q : Int) < (nv.ln : Int) := by omega
          have hqx : q < (gIx k g).length := by rw [HR2L.out]; exact hql
          have hxl := HXI.out (gIx k g)[q] (List.getElem_mem hqx)
          have hyr : (gIx k g)[q] ∈ rdL gs (4 + k) := by rw [rdL_node HGK.out]; exact List.getElem_mem hqx
          have hrr := HRR.out
          rw [HRD.out] at hrr
          obtain ⟨b2, off2, hao, hlb2, hce2⟩ := hrr q (gName (gIx k g)[q]) (by rw [List.getElem?_map, List.getElem?_eq_getElem hqx]; rfl)
          have hc2 := hce2 0 _ rfl
          rw [Nat.mul_one, Nat.add_zero] at hc2
          have cx : wr.cell? ⟨b2, off2 + q, none⟩ = some (.string (gName (gIx k g)[q])) := by rw [CV.out.st.2.cell (p := ⟨b2, off2 + q, none⟩) hlb2]; exact hc2
          have HT := Lib.hid (show (((gIx k g).take (q + 1)).map S'.vals).map dig = (((gIx k g).take q).map S'.vals).map dig ++ [dig (S'.vals (gIx k g)[q])] from by rw [List.take_succ_eq_append_getElem hqx, List.map_append, List.map_append]; rfl)
          have VAL := Lib.hid (CV.out.st.value (gName (gIx k g)[q]) (val_net gs (n := 4 + m) (by omega) S' (j := (gIx k g)[q]) (by omega) (fun h4 => FI.out.reads (by omega) _ hyr h4)))
          rw [hao] at cn1
          obtain ⟨ys, hys⟩ : ∃ ys, gName (gIx k g)[q] = ys := ⟨_, rfl⟩
          obtain ⟨nx, hnx⟩ : ∃ nx, dig (S'.vals (gIx k g)[q]) = nx := ⟨_, rfl⟩
          rw [hys] at cx VAL
          rw [hnx] at HT VAL
          have hXX := ((Below.refl _ wr).alloc (Nat.le_refl _) (.cells #[.string nx] 9))
          have OX := Lib.hid (OV.out.later hXX)
          have GRW := Lib.hid (fun (w4 : World) gr => OV.out.grown (w4 := w4) LV.out hXX LV.out.size gr)
          have hsz := LV.out.size
          clear hyr hrr hao hce2 hc2 hys hnx hqx hXX hxl
          go_wp2_with (first
            | (go_at_call 23; refine VAL.out.mono ?_; rintro e w' ⟨rfl, rfl⟩)
            | (at_builtin; refine wpList_append_own _ rfl (.tmp 84) (.tmp 86) 28 rfl w3.heap.size 9 i0 (.string (ByteArray.mk #[])) 1 16 Try.underlying28 hi hz0 hz1 hz2 rfl (by decide) _ _ _ rfl OX.out.row ⟨wr.heap.size, 0, none⟩ 1 1 (encT nx) rfl rfl (cells_at wr (encT nx) 9 wr.heap.size rfl) (encT_one _) (by unfold maxLen; omega) (by omega) (by simp; omega) ?_; intro v' w4 own gr _h; obtain ⟨g', cap', rfl⟩ := ownsRow_succ own; have O4 := Lib.hid own; have L4 := Lib.hid (GRW.out _ gr); clear own gr _h))
          go_roundw
          case rel => exact ⟨q + 1, _, _, by omega, by go_num, rfl, ⟨by rw [HT.out, flat_snoc]; exact O4.out⟩, L4.out⟩
          case measure => simp [intOf]; omega
        · have q1 : ¬ (q : Int) < (nv.ln : Int) := by omega
          have hqe : q = nv.ln := by omega
          subst hqe
          have ht : (gIx k g).take nv.ln = gIx k g := List.take_of_length_le (by rw [HR2L.out]; exact Nat.le_refl _)
          rw [ht] at OV
          obtain ⟨xo', xc', hex, _, hxr⟩ := OV.out.sl
          cases hex
          have WC := Lib.hid (worth_any g.kind xo nv.ln xc ((gIx k g).map S'.vals) (wr.drew) (by rw [List.length_map]; exact HR2L.out) (by omega) HGI.out.1 HGI.out.2 (fun n hn => by obtain ⟨j, _, rfl⟩ := List.mem_map.1 hn; exact h8.out j) (hxr.later ((Below.refl _ wr).drew)))
          have hev : wN g.kind ((gIx k g).map S'.vals) = evN gs S' (4 + k) := by unfold evN; rw [show 4 + k - 4 = k from by omega, HGK.out]
          rw [hev] at WC
          obtain ⟨y, hy⟩ : ∃ y, dig (evN gs S' (4 + k)) = y := ⟨_, rfl⟩
          have HY := Lib.hid hy
          rw [hy] at WC
          have cn0 := NC0.out wr CV.out.st.2
          have ck := KC.out wr CV.out.st.2
          have kln : (k : Int) < (ln : Int) := by omega
          have ROV := Lib.hid (RO3.out.later LV.out)
          have CVD := Lib.hid (CV.out.later ((Below.refl _ wr).drew))
          have PUTF := Lib.hid (fun (w5 : World) (hb : Below wr.drew.heap.size wr.drew w5) => (CVD.out.later hb).put hm S8.out FI.out HGK.out HNM.out HRD.out (HRR.out.later (CVD.out.later hb).st.2) HRL.out HY.out)
          clear hev ht hxr hy
          go_upto_region 21 with (fail)
          go_cut [101] (fun t wx => t = .bool false ∧ St W0 f (netF gs (4 + m) (putS gs S' (4 + k) (evN gs S' (4 + k)))) 16 wx ∧ RowO W.heap.size (.slice vo d vc) d (done.map gName) wx ∧ Mv W0.heap.size W wx ∧ RowO wb.heap.size (.slice (some ⟨b, off, none⟩) ll sc) ll (((4 + k) :: rest).map gName) wx)
          case first =>
            go_region_law (first
              | (go_simp; go_at_call 54; (with_reducible refine WC.out.mono ?_); rintro e w5 ⟨rfl, hb5⟩; have hb50 := (CVD.out.later hb5).st.2; have cn05 := NC0.out w5 hb50; have cn15 := NC1.out w5 hb50; have PUT := Lib.hid (PUTF.out w5 hb5); have RO5 := Lib.hid (ROV.out.later (((Below.refl wr.heap.size wr).drew).trans hb5)); clear hb5 hb50)
              | (go_simp; go_at_call 17; (with_reducible refine PUT.out.mono ?_); rintro e w6 ⟨rfl, hs6, hr6, hm6, hmm⟩; have S6 := Lib.hid hs6; have RD6 := Lib.hid hr6; have M6 := Lib.hid hm6; have RO6 := Lib.hid (RO5.out.mv hmm); clear hs6 hr6 hm6 hmm))
            all_goals (go_wp2_with fail; go_meet; exact ⟨rfl, S6.out, by have q := RD6.out; rw [HD.out] at q; exact q, M6.out, RO6.out⟩)
          case rest =>
            obtain ⟨rfl, hs, hr, hmv, hro⟩ := hcut
            obtain ⟨w7, rfl⟩ : ∃ w7 : World, w7 = wc := ⟨_, rfl⟩
            obtain ⟨so', sc', hso, _, hsr⟩ := hro.sl
            cases hso
            obtain ⟨b', off', he', _, hc'⟩ := hsr 0 (gName (4 + k)) rfl
            cases he'
            have cs7 : w7.cell? ⟨b, off, none⟩ = some (.string (gName (4 + k))) := hc' 0 _ rfl
            obtain ⟨nx, hnx⟩ : ∃ nx, gName (4 + k) = nx := ⟨_, rfl⟩
            have HNX := Lib.hid hnx
            rw [hnx] at cs7
            have HS7 := Lib.hid hs
            have HR7 := Lib.hid hr
            have HM7 := Lib.hid hmv
            have hXX := ((Below.refl _ w7).alloc (Nat.le_refl _) (.cells #[.string nx] 9))
            have OX := Lib.hid (hr.later hXX)
            have hsz := hmv.size
            have ADD := Lib.hid (fun (w8 : World) (g' cap' : Nat) own gr => CompI.add (w8 := w8) (g' := g') (cap' := cap') ST.out.2.size HD.out HS7.out HR7.out HM7.out C3.out.steps FI.out HNX.out own gr)
            clear hs hr hmv hro hsr hc' hnx hXX
            go_wp2_with (first
              | (at_builtin; refine wpList_append_own _ rfl (.tmp 103) (.tmp 107) 28 rfl W.heap.size 9 i0 (.string (ByteArray.mk #[])) 1 16 Try.underlying28 hi hz0 hz1 hz2 rfl (by decide) _ _ _ rfl OX.out.row ⟨w7.heap.size, 0, none⟩ 1 1 (encT nx) rfl rfl (cells_at w7 (encT nx) 9 w7.heap.size rfl) (encT_one _) (by unfold maxLen; omega) (by omega) (by simp; omega) ?_; intro v' w8 own gr _h; obtain ⟨g', cap', rfl⟩ := ownsRow_succ own; have A8 := Lib.hid (ADD.out _ _ _ own gr); clear own gr _h))
            have HL1 : (done ++ [4 + k]).length = d + 1 := by rw [List.length_append, HD.out]; rfl
            go_roundw
            case rel => exact ⟨done ++ [4 + k], _, _, _, by rw [HL1]; go_num, by rw [HL1], A8.out⟩
            case measure => simp [intOf]; omega

end Go.Proofs.Ytgbnhngaeefmkaa

/-! FromNothing: what holds between the rounds. -/
namespace Go.Proofs.Ytgbnhngaeefmkaa
set_option linter.unusedVariables false
set_option linter.unusedSimpArgs false
open Go.RowKit

theorem chgS_vals {gs : List GateV} {S : NS} {j v : Nat} (k : Nat) : (chgS gs S j v).vals k = if k = j then v else S.vals k := by
  unfold chgS
  split
  · rename_i hv
    split
    · rename_i e; rw [e]; exact hv
    · rfl
  · show updN S.vals j v k = _
    unfold updN; rfl
theorem getD_setN {l : List Nat} {p v j : Nat} (hp : p < l.length) : (l.set p v).getD j 0 = if j = p then v else l.getD j 0 := by
  rw [List.getD_eq_getElem?_getD, List.getElem?_set]
  by_cases e : p = j
  · subst e; simp [hp]
  · rw [if_neg e, if_neg (fun q => e q.symm), List.getD_eq_getElem?_getD]
theorem InsB.set {w : World} {ib : Nat} {ins : List Nat} (h : w.heap[ib]? = some (InsB ins)) (i n : Nat) : (w.setCell ⟨ib, i, none⟩ (.int .i64 (n : Int))).heap[ib]? = some (InsB (ins.set i n)) := by
  have := heap_setC h (o := i) (.int .i64 (n : Int))
  rw [this]
  unfold InsB
  rw [List.map_set, List.setIfInBounds_toArray]
theorem InsB.cell {w : World} {ib : Nat} {ins : List Nat} (h : w.heap[ib]? = some (InsB ins)) {i : Nat} (hi : i < ins.length) : w.cell? ⟨ib, i, none⟩ = some (.int .i64 (ins.getD i 0 : Nat)) := by
  refine cell_blk h ?_
  rw [List.getElem?_toArray, List.getElem?_map, List.getElem?_eq_getElem hi, List.getD_eq_getElem?_getD, List.getElem?_eq_getElem hi]; rfl
theorem InsB.frz {w : World} {ib : Nat} {ins : List Nat} (h : w.heap[ib]? = some (InsB ins)) (o : Nat) : w.frozen? ⟨ib, o, none⟩ = false := frz_blk h

structure FnI (W0 : World) (f : Nat) (gs : List GateV) (m ib : Nat) (S : NS) (ins : List Nat) (w : World) : Prop where
  st : St W0 f (netF gs (4 + m) S) 16 w
  coh : Coh gs (4 + m) S
  lt8 : ∀ i, S.vals i < 8
  len : ins.length = 4
  i8 : ∀ n ∈ ins, n < 8
  inv : ∀ j, j < 4 → S.vals j = ins.getD j 0
  blk : w.heap[ib]? = some (InsB ins)
theorem FnI.later {W0 w w' : World} {f m ib : Nat} {gs : List GateV} {S : NS} {ins : List Nat} (h : FnI W0 f gs m ib S ins w) (hb : Below w.heap.size w w') : FnI W0 f gs m ib S ins w' :=
  ⟨h.st.later hb, h.coh, h.lt8, h.len, h.i8, h.inv, (hb.block ib (lt_of_blk h.blk)).trans h.blk⟩

/-- an input was noted, and set -/
theorem FnI.setM {W0 w w' : World} {f m ib : Nat} {gs : List GateV} {S : NS} {ins : List Nat} (h : FnI W0 f gs m ib S ins w) (hB : W0.heap.size ≤ ib) (hm : m ≤ 12) {p v : Nat} (hp : p < 4) (hv : v < 8) {nm vs : ByteArray} (hnm : gName p = nm) (hvs : dig v = vs) (hb : Below (w.setCell ⟨ib, p, none⟩ (.int .i64 (v : Int))).heap.size (w.setCell ⟨ib, p, none⟩ (.int .i64 (v : Int))) w') :
    Calls Try.prog 13 #[.pointer (some ⟨f, 0, none⟩), .string nm, .string vs] w' fun e w2 => e = .returned (.int .i64 0) ∧ FnI W0 f gs m ib (chgS gs S p v) (ins.set p v) w2 ∧ Mv W0.heap.size w' w2 := by
  have hst := h.st.turned (o := p) h.blk hB (by decide) (by decide) (by decide) (.int .i64 (v : Int))
  have hbk := InsB.set h.blk p v
  refine (set_calls (hst.later hb) hm h.lt8 hp hv hnm hvs).mono ?_
  rintro e w2 ⟨rfl, hs, hmv⟩
  refine ⟨rfl, ⟨hs, h.coh.chg hp, chgS_lt h.lt8 hv, by rw [List.length_set]; exact h.len, fun n hn => ?_, fun j hj => ?_, hmv.blk ((hb.block ib (lt_of_blk hbk)).trans hbk) (by decide)⟩, hmv⟩
  · rcases List.mem_or_eq_of_mem_set hn with q | q
    · exact h.i8 n q
    · rw [q]; exact hv
  · rw [chgS_vals, getD_setN (by rw [h.len]; exact hp), h.inv j hj]

theorem FnI.set {W0 w w' : World} {f m ib : Nat} {gs : List GateV} {S : NS} {ins : List Nat} (h : FnI W0 f gs m ib S ins w) (hB : W0.heap.size ≤ ib) (hm : m ≤ 12) {p v : Nat} (hp : p < 4) (hv : v < 8) {nm vs : ByteArray} (hnm : gName p = nm) (hvs : dig v = vs) (hb : Below (w.setCell ⟨ib, p, none⟩ (.int .i64 (v : Int))).heap.size (w.setCell ⟨ib, p, none⟩ (.int .i64 (v : Int))) w') :
    Calls Try.prog 13 #[.pointer (some ⟨f, 0, none⟩), .string nm, .string vs] w' fun e w2 => e = .returned (.int .i64 0) ∧ FnI W0 f gs m ib (chgS gs S p v) (ins.set p v) w2 :=
  (h.setM hB hm hp hv hnm hvs hb).mono fun e w2 ⟨q1, q2, _⟩ => ⟨q1, q2⟩

/-- behind compute -/
theorem FnI.comp {W0 w w' : World} {f m ib : Nat} {gs : List GateV} {S S' : NS} {ins done : List Nat} (h : FnI W0 f gs m ib S ins w) (hst : Steps gs (4 + m) S done S') (hs : St W0 f (netF gs (4 + m) S') 16 w') (hmv : Mv W0.heap.size w w') : FnI W0 f gs m ib S' ins w' :=
  ⟨hs, hst.coh h.coh, hst.lt8 h.lt8, h.len, h.i8, fun j hj => (hst.ins j hj).trans (h.inv j hj), hmv.blk h.blk (by decide)⟩

end Go.Proofs.Ytgbnhngaeefmkaa

/-! Least in plain words: who is computed. -/
namespace Go.Proofs.Ytgbnhngaeefmkaa
set_option linter.unusedVariables false
set_option linter.unusedSimpArgs false

def isN (ins : List Nat) (gs : List GateV) (m x : Nat) : Nat := (freshN ins gs m).getD x 0

/-- behind the first i inputs -/
structure LeI (gs : List GateV) (m i : Nat) (S : NS) (ins : List Nat) : Prop where
  vals : ∀ x, 4 ≤ x → S.vals x = (S0 gs m).vals x
  rest : ∀ j, i ≤ j → j < 4 → ins.getD j 0 = j
  st : ∀ x, S.st x = true → ∃ y, y ∈ rdL gs x ∧ y < 4 ∧ ins.getD y 0 ≠ y
  rd : ∀ x y, y ∈ rdL gs x → y < 4 → ins.getD y 0 ≠ y → S.st x = true

theorem LeI.zero (gs : List GateV) (m : Nat) : LeI gs m 0 (S0 gs m) [0, 1, 2, 3] := by
  have h : ∀ j, j < 4 → ([0, 1, 2, 3] : List Nat).getD j 0 = j := by decide
  exact ⟨fun x _ => rfl, fun j _ hj => h j hj, (fun x hx => by cases hx), fun x y _ hy hne => absurd (h y hy) hne⟩

theorem LeI.set {gs : List GateV} {m i : Nat} {S : NS} {ins : List Nat} (h : LeI gs m i S ins) (hl : ins.length = 4) (hi : i < 4) (hinv : ∀ j, j < 4 → S.vals j = ins.getD j 0) (v : Nat) : LeI gs m (i + 1) (chgS gs S i v) (ins.set i v) := by
  have hg : ∀ j, (ins.set i v).getD j 0 = if j = i then v else ins.getD j 0 := fun j => getD_setN (by rw [hl]; exact hi)
  have hii := h.rest i (Nat.le_refl i) hi
  have hvi := hinv i hi
  rw [hii] at hvi
  refine ⟨fun x hx => ?_, fun j h1 h2 => ?_, fun x hx => ?_, fun x y hy h4 hne => ?_⟩
  · rw [chgS_vals, if_neg (by omega)]; exact h.vals x hx
  · rw [hg, if_neg (by omega)]; exact h.rest j (by omega) h2
  · by_cases hv : S.vals i = v
    · have e : chgS gs S i v = S := by unfold chgS; rw [if_pos hv]
      rw [e] at hx
      obtain ⟨y, q1, q2, q3⟩ := h.st x hx
      refine ⟨y, q1, q2, ?_⟩
      rw [hg]
      split
      · rename_i e; subst e; exact absurd hii q3
      · exact q3
    · have e : (chgS gs S i v).st x = (S.st x || decide (i ∈ rdL gs x)) := by unfold chgS; rw [if_neg hv]
      rw [e, Bool.or_eq_true, decide_eq_true_eq] at hx
      rcases hx with hx | hx
      · obtain ⟨y, q1, q2, q3⟩ := h.st x hx
        refine ⟨y, q1, q2, ?_⟩
        rw [hg]
        split
        · rename_i e; subst e; exact absurd hii q3
        · exact q3
      · refine ⟨i, hx, hi, ?_⟩
        rw [hg, if_pos rfl]
        omega
  · rw [hg] at hne
    by_cases hv : S.vals i = v
    · have e : chgS gs S i v = S := by unfold chgS; rw [if_pos hv]
      rw [e]
      split at hne
      · rename_i e; omega
      · exact h.rd x y hy h4 hne
    · have e : (chgS gs S i v).st x = (S.st x || decide (i ∈ rdL gs x)) := by unfold chgS; rw [if_neg hv]
      rw [e, Bool.or_eq_true, decide_eq_true_eq]
      split at hne
      · rename_i e; subst e; exact .inr hy
      · exact .inl (h.rd x y hy h4 hne)

theorem putS_mk {gs : List GateV} {S : NS} {j v k : Nat} (h : j ∈ rdL gs k) (hv : S.vals j ≠ v) : (putS gs S j v).st k = true := by
  unfold putS chgS
  rw [if_neg hv]
  show (updN S.st j false k || decide (j ∈ rdL gs k)) = true
  rw [Bool.or_eq_true, decide_eq_true_eq]; exact .inr h
theorem putS_keep {gs : List GateV} {S : NS} {j v k : Nat} (h : S.st k = true) (hk : k ≠ j) : (putS gs S j v).st k = true := by
  have hu : updN S.st j false k = true := by rw [updN_ne _ _ hk]; exact h
  unfold putS chgS
  split
  · exact hu
  · show (updN S.st j false k || decide (j ∈ rdL gs k)) = true
    rw [hu]; rfl

/-- while it computes -/
structure LeS (gs : List GateV) (m : Nat) (ins : List Nat) (done : List Nat) (S : NS) : Prop where
  old : ∀ x, 4 ≤ x → x ∉ done → S.vals x = isN [0, 1, 2, 3] gs m x
  st : ∀ x, S.st x = true → ∃ y, y ∈ rdL gs x ∧ isN [0, 1, 2, 3] gs m y ≠ isN ins gs m y
  rd : ∀ x y, y ∈ rdL gs x → S.vals y ≠ isN [0, 1, 2, 3] gs m y → S.st x = true ∨ x ∈ done
  done : ∀ x, x ∈ done → ∃ y, y ∈ rdL gs x ∧ isN [0, 1, 2, 3] gs m y ≠ isN ins gs m y

theorem isN_in {ins : List Nat} (h4 : ins.length = 4) (gs : List GateV) (m : Nat) {j : Nat} (hj : j < 4) : isN ins gs m j = ins.getD j 0 := by
  unfold isN; rw [freshN_pre ins gs m 0 j (by omega) (by omega)]; rfl
theorem isN_was (gs : List GateV) (m : Nat) {j : Nat} (hj : j < 4) : isN [0, 1, 2, 3] gs m j = j := by
  rw [isN_in rfl gs m hj]
  revert j; decide

theorem Steps.least {gs : List GateV} {m : Nat} (hm : m ≤ 12) (hgl : m ≤ gs.length) {S S' : NS} {done : List Nat} (h : Steps gs (4 + m) S done S') {ins : List Nat} (hC : Coh gs (4 + m) S) (h4 : ins.length = 4) (hin : ∀ j, j < 4 → S.vals j = ins.getD j 0) (hI : LeI gs m 4 S ins) : LeS gs m ins done S' := by
  induction h with
  | nil =>
    refine ⟨fun x hx _ => hI.vals x hx, fun x hx => ?_, fun x y hy hne => .inl ?_, fun x hx => by cases hx⟩
    · obtain ⟨y, q1, q2, q3⟩ := hI.st x hx
      exact ⟨y, q1, by rw [isN_was gs m q2, isN_in h4 gs m q2]; exact fun e => q3 e.symm⟩
    · rcases Nat.lt_or_ge y 4 with q | q
      · rw [isN_was gs m q, hin y q] at hne
        exact hI.rd x y hy q hne
      · exact absurd (hI.vals y q) hne
  | @snoc S' done x h1 hF ih =>
    obtain ⟨i1, i2, i3⟩ := h1.asc (by omega)
    have hxd : x ∉ done := fun hx => ltN_irr _ _ _ (i3 x hF.lo hF.hi hF.st x hx)
    have hwx := ih.old x hF.lo hxd
    have hix : evN gs S' x = isN ins gs m x := by
      have q := fin_at hm hgl (Coh.put (h1.coh hC) hF.lo) h4 (fun j hj => by
        rw [putS_vals, if_neg (by have := hF.lo; omega)]; exact (h1.ins j hj).trans (hin j hj)) x hF.hi (fun y h1' h2' h3 => by
          rcases q : (putS gs S' x (evN gs S' x)).st y with _ | _
          · rfl
          · rcases putS_st q with ⟨hne, hs⟩ | ⟨hr, _⟩
            · rcases h3 with h3 | h3
              · exact absurd h3 hne
              · rcases hF.min y h1' h2' hs with e | e
                · exact absurd e hne
                · unfold ltN at e; omega
            · have hd := dN_lt gs (n := 4 + m) (by omega) h2' hr
              have hlt := rdL_lt hr
              omega)
      rw [putS_vals, if_pos rfl] at q
      exact q
    refine ⟨fun y hy hnd => ?_, fun y hy => ?_, fun y z hz hne => ?_, fun y hy => ?_⟩
    · rw [putS_vals, if_neg (fun e => hnd (by subst e; simp))]
      exact ih.old y hy (fun q => hnd (List.mem_append.2 (.inl q)))
    · rcases putS_st hy with ⟨_, hs⟩ | ⟨hr, hv⟩
      · exact ih.st y hs
      · exact ⟨x, hr, by rw [← hwx, ← hix]; exact hv⟩
    · rw [putS_vals] at hne
      by_cases hzx : z = x
      · subst hzx
        rw [if_pos rfl] at hne
        exact .inl (putS_mk hz (by rw [hwx]; exact fun e => hne e.symm))
      · rw [if_neg hzx] at hne
        by_cases hyx : y = x
        · exact .inr (by subst hyx; simp)
        · rcases ih.rd y z hz hne with q | q
          · exact .inl (putS_keep q hyx)
          · exact .inr (List.mem_append.2 (.inl q))
    · rcases List.mem_append.1 hy with hy | hy
      · exact ih.done y hy
      · rw [List.mem_singleton] at hy; subst hy; exact ih.st y hF.st

/-- who was computed -/
theorem Steps.who {gs : List GateV} {m : Nat} (hm : m ≤ 12) (hgl : m ≤ gs.length) {S S' : NS} {done : List Nat} (h : Steps gs (4 + m) S done S') {ins : List Nat} (hC : Coh gs (4 + m) S) (h4 : ins.length = 4) (hin : ∀ j, j < 4 → S.vals j = ins.getD j 0) (hI : LeI gs m 4 S ins) (hno : ∀ y, 4 ≤ y → y < 4 + m → S'.st y = false) {x : Nat} (hx : x < 4 + m) (hx4 : 4 ≤ x) :
    x ∈ done ↔ ∃ y, y ∈ rdL gs x ∧ isN [0, 1, 2, 3] gs m y ≠ isN ins gs m y := by
  have L := h.least hm hgl hC h4 hin hI
  have F := h.fresh hm hgl hC h4 hin hno
  refine ⟨L.done x, ?_⟩
  rintro ⟨y, hy, hne⟩
  have hyx := rdL_lt hy
  rcases L.rd x y hy (by rw [F y (by omega)]; exact fun e => hne e.symm) with q | q
  · rw [hno x hx4 hx] at q; cases q
  · exact q

/-! what the law holds on to -/
open Go.RowKit

theorem RowO.turned {base n : Nat} {v : Value} {l : List ByteArray} {w : World} (h : RowO base v n l w) {ib : Nat} {cs : Array Value} {t : TypeId} {fr : Nat × Nat} (hi : w.heap[ib]? = some (.cells cs t fr)) (ht : t ≠ 9) (o : Nat) (x : Value) : RowO base v n l (w.setCell ⟨ib, o, none⟩ x) := by
  obtain ⟨h1, h2 | ⟨g, cap, cur, h3, h4, h5, h6⟩⟩ := h.row
  · exact ⟨h1, .inl h2⟩
  · exact ⟨h1, .inr ⟨g, cap, cur, h3, h4, (Below.heap_setCell w ⟨ib, o, none⟩ x g (fun e => by
      subst e; rw [hi] at h5; cases h5; exact ht rfl)).trans h5, h6⟩⟩
theorem ins_ne_bool {ins : List Nat} {bs : List Bool} : InsB ins ≠ BoolB bs := fun e => by
  unfold InsB BoolB at e
  injection e with _ h2 _
  cases h2
theorem FnI.turned {W0 w : World} {f m ib cb : Nat} {gs : List GateV} {S : NS} {ins : List Nat} {bs : List Bool} (h : FnI W0 f gs m ib S ins w) (hi : w.heap[cb]? = some (BoolB bs)) (hB : W0.heap.size ≤ cb) (o : Nat) (x : Value) : FnI W0 f gs m ib S ins (w.setCell ⟨cb, o, none⟩ x) :=
  ⟨h.st.turned hi hB (by decide) (by decide) (by decide) x, h.coh, h.lt8, h.len, h.i8, h.inv, (Below.heap_setCell w ⟨cb, o, none⟩ x ib (fun e => by
    have e' : ib = cb := e
    have q := h.blk; rw [e', hi] at q; exact ins_ne_bool (Option.some.inj q).symm)).trans h.blk⟩

/-- while the inputs are set -/
structure LeW (W0 : World) (f : Nat) (gs : List GateV) (m ib base : Nat) (wo : Option Addr) (wc : Nat) (S : NS) (ins : List Nat) (w : World) : Prop where
  fn : FnI W0 f gs m ib S ins w
  was : RowO base (.slice wo (4 + m) wc) (4 + m) ((freshN [0, 1, 2, 3] gs m).map dig) w
theorem LeW.later {W0 w w' : World} {f m ib base : Nat} {gs : List GateV} {wo : Option Addr} {wc : Nat} {S : NS} {ins : List Nat} (h : LeW W0 f gs m ib base wo wc S ins w) (hb : Below w.heap.size w w') : LeW W0 f gs m ib base wo wc S ins w' := ⟨h.fn.later hb, h.was.later hb⟩
theorem LeW.set {W0 w w' : World} {f m ib base : Nat} {gs : List GateV} {wo : Option Addr} {wc : Nat} {S : NS} {ins : List Nat} (h : LeW W0 f gs m ib base wo wc S ins w) (hB : W0.heap.size ≤ ib) (hm : m ≤ 12) {p v : Nat} (hp : p < 4) (hv : v < 8) {nm vs : ByteArray} (hnm : gName p = nm) (hvs : dig v = vs) (hb : Below (w.setCell ⟨ib, p, none⟩ (.int .i64 (v : Int))).heap.size (w.setCell ⟨ib, p, none⟩ (.int .i64 (v : Int))) w') :
    Calls Try.prog 13 #[.pointer (some ⟨f, 0, none⟩), .string nm, .string vs] w' fun e w2 => e = .returned (.int .i64 0) ∧ LeW W0 f gs m ib base wo wc (chgS gs S p v) (ins.set p v) w2 :=
  (h.fn.setM hB hm hp hv hnm hvs hb).mono fun e w2 ⟨q1, q2, q3⟩ => ⟨q1, q2, ((h.was.turned h.fn.blk (by decide) p _).later hb).mv q3⟩

/-- while it is noted what changed -/
structure LeC (W0 : World) (f : Nat) (gs : List GateV) (m ib base : Nat) (wo : Option Addr) (wc : Nat) (base2 : Nat) (so : Option Addr) (sc : Nat) (S : NS) (ins : List Nat) (cb : Nat) (bs : List Bool) (w : World) : Prop where
  lw : LeW W0 f gs m ib base wo wc S ins w
  is : RowO base2 (.slice so (4 + m) sc) (4 + m) ((freshN ins gs m).map dig) w
  on : w.heap[cb]? = some (BoolB bs)
  lo : W0.heap.size ≤ cb
theorem LeC.set {W0 w : World} {f m ib base base2 cb : Nat} {gs : List GateV} {wo so : Option Addr} {wc sc : Nat} {S : NS} {ins : List Nat} {bs : List Bool} (h : LeC W0 f gs m ib base wo wc base2 so sc S ins cb bs w) (o : Nat) (b : Bool) : LeC W0 f gs m ib base wo wc base2 so sc S ins cb (bs.set o b) (w.setCell ⟨cb, o, none⟩ (.bool b)) :=
  ⟨⟨h.lw.fn.turned h.on h.lo o _, h.lw.was.turned h.on (by decide) o _⟩, h.is.turned h.on (by decide) o _, BoolB.set h.on o b, h.lo⟩
theorem LeC.drew {W0 w w' : World} {f m ib base base2 cb : Nat} {gs : List GateV} {wo so : Option Addr} {wc sc : Nat} {S : NS} {ins : List Nat} {bs : List Bool} (h : LeC W0 f gs m ib base wo wc base2 so sc S ins cb bs w) (hb : Below w.heap.size w w') : LeC W0 f gs m ib base wo wc base2 so sc S ins cb bs w' :=
  ⟨h.lw.later hb, h.is.later hb, (hb.block cb (lt_of_blk h.on)).trans h.on, h.lo⟩

def BsOk (gs : List GateV) (m : Nat) (ins : List Nat) (q : Nat) (bs : List Bool) : Prop := bs.length = 4 + m ∧ ∀ y, y < q → bs.getD y false = decide (isN [0, 1, 2, 3] gs m y ≠ isN ins gs m y)
theorem getD_setB {l : List Bool} {p j : Nat} {v : Bool} (hp : p < l.length) : (l.set p v).getD j false = if j = p then v else l.getD j false := by
  rw [List.getD_eq_getElem?_getD, List.getElem?_set]
  by_cases e : p = j
  · subst e; simp [hp]
  · rw [if_neg e, if_neg (fun q => e q.symm), List.getD_eq_getElem?_getD]
theorem BsOk.step {gs : List GateV} {m q : Nat} {ins : List Nat} {bs : List Bool} (h : BsOk gs m ins q bs) (hq : q < 4 + m) {b : Bool} (hb : decide (isN [0, 1, 2, 3] gs m q ≠ isN ins gs m q) = b) : BsOk gs m ins (q + 1) (bs.set q b) := by
  refine ⟨by rw [List.length_set]; exact h.1, fun y hy => ?_⟩
  rw [getD_setB (by rw [h.1]; exact hq)]
  split
  · rename_i e; subst e; exact hb.symm
  · exact h.2 y (by omega)

/-- while the computed ones are counted -/
structure LeD (W0 : World) (cb : Nat) (bs : List Bool) (base : Nat) (ao : Option Addr) (cap : Nat) (done : List Nat) (nb : Nat) (cnt : List Nat) (w : World) : Prop where
  low : Below W0.heap.size W0 w
  on : w.heap[cb]? = some (BoolB bs)
  row : RowO base (.slice ao done.length cap) done.length (done.map gName) w
  cnt : w.heap[nb]? = some (InsB cnt)
  lo : W0.heap.size ≤ nb
theorem LeD.set {W0 w : World} {cb base nb cap : Nat} {bs : List Bool} {ao : Option Addr} {done cnt : List Nat} (h : LeD W0 cb bs base ao cap done nb cnt w) (o n : Nat) : LeD W0 cb bs base ao cap done nb (cnt.set o n) (w.setCell ⟨nb, o, none⟩ (.int .i64 (n : Int))) :=
  ⟨h.low.setCell (p := ⟨nb, o, none⟩) h.lo _, (Below.heap_setCell w ⟨nb, o, none⟩ _ cb (fun e => by
    have e' : cb = nb := e
    have q := h.cnt; rw [← e', h.on] at q; exact ins_ne_bool (Option.some.inj q).symm)).trans h.on, h.row.turned h.cnt (by decide) o _, InsB.set h.cnt o n, h.lo⟩

def CntOk (m : Nat) (done : List Nat) (q : Nat) (cnt : List Nat) : Prop := cnt.length = m ∧ ∀ k, k < m → cnt.getD k 0 = (done.take q).count (4 + k)
theorem CntOk.zero (m : Nat) (done : List Nat) : CntOk m done 0 (List.replicate m 0) := ⟨by simp, fun k hk => by
  rw [List.getD_eq_getElem?_getD, List.getElem?_replicate]; simp [hk]⟩
theorem CntOk.step {m q k : Nat} {done cnt : List Nat} (h : CntOk m done q cnt) (hq : done[q]? = some (4 + k)) (hk : k < m) : CntOk m done (q + 1) (cnt.set k (cnt.getD k 0 + 1)) := by
  refine ⟨by rw [List.length_set]; exact h.1, fun j hj => ?_⟩
  obtain ⟨hql, hqe⟩ := List.getElem?_eq_some_iff.1 hq
  rw [getD_setN (by rw [h.1]; exact hk), List.take_succ_eq_append_getElem hql, List.count_append, hqe, List.count_singleton, h.2 k hk, h.2 j hj]
  by_cases e : j = k
  · subst e; simp
  · rw [if_neg e]
    have : ((4 + k) == (4 + j)) = false := beq_eq_false_iff_ne.2 (by omega)
    rw [this]; simp

/-- what each count must be -/
theorem cnt_fin {gs : List GateV} {m : Nat} {ins done cnt : List Nat} {bs : List Bool} (hb : BsOk gs m ins (4 + m) bs) (hc : CntOk m done done.length cnt) (hnd : done.Nodup) (hwho : ∀ x, 4 ≤ x → x < 4 + m → (x ∈ done ↔ ∃ y, y ∈ rdL gs x ∧ isN [0, 1, 2, 3] gs m y ≠ isN ins gs m y)) {k : Nat} (hk : k < m) : cnt.getD k 0 = if onB gs k bs = true then 1 else 0 := by
  rw [hc.2 k hk, List.take_of_length_le (Nat.le_refl _), hnd.count]
  have : (4 + k) ∈ done ↔ onB gs k bs = true := by
    rw [hwho (4 + k) (by omega) (by omega)]
    unfold onB
    rw [List.any_eq_true]
    constructor
    · rintro ⟨y, h1, h2⟩
      have := rdL_lt h1
      exact ⟨y, h1, by rw [hb.2 y (by omega)]; exact decide_eq_true h2⟩
    · rintro ⟨y, h1, h2⟩
      have := rdL_lt h1
      rw [hb.2 y (by omega)] at h2
      exact ⟨y, h1, of_decide_eq_true h2⟩
  by_cases e : (4 + k) ∈ done
  · rw [if_pos e, if_pos (this.1 e)]
  · rw [if_neg e, if_neg (fun q => e (this.2 q))]

theorem Try.infoInt : (Try.prog.info? 3).map (fun i => (i.zero, i.size, i.bytes)) = some (some (.int .i64 0), 1, 8) := by kernel_rfl
theorem made_ints (n : Nat) : madeCells (Value.int .i64 0).cells (n * 1) = ((List.replicate n 0).map (fun (n : Nat) => Value.int .i64 (n : Int))).toArray := by
  apply Array.ext
  · rw [size_madeCells]; simp
  · intro i h1 h2
    simp [madeCells, Value.cells] at h1 ⊢
    rw [Nat.mod_one]; rfl
theorem mk_ints (n : Nat) (hn : n ≤ 1000) (w : World) : (Instr.makeSlice 32 (.int .i64 (n : Int)) (.int .i64 (n : Int))).run Try.prog w = .ok (.slice (some ⟨w.heap.size, 0, none⟩) n n) (w.alloc (InsB (List.replicate n 0))) := by
  obtain ⟨i0, hi, hz0, hz1, hz2⟩ := info_parts Try.infoInt
  have h := run_makeSlice (P := Try.prog) w 32 3 i0 (.int .i64 0) Try.underlying32 hi hz0 .i64 .i64 (n : Int) (n : Int) (by omega) (by omega) (by rw [hz1]; simp; omega) (by rw [hz2]; omega) (by omega)
  rw [h, hz1, Int.toNat_natCast, made_ints]; rfl

end Go.Proofs.Ytgbnhngaeefmkaa
