/-
  QUICK: the nodes' states. QUICK: what is reckoned, told of the real nodes. Nodes are made, begin, and are put into a row.
-/
import Derived.Test.YtifcdjmcoibblaaGreatDoorQu01
import Derived.Test.YtifcdjmcoibblaaGreatDoorQu02
import Derived.Test.YtifcdjmcoibblaaGreatDoorQu03
import Derived.Test.YtifcdjmcoibblaaGreatDoorG36
import Derived.Test.YtifcdjmcoibblaaGreatDoorG27

/-! QUICK: the nodes' states. -/
namespace Go.Proofs.YtifcdjmcoibblaaGreatDoor
set_option linter.unusedVariables false
set_option linter.unusedSimpArgs false
set_option linter.unusedSectionVars false

section
variable {D L : Type} [Dg D] [Inhabited L]
theorem receive_ticks (s : NS D L) (m : Msg D L) (ok : Bool) : (s.receive m ok).ticks = s.ticks := by
  unfold NS.receive
  split
  · rfl
  · split
    · rfl
    · split
      · obtain ⟨a, b, e⟩ := ask_same s m
        rw [e]
      · split
        · rfl
        · split
          · exact (putVote_same s m).1.ticks
          · split
            · rfl
            · split
              · rfl
              · rfl
theorem begin_ticks (s : NS D L) (h : Int) (ok : Bool) (d : D) (l : L) : (s.begin h ok d l).1.ticks ≤ s.ticks ∨ (s.begin h ok d l).1.ticks ≤ 0 := by
  unfold NS.begin
  split
  · exact .inl (Int.le_refl _)
  · split
    · exact .inl (Int.le_refl _)
    · split
      · first | exact .inl (Int.le_refl _) | exact .inr (Int.le_refl _)
      · exact .inl (Int.le_refl _)
theorem begin_n (s : NS D L) (h : Int) (ok : Bool) (d : D) (l : L) : (s.begin h ok d l).1.n = s.n ∧ (s.begin h ok d l).1.id = s.id := by
  unfold NS.begin
  split
  · exact ⟨rfl, rfl⟩
  · split
    · exact ⟨rfl, rfl⟩
    · split
      · exact ⟨rfl, rfl⟩
      · exact ⟨rfl, rfl⟩
/-- so many nodes, that have ticked so often at most -/
def Crew (N : Nat) (T : Int) (ss : List (NS D L)) : Prop := ss.length = N ∧ ∀ s ∈ ss, s.n = N ∧ s.ticks ≤ T
theorem Crew.mono {N : Nat} {T U : Int} {ss : List (NS D L)} (h : Crew N T ss) (hu : T ≤ U) : Crew N U ss := ⟨h.1, fun s hs => ⟨(h.2 s hs).1, by have := (h.2 s hs).2; omega⟩⟩
theorem Crew.set {N : Nat} {T : Int} {ss : List (NS D L)} (h : Crew N T ss) {s : NS D L} (h1 : s.n = N) (h2 : s.ticks ≤ T) (i : Nat) : Crew N T (ss.set i s) := by
  refine ⟨by rw [List.length_set]; exact h.1, fun t ht => ?_⟩
  rcases List.mem_or_eq_of_mem_set ht with q | rfl
  · exact h.2 t q
  · exact ⟨h1, h2⟩
end

/-! a round of real nodes -/
/-- i nodes have ticked -/
def tickd (i : Nat) (ns : List StB) : List StB := (ns.take i).map (fun s => s.tick.1) ++ ns.drop i
def outsd (i : Nat) (ns : List StB) : List MsgB := (ns.take i).flatMap fun s => s.tick.2
theorem tickd_zero (ns : List StB) : tickd 0 ns = ns := by simp [tickd]
theorem outsd_zero (ns : List StB) : outsd 0 ns = [] := by simp [outsd]
theorem tickd_all {i : Nat} {ns : List StB} (h : ns.length ≤ i) : tickd i ns = midN ns := by
  unfold tickd midN
  rw [List.take_of_length_le h, List.drop_of_length_le h, List.append_nil]
theorem outsd_all {i : Nat} {ns : List StB} (h : ns.length ≤ i) : outsd i ns = outsN ns := by
  unfold outsd outsN
  rw [List.take_of_length_le h]
theorem tickd_at {i : Nat} {ns : List StB} (h : i < ns.length) : (tickd i ns)[i]? = some ns[i] := by
  unfold tickd
  rw [List.getElem?_append_right (by simp; omega)]
  simp [Nat.min_eq_left (Nat.le_of_lt h), h]
theorem tickd_next {i : Nat} {ns : List StB} (h : i < ns.length) : (tickd i ns).set i ns[i].tick.1 = tickd (i + 1) ns := by
  unfold tickd
  have e : ((ns.take i).map fun s => s.tick.1).length = i := by rw [List.length_map, List.length_take, Nat.min_eq_left (Nat.le_of_lt h)]
  rw [List.take_succ_eq_append_getElem h, List.map_append, List.drop_eq_getElem_cons h, List.set_append_right _ _ (by rw [e]; exact Nat.le_refl _), e, Nat.sub_self, List.append_assoc]
  rfl
theorem outsd_next {i : Nat} {ns : List StB} (h : i < ns.length) : outsd (i + 1) ns = outsd i ns ++ ns[i].tick.2 := by
  unfold outsd
  rw [List.take_succ_eq_append_getElem h, List.flatMap_append]
  simp
theorem tickd_len (i : Nat) (ns : List StB) : (tickd i ns).length = ns.length := by
  unfold tickd
  simp
  omega
theorem set_modify {ns : List StB} {i : Nat} {s : StB} (h : ns[i]? = some s) (f : StB → StB) : ns.set i (f s) = ns.modify i f := by
  apply List.ext_getElem?
  intro j
  rw [List.getElem?_modify, List.getElem?_set]
  by_cases q : i = j
  · subst q
    have hl := (List.getElem?_eq_some_iff.1 h).1
    rw [h]
    simp [hl]
  · simp [q]

theorem Crew.tickd {N : Nat} {T : Int} {ns : List StB} (h : Crew N T ns) (hi : ∀ s ∈ ns, Fit GA s) (i : Nat) : Crew N (T + 1) (tickd i ns) := by
  refine ⟨by rw [tickd_len]; exact h.1, fun s hs => ?_⟩
  unfold Go.Proofs.YtifcdjmcoibblaaGreatDoor.tickd at hs
  rw [List.mem_append] at hs
  rcases hs with hs | hs
  · obtain ⟨t, ht, rfl⟩ := List.mem_map.1 hs
    have ht := List.mem_of_mem_take ht
    have hk := tick_keep (hi t ht).ok.inv
    have := h.2 t ht
    exact ⟨hk.n.trans this.1, by have := hk.ticks; omega⟩
  · have := h.2 s (List.mem_of_mem_drop hs)
    exact ⟨this.1, by omega⟩
theorem Crew.recv {N : Nat} {T : Int} {ns : List StB} (h : Crew N T ns) {i : Nat} {s : StB} (hs : ns[i]? = some s) (m : MsgB) (ok : Bool) : Crew N T (ns.set i (s.receive m ok)) := by
  have := h.2 s (List.mem_of_getElem? hs)
  exact h.set ((receive_kept s m ok).2.2.1.trans this.1) (by rw [receive_ticks]; exact this.2) i

/-- what k messages of the round have brought about -/
def gotN (k : Nat) (ns : List StB) : List StB := ((outsN ns).take k).foldl dlvN (midN ns)
theorem gotN_zero (ns : List StB) : gotN 0 ns = midN ns := rfl
theorem gotN_all {k : Nat} {ns : List StB} (h : (outsN ns).length ≤ k) : gotN k ns = rndN ns := by
  unfold gotN rndN
  rw [List.take_of_length_le h]
theorem gotN_next {k : Nat} {ns : List StB} {m : MsgB} (h : (outsN ns)[k]? = some m) : gotN (k + 1) ns = dlvN (gotN k ns) m := by
  unfold gotN
  rw [List.take_add_one, h]
  simp [List.foldl_append]
theorem gotN_len (k : Nat) (ns : List StB) : (gotN k ns).length = ns.length := by
  unfold gotN
  rw [foldl_dlv_len]
  unfold midN
  rw [List.length_map]

/-- the messages of a round: well formed, and of the crew -/
theorem outs_ok {N : Nat} {T : Int} {ns : List StB} (h : Crew N T ns) (hi : ∀ s ∈ ns, Fit GA s) : ∀ m ∈ outsN ns, validB m = true ∧ m.list.length ≤ 60 ∧ (m.kind = 3 → GA m.dig m.list) ∧ 0 ≤ m.to ∧ m.to < N := by
  intro m hm
  unfold outsN at hm
  obtain ⟨s, hs, hm⟩ := List.mem_flatMap.1 hm
  have hf := hi s hs
  have ho := hf.out GA.gf m hm
  obtain ⟨a, b, c⟩ := out_valid GA.gf ho hf.ok.inv.num.id0 hf.ok.inv.num.idn hf.ok.inv.num.n7
  have hn := (h.2 s hs).1
  exact ⟨a, b, c, ho.t0, by have := ho.t1; omega⟩
theorem mid_fit {ns : List StB} (hi : ∀ s ∈ ns, Fit GA s) : ∀ s ∈ midN ns, Fit GA s := by
  intro s hs
  obtain ⟨t, ht, rfl⟩ := List.mem_map.1 hs
  exact (hi t ht).tick
theorem dlv_fit {ns : List StB} {m : MsgB} (hi : ∀ s ∈ ns, Fit GA s) (hv : validB m = true) (hg : m.kind = 3 → GA m.dig m.list) : ∀ s ∈ dlvN ns m, Fit GA s :=
  dlv_all hi (fun s hs => by
    have := hs.receive (m := m) (fun _ => hg)
    rwa [hv] at this)
theorem rnd_fit {N : Nat} {T : Int} {ns : List StB} (h : Crew N T ns) (hi : ∀ s ∈ ns, Fit GA s) : ∀ s ∈ rndN ns, Fit GA s :=
  rnd_all (Q := fun m => validB m = true ∧ (m.kind = 3 → GA m.dig m.list)) (fun s hs => hs.tick) (fun m hm s hs => by
    have := hs.receive (m := m) (fun _ => hm.2)
    rwa [hm.1] at this) (fun m hm => ⟨(outs_ok h hi m hm).1, (outs_ok h hi m hm).2.2.1⟩) hi
theorem Crew.dlv {N : Nat} {T : Int} {ns : List StB} (h : Crew N T ns) (m : MsgB) : Crew N T (dlvN ns m) :=
  ⟨by rw [dlvN_len]; exact h.1, dlv_all h.2 (fun s hs => ⟨(receive_kept s m true).2.2.1.trans hs.1, by rw [receive_ticks]; exact hs.2⟩)⟩
theorem Crew.fold {N : Nat} {T : Int} : ∀ (ms : List MsgB) {ns : List StB}, Crew N T ns → Crew N T (ms.foldl dlvN ns)
  | [], _, h => h
  | m :: ms, _, h => Crew.fold ms (h.dlv m)
theorem Crew.mid {N : Nat} {T : Int} {ns : List StB} (h : Crew N T ns) (hi : ∀ s ∈ ns, Fit GA s) : Crew N (T + 1) (midN ns) := by
  have := h.tickd hi ns.length
  rwa [tickd_all (Nat.le_refl _)] at this
theorem Crew.rnd {N : Nat} {T : Int} {ns : List StB} (h : Crew N T ns) (hi : ∀ s ∈ ns, Fit GA s) : Crew N (T + 1) (rndN ns) := (h.mid hi).fold _
theorem rnds_crew {N : Nat} {T : Int} {ns : List StB} (h : Crew N T ns) (hi : ∀ s ∈ ns, Fit GA s) : ∀ t : Nat, Crew N (T + t) (rndsN t ns) ∧ ∀ s ∈ rndsN t ns, Fit GA s
  | 0 => ⟨h.mono (by simp), hi⟩
  | t + 1 => by
    obtain ⟨a, b⟩ := rnds_crew h hi t
    have e : rndsN (t + 1) ns = rndN (rndsN t ns) := rfl
    rw [e]
    exact ⟨(a.rnd b).mono (by push_cast; omega), rnd_fit a b⟩

end Go.Proofs.YtifcdjmcoibblaaGreatDoor

/-! QUICK: what is reckoned, told of the real nodes. -/
namespace Go.Proofs.YtifcdjmcoibblaaGreatDoor
set_option linter.unusedVariables false
set_option linter.unusedSimpArgs false

def rn5 (q : S5) : StB := q.ren (codeD tab5) (codeL tab5)
def codeJ (j : Nat) : Q5 := if j = 0 then 2 else if j = 1 then 3 else 4
theorem codeJ_ok {j : Nat} (h : j < 3) : codeD tab5 (codeJ j) = digV (fam j) ∧ codeL tab5 (codeJ j) = fam j := by
  rcases j with _ | _ | _ | j
  · exact ⟨by unfold codeD codeJ; rfl, by unfold codeL codeJ; rfl⟩
  · exact ⟨by unfold codeD codeJ; rfl, by unfold codeL codeJ; rfl⟩
  · exact ⟨by unfold codeD codeJ; rfl, by unfold codeL codeJ; rfl⟩
  · omega
theorem rn5_begin (q : S5) {j : Nat} (h : j < 3) (k : Int) : (rn5 q).begin k (ascS (fam j)) (digV (fam j)) (fam j) = (rn5 (q.begin k true (codeJ j) (codeJ j)).1, (q.begin k true (codeJ j) (codeJ j)).2) := by
  rw [asc_fam (by omega), ← (codeJ_ok h).1]
  conv => lhs; arg 5; rw [← (codeJ_ok h).2]
  exact begin_ren ren5 q k true (codeJ j) (codeJ j)
/-- a node with its list -/
def bgn (k : Int) (j : Nat) (s : StB) : StB := (s.begin k (ascS (fam j)) (digV (fam j)) (fam j)).1
def startR (N j : Nat) : List StB := (List.range N).map fun (i : Nat) => bgn 0 j (newS (i : Int) (N : Int))
theorem startR_eq {N j : Nat} (h : j < 3) : startR N j = (startQ N (codeJ j)).map rn5 := by
  unfold startR startQ bgn
  rw [List.map_map]
  apply List.map_congr_left
  intro i _
  show ((rn5 (newS (i : Int) (N : Int))).begin 0 (ascS (fam j)) (digV (fam j)) (fam j)).1 = _
  rw [rn5_begin _ h]
  rfl
theorem quick_pair {N j0 j1 : Nat} (h1 : 1 ≤ N) (h7 : N ≤ 7) (h0 : j0 < 3) (hj : j1 < 3) : quickQ N (codeJ j0) (codeJ j1) = true := by
  have a := List.all_eq_true.1 quickQ_all (N - 1) (List.mem_range.2 (by omega))
  have b := List.all_eq_true.1 quickQ_b (N - 1) (List.mem_range.2 (by omega))
  have c := List.all_eq_true.1 quickQ_c (N - 1) (List.mem_range.2 (by omega))
  rw [show N - 1 + 1 = N from by omega] at a b c
  simp only [Bool.and_eq_true] at a b c
  obtain ⟨⟨a1, a2⟩, a3⟩ := a
  obtain ⟨⟨b1, b2⟩, b3⟩ := b
  obtain ⟨⟨c1, c2⟩, c3⟩ := c
  rcases j0 with _ | _ | _ | j0
  · rcases j1 with _ | _ | _ | j1
    · exact b1
    · exact a1
    · exact c1
    · omega
  · rcases j1 with _ | _ | _ | j1
    · exact c2
    · exact b2
    · exact a2
    · omega
  · rcases j1 with _ | _ | _ | j1
    · exact a3
    · exact c3
    · exact b3
    · omega
  · omega
theorem start_inv {N : Nat} (h7 : N ≤ 7) (c : Q5) : ∀ s ∈ startQ N c, InvS (fun _ : Q5 => True) s := by
  intro s hs
  obtain ⟨i, hi, rfl⟩ := List.mem_map.1 hs
  have hi := List.mem_range.1 hi
  exact begin_inv (new_inv trivial (by omega) (by omega) (by omega)) 0 true c (fun _ => trivial)
theorem next_inv {ns : List S5} (h : ∀ s ∈ ns, InvS (fun _ : Q5 => True) s) (c : Q5) : ∀ s ∈ nextQ c ns, InvS (fun _ : Q5 => True) s := by
  intro s hs
  obtain ⟨t, ht, rfl⟩ := List.mem_map.1 hs
  exact begin_inv (h t ht) 1 true c (fun _ => trivial)
theorem done_dec {h : Int} {j : Nat} (hj : j < 3) {l : List S5} (hd : doneQ h (codeJ j) l = true) : ∀ s ∈ l.map rn5, (∃ v, getA h s.decs = some v ∧ v.list = fam j) ∧ s.round = 0 := by
  intro s hs
  obtain ⟨q, hq, rfl⟩ := List.mem_map.1 hs
  have := List.all_eq_true.1 hd q hq
  rw [Bool.and_eq_true] at this
  obtain ⟨h1, h2⟩ := this
  refine ⟨?_, of_decide_eq_true h2⟩
  rcases e : getA h q.decs with _ | v
  · rw [e] at h1; cases h1
  · rw [e] at h1
    simp at h1
    refine ⟨v.ren (codeD tab5) (codeL tab5), ?_, ?_⟩
    · show getA h (mapV _ q.decs) = _
      rw [getA_ren, e]; rfl
    · show codeL tab5 v.list = fam j
      rw [h1.2, (codeJ_ok hj).2]

/-- the states as the heights go by -/
def nextR (h j : Nat) (ns : List StB) : List StB := if h = 0 then ns.map (bgn 1 j) else ns
structure QuickR (N j0 j1 : Nat) : Prop where
  a : ∀ s ∈ rndsN 8 (startR N j0), (∃ v, getA 0 s.decs = some v ∧ v.list = fam j0) ∧ s.round = 0
  b : ∀ s ∈ rndsN 8 (startR N j0), (s.begin 1 (ascS (fam j1)) (digV (fam j1)) (fam j1)).2 = true
  c : ∀ s ∈ rndsN 8 (nextR 0 j1 (rndsN 8 (startR N j0))), (∃ v, getA 1 s.decs = some v ∧ v.list = fam j1) ∧ s.round = 0
theorem quickR {N j0 j1 : Nat} (h1 : 1 ≤ N) (h7 : N ≤ 7) (h0 : j0 < 3) (hj : j1 < 3) : QuickR N j0 j1 := by
  have hq := quick_pair h1 h7 h0 hj
  unfold quickQ at hq
  simp only [Bool.and_eq_true] at hq
  obtain ⟨⟨⟨g1, d1⟩, m1⟩, g2, d2⟩ := hq
  obtain ⟨e1, _, i1⟩ := goodRun_ok (N : Int) 8 _ (start_inv h7 (codeJ j0)) g1
  have i8 := i1 8 (Nat.le_refl _)
  rw [e1] at d1 m1 g2 d2
  obtain ⟨e2, _, _⟩ := goodRun_ok (N : Int) 8 _ (next_inv i8 (codeJ j1)) g2
  rw [e2] at d2
  have r1 : rndsN 8 (startR N j0) = (rndsN 8 (startQ N (codeJ j0))).map rn5 := by
    rw [startR_eq h0]
    exact rnds_ren ren5 8 _
  have r2 : rndsN 8 (nextR 0 j1 (rndsN 8 (startR N j0))) = (rndsN 8 (nextQ (codeJ j1) (rndsN 8 (startQ N (codeJ j0))))).map rn5 := by
    rw [r1]
    have : nextR 0 j1 ((rndsN 8 (startQ N (codeJ j0))).map rn5) = (nextQ (codeJ j1) (rndsN 8 (startQ N (codeJ j0)))).map rn5 := by
      unfold nextR nextQ
      rw [if_pos rfl, List.map_map, List.map_map]
      apply List.map_congr_left
      intro q _
      show ((rn5 q).begin 1 (ascS (fam j1)) (digV (fam j1)) (fam j1)).1 = _
      rw [rn5_begin _ hj]
      rfl
    rw [this]
    exact rnds_ren ren5 8 _
  refine ⟨?_, ?_, ?_⟩
  · rw [r1]; exact done_dec h0 d1
  · rw [r1]
    intro s hs
    obtain ⟨q, hq, rfl⟩ := List.mem_map.1 hs
    rw [rn5_begin _ hj]
    exact List.all_eq_true.1 m1 q hq
  · rw [r2]; exact done_dec hj d2

/-- the crew at the start, and at the next height -/
theorem start_fit {N j : Nat} (h7 : N ≤ 7) (hj : j < 3) : ∀ s ∈ startR N j, Fit GA s := by
  intro s hs
  obtain ⟨i, hi, rfl⟩ := List.mem_map.1 hs
  have hi := List.mem_range.1 hi
  exact (Fit.new (by omega) (by omega) (by omega)).begin GA.gf 0 (fun _ => GA.fam (by omega))
theorem start_crew {N j : Nat} : Crew N 0 (startR N j) := by
  refine ⟨by simp [startR], fun s hs => ?_⟩
  obtain ⟨i, hi, rfl⟩ := List.mem_map.1 hs
  refine ⟨(begin_n _ _ _ _ _).1, ?_⟩
  rcases begin_ticks (newS (i : Int) (N : Int) : StB) 0 (ascS (fam j)) (digV (fam j)) (fam j) with q | q
  · exact q
  · exact q
theorem bgn_fit {h : Int} {j : Nat} (hj : j < 3) {s : StB} (hf : Fit GA s) : Fit GA (bgn h j s) := hf.begin GA.gf h (fun _ => GA.fam (by omega))
theorem bgn_crew {h : Int} {j N : Nat} {T : Int} (hT : 0 ≤ T) {s : StB} (hs : s.n = N ∧ s.ticks ≤ T) : (bgn h j s).n = N ∧ (bgn h j s).ticks ≤ T := by
  refine ⟨(begin_n _ _ _ _ _).1.trans hs.1, ?_⟩
  unfold bgn
  rcases begin_ticks s h (ascS (fam j)) (digV (fam j)) (fam j) with q | q <;> omega
theorem next_fit {h j : Nat} (hj : j < 3) {ns : List StB} (hf : ∀ s ∈ ns, Fit GA s) : ∀ s ∈ nextR h j ns, Fit GA s := by
  intro s hs
  unfold nextR at hs
  split at hs
  · obtain ⟨t, ht, rfl⟩ := List.mem_map.1 hs
    exact bgn_fit hj (hf t ht)
  · exact hf s hs
theorem next_crew {h j N : Nat} {T : Int} (hT : 0 ≤ T) {ns : List StB} (hc : Crew N T ns) : Crew N T (nextR h j ns) := by
  unfold nextR
  split
  · refine ⟨by rw [List.length_map]; exact hc.1, fun s hs => ?_⟩
    obtain ⟨t, ht, rfl⟩ := List.mem_map.1 hs
    exact bgn_crew hT (hc.2 t ht)
  · exact hc

end Go.Proofs.YtifcdjmcoibblaaGreatDoor

/-! Nodes are made, begin, and are put into a row. -/
namespace Go.Proofs.YtifcdjmcoibblaaGreatDoor
set_option linter.unusedVariables false
set_option linter.unusedSimpArgs false
set_option linter.unusedSectionVars false
open Go.RowKit

theorem Tryz.infoPtr : (Tryz.prog.info? 25).map (fun i => (i.zero, i.size, i.bytes)) = some (some (.pointer none), 1, 8) := by kernel_rfl

/-- the first i nodes -/
def begun (N j i : Nat) : List StB := (List.range i).map fun (i : Nat) => bgn 0 j (newS (i : Int) (N : Int))
theorem begun_all (N j : Nat) : begun N j N = startR N j := rfl
theorem begun_next (N j i : Nat) : begun N j (i + 1) = begun N j i ++ [bgn 0 j (newS (i : Int) (N : Int))] := by
  unfold begun; rw [List.range_succ, List.map_append]; rfl
theorem begun_len (N j i : Nat) : (begun N j i).length = i := by simp [begun]

/-- i nodes, in a row -/
def Yard (base : Nat) (w1 : World) (N j i : Nat) (v : Value) (W : World) : Prop :=
  ∃ xs Rs, xs.length = i ∧ Net GA base W xs (begun N j i) Rs ∧ W.ownsRow base 25 1 v i (xs.map pv) ∧ (∀ g, v.ownBlock = some g → ¬ AllR i Rs g) ∧ Below base w1 W ∧ 0 < base ∧ base ≤ w1.heap.size ∧ Glob w1
/-- i nodes in a row, one more beside it -/
def YardA (base : Nat) (w1 : World) (N j i : Nat) (v : Value) (x : Nat) (s : StB) (W : World) : Prop :=
  ∃ xs Rs, xs.length = i ∧ Net GA base W (xs ++ [x]) (begun N j i ++ [s]) Rs ∧ W.ownsRow base 25 1 v i (xs.map pv) ∧ (∀ g, v.ownBlock = some g → ¬ AllR (xs ++ [x]).length Rs g) ∧ Below base w1 W ∧ 0 < base ∧ base ≤ w1.heap.size ∧ Glob w1

section
variable {base : Nat} {w1 W W' : World} {N j i x : Nat} {v : Value} {s : StB}
theorem row_lt {e : TypeId} {b k n : Nat} {xs : List Value} (h : W.ownsRow b e k v n xs) (g : Nat) (hg : v.ownBlock = some g) : b ≤ g ∧ g < W.heap.size := by
  rcases h.2 with ⟨rfl, _⟩ | ⟨g0, cap, cur, rfl, h1, h2, _⟩
  · simp [Value.ownBlock] at hg
  · have : g0 = g := by simpa [Value.ownBlock] using hg
    subst this
    exact ⟨h1, (Array.getElem?_eq_some_iff.1 h2).1⟩
theorem Yard.nil {w1 : World} (hb : 0 < w1.heap.size) (hG : Glob w1) (N j : Nat) : Yard w1.heap.size w1 N j 0 (.slice none 0 0) w1 :=
  ⟨[], fun _ _ => False, rfl, Net.nil _ _ _ _, World.ownsRow_nil _ _ _ _, fun g hg => by simp [Value.ownBlock] at hg, Below.refl _ _, hb, Nat.le_refl _, hG⟩
theorem yard_new (h : Yard base w1 N j i v W) (hi : i < N) (h7 : N ≤ 7) : Calls Tryz.prog 15 #[.int .i64 (i : Int), .int .i64 (N : Int)] W fun e w' => ∃ x, e = .returned (.tuple #[pv x, .int .i64 0]) ∧ YardA base w1 N j i v x (newS (i : Int) (N : Int)) w' := by
  obtain ⟨xs, Rs, hl, hn, ho, hz, hb, hp, hle, hG⟩ := h
  have hs := Nat.le_trans hle hb.size
  refine (nnew hn hs (id := (i : Int)) (n := (N : Int)) (by omega) (by omega) (by omega) (by omega)).mono ?_
  rintro e w' ⟨x, Rs', rfl, h1, h2, h3⟩
  refine ⟨x, rfl, xs, Rs', hl, h1, ownsRow_blk ho (fun g _ hlt => h2.block g hlt), fun g hg hr => ?_, hb.trans (h2.mono hs), hp, hle, hG⟩
  rcases h3 g hr with q | q
  · rw [hl] at q; exact hz g hg q
  · have := (row_lt ho g hg).2; omega
theorem YardA.later (h : YardA base w1 N j i v x s W) (hb : Below W.heap.size W W') : YardA base w1 N j i v x s W' := by
  obtain ⟨xs, Rs, hl, hn, ho, hz, hb1, hp, hle, hG⟩ := h
  have hs := Nat.le_trans hle hb1.size
  exact ⟨xs, Rs, hl, hn.later hb, ownsRow_blk ho (fun g _ hlt => hb.block g hlt), hz, hb1.trans (hb.mono hs), hp, hle, hG⟩
theorem yard_begin {R0 : Nat → Prop} {vl : Value} (h : YardA base w1 N j i v x (newS (i : Int) (N : Int)) W) (hj : j < 3) (hr : LRow R0 W vl (fam j)) (h0 : ∀ k, R0 k → k < W.heap.size) : Calls Tryz.prog 16 #[pv x, iv 0, vl] W fun e w' => e = .returned (.int .i64 0) ∧ YardA base w1 N j i v x (bgn 0 j (newS (i : Int) (N : Int))) w' := by
  obtain ⟨xs, Rs, hl, hn, ho, hz, hb1, hp, hle, hG⟩ := h
  have hs := Nat.le_trans hle hb1.size
  have hx : (xs ++ [x])[i]? = some x := by rw [List.getElem?_append_right (by omega), hl, Nat.sub_self]; rfl
  have hss : (begun N j i ++ [(newS (i : Int) (N : Int) : StB)])[i]? = some (newS (i : Int) (N : Int)) := by rw [List.getElem?_append_right (by rw [begun_len]; exact Nat.le_refl _), begun_len, Nat.sub_self]; rfl
  refine (nbegin GA.gf hn hs hx hss hr h0 fam_len ⟨hG.choose, (hb1.block 0 hp).trans hG.choose_spec⟩ (fun _ => GA.fam (by omega)) 0).mono ?_
  rintro e w' ⟨rfl, Rs', h2⟩
  refine ⟨?_, xs, Rs', hl, ?_, ownsRow_blk ho (fun g hg hlt => h2.chg.block g hlt (hz g hg)), fun g hg hr => ?_, hb1.trans (h2.chg.below hs (fun k hk => hn.low hk)), hp, hle, hG⟩
  · have : ((newS (i : Int) (N : Int) : StB).begin 0 (ascS (fam j)) (digV (fam j)) (fam j)).2 = true := by
      rw [asc_fam (by omega)]
      unfold NS.begin
      simp [newS, NS.isDec, getA]
    rw [this]; rfl
  · have e : (begun N j i ++ [(newS (i : Int) (N : Int) : StB)]).set i (bgn 0 j (newS (i : Int) (N : Int))) = begun N j i ++ [bgn 0 j (newS (i : Int) (N : Int))] := by
      rw [List.set_append_right _ _ (by rw [begun_len]; exact Nat.le_refl _), begun_len, Nat.sub_self]; rfl
    rw [← e]
    exact h2.net
  · rcases h2.grow g hr with q | q
    · exact hz g hg q
    · have := (row_lt ho g hg).2; omega

/-- the node is put into the row -/
theorem wpList_yard {o : Oper} {a : Act} {Q : Exit → Act → World → Prop} {ops : Array Oper} {rest : List Oper} (hgd : o.guard = none) (s2 x2 : Operand)
    (ho : o.op = .call { callee := .builtin .append, args := #[s2, x2], argTypes := #[24, 24] })
    (hs : a.eval s2 = v) (h : YardA base w1 N j i v x (bgn 0 j (newS (i : Int) (N : Int))) W) (hi : i < 7)
    (hx : a.eval x2 = .slice (some ⟨W.heap.size, 0, none⟩) 1 1)
    (hk : ∀ v' W', Yard base w1 N j (i + 1) v' W' → wpList Tryz.prog ops Q rest (a.put o.dst v') W') : wpList Tryz.prog ops Q (o :: rest) a (W.alloc (.cells #[pv x] 25)) := by
  obtain ⟨xs, Rs, hl, hn, hown, hz, hb1, hp, hle, hG⟩ := h
  have hbs := Nat.le_trans hle hb1.size
  obtain ⟨ti, hti, hz0, hz1, hz2⟩ := info_parts Tryz.infoPtr
  have hba := (Below.refl _ W).alloc (Nat.le_refl _) (.cells #[pv x] 25)
  refine wpList_append_new hgd s2 x2 24 ho base 25 ti (.pointer none) 1 8 Tryz.underlying24 hti hz0 hz1 hz2 (by rfl) (by decide) v i (xs.map pv) hs (ownsRow_blk hown (fun g _ hlt => hba.block g hlt)) ⟨W.heap.size, 0, none⟩ 1 1 [pv x] hx (by rfl) (cells_at W [pv x] _ _ rfl) (by intro u hu; simp at hu; subst hu; rfl) (by unfold maxLen; omega) (by omega) (by simp; omega) (i + 1) rfl ?_
  intro v' W' o2 gr hloc
  have hkeep : ∀ k, AllR (xs ++ [x]).length Rs k → W'.heap[k]? = W.heap[k]? := fun k hk => by
    have hlt := hn.lt hk
    rw [gr.block k (by simp; omega) (fun e => hz k e.symm hk)]
    exact hba.block k hlt
  have hsz : W.heap.size ≤ W'.heap.size := Nat.le_trans hba.size gr.size
  have hbel : Below base W W' := grown_own (hba.mono hbs) hbs (ownsRow_blk hown (fun g _ hlt => hba.block g hlt)) gr
  refine hk v' W' ⟨xs ++ [x], Rs, by rw [List.length_append, hl]; rfl, ?_, ?_, fun g hg hr => ?_, hb1.trans hbel, hp, hle, hG⟩
  · rw [begun_next]; exact hn.kept hkeep hsz
  · rw [List.map_append]; exact o2
  · have hr : AllR (xs ++ [x]).length Rs g := by rw [List.length_append, hl]; exact hr
    rcases hloc g hg with q | q
    · exact hz g q hr
    · have := hn.lt hr
      have : W.heap.size ≤ (W.alloc (.cells #[pv x] 25)).heap.size := hba.size
      omega

/-- all nodes are made: the fleet -/
theorem Yard.fleet (h : Yard base w1 N j N v W) (h1 : 1 ≤ N) : ∃ gn cap cur xs Rs, v = .slice (some ⟨gn, 0, none⟩) N cap ∧ xs.length = N ∧ Fl GA base w1 gn cur xs (startR N j) Rs W := by
  obtain ⟨xs, Rs, hl, hn, hown, hz, hb1, hp, hle, hG⟩ := h
  rcases hown.2 with ⟨_, h0⟩ | ⟨g, cap, cur, rfl, hbg, hg, h3, h4, h5⟩
  · omega
  · refine ⟨g, cap, cur, xs, Rs, rfl, hl, hn, hb1, hp, hle, hG, ⟨(Array.getElem?_eq_some_iff.1 hg).1, fun hr => hz g rfl (hl ▸ hr)⟩, hg, fun i x hx => ?_⟩
    have hi := (List.getElem?_eq_some_iff.1 hx).1
    have := hown.cells (g := g) rfl i (pv x) (by rw [List.getElem?_map, hx]; rfl)
    simp [Addr.add] at this
    have e2 := cell_of_row W g i _ _ _ hg
    split at this
    · rename_i q
      subst q
      rw [e2] at this
      exact this
    · rw [e2] at this
      exact this
end

end Go.Proofs.YtifcdjmcoibblaaGreatDoor
