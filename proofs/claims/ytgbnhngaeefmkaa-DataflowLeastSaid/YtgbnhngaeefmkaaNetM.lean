import Derived.Test.YtgbnhngaeefmkaaNetA

/-! Networks in plain words: a network's flow, and what Set and Put do to it. -/
namespace Go.Proofs.Ytgbnhngaeefmkaa
set_option linter.unusedVariables false
set_option linter.unusedSimpArgs false

theorem chr_list (n : Nat) : (chr n).toList = [UInt8.ofNat n] := by
  unfold ByteArray.toList
  rw [ByteArray.toList.loop.eq_def]
  rw [if_pos (show 0 < (chr n).size from Nat.zero_lt_one), ByteArray.toList.loop.eq_def]
  rw [if_neg (show ¬ 0 + 1 < (chr n).size from Nat.lt_irrefl 1)]
  rfl
theorem chr_inj {a b : Nat} (ha : a < 256) (hb : b < 256) (h : chr a = chr b) : a = b := by
  have h2 : (chr a).toList = (chr b).toList := by rw [h]
  rw [chr_list, chr_list] at h2
  have h3 : (UInt8.ofNat a).toNat = (UInt8.ofNat b).toNat := by rw [(List.cons.inj h2).1]
  rw [UInt8.toNat_ofNat', UInt8.toNat_ofNat'] at h3
  omega
theorem chr_lt {a b : Nat} (ha : a < 256) (hb : b < 256) : ltB (chr a) (chr b) ↔ a < b := by
  unfold ltB
  rw [chr_list, chr_list]
  have : (UInt8.ofNat a < UInt8.ofNat b) ↔ a < b := by
    rw [UInt8.lt_iff_toNat_lt, UInt8.toNat_ofNat', UInt8.toNat_ofNat']; omega
  rw [List.cons_lt_cons_iff, this]
  constructor
  · rintro (h | ⟨_, h⟩)
    · exact h
    · exact absurd h (List.not_lt_nil [])
  · exact fun h => .inl h
theorem gName_inj {a b : Nat} (ha : a < 100) (hb : b < 100) (h : gName a = gName b) : a = b := by
  have := chr_inj (a := 97 + a) (b := 97 + b) (by omega) (by omega) h; omega
theorem gName_lt {a b : Nat} (ha : a < 100) (hb : b < 100) : ltB (gName a) (gName b) ↔ a < b := by
  unfold gName
  rw [chr_lt (by omega) (by omega)]; omega
theorem gName_ne (a : Nat) : (gName a).toList.isEmpty = false := by unfold gName; rw [chr_list]; rfl
theorem dig_inj {a b : Nat} (ha : a < 100) (hb : b < 100) (h : dig a = dig b) : a = b := by
  have := chr_inj (a := 48 + a) (b := 48 + b) (by omega) (by omega) h; omega

/-- the state of a network: values, and who is stale -/
structure NS where
  vals : Nat → Nat
  st : Nat → Bool

/-- what x reads: an input nothing -/
def rdL (gs : List GateV) (x : Nat) : List Nat := if 4 ≤ x then (match gs[x - 4]? with | some g => gIx (x - 4) g | none => []) else []
theorem rdL_lt {gs : List GateV} {x y : Nat} (h : y ∈ rdL gs x) : y < x := by
  unfold rdL at h
  split at h
  · split at h
    · have := gIx_lt _ _ _ h; omega
    · cases h
  · cases h
theorem rdL_in (gs : List GateV) {x : Nat} (h : x < 4) : rdL gs x = [] := by unfold rdL; rw [if_neg (by omega)]
theorem rdL_node {gs : List GateV} {i : Nat} {g : GateV} (h : gs[i]? = some g) : rdL gs (4 + i) = gIx i g := by
  unfold rdL; rw [if_pos (by omega), show 4 + i - 4 = i from by omega, h]

def netE (gs : List GateV) (S : NS) (j : Nat) : En := ⟨gName j, dig (S.vals j), decide (4 ≤ j), decide (4 ≤ j) && S.st j, sortU ((rdL gs j).map gName)⟩
def netF (gs : List GateV) (n : Nat) (S : NS) : List En := (List.range n).map (netE gs S)
theorem netF_len (gs : List GateV) (n : Nat) (S : NS) : (netF gs n S).length = n := by simp [netF]
theorem netF_succ (gs : List GateV) (n : Nat) (S : NS) : netF gs (n + 1) S = netF gs n S ++ [netE gs S n] := by unfold netF; rw [List.range_succ, List.map_append]; rfl
theorem mem_netF {gs : List GateV} {n : Nat} {S : NS} {e : En} : e ∈ netF gs n S ↔ ∃ j, j < n ∧ e = netE gs S j := by
  unfold netF
  rw [List.mem_map]
  constructor
  · rintro ⟨j, hj, rfl⟩; exact ⟨j, List.mem_range.1 hj, rfl⟩
  · rintro ⟨j, hj, rfl⟩; exact ⟨j, List.mem_range.2 hj, rfl⟩

theorem netF_sorted (gs : List GateV) {n : Nat} (hn : n ≤ 100) (S : NS) : SortedF (netF gs n S) := by
  unfold SortedF netF
  rw [List.pairwise_map]
  refine List.Pairwise.imp_of_mem ?_ List.pairwise_lt_range
  intro a b ha hb hlt
  have h1 := List.mem_range.1 ha
  have h2 := List.mem_range.1 hb
  exact (gName_lt (by omega) (by omega)).2 hlt

theorem at_net (gs : List GateV) {n : Nat} (hn : n ≤ 100) (S : NS) {j : Nat} (hj : j < n) : atF (netF gs n S) (gName j) = some (netE gs S j) :=
  atF_mem (netF_sorted gs hn S) (mem_netF.2 ⟨j, hj, rfl⟩)
theorem at_net_none (gs : List GateV) {n : Nat} (S : NS) {j : Nat} (hj : n ≤ j) (h100 : j < 100) : atF (netF gs n S) (gName j) = none := by
  rcases h : atF (netF gs n S) (gName j) with _ | e
  · rfl
  · obtain ⟨h1, h2⟩ := atF_some h
    obtain ⟨i, hi, rfl⟩ := mem_netF.1 h1
    have := gName_inj (a := i) (b := j) (by omega) h100 h2
    omega

theorem ins_end : ∀ (F : List En) (x : En), (∀ e ∈ F, ¬ ltB x.nm e.nm) → insF x F = F ++ [x]
  | [], x, _ => rfl
  | e :: r, x, h => by
    unfold insF
    rw [if_neg (h e (by simp)), ins_end r x (fun e he => h e (by simp [he]))]; rfl

theorem ins_net (gs : List GateV) {n : Nat} (hn : n < 100) (S : NS) : insF (netE gs S n) (netF gs n S) = netF gs (n + 1) S := by
  rw [ins_end, netF_succ]
  intro e he
  obtain ⟨i, hi, rfl⟩ := mem_netF.1 he
  show ¬ ltB (gName n) (gName i)
  rw [gName_lt hn (by omega)]; omega

/-- two states that agree on the names give the same flow -/
theorem netF_ext (gs : List GateV) (n : Nat) {S S' : NS} (h : ∀ j, j < n → S.vals j = S'.vals j ∧ S.st j = S'.st j) : netF gs n S = netF gs n S' := by
  unfold netF
  refine List.map_congr_left fun j hj => ?_
  obtain ⟨h1, h2⟩ := h j (List.mem_range.1 hj)
  unfold netE; rw [h1, h2]

/-- what reads a name -/
theorem hasR_net (gs : List GateV) (S : NS) {x y : Nat} (hx : x < 100) (hy : y < 100) : hasR (netE gs S x) (gName y) = decide (y ∈ rdL gs x) := by
  rw [Bool.eq_iff_iff, hasR_iff, decide_eq_true_eq]
  show gName y ∈ sortU ((rdL gs x).map gName) ↔ _
  rw [mem_sortU, List.mem_map]
  constructor
  · rintro ⟨z, hz, e⟩
    have := rdL_lt hz
    rw [← gName_inj (by omega) hy e]; exact hz
  · exact fun h => ⟨y, h, rfl⟩

def updN {α : Type} (f : Nat → α) (j : Nat) (v : α) : Nat → α := fun k => if k = j then v else f k
theorem updN_self {α : Type} (f : Nat → α) (j : Nat) (v : α) : updN f j v j = v := by simp [updN]
theorem updN_ne {α : Type} (f : Nat → α) {j k : Nat} (v : α) (h : k ≠ j) : updN f j v k = f k := by simp [updN, h]

/-- a value is set: those that read it are stale -/
def chgS (gs : List GateV) (S : NS) (j v : Nat) : NS := if S.vals j = v then S else ⟨updN S.vals j v, fun k => S.st k || decide (j ∈ rdL gs k)⟩
/-- a node is computed -/
def putS (gs : List GateV) (S : NS) (j v : Nat) : NS := chgS gs ⟨S.vals, updN S.st j false⟩ j v

theorem chg_net (gs : List GateV) {n : Nat} (hn : n ≤ 100) (S : NS) {j v : Nat} (hj : j < n) (hv : v < 8) (hs : S.vals j < 8) : chgF (netF gs n S) (gName j) (dig v) = netF gs n (chgS gs S j v) := by
  unfold chgF
  rw [at_net gs hn S hj]
  show (if dig (S.vals j) = dig v then netF gs n S else _) = _
  unfold chgS
  by_cases h : S.vals j = v
  · rw [if_pos h, if_pos (by rw [h])]
  · rw [if_neg h, if_neg (fun e => h (dig_inj (by omega) (by omega) e))]
    unfold markF updF netF
    rw [List.map_map, List.map_map]
    refine List.map_congr_left fun k hk => ?_
    have hkn := List.mem_range.1 hk
    have hh := hasR_net gs S (x := k) (y := j) (by omega) (by omega)
    have hnm : ((netE gs S k).nm = gName j) ↔ k = j := ⟨fun e => gName_inj (by omega) (by omega) e, fun e => by rw [e]; rfl⟩
    simp only [Function.comp_apply]
    by_cases hkj : k = j
    · rw [if_pos (hnm.2 hkj)]
      have hnot : ¬ j ∈ rdL gs k := fun hm => by have := rdL_lt hm; omega
      have h1 : hasR { netE gs S k with val := dig v } (gName j) = false := by
        have : hasR { netE gs S k with val := dig v } (gName j) = hasR (netE gs S k) (gName j) := rfl
        rw [this, hh]; exact decide_eq_false hnot
      rw [if_neg (by rw [h1]; simp)]
      unfold netE
      simp only [updN, hkj, if_true, decide_eq_false (hkj ▸ hnot : ¬ j ∈ rdL gs j), Bool.or_false]
    · rw [if_neg (fun e => hkj (hnm.1 e)), hh]
      by_cases hm : j ∈ rdL gs k
      · rw [if_pos (decide_eq_true hm)]
        have h4 : 4 ≤ k := by
          rcases Nat.lt_or_ge k 4 with q | q
          · rw [rdL_in gs q] at hm; cases hm
          · exact q
        unfold netE
        simp [updN, hkj, hm, h4]
      · rw [if_neg (by simp [hm])]
        unfold netE
        simp [updN, hkj, hm]

end Go.Proofs.Ytgbnhngaeefmkaa

/-! Networks in plain words: Set, Put, Value and Stale on a network's flow. -/
namespace Go.Proofs.Ytgbnhngaeefmkaa
set_option linter.unusedVariables false
set_option linter.unusedSimpArgs false

theorem rch_net {gs : List GateV} {n : Nat} (hn : n ≤ 100) {S : NS} {a b : ByteArray} (h : Rch (netF gs n S) a b) : ∀ x, x < 100 → a = gName x → ∃ z, z ≤ x ∧ b = gName z := by
  induction h with
  | refl a => exact fun x _ e => ⟨x, Nat.le_refl _, e⟩
  | @step a b r e h1 h2 _ ih =>
    intro x hx ea
    obtain ⟨h3, h4⟩ := atF_some h1
    obtain ⟨i, hi, rfl⟩ := mem_netF.1 h3
    have hix : i = x := gName_inj (by omega) hx (by rw [← ea, ← h4]; rfl)
    subst hix
    have h5 : r ∈ sortU ((rdL gs i).map gName) := h2
    rw [mem_sortU, List.mem_map] at h5
    obtain ⟨y, hy, rfl⟩ := h5
    have := rdL_lt hy
    obtain ⟨z, hz, q⟩ := ih y (by omega) rfl
    exact ⟨z, by omega, q⟩

/-- a node may read what comes before it -/
theorem rdOk_net (gs : List GateV) {n : Nat} (hn : n ≤ 100) (S : NS) {j y : Nat} (hj : j < 100) (hyj : y < j) (hy : y < n) (hs : 4 ≤ y → S.st y = false) : rdOk (netF gs n S) (gName j) (gName y) = true := by
  unfold rdOk
  rw [at_net gs hn S hy]
  show (!(decide (4 ≤ y) && S.st y) && !rchB (netF gs n S) (netF gs n S).length (gName y) (gName j)) = true
  have h1 : (decide (4 ≤ y) && S.st y) = false := by
    by_cases h : 4 ≤ y
    · rw [hs h]; simp
    · simp [h]
  have h2 : rchB (netF gs n S) (netF gs n S).length (gName y) (gName j) = false := by
    rcases h : rchB (netF gs n S) (netF gs n S).length (gName y) (gName j) with _ | _
    · rfl
    · obtain ⟨z, hz, e⟩ := rch_net hn (rchB_sound _ _ _ h) y (by omega) rfl
      have := gName_inj hj (by omega) e
      omega
  rw [h1, h2]; rfl

theorem resOk_net (gs : List GateV) {n : Nat} (hn : n ≤ 100) (S : NS) {j : Nat} (hj : j < 100) (hjn : j ≤ n) (hs : ∀ y ∈ rdL gs j, 4 ≤ y → S.st y = false) : resOk (netF gs n S) (gName j) ((rdL gs j).map gName) = true := by
  unfold resOk
  rw [List.all_eq_true]
  intro r hr
  obtain ⟨y, hy, rfl⟩ := List.mem_map.1 hr
  have := rdL_lt hy
  exact rdOk_net gs hn S hj this (by omega) (hs y hy)

theorem setnet_new (gs : List GateV) {j : Nat} (hj : j < 4) (S : NS) : setOk (netF gs j S) (gName j) = true ∧ setF (netF gs j S) (gName j) (dig (S.vals j)) = netF gs (j + 1) S := by
  have hn := at_net_none gs (n := j) S (Nat.le_refl j) (by omega)
  have hok : setOk (netF gs j S) (gName j) = true := by unfold setOk; rw [hn, gName_ne]; rfl
  refine ⟨hok, ?_⟩
  unfold setF
  rw [if_pos hok, hn]
  have e : (⟨gName j, dig (S.vals j), false, false, []⟩ : En) = netE gs S j := by
    unfold netE
    rw [rdL_in gs hj, decide_eq_false (show ¬ 4 ≤ j from by omega)]; rfl
  show insF _ _ = _
  rw [e, ins_net gs (by omega)]

theorem set_net (gs : List GateV) {n : Nat} (hn : n ≤ 100) (S : NS) {j v : Nat} (hj : j < 4) (hjn : j < n) (hv : v < 8) (hs : S.vals j < 8) : setOk (netF gs n S) (gName j) = true ∧ setF (netF gs n S) (gName j) (dig v) = netF gs n (chgS gs S j v) := by
  have ha := at_net gs hn S hjn
  have hok : setOk (netF gs n S) (gName j) = true := by
    unfold setOk; rw [ha, gName_ne]
    show (true && !(decide (4 ≤ j))) = true
    rw [decide_eq_false (by omega)]; rfl
  refine ⟨hok, ?_⟩
  unfold setF
  rw [if_pos hok, ha]
  exact chg_net gs hn S hjn hv hs

theorem putnet_new (gs : List GateV) {n : Nat} (hn : n < 100) (h4 : 4 ≤ n) (S : NS) (hst : S.st n = false) (hs : ∀ y ∈ rdL gs n, 4 ≤ y → S.st y = false) :
    putOk (netF gs n S) (gName n) ((rdL gs n).map gName) = true ∧ putF (netF gs n S) (gName n) ((rdL gs n).map gName) (dig (S.vals n)) = netF gs (n + 1) S := by
  have ha := at_net_none gs (n := n) S (Nat.le_refl n) hn
  have hok : putOk (netF gs n S) (gName n) ((rdL gs n).map gName) = true := by
    unfold putOk
    rw [ha, gName_ne, resOk_net gs (by omega) S hn (Nat.le_refl n) hs]; rfl
  refine ⟨hok, ?_⟩
  unfold putF
  rw [if_pos hok, ha]
  have e : (⟨gName n, dig (S.vals n), true, false, sortU ((rdL gs n).map gName)⟩ : En) = netE gs S n := by
    unfold netE
    rw [hst, decide_eq_true h4]; rfl
  show insF _ _ = _
  rw [e, ins_net gs hn]

theorem put_net (gs : List GateV) {n : Nat} (hn : n ≤ 100) (S : NS) {j v : Nat} (h4 : 4 ≤ j) (hjn : j < n) (hv : v < 8) (hs8 : S.vals j < 8) (hs : ∀ y ∈ rdL gs j, 4 ≤ y → S.st y = false) :
    putOk (netF gs n S) (gName j) ((rdL gs j).map gName) = true ∧ putF (netF gs n S) (gName j) ((rdL gs j).map gName) (dig v) = netF gs n (putS gs S j v) := by
  have ha := at_net gs hn S hjn
  have hok : putOk (netF gs n S) (gName j) ((rdL gs j).map gName) = true := by
    unfold putOk
    rw [ha, gName_ne, resOk_net gs hn S (by omega) (by omega) hs]
    show (true && decide (4 ≤ j) && true) = true
    rw [decide_eq_true h4]; rfl
  refine ⟨hok, ?_⟩
  unfold putF
  rw [if_pos hok, ha]
  have e : updF (netF gs n S) (gName j) (fun e => { e with rds := sortU ((rdL gs j).map gName), stale := false }) = netF gs n ⟨S.vals, updN S.st j false⟩ := by
    unfold updF netF
    rw [List.map_map]
    refine List.map_congr_left fun k hk => ?_
    have hkn := List.mem_range.1 hk
    simp only [Function.comp_apply]
    by_cases hkj : k = j
    · rw [if_pos (show (netE gs S k).nm = gName j by rw [hkj]; rfl)]
      unfold netE
      simp [updN, hkj]
    · rw [if_neg (show ¬ (netE gs S k).nm = gName j from fun q => hkj (gName_inj (by omega) (by omega) q))]
      unfold netE
      simp [updN, hkj]
  show chgF _ _ _ = _
  rw [e, chg_net gs hn ⟨S.vals, updN S.st j false⟩ hjn hv hs8]; rfl

theorem val_net (gs : List GateV) {n : Nat} (hn : n ≤ 100) (S : NS) {j : Nat} (hj : j < n) (hs : 4 ≤ j → S.st j = false) : valF (netF gs n S) (gName j) = (dig (S.vals j), true) := by
  unfold valF
  rw [at_net gs hn S hj]
  show (if (decide (4 ≤ j) && S.st j) = true then _ else _) = _
  have h1 : (decide (4 ≤ j) && S.st j) = false := by
    by_cases h : 4 ≤ j
    · rw [hs h]; simp
    · simp [h]
  rw [h1]; rfl

/-! what is stale -/
theorem good_net (gs : List GateV) {n : Nat} (hn : n ≤ 100) (S : NS) : Good (netF gs n S) := by
  refine ⟨netF_sorted gs hn S, fun e he r hr => ?_, ⟨fun b => (b.toList.map UInt8.toNat).sum, fun e he r hr => ?_⟩, fun e he => ?_, fun e he hnd => ?_⟩
  · obtain ⟨j, hj, rfl⟩ := mem_netF.1 he
    have hr' : r ∈ sortU ((rdL gs j).map gName) := hr
    rw [mem_sortU, List.mem_map] at hr'
    obtain ⟨y, hy, rfl⟩ := hr'
    have := rdL_lt hy
    exact ⟨_, mem_netF.2 ⟨y, by omega, rfl⟩, rfl⟩
  · obtain ⟨j, hj, rfl⟩ := mem_netF.1 he
    have hr' : r ∈ sortU ((rdL gs j).map gName) := hr
    rw [mem_sortU, List.mem_map] at hr'
    obtain ⟨y, hy, rfl⟩ := hr'
    have := rdL_lt hy
    have hq : ∀ x, x < 100 → ((gName x).toList.map UInt8.toNat).sum = 97 + x := fun x hx => by
      unfold gName; rw [chr_list]; simp; omega
    show ((gName y).toList.map UInt8.toNat).sum < ((gName j).toList.map UInt8.toNat).sum
    rw [hq y (by omega), hq j (by omega)]; omega
  · obtain ⟨j, hj, rfl⟩ := mem_netF.1 he
    exact sortU_sorted _
  · obtain ⟨j, hj, rfl⟩ := mem_netF.1 he
    have h4 : ¬ 4 ≤ j := of_decide_eq_false hnd
    refine ⟨?_, ?_⟩
    · show sortU ((rdL gs j).map gName) = []
      rw [rdL_in gs (by omega)]; rfl
    · show (decide (4 ≤ j) && S.st j) = false
      simp [h4]

/-- the depth of a name: what it reads is less deep -/
def dN (gs : List GateV) (n x : Nat) : Nat := depth (netF gs n ⟨fun _ => 0, fun _ => false⟩) (gName x)

theorem depF_net (gs : List GateV) {n : Nat} (hn : n ≤ 100) (S S' : NS) : ∀ (k : Nat) (b : ByteArray), depF (netF gs n S) k b = depF (netF gs n S') k b
  | 0, _ => rfl
  | k + 1, b => by
    have ih := depF_net gs hn S S' k
    have hf : depF (netF gs n S) k = depF (netF gs n S') k := funext ih
    unfold depF
    rcases h : atF (netF gs n S) b with _ | e
    · rcases h' : atF (netF gs n S') b with _ | e'
      · rfl
      · obtain ⟨h1, h2⟩ := atF_some h'
        obtain ⟨j, hj, rfl⟩ := mem_netF.1 h1
        have h2' : gName j = b := h2
        rw [← h2', at_net gs hn S hj] at h; cases h
    · obtain ⟨h1, h2⟩ := atF_some h
      obtain ⟨j, hj, rfl⟩ := mem_netF.1 h1
      have h2' : gName j = b := h2
      subst h2'
      rw [at_net gs hn S' hj]
      show (if decide (4 ≤ j) = true then maxL ((sortU ((rdL gs j).map gName)).map (depF (netF gs n S) k)) + 1 else 0) = (if decide (4 ≤ j) = true then maxL ((sortU ((rdL gs j).map gName)).map (depF (netF gs n S') k)) + 1 else 0)
      rw [hf]
theorem depth_net (gs : List GateV) {n : Nat} (hn : n ≤ 100) (S : NS) (x : Nat) : depth (netF gs n S) (gName x) = dN gs n x := by
  unfold dN depth
  rw [netF_len, netF_len]
  exact depF_net gs hn _ _ _ _

theorem maxL_ge : ∀ {l : List Nat} {x : Nat}, x ∈ l → x ≤ maxL l := by
  have key : ∀ (l : List Nat) (a x : Nat), (x ≤ a ∨ x ∈ l) → x ≤ l.foldl max a := by
    intro l
    induction l with
    | nil => intro a x h; rcases h with h | h
             · exact h
             · cases h
    | cons y l ih =>
      intro a x h
      refine ih _ x ?_
      rcases h with h | h
      · exact .inl (by omega)
      · rcases List.mem_cons.1 h with rfl | h
        · exact .inl (by omega)
        · exact .inr h
  intro l x h
  exact key l 0 x (.inr h)

theorem dN_lt (gs : List GateV) {n : Nat} (hn : n ≤ 100) {x y : Nat} (hx : x < n) (hy : y ∈ rdL gs x) : dN gs n y < dN gs n x := by
  have hG := good_net gs hn ⟨fun _ => 0, fun _ => false⟩
  obtain ⟨rk, hk, hl⟩ := hG.rank
  have h4 : 4 ≤ x := by
    rcases Nat.lt_or_ge x 4 with q | q
    · rw [rdL_in gs q] at hy; cases hy
    · exact q
  have he := dp_eq hk (at_net gs hn ⟨fun _ => 0, fun _ => false⟩ hx)
  unfold dN
  rw [← hG.depth hk hl, ← hG.depth hk hl, he]
  show _ < (if decide (4 ≤ x) = true then _ else _)
  rw [if_pos (decide_eq_true h4)]
  refine Nat.lt_succ_of_le (maxL_ge ?_)
  refine List.mem_map.2 ⟨gName y, ?_, rfl⟩
  show gName y ∈ sortU ((rdL gs x).map gName)
  rw [mem_sortU]; exact List.mem_map.2 ⟨y, hy, rfl⟩

/-- the order of the stale names -/
def ltN (gs : List GateV) (n x y : Nat) : Prop := dN gs n x < dN gs n y ∨ (dN gs n x = dN gs n y ∧ x < y)

theorem stale_net (gs : List GateV) {n : Nat} (hn : n ≤ 100) (S : NS) : ∃ xs : List Nat, staleF (netF gs n S) = xs.map gName ∧ (∀ x, x ∈ xs ↔ 4 ≤ x ∧ x < n ∧ S.st x = true) ∧ xs.Pairwise (ltN gs n) := by
  have hmem : ∀ b ∈ staleF (netF gs n S), ∃ x, 4 ≤ x ∧ x < n ∧ S.st x = true ∧ b = gName x := fun b hb => by
    obtain ⟨e, he, hs, rfl⟩ := mem_staleF.1 hb
    obtain ⟨j, hj, rfl⟩ := mem_netF.1 he
    have hs' : (decide (4 ≤ j) && S.st j) = true := hs
    rw [Bool.and_eq_true, decide_eq_true_eq] at hs'
    exact ⟨j, hs'.1, hj, hs'.2, rfl⟩
  have hex : ∀ (l : List ByteArray), (∀ b ∈ l, ∃ x, 4 ≤ x ∧ x < n ∧ S.st x = true ∧ b = gName x) → ∃ xs : List Nat, l = xs.map gName ∧ ∀ x ∈ xs, 4 ≤ x ∧ x < n ∧ S.st x = true := by
    intro l
    induction l with
    | nil => exact fun _ => ⟨[], rfl, fun x hx => by cases hx⟩
    | cons b l ih =>
      intro h
      obtain ⟨x, h1, h2, h3, rfl⟩ := h b (by simp)
      obtain ⟨xs, rfl, q⟩ := ih (fun b hb => h b (by simp [hb]))
      exact ⟨x :: xs, rfl, fun y hy => by
        rcases List.mem_cons.1 hy with rfl | hy
        · exact ⟨h1, h2, h3⟩
        · exact q y hy⟩
  obtain ⟨xs, he, hx⟩ := hex _ hmem
  refine ⟨xs, he, fun x => ⟨hx x, fun ⟨h1, h2, h3⟩ => ?_⟩, ?_⟩
  · have : gName x ∈ staleF (netF gs n S) := mem_staleF.2 ⟨netE gs S x, mem_netF.2 ⟨x, h2, rfl⟩, by show (decide (4 ≤ x) && S.st x) = true; rw [h3]; simp [h1], rfl⟩
    rw [he] at this
    obtain ⟨y, hy, e⟩ := List.mem_map.1 this
    have := (hx y hy).2.1
    rw [← gName_inj (by omega) (by omega) e]; exact hy
  · have hp := staleF_sorted (netF_sorted gs hn S)
    rw [he, List.pairwise_map] at hp
    refine List.Pairwise.imp_of_mem ?_ hp
    intro a b ha hb h
    have h1 := (hx a ha).2.1
    have h2 := (hx b hb).2.1
    unfold ltD at h
    rw [depth_net gs hn, depth_net gs hn, gName_lt (by omega) (by omega)] at h
    exact h

end Go.Proofs.Ytgbnhngaeefmkaa
