import Derived.Test.YtgbnhngaeefmkaaPlR

/-! Networks: a byte as a string; gate. -/
namespace Go.Proofs.Ytgbnhngaeefmkaa
set_option linter.unusedVariables false
set_option linter.unusedSimpArgs false
open Go.RowKit

def chr (n : Nat) : ByteArray := ⟨#[UInt8.ofNat n]⟩

set_option maxRecDepth 100000 in
theorem conv_chr (W : World) (n : Nat) (hn : n < 256) (k : Nat) (hk : k = W.heap.size) :
    (convert 36 9 (.slice (some ⟨k, 0, none⟩) 1 1)).run Try.prog (W.alloc (.cells #[.int .u8 n] 5)) = .ok (.string (chr n)) (W.alloc (.cells #[.int .u8 n] 5)) := by
  subst hk
  have hu : (UInt8.ofNat n).toNat = n := by simp; omega
  exact run_convert_bytes_back (P := Try.prog) (W.alloc (.cells #[.int .u8 n] 5)) 36 9 5 ⟨W.heap.size, 0, none⟩ 1 [UInt8.ofNat n] (by rfl) (by rfl) (by rfl) (fun j hj => by
    match j, hj with
    | 0, _ => exact (cell_box W #[.int .u8 n] 5 0 _ rfl _ rfl).trans (by simp [hu]))

def gName (i : Nat) : ByteArray := chr (97 + i)

set_option maxRecDepth 100000 in
theorem gate_at (i : Nat) (hi : i < 100) (W : World) : Calls Try.prog 30 #[.int .i64 i] W fun e w' => e = .returned (.string (gName i)) ∧ w' = W.alloc (.cells #[.int .u8 (97 + (i : Int))] 5) := by
  have hc := conv_chr W (97 + i) (by omega) _ rfl
  have ec : ((97 + i : Nat) : Int) = 97 + (i : Int) := by omega
  rw [ec] at hc
  clear ec
  go_enter Try.func30, Try.ntmps30
  go_wp2
  go_ret
  exact ⟨rfl, rfl⟩
theorem gate_any (i : Nat) (hi : i < 100) (W : World) : Calls Try.prog 30 #[.int .i64 i] W fun e w' => e = .returned (.string (gName i)) ∧ Below W.heap.size W w' :=
  (gate_at i hi W).mono fun e w' ⟨h1, h2⟩ => ⟨h1, by rw [h2]; exact (Below.refl _ W).alloc (Nat.le_refl _) _⟩

end Go.Proofs.Ytgbnhngaeefmkaa

/-! Networks: worth. -/
namespace Go.Proofs.Ytgbnhngaeefmkaa
set_option linter.unusedVariables false
set_option linter.unusedSimpArgs false
open Go.RowKit

def dig (n : Nat) : ByteArray := chr (48 + n)
def lsum (ns : List Nat) : Nat := ns.foldl (· + ·) 0
def lmax (ns : List Nat) : Nat := ns.foldl max 0
/-- worth -/
def wN (kind : Int) (ns : List Nat) : Nat :=
  if pickZ kind 4 = 1 then lmax ns else if pickZ kind 4 = 2 then lsum ns % 2 else if pickZ kind 4 = 3 then 5 else lsum ns % 8
theorem lsum_snoc (l : List Nat) (x : Nat) : lsum (l ++ [x]) = lsum l + x := by simp [lsum, List.foldl_append]
theorem lmax_snoc (l : List Nat) (x : Nat) : lmax (l ++ [x]) = max (lmax l) x := by simp [lmax, List.foldl_append]
theorem lmax_lt (l : List Nat) (h : ∀ n ∈ l, n < 8) : lmax l < 8 := by
  have : ∀ (l : List Nat) (a : Nat), a < 8 → (∀ n ∈ l, n < 8) → l.foldl max a < 8 := by
    intro l
    induction l with
    | nil => intro a ha _; exact ha
    | cons y l ih => intro a ha h; exact ih _ (by have := h y (by simp); omega) (fun n hn => h n (by simp [hn]))
  exact this l 0 (by omega) h
theorem lsum_lt (l : List Nat) (h : ∀ n ∈ l, n < 8) : lsum l ≤ 8 * l.length := by
  have : ∀ (l : List Nat) (a : Nat), (∀ n ∈ l, n < 8) → l.foldl (· + ·) a ≤ a + 8 * l.length := by
    intro l
    induction l with
    | nil => intro a _; simp
    | cons y l ih => intro a h; have h1 := ih (a + y) (fun n hn => h n (by simp [hn])); have := h y (by simp); simp only [List.foldl_cons, List.length_cons]; omega
  have q := this l 0 h
  unfold lsum; omega
theorem wN_lt (kind : Int) (ns : List Nat) (h : ∀ n ∈ ns, n < 8) : wN kind ns < 8 := by
  unfold wN
  have := lmax_lt ns h
  split
  · exact this
  · split
    · omega
    · split <;> omega

set_option maxRecDepth 100000 in
set_option maxHeartbeats 1000000 in
theorem worth_any (kind : Int) (ao : Option Addr) (ln cap : Nat) (ns : List Nat) (W : World) (hln : ns.length = ln) (hn : ln ≤ 1000000) (h1 : -9223372036854775808 ≤ kind) (h2 : kind ≤ 9223372036854775807) (h8 : ∀ n ∈ ns, n < 8) (hrow : RowK 1 encT W ao (ns.map dig)) :
    Calls Try.prog 54 #[.int .i64 kind, .slice ao ln cap] W fun e w' => e = .returned (.string (dig (wN kind ns))) ∧ Below W.heap.size W w' := by
  have PK := Lib.hid (fun w => pick_any kind 4 w h1 h2 (by omega) (by omega))
  have HL := Lib.hid hln
  have HR := Lib.hid hrow
  have H8 := Lib.hid h8
  clear hln hrow h8
  have hb0 : ∀ j n : Nat, n < 8 → (dig n).size = 1 := fun j n h => rfl
  go_enter Try.func54, Try.ntmps54
  go_wp2
  go_loopw [5, 6, 7] (fun s m i wr => ∃ (k : Nat), k ≤ ln ∧ i = .int .i64 k ∧ s = .int .i64 (lsum (ns.take k)) ∧ m = .int .i64 (lmax (ns.take k)) ∧ Below W.heap.size W wr) (fun s m i _ => ln - (intOf i).toNat)
  case atStart => exact ⟨0, by omega, rfl, by simp [lsum], by simp [lmax], Below.refl _ W⟩
  case round =>
    obtain ⟨k, hk, rfl, rfl, rfl, hlow⟩ := hrel
    have k0 : (0 : Int) ≤ (k : Int) := by omega
    by_cases hlt : k < ln
    · have k1 : (k : Int) < (ln : Int) := by omega
      have hkn : k < ns.length := by rw [HL.out]; exact hlt
      obtain ⟨b0, off, rfl, hlb, hce⟩ := HR.out k (dig ns[k]) (by rw [List.getElem?_map, List.getElem?_eq_getElem hkn]; rfl)
      have hc0 := hce 0 _ rfl
      rw [Nat.mul_one, Nat.add_zero] at hc0
      have cz : wr.cell? ⟨b0, off + k, none⟩ = some (.string (dig ns[k])) := by rw [hlow.cell (p := ⟨b0, off + k, none⟩) hlb]; exact hc0
      have hn8 := H8.out ns[k] (List.getElem_mem hkn)
      have hsz : (dig ns[k]).size = 1 := rfl
      clear hce hc0
      obtain ⟨n, hnn⟩ : ∃ n, ns[k] = n := ⟨_, rfl⟩
      rw [hnn] at cz hsz hn8
      go_wp2
      have hd : ((dig n)[0].toNat : Int) = 48 + (n : Int) := by
        have : (dig n)[0] = UInt8.ofNat (48 + n) := rfl
        rw [this, UInt8.toNat_ofNat']; omega
      have hs8 := lsum_lt (ns.take k) (fun m hm => H8.out m (List.mem_of_mem_take hm))
      rw [List.length_take] at hs8
      have hT : ns.take (k + 1) = ns.take k ++ [n] := by rw [List.take_succ_eq_append_getElem hkn, hnn]
      have hmod : (48 + (n : Int) - 48) % 256 = n := by omega
      refine ⟨⟨k + 1, by omega, by go_num, ?_, ?_, hlow⟩, by simp [intOf]; omega⟩
      · rw [hd, hmod, hT, lsum_snoc]; congr 1; unfold wrap64; omega
      · rw [hd, hmod, hT, lmax_snoc]; congr 1; omega
    · have k1 : ¬ (k : Int) < (ln : Int) := by omega
      have hT : ns.take k = ns := List.take_of_length_le (by rw [HL.out]; omega)
      have hs8 := lsum_lt ns H8.out
      have hm8 := lmax_lt ns H8.out
      rw [HL.out] at hs8
      rw [hT]
      have HW : Hid (wN kind ns = if pickZ kind 4 = 1 then lmax ns else if pickZ kind 4 = 2 then lsum ns % 2 else if pickZ kind 4 = 3 then 5 else lsum ns % 8) := Lib.hid rfl
      obtain ⟨S, hS⟩ : ∃ S, lsum ns = S := ⟨_, rfl⟩
      obtain ⟨M, hM⟩ : ∃ M, lmax ns = M := ⟨_, rfl⟩
      rw [hS] at hs8 HW
      rw [hM] at hm8 HW
      rw [hS, hM]
      obtain ⟨p, hp, hpe⟩ := pickZ_nat kind 4 (by omega)
      rw [show ((4 : Nat) : Int) = 4 from rfl] at hpe
      rw [hpe] at HW PK
      have s0 : (0 : Int) ≤ (S : Int) := by omega
      have m0 : (0 : Int) ≤ (M : Int) := by omega
      have c1 := conv_chr wr (48 + M) (by omega) _ rfl
      have c2 := conv_chr wr (48 + S % 2) (by omega) _ rfl
      have c3 := conv_chr wr 53 (by omega) _ rfl
      have c0 := conv_chr wr (48 + S % 8) (by omega) _ rfl
      rw [show ((48 + M : Nat) : Int) = 48 + (M : Int) from by omega] at c1
      rw [show ((48 + S % 2 : Nat) : Int) = 48 + (S : Int) % 2 from by omega] at c2
      rw [show ((48 + S % 8 : Nat) : Int) = 48 + (S : Int) % 8 from by omega] at c0
      rw [show ((53 : Nat) : Int) = 53 from rfl] at c3
      have hl : ∀ x, Below W.heap.size W (wr.alloc (.cells #[.int .u8 x] 5)) := fun x => hlow.alloc hlow.size _
      have PP := PK
      clear PK hpe hT hS hM
      match p, hp with
      | 0, _ =>
        go_wp2_with (first | (refine (PP.out _).mono ?_; rintro e w' ⟨rfl, rfl⟩))
        go_ret
        exact ⟨by have q := HW.out; simp at q; rw [q]; rfl, hl _⟩
      | 1, _ =>
        go_wp2_with (first | (refine (PP.out _).mono ?_; rintro e w' ⟨rfl, rfl⟩))
        go_ret
        exact ⟨by have q := HW.out; simp at q; rw [q]; rfl, hl _⟩
      | 2, _ =>
        go_wp2_with (first | (refine (PP.out _).mono ?_; rintro e w' ⟨rfl, rfl⟩))
        go_ret
        exact ⟨by have q := HW.out; simp at q; rw [q]; rfl, hl _⟩
      | 3, _ =>
        go_wp2_with (first | (refine (PP.out _).mono ?_; rintro e w' ⟨rfl, rfl⟩))
        go_ret
        exact ⟨by have q := HW.out; simp at q; rw [q]; rfl, hl _⟩

end Go.Proofs.Ytgbnhngaeefmkaa

/-! Networks: network. -/
namespace Go.Proofs.Ytgbnhngaeefmkaa
set_option linter.unusedVariables false
set_option linter.unusedSimpArgs false
open Go.RowKit

structure GateV where
  ao : Option Addr
  ln : Nat
  cap : Nat
  zs : List Int
  kind : Int
def encGate (g : GateV) : List Value := [.slice g.ao g.ln g.cap, .int .i64 g.kind]
structure GateOk (w : World) (g : GateV) : Prop where
  len : g.zs.length = g.ln
  big : g.ln ≤ 9223372036854775807
  row : RowK 1 encI w g.ao g.zs
  k : I64 g.kind
  z : ∀ z ∈ g.zs, I64 z
theorem GateOk.later {w w' : World} {g : GateV} (h : GateOk w g) (hb : Below w.heap.size w w') : GateOk w' g := ⟨h.len, h.big, h.row.later hb, h.k, h.z⟩

/-- a node as it lies -/
structure NodeV where
  name : ByteArray
  ao : Option Addr
  ln : Nat
  cap : Nat
  reads : List ByteArray
def encN (n : NodeV) : List Value := [.string n.name, .slice n.ao n.ln n.cap]
theorem encN_len (n : NodeV) : (encN n).length = 2 := rfl
theorem encN_one (n : NodeV) : ∀ u ∈ encN n, u.oneCell' = true := by intro u hu; simp [encN] at hu; rcases hu with rfl | rfl <;> rfl

/-- what the gate i reads -/
def gIx (i : Nat) (g : GateV) : List Nat := (g.zs.take 4).map fun z => (pickZ z ((4 + i : Nat) : Int)).toNat
def rdN (i m : Nat) (zs : List Int) : List ByteArray := (zs.take m).map fun z => gName (pickZ z ((4 + i : Nat) : Int)).toNat
theorem rdN_gIx (i : Nat) (g : GateV) : rdN i 4 g.zs = (gIx i g).map gName := by simp [rdN, gIx, List.map_map, Function.comp_def]

def NodeR (base : Nat) (w : World) (n : NodeV) : Prop := w.ownsRow base 9 1 (.slice n.ao n.ln n.cap) n.ln (n.reads.flatMap encT) ∧ n.reads.length = n.ln
structure NetR (base : Nat) (w : World) (gs : List GateV) (nvs : List NodeV) : Prop where
  all : ∀ j nv, nvs[j]? = some nv → ∃ g, gs[j]? = some g ∧ nv.name = gName (4 + j) ∧ nv.reads = (gIx j g).map gName ∧ NodeR base w nv

theorem NodeR.keep {base : Nat} {w w' : World} {n : NodeV} (h : NodeR base w n) (hk : ∀ (g : Nat) (cur : Array Value), w.heap[g]? = some (Obj.cells cur 9 (0, 0)) → w'.heap[g]? = w.heap[g]?) : NodeR base w' n := by
  refine ⟨?_, h.2⟩
  obtain ⟨h1, h2 | ⟨g, cap, cur, h3, h4, h5, h6⟩⟩ := h.1
  · exact ⟨h1, .inl h2⟩
  · exact ⟨h1, .inr ⟨g, cap, cur, h3, h4, (hk g cur h5).trans h5, h6⟩⟩
theorem NetR.keep {base : Nat} {w w' : World} {gs : List GateV} {nvs : List NodeV} (h : NetR base w gs nvs) (hk : ∀ (g : Nat) (cur : Array Value), w.heap[g]? = some (Obj.cells cur 9 (0, 0)) → w'.heap[g]? = w.heap[g]?) : NetR base w' gs nvs :=
  ⟨fun j nv hj => by obtain ⟨g, h1, h2, h3, h4⟩ := h.all j nv hj; exact ⟨g, h1, h2, h3, NodeR.keep h4 hk⟩⟩
theorem NetR.later {base : Nat} {w w' : World} {gs : List GateV} {nvs : List NodeV} (h : NetR base w gs nvs) (hb : Below w.heap.size w w') : NetR base w' gs nvs :=
  h.keep fun g cur hg => hb.block g (lt_of_blk hg)
theorem NetR.snoc {base : Nat} {w : World} {gs : List GateV} {nvs : List NodeV} {nv : NodeV} {g : GateV} (h : NetR base w gs nvs) (hg : gs[nvs.length]? = some g) (h1 : nv.name = gName (4 + nvs.length)) (h2 : nv.reads = (gIx nvs.length g).map gName) (h3 : NodeR base w nv) : NetR base w gs (nvs ++ [nv]) :=
  ⟨fun j x hj => by
    rcases Nat.lt_or_ge j nvs.length with hl | hl
    · rw [List.getElem?_append_left hl] at hj; exact h.all j x hj
    · rw [List.getElem?_append_right hl] at hj
      have hj0 : j = nvs.length := by
        have := (List.getElem?_eq_some_iff.1 hj).1
        simp at this; omega
      subst hj0
      simp at hj; subst hj
      exact ⟨g, hg, h1, h2, h3⟩⟩

/-- what network has laid since the round began -/
structure InM (w0 : World) (nb : Nat) (nm : ByteArray) (v : Value) (n : Nat) (l : List ByteArray) (w : World) : Prop where
  nod : w.heap[nb]? = some (.cells #[.string nm, v] 30 (0, 0))
  row : w.ownsRow w0.heap.size 9 1 v n (l.flatMap encT)
  low : Below w0.heap.size w0 w
  nbx : w0.heap.size ≤ nb

theorem InM.next {W wr X w4 : World} {nb : Nat} {nm : ByteArray} {v v' : Value} {k : Nat} {l : List ByteArray} {x : ByteArray} (h : InM W nb nm v k l wr) (hX : Below wr.heap.size wr X) (own' : w4.ownsRow W.heap.size 9 1 v' (k + 1) (l.flatMap encT ++ encT x)) (gr : X.grownBy w4 v.ownBlock) :
    (w4.cell? ⟨nb, 1, none⟩ = some v ∧ w4.frozen? ⟨nb, 1, none⟩ = false ∧ Below W.heap.size W w4) ∧ InM W nb nm v' (k + 1) (l ++ [x]) (w4.setCell ⟨nb, 1, none⟩ v') := by
  have hvl : ∀ g, v.ownBlock = some g → W.heap.size ≤ g ∧ g < wr.heap.size ∧ ∃ cur, wr.heap[g]? = some (Obj.cells cur 9 (0, 0)) := fun g hg => by
    refine ⟨(owns_ltK h.row g hg).1, (owns_ltK h.row g hg).2, ?_⟩
    obtain ⟨_, h2 | ⟨g', cap, cur, h3, _, h5, _⟩⟩ := h.row
    · rw [h2.1] at hg; simp [Value.ownBlock] at hg
    · rw [h3] at hg; simp [Value.ownBlock] at hg; subst hg; exact ⟨cur, h5⟩
  have hk : ∀ j, j < wr.heap.size → v.ownBlock ≠ some j → w4.heap[j]? = wr.heap[j]? := fun j hj hn => by
    rw [gr.block j (Nat.lt_of_lt_of_le hj hX.size) (fun e => hn e.symm)]
    exact hX.block j hj
  have ty : ∀ {j : Nat} {cs : Array Value} {t : TypeId}, wr.heap[j]? = some (Obj.cells cs t (0, 0)) → t ≠ 9 → v.ownBlock ≠ some j := fun hj ht e => by
    obtain ⟨_, _, cur, q⟩ := hvl _ e
    rw [hj] at q; cases q; exact ht rfl
  have hnb4 : w4.heap[nb]? = some (.cells #[.string nm, v] 30 (0, 0)) := (hk nb (lt_of_blk h.nod) (ty h.nod (by decide))).trans h.nod
  have hset : ∀ j, j ≠ nb → (w4.setCell ⟨nb, 1, none⟩ v').heap[j]? = w4.heap[j]? := fun j hj => Below.heap_setCell w4 ⟨nb, 1, none⟩ v' j hj
  have h4 : Below W.heap.size W w4 := (h.low.trans (hX.mono h.low.size)).grown gr (Nat.le_trans h.low.size hX.size) (fun j hj => (hvl j hj).1)
  refine ⟨⟨cell_blk hnb4 rfl, frz_blk hnb4, h4⟩, heap_setC hnb4 v', ?_, ?_, h.nbx⟩
  · rw [flat_snoc]
    refine ownsRow_blk own' (fun g hg hl => hset g (fun e => ?_))
    obtain ⟨_, h2 | ⟨g', cap, cur, h3, _, h5, _⟩⟩ := own'
    · rw [h2.1] at hg; simp [Value.ownBlock] at hg
    · rw [h3] at hg; simp [Value.ownBlock] at hg; subst hg; rw [e, hnb4] at h5; cases h5
  · exact h4.setCell (p := ⟨nb, 1, none⟩) h.nbx v'

/-- out, the nodes that were made -/
structure NetO (W : World) (gs : List GateV) (v : Value) (n : Nat) (nvs : List NodeV) (w : World) : Prop where
  net : NetR W.heap.size w gs nvs
  len : nvs.length = n
  row : w.ownsRow W.heap.size 30 2 v n (nvs.flatMap encN)
  low : Below W.heap.size W w

theorem ownsRow_base {w : World} {base base' e size n : Nat} {v : Value} {xs : List Value} (h : w.ownsRow base e size v n xs) (hb : base' ≤ base) : w.ownsRow base' e size v n xs := by
  obtain ⟨h1, h2 | ⟨g, cap, cur, h3, h4, h5, h6⟩⟩ := h
  · exact ⟨h1, .inl h2⟩
  · exact ⟨h1, .inr ⟨g, cap, cur, h3, Nat.le_trans hb h4, h5, h6⟩⟩

theorem NetO.add {W w0 wr X w4 : World} {gs : List GateV} {vo xo : Option Addr} {k vc q xc nb : Nat} {nvs : List NodeV} {nm : ByteArray} {l : List ByteArray} {g : GateV} {v' : Value}
    (h : NetO W gs (.slice vo k vc) k nvs w0) (hi : InM w0 nb nm (.slice xo q xc) q l wr) (hX : Below wr.heap.size wr X) (hnm : nm = gName (4 + k)) (hg : gs[k]? = some g) (hl : l = (gIx k g).map gName) (hq : l.length = q)
    (own : w4.ownsRow W.heap.size 30 2 v' (k + 1) (nvs.flatMap encN ++ encN ⟨nm, xo, q, xc, l⟩)) (gr : X.grownBy w4 (Value.slice vo k vc).ownBlock) :
    NetO W gs v' (k + 1) (nvs ++ [⟨nm, xo, q, xc, l⟩]) w4 := by
  have hrow := ownsRow_blk h.row (fun g _ hl => hi.low.block g hl)
  have hvl : ∀ g, (Value.slice vo k vc).ownBlock = some g → W.heap.size ≤ g ∧ g < wr.heap.size ∧ ∃ cur, wr.heap[g]? = some (Obj.cells cur 30 (0, 0)) := fun g hg => by
    refine ⟨(owns_ltK hrow g hg).1, (owns_ltK hrow g hg).2, ?_⟩
    obtain ⟨_, h2 | ⟨g', cap, cur, h3, _, h5, _⟩⟩ := hrow
    · rw [h2.1] at hg; simp [Value.ownBlock] at hg
    · rw [h3] at hg; simp [Value.ownBlock] at hg; subst hg; exact ⟨cur, h5⟩
  have hWr : Below W.heap.size W wr := h.low.trans (hi.low.mono h.low.size)
  have hk : ∀ (j : Nat) (cur : Array Value), wr.heap[j]? = some (Obj.cells cur 9 (0, 0)) → w4.heap[j]? = wr.heap[j]? := fun j cur hj => by
    rw [gr.block j (Nat.lt_of_lt_of_le (lt_of_blk hj) hX.size) (fun e => by
      obtain ⟨_, _, c2, q2⟩ := hvl j e.symm
      rw [hj] at q2; cases q2)]
    exact hX.block j (lt_of_blk hj)
  refine ⟨?_, by rw [List.length_append, h.len]; rfl, by rw [List.flatMap_append]; simpa using own, (hWr.trans (hX.mono hWr.size)).grown gr (Nat.le_trans hWr.size hX.size) (fun j hj => (hvl j hj).1)⟩
  have hN : NetR W.heap.size wr gs (nvs ++ [⟨nm, xo, q, xc, l⟩]) :=
    (h.net.later hi.low).snoc (g := g) (by rw [h.len]; exact hg) (by rw [h.len]; exact hnm) (by rw [h.len]; exact hl) ⟨ownsRow_base hi.row h.low.size, hq⟩
  exact hN.keep hk

end Go.Proofs.Ytgbnhngaeefmkaa

/-! Networks: the walk of network. -/
namespace Go.Proofs.Ytgbnhngaeefmkaa
set_option linter.unusedVariables false
set_option linter.unusedSimpArgs false
open Go.RowKit

theorem two_allocs (W : World) (a b : Obj) : ((W.alloc a).alloc b).heap[W.heap.size]? = some a ∧ ((W.alloc a).alloc b).heap[W.heap.size + 1]? = some b := by
  have s1 : (W.alloc a).heap.size = W.heap.size + 1 := by simp
  refine ⟨?_, ?_⟩
  · rw [Below.heap_alloc _ b _ (by omega)]; exact World.alloc_heap_new W a
  · have := World.alloc_heap_new (W.alloc a) b; rwa [s1] at this

theorem Try.infoNode : (Try.prog.info? 30).map (fun i => (i.zero, i.size, i.bytes)) = some (some (.agg #[.string (ByteArray.mk #[]), .slice none 0 0]), 2, 40) := by kernel_rfl

/-- what network returns -/
def NetE (W : World) (gs : List GateV) (e : Ending) (w' : World) : Prop :=
  ∃ ao cap nvs, e = .returned (.slice ao nvs.length cap) ∧ NetO W gs (.slice ao nvs.length cap) nvs.length nvs w' ∧ nvs.length = min gs.length 12

set_option maxRecDepth 100000 in
set_option maxHeartbeats 4000000 in
theorem network_any (ao : Option Addr) (ln cap : Nat) (gs : List GateV) (W : World) (hln : gs.length = ln) (hn : ln ≤ 9223372036854775807) (hrow : RowK 2 encGate W ao gs) (hok : ∀ g ∈ gs, GateOk W g) :
    Calls Try.prog 28 #[.slice ao ln cap] W (NetE W gs) := by
  obtain ⟨i0, hi, hz0, hz1, hz2⟩ := info_parts Try.infoStr
  obtain ⟨i1, hj, hy0, hy1, hy2⟩ := info_parts Try.infoNode
  have HL := Lib.hid hln
  have HR := Lib.hid hrow
  have HO := Lib.hid hok
  clear hln hrow hok
  go_enter Try.func28, Try.ntmps28
  go_wp2
  go_loopw [3, 4] (fun o i wr => ∃ (k : Nat) (nvs : List NodeV) (vo : Option Addr) (vc : Nat), k ≤ ln ∧ k ≤ 12 ∧ i = .int .i64 k ∧ o = .slice vo k vc ∧ NetO W gs (.slice vo k vc) k nvs wr) (fun o i _ => 12 - (intOf i).toNat)
  case atStart => exact ⟨0, [], none, 0, by omega, by omega, rfl, rfl, ⟨fun j nv h => by simp at h⟩, rfl, World.ownsRow_nil _ _ _ _, Below.refl _ W⟩
  case round =>
    obtain ⟨k, nvs, vo, vc, hk, hk12, rfl, rfl, hno⟩ := hrel
    have NO := Lib.hid hno
    clear hno
    have k0 : (0 : Int) ≤ (k : Int) := by omega
    have hret : ∀ e, (k = ln ∨ k = 12) → e = Ending.returned (.slice vo k vc) → NetE W gs e wr := fun e h he => ⟨vo, vc, nvs, by rw [NO.out.len]; exact he, by rw [NO.out.len]; exact NO.out, by rw [NO.out.len, HL.out]; omega⟩
    by_cases hlt : k < ln
    · have k1 : (k : Int) < (ln : Int) := by omega
      by_cases h12 : k < 12
      · have k12 : (k : Int) < 12 := by omega
        have hkg : k < gs.length := by rw [HL.out]; exact hlt
        obtain ⟨b0, off, rfl, hlb, hce⟩ := HR.out k gs[k] (List.getElem?_eq_getElem hkg)
        have hc0 := hce 0 _ rfl
        rw [Nat.add_zero] at hc0
        have cg : wr.cell? ⟨b0, off + k * 2, none⟩ = some (.slice gs[k].ao gs[k].ln gs[k].cap) := by rw [NO.out.low.cell (p := ⟨b0, off + k * 2, none⟩) hlb]; exact hc0
        have GO := Lib.hid (HO.out gs[k] (List.getElem_mem hkg))
        have HGK := Lib.hid (show gs[k]? = some gs[k] from List.getElem?_eq_getElem hkg)
        obtain ⟨g, hgg⟩ : ∃ g, gs[k] = g := ⟨_, rfl⟩
        rw [hgg] at cg GO HGK
        have GT := Lib.hid (show ∀ w, Calls Try.prog 30 #[.int .i64 (4 + (k : Int))] w fun e w' => e = .returned (.string (gName (4 + k))) ∧ w' = w.alloc (.cells #[.int .u8 (97 + (4 + (k : Int)))] 5) from fun w => by
          have q := gate_at (4 + k) (by omega) w
          rw [show ((4 + k : Nat) : Int) = 4 + (k : Int) from by omega] at q
          exact q)
        have M1 := Lib.hid (show InM wr (wr.heap.size + 1) (gName (4 + k)) (.slice none 0 0) 0 [] ((wr.alloc (.cells #[.int .u8 (97 + (4 + (k : Int)))] 5)).alloc (.cells #[.string (gName (4 + k)), .slice none 0 0] 30)) from
          ⟨(two_allocs wr _ _).2, World.ownsRow_nil _ _ _ _, (((Below.refl _ wr).alloc (Nat.le_refl _) _).alloc (by simp) _), by omega⟩)
        clear hce hc0 hgg
        go_wp2_with (first
            | (go_at_call 30; refine (GT.out _).mono ?_; rintro e w' ⟨rfl, rfl⟩))
        obtain ⟨w0, rfl⟩ : ∃ w0 : World, w0 = wr := ⟨_, rfl⟩
        go_loopw [6] (fun j w2 => ∃ (q : Nat) (v : Value), q ≤ g.ln ∧ q ≤ 4 ∧ j = .int .i64 q ∧ InM w0 (w0.heap.size + 1) (gName (4 + k)) v q (rdN k q g.zs) w2) (fun j _ => 4 - (intOf j).toNat)
        case atStart => exact ⟨0, _, by omega, by omega, rfl, M1.out⟩
        case round =>
          obtain ⟨q, v, hq, hq4, rfl, hin⟩ := hrel
          have IM := Lib.hid hin
          obtain ⟨xo, xc, rfl⟩ : ∃ a c, v = .slice a q c := by
            rcases hin.row.2 with ⟨h1, h2⟩ | ⟨g, cap, cur, h1, _⟩
            · exact ⟨none, 0, by rw [h1, h2]⟩
            · exact ⟨_, _, h1⟩
          have hWw : W.heap.size ≤ w0.heap.size := NO.out.low.size
          have cg2 : wr.cell? ⟨b0, off + k * 2, none⟩ = some (.slice g.ao g.ln g.cap) := by rw [hin.low.cell (p := ⟨b0, off + k * 2, none⟩) (Nat.lt_of_lt_of_le hlb hWw)]; exact cg
          have cn0 := cell_blk (o := 0) hin.nod rfl
          have cn1 := cell_blk (o := 1) hin.nod rfl
          have fn := frz_blk (o := 1) hin.nod
          clear hin
          have q0 : (0 : Int) ≤ (q : Int) := by omega
          by_cases hql : q < g.ln
          · have q1 : (q : Int) < (g.ln : Int) := by omega
            by_cases hq44 : q < 4
            · have q4 : (q : Int) < 4 := by omega
              have hqz : q < g.zs.length := by rw [GO.out.len]; exact hql
              obtain ⟨b1, off1, hao, hlb1, hce1⟩ := GO.out.row q g.zs[q] (List.getElem?_eq_getElem hqz)
              have hc1 := hce1 0 _ rfl
              rw [Nat.mul_one, Nat.add_zero] at hc1
              have cz : wr.cell? ⟨b1, off1 + q, none⟩ = some (.int .i64 g.zs[q]) := by
                rw [IM.out.low.cell (p := ⟨b1, off1 + q, none⟩) (Nat.lt_of_lt_of_le hlb1 hWw), NO.out.low.cell (p := ⟨b1, off1 + q, none⟩) hlb1]; exact hc1
              obtain ⟨hz1', hz2'⟩ := GO.out.z g.zs[q] (List.getElem_mem hqz)
              have hbig := GO.out.big
              have HTK := Lib.hid (show rdN k (q + 1) g.zs = rdN k q g.zs ++ [gName (pickZ g.zs[q] ((4 + k : Nat) : Int)).toNat] from by unfold rdN; rw [List.take_succ_eq_append_getElem hqz, List.map_append]; rfl)
              obtain ⟨z, hzz⟩ : ∃ z, g.zs[q] = z := ⟨_, rfl⟩
              rw [hzz] at cz HTK hz1' hz2'
              obtain ⟨pz, hpz, hpe⟩ := pickZ_nat z (4 + k) (by omega)
              rw [hpe, Int.toNat_natCast] at HTK
              have PZ := Lib.hid (show ∀ w, Calls Try.prog 12 #[.int .i64 z, .int .i64 (4 + (k : Int))] w fun e w' => e = .returned (.int .i64 pz) ∧ w = w' from fun w => (pick_any z (4 + (k : Int)) w hz1' hz2' (by omega) (by omega)).mono fun e w' ⟨q1, q2⟩ => ⟨by rw [q1]; rw [show ((4 + k : Nat) : Int) = 4 + (k : Int) from by omega] at hpe; rw [hpe], q2⟩)
              have GZ := Lib.hid (fun w => gate_at pz (by omega) w)
              rw [hao] at cg2
              obtain ⟨nz, hnz⟩ : ∃ nz, gName pz = nz := ⟨_, rfl⟩
              rw [hnz] at HTK GZ
              have hXX : Below wr.heap.size wr (((wr.alloc (.cells #[.int .u8 (97 + (pz : Int))] 5)).alloc (.cells #[.string nz] 9)).drew) := (((Below.refl _ wr).alloc (Nat.le_refl _) _).alloc (by simp) _).drew
              have HOD := Lib.hid (ownsRow_blk IM.out.row (fun g _ hl => hXX.block g hl))
              have NEW := Lib.hid (show ∀ j u, (encT nz)[j]? = some u → (((wr.alloc (.cells #[.int .u8 (97 + (pz : Int))] 5)).alloc (.cells #[.string nz] 9)).drew).cell? ((⟨wr.heap.size + 1, 0, none⟩ : Addr).add j) = some u from cells_at (wr.alloc (.cells #[.int .u8 (97 + (pz : Int))] 5)) (encT nz) 9 (wr.heap.size + 1) (by simp))
              have NXT := Lib.hid (fun (v' : Value) (w4 : World) own gr => IM.out.next (w4 := w4) (v' := v') (x := nz) hXX own gr)
              have cn2 := cell_up cn1 (.cells #[.int .u8 (97 + (pz : Int))] 5)
              have cn3 := cell_up cn2 (.cells #[.string nz] 9)
              have hwr : IntKind.wrap .i64 (4 + (k : Int)) = 4 + (k : Int) := by rw [IntKind.wrap_i64]; omega
              have hpz0 : (0 : Int) ≤ (pz : Int) := by omega
              have hsz := IM.out.low.size
              have hlnb : (w0.heap.size : Nat) ≤ wr.heap.size := hsz
              clear hXX hsz
              clear hce1 hc1 hz1' hz2' hpe hpz hqz hnz hzz hao
              go_wp2
              go_region_law (first
                | (go_simp; go_at_call 12; (with_reducible refine (PZ.out _).mono ?_); rintro e w' ⟨rfl, rfl⟩)
                | (go_simp; go_at_call 30; (with_reducible refine (GZ.out _).mono ?_); rintro e w' ⟨rfl, rfl⟩)
                | (refine step_own (by rfl) (.tmp 36) (.tmp 49) 28 (by rfl) w0.heap.size 9 i0 (.string (ByteArray.mk #[])) 1 16 Try.underlying28 hi hz0 hz1 hz2 (by rfl) (by decide) (.slice xo q xc) q ((rdN k q g.zs).flatMap encT) ?_ ?_ ⟨wr.heap.size + 1, 0, none⟩ 1 1 (encT nz) ?_ (by rfl) ?_ (encT_one _) ?_ ?_ ?_ ?_; (simp [Act.eval, Act.put]); (with_reducible exact HOD.out); (simp [Act.eval, Act.put]); (with_reducible exact NEW.out); (unfold maxLen; omega); omega; (simp; omega); intro v' w4 own gr; obtain ⟨g', cap', rfl⟩ := ownsRow_succ own; obtain ⟨⟨hc4, hf4, _⟩, hnx⟩ := NXT.out _ _ own gr; have N4 := Lib.hid hnx; clear own gr hnx))
              all_goals
                go_wp2
                go_roundw
                case rel => exact ⟨q + 1, _, by omega, by omega, by go_num, by rw [HTK.out]; exact N4.out⟩
                case measure => simp [intOf]; omega
            · have q4 : ¬ (q : Int) < 4 := by omega
              have hrd : rdN k q g.zs = rdN k 4 g.zs := by rw [show q = 4 from by omega]
              have hrl : (rdN k q g.zs).length = q := by unfold rdN; rw [List.length_map, List.length_take, GO.out.len]; omega
              have HRO := Lib.hid (ownsRow_blk NO.out.row (fun g _ hl => IM.out.low.block g hl))
              have ADD := Lib.hid (fun (v' : Value) (w4 : World) own gr => NO.out.add (v' := v') (w4 := w4) IM.out ((Below.refl _ wr).alloc (Nat.le_refl _) (.cells #[.string (gName (4 + k)), .slice xo q xc] 30)) rfl HGK.out (by rw [hrd, rdN_gIx]) hrl own gr)
              have hWr : W.heap.size ≤ wr.heap.size := Nat.le_trans hWw IM.out.low.size
              clear hrd hrl
              go_wp2_with (first
                | (at_builtin; refine wpList_append_own _ rfl (.tmp 52) (.tmp 54) 53 rfl W.heap.size 30 i1 (.agg #[.string (ByteArray.mk #[]), .slice none 0 0]) 2 40 Try.underlying53 hj hy0 hy1 hy2 rfl (by decide) (.slice vo k vc) k (nvs.flatMap encN) rfl (HRO.out.alloc _) ⟨wr.heap.size, 0, none⟩ 1 1 (encN ⟨gName (4 + k), xo, q, xc, rdN k q g.zs⟩) rfl rfl (cells_at wr [.string (gName (4 + k)), .slice xo q xc] 30 wr.heap.size rfl) (encN_one _) (by unfold maxLen; omega) (by omega) (by simp; omega) ?_; intro v' w4 own gr _h; obtain ⟨g', cap', rfl⟩ := ownsRow_succ own; have N4 := Lib.hid (ADD.out _ _ own gr); clear own gr _h))
              go_roundw
              case rel => exact ⟨k + 1, _, _, _, by omega, by omega, by go_num, rfl, N4.out⟩
              case measure => simp [intOf]; omega
          · have q1 : ¬ (q : Int) < (g.ln : Int) := by omega
            have hrd : rdN k q g.zs = rdN k 4 g.zs := by
              unfold rdN
              rw [List.take_of_length_le (by rw [GO.out.len]; omega), List.take_of_length_le (by rw [GO.out.len]; omega)]
            have hrl : (rdN k q g.zs).length = q := by unfold rdN; rw [List.length_map, List.length_take, GO.out.len]; omega
            have HRO := Lib.hid (ownsRow_blk NO.out.row (fun g _ hl => IM.out.low.block g hl))
            have ADD := Lib.hid (fun (v' : Value) (w4 : World) own gr => NO.out.add (v' := v') (w4 := w4) IM.out ((Below.refl _ wr).alloc (Nat.le_refl _) (.cells #[.string (gName (4 + k)), .slice xo q xc] 30)) rfl HGK.out (by rw [hrd, rdN_gIx]) hrl own gr)
            have hWr : W.heap.size ≤ wr.heap.size := Nat.le_trans hWw IM.out.low.size
            clear hrd hrl
            go_wp2_with (first
              | (at_builtin; refine wpList_append_own _ rfl (.tmp 52) (.tmp 54) 53 rfl W.heap.size 30 i1 (.agg #[.string (ByteArray.mk #[]), .slice none 0 0]) 2 40 Try.underlying53 hj hy0 hy1 hy2 rfl (by decide) (.slice vo k vc) k (nvs.flatMap encN) rfl (HRO.out.alloc _) ⟨wr.heap.size, 0, none⟩ 1 1 (encN ⟨gName (4 + k), xo, q, xc, rdN k q g.zs⟩) rfl rfl (cells_at wr [.string (gName (4 + k)), .slice xo q xc] 30 wr.heap.size rfl) (encN_one _) (by unfold maxLen; omega) (by omega) (by simp; omega) ?_; intro v' w4 own gr _h; obtain ⟨g', cap', rfl⟩ := ownsRow_succ own; have N4 := Lib.hid (ADD.out _ _ own gr); clear own gr _h))
            go_roundw
            case rel => exact ⟨k + 1, _, _, _, by omega, by omega, by go_num, rfl, N4.out⟩
            case measure => simp [intOf]; omega
      · have k12 : ¬ (k : Int) < 12 := by omega
        go_wp2
        go_ret
        exact hret _ (.inr (by omega)) rfl
    · have k1 : ¬ (k : Int) < (ln : Int) := by omega
      go_wp2
      go_ret
      exact hret _ (.inl (by omega)) rfl

end Go.Proofs.Ytgbnhngaeefmkaa

/-! Networks: what fresh computes; the nodes as rows. -/
namespace Go.Proofs.Ytgbnhngaeefmkaa
set_option linter.unusedVariables false
set_option linter.unusedSimpArgs false
open Go.RowKit

theorem row_of {w : World} {base n : Nat} {v : Value} {l : List ByteArray} (h : w.ownsRow base 9 1 v n (l.flatMap encT)) : ∃ ao cap, v = .slice ao n cap ∧ l.length = n ∧ RowK 1 encT w ao l := by
  have h1 := h.1
  rw [flat_length encT_len] at h1
  obtain ⟨ao, cap, rfl, _, h3⟩ := rowK_of_owns encT_len (by decide) h
  have hn : l.length = n := by omega
  subst hn
  exact ⟨ao, cap, rfl, rfl, h3⟩

/-- the nodes of a network, as rows that no later call turns -/
structure NetK (w : World) (gs : List GateV) (ao : Option Addr) (m : Nat) (nvs : List NodeV) : Prop where
  row : RowK 2 encN w ao nvs
  len : nvs.length = m
  gl : m ≤ gs.length
  m12 : m ≤ 12
  all : ∀ (j : Nat) (nv : NodeV), nvs[j]? = some nv → ∃ g, gs[j]? = some g ∧ nv.name = gName (4 + j) ∧ nv.reads = (gIx j g).map gName ∧ RowK 1 encT w nv.ao nv.reads ∧ nv.reads.length = nv.ln
theorem NetK.later {w w' : World} {gs : List GateV} {ao : Option Addr} {m : Nat} {nvs : List NodeV} (h : NetK w gs ao m nvs) (hb : Below w.heap.size w w') : NetK w' gs ao m nvs :=
  ⟨h.row.later hb, h.len, h.gl, h.m12, fun j nv hj => by obtain ⟨g, h1, h2, h3, h4, h5⟩ := h.all j nv hj; exact ⟨g, h1, h2, h3, h4.later hb, h5⟩⟩

/-- the gates as they came in -/
structure GatesK (w : World) (gs : List GateV) (ao : Option Addr) (ln : Nat) : Prop where
  len : gs.length = ln
  big : ln ≤ 9223372036854775807
  row : RowK 2 encGate w ao gs
  ok : ∀ g ∈ gs, GateOk w g
theorem GatesK.later {w w' : World} {gs : List GateV} {ao : Option Addr} {ln : Nat} (h : GatesK w gs ao ln) (hb : Below w.heap.size w w') : GatesK w' gs ao ln := ⟨h.len, h.big, h.row.later hb, fun g hg => (h.ok g hg).later hb⟩

theorem network_calls {W : World} {gs : List GateV} {ao : Option Addr} {ln cap : Nat} (h : GatesK W gs ao ln) :
    Calls Try.prog 28 #[.slice ao ln cap] W fun e w' => ∃ no nc nvs, e = .returned (.slice no (min ln 12) nc) ∧ NetK w' gs no (min ln 12) nvs ∧ Below W.heap.size W w' := by
  refine (network_any ao ln cap gs W h.len h.big h.row h.ok).mono ?_
  rintro e w' ⟨no, nc, nvs, rfl, hn, hl⟩
  rw [h.len] at hl
  obtain ⟨ao', cap', h1, _, h3⟩ := rowK_of_owns encN_len (by decide) hn.row
  cases h1
  refine ⟨no, nc, nvs, by rw [hl], ⟨h3, hl, by rw [h.len]; omega, by omega, fun j nv hj => ?_⟩, hn.low⟩
  obtain ⟨g, q1, q2, q3, q4, q5⟩ := hn.net.all j nv hj
  obtain ⟨ao2, cap2, r1, r2, r3⟩ := row_of q4
  cases r1
  exact ⟨g, q1, q2, q3, r3, q5⟩

/-- the values, computed from nothing: the inputs and k nodes -/
def freshN (ins : List Nat) (gs : List GateV) : Nat → List Nat
  | 0 => ins
  | k + 1 => freshN ins gs k ++ [match gs[k]? with | some g => wN g.kind ((gIx k g).map fun j => (freshN ins gs k).getD j 0) | none => 0]

theorem freshN_len (ins : List Nat) (gs : List GateV) (k : Nat) : (freshN ins gs k).length = ins.length + k := by
  induction k with
  | zero => rfl
  | succ k ih => simp only [freshN, List.length_append, List.length_singleton, ih]; omega
theorem getD_lt8 {l : List Nat} (h : ∀ n ∈ l, n < 8) (j : Nat) : l.getD j 0 < 8 := by
  rw [List.getD_eq_getElem?_getD]
  rcases hj : l[j]? with _ | x
  · simp
  · exact h x (List.mem_of_getElem? hj)
theorem freshN_lt (ins : List Nat) (gs : List GateV) (h : ∀ n ∈ ins, n < 8) (k : Nat) : ∀ n ∈ freshN ins gs k, n < 8 := by
  induction k with
  | zero => exact h
  | succ k ih =>
    intro n hn
    simp only [freshN, List.mem_append, List.mem_singleton] at hn
    rcases hn with hn | rfl
    · exact ih n hn
    · split
      · refine wN_lt _ _ (fun n hn => ?_)
        obtain ⟨j, _, rfl⟩ := List.mem_map.1 hn
        exact getD_lt8 ih j
      · omega
theorem gIx_lt (i : Nat) (g : GateV) : ∀ x ∈ gIx i g, x < 4 + i := by
  intro x hx
  obtain ⟨z, _, rfl⟩ := List.mem_map.1 hx
  obtain ⟨k, hk, e⟩ := pickZ_nat z (4 + i) (by omega)
  rw [e]; simpa using hk
theorem gIx_len (i : Nat) (g : GateV) : (gIx i g).length ≤ 4 := by unfold gIx; rw [List.length_map, List.length_take]; omega

theorem gName_size (x : Nat) : (gName x).size = 1 := rfl
theorem gName_byte (x : Nat) (hx : x < 100) : (((gName x)[0]'(by rw [gName_size]; omega)).toNat - 97 : Int) % 256 = x := by
  have : (gName x)[0]'(by rw [gName_size]; omega) = UInt8.ofNat (97 + x) := rfl
  rw [this, UInt8.toNat_ofNat']; omega

def encZ (n : Nat) : List Value := [.int .i64 n]

end Go.Proofs.Ytgbnhngaeefmkaa

/-! Networks: the walk of fresh. -/
namespace Go.Proofs.Ytgbnhngaeefmkaa
set_option linter.unusedVariables false
set_option linter.unusedSimpArgs false
open Go.RowKit

/-- a row of strings that grows -/
structure RowO (base : Nat) (v : Value) (n : Nat) (l : List ByteArray) (w : World) : Prop where
  row : w.ownsRow base 9 1 v n (l.flatMap encT)
theorem RowO.later {base : Nat} {v : Value} {n : Nat} {l : List ByteArray} {w w' : World} (h : RowO base v n l w) (hb : Below w.heap.size w w') : RowO base v n l w' := ⟨ownsRow_blk h.row (fun g _ hl => hb.block g hl)⟩
theorem RowO.nil (base : Nat) (w : World) : RowO base (.slice none 0 0) 0 [] w := ⟨World.ownsRow_nil _ _ _ _⟩
theorem RowO.sl {base : Nat} {v : Value} {n : Nat} {l : List ByteArray} {w : World} (h : RowO base v n l w) : ∃ ao cap, v = .slice ao n cap ∧ l.length = n ∧ RowK 1 encT w ao l := row_of h.row

/-- what an append onto a row of the call's own keeps -/
theorem RowO.grown {base : Nat} {v : Value} {n : Nat} {l : List ByteArray} {W w X w4 : World} (h : RowO base v n l w) (hlow : Below base W w) (hX : Below w.heap.size w X) (hb : base ≤ w.heap.size) (gr : X.grownBy w4 v.ownBlock) : Below base W w4 := by
  refine (hlow.trans (hX.mono hb)).grown gr (Nat.le_trans hb hX.size) (fun j hj => ?_)
  exact (owns_ltK h.row j hj).1

def FreshE (W : World) (l : List Nat) (n : Nat) (e : Ending) (w' : World) : Prop := ∃ oo oc, e = .returned (.slice oo n oc) ∧ RowK 1 encT w' oo (l.map dig) ∧ RowO W.heap.size (.slice oo n oc) n (l.map dig) w' ∧ Below W.heap.size W w'

set_option maxRecDepth 100000 in
set_option maxHeartbeats 4000000 in
theorem fresh_any (W : World) (io : Option Addr) (icap : Nat) (ins : List Nat) (hi4 : ins.length = 4) (hi8 : ∀ n ∈ ins, n < 8) (hir : RowK 1 encZ W io ins) (gs : List GateV) (ao : Option Addr) (ln cap : Nat) (hg : GatesK W gs ao ln) (no : Option Addr) (m nc : Nat) (nvs : List NodeV) (hn : NetK W gs no m nvs) :
    Calls Try.prog 32 #[.slice io 4 icap, .slice ao ln cap, .slice no m nc] W (FreshE W (freshN ins gs m) (4 + m)) := by
  obtain ⟨i0, hi, hz0, hz1, hz2⟩ := info_parts Try.infoStr
  have I4 := Lib.hid hi4
  have I8 := Lib.hid hi8
  have IR := Lib.hid hir
  have HG := Lib.hid hg
  have HN := Lib.hid hn
  clear hi4 hi8 hir hg hn
  go_enter Try.func32, Try.ntmps32
  go_wp2
  go_loopw [7, 8] (fun o i wr => ∃ (k : Nat) (vo : Option Addr) (vc : Nat), k ≤ 4 ∧ i = .int .i64 k ∧ o = .slice vo k vc ∧ RowO W.heap.size (.slice vo k vc) k ((ins.take k).map dig) wr ∧ Below W.heap.size W wr) (fun o i _ => 4 - (intOf i).toNat)
  case atStart => exact ⟨0, none, 0, by omega, rfl, rfl, RowO.nil _ _, Below.refl _ W⟩
  case round =>
    obtain ⟨k, vo, vc, hk, rfl, rfl, hou, hlo⟩ := hrel
    have OU := Lib.hid hou
    have LO := Lib.hid hlo
    clear hou hlo
    have k0 : (0 : Int) ≤ (k : Int) := by omega
    by_cases hlt : k < 4
    · have k1 : (k : Int) < 4 := by omega
      have hki : k < ins.length := by rw [I4.out]; exact hlt
      obtain ⟨b0, off, rfl, hlb, hce⟩ := IR.out k ins[k] (List.getElem?_eq_getElem hki)
      have hc0 := hce 0 _ rfl
      rw [Nat.mul_one, Nat.add_zero] at hc0
      have ci : wr.cell? ⟨b0, off + k, none⟩ = some (.int .i64 ins[k]) := by rw [LO.out.cell (p := ⟨b0, off + k, none⟩) hlb]; exact hc0
      have hn8 := I8.out ins[k] (List.getElem_mem hki)
      have HT := Lib.hid (show (ins.take (k + 1)).map dig = (ins.take k).map dig ++ [dig ins[k]] from by rw [List.take_succ_eq_append_getElem hki, List.map_append]; rfl)
      obtain ⟨n, hnn⟩ : ∃ n, ins[k] = n := ⟨_, rfl⟩
      rw [hnn] at ci hn8 HT
      have n0 : (0 : Int) ≤ (n : Int) := by omega
      have n8 : (n : Int) < 8 := by omega
      have cv := conv_chr wr (48 + n) (by omega) _ rfl
      rw [show ((48 + n : Nat) : Int) = 48 + (n : Int) from by omega] at cv
      have hXX := (((Below.refl _ wr).alloc (Nat.le_refl _) (.cells #[.int .u8 (48 + (n : Int))] 5)).alloc (by simp) (.cells #[.string (dig n)] 9))
      have OX := Lib.hid (OU.out.later hXX)
      have GRW := Lib.hid (fun (w4 : World) gr => OU.out.grown (w4 := w4) LO.out hXX LO.out.size gr)
      have hsz := LO.out.size
      clear hce hc0 hnn hn8 hXX
      go_wp2_with (first
        | (at_builtin; refine wpList_append_own _ rfl (.tmp 16) (.tmp 25) 28 rfl W.heap.size 9 i0 (.string (ByteArray.mk #[])) 1 16 Try.underlying28 hi hz0 hz1 hz2 rfl (by decide) _ _ _ rfl OX.out.row ⟨wr.heap.size + 1, 0, none⟩ 1 1 (encT (dig n)) rfl rfl (cells_at (wr.alloc _) (encT (dig n)) 9 (wr.heap.size + 1) (by simp)) (encT_one _) (by unfold maxLen; omega) (by omega) (by simp; omega) ?_; intro v' w4 own gr _h; obtain ⟨g', cap', rfl⟩ := ownsRow_succ own; have O4 := Lib.hid own; have L4 := Lib.hid (GRW.out _ gr); clear own gr _h))
      go_roundw
      case rel => exact ⟨k + 1, _, _, by omega, by go_num, rfl, ⟨by rw [HT.out, flat_snoc]; exact O4.out⟩, L4.out⟩
      case measure => simp [intOf]; omega
    · have k1 : ¬ (k : Int) < 4 := by omega
      have hk4 : k = 4 := by omega
      subst hk4
      have HT : Hid ((ins.take 4).map dig = (freshN ins gs 0).map dig) := Lib.hid (by rw [List.take_of_length_le (by rw [I4.out]; omega)]; rfl)
      go_wp2
      go_loopw [7, 9] (fun o i wr => ∃ (k : Nat) (vo : Option Addr) (vc : Nat), k ≤ m ∧ i = .int .i64 k ∧ o = .slice vo (4 + k) vc ∧ RowO W.heap.size (.slice vo (4 + k) vc) (4 + k) ((freshN ins gs k).map dig) wr ∧ Below W.heap.size W wr) (fun o i _ => m - (intOf i).toNat)
      case atStart => exact ⟨0, vo, vc, by omega, rfl, rfl, by rw [← HT.out]; exact OU.out, LO.out⟩
      case round =>
        clear OU LO HT
        obtain ⟨k, vo, vc, hk, rfl, rfl, hou, hlo⟩ := hrel
        have OU := Lib.hid hou
        have LO := Lib.hid hlo
        clear hou hlo
        have k0 : (0 : Int) ≤ (k : Int) := by omega
        by_cases hlt : k < m
        · have k1 : (k : Int) < (m : Int) := by omega
          have hkn : k < nvs.length := by rw [HN.out.len]; exact hlt
          obtain ⟨g, hgk, hnm, hrd, hrr, hrl⟩ := HN.out.all k nvs[k] (List.getElem?_eq_getElem hkn)
          obtain ⟨b0, off, rfl, hlb, hce⟩ := HN.out.row k nvs[k] (List.getElem?_eq_getElem hkn)
          have hc0 := hce 1 _ rfl
          obtain ⟨b1, off1, rfl, hlb1, hce1⟩ := HG.out.row k g hgk
          have hc1 := hce1 1 _ rfl
          obtain ⟨nv, hnv⟩ : ∃ nv, nvs[k] = nv := ⟨_, rfl⟩
          rw [hnv] at hc0 hrd hrr hrl
          have cn : wr.cell? ⟨b0, off + k * 2 + 1, none⟩ = some (.slice nv.ao nv.ln nv.cap) := by rw [LO.out.cell (p := ⟨b0, off + k * 2 + 1, none⟩) hlb]; exact hc0
          have ck : wr.cell? ⟨b1, off1 + k * 2 + 1, none⟩ = some (.int .i64 g.kind) := by rw [LO.out.cell (p := ⟨b1, off1 + k * 2 + 1, none⟩) hlb1]; exact hc1
          have HX := Lib.hid (gIx_lt k g)
          have HXL := Lib.hid (gIx_len k g)
          have hrl' : (gIx k g).length = nv.ln := by rw [← hrl, hrd, List.length_map]
          have HRL := Lib.hid hrl'
          rw [hrd] at hrr
          have HRR := Lib.hid hrr
          have HKG := Lib.hid hgk
          have HGI := Lib.hid (HG.out.ok g (List.mem_of_getElem? hgk)).k
          have HF : Hid (freshN ins gs (k + 1) = freshN ins gs k ++ [wN g.kind ((gIx k g).map fun j => (freshN ins gs k).getD j 0)]) := Lib.hid (by rw [freshN, hgk])
          have HFL := Lib.hid (freshN_len ins gs k)
          have HF8 := Lib.hid (freshN_lt ins gs I8.out k)
          have hm12 := HN.out.m12
          have hml := HG.out.big
          have hmg : m ≤ ln := by have := HN.out.gl; rw [HG.out.len] at this; exact this
          have kln : (k : Int) < (ln : Int) := by omega
          clear hgk hnm hrd hrr hrl hce hc0 hce1 hc1 hnv hrl' hmg
          obtain ⟨w0, rfl⟩ : ∃ w0 : World, w0 = wr := ⟨_, rfl⟩
          obtain ⟨ao4, cap4, he4, _, hr4⟩ := OU.out.sl
          cases he4
          have R4 := Lib.hid hr4
          clear hr4
          go_wp2
          go_loopw [10, 11] (fun v j wr => ∃ (q : Nat) (xo : Option Addr) (xc : Nat), q ≤ nv.ln ∧ j = .int .i64 q ∧ v = .slice xo q xc ∧ RowO w0.heap.size (.slice xo q xc) q ((((gIx k g).take q).map fun j => (freshN ins gs k).getD j 0).map dig) wr ∧ Below w0.heap.size w0 wr) (fun o i _ => nv.ln - (intOf i).toNat)
          case atStart => exact ⟨0, none, 0, by omega, rfl, rfl, RowO.nil _ _, Below.refl _ w0⟩
          case round =>
            obtain ⟨q, xo, xc, hq, rfl, rfl, hov, hlv⟩ := hrel
            have OV := Lib.hid hov
            have LV := Lib.hid hlv
            clear hov hlv
            have hW0 : W.heap.size ≤ w0.heap.size := LO.out.size
            have cn2 : wr.cell? ⟨b0, off + k * 2 + 1, none⟩ = some (.slice nv.ao nv.ln nv.cap) := by rw [LV.out.cell (p := ⟨b0, off + k * 2 + 1, none⟩) (Nat.lt_of_lt_of_le hlb hW0)]; exact cn
            have ck2 : wr.cell? ⟨b1, off1 + k * 2 + 1, none⟩ = some (.int .i64 g.kind) := by rw [LV.out.cell (p := ⟨b1, off1 + k * 2 + 1, none⟩) (Nat.lt_of_lt_of_le hlb1 hW0)]; exact ck
            have q0 : (0 : Int) ≤ (q : Int) := by omega
            by_cases hql : q < nv.ln
            · have q1 : (q : Int) < (nv.ln : Int) := by omega
              have hqx : q < (gIx k g).length := by rw [HRL.out]; exact hql
              have hxl := HX.out (gIx k g)[q] (List.getElem_mem hqx)
              have hxq : ((gIx k g).map gName)[q]? = some (gName (gIx k g)[q]) := by rw [List.getElem?_map, List.getElem?_eq_getElem hqx]; rfl
              obtain ⟨b2, off2, hao, hlb2, hce2⟩ := HRR.out q _ hxq
              have hc2 := hce2 0 _ rfl
              rw [Nat.mul_one, Nat.add_zero] at hc2
              have cx : wr.cell? ⟨b2, off2 + q, none⟩ = some (.string (gName (gIx k g)[q])) := by rw [LV.out.cell (p := ⟨b2, off2 + q, none⟩) (Nat.lt_of_lt_of_le hlb2 hW0), LO.out.cell (p := ⟨b2, off2 + q, none⟩) hlb2]; exact hc2
              have HT := Lib.hid (show (((gIx k g).take (q + 1)).map fun j => (freshN ins gs k).getD j 0).map dig = (((gIx k g).take q).map fun j => (freshN ins gs k).getD j 0).map dig ++ [dig ((freshN ins gs k).getD (gIx k g)[q] 0)] from by rw [List.take_succ_eq_append_getElem hqx, List.map_append, List.map_append]; rfl)
              rw [hao] at cn2
              obtain ⟨x, hx⟩ : ∃ x, (gIx k g)[q] = x := ⟨_, rfl⟩
              rw [hx] at hxl cx HT
              have hxf : x < (freshN ins gs k).length := by rw [HFL.out, I4.out]; exact hxl
              have hxd : ((freshN ins gs k).map dig)[x]? = some (dig ((freshN ins gs k).getD x 0)) := by rw [List.getElem?_map, List.getElem?_eq_getElem hxf, List.getD_eq_getElem?_getD, List.getElem?_eq_getElem hxf]; rfl
              obtain ⟨b3, off3, hvo, hlb3, hce3⟩ := R4.out x _ hxd
              have hc3 := hce3 0 _ rfl
              rw [Nat.mul_one, Nat.add_zero] at hc3
              have cy : wr.cell? ⟨b3, off3 + x, none⟩ = some (.string (dig ((freshN ins gs k).getD x 0))) := by rw [LV.out.cell (p := ⟨b3, off3 + x, none⟩) hlb3]; exact hc3
              subst hvo
              obtain ⟨nx, hnx⟩ : ∃ nx, dig ((freshN ins gs k).getD x 0) = nx := ⟨_, rfl⟩
              rw [hnx] at cy HT
              have hgb := gName_byte x (by omega)
              have hgs := gName_size x
              have x0 : (0 : Int) ≤ (x : Int) := by omega
              have x1 : (x : Int) < 4 + (k : Int) := by omega
              have hXX := ((Below.refl _ wr).alloc (Nat.le_refl _) (.cells #[.string nx] 9))
              have OX := Lib.hid (OV.out.later hXX)
              have GRW := Lib.hid (fun (w4 : World) gr => OV.out.grown (w4 := w4) LV.out hXX LV.out.size gr)
              have hsz := LV.out.size
              have hnl := HXL.out
              rw [HRL.out] at hnl
              clear hnx hxd hxf hx hxq hao hce2 hc2 hce3 hc3 hqx hXX
              go_wp2_with (first
                | (at_builtin; refine wpList_append_own _ rfl (.tmp 43) (.tmp 58) 28 rfl w0.heap.size 9 i0 (.string (ByteArray.mk #[])) 1 16 Try.underlying28 hi hz0 hz1 hz2 rfl (by decide) _ _ _ rfl OX.out.row ⟨wr.heap.size, 0, none⟩ 1 1 (encT nx) rfl rfl (cells_at wr (encT nx) 9 wr.heap.size rfl) (encT_one _) (by unfold maxLen; omega) (by omega) (by simp; omega) ?_; intro v' w4 own gr _h; obtain ⟨g', cap', rfl⟩ := ownsRow_succ own; have O4 := Lib.hid own; have L4 := Lib.hid (GRW.out _ gr); clear own gr _h))
              go_roundw
              case rel => exact ⟨q + 1, _, _, by omega, by go_num, rfl, ⟨by rw [HT.out, flat_snoc]; exact O4.out⟩, L4.out⟩
              case measure => simp [intOf]; omega
            · have q1 : ¬ (q : Int) < (nv.ln : Int) := by omega
              have hqe : q = nv.ln := by omega
              subst hqe
              have ht : (gIx k g).take nv.ln = gIx k g := List.take_of_length_le (by rw [HRL.out]; exact Nat.le_refl _)
              rw [ht] at OV
              obtain ⟨xo', xc', hex, hxl, hxr⟩ := OV.out.sl
              cases hex
              have hnl := HXL.out
              rw [HRL.out] at hnl
              have WC := Lib.hid (worth_any g.kind xo nv.ln xc ((gIx k g).map fun j => (freshN ins gs k).getD j 0) wr (by rw [List.length_map]; exact HRL.out) (by omega) HGI.out.1 HGI.out.2 (fun n hn => by obtain ⟨j, _, rfl⟩ := List.mem_map.1 hn; exact getD_lt8 HF8.out j) hxr)
              have HFD := Lib.hid (show (freshN ins gs (k + 1)).map dig = (freshN ins gs k).map dig ++ [dig (wN g.kind ((gIx k g).map fun j => (freshN ins gs k).getD j 0))] from by rw [HF.out, List.map_append]; rfl)
              obtain ⟨y, hy⟩ : ∃ y, dig (wN g.kind ((gIx k g).map fun j => (freshN ins gs k).getD j 0)) = y := ⟨_, rfl⟩
              rw [hy] at WC HFD
              clear ht hxr hxl hy
              go_wp2_with (first
                | (go_at_call 54; refine WC.out.mono ?_; rintro e w5 ⟨rfl, hb5⟩; have HX5 := Lib.hid ((LV.out.trans (hb5.mono LV.out.size)).alloc (Nat.le_trans LV.out.size hb5.size) (.cells #[.string y] 9)); have OX5 := Lib.hid (OU.out.later HX5.out); have GR5 := Lib.hid (fun (w4 : World) gr => OU.out.grown (w4 := w4) LO.out HX5.out LO.out.size gr); have hs5 : W.heap.size ≤ w5.heap.size := Nat.le_trans LO.out.size (Nat.le_trans LV.out.size hb5.size); clear hb5)
                | (at_builtin; refine wpList_append_own _ rfl (.tmp 60) (.tmp 68) 28 rfl W.heap.size 9 i0 (.string (ByteArray.mk #[])) 1 16 Try.underlying28 hi hz0 hz1 hz2 rfl (by decide) _ _ _ rfl OX5.out.row ⟨w5.heap.size, 0, none⟩ 1 1 (encT y) rfl rfl (cells_at w5 (encT y) 9 w5.heap.size rfl) (encT_one _) (by unfold maxLen; omega) (by omega) (by simp; omega) ?_; intro v' w6 own gr _h; obtain ⟨g', cap', rfl⟩ := ownsRow_succ own; have O6 := Lib.hid own; have L6 := Lib.hid (GR5.out _ gr); clear own gr _h))
              go_roundw
              case rel => exact ⟨k + 1, _, _, by omega, by go_num, rfl, ⟨by rw [HFD.out, flat_snoc]; exact O6.out⟩, L6.out⟩
              case measure => simp [intOf]; omega
        · have k1 : ¬ (k : Int) < (m : Int) := by omega
          have hkm : k = m := by omega
          subst hkm
          obtain ⟨ao4, cap4, he4, _, hr4⟩ := OU.out.sl
          cases he4
          go_wp2
          go_ret
          exact ⟨vo, vc, rfl, hr4, OU.out, LO.out⟩

end Go.Proofs.Ytgbnhngaeefmkaa
