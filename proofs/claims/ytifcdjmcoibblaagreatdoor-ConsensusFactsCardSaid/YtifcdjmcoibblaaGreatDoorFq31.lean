/- Net Hlp Lst Cod Fit -/
import Derived.Test.YtifcdjmcoibblaaGreatDoorFq26
import Derived.Test.YtifcdjmcoibblaaGreatDoorFq29
import Derived.Test.YtifcdjmcoibblaaGreatDoorFq30
import Derived.Test.YtifcdjmcoibblaaGreatDoorFq17
import Derived.Test.YtifcdjmcoibblaaGreatDoorFq01
import Derived.Lib.SlicesS
import Derived.Sort.Walk0
import Derived.Deep.QuietTactic
import Derived.BigQuiet
import Derived.Test.YtifcdjmcoibblaaGreatDoorFq11
import Derived.Test.YtifcdjmcoibblaaGreatDoorFq27
import Derived.Test.YtifcdjmcoibblaaGreatDoorFq18
import Derived.Test.YtifcdjmcoibblaaGreatDoorFq20
set_option linter.unusedVariables false
set_option linter.unusedSimpArgs false
set_option linter.unusedSectionVars false
set_option maxRecDepth 100000
set_option maxHeartbeats 80000000
namespace Go.Proofs.YtifcdjmcoibblaaGreatDoor
section
open Go.RowKit
structure Fit (G:ByteArray→List ByteArray→Prop) (s:StB):Prop where
 ok:Ok G s
 qi:QI s
def Step (R:Nat→Prop) (w:World) (x:Nat) (s':StB) (w':World) (R':Nat→Prop):Prop:=(∃p,NodeP R' w' x p s')∧Chg R w w'∧Grows R R' w
theorem Turned.step {R:Nat→Prop} {w w':World} {x:Nat} {s':StB} (h:Turned R w x s' w'):∃R',Step R w x s' w' R':=by
 obtain ⟨p,R',a,b,c⟩:=h;exact ⟨R',⟨p,a⟩,b,c⟩
structure Net (G:ByteArray→List ByteArray→Prop) (base:Nat) (w:World) (xs:List Nat) (ss:List StB) (Rs:Nat→Nat→Prop):Prop where
 len:xs.length=ss.length
 node:∀i x s,xs[i]?=some x→ss[i]?=some s→∃p,NodeP (Rs i) w x p s
 fit:∀s∈ss,Fit G s
 dis:∀i j k,i<xs.length→j<xs.length→i≠j→Rs i k→¬Rs j k
 lo:∀i k,i<xs.length→Rs i k→base≤k
def AllR (n:Nat) (Rs:Nat→Nat→Prop) (k:Nat):Prop:=∃i,i<n∧Rs i k
section
variable {G:ByteArray→List ByteArray→Prop} {base:Nat} {w w':World} {xs:List Nat} {ss:List StB} {Rs:Nat→Nat→Prop}
theorem Net.lt (h:Net G base w xs ss Rs) {k:Nat} (hk:AllR xs.length Rs k):k<w.heap.size:=by
 obtain ⟨i,hi,hr⟩:=hk;obtain ⟨p,hp⟩:=h.node i xs[i] (ss[i]'(by rw [←h.len];exact hi)) (List.getElem?_eq_getElem hi) (List.getElem?_eq_getElem _);exact hp.lt k hr
theorem Net.low (h:Net G base w xs ss Rs) {k:Nat} (hk:AllR xs.length Rs k):base≤k:=by
 obtain ⟨i,hi,hr⟩:=hk;exact h.lo i k hi hr
theorem Net.nil (G:ByteArray→List ByteArray→Prop) (base:Nat) (w:World) (Rs:Nat→Nat→Prop):Net G base w [] [] Rs:=
 ⟨rfl,fun i x s hx _=>by simp at hx,fun s hs=>(List.not_mem_nil hs).elim,fun i j k hi _ _ _=>absurd hi (Nat.not_lt_zero i),fun i k hi _=>absurd hi (Nat.not_lt_zero i)⟩
theorem Net.later (h:Net G base w xs ss Rs) (hb:Below w.heap.size w w'):Net G base w' xs ss Rs:=
 ⟨h.len,fun i x s hx hs=>by
  obtain ⟨p,hp⟩:=h.node i x s hx hs;exact ⟨p,hp.below hb⟩,h.fit,h.dis,h.lo⟩
theorem Net.push (h:Net G base w xs ss Rs) (hb:Below w.heap.size w w') {x:Nat} {s:StB} {R:Nat→Prop} {p:Ptr} (hp:NodeP R w' x p s) (hR:∀k,R k→w.heap.size≤k) (hf:Fit G s) (hbs:base≤w.heap.size) :
  Net G base w' (xs ++ [x]) (ss ++ [s]) (fun j=>if j<xs.length then Rs j else R):=by
 have h2:=h.later hb;have hl:=h.len;refine ⟨by simp [hl],fun i y t hy ht=>?_,fun t ht=>?_,fun i j k hi hj hne hr=>?_,fun i k hi hr=>?_⟩
 ·by_cases q:i<xs.length
  ·rw [if_pos q];rw [List.getElem?_append_left q] at hy;rw [List.getElem?_append_left (by omega)] at ht;exact h2.node i y t hy ht
  rw [if_neg q];have hi:=(List.getElem?_eq_some_iff.1 hy).1;rw [List.length_append,List.length_singleton] at hi;obtain rfl:i=xs.length:=by omega
  rw [List.getElem?_append_right (Nat.le_refl _)] at hy;rw [hl,List.getElem?_append_right (Nat.le_refl _)] at ht;simp at hy ht;subst hy ht;exact ⟨p,hp⟩
 ·rw [List.mem_append,List.mem_singleton] at ht;rcases ht with ht | rfl
  ·exact h.fit t ht
  exact hf
 ·rw [List.length_append,List.length_singleton] at hi hj;by_cases q:i<xs.length
  ·rw [if_pos q] at hr;by_cases q2:j<xs.length
   ·rw [if_pos q2];exact h.dis i j k q q2 hne hr
   rw [if_neg q2];intro hk;have:=h.lt ⟨i,q,hr⟩;have:=hR k hk;omega
  rw [if_neg q] at hr;have q2:j<xs.length:=by omega
  rw [if_pos q2];intro hk;have:=h.lt ⟨j,q2,hk⟩;have:=hR k hr;omega
 rw [List.length_append,List.length_singleton] at hi;by_cases q:i<xs.length
 ·rw [if_pos q] at hr;exact h.lo i k q hr
 rw [if_neg q] at hr;have:=hR k hr;omega
theorem Net.step (h:Net G base w xs ss Rs) (hbs:base≤w.heap.size) {i x:Nat} (hx:xs[i]?=some x) {s':StB} {R':Nat→Prop} (hs:Step (Rs i) w x s' w' R') (hf:Fit G s') :
  Net G base w' xs (ss.set i s') (fun j=>if j=i then R' else Rs j):=by
 obtain ⟨⟨p',hp⟩,hc,hg⟩:=hs;have hi:=(List.getElem?_eq_some_iff.1 hx).1;have hl:=h.len;refine ⟨by simp [hl],fun j y t hy ht=>?_,fun t ht=>?_,fun a b k ha hb hne hr=>?_,fun a k ha hr=>?_⟩
 ·by_cases q:j=i
  ·subst q;rw [if_pos rfl];rw [hx] at hy;obtain rfl:x=y:=by injection hy
   rw [List.getElem?_set_self (by omega)] at ht;obtain rfl:s'=t:=by injection ht
   exact ⟨p',hp⟩
  rw [if_neg q];rw [List.getElem?_set_ne (fun e=>q e.symm)] at ht;obtain ⟨p,hq⟩:=h.node j y t hy ht;have hj:=(List.getElem?_eq_some_iff.1 hy).1;exact ⟨p,hq.later (fun k hk=>hc.block k (hq.lt k hk) (h.dis j i k hj hi q hk)) hc.size⟩
 ·rcases List.mem_or_eq_of_mem_set ht with q | rfl
  ·exact h.fit t q
  exact hf
 ·by_cases qa:a=i
  ·subst qa;rw [if_pos rfl] at hr;rw [if_neg (fun e=>hne e.symm)];intro hk;rcases hg.2 k hr with q | q
   ·exact h.dis _ b k ha hb hne q hk
   have:=h.lt ⟨b,hb,hk⟩;omega
  rw [if_neg qa] at hr;by_cases qb:b=i
  ·subst qb;rw [if_pos rfl];intro hk;rcases hg.2 k hk with q | q
   ·exact h.dis a _ k ha hb hne hr q
   have:=h.lt ⟨a,ha,hr⟩;omega
  rw [if_neg qb];exact h.dis a b k ha hb hne hr
 by_cases qa:a=i
 ·subst qa;rw [if_pos rfl] at hr;rcases hg.2 k hr with q | q
  ·exact h.lo _ k ha q
  omega
 rw [if_neg qa] at hr;exact h.lo a k ha hr
theorem AllR.step {n i:Nat} {R':Nat→Prop} (hi:i<n) (hg:Grows (Rs i) R' w) {k:Nat} (hk:AllR n (fun j=>if j=i then R' else Rs j) k):AllR n Rs k∨w.heap.size≤k:=by
 obtain ⟨j,hj,hr⟩:=hk;by_cases q:j=i
 ·subst q;rw [if_pos rfl] at hr;rcases hg.2 k hr with q | q
  ·exact .inl ⟨_,hi,q⟩
  exact .inr q
 rw [if_neg q] at hr;exact .inl ⟨j,hj,hr⟩
theorem AllR.chg {n i:Nat} (hi:i<n) (hc:Chg (Rs i) w w'):Chg (AllR n Rs) w w':=hc.mono (fun k _ hk=>⟨i,hi,hk⟩)
end
end
section
open Go.RowKit
def pickZ (c n:Int):Int:=(if c<0 then -(c+1) else c) % n
theorem pickZ_lo (c n:Int) (hn:0<n):0≤pickZ c n:=Int.emod_nonneg _ (by omega)
theorem pickZ_hi (c n:Int) (hn:0<n):pickZ c n<n:=Int.emod_lt_of_pos _ hn
theorem pickZ_nat (c:Int) (n:Nat) (hn:0<n):∃k:Nat,k<n∧pickZ c n=k:=⟨(pickZ c n).toNat,by have:=pickZ_lo c n (by omega);have:=pickZ_hi c n (by omega);omega,by have:=pickZ_lo c n (by omega);omega⟩
theorem pick_any (c n:Int) (w:World) (h1:-9223372036854775808≤c) (h2:c≤9223372036854775807) (h3:1≤n) (h4:n≤9223372036854775807) :
  Calls Tryz.prog 14 #[.int .i64 c,.int .i64 n] w fun e w'=>e = .returned (.int .i64 (pickZ c n))∧w=w':=by
 by_cases h:c<0
 ·have hp:pickZ c n = -((c+1).tmod n):=by
   unfold pickZ;rw [if_pos h,←Int.neg_tmod,Int.tmod_eq_emod_of_nonneg (by omega)]
  have HP:=Hd hp;clear hp;have hn0:(n == 0)=false:=beq_eq_false_iff_ne.2 (by omega);go_enter Tryz.func14,Tryz.ntmps14
  go_wp2
  go_ret;exact ⟨by rw [HP.out];rfl,rfl⟩
 have hp:pickZ c n=c % n:=by unfold pickZ;rw [if_neg h]
 have HP:=Hd hp;clear hp;have hn0:(n == 0)=false:=beq_eq_false_iff_ne.2 (by omega);go_enter Tryz.func14,Tryz.ntmps14
 go_wp2
 go_ret;exact ⟨by rw [HP.out];rfl,rfl⟩
def idL (c:Nat):List Nat:=c :: List.replicate 31 0
def idB (c:Nat):ByteArray:=strB (idL c)
theorem heap_setH {W:World} {b o:Nat} {cs:Array Value} {t:TypeId} {fr:Nat×Nat} (h:W.heap[b]?=some (.cells cs t fr)) (v:Value):(W.setCell ⟨b,o,none⟩ v).heap[b]?=some (.cells (cs.setIfInBounds o v) t fr):=by
 obtain ⟨hlt,hg⟩:=gE h;simp [World.setCell,hlt,Array.getElem_modify,hg]
theorem made_32:madeCells (Value.int .u8 0).cells (32 * 1)=rowB 32 []:=by
 apply Array.ext
 ·rw [size_madeCells];simp [rowB]
 intro i h1 h2;have h3:i<32:=by rw [size_madeCells] at h1;omega
 have e1:(rowB 32 [])[i]?=some (.int .u8 0):=rowB_zero (by simp) h3;rw [Array.getElem?_eq_getElem h2] at e1;injection e1 with e1
 rw [e1];simp [madeCells,Value.cells,Nat.mod_one]
theorem mk_bytes32 (w:World):(Instr.makeSlice 135 (.int .i64 32) (.int .i64 32)).run Tryz.prog w = .ok (.slice (some ⟨w.heap.size,0,none⟩) 32 32) (w.alloc (.cells (rowB 32 []) 5)):=by
 obtain ⟨i0,hi,hz0,hz1,hz2⟩:=info_parts Tryz.infoB;have h:=run_makeSlice (P:=Tryz.prog) w 135 5 i0 (.int .u8 0) Tryz.underlying135 hi hz0 .i64 .i64 32 32 (by omega) (by omega) (by rw [hz1];decide) (by rw [hz2];decide) (by omega);rw [h,hz1,show Int.toNat 32=32 from rfl,made_32]
theorem id_row {W:World} {g c:Nat} {t:TypeId} {fr:Nat×Nat} (h:W.heap[g]?=some (.cells (rowB 32 [c]) t fr)):RowK 1 encB W (some ⟨g,0,none⟩) (idL c):=fun i x hx=>by
 refine ⟨g,0,rfl,(gE h).1,fun j u hu=>?_⟩;have hj:j=0:=by
  have:=(List.getElem?_eq_some_iff.1 hu).1;simp [encB] at this;exact this
 subst hj;simp [encB] at hu;subst hu;rw [cell_of_row W g _ _ _ _ h];rcases i with _ | i
 ·simp [idL] at hx;subst hx;exact rowB_get (by rfl)
 have hi:i+1<32:=by
  have:=(List.getElem?_eq_some_iff.1 hx).1;simpa [idL] using this
 have hx:(List.replicate 31 0)[i]?=some x:=hx;rw [List.getElem?_replicate] at hx;rw [if_pos (by omega)] at hx;injection hx with hx
 subst hx;simp only [Nat.mul_one,Nat.add_zero,Nat.zero_add];exact rowB_zero (by simp) hi
theorem id_any (c:Nat) (w:World):Calls Tryz.prog 37 #[.int .u8 (c:Int)] w fun e w'=>e = .returned (.string (idB c))∧Below w.heap.size w w':=by
 have MK:=mk_bytes32 w;obtain ⟨g,hg⟩:∃g,g=w.heap.size:=⟨_,rfl⟩;have h0:=World.alloc_heap_new w (.cells (rowB 32 []) 5);have HB:=Hd ((Below.refl _ w).alloc (Nat.le_refl _) (.cells (rowB 32 []) 5));obtain ⟨w1,hw1⟩:∃w1,w1=w.alloc (.cells (rowB 32 []) 5):=⟨_,rfl⟩;rw [←hw1] at MK h0 HB;rw [←hg] at MK h0;have c0:=cell_of_row w1 g 0 _ _ _ h0;rw [rowB_zero (by simp) (by omega)] at c0;have fz:=fun o=>frozen_of_row w1 g o _ _ h0;have h1:(w1.setCell ⟨g,0,none⟩ (.int .u8 (c:Int))).heap[g]?=some (.cells (rowB 32 [c]) 5 (0,0)):=by
  rw [heap_setH h0 _];exact congrArg _ (congrArg (fun x=>Obj.cells x _ _) (rowB_set (n:=32) (l:=[]) (by simp) c))
 have cv:=conv_row (w:=w1.setCell ⟨g,0,none⟩ (.int .u8 (c:Int))) 32 32 (l:=idL c) (by simp [idL]) (by omega) (id_row h1);have HB2:=Hd (show Below w.heap.size w (w1.setCell ⟨g,0,none⟩ (.int .u8 (c:Int))) from HB.out.setCell (by rw [hg];exact Nat.le_refl _) _);clear h0 h1 hg hw1;go_enter Tryz.func37,Tryz.ntmps37
 go_wp2
 go_ret;exact ⟨rfl,HB2.out⟩
def sameB (a b:List ByteArray):Bool:=decide (a=b)
theorem below_dn (w:World) (n:Nat):Below w.heap.size w (w.drewN n):=⟨rfl,rfl,rfl,Nat.le_refl _,fun _ _=>rfl⟩
theorem same_any (ao bo:Option Addr) (ca cb na nb:Nat) (a b:List ByteArray) (W:World) (hna:a.length=na) (hnb:b.length=nb) (hn:na≤1000000) (ha:RowK 1 encT W ao a) (hb:RowK 1 encT W bo b) :
  Calls Tryz.prog 22 #[.slice ao na ca,.slice bo nb cb] W fun e w'=>e = .returned (.bool (sameB a b))∧Below W.heap.size W w':=by
 have HA:=Hd ha;have HB:=Hd hb;have HNA:=Hd hna;have HNB:=Hd hnb;by_cases hl:na=nb
 ·subst hl;have q0:((na:Int) != (na:Int))=false:=by simp
  clear ha hb hna hnb;go_enter Tryz.func22,Tryz.ntmps22
  go_wp2
  go_loopw [5] (fun i wr=>∃k:Nat,k≤na∧i = .int .i64 k∧a.take k=b.take k∧Below W.heap.size W wr) (fun i _=>na - (intOf i).toNat)
  case atStart=>exact ⟨0,Nat.zero_le _,rfl,by simp,Below.refl _ _⟩
  case round=>
   obtain ⟨k,hk,rfl,htk,hbl⟩:=hrel;have TK:=Hd htk;have BL:=Hd hbl;clear htk hbl;by_cases hlt:k<na
   ·have hka:k<a.length:=by rw [HNA.out];exact hlt
    have hkb:k<b.length:=by rw [HNB.out];exact hlt
    obtain ⟨b1,o1,rfl,_,e1⟩:=(HA.out.later BL.out).str hka;obtain ⟨b2,o2,rfl,_,e2⟩:=(HB.out.later BL.out).str hkb;have HT:=Hd (show a[k]=b[k]→a.take (k+1)=b.take (k+1) from fun q=>by rw [List.take_succ_eq_append_getElem hka,List.take_succ_eq_append_getElem hkb,TK.out,q]);have HF:=Hd (show a[k]≠b[k]→sameB a b=false from fun q=>by unfold sameB;exact decide_eq_false (fun e=>q (by subst e;rfl)));obtain ⟨x,hx⟩:∃x,a[k]=x:=⟨_,rfl⟩;obtain ⟨y,hy⟩:∃y,b[k]=y:=⟨_,rfl⟩;rw [hx] at e1 HT HF;rw [hy] at e2 HT HF;have k0:(0:Int)≤(k:Int):=by omega
    have k1:(k:Int)<(na:Int):=by omega
    have NX:=Hd (fun (n':Nat)=>BL.out.trans ((below_dn wr n').mono BL.out.size));clear hx hy hka hkb;by_cases hxy:x=y
    ·have q1:(x.toList == y.toList)=true:=by rw [hxy];simp
     have T2:=Hd (HT.out hxy);clear hxy;go_wp2
     go_quiet (fail)
     go_wp2
     go_roundw
     case rel=>exact ⟨k+1,by omega,by go_num,T2.out,NX.out _⟩
     case measure=>simp [intOf];omega
    have q1:(x.toList == y.toList)=false:=(Lib.bytes_beq_false_iff _ _).2 hxy;have F2:=Hd (HF.out hxy);clear hxy;go_wp2
    go_quiet (fail)
    go_wp2
    go_ret;rw [F2.out];exact ⟨rfl,NX.out _⟩
   have hs:sameB a b=true:=by
    have h:=TK.out;rw [List.take_of_length_le (by rw [HNA.out];omega),List.take_of_length_le (by rw [HNB.out];omega)] at h;unfold sameB;exact decide_eq_true h
   have HS:=Hd hs;clear hs;go_wp2
   go_ret;rw [HS.out];exact ⟨rfl,BL.out⟩
 have q0:((na:Int) != (nb:Int))=true:=by simp;omega
 have HS:=Hd (show sameB a b=false by unfold sameB;exact decide_eq_false (fun e=>hl (by rw [←hna,←hnb,e])));clear ha hb hna hnb;go_enter Tryz.func22,Tryz.ntmps22
 go_wp2
 go_ret;rw [HS.out];exact ⟨rfl,Below.refl _ _⟩
end
section
open Go.RowKit
def lstN (j:Nat):List ByteArray:=if j=0 then [idB 1] else if j=1 then [idB 1,idB 2] else if j=2 then [idB 3] else [idB 9]
structure ListsAt (w W:World) (g:Nat):Prop where
 new:w.heap.size≤g∧g<W.heap.size
 cell:∀j,j<4→∃v,W.cell? ⟨g,j,none⟩=some v∧LRow (New w W) W v (lstN j)
theorem lrow_new {w W:World} {g:Nat} {l:List ByteArray} (h:W.heap[g]?=some (.cells (l.map Value.string).toArray 9 (0,0))) (hg:w.heap.size≤g):LRow (New w W) W (.slice (some ⟨g,0,none⟩) l.length l.length) l:=
 ⟨_,_,rfl,⟨(fun e=>by cases e),Nat.le_refl _⟩,.inr ⟨g,0,_,_,rfl,⟨hg,(gE h).1⟩,h,fun i p hp=>by
  rw [List.getElem?_toArray,List.getElem?_map,Nat.zero_add,hp];rfl⟩⟩
theorem up_blk {w W:World} {g:Nat} {o:Obj} (h:w.heap[g]?=some o) (hb:Below w.heap.size w W):W.heap[g]?=some o:=(hb.block g (gE h).1).trans h
theorem lists_any (w:World):Calls Tryz.prog 17 #[] w fun e w'=>∃g,e = .returned (.slice (some ⟨g,0,none⟩) 4 4)∧Below w.heap.size w w'∧ListsAt w w' g:=by
 have I1:=Hd (show ∀W,Calls Tryz.prog 37 #[.int .u8 1] W fun e w'=>e = .returned (.string (idB 1))∧Below W.heap.size W w' from fun W=>id_any 1 W);have I2:=Hd (show ∀W,Calls Tryz.prog 37 #[.int .u8 2] W fun e w'=>e = .returned (.string (idB 2))∧Below W.heap.size W w' from fun W=>id_any 2 W);have I3:=Hd (show ∀W,Calls Tryz.prog 37 #[.int .u8 3] W fun e w'=>e = .returned (.string (idB 3))∧Below W.heap.size W w' from fun W=>id_any 3 W);have I9:=Hd (show ∀W,Calls Tryz.prog 37 #[.int .u8 9] W fun e w'=>e = .returned (.string (idB 9))∧Below W.heap.size W w' from fun W=>id_any 9 W);obtain ⟨d1,h1⟩:∃d,d=idB 1:=⟨_,rfl⟩;obtain ⟨d2,h2⟩:∃d,d=idB 2:=⟨_,rfl⟩;obtain ⟨d3,h3⟩:∃d,d=idB 3:=⟨_,rfl⟩;obtain ⟨d9,h9⟩:∃d,d=idB 9:=⟨_,rfl⟩;rw [←h1] at I1;rw [←h2] at I2;rw [←h3] at I3;rw [←h9] at I9;have HD:=Hd (show lstN 0 = [d1]∧lstN 1 = [d1,d2]∧lstN 2 = [d3]∧lstN 3 = [d9] from by rw [h1,h2,h3,h9];exact ⟨rfl,rfl,rfl,rfl⟩);clear h1 h2 h3 h9;go_enter Tryz.func17,Tryz.ntmps17
 go_wp2_with (first
  | (go_at_call 37;with_reducible refine (I1.out _).mono ?_;rintro e wA ⟨rfl,BA⟩)
  | (go_at_call 37;with_reducible refine (I2.out _).mono ?_;rintro e wB ⟨rfl,BB⟩)
  | (go_at_call 37;with_reducible refine (I3.out _).mono ?_;rintro e wC ⟨rfl,BC⟩)
  | (go_at_call 37;with_reducible refine (I9.out _).mono ?_;rintro e wD ⟨rfl,BD⟩))
 rename_i w1 B1
 have A1:=(Below.refl w1.heap.size w1).alloc (Nat.le_refl _) (.cells #[.string d1] 9);have A2:=(Below.refl wB.heap.size wB).alloc (Nat.le_refl _) (.cells #[.string d1,.string d2] 9);have A3:=(Below.refl wC.heap.size wC).alloc (Nat.le_refl _) (.cells #[.string d3] 9);have A4:=(Below.refl wD.heap.size wD).alloc (Nat.le_refl _) (.cells #[.string d9] 9);have e1:=World.alloc_heap_new w1 (.cells #[.string d1] 9);have e2:=World.alloc_heap_new wB (.cells #[.string d1,.string d2] 9);have e3:=World.alloc_heap_new wC (.cells #[.string d3] 9);have e4:=World.alloc_heap_new wD (.cells #[.string d9] 9);obtain ⟨x1,hx1⟩:∃x,x=w1.alloc (.cells #[.string d1] 9):=⟨_,rfl⟩;obtain ⟨x2,hx2⟩:∃x,x=wB.alloc (.cells #[.string d1,.string d2] 9):=⟨_,rfl⟩;obtain ⟨x3,hx3⟩:∃x,x=wC.alloc (.cells #[.string d3] 9):=⟨_,rfl⟩;obtain ⟨x4,hx4⟩:∃x,x=wD.alloc (.cells #[.string d9] 9):=⟨_,rfl⟩;have z4:x4.heap.size=wD.heap.size+1:=by rw [hx4];simp
 rw [←hx1] at A1 e1 BA;rw [←hx2] at A2 e2 BC;rw [←hx3] at A3 e3 BD;rw [←hx4] at A4 e4 ⊢;clear hx1 hx2 hx3 hx4;have t1:=B1;have t2:=t1.trans (A1.mono t1.size);have t3:=t2.trans (BA.mono t2.size);have t4:=t3.trans (BB.mono t3.size);have t5:=t4.trans (A2.mono t4.size);have t6:=t5.trans (BC.mono t5.size);have t7:=t6.trans (A3.mono t6.size);have t8:=t7.trans (BD.mono t7.size);have t9:=t8.trans (A4.mono t8.size);rw [←z4];obtain ⟨cs,hcs⟩:∃cs:Array Value,cs = #[Value.slice (some ⟨w1.heap.size,0,none⟩) 1 1,Value.slice (some ⟨wB.heap.size,0,none⟩) 2 2,Value.slice (some ⟨wC.heap.size,0,none⟩) 1 1,Value.slice (some ⟨wD.heap.size,0,none⟩) 1 1]:=⟨_,rfl⟩;have A5:=(Below.refl x4.heap.size x4).alloc (Nat.le_refl _) (.cells cs 30);have e5:=World.alloc_heap_new x4 (.cells cs 30);have z5:(x4.alloc (.cells cs 30)).heap.size=x4.heap.size+1:=by simp
 rw [←hcs];obtain ⟨x5,hx5⟩:∃x,x=x4.alloc (.cells cs 30):=⟨_,rfl⟩;rw [←hx5] at A5 e5 z5 ⊢;have t10:=t9.trans (A5.mono t9.size);have f4:=up_blk e4 A5;have f3:=up_blk (up_blk (up_blk e3 BD) A4) A5;have f2:=up_blk (up_blk (up_blk (up_blk (up_blk e2 BC) A3) BD) A4) A5;have f1:=up_blk (up_blk (up_blk (up_blk (up_blk (up_blk (up_blk (up_blk e1 BA) BB) A2) BC) A3) BD) A4) A5;obtain ⟨l0,l1,l2,l3⟩:=HD.out;have hcell:=fun j=>cell_of_row x5 x4.heap.size j _ _ _ e5;go_ret;refine ⟨_,rfl,t10,⟨t9.size,by rw [z5];omega⟩,fun j hj=>?_⟩;rw [hcell,hcs];rcases j with _ | _ | _ | _ | j
 ·exact ⟨_,rfl,by rw [l0];exact lrow_new (l:=[d1]) f1 t1.size⟩
 ·exact ⟨_,rfl,by rw [l1];exact lrow_new (l:=[d1,d2]) f2 t4.size⟩
 ·exact ⟨_,rfl,by rw [l2];exact lrow_new (l:=[d3]) f3 t6.size⟩
 ·exact ⟨_,rfl,by rw [l3];exact lrow_new (l:=[d9]) f4 t8.size⟩
 omega
end
section
open Go.RowKit
def famL (j:Nat):List (List Nat):=if j=0 then [idL 1] else if j=1 then [idL 1,idL 2] else if j=2 then [idL 3] else if j=3 then [idL 9] else if j=4 then [idL 2] else if j=5 then [idL 4] else if j=6 then [idL 5] else if j=7 then [idL 6] else if j=8 then [idL 7] else []
def fam (j:Nat):List ByteArray:=(famL j).map strB
def headN (j:Nat):Nat:=[83,184,209,72,70,31,1,17,248,110].getD j 0
theorem fam_heads:((List.range 10).all fun j=>(shaW (valW (famL j))).head? == some (headN j))=true:=by decide +kernel
theorem fam_asc:((List.range 10).all fun j=>ascS (fam j))=true:=by decide +kernel
theorem fam_val:((List.range 10).all fun j=>bytesN (valS (fam j)) == valW (famL j))=true:=by decide +kernel
theorem asc_fam {j:Nat} (h:j<10):ascS (fam j)=true:=List.all_eq_true.1 fam_asc j (List.mem_range.2 h)
theorem dig_fam {j:Nat} (h:j<10):digV (fam j)=strB (shaW (valW (famL j))):=by
 rw [digV_asc (asc_fam h)];unfold digS;have:=List.all_eq_true.1 fam_val j (List.mem_range.2 h);rw [eq_of_beq this]
theorem head_fam {j:Nat} (h:j<10):∃t,(digV (fam j)).toList=UInt8.ofNat (headN j) :: t:=by
 have:=List.all_eq_true.1 fam_heads j (List.mem_range.2 h);have hh:=eq_of_beq this;rw [dig_fam h];rcases e:shaW (valW (famL j)) with _ | ⟨a,t⟩
 ·rw [e] at hh;cases hh
 rw [e] at hh;injection hh with hh
 exact ⟨t.map UInt8.ofNat,by rw [hh];simp [strB]⟩
theorem heads_ne:((List.range 10).all fun i=>(List.range 10).all fun j=>i == j || headN i != headN j)=true:=by decide
theorem head_lt:((List.range 10).all fun j=>decide (headN j<256))=true:=by decide
theorem headN_lt {j:Nat} (h:j<10):headN j<256:=of_decide_eq_true (List.all_eq_true.1 head_lt j (List.mem_range.2 h))
theorem headN_inj {i j:Nat} (hi:i<10) (hj:j<10) (e:headN i=headN j):i=j:=by
 have h:=List.all_eq_true.1 (List.all_eq_true.1 heads_ne i (List.mem_range.2 hi)) j (List.mem_range.2 hj);rw [Bool.or_eq_true] at h;rcases h with h | h
 ·exact eq_of_beq h
 rw [e] at h;simp at h
theorem u8_lt {a b:Nat} (ha:a<256) (hb:b<256):(UInt8.ofNat a<UInt8.ofNat b)↔a<b:=by
 rw [UInt8.lt_iff_toNat_lt,UInt8.toNat_ofNat',UInt8.toNat_ofNat'];omega
theorem u8_eq {a b:Nat} (ha:a<256) (hb:b<256) (e:UInt8.ofNat a=UInt8.ofNat b):a=b:=by
 have:=congrArg UInt8.toNat e;rw [UInt8.toNat_ofNat',UInt8.toNat_ofNat'] at this;omega
theorem fam_inj {i j:Nat} (hi:i<10) (hj:j<10) (e:digV (fam i)=digV (fam j)):i=j:=by
 obtain ⟨a,ha⟩:=head_fam hi;obtain ⟨b,hb⟩:=head_fam hj;rw [e,hb] at ha;injection ha with h1 _
 exact headN_inj hi hj (u8_eq (headN_lt hi) (headN_lt hj) h1.symm)
theorem bytes_lt {a b:ByteArray} {x y:Nat} {s t:List UInt8} (ha:a.toList=UInt8.ofNat x :: s) (hb:b.toList=UInt8.ofNat y :: t) (hx:x<256) (hy:y<256) (hne:x≠y):Op.bytesLess a.toList b.toList=decide (x<y):=by
 rw [ha,hb];unfold Op.bytesLess;have h1:¬UInt8.ofNat x=UInt8.ofNat y:=fun e=>hne (u8_eq hx hy e);by_cases h:x<y
 ·simp [(u8_lt hx hy).2 h,h]
 have:¬UInt8.ofNat x<UInt8.ofNat y:=fun q=>h ((u8_lt hx hy).1 q);simp [this,h,h1]
theorem bytes_irr:∀l:List UInt8,Op.bytesLess l l=false
 | []=>rfl
 | a :: l=>by unfold Op.bytesLess;simp [bytes_irr l]
theorem bytes_nil:∀l:List UInt8,Op.bytesLess l []=false
 | []=>rfl
 | a :: l=>rfl
theorem dig_size {j:Nat} (h:j<10):(digV (fam j)).size=32:=by
 rw [dig_fam h,strB_size,sha_len]
theorem fam_len {j:Nat}:(fam j).length≤60:=by
 unfold fam famL;rw [List.length_map];repeat' split
 all_goals decide
theorem fam_inj2 {i j:Nat} (hi:i<10) (hj:j<10) (e:fam i=fam j):i=j:=fam_inj hi hj (by rw [e])
def GA (d:ByteArray) (l:List ByteArray):Prop:=∃j,j<10∧l=fam j∧d=digV (fam j)
structure GFam (G:ByteArray→List ByteArray→Prop):Prop where
 law:GLaw G
 val:∀d l,G d l→ascS l=true∧d=digV l
theorem digV_size (l:List ByteArray):(digV l).size=32:=by unfold digV;rw [strB_size,sha_len]
theorem GFam.sz {G:ByteArray→List ByteArray→Prop} (gf:GFam G) (d:ByteArray) (l:List ByteArray) (h:G d l):szB d:=.inr (by rw [(gf.val d l h).2];exact digV_size l)
theorem GA.law:GLaw GA:=⟨fun d l l' ⟨i,hi,e1,e2⟩ ⟨j,hj,e3,e4⟩=>by
 have:=fam_inj hi hj (e2.symm.trans e4);rw [e1,e3,this],fun d l ⟨i,hi,e1,_⟩=>by rw [e1];exact fam_len⟩
theorem GA.gf:GFam GA:=⟨GA.law,fun d l ⟨i,hi,e1,e2⟩=>by rw [e1,e2];exact ⟨asc_fam hi,rfl⟩⟩
theorem GA.fam {j:Nat} (h:j<10):GA (digV (fam j)) (fam j):=⟨j,h,rfl,rfl⟩
theorem lst_fam {j:Nat} (h:j<4):lstN j=Go.Proofs.YtifcdjmcoibblaaGreatDoor.fam j:=by
 rcases j with _ | _ | _ | _ | j
 ·rfl
 ·rfl
 ·rfl
 ·rfl
 omega
def codeD (tab:List Nat) {z:Nat} (c:QZ z):ByteArray:=if c.val=0 then ByteArray.mk #[] else digV (fam (tab.getD (c.val - 1) 0))
def codeL (tab:List Nat) {z:Nat} (c:QZ z):List ByteArray:=if c.val=0 then [] else fam (tab.getD (c.val - 1) 0)
def tabOk (tab:List Nat):Bool:=(tab.all fun j=>decide (j<10)) && (List.range tab.length).all fun i=>(List.range tab.length).all fun j=>decide (headN (tab.getD i 0)<headN (tab.getD j 0)) == decide (i<j)
theorem code_ren {tab:List Nat} {z:Nat} (h:tabOk tab=true) (hz:tab.length=z):Ren (codeD tab:QZ z→ByteArray) (codeL tab:QZ z→List ByteArray):=by
 unfold tabOk at h;rw [Bool.and_eq_true] at h;obtain ⟨h1,h2⟩:=h;have hj:∀i,i<z→tab.getD i 0<10:=fun i hi=>by
  have:=List.all_eq_true.1 h1 (tab.getD i 0) (by rw [List.getD_eq_getElem?_getD,List.getElem?_eq_getElem (by omega)];exact List.getElem_mem _);exact of_decide_eq_true this
 have hlt:∀i j,i<z→j<z→decide (headN (tab.getD i 0)<headN (tab.getD j 0))=decide (i<j):=fun i j hi hj=>eq_of_beq (List.all_eq_true.1 (List.all_eq_true.1 h2 i (List.mem_range.2 (by omega))) j (List.mem_range.2 (by omega)));have hne:∀i j,i<z→j<z→i≠j→headN (tab.getD i 0)≠headN (tab.getD j 0):=fun i j hi hj hij e=>by
  have a:=hlt i j hi hj;have b:=hlt j i hj hi;rw [e] at a b;simp at a b;omega
 have h0:∀c:QZ z,c.val≠0→c.val - 1<z:=fun c hc=>by have:=c.isLt;omega
 have nn:∀c:QZ z,c.val≠0→∃t,(codeD tab c).toList=UInt8.ofNat (headN (tab.getD (c.val - 1) 0)) :: t:=fun c hc=>by
  unfold codeD;rw [if_neg hc];exact head_fam (hj _ (h0 c hc))
 have lt:∀a b:QZ z,Op.bytesLess (codeD tab a).toList (codeD tab b).toList=decide (a.val<b.val):=fun a b=>by
  by_cases ha:a.val=0
  ·by_cases hb:b.val=0
   ·have:codeD tab b=codeD tab a:=by unfold codeD;rw [if_pos ha,if_pos hb]
    rw [this,bytes_irr,ha,hb];rfl
   obtain ⟨t,ht⟩:=nn b hb;have:codeD tab a=ByteArray.mk #[]:=by unfold codeD;rw [if_pos ha]
   rw [this,ht,ha,show (ByteArray.mk #[]).toList = [] from by simp];have:(0<b.val):=by omega
   simp [Op.bytesLess,this]
  by_cases hb:b.val=0
  ·have:codeD tab b=ByteArray.mk #[]:=by unfold codeD;rw [if_pos hb]
   rw [this,show (ByteArray.mk #[]).toList = [] from by simp,bytes_nil,hb];rfl
  by_cases hab:a.val=b.val
  ·have:a=b:=Fin.ext hab;rw [this,bytes_irr];simp
  obtain ⟨s,hs⟩:=nn a ha;obtain ⟨t,ht⟩:=nn b hb;have ia:=h0 a ha;have ib:=h0 b hb;rw [bytes_lt hs ht (headN_lt (hj _ ia)) (headN_lt (hj _ ib)) (hne _ _ ia ib (by omega)),hlt _ _ ia ib];rw [Bool.eq_iff_iff];simp;omega
 refine ⟨fun a b e=>?_,rfl,fun a b=>lt a b,rfl⟩;have a1:=lt a b;have a2:=lt b a;rw [e,bytes_irr] at a1;rw [e,bytes_irr] at a2;have b1:=of_decide_eq_false a1.symm;have b2:=of_decide_eq_false a2.symm;exact Fin.ext (by omega)
def tab5:List Nat:=[3,0,1,2]
def tab6:List Nat:=[3,0,9,1,2]
def tab8:List Nat:=[6,7,5,4,0,2,8]
theorem ren5:Ren (codeD tab5:QZ 4→ByteArray) (codeL tab5:QZ 4→List ByteArray):=code_ren (by decide) rfl
theorem ren6:Ren (codeD tab6:QZ 5→ByteArray) (codeL tab6:QZ 5→List ByteArray):=code_ren (by decide) rfl
theorem ren8:Ren (codeD tab8:QZ 7→ByteArray) (codeL tab8:QZ 7→List ByteArray):=code_ren (by decide) rfl
end
section
open Go.RowKit
theorem okM_of_valid {m:MsgB} (h:validB m=true) (hk:m.kind=3∨m.kind=4∨m.kind=6∨m.kind=5):OkM szB m∧InM m:=by
 unfold validB at h;rw [Bool.and_eq_true] at h;obtain ⟨hs,h⟩:=h;unfold sitesB siteB at hs;simp at hs;obtain ⟨⟨⟨a1,a2⟩,⟨a3,a4⟩⟩,a5⟩:=hs;rw [if_neg (by omega),if_neg (by omega)] at h;by_cases h3:m.kind=3
 ·rw [if_pos h3] at h;unfold propOk placedB at h;simp at h;obtain ⟨⟨⟨⟨⟨⟨⟨b1,b2⟩,b3⟩,b4⟩,b5⟩,b6⟩,b7⟩,b8⟩:=h;have hd:m.dig=digS m.list:=toList_inj b8;refine ⟨⟨a1,b3,by omega,b6,by omega,.inr ?_⟩,⟨a1,a5,b1,b2,b3,by omega⟩⟩;rw [hd];unfold digS;rw [strB_size,sha_len]
 rw [if_neg h3] at h;unfold voteOk placedB at h;simp at h;obtain ⟨_,⟨⟨⟨⟨⟨b1,b2⟩,b3⟩,b4⟩,b5⟩,b6⟩,b7⟩:=h;refine ⟨⟨a1,b3,by omega,by omega,by omega,?_⟩,⟨a1,a5,b1,b2,b3,by omega⟩⟩;rcases b7 with q | q
 ·exact .inl (by simpa using q)
 exact .inr q
section
variable {G:ByteArray→List ByteArray→Prop} {s:StB}
theorem Fit.new {id n:Int} (h0:0≤id) (h1:id<n) (h7:n≤7):Fit G (newS id n):=⟨⟨new_inv szB_nil h0 h1 h7,new_G _ _ _ _⟩,new_QI _ _⟩
theorem Fit.begin' (h:Fit G s) (k:Int) {ok:Bool} {d:ByteArray} {l:List ByteArray} (hz:ok=true→szB d) (hd:ok=true→¬Shy G s.id→G d l):Fit G (s.begin k ok d l).1:=
 ⟨⟨begin_inv h.ok.inv k ok l hz,begin_G h.ok.gi k ok hd⟩,begin_QI h.qi k ok d l⟩
theorem Fit.begin (gf:GFam G) (h:Fit G s) (k:Int) {ok:Bool} {d:ByteArray} {l:List ByteArray} (hz:ok=true→szB d) (hd:ok=true→¬Shy G s.id→G d l):Fit G (s.begin k ok d l).1:=h.begin' k hz hd
theorem Fit.accept (h:Fit G s) (d:ByteArray):Fit G (s.accept d):=⟨⟨accept_inv h.ok.inv d,accept_G h.ok.gi d⟩,accept_QI h.qi d⟩
theorem Fit.learn (h:Fit G s) (k:Int) {ok:Bool} {d:ByteArray} {l:List ByteArray} (hd:ok=true→G d l):Fit G (s.learn k ok d l).1:=
 ⟨⟨learn_inv h.ok.inv k ok d l,learn_G h.ok.gi k ok hd⟩,learn_QI h.qi k ok d l⟩
theorem Fit.tick (h:Fit G s) (hm:MeekT G s):Fit G s.tick.1:=⟨⟨tick_inv h.ok.inv,tick_G h.ok.inv h.ok.gi hm⟩,tick_QI h.ok.inv⟩
theorem Fit.receive (h:Fit G s) {m:MsgB} (hm:validB m=true→m.kind=3→G m.dig m.list):Fit G (s.receive m (validB m)):=
 ⟨⟨receive_inv h.ok.inv (fun hv hk=>(okM_of_valid hv hk).1),receive_G h.ok.gi hm⟩,receive_QI h.qi h.ok.inv.num.n7 (fun hv hk=>(okM_of_valid hv hk).2)⟩
theorem Fit.out (gf:GFam G) (h:Fit G s) (hm:MeekT G s):∀m∈s.tick.2,OutM szB G s.id s.n m:=tick_out gf.sz h.ok.inv h.ok.gi hm h.qi
theorem out_valid (gf:GFam G) {me n:Int} {m:MsgB} (h:OutM szB G me n m) (h0:0≤me) (h1:me<n) (h7:n≤7):validB m=true∧m.list.length≤60∧(m.kind=3→G m.dig m.list):=by
 have hf:=h.frm;have t0:=h.t0;have t1:=h.t1;have tm:=h.tm;have b0:=h.h0;have b1:=h.h1;have b2:=h.r0;have b3:=h.r1;have hs:sitesB m=true:=by
  unfold sitesB siteB;simp;omega
 have hp:placedB m=true:=by
  unfold placedB;simp;omega
 unfold validB;rw [hs];by_cases h3:m.kind=3
 ·obtain ⟨hg,hv1,hv2⟩:=h.prop h3;obtain ⟨ea,e2⟩:=gf.val _ _ hg;rw [if_neg (by omega),if_neg (by omega),if_pos h3];refine ⟨?_,gf.law.len _ _ hg,fun _=>hg⟩;unfold propOk;rw [hp,ea,e2,digV_asc ea];simp;omega
 obtain ⟨hv,hl,hz⟩:=h.vote h3;have hl:m.list = []:=hl;rw [if_neg (by rcases h.kind with q | q | q | q <;> omega),if_neg (by rcases h.kind with q | q | q | q <;> omega),if_neg h3];refine ⟨?_,by rw [hl];exact Nat.zero_le _,fun q=>absurd q h3⟩;unfold voteOk voteB;rw [hp,hv,hl];have hk:(m.kind == 4 || m.kind == 5 || m.kind == 6)=true:=by
  rcases h.kind with q | q | q | q
  ·exact absurd q h3
  ·rw [q];rfl
  ·rw [q];rfl
  rw [q];rfl
 rw [hk];unfold szB at hz;simpa using hz
theorem MeekT.of {G:ByteArray→List ByteArray→Prop} (hG:∃d l d' l',G d l∧G d' l'∧d≠d') {s:StB}:MeekT G s:=Meek.of (fun q=>by
 obtain ⟨d,l,d',l',h1,h2,h3⟩:=hG;exact h3 (q d l d' l' h1 h2))
theorem GA_two:∃d l d' l',GA d l∧GA d' l'∧d≠d':=⟨_,_,_,_,GA.fam (j:=0) (by decide),GA.fam (j:=1) (by decide),fun e=>absurd (fam_inj (by decide) (by decide) e) (by decide)⟩
end
end
end Go.Proofs.YtifcdjmcoibblaaGreatDoor
