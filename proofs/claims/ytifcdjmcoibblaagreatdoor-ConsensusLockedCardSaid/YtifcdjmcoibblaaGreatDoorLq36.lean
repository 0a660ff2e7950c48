/- NewN Sea SanM Vot Duo -/
import Derived.Test.YtifcdjmcoibblaaGreatDoorLq21
import Derived.Test.YtifcdjmcoibblaaGreatDoorLq01
import Derived.Test.YtifcdjmcoibblaaGreatDoorLq28
import Derived.Test.YtifcdjmcoibblaaGreatDoorLq35
import Derived.Test.YtifcdjmcoibblaaGreatDoorLq05
import Derived.Test.YtifcdjmcoibblaaGreatDoorLq27
set_option linter.unusedVariables false
set_option linter.unusedSimpArgs false
set_option linter.unusedSectionVars false
set_option maxRecDepth 100000
set_option maxHeartbeats 80000000
namespace Go.Proofs.YtifcdjmcoibblaaGreatDoor
section
open Go.RowKit
theorem new_bad (id n:Int) (w:World) (h:¬(1≤n∧n≤7∧0≤id∧id<n)):Calls Tryz.prog 15 #[.int .i64 id,.int .i64 n] w fun e w'=>e = .returned (.tuple #[.pointer none,.int .i64 2])∧w'=w:=by
 by_cases h1:n<1
 ·clear h;go_enter Tryz.func15,Tryz.ntmps15
  go_wp2
  go_ret2
  exact ⟨rfl,rfl⟩
 by_cases h2:7<n
 ·clear h;go_enter Tryz.func15,Tryz.ntmps15
  go_wp2
  go_ret2
  exact ⟨rfl,rfl⟩
 by_cases h3:id<0
 ·clear h;go_enter Tryz.func15,Tryz.ntmps15
  go_wp2
  go_ret2
  exact ⟨rfl,rfl⟩
 have h4:n≤id:=by omega
 clear h;go_enter Tryz.func15,Tryz.ntmps15
 go_wp2
 go_ret2
 exact ⟨rfl,rfl⟩
def st0:List Value:=[.int .i64 0,.int .i64 0,.int .i64 0,.int .i64 0,.int .i64 0,.pointer none,.pointer none,.pointer none,.map none,.map none,.map none,.slice none 0 0,.pointer none,.map none,.slice none 0 0,.map none]
theorem pre_new (w:World) (id n:Int):PreN (fun k=>w.heap.size≤k∧k<w.heap.size+4)
  ((((w.alloc (Obj.map #[] 0)).alloc (Obj.map #[] 0)).alloc (Obj.map #[] 0)).alloc (.cells (st0 ++ [iv id,iv n,mv w.heap.size,mv (w.heap.size+1),mv (w.heap.size+1+1)]).toArray 117)) (w.heap.size+1+1+1) id n w.heap.size (w.heap.size+1) (w.heap.size+1+1) [] [] [] st0:=by
 have m0:RawMap ((((w.alloc (Obj.map #[] 0)).alloc (Obj.map #[] 0)).alloc (Obj.map #[] 0)).alloc (.cells (st0 ++ [iv id,iv n,mv w.heap.size,mv (w.heap.size+1),mv (w.heap.size+1+1)]).toArray 117)) w.heap.size []:=
  (RawMap.made w).kept (by rw [Below.heap_alloc _ _ _ (by simp only [alloc_sz];omega),Below.heap_alloc _ _ _ (by simp only [alloc_sz];omega),Below.heap_alloc _ _ _ (by simp only [alloc_sz];omega)])
 have m1:RawMap ((((w.alloc (Obj.map #[] 0)).alloc (Obj.map #[] 0)).alloc (Obj.map #[] 0)).alloc (.cells (st0 ++ [iv id,iv n,mv w.heap.size,mv (w.heap.size+1),mv (w.heap.size+1+1)]).toArray 117)) (w.heap.size+1) []:=by
  have:=RawMap.made (w.alloc (Obj.map #[] 0));simp only [alloc_sz] at this;exact this.kept (by rw [Below.heap_alloc _ _ _ (by simp only [alloc_sz];omega),Below.heap_alloc _ _ _ (by simp only [alloc_sz];omega)])
 have m2:RawMap ((((w.alloc (Obj.map #[] 0)).alloc (Obj.map #[] 0)).alloc (Obj.map #[] 0)).alloc (.cells (st0 ++ [iv id,iv n,mv w.heap.size,mv (w.heap.size+1),mv (w.heap.size+1+1)]).toArray 117)) (w.heap.size+1+1) []:=by
  have:=RawMap.made ((w.alloc (Obj.map #[] 0)).alloc (Obj.map #[] 0));simp only [alloc_sz] at this;exact this.kept (Below.heap_alloc _ _ _ (by simp only [alloc_sz];omega))
 refine ⟨rfl,?_,⟨by omega,by omega⟩,⟨[],m0,.nil⟩,m1,m2,by (simp only [List.nodup_cons,List.mem_cons,List.not_mem_nil,or_false,not_or,List.nodup_nil];repeat' (first | omega | refine And.intro ?_ ?_ | trivial)),fun b hb=>?_,fun k hk=>by simp only [alloc_sz];omega⟩
 ·have:=World.alloc_heap_new (((w.alloc (Obj.map #[] 0)).alloc (Obj.map #[] 0)).alloc (Obj.map #[] 0)) (.cells (st0 ++ [iv id,iv n,mv w.heap.size,mv (w.heap.size+1),mv (w.heap.size+1+1)]).toArray 117);simp only [alloc_sz] at this;exact this
 simp only [List.mem_cons,List.not_mem_nil,or_false] at hb;rcases hb with rfl | rfl | rfl <;> constructor <;> omega
def Fresh (w:World) (x:Nat) (s:StB) (w':World):Prop:=∃p R,NodeP R w' x p s∧(∀k,R k→w.heap.size≤k)∧Below w.heap.size w w'
theorem new_any (id n:Int) (w:World) (h1:1≤n) (h7:n≤7) (hi:0≤id) (hin:id<n):Calls Tryz.prog 15 #[.int .i64 id,.int .i64 n] w fun e w'=>∃x,e = .returned (.tuple #[pv x,.int .i64 0])∧Fresh w x (newS id n) w':=by
 have hmm:=@run_makeMap Tryz.prog;have MV:=Hd (move_any (pre_new w id n) h1 h7 0 0 (newS id n) ⟨rfl,rfl,rfl,rfl,rfl⟩);have q1:¬n<1:=by omega
 have q2:¬ 7<n:=by omega
 have q3:¬id<0:=by omega
 have q4:¬n≤id:=by omega
 clear h1 h7 hi hin;unfold pv iv mv st0 at *;simp only [List.cons_append,List.nil_append] at MV;go_enter Tryz.func15,Tryz.ntmps15
 go_wp2_with fail
 refine MV.out.mono ?_;rintro e w1 ⟨rfl,p,R,hn,hc,hg⟩;have HN:=Hd hn;have HC:=Hd hc;have HG:=Hd hg;clear hn hc hg;go_wp2
 go_ret2
 refine ⟨_,rfl,p,R,HN.out,fun k hk=>?_,?_⟩
 ·rcases HG.out.2 k hk with q | q
  ·exact q.1
  simp only [alloc_sz] at q;omega
 refine (((((Below.refl w.heap.size w).alloc (Nat.le_refl _) _).alloc (by simp only [alloc_sz];omega) _).alloc (by simp only [alloc_sz];omega) _).alloc (by simp only [alloc_sz];omega) _).trans (HC.out.below (by simp only [alloc_sz];omega) (fun k hk=>hk.1))
end
section
open Go.RowKit
def Asd (n:Nat) (Rs:Nat→Nat→Prop) (w:World) (k:Nat):Prop:=k<w.heap.size∧¬AllR n Rs k
structure Sail (G:ByteArray→List ByteArray→Prop) (base:Nat) (w:World) (xs:List Nat) (Rs:Nat→Nat→Prop) (w':World) (ss':List StB) (Rs':Nat→Nat→Prop):Prop where
 net:Net G base w' xs ss' Rs'
 chg:Chg (AllR xs.length Rs) w w'
 grow:∀k,AllR xs.length Rs' k→AllR xs.length Rs k∨w.heap.size≤k
 up:∀k,AllR xs.length Rs k→AllR xs.length Rs' k
section
variable {G:ByteArray→List ByteArray→Prop} {base:Nat} {w w' w'':World} {xs:List Nat} {ss ss' ss'':List StB} {Rs Rs' Rs'':Nat→Nat→Prop}
theorem Sail.asd (h:Sail G base w xs Rs w' ss' Rs') {k:Nat} (hk:Asd xs.length Rs w k):Asd xs.length Rs' w' k:=
 ⟨Nat.lt_of_lt_of_le hk.1 h.chg.size,fun hr=>by
  rcases h.grow k hr with q | q
  ·exact hk.2 q
  have:=hk.1;omega⟩
theorem Sail.blk (h:Sail G base w xs Rs w' ss' Rs') {k:Nat} (hk:Asd xs.length Rs w k):w'.heap[k]?=w.heap[k]?:=h.chg.block k hk.1 hk.2
theorem Sail.row (h:Sail G base w xs Rs w' ss' Rs') {v:Value} {l:List ByteArray} (hl:LRow (Asd xs.length Rs w) w v l):LRow (Asd xs.length Rs' w') w' v l:=
 (hl.kept (fun g cur fr hr _=>h.blk hr)).mono (fun k hk=>h.asd hk)
theorem Sail.glob (h:Sail G base w xs Rs w' ss' Rs') (hN:Net G base w xs ss Rs) (hb:0<base) (hw:0<w.heap.size) (hG:Glob w):Glob w':=by
 obtain ⟨t,ht⟩:=hG;refine ⟨t,?_⟩;rw [h.blk ⟨hw,fun hr=>by have:=hN.low hr;omega⟩];exact ht
theorem Sail.refl (hN:Net G base w xs ss Rs):Sail G base w xs Rs w ss Rs:=⟨hN,⟨rfl,rfl,rfl,Nat.le_refl _,fun _ _ _=>rfl⟩,fun k hk=>.inl hk,fun k hk=>hk⟩
theorem Sail.trans (h:Sail G base w xs Rs w' ss' Rs') (h2:Sail G base w' xs Rs' w'' ss'' Rs''):Sail G base w xs Rs w'' ss'' Rs'':=
 ⟨h2.net,h.chg.trans (h2.chg.mono (fun k _ hk=>h.grow k hk)),fun k hk=>by
  rcases h2.grow k hk with q | q
  ·exact h.grow k q
  exact .inr (Nat.le_trans h.chg.size q),fun k hk=>h2.up k (h.up k hk)⟩
theorem Sail.later (h:Sail G base w xs Rs w' ss' Rs') (hb:Below w'.heap.size w' w''):Sail G base w xs Rs w'' ss' Rs':=
 ⟨h.net.later hb,h.chg.trans (Chg.of_below hb (fun k h1 h2=>absurd h1 (by omega))),h.grow,h.up⟩
theorem Asd.later {n k:Nat} (hk:Asd n Rs w k) (hb:w.heap.size≤w'.heap.size):Asd n Rs w' k:=⟨Nat.lt_of_lt_of_le hk.1 hb,hk.2⟩
theorem Asd.fresh (hN:Net G base w xs ss Rs) {k:Nat} (h:New w w' k):Asd xs.length Rs w' k:=⟨h.2,fun hr=>by have:=hN.lt hr;have:=h.1;omega⟩
theorem LRow.aside (hN:Net G base w xs ss Rs) {v:Value} {l:List ByteArray} (h:LRow (New w w') w' v l):LRow (Asd xs.length Rs w') w' v l:=h.mono (fun k hk=>Asd.fresh hN hk)
theorem LRow.asLater {n:Nat} {v:Value} {l:List ByteArray} (h:LRow (Asd n Rs w) w v l) (hb:Below w.heap.size w w'):LRow (Asd n Rs w') w' v l:=
 (h.kept (fun g cur fr hr _=>hb.block g hr.1)).mono (fun k hk=>hk.later hb.size)
variable {i x:Nat} {s:StB}
theorem Net.idx (hN:Net G base w xs ss Rs) (hx:xs[i]?=some x) (hs:ss[i]?=some s):Fit G s:=hN.fit s (List.mem_of_getElem? hs)
theorem Net.sail (hN:Net G base w xs ss Rs) (hb:base≤w.heap.size) (hx:xs[i]?=some x) {s':StB} {R':Nat→Prop} (h:Step (Rs i) w x s' w' R') (hf:Fit G s'):Sail G base w xs Rs w' (ss.set i s') (fun j=>if j=i then R' else Rs j):=by
 have hi:=(List.getElem?_eq_some_iff.1 hx).1;exact ⟨hN.step hb hx h hf,AllR.chg hi h.2.1,fun k hk=>AllR.step hi h.2.2 hk,fun k ⟨j,hj,hr⟩=>⟨j,hj,by
  show (if j=i then R' else Rs j) k;by_cases q:j=i
  ·rw [if_pos q];subst q;exact h.2.2.1 k hr
  rw [if_neg q];exact hr⟩⟩
theorem ntick (gf:GFam G) (hN:Net G base w xs ss Rs) (hb:base≤w.heap.size) (hx:xs[i]?=some x) (hs:ss[i]?=some s) (hT:s.ticks≤1000000000000) :
  Calls Tryz.prog 18 #[pv x] w fun e w'=>∃v Rs',e = .returned v∧Sail G base w xs Rs w' (ss.set i s.tick.1) Rs'∧OutR (AllR xs.length Rs') w w' v s.tick.2:=by
 obtain ⟨p,hp⟩:=hN.node i x s hx hs;have hf:=hN.idx hx hs;refine (tick_any hp hf.ok gf.law hf.qi.q hT).mono ?_;rintro e w' ⟨v,R',rfl,h1,h2,h3,h4⟩;refine ⟨v,_,rfl,hN.sail hb hx ⟨h1,h2,h3⟩ hf.tick,h4.other (fun k hk k1 k2=>?_)⟩;obtain ⟨j,hj,hr⟩:=hk;by_cases q:j=i
 ·rw [if_pos q] at hr;exact hr
 rw [if_neg q] at hr;have:=hN.lt ⟨j,hj,hr⟩;omega
theorem nrecv {R0:Nat→Prop} {v:Value} {m:MsgB} (gf:GFam G) (hN:Net G base w xs ss Rs) (hb:base≤w.heap.size) (hx:xs[i]?=some x) (hs:ss[i]?=some s) (hm:MsgV R0 w v m) (h0:∀k,R0 k→k<w.heap.size) (hl:m.list.length≤60) (hG:Glob w) (hv:validB m=true→m.kind=3→G m.dig m.list) :
  Calls Tryz.prog 20 #[pv x,v] w fun e w'=>e = .returned (.tuple #[])∧∃Rs',Sail G base w xs Rs w' (ss.set i (s.receive m (validB m))) Rs':=by
 obtain ⟨p,hp⟩:=hN.node i x s hx hs;have hf:=hN.idx hx hs;refine (receive_any hp hm h0 hl hG hf.ok.inv.num (Nat.le_trans hf.ok.inv.order_len.1 (by omega))).mono ?_;rintro e w' ⟨rfl,h1⟩;obtain ⟨R',h2⟩:=h1.step;exact ⟨rfl,_,hN.sail hb hx h2 (hf.receive hv)⟩
theorem nbegin {R0:Nat→Prop} {v:Value} {l:List ByteArray} (gf:GFam G) (hN:Net G base w xs ss Rs) (hb:base≤w.heap.size) (hx:xs[i]?=some x) (hs:ss[i]?=some s) (hr:LRow R0 w v l) (h0:∀k,R0 k→k<w.heap.size) (hl:l.length≤60) (hG:Glob w) (hv:ascS l=true→G (digV l) l) (height:Int) :
  Calls Tryz.prog 16 #[pv x,iv height,v] w fun e w'=>e = .returned (errE (s.begin height (ascS l) (digV l) l).2)∧∃Rs',Sail G base w xs Rs w' (ss.set i (s.begin height (ascS l) (digV l) l).1) Rs':=by
 obtain ⟨p,hp⟩:=hN.node i x s hx hs;have hf:=hN.idx hx hs;refine (begin_any hp hr h0 hl hG hf.ok.inv.num height).mono ?_;rintro e w' ⟨rfl,h1⟩;obtain ⟨R',h2⟩:=h1.step;exact ⟨rfl,_,hN.sail hb hx h2 (hf.begin gf height hv)⟩
theorem naccept (hN:Net G base w xs ss Rs) (hb:base≤w.heap.size) (hx:xs[i]?=some x) (hs:ss[i]?=some s) (d:ByteArray) :
  Calls Tryz.prog 25 #[pv x,.string d] w fun e w'=>e = .returned (.tuple #[])∧∃Rs',Sail G base w xs Rs w' (ss.set i (s.accept d)) Rs':=by
 obtain ⟨p,hp⟩:=hN.node i x s hx hs;have hf:=hN.idx hx hs;refine (accept_any hp d).mono ?_;rintro e w' ⟨rfl,h1⟩;obtain ⟨R',h2⟩:=h1.step;exact ⟨rfl,_,hN.sail hb hx h2 (hf.accept d)⟩
theorem ndecided (gf:GFam G) (hN:Net G base w xs ss Rs) (hx:xs[i]?=some x) (hs:ss[i]?=some s) (k:Int) :
  Calls Tryz.prog 21 #[pv x,iv k] w fun e w'=>DecE w (getA k s.decs) e w'∧Below w.heap.size w w':=by
 obtain ⟨p,hp⟩:=hN.node i x s hx hs;exact decided_any hp k (decs_len (hN.idx hx hs).ok gf.law k)
theorem nlock (gf:GFam G) (hN:Net G base w xs ss Rs) (hx:xs[i]?=some x) (hs:ss[i]?=some s) :
  Calls Tryz.prog 31 #[pv x] w fun e w'=>LockE w s.lock e w'∧Below w.heap.size w w':=by
 obtain ⟨p,hp⟩:=hN.node i x s hx hs;have hf:=hN.idx hx hs;exact lock_any hp (fun v hv=>Nat.le_trans (gf.law.len _ _ (hf.ok.gi.lg v hv)) (by omega))
theorem nround (hN:Net G base w xs ss Rs) (hx:xs[i]?=some x) (hs:ss[i]?=some s) :
  Calls Tryz.prog 23 #[pv x] w fun e w'=>e = .returned (.int .i64 s.round)∧w'=w:=by
 obtain ⟨p,hp⟩:=hN.node i x s hx hs;exact round_any hp
theorem nheight (hN:Net G base w xs ss Rs) (hx:xs[i]?=some x) (hs:ss[i]?=some s) :
  Calls Tryz.prog 24 #[pv x] w fun e w'=>e = .returned (.int .i64 s.height)∧w'=w:=by
 obtain ⟨p,hp⟩:=hN.node i x s hx hs;exact height_any hp
theorem nnew (hN:Net G base w xs ss Rs) (hb:base≤w.heap.size) {id n:Int} (h1:1≤n) (h7:n≤7) (hi:0≤id) (hin:id<n) :
  Calls Tryz.prog 15 #[.int .i64 id,.int .i64 n] w fun e w'=>∃x Rs',e = .returned (.tuple #[pv x,.int .i64 0])∧Net G base w' (xs ++ [x]) (ss ++ [newS id n]) Rs'∧Below w.heap.size w w'∧(∀k,AllR (xs ++ [x]).length Rs' k→AllR xs.length Rs k∨w.heap.size≤k):=by
 refine (new_any id n w h1 h7 hi hin).mono ?_;rintro e w' ⟨x,rfl,p,R,hp,hR,hbl⟩;refine ⟨x,_,rfl,hN.push hbl hp hR (Fit.new hi hin h7) hb,hbl,fun k hk=>?_⟩;obtain ⟨j,hj,hr⟩:=hk;rw [List.length_append,List.length_singleton] at hj;by_cases q:j<xs.length
 ·rw [if_pos q] at hr;exact .inl ⟨j,q,hr⟩
 rw [if_neg q] at hr;exact .inr (hR k hr)
end
end
section
open Go.RowKit
def rn (q:S6):StB:=q.ren (codeD tab6) (codeL tab6)
theorem d4:codeD tab6 (4:QZ 5)=digV (fam 1):=by unfold codeD;rw [if_neg (by decide)];rfl
theorem l4:codeL tab6 (4:QZ 5)=fam 1:=by unfold codeL;rw [if_neg (by decide)];rfl
theorem d3:codeD tab6 (3:QZ 5)=digV (fam 9):=by unfold codeD;rw [if_neg (by decide)];rfl
theorem l3:codeL tab6 (3:QZ 5)=fam 9:=by unfold codeL;rw [if_neg (by decide)];rfl
theorem fam9:fam 9 = []:=rfl
theorem rn_begin1 (q:S6) (h:Int):(rn q).begin h (ascS (fam 1)) (digV (fam 1)) (fam 1)=(rn (q.begin h true 4 4).1,(q.begin h true 4 4).2):=by
 rw [asc_fam (by omega),←d4,←l4];exact begin_ren ren6 q h true 4 4
theorem rn_begin9 (q:S6) (h:Int):(rn q).begin h (ascS []) (digV []) []=(rn (q.begin h true 3 3).1,(q.begin h true 3 3).2):=by
 rw [←fam9,asc_fam (by omega),←d3,←l3];exact begin_ren ren6 q h true 3 3
theorem rn_tick (q:S6):(rn q).tick.1=rn q.tick.1∧(rn q).tick.2.length=q.tick.2.length:=by
 unfold rn;rw [tick_ren ren6];exact ⟨rfl,List.length_map _⟩
theorem rn_new (id n:Int):(newS id n:StB)=rn (newS id n):=rfl
def vM (kind frm:Int):MsgB:=⟨kind,frm,0,0,0,0,digV (fam 1),[]⟩
theorem vM_valid {kind frm:Int} (h:kind=4∨kind=5∨kind=6) (h1:1≤frm) (h2:frm<7):validB (vM kind frm)=true:=by
 have hs:sitesB (vM kind frm)=true:=by
  unfold sitesB siteB vM;simp;omega
 have hv:voteOk (vM kind frm)=true:=by
  unfold voteOk placedB vM;simp [digV_size]
 unfold validB;rw [hs,hv];have k1:(vM kind frm).kind=kind:=rfl;rw [k1,if_neg (by omega),if_neg (by omega),if_neg (by omega)];unfold voteB;rcases h with q | q | q <;> rw [q] <;> rfl
theorem rn_recv (q:S6) {kind frm:Int} (h:kind=4∨kind=5∨kind=6) (h1:1≤frm) (h2:frm<7):(rn q).receive (vM kind frm) (validB (vM kind frm))=rn (q.receive (vq kind frm 4) true):=by
 rw [vM_valid h h1 h2];have e:vM kind frm=(vq kind frm 4).ren (codeD tab6) (codeL tab6):=by
  show (⟨kind,frm,0,0,0,0,digV (fam 1),[]⟩:MsgB)=⟨kind,frm,0,0,0,0,codeD tab6 (4:QZ 5),codeL tab6 (0:QZ 5)⟩;rw [d4];rfl
 rw [e];exact receive_ren ren6 q _ true
theorem rn_dec (q:S6) (h:(match getA 0 q.decs with | some v=>decide (v.list=4) | none=>false)=true):∃v,getA 0 (rn q).decs=some v∧v.list=fam 1:=by
 rcases e:getA 0 q.decs with _ | v
 ·rw [e] at h;cases h
 rw [e] at h;refine ⟨v.ren (codeD tab6) (codeL tab6),?_,?_⟩
 ·show getA 0 (mapV _ q.decs)=_;rw [getA_ren,e];rfl
 show codeL tab6 v.list=fam 1;rw [of_decide_eq_true h,l4]
theorem rn_undec (q:S6) (h:(getA 0 q.decs).isNone=true):getA 0 (rn q).decs=none:=by
 show getA 0 (mapV _ q.decs)=_;rw [getA_ren];rcases e:getA 0 q.decs with _ | v
 ·rfl
 rw [e] at h;cases h
theorem rn_lock (q:S6) (h:isV q.lock 0 4=true):∃v,(rn q).lock=some v∧v.round=0∧v.list=fam 1:=by
 unfold isV at h;rcases e:q.lock with _ | v
 ·rw [e] at h;cases h
 rw [e] at h;simp at h;refine ⟨v.ren (codeD tab6) (codeL tab6),?_,h.1,?_⟩
 ·show q.lock.map _=_;rw [e];rfl
 show codeL tab6 v.list=fam 1;rw [h.2,l4]
end
section
open Go.RowKit
theorem vote_any (kind frm:Int) (d:ByteArray) (w:World):Calls Tryz.prog 60 #[iv kind,iv frm,.string d] w fun e w'=>e = .returned (.agg (encM ⟨kind,frm,0,0,0,0,d,[]⟩ (.slice none 0 0)))∧Below w.heap.size w w':=by
 unfold iv encM;go_enter Tryz.func60,Tryz.ntmps60
 go_wp2
 have hrow:=World.alloc_heap_new w (.cells #[.int .i64 kind,.int .i64 frm,.int .i64 0,.int .i64 0,.int .i64 0,.int .i64 0,.string d,.slice none 0 0] 36);have hbel:=(Below.refl _ w).alloc (Nat.le_refl _) (.cells #[.int .i64 kind,.int .i64 frm,.int .i64 0,.int .i64 0,.int .i64 0,.int .i64 0,.string d,.slice none 0 0] 36);exact bodyPost_ret (results_cell_row rfl _ _ w.heap.size _ _ _ _ rfl hrow Tryz.underlying36 rfl (by kernel_rfl)) rfl ⟨rfl,hbel⟩
end
section
open Go.RowKit
structure Duo (base:Nat) (w5:World) (xo xx:Nat) (R5:Nat→Nat→Prop) (W:World) (a b:S6) (vs:List Value):Prop where
 sail:∃Rk,Sail GA base w5 [xo,xx] R5 W [rn a,rn b] Rk∧∀v∈vs,LRow (Asd [xo,xx].length Rk W) W v (fam 1)
 pos:0<base
 le:base≤w5.heap.size
 net:∃ss,Net GA base w5 [xo,xx] ss R5
 glob:Glob w5
section
variable {base:Nat} {w5 W W':World} {xo xx:Nat} {R5:Nat→Nat→Prop} {a b:S6} {vs:List Value}
theorem Duo.size (h:Duo base w5 xo xx R5 W a b vs):base≤W.heap.size:=by
 obtain ⟨Rk,hs,hv⟩:=h.sail;exact Nat.le_trans h.le hs.chg.size
theorem Duo.gl (h:Duo base w5 xo xx R5 W a b vs):Glob W:=by
 obtain ⟨Rk,hs,hv⟩:=h.sail;obtain ⟨ss,hn⟩:=h.net;exact hs.glob hn h.pos (by have:=h.le;have:=h.pos;omega) h.glob
theorem Duo.later (h:Duo base w5 xo xx R5 W a b vs) (hb:Below W.heap.size W W'):Duo base w5 xo xx R5 W' a b vs:=by
 obtain ⟨Rk,hs,hv⟩:=h.sail;exact ⟨⟨Rk,hs.later hb,fun v q=>(hv v q).asLater hb⟩,h.pos,h.le,h.net,h.glob⟩
theorem Duo.below (h:Duo base w5 xo xx R5 W a b vs):Below base w5 W:=by
 obtain ⟨Rk,hs,hv⟩:=h.sail;obtain ⟨ss,hn⟩:=h.net;exact hs.chg.below h.le (fun k hk=>hn.low hk)
theorem Duo.step {ss:List StB} {Rk Rs:Nat→Nat→Prop} (h:Duo base w5 xo xx R5 W a b vs) (hs:Sail GA base w5 [xo,xx] R5 W [rn a,rn b] Rk) (hv:∀v∈vs,LRow (Asd [xo,xx].length Rk W) W v (fam 1)) {a' b':S6} (h2:Sail GA base W [xo,xx] Rk W' ss Rs) (e:ss = [rn a',rn b']):Duo base w5 xo xx R5 W' a' b' vs:=
 ⟨⟨Rs,hs.trans (e ▸ h2),fun v q=>h2.row (hv v q)⟩,h.pos,h.le,h.net,h.glob⟩
theorem out_slice {Z:Nat→Prop} {w W:World} {v:Value} {ms:List MsgB} (h:OutR Z w W v ms):∃ao cap,v = .slice ao ms.length cap:=by
 obtain ⟨sls,h1,h2,h3⟩:=h;rcases h2.2 with ⟨e,h0⟩ | ⟨g,c,_,e,_⟩
 ·exact ⟨none,0,by rw [e,h0]⟩
 exact ⟨_,_,e⟩
theorem duo_tick1 (h:Duo base w5 xo xx R5 W a b vs) (hT:b.ticks≤1000):Calls Tryz.prog 18 #[pv xx] W fun e w'=>(∃ao cap,e = .returned (.slice ao b.tick.2.length cap))∧Duo base w5 xo xx R5 w' a b.tick.1 vs:=by
 obtain ⟨Rk,hs,hv⟩:=h.sail;refine (ntick GA.gf hs.net h.size (i:=1) rfl rfl (by show b.ticks≤_;omega)).mono ?_;rintro e w' ⟨v,Rs,rfl,h2,ho⟩;obtain ⟨ao,cap,rfl⟩:=out_slice ho;rw [(rn_tick b).2];exact ⟨⟨ao,cap,rfl⟩,h.step hs hv h2 (by rw [(rn_tick b).1];rfl)⟩
theorem duo_tick0 (h:Duo base w5 xo xx R5 W a b vs) (hT:a.ticks≤1000):Calls Tryz.prog 18 #[pv xo] W fun e w'=>(∃ao cap,e = .returned (.slice ao a.tick.2.length cap))∧Duo base w5 xo xx R5 w' a.tick.1 b vs:=by
 obtain ⟨Rk,hs,hv⟩:=h.sail;refine (ntick GA.gf hs.net h.size (i:=0) rfl rfl (by show a.ticks≤_;omega)).mono ?_;rintro e w' ⟨v,Rs,rfl,h2,ho⟩;obtain ⟨ao,cap,rfl⟩:=out_slice ho;rw [(rn_tick a).2];exact ⟨⟨ao,cap,rfl⟩,h.step hs hv h2 (by rw [(rn_tick a).1];rfl)⟩
theorem duo_recv (h:Duo base w5 xo xx R5 W a b vs) {kind frm:Int} (hk:kind=4∨kind=5∨kind=6) (h1:1≤frm) (h7:frm<7):Calls Tryz.prog 20 #[pv xx,.agg (encM (vM kind frm) (.slice none 0 0))] W fun e w'=>e = .returned (.tuple #[])∧Duo base w5 xo xx R5 w' a (b.receive (vq kind frm 4) true) vs:=by
 obtain ⟨Rk,hs,hv⟩:=h.sail;refine (nrecv (R0:=fun _=>False) (m:=vM kind frm) GA.gf hs.net h.size (i:=1) rfl rfl ⟨_,rfl,LRow.nil _ _⟩ (fun k hk=>hk.elim) (by show 0≤60;omega) h.gl (fun _ q=>by
  have:kind=3:=q;omega)).mono ?_
 rintro e w' ⟨rfl,Rs,h2⟩;exact ⟨rfl,h.step hs hv h2 (by rw [rn_recv b hk h1 h7];rfl)⟩
theorem duo_begin1 {v:Value} (h:Duo base w5 xo xx R5 W a b vs) (hm:v∈vs) (k:Int):Calls Tryz.prog 16 #[pv xx,iv k,v] W fun e w'=>e = .returned (errE (b.begin k true 4 4).2)∧Duo base w5 xo xx R5 w' a (b.begin k true 4 4).1 vs:=by
 obtain ⟨Rk,hs,hv⟩:=h.sail;refine (nbegin GA.gf hs.net h.size (i:=1) rfl rfl (hv v hm) (fun _ hk=>hk.1) fam_len h.gl (fun _=>GA.fam (by omega)) k).mono ?_;rintro e w' ⟨rfl,Rs,h2⟩;rw [rn_begin1] at h2 ⊢;exact ⟨rfl,h.step hs hv h2 rfl⟩
theorem duo_begin0 {v:Value} (h:Duo base w5 xo xx R5 W a b vs) (hm:v∈vs) (k:Int):Calls Tryz.prog 16 #[pv xo,iv k,v] W fun e w'=>e = .returned (errE (a.begin k true 4 4).2)∧Duo base w5 xo xx R5 w' (a.begin k true 4 4).1 b vs:=by
 obtain ⟨Rk,hs,hv⟩:=h.sail;refine (nbegin GA.gf hs.net h.size (i:=0) rfl rfl (hv v hm) (fun _ hk=>hk.1) fam_len h.gl (fun _=>GA.fam (by omega)) k).mono ?_;rintro e w' ⟨rfl,Rs,h2⟩;rw [rn_begin1] at h2 ⊢;exact ⟨rfl,h.step hs hv h2 rfl⟩
theorem duo_begin9 (h:Duo base w5 xo xx R5 W a b vs) (k:Int):Calls Tryz.prog 16 #[pv xx,iv k,.slice none 0 0] W fun e w'=>e = .returned (errE (b.begin k true 3 3).2)∧Duo base w5 xo xx R5 w' a (b.begin k true 3 3).1 vs:=by
 obtain ⟨Rk,hs,hv⟩:=h.sail;refine (nbegin GA.gf hs.net h.size (i:=1) (R0:=fun _=>False) rfl rfl (LRow.nil _ _) (fun k hk=>hk.elim) (by simp) h.gl (fun _=>⟨9,by omega,rfl,rfl⟩) k).mono ?_;rintro e w' ⟨rfl,Rs,h2⟩;rw [rn_begin9] at h2 ⊢;exact ⟨rfl,h.step hs hv h2 rfl⟩
theorem Duo.row (h:Duo base w5 xo xx R5 W a b vs) {v:Value} (hm:v∈vs):∃R0:Nat→Prop,LRow R0 W v (fam 1):=by
 obtain ⟨Rk,hs,hv⟩:=h.sail;exact ⟨_,hv v hm⟩
theorem Duo.add (h:Duo base w5 xo xx R5 W a b vs) (hb:Below W.heap.size W W') {v:Value} (hr:LRow (New W W') W' v (fam 1)):Duo base w5 xo xx R5 W' a b (v :: vs):=by
 obtain ⟨Rk,hs,hv⟩:=h.sail;refine ⟨⟨Rk,hs.later hb,fun u q=>?_⟩,h.pos,h.le,h.net,h.glob⟩;rcases List.mem_cons.1 q with rfl | q
 ·exact hr.aside hs.net
 exact (hv u q).asLater hb
theorem duo_dec1 (h:Duo base w5 xo xx R5 W a b vs) (hd:(match getA 0 b.decs with | some v=>decide (v.list=4) | none=>false)=true):Calls Tryz.prog 21 #[pv xx,iv 0] W fun e w'=>∃ao cap,e = .returned (.tuple #[.slice ao (fam 1).length cap,.bool true])∧Duo base w5 xo xx R5 w' a b (.slice ao (fam 1).length cap :: vs):=by
 obtain ⟨Rk,hs,hv⟩:=h.sail;obtain ⟨v,e1,e2⟩:=rn_dec b hd;refine (ndecided GA.gf hs.net (i:=1) rfl rfl 0).mono ?_;rintro e w' ⟨h2,hb⟩;rw [e1] at h2;obtain ⟨u,rfl,hr⟩:=h2;rw [e2] at hr;obtain ⟨ao,cap,rfl,_⟩:=id hr;exact ⟨ao,cap,rfl,h.add hb hr⟩
theorem duo_dec0 (h:Duo base w5 xo xx R5 W a b vs) (hd:(match getA 0 a.decs with | some v=>decide (v.list=4) | none=>false)=true):Calls Tryz.prog 21 #[pv xo,iv 0] W fun e w'=>∃ao cap,e = .returned (.tuple #[.slice ao (fam 1).length cap,.bool true])∧Duo base w5 xo xx R5 w' a b (.slice ao (fam 1).length cap :: vs):=by
 obtain ⟨Rk,hs,hv⟩:=h.sail;obtain ⟨v,e1,e2⟩:=rn_dec a hd;refine (ndecided GA.gf hs.net (i:=0) rfl rfl 0).mono ?_;rintro e w' ⟨h2,hb⟩;rw [e1] at h2;obtain ⟨u,rfl,hr⟩:=h2;rw [e2] at hr;obtain ⟨ao,cap,rfl,_⟩:=id hr;exact ⟨ao,cap,rfl,h.add hb hr⟩
theorem duo_undec (h:Duo base w5 xo xx R5 W a b vs) (hd:(getA 0 b.decs).isNone=true):Calls Tryz.prog 21 #[pv xx,iv 0] W fun e w'=>e = .returned (.tuple #[.slice none 0 0,.bool false])∧Duo base w5 xo xx R5 w' a b vs:=by
 obtain ⟨Rk,hs,hv⟩:=h.sail;refine (ndecided GA.gf hs.net (i:=1) rfl rfl 0).mono ?_;rintro e w' ⟨h2,hb⟩;rw [rn_undec b hd] at h2;exact ⟨h2,h.later hb⟩
theorem duo_lock (h:Duo base w5 xo xx R5 W a b vs) (hd:isV b.lock 0 4=true):Calls Tryz.prog 31 #[pv xx] W fun e w'=>∃ao cap,e = .returned (.tuple #[.int .i64 0,.slice ao (fam 1).length cap])∧Duo base w5 xo xx R5 w' a b (.slice ao (fam 1).length cap :: vs):=by
 obtain ⟨Rk,hs,hv⟩:=h.sail;obtain ⟨v,e1,e0,e2⟩:=rn_lock b hd;refine (nlock GA.gf hs.net (i:=1) rfl rfl).mono ?_;rintro e w' ⟨h2,hb⟩;rw [e1] at h2;obtain ⟨u,rfl,hr⟩:=h2;rw [e2] at hr;rw [e0];obtain ⟨ao,cap,rfl,_⟩:=id hr;exact ⟨ao,cap,rfl,h.add hb hr⟩
theorem duo_height (h:Duo base w5 xo xx R5 W a b vs):Calls Tryz.prog 24 #[pv xx] W fun e w'=>e = .returned (.int .i64 b.height)∧w'=W:=by
 obtain ⟨Rk,hs,hv⟩:=h.sail;exact nheight hs.net (i:=1) rfl rfl
end
end
end Go.Proofs.YtifcdjmcoibblaaGreatDoor
