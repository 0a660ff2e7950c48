/- Lkc Lkr -/
import Derived.Test.YtifcdjmcoibblaaGreatDoorLq39
import Derived.Test.YtifcdjmcoibblaaGreatDoorLq41
import Derived.Test.YtifcdjmcoibblaaGreatDoorLq01
import Derived.OwnWalk
import Derived.WalkSpells
import Derived.WalkLawsBesides
import Derived.Laws.StructEq
import Derived.StillTailTactics
import Derived.Deep.CutBlock
import Derived.WalkSmall
set_option linter.unusedVariables false
set_option linter.unusedSimpArgs false
set_option linter.unusedSectionVars false
set_option maxRecDepth 100000
set_option maxHeartbeats 80000000
namespace Go.Proofs.YtifcdjmcoibblaaGreatDoor
section
open Go.RowKit
structure OnX (base:Nat) (w1:World) (x:Nat) (s:StB) (Rx:Nat→Nat→Prop) (W:World) (nb:Nat) (n:Int) (cv:Value) (cs:List BoxE):Prop where
 flk:Flk GA base w1 [x] [s] Rx W
 nbA:Asd [x].length Rx W nb
 nbL:base≤nb
 row:W.heap[nb]?=some (.cells #[.int .i64 n,cv] 134 (0,0))
 cst:RowB W cv cs
 cvA:∀g,cv.ownBlock=some g→Asd [x].length Rx W g∧base≤g
section
variable {base:Nat} {w1 W W':World} {x nb:Nat} {s s':StB} {Rx Rx':Nat→Nat→Prop} {n:Int} {cv:Value} {cs:List BoxE}
theorem OnX.sail (h:OnX base w1 x s Rx W nb n cv cs) (hs:Sail GA base W [x] Rx W' [s'] Rx'):OnX base w1 x s' Rx' W' nb n cv cs:=
 ⟨h.flk.sail hs,hs.asd h.nbA,h.nbL,(hs.blk h.nbA).trans h.row,h.cst.kept (fun g cur _ hg=>hs.blk (h.cvA g hg).1),fun g hg=>⟨hs.asd (h.cvA g hg).1,(h.cvA g hg).2⟩⟩
theorem OnX.later (h:OnX base w1 x s Rx W nb n cv cs) (hb:Below W.heap.size W W'):OnX base w1 x s Rx W' nb n cv cs:=
 ⟨h.flk.later hb,h.nbA.later hb.size,h.nbL,(hb.block nb h.nbA.1).trans h.row,h.cst.kept (fun g cur _ hg=>hb.block g (h.cvA g hg).1.1),fun g hg=>⟨(h.cvA g hg).1.later hb.size,(h.cvA g hg).2⟩⟩
theorem OnX.added (h:OnX base w1 x s Rx W nb n cv cs) {m:MsgB} (hd:RAdded W nb n cv cs m W'):∃cv' cs',plainL cs'=(if m.frm≠m.to∧m.kind≠3∧m.frm<n then addB (plainL cs) m else plainL cs)∧cs'.length≤cs.length+1∧OnX base w1 x s Rx W' nb n cv' cs'∧(∀g,cv'.ownBlock=some g→cv.ownBlock=some g∨W.heap.size≤g)∧Chg (fun k=>k=nb∨cv.ownBlock=some k) W W':=by
 obtain ⟨⟨cv',cs',⟨e1,e2⟩,p1,p2,e3⟩,hc⟩:=hd;have hk:∀k,AllR [x].length Rx k→W'.heap[k]?=W.heap[k]?:=fun k hk=>hc.block k (h.flk.net.lt hk) (fun e=>by
  rcases e with e | e
  ·exact h.nbA.2 (e ▸ hk)
  exact (h.cvA k e).1.2 hk)
 have hbe:Below base W W':=hc.below h.flk.size (fun k e=>by
  rcases e with e | e
  ·rw [e];exact h.nbL
  exact (h.cvA k e).2)
 refine ⟨cv',cs',p1,p2,⟨⟨h.flk.net.kept hk hc.size,h.flk.bel.trans hbe,h.flk.pos,h.flk.le,h.flk.glob⟩,h.nbA.later hc.size,h.nbL,e1,e2,fun g hg=>?_⟩,e3,hc⟩;rcases e3 g hg with q | q
 ·exact ⟨(h.cvA g q).1.later hc.size,(h.cvA g q).2⟩
 refine ⟨⟨?_,fun hr=>?_⟩,Nat.le_trans h.flk.size q⟩
 ·rcases e2.2 with ⟨e,_⟩ | ⟨g2,c2,cur,e,_,hg2,_⟩
  ·rw [e] at hg;simp [Value.ownBlock] at hg
  rw [e] at hg;have:g2=g:=by simpa [Value.ownBlock] using hg
  exact this ▸ (gE hg2).1
 have:=h.flk.net.lt hr;omega
end
def OnZ (base:Nat) (w1:World) (x nb:Nat) (n:Int) (s:StB) (cs:List BoxE) (A:Nat→Prop) (W:World):Prop:=
 ∃Rx cv,OnX base w1 x s Rx W nb n cv cs∧∀k,A k→Asd [x].length Rx W k∧base≤k∧k≠nb∧cv.ownBlock≠some k
section
variable {base:Nat} {w1 W W':World} {x nb:Nat} {n:Int} {s s':StB} {cs:List BoxE} {A B:Nat→Prop}
theorem OnZ.less (h:OnZ base w1 x nb n s cs A W) (hs:∀k,B k→A k):OnZ base w1 x nb n s cs B W:=by
 obtain ⟨Rx,cv,h1,h2⟩:=h;exact ⟨Rx,cv,h1,fun k hk=>h2 k (hs k hk)⟩
theorem OnZ.lt (h:OnZ base w1 x nb n s cs A W) {k:Nat} (hk:A k):k<W.heap.size:=by
 obtain ⟨Rx,cv,h1,h2⟩:=h;exact (h2 k hk).1.1
theorem OnZ.below (h:OnZ base w1 x nb n s cs A W):Below base w1 W:=by
 obtain ⟨Rx,cv,h1,_⟩:=h;exact h1.flk.bel
theorem OnZ.size (h:OnZ base w1 x nb n s cs A W):base≤W.heap.size:=by
 obtain ⟨Rx,cv,h1,_⟩:=h;exact h1.flk.size
theorem OnZ.gl (h:OnZ base w1 x nb n s cs A W):Glob W:=by
 obtain ⟨Rx,cv,h1,_⟩:=h;exact h1.flk.gl
theorem OnZ.fit (h:OnZ base w1 x nb n s cs A W):Fit GA s:=by
 obtain ⟨Rx,cv,h1,_⟩:=h;exact h1.flk.net.idx (i:=0) (x:=x) (s:=s) rfl rfl
theorem OnZ.keepB (h:OnZ base w1 x nb n s cs A W) (hb:Below W.heap.size W W'):KeepA A W W':=⟨hb.size,fun k hk=>hb.block k (h.lt hk)⟩
theorem OnZ.later (h:OnZ base w1 x nb n s cs A W) (hb:Below W.heap.size W W'):OnZ base w1 x nb n s cs A W':=by
 obtain ⟨Rx,cv,h1,h2⟩:=h;exact ⟨Rx,cv,h1.later hb,fun k hk=>⟨(h2 k hk).1.later hb.size,(h2 k hk).2⟩⟩
theorem OnZ.grow (h:OnZ base w1 x nb n s cs A W) (hb:Below W.heap.size W W'):OnZ base w1 x nb n s cs (fun k=>A k∨New W W' k) W':=by
 obtain ⟨Rx,cv,h1,h2⟩:=h;refine ⟨Rx,cv,h1.later hb,fun k hk=>?_⟩;rcases hk with hk | hk
 ·exact ⟨(h2 k hk).1.later hb.size,(h2 k hk).2⟩
 have hz:=hk.1;refine ⟨Asd.fresh h1.flk.net hk,Nat.le_trans h1.flk.size hz,fun e=>?_,fun e=>?_⟩
 ·have:=h1.nbA.1;omega
 have:=(h1.cvA k e).1.1;omega
theorem OnZ.set (h:OnZ base w1 x nb n s cs A W) {b:Nat} (hb:A b) (i:Nat) (v:Value):OnZ base w1 x nb n s cs A (W.setCell ⟨b,i,none⟩ v)∧∀k,k≠b→(W.setCell ⟨b,i,none⟩ v).heap[k]?=W.heap[k]?:=by
 have ho:∀k,k≠b→(W.setCell ⟨b,i,none⟩ v).heap[k]?=W.heap[k]?:=fun k hk=>Below.heap_setCell _ ⟨b,i,none⟩ _ k hk;refine ⟨?_,ho⟩;obtain ⟨Rx,cv,h1,h2⟩:=h;have hA:=h2 b hb;have hz:(W.setCell ⟨b,i,none⟩ v).heap.size=W.heap.size:=by simp [World.setCell]
 refine ⟨Rx,cv,⟨⟨h1.flk.net.kept (fun k hk=>ho k (fun e=>hA.1.2 (e ▸ hk))) (by omega),h1.flk.bel.setCell hA.2.1 _,h1.flk.pos,h1.flk.le,h1.flk.glob⟩,h1.nbA.later (by omega),h1.nbL,?_,?_,fun g hg=>⟨(h1.cvA g hg).1.later (by omega),(h1.cvA g hg).2⟩⟩,fun k hk=>⟨(h2 k hk).1.later (by omega),(h2 k hk).2⟩⟩
 ·rw [ho nb (fun e=>hA.2.2.1 e.symm)];exact h1.row
 exact h1.cst.kept (fun g cur _ hg=>ho g (fun e=>hA.2.2.2 (e ▸ hg)))
theorem OnZ.sail {Rx:Nat→Nat→Prop} {cv:Value} (h:OnX base w1 x s Rx W nb n cv cs) (h2:∀k,A k→Asd [x].length Rx W k∧base≤k∧k≠nb∧cv.ownBlock≠some k) {Rx':Nat→Nat→Prop} (hs:Sail GA base W [x] Rx W' [s'] Rx') :
  OnZ base w1 x nb n s' cs A W'∧KeepA A W W':=
 ⟨⟨Rx',cv,h.sail hs,fun k hk=>⟨hs.asd (h2 k hk).1,(h2 k hk).2⟩⟩,hs.chg.size,fun k hk=>hs.blk (h2 k hk).1⟩
theorem y_round (h:OnZ base w1 x nb n s cs A W):Calls Tryz.prog 23 #[pv x] W fun e w'=>e = .returned (.int .i64 s.round)∧w'=W:=by
 obtain ⟨Rx,cv,h1,h2⟩:=h;exact nround (i:=0) h1.flk.net rfl rfl
theorem y_height (h:OnZ base w1 x nb n s cs A W):Calls Tryz.prog 24 #[pv x] W fun e w'=>e = .returned (.int .i64 s.height)∧w'=W:=by
 obtain ⟨Rx,cv,h1,h2⟩:=h;exact nheight (i:=0) h1.flk.net rfl rfl
theorem y_dec (h:OnZ base w1 x nb n s cs A W):Calls Tryz.prog 21 #[pv x,.int .i64 0] W fun e w'=>(∃u,e = .returned (.tuple #[u,.bool (s.isDec 0)])∧∀v,getA 0 s.decs=some v→LRow (New W w') w' u v.list)∧Below W.heap.size W w':=by
 obtain ⟨Rx,cv,h1,h2⟩:=h;refine (ndecided (i:=0) GA.gf h1.flk.net rfl rfl 0).mono ?_;rintro e w' ⟨hd,hb⟩;refine ⟨?_,hb⟩;unfold DecE at hd;have e0:s.isDec 0=(getA 0 s.decs).isSome:=rfl;rw [e0];rcases hg:getA 0 s.decs with _ | v
 ·rw [hg] at hd;exact ⟨_,hd,fun v hv=>by cases hv⟩
 rw [hg] at hd;obtain ⟨u,e1,e2⟩:=hd;exact ⟨u,e1,fun v' hv=>by cases hv;exact e2⟩
theorem y_tick (h:OnZ base w1 x nb n s cs A W) (hT:s.ticks≤1000000000000):Calls Tryz.prog 18 #[pv x] W fun e w'=>∃v A',e = .returned v∧(∀k,A k→A' k)∧OnZ base w1 x nb n s.tick.1 cs A' w'∧KeepA A W w'∧OutR (fun k=>¬A' k) W w' v s.tick.2:=by
 obtain ⟨Rx,cv,h1,h2⟩:=h;refine (ntick (i:=0) GA.gf h1.flk.net h1.flk.size rfl rfl hT).mono ?_;rintro e w' ⟨v,Rs',rfl,hs,ho⟩;obtain ⟨h3,h4⟩:=OnZ.sail h1 h2 hs;refine ⟨v,fun k=>A k∨NewZ (AllR [x].length Rs') W w' k,rfl,fun k hk=>.inl hk,?_,h4,ho.other (fun k hk k1 k2=>?_)⟩
 ·refine ⟨Rs',cv,h1.sail hs,fun k hk=>?_⟩;rcases hk with hk | hk
  ·exact ⟨hs.asd (h2 k hk).1,(h2 k hk).2⟩
  have hz:=hk.1.1;refine ⟨⟨hk.1.2,hk.2⟩,Nat.le_trans h1.flk.size hz,fun e=>?_,fun e=>?_⟩
  ·have:=h1.nbA.1;omega
  have:=(h1.cvA k e).1.1;omega
 exact Classical.byContradiction fun q=>hk (.inr ⟨⟨k1,k2⟩,q⟩)
theorem y_accept (h:OnZ base w1 x nb n s cs A W) (d:ByteArray):Calls Tryz.prog 25 #[pv x,.string d] W fun e w'=>e = .returned (.tuple #[])∧OnZ base w1 x nb n (s.accept d) cs A w'∧KeepA A W w':=by
 obtain ⟨Rx,cv,h1,h2⟩:=h;refine (naccept (i:=0) h1.flk.net h1.flk.size rfl rfl d).mono ?_;rintro e w' ⟨rfl,Rs',hs⟩;exact ⟨rfl,OnZ.sail h1 h2 hs⟩
theorem y_begin (h:OnZ base w1 x nb n s cs A W) {R0:Nat→Prop} {v:Value} {l:List ByteArray} (hr:LRow R0 W v l) (h0:∀k,R0 k→k<W.heap.size) (hl:l.length≤60) (hv:GA (digV l) l) :
  Calls Tryz.prog 16 #[pv x,.int .i64 0,v] W fun e w'=>(∃u,e = .returned u)∧OnZ base w1 x nb n (s.begin 0 (ascS l) (digV l) l).1 cs A w'∧KeepA A W w':=by
 obtain ⟨Rx,cv,h1,h2⟩:=h;refine (nbegin (i:=0) GA.gf h1.flk.net h1.flk.size rfl rfl hr h0 hl h1.flk.gl (fun _=>hv) 0).mono ?_;rintro e w' ⟨rfl,Rs',hs⟩;exact ⟨⟨_,rfl⟩,OnZ.sail h1 h2 hs⟩
theorem y_recv (h:OnZ base w1 x nb n s cs A W) {R0:Nat→Prop} {v:Value} {m:MsgB} (hm:MsgV R0 W v m) (h0:∀k,R0 k→k<W.heap.size) (hl:m.list.length≤60) (hv:validB m=true→m.kind=3→GA m.dig m.list) :
  Calls Tryz.prog 20 #[pv x,v] W fun e w'=>e = .returned (.tuple #[])∧OnZ base w1 x nb n (s.receive m (validB m)) cs A w'∧KeepA A W w':=by
 obtain ⟨Rx,cv,h1,h2⟩:=h;refine (nrecv (i:=0) GA.gf h1.flk.net h1.flk.size rfl rfl hm h0 hl h1.flk.gl hv).mono ?_;rintro e w' ⟨rfl,Rs',hs⟩;exact ⟨rfl,OnZ.sail h1 h2 hs⟩
theorem y_add (h:OnZ base w1 x nb n s cs A W) {R0:Nat→Prop} {m:MsgB} {ao:Option Addr} {cap:Nat} (hr:LRow R0 W (.slice ao m.list.length cap) m.list) (h0:∀k,R0 k→k<W.heap.size) (hm:GivM m) (hl:cs.length≤1000000000) :
  Calls Tryz.prog 30 #[pv nb,.agg (encM m (.slice ao m.list.length cap))] W fun e w'=>BoolE e∧∃cs',plainL cs'=(if m.frm≠m.to∧m.kind≠3∧m.frm<n then addB (plainL cs) m else plainL cs)∧cs'.length≤cs.length+1∧OnZ base w1 x nb n s cs' A w'∧KeepA A W w':=by
 obtain ⟨Rx,cv,h1,h2⟩:=h;refine (radd_any ⟨h1.row,h1.cst⟩ hl hr h0 hm).mono ?_;rintro e w' ⟨hb,hd⟩;obtain ⟨cv',cs',p1,p2,h3,h4,hc⟩:=h1.added hd;have hk:∀k,A k→w'.heap[k]?=W.heap[k]?:=fun k hk=>hc.block k (h2 k hk).1.1 (fun e=>by
  rcases e with e | e
  ·exact (h2 k hk).2.2.1 e
  exact (h2 k hk).2.2.2 e)
 refine ⟨hb,cs',p1,p2,⟨Rx,cv',h3,fun k hk=>⟨(h2 k hk).1.later hc.size,(h2 k hk).2.1,(h2 k hk).2.2.1,fun e=>?_⟩⟩,hc.size,hk⟩;rcases h4 k e with q | q
 ·exact (h2 k hk).2.2.2 q
 have:=(h2 k hk).1.1;omega
theorem y_count (h:OnZ base w1 x nb n s cs A W) (hl:cs.length≤1000000000) (k hh r:Int) (d:ByteArray) :
  Calls Tryz.prog 34 #[pv nb,.int .i64 k,.int .i64 hh,.int .i64 r,.string d] W fun e w'=>e = .returned (.int .i64 (countB (plainL cs) k hh r d))∧Below W.heap.size W w':=by
 obtain ⟨Rx,cv,h1,h2⟩:=h;exact count_ref ⟨h1.row,h1.cst⟩ hl k hh r d
theorem y_keys (h:OnZ base w1 x nb n s cs A W) (hl:cs.length≤1000000000) (r:Int) (d:ByteArray) (h0:0≤r) (h1:r<100) :
  Calls Tryz.prog 32 #[pv nb,.int .i64 r,.string d] W fun e w'=>(∃q:Int,e = .returned (.int .i64 q)∧∀k:Int,r≤k→k≤99→countB (plainL cs) 6 0 k d≤q)∧Below W.heap.size W w':=by
 obtain ⟨Rx,cv,h1',h2⟩:=h;exact keys_any ⟨h1'.row,h1'.cst⟩ hl r d h0 h1
theorem y_lock (h:OnZ base w1 x nb n s cs A W):Calls Tryz.prog 31 #[pv x] W fun e w'=>LockE W s.lock e w'∧Below W.heap.size W w':=by
 obtain ⟨Rx,cv,h1,h2⟩:=h;exact nlock (i:=0) GA.gf h1.flk.net rfl rfl
end
theorem GivM.law {n t:Int} {m:MsgB} (h:LawM n t m) (hn:n≤7) (t0:0≤t) (t7:t<7):GivM {m with height:=0}:=by
 refine ⟨h.kind,h.f0,Int.lt_of_lt_of_le h.f1 hn,by show 0≤m.to;rw [h.tt];exact t0,by show m.to<7;rw [h.tt];exact t7,(by show (0:Int)≤0;decide),(by show (0:Int)<1200;decide),h.r0,by have:=h.r4;show m.round<100;omega,fun hk=>?_,fun hk=>?_,?_⟩
 ·obtain ⟨⟨j,hj,e1,e2⟩,v0,v1⟩:=h.prop hk;exact ⟨by show ascS m.list=true;rw [e1];exact asc_fam (Nat.lt_of_lt_of_le hj (by decide)),v0,v1⟩
 ·obtain ⟨v0,e1,e2⟩:=h.vote hk;refine ⟨v0,e1,?_⟩;rcases e2 with e2 | ⟨j,hj,e2⟩
  ·exact (show szB m.dig from by rw [e2];exact szB_nil)
  exact .inr (by show m.dig.size=32;rw [e2];exact digV_size _)
 show m.list.length≤60;by_cases hk:m.kind=3
 ·obtain ⟨⟨j,hj,e1,e2⟩,_⟩:=h.prop hk;rw [e1];exact fam_len
 rw [(h.vote hk).2.1];exact Nat.zero_le _
theorem GivM.out {me n:Int} {m:MsgB} (h:OutM szB GA me n m) (h0:0≤me) (h1:me<n) (h7:n≤7):GivM m:=by
 obtain ⟨_,l60,_⟩:=out_valid GA.gf h h0 h1 h7;have hf:=h.frm;have ht:=h.t1;refine ⟨by have:=h.kind;omega,by omega,by omega,h.t0,by omega,h.h0,h.h1,h.r0,by have:=h.r1;omega,fun hk=>?_,fun hk=>?_,l60⟩
 ·obtain ⟨hg,v0,v1⟩:=h.prop hk;exact ⟨(GA.gf.val _ _ hg).1,v0,v1⟩
 obtain ⟨v0,e1,e2⟩:=h.vote hk;exact ⟨v0,e1,e2⟩
theorem GivM.valid {m:MsgB} (h:GivM m) (hk:m.kind≠3):validB m = !(m.frm == m.to):=by
 obtain ⟨v0,e1,e2⟩:=h.vote hk;have hv:voteOk m=true:=by
  unfold voteOk placedB;rw [v0,e1,decide_eq_true h.h0,decide_eq_true h.h1,decide_eq_true h.r0,decide_eq_true h.r1];rcases e2 with e2 | e2
  ·rw [e2];rfl
  rw [e2];simp
 have hs:sitesB m = !(m.frm == m.to):=by
  unfold sitesB siteB;rw [decide_eq_true h.f0,decide_eq_true h.f7,decide_eq_true h.t0,decide_eq_true h.t7];rfl
 have hvk:voteB m.kind=true:=by
  unfold voteB;rcases h.kind with q | q | q | q
  ·exact absurd q hk
  ·rw [q];rfl
  ·rw [q];rfl
  rw [q];rfl
 unfold validB;rw [hs,if_neg (by have:=h.kind;omega),if_neg (by have:=h.kind;omega),if_neg hk,hv,hvk];simp
end
section
open Go.RowKit
def regOf (n:Nat):Code→Option (Array Oper)
 | .region id ops _=>if id=n then some ops else none
 | .loop c=>regOf n c
 | .seq a b=>match regOf n a with | some c=>some c | none=>regOf n b
 | .block _ c=>regOf n c
 | .scope c=>regOf n c
 | .cond _ a b=>match regOf n a with | some c=>some c | none=>regOf n b
 | _=>none
noncomputable def ops29:Array Oper:=((Tryz.f5.body.bind (regOf 29)).getD #[])
theorem region29F {Q:Exit→Act→World→Prop} (wa:World) (mb x nb:Nat) (N rl rd mk mr fN:Int) (md dg:ByteArray) (ul:Value) (t0 t2 t3 t4 t5 t6 t7 t8 t10 t12 t13 t14 t15 t16 t17 t20 t21 t22 t23 t24 t26 t27 t28 t29 t30 t31 t32 t33 t34 t35 t36 t37 t38 t39 t40 t41 t42 t43 t44 t45 t46 t47 t48 t49 t50 t51 t52 t53 t54 t55 t56 t57 t58 t59 t60 t61 t62 t63 t64 t65 t66 t67 t68 t69 t70 t71 t72 t73 t74 t75 t76 t77 t78 t79 t80 t81 t82 t83 t84 t85 t86 t87 t88 t89 t90 t91 t92 t93 t94 t95 t96 t97 t98 t99 t100 t101 t102 t103 t104 t105 t106 t107 t108 t109 t110 t111 t112 t113 t114 t115 t116 t117 t118 t119 t120 t121 t122 t123 t124 t125 t126 t127 t128 t129 t130 t131 t132 t133 t134 t135 t136 t137 t138 t139 t140 t141 t142 t143 t144 t145 t146 t147 t148 t149 t150 t151 t152 t153 t154 t155 t156 t157 t158 t159 t160 t161 t162 t163 t164 t165 t166 t167 t168 t169 t170 t171 t172 t173 t174 t175 t176 t177 t178 t179 t180 t181 t182 t183 t184 t185 t186 t187 t188 t189 t190 t191 t192 t193 t194 t195 t196 t197 t198 t199 t200 t201 t202 t203 t204 t205 t206 t207 t208 t209 t210 t211 t212 t213 t214 t215 t216 t217 t218 t219 t220 t221 t222 t223 t224 t225 t226 t227 t228:Value)
  (hQ:∀c (a:Act) (d:Nat) v w,Q (.panic c) (a.put (some d) v) w→Q (.panic c) a w) (post:∀(u113 u114 u115 u116 u117 u118 u119 u120 u121 u122 u123 u124 u125 u126 u127 u128 u129 u130 u131 u132 u133 u134 u135 u136 u137 u138 u139 u140 u141 u142 u143 u144 u145 u146 u147 u148 u149 u150 u151 u152 u153:Value) (W:World),Below wa.heap.size wa W→Q .normal ⟨#[t0,.int .i64 N,t2,t3,t4,t5,t6,t7,t8,.pointer (some ⟨x,0,none⟩),t10,.pointer (some ⟨nb,0,none⟩),t12,t13,t14,t15,t16,t17,.int .i64 rl,ul,t20,t21,t22,t23,t24,.pointer (some ⟨mb,0,none⟩),t26,t27,t28,t29,t30,t31,t32,t33,t34,t35,t36,t37,t38,t39,t40,t41,t42,t43,t44,t45,t46,t47,t48,t49,t50,t51,t52,t53,t54,t55,t56,t57,t58,t59,t60,t61,t62,t63,t64,t65,t66,t67,t68,t69,t70,t71,t72,t73,t74,t75,t76,t77,t78,t79,t80,t81,t82,t83,t84,t85,t86,t87,t88,t89,t90,t91,t92,t93,t94,t95,t96,t97,t98,t99,t100,t101,t102,t103,t104,t105,t106,t107,t108,t109,t110,t111,t112,u113,u114,u115,u116,u117,u118,u119,u120,u121,u122,u123,u124,u125,u126,u127,u128,u129,u130,u131,u132,u133,u134,u135,u136,u137,u138,u139,u140,u141,u142,u143,u144,u145,u146,u147,u148,u149,u150,u151,u152,u153,.bool false,t155,t156,t157,t158,t159,t160,t161,t162,t163,t164,t165,t166,t167,t168,t169,t170,t171,t172,t173,t174,t175,t176,t177,t178,t179,t180,t181,t182,t183,t184,t185,t186,t187,t188,t189,t190,t191,t192,t193,t194,t195,t196,t197,t198,t199,t200,t201,t202,t203,t204,t205,t206,t207,t208,t209,t210,t211,t212,t213,t214,t215,t216,t217,t218,t219,t220,t221,t222,t223,t224,t225,t226,t227,t228],[]⟩ W)
  (KEEP:RowKit.Hid (∀W,Below wa.heap.size wa W→(fun W=>W.cell? ⟨mb,0,none⟩=some (.int .i64 mk)∧W.cell? ⟨mb,4,none⟩=some (.int .i64 mr)∧W.cell? ⟨mb,6,none⟩=some (.string md)∧Below wa.heap.size wa W) W))
  (RND:RowKit.Hid (∀W,Below wa.heap.size wa W→Calls Tryz.prog 23 #[.pointer (some ⟨x,0,none⟩)] W fun e w'=>e = .returned (.int .i64 rd)∧w'=W))
  (DGK:RowKit.Hid (∀W,Below wa.heap.size wa W→Calls Tryz.prog 26 #[ul] W fun e w'=>e = .returned (.string dg)∧Below wa.heap.size wa w'))
  (y1:(mk == 4)=true) (y2:(mr == rd)=true) (y3:decide (0≤rl)=true) (y4:decide (rl<mr)=true) (z5:md.toList.isEmpty=false) (hd:md=dg):(Code.region 29 ops29 true).wp Tryz.prog Q ⟨#[t0,.int .i64 N,t2,t3,t4,t5,t6,t7,t8,.pointer (some ⟨x,0,none⟩),t10,.pointer (some ⟨nb,0,none⟩),t12,t13,t14,t15,t16,t17,.int .i64 rl,ul,t20,t21,t22,t23,t24,.pointer (some ⟨mb,0,none⟩),t26,t27,t28,t29,t30,t31,t32,t33,t34,t35,t36,t37,t38,t39,t40,t41,t42,t43,t44,t45,t46,t47,t48,t49,t50,t51,t52,t53,t54,t55,t56,t57,t58,t59,t60,t61,t62,t63,t64,t65,t66,t67,t68,t69,t70,t71,t72,t73,t74,t75,t76,t77,t78,t79,t80,t81,t82,t83,t84,t85,t86,t87,t88,t89,t90,t91,t92,t93,t94,t95,t96,t97,t98,t99,t100,t101,t102,t103,t104,t105,t106,t107,t108,t109,t110,t111,t112,t113,t114,t115,t116,t117,t118,t119,t120,t121,t122,t123,t124,t125,t126,t127,t128,t129,t130,t131,t132,t133,t134,t135,t136,t137,t138,t139,t140,t141,t142,t143,t144,t145,t146,t147,t148,t149,t150,t151,t152,t153,t154,t155,t156,t157,t158,t159,t160,t161,t162,t163,t164,t165,t166,t167,t168,t169,t170,t171,t172,t173,t174,t175,t176,t177,t178,t179,t180,t181,t182,t183,t184,t185,t186,t187,t188,t189,t190,t191,t192,t193,t194,t195,t196,t197,t198,t199,t200,t201,t202,t203,t204,t205,t206,t207,t208,t209,t210,t211,t212,t213,t214,t215,t216,t217,t218,t219,t220,t221,t222,t223,t224,t225,t226,t227,t228],[]⟩ wa:=by
 subst hd;have HP:=Hd post;clear post;conv=>arg 2;arg 2;whnf
 refine hst (S:=fun W=>W.cell? ⟨mb,0,none⟩=some (.int .i64 mk)∧W.cell? ⟨mb,4,none⟩=some (.int .i64 mr)∧W.cell? ⟨mb,6,none⟩=some (.string md)∧Below wa.heap.size wa W) (by kernel_rfl) (KEEP.out _ (Below.refl _ wa).drew) hQ (fun HQ hHeld=>?_);refine hyq (i:=0) (v:=?v1) HQ hHeld ?h1 ?r1
 case h1=>(intro w hSw;(try dsimp only at hSw);go_simp;try with_reducible rfl)
 try simp only [Act.put,zz]
 refine hyq (i:=1) (v:=?v2) HQ hHeld ?h2 ?r2
 case h2=>(intro w hSw;(try dsimp only at hSw);go_simp;try with_reducible rfl)
 try simp only [Act.put,zz]
 refine hyq (i:=2) (v:=?v3) HQ hHeld ?h3 ?r3
 case h3=>(intro w hSw;(try dsimp only at hSw);go_simp;try with_reducible rfl)
 try simp only [Act.put,zz]
 refine hyq (i:=3) (v:=?v4) HQ hHeld ?h4 ?r4
 case h4=>(intro w hSw;(try dsimp only at hSw);go_simp;try with_reducible rfl)
 try simp only [Act.put,zz]
 refine hyq (i:=4) (v:=?v5) HQ hHeld ?h5 ?r5
 case h5=>(intro w hSw;(try dsimp only at hSw);go_simp;try with_reducible rfl)
 try simp only [Act.put,zz]
 refine hyq (i:=5) (v:=?v6) HQ hHeld ?h6 ?r6
 case h6=>(intro w hSw;(try dsimp only at hSw);go_simp;try with_reducible rfl)
 try simp only [Act.put,zz]
 refine hyq (i:=6) (v:=?v7) HQ hHeld ?h7 ?r7
 case h7=>(intro w hSw;(try dsimp only at hSw);go_simp;try with_reducible rfl)
 try simp only [Act.put,zz]
 refine wpAnyH_ready (rs:=[7]) (by kernel_rfl) (by simp) ?_;refine AllReadyH.cons (o:=_) rfl (fun K hK=>?_) AllReadyH.nil;go_simp;go_at_call 23
 (with_reducible refine (RND.out _ (Below.refl _ wa).drew).mono ?_)
 rintro e wq ⟨rfl,hwq⟩;have HQ1:=Hd (show Below wa.heap.size wa wq from by rw [hwq];exact (Below.refl _ wa).drew);clear hwq;go_wp2_with fail
 clear hHeld;refine hK.out _ _ (KEEP.out _ HQ1.out) (fun hHeld=>?_);clear hK K;try simp only [Act.put,zz]
 refine hyq (i:=8) (v:=?v8) HQ hHeld ?h8 ?r8
 case h8=>(intro w hSw;(try dsimp only at hSw);go_simp;try with_reducible rfl)
 try simp only [Act.put,zz]
 refine hyq (i:=9) (v:=?v9) HQ hHeld ?h9 ?r9
 case h9=>(intro w hSw;(try dsimp only at hSw);go_simp;try with_reducible rfl)
 try simp only [Act.put,zz]
 refine hyq (i:=10) (v:=?v10) HQ hHeld ?h10 ?r10
 case h10=>(intro w hSw;(try dsimp only at hSw);go_simp;try with_reducible rfl)
 try simp only [Act.put,zz]
 refine hyq (i:=11) (v:=?v11) HQ hHeld ?h11 ?r11
 case h11=>(intro w hSw;(try dsimp only at hSw);go_simp;try with_reducible rfl)
 try simp only [Act.put,zz]
 refine hyq (i:=12) (v:=?v12) HQ hHeld ?h12 ?r12
 case h12=>(intro w hSw;(try dsimp only at hSw);go_simp;try with_reducible rfl)
 try simp only [Act.put,zz]
 refine hyq (i:=13) (v:=?v13) HQ hHeld ?h13 ?r13
 case h13=>(intro w hSw;(try dsimp only at hSw);go_simp;try with_reducible rfl)
 try simp only [Act.put,zz]
 refine hyq (i:=14) (v:=?v14) HQ hHeld ?h14 ?r14
 case h14=>(intro w hSw;(try dsimp only at hSw);go_simp;try with_reducible rfl)
 try simp only [Act.put,zz]
 refine hyq (i:=15) (v:=?v15) HQ hHeld ?h15 ?r15
 case h15=>(intro w hSw;(try dsimp only at hSw);go_simp;try with_reducible rfl)
 try simp only [Act.put,zz]
 refine hyq (i:=16) (v:=?v16) HQ hHeld ?h16 ?r16
 case h16=>(intro w hSw;(try dsimp only at hSw);go_simp;try with_reducible rfl)
 try simp only [Act.put,zz]
 refine hyq (i:=17) (v:=?v17) HQ hHeld ?h17 ?r17
 case h17=>(intro w hSw;(try dsimp only at hSw);go_simp;try with_reducible rfl)
 try simp only [Act.put,zz]
 refine hyq (i:=18) (v:=?v18) HQ hHeld ?h18 ?r18
 case h18=>(intro w hSw;(try dsimp only at hSw);go_simp;try with_reducible rfl)
 try simp only [Act.put,zz]
 refine hyq (i:=19) (v:=?v19) HQ hHeld ?h19 ?r19
 case h19=>(intro w hSw;(try dsimp only at hSw);go_simp;try with_reducible rfl)
 try simp only [Act.put,zz]
 refine hyq (i:=20) (v:=?v20) HQ hHeld ?h20 ?r20
 case h20=>(intro w hSw;(try dsimp only at hSw);go_simp;try with_reducible rfl)
 try simp only [Act.put,zz]
 refine hyq (i:=21) (v:=?v21) HQ hHeld ?h21 ?r21
 case h21=>(intro w hSw;(try dsimp only at hSw);go_simp;try with_reducible rfl)
 try simp only [Act.put,zz]
 refine hyq (i:=22) (v:=?v22) HQ hHeld ?h22 ?r22
 case h22=>(intro w hSw;(try dsimp only at hSw);go_simp;try with_reducible rfl)
 try simp only [Act.put,zz]
 refine hyq (i:=23) (v:=?v23) HQ hHeld ?h23 ?r23
 case h23=>(intro w hSw;(try dsimp only at hSw);go_simp;try with_reducible rfl)
 try simp only [Act.put,zz]
 refine hyq (i:=24) (v:=?v24) HQ hHeld ?h24 ?r24
 case h24=>(intro w hSw;(try dsimp only at hSw);go_simp;try with_reducible rfl)
 try simp only [Act.put,zz]
 refine hyq (i:=25) (v:=?v25) HQ hHeld ?h25 ?r25
 case h25=>(intro w hSw;(try dsimp only at hSw);go_simp;try with_reducible rfl)
 try simp only [Act.put,zz]
 refine hyq (i:=26) (v:=?v26) HQ hHeld ?h26 ?r26
 case h26=>(intro w hSw;(try dsimp only at hSw);go_simp;try with_reducible rfl)
 try simp only [Act.put,zz]
 refine hyq (i:=27) (v:=?v27) HQ hHeld ?h27 ?r27
 case h27=>(intro w hSw;(try dsimp only at hSw);go_simp;try with_reducible rfl)
 try simp only [Act.put,zz]
 refine hyq (i:=28) (v:=?v28) HQ hHeld ?h28 ?r28
 case h28=>(intro w hSw;(try dsimp only at hSw);go_simp;try with_reducible rfl)
 try simp only [Act.put,zz]
 refine wpAnyH_ready (rs:=[29]) (by kernel_rfl) (by simp) ?_;refine AllReadyH.cons (o:=_) rfl (fun K hK=>?_) AllReadyH.nil;go_simp;go_at_call 26
 (with_reducible refine (DGK.out _ HQ1.out).mono ?_)
 rintro e wd ⟨rfl,hb⟩;have HE1:=Hd hb;clear hb;go_wp2_with fail
 clear hHeld;refine hK.out _ _ (KEEP.out _ HE1.out) (fun hHeld=>?_);clear hK K;try simp only [Act.put,zz]
 refine hyq (i:=30) (v:=?v29) HQ hHeld ?h29 ?r29
 case h29=>(intro w hSw;(try dsimp only at hSw);go_simp;try with_reducible rfl)
 try simp only [Act.put,zz]
 refine hyq (i:=31) (v:=?v30) HQ hHeld ?h30 ?r30
 case h30=>(intro w hSw;(try dsimp only at hSw);go_simp;try with_reducible rfl)
 try simp only [Act.put,zz]
 refine hyq (i:=32) (v:=?v31) HQ hHeld ?h31 ?r31
 case h31=>(intro w hSw;(try dsimp only at hSw);go_simp;try with_reducible rfl)
 try simp only [Act.put,zz]
 refine hnq (i:=33) HQ hHeld ?_;try simp only [Act.put,zz]
 refine hnq (i:=34) HQ hHeld ?_;try simp only [Act.put,zz]
 refine hnq (i:=35) HQ hHeld ?_;try simp only [Act.put,zz]
 refine hnq (i:=36) HQ hHeld ?_;try simp only [Act.put,zz]
 refine hnq (i:=37) HQ hHeld ?_;try simp only [Act.put,zz]
 refine hnq (i:=38) HQ hHeld ?_;try simp only [Act.put,zz]
 refine hnq (i:=39) HQ hHeld ?_;try simp only [Act.put,zz]
 refine hnq (i:=40) HQ hHeld ?_;try simp only [Act.put,zz]
 refine hyq (i:=41) (v:=?v32) HQ hHeld ?h32 ?r32
 case h32=>(intro w hSw;(try dsimp only at hSw);go_simp;try with_reducible rfl)
 try simp only [Act.put,zz]
 refine wpAnyH_done (by kernel_rfl) ?_ _;exact HP.out _ _ _ _ _ _ _ _ _ _ _ _ _ _ _ _ _ _ _ _ _ _ _ _ _ _ _ _ _ _ _ _ _ _ _ _ _ _ _ _ _ _ HE1.out
theorem region29G {Q:Exit→Act→World→Prop} (wa:World) (mb x nb:Nat) (N rl rd mk mr fN:Int) (md dg:ByteArray) (ul:Value) (t0 t2 t3 t4 t5 t6 t7 t8 t10 t12 t13 t14 t15 t16 t17 t20 t21 t22 t23 t24 t26 t27 t28 t29 t30 t31 t32 t33 t34 t35 t36 t37 t38 t39 t40 t41 t42 t43 t44 t45 t46 t47 t48 t49 t50 t51 t52 t53 t54 t55 t56 t57 t58 t59 t60 t61 t62 t63 t64 t65 t66 t67 t68 t69 t70 t71 t72 t73 t74 t75 t76 t77 t78 t79 t80 t81 t82 t83 t84 t85 t86 t87 t88 t89 t90 t91 t92 t93 t94 t95 t96 t97 t98 t99 t100 t101 t102 t103 t104 t105 t106 t107 t108 t109 t110 t111 t112 t113 t114 t115 t116 t117 t118 t119 t120 t121 t122 t123 t124 t125 t126 t127 t128 t129 t130 t131 t132 t133 t134 t135 t136 t137 t138 t139 t140 t141 t142 t143 t144 t145 t146 t147 t148 t149 t150 t151 t152 t153 t154 t155 t156 t157 t158 t159 t160 t161 t162 t163 t164 t165 t166 t167 t168 t169 t170 t171 t172 t173 t174 t175 t176 t177 t178 t179 t180 t181 t182 t183 t184 t185 t186 t187 t188 t189 t190 t191 t192 t193 t194 t195 t196 t197 t198 t199 t200 t201 t202 t203 t204 t205 t206 t207 t208 t209 t210 t211 t212 t213 t214 t215 t216 t217 t218 t219 t220 t221 t222 t223 t224 t225 t226 t227 t228:Value)
  (hQ:∀c (a:Act) (d:Nat) v w,Q (.panic c) (a.put (some d) v) w→Q (.panic c) a w) (post:∀(u113 u114 u115 u116 u117 u118 u119 u120 u121 u122 u123 u124 u125 u126 u127 u128 u129 u130 u131 u132 u133 u134 u135 u136 u137 u138 u139 u140 u141 u142 u143 u144 u145 u146 u147 u148 u149 u150 u151 u152 u153:Value) (W:World),Below wa.heap.size wa W→Q .normal ⟨#[t0,.int .i64 N,t2,t3,t4,t5,t6,t7,t8,.pointer (some ⟨x,0,none⟩),t10,.pointer (some ⟨nb,0,none⟩),t12,t13,t14,t15,t16,t17,.int .i64 rl,ul,t20,t21,t22,t23,t24,.pointer (some ⟨mb,0,none⟩),t26,t27,t28,t29,t30,t31,t32,t33,t34,t35,t36,t37,t38,t39,t40,t41,t42,t43,t44,t45,t46,t47,t48,t49,t50,t51,t52,t53,t54,t55,t56,t57,t58,t59,t60,t61,t62,t63,t64,t65,t66,t67,t68,t69,t70,t71,t72,t73,t74,t75,t76,t77,t78,t79,t80,t81,t82,t83,t84,t85,t86,t87,t88,t89,t90,t91,t92,t93,t94,t95,t96,t97,t98,t99,t100,t101,t102,t103,t104,t105,t106,t107,t108,t109,t110,t111,t112,u113,u114,u115,u116,u117,u118,u119,u120,u121,u122,u123,u124,u125,u126,u127,u128,u129,u130,u131,u132,u133,u134,u135,u136,u137,u138,u139,u140,u141,u142,u143,u144,u145,u146,u147,u148,u149,u150,u151,u152,u153,.bool false,t155,t156,t157,t158,t159,t160,t161,t162,t163,t164,t165,t166,t167,t168,t169,t170,t171,t172,t173,t174,t175,t176,t177,t178,t179,t180,t181,t182,t183,t184,t185,t186,t187,t188,t189,t190,t191,t192,t193,t194,t195,t196,t197,t198,t199,t200,t201,t202,t203,t204,t205,t206,t207,t208,t209,t210,t211,t212,t213,t214,t215,t216,t217,t218,t219,t220,t221,t222,t223,t224,t225,t226,t227,t228],[]⟩ W)
  (KEEP:RowKit.Hid (∀W,Below wa.heap.size wa W→(fun W=>W.cell? ⟨mb,0,none⟩=some (.int .i64 mk)∧W.cell? ⟨mb,4,none⟩=some (.int .i64 mr)∧W.cell? ⟨mb,6,none⟩=some (.string md)∧Below wa.heap.size wa W) W))
  (RND:RowKit.Hid (∀W,Below wa.heap.size wa W→Calls Tryz.prog 23 #[.pointer (some ⟨x,0,none⟩)] W fun e w'=>e = .returned (.int .i64 rd)∧w'=W))
  (DGK:RowKit.Hid (∀W,Below wa.heap.size wa W→Calls Tryz.prog 26 #[ul] W fun e w'=>e = .returned (.string dg)∧Below wa.heap.size wa w'))
  (KYS:RowKit.Hid (∀W,Below wa.heap.size wa W→Calls Tryz.prog 32 #[.pointer (some ⟨nb,0,none⟩),.int .i64 rl,.string md] W fun e w'=>(∃q:Int,e = .returned (.int .i64 q)∧decide (q≤fN)=false)∧Below wa.heap.size wa w'))
  (FA:RowKit.Hid (∀W,Calls Tryz.prog 33 #[.int .i64 N] W fun e w'=>e = .returned (.int .i64 fN)∧w'=W))
  (y1:(mk == 4)=true) (y2:(mr == rd)=true) (y3:decide (0≤rl)=true) (y4:decide (rl<mr)=true) (z5:md.toList.isEmpty=false) (x1:(md.toList == dg.toList)=false) (x2:(md.toList != dg.toList)=true):(Code.region 29 ops29 true).wp Tryz.prog Q ⟨#[t0,.int .i64 N,t2,t3,t4,t5,t6,t7,t8,.pointer (some ⟨x,0,none⟩),t10,.pointer (some ⟨nb,0,none⟩),t12,t13,t14,t15,t16,t17,.int .i64 rl,ul,t20,t21,t22,t23,t24,.pointer (some ⟨mb,0,none⟩),t26,t27,t28,t29,t30,t31,t32,t33,t34,t35,t36,t37,t38,t39,t40,t41,t42,t43,t44,t45,t46,t47,t48,t49,t50,t51,t52,t53,t54,t55,t56,t57,t58,t59,t60,t61,t62,t63,t64,t65,t66,t67,t68,t69,t70,t71,t72,t73,t74,t75,t76,t77,t78,t79,t80,t81,t82,t83,t84,t85,t86,t87,t88,t89,t90,t91,t92,t93,t94,t95,t96,t97,t98,t99,t100,t101,t102,t103,t104,t105,t106,t107,t108,t109,t110,t111,t112,t113,t114,t115,t116,t117,t118,t119,t120,t121,t122,t123,t124,t125,t126,t127,t128,t129,t130,t131,t132,t133,t134,t135,t136,t137,t138,t139,t140,t141,t142,t143,t144,t145,t146,t147,t148,t149,t150,t151,t152,t153,t154,t155,t156,t157,t158,t159,t160,t161,t162,t163,t164,t165,t166,t167,t168,t169,t170,t171,t172,t173,t174,t175,t176,t177,t178,t179,t180,t181,t182,t183,t184,t185,t186,t187,t188,t189,t190,t191,t192,t193,t194,t195,t196,t197,t198,t199,t200,t201,t202,t203,t204,t205,t206,t207,t208,t209,t210,t211,t212,t213,t214,t215,t216,t217,t218,t219,t220,t221,t222,t223,t224,t225,t226,t227,t228],[]⟩ wa:=by
 have HP:=Hd post;clear post;conv=>arg 2;arg 2;whnf
 refine hst (S:=fun W=>W.cell? ⟨mb,0,none⟩=some (.int .i64 mk)∧W.cell? ⟨mb,4,none⟩=some (.int .i64 mr)∧W.cell? ⟨mb,6,none⟩=some (.string md)∧Below wa.heap.size wa W) (by kernel_rfl) (KEEP.out _ (Below.refl _ wa).drew) hQ (fun HQ hHeld=>?_);refine hyq (i:=0) (v:=?v33) HQ hHeld ?h33 ?r33
 case h33=>(intro w hSw;(try dsimp only at hSw);go_simp;try with_reducible rfl)
 try simp only [Act.put,zz]
 refine hyq (i:=1) (v:=?v34) HQ hHeld ?h34 ?r34
 case h34=>(intro w hSw;(try dsimp only at hSw);go_simp;try with_reducible rfl)
 try simp only [Act.put,zz]
 refine hyq (i:=2) (v:=?v35) HQ hHeld ?h35 ?r35
 case h35=>(intro w hSw;(try dsimp only at hSw);go_simp;try with_reducible rfl)
 try simp only [Act.put,zz]
 refine hyq (i:=3) (v:=?v36) HQ hHeld ?h36 ?r36
 case h36=>(intro w hSw;(try dsimp only at hSw);go_simp;try with_reducible rfl)
 try simp only [Act.put,zz]
 refine hyq (i:=4) (v:=?v37) HQ hHeld ?h37 ?r37
 case h37=>(intro w hSw;(try dsimp only at hSw);go_simp;try with_reducible rfl)
 try simp only [Act.put,zz]
 refine hyq (i:=5) (v:=?v38) HQ hHeld ?h38 ?r38
 case h38=>(intro w hSw;(try dsimp only at hSw);go_simp;try with_reducible rfl)
 try simp only [Act.put,zz]
 refine hyq (i:=6) (v:=?v39) HQ hHeld ?h39 ?r39
 case h39=>(intro w hSw;(try dsimp only at hSw);go_simp;try with_reducible rfl)
 try simp only [Act.put,zz]
 refine wpAnyH_ready (rs:=[7]) (by kernel_rfl) (by simp) ?_;refine AllReadyH.cons (o:=_) rfl (fun K hK=>?_) AllReadyH.nil;go_simp;go_at_call 23
 (with_reducible refine (RND.out _ (Below.refl _ wa).drew).mono ?_)
 rintro e wq ⟨rfl,hwq⟩;have HQ1:=Hd (show Below wa.heap.size wa wq from by rw [hwq];exact (Below.refl _ wa).drew);clear hwq;go_wp2_with fail
 clear hHeld;refine hK.out _ _ (KEEP.out _ HQ1.out) (fun hHeld=>?_);clear hK K;try simp only [Act.put,zz]
 refine hyq (i:=8) (v:=?v40) HQ hHeld ?h40 ?r40
 case h40=>(intro w hSw;(try dsimp only at hSw);go_simp;try with_reducible rfl)
 try simp only [Act.put,zz]
 refine hyq (i:=9) (v:=?v41) HQ hHeld ?h41 ?r41
 case h41=>(intro w hSw;(try dsimp only at hSw);go_simp;try with_reducible rfl)
 try simp only [Act.put,zz]
 refine hyq (i:=10) (v:=?v42) HQ hHeld ?h42 ?r42
 case h42=>(intro w hSw;(try dsimp only at hSw);go_simp;try with_reducible rfl)
 try simp only [Act.put,zz]
 refine hyq (i:=11) (v:=?v43) HQ hHeld ?h43 ?r43
 case h43=>(intro w hSw;(try dsimp only at hSw);go_simp;try with_reducible rfl)
 try simp only [Act.put,zz]
 refine hyq (i:=12) (v:=?v44) HQ hHeld ?h44 ?r44
 case h44=>(intro w hSw;(try dsimp only at hSw);go_simp;try with_reducible rfl)
 try simp only [Act.put,zz]
 refine hyq (i:=13) (v:=?v45) HQ hHeld ?h45 ?r45
 case h45=>(intro w hSw;(try dsimp only at hSw);go_simp;try with_reducible rfl)
 try simp only [Act.put,zz]
 refine hyq (i:=14) (v:=?v46) HQ hHeld ?h46 ?r46
 case h46=>(intro w hSw;(try dsimp only at hSw);go_simp;try with_reducible rfl)
 try simp only [Act.put,zz]
 refine hyq (i:=15) (v:=?v47) HQ hHeld ?h47 ?r47
 case h47=>(intro w hSw;(try dsimp only at hSw);go_simp;try with_reducible rfl)
 try simp only [Act.put,zz]
 refine hyq (i:=16) (v:=?v48) HQ hHeld ?h48 ?r48
 case h48=>(intro w hSw;(try dsimp only at hSw);go_simp;try with_reducible rfl)
 try simp only [Act.put,zz]
 refine hyq (i:=17) (v:=?v49) HQ hHeld ?h49 ?r49
 case h49=>(intro w hSw;(try dsimp only at hSw);go_simp;try with_reducible rfl)
 try simp only [Act.put,zz]
 refine hyq (i:=18) (v:=?v50) HQ hHeld ?h50 ?r50
 case h50=>(intro w hSw;(try dsimp only at hSw);go_simp;try with_reducible rfl)
 try simp only [Act.put,zz]
 refine hyq (i:=19) (v:=?v51) HQ hHeld ?h51 ?r51
 case h51=>(intro w hSw;(try dsimp only at hSw);go_simp;try with_reducible rfl)
 try simp only [Act.put,zz]
 refine hyq (i:=20) (v:=?v52) HQ hHeld ?h52 ?r52
 case h52=>(intro w hSw;(try dsimp only at hSw);go_simp;try with_reducible rfl)
 try simp only [Act.put,zz]
 refine hyq (i:=21) (v:=?v53) HQ hHeld ?h53 ?r53
 case h53=>(intro w hSw;(try dsimp only at hSw);go_simp;try with_reducible rfl)
 try simp only [Act.put,zz]
 refine hyq (i:=22) (v:=?v54) HQ hHeld ?h54 ?r54
 case h54=>(intro w hSw;(try dsimp only at hSw);go_simp;try with_reducible rfl)
 try simp only [Act.put,zz]
 refine hyq (i:=23) (v:=?v55) HQ hHeld ?h55 ?r55
 case h55=>(intro w hSw;(try dsimp only at hSw);go_simp;try with_reducible rfl)
 try simp only [Act.put,zz]
 refine hyq (i:=24) (v:=?v56) HQ hHeld ?h56 ?r56
 case h56=>(intro w hSw;(try dsimp only at hSw);go_simp;try with_reducible rfl)
 try simp only [Act.put,zz]
 refine hyq (i:=25) (v:=?v57) HQ hHeld ?h57 ?r57
 case h57=>(intro w hSw;(try dsimp only at hSw);go_simp;try with_reducible rfl)
 try simp only [Act.put,zz]
 refine hyq (i:=26) (v:=?v58) HQ hHeld ?h58 ?r58
 case h58=>(intro w hSw;(try dsimp only at hSw);go_simp;try with_reducible rfl)
 try simp only [Act.put,zz]
 refine hyq (i:=27) (v:=?v59) HQ hHeld ?h59 ?r59
 case h59=>(intro w hSw;(try dsimp only at hSw);go_simp;try with_reducible rfl)
 try simp only [Act.put,zz]
 refine hyq (i:=28) (v:=?v60) HQ hHeld ?h60 ?r60
 case h60=>(intro w hSw;(try dsimp only at hSw);go_simp;try with_reducible rfl)
 try simp only [Act.put,zz]
 refine wpAnyH_ready (rs:=[29]) (by kernel_rfl) (by simp) ?_;refine AllReadyH.cons (o:=_) rfl (fun K hK=>?_) AllReadyH.nil;go_simp;go_at_call 26
 (with_reducible refine (DGK.out _ HQ1.out).mono ?_)
 rintro e wd ⟨rfl,hb⟩;have HE1:=Hd hb;clear hb;go_wp2_with fail
 clear hHeld;refine hK.out _ _ (KEEP.out _ HE1.out) (fun hHeld=>?_);clear hK K;try simp only [Act.put,zz]
 refine hyq (i:=30) (v:=?v61) HQ hHeld ?h61 ?r61
 case h61=>(intro w hSw;(try dsimp only at hSw);go_simp;try with_reducible rfl)
 try simp only [Act.put,zz]
 refine hyq (i:=31) (v:=?v62) HQ hHeld ?h62 ?r62
 case h62=>(intro w hSw;(try dsimp only at hSw);go_simp;try with_reducible rfl)
 try simp only [Act.put,zz]
 refine hyq (i:=32) (v:=?v63) HQ hHeld ?h63 ?r63
 case h63=>(intro w hSw;(try dsimp only at hSw);go_simp;try with_reducible rfl)
 try simp only [Act.put,zz]
 refine hyq (i:=33) (v:=?v64) HQ hHeld ?h64 ?r64
 case h64=>(intro w hSw;(try dsimp only at hSw);go_simp;try with_reducible rfl)
 try simp only [Act.put,zz]
 refine hyq (i:=34) (v:=?v65) HQ hHeld ?h65 ?r65
 case h65=>(intro w hSw;(try dsimp only at hSw);go_simp;try with_reducible rfl)
 try simp only [Act.put,zz]
 refine hyq (i:=35) (v:=?v66) HQ hHeld ?h66 ?r66
 case h66=>(intro w hSw;(try dsimp only at hSw);go_simp;try with_reducible rfl)
 try simp only [Act.put,zz]
 refine hyq (i:=36) (v:=?v67) HQ hHeld ?h67 ?r67
 case h67=>(intro w hSw;(try dsimp only at hSw);go_simp;try with_reducible rfl)
 try simp only [Act.put,zz]
 refine hyq (i:=38) (v:=?v68) HQ hHeld ?h68 ?r68
 case h68=>(intro w hSw;(try dsimp only at hSw);go_simp;try with_reducible rfl)
 try simp only [Act.put,zz]
 refine wpAnyH_ready (rs:=[37]) (by kernel_rfl) (by simp) ?_;refine AllReadyH.cons (o:=_) rfl (fun K hK=>?_) AllReadyH.nil;go_simp;go_at_call 32
 (with_reducible refine (KYS.out _ HE1.out).mono ?_)
 rintro e we ⟨⟨kq,rfl,hkq⟩,hb⟩;have HE2:=Hd hb;clear hb;go_wp2_with fail
 clear hHeld;refine hK.out _ _ (KEEP.out _ HE2.out) (fun hHeld=>?_);clear hK K;try simp only [Act.put,zz]
 refine wpAnyH_ready (rs:=[39]) (by kernel_rfl) (by simp) ?_;refine AllReadyH.cons (o:=_) rfl (fun K hK=>?_) AllReadyH.nil;go_simp;go_at_call 33
 (with_reducible refine (FA.out _).mono ?_)
 rintro e wf ⟨rfl,hwf⟩;have HE3:=Hd (show Below wa.heap.size wa wf from by rw [hwf];exact HE2.out);clear hwf;go_wp2_with fail
 clear hHeld;refine hK.out _ _ (KEEP.out _ HE3.out) (fun hHeld=>?_);clear hK K;try simp only [Act.put,zz]
 refine hyq (i:=40) (v:=?v69) HQ hHeld ?h69 ?r69
 case h69=>(intro w hSw;(try dsimp only at hSw);go_simp;try with_reducible rfl)
 try simp only [Act.put,zz]
 refine hyq (i:=41) (v:=?v70) HQ hHeld ?h70 ?r70
 case h70=>(intro w hSw;(try dsimp only at hSw);go_simp;try with_reducible rfl)
 try simp only [Act.put,zz]
 refine wpAnyH_done (by kernel_rfl) ?_ _;exact HP.out _ _ _ _ _ _ _ _ _ _ _ _ _ _ _ _ _ _ _ _ _ _ _ _ _ _ _ _ _ _ _ _ _ _ _ _ _ _ _ _ _ _ HE3.out
end
end Go.Proofs.YtifcdjmcoibblaaGreatDoor
