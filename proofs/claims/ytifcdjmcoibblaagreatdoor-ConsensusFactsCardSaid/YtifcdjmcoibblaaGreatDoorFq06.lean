/- Nod Lnk Look NC -/
import Derived.Test.YtifcdjmcoibblaaGreatDoorFq04
import Derived.Test.YtifcdjmcoibblaaGreatDoorFq01
import Derived.Test.YtifcdjmcoibblaaGreatDoorFq05
import Derived.Test.YtifcdjmcoibblaaGreatDoorFq02
import Derived.Laws.AppendOwn
import Derived.Laws.Rows
import Derived.BigQuiet
set_option linter.unusedVariables false
set_option linter.unusedSimpArgs false
set_option linter.unusedSectionVars false
set_option maxRecDepth 100000
set_option maxHeartbeats 80000000
namespace Go.Proofs.YtifcdjmcoibblaaGreatDoor
section
open Go.RowKit
instance:Dg ByteArray:=⟨inferInstance,ByteArray.mk #[],fun a b=>Op.bytesLess a.toList b.toList⟩
abbrev MsgB:=Msg ByteArray (List ByteArray)
abbrev ValB:=Val ByteArray (List ByteArray)
abbrev StB:=NS ByteArray (List ByteArray)
def iv (n:Int):Value:=.int .i64 n
def mv (b:Nat):Value:=.map (some b)
def pv (b:Nat):Value:=.pointer (some ⟨b,0,none⟩)
def po:Option Nat→Value
 | none=>.pointer none
 | some b=>pv b
def LRow (R:Nat→Prop) (w:World) (v:Value) (l:List ByteArray):Prop:=
 ∃ao cap,v = .slice ao l.length cap∧((ao=none→cap=0)∧l.length≤cap) ∧
  (l = []∨∃g o cur fr,ao=some ⟨g,o,none⟩∧R g∧w.heap[g]?=some (.cells cur 9 fr)∧∀i p,l[i]?=some p→cur[o+i]?=some (.string p))
theorem LRow.row {R:Nat→Prop} {w:World} {v:Value} {l:List ByteArray} (h:LRow R w v l):∃ao cap,v = .slice ao l.length cap∧((ao=none→cap=0)∧l.length≤cap)∧RowK 1 encT w ao l:=by
 obtain ⟨ao,cap,h1,h2,h3⟩:=h;refine ⟨ao,cap,h1,h2,fun i x hx=>?_⟩;rcases h3 with rfl | ⟨g,o,cur,fr,h4,h5,h6,h7⟩
 ·simp at hx
 refine ⟨g,o,h4,(gE h6).1,fun j u hu=>?_⟩;have hj:j=0:=by
  have:=(List.getElem?_eq_some_iff.1 hu).1;simp [encT] at this;exact this
 subst hj;simp [encT] at hu;subst hu;rw [cell_of_row w g _ cur _ _ h6,Nat.mul_one,Nat.add_zero];exact h7 i x hx
theorem LRow.nil (R:Nat→Prop) (w:World):LRow R w (.slice none 0 0) []:=⟨none,0,rfl,⟨fun _=>rfl,Nat.le_refl _⟩,.inl rfl⟩
theorem LRow.kept {R:Nat→Prop} {w w':World} {v:Value} {l:List ByteArray} (h:LRow R w v l) (hk:∀g cur fr,R g→w.heap[g]?=some (.cells cur 9 fr)→w'.heap[g]?=w.heap[g]?):LRow R w' v l:=by
 obtain ⟨ao,cap,h1,h2,h3⟩:=h;refine ⟨ao,cap,h1,h2,?_⟩;rcases h3 with h3 | ⟨g,o,cur,fr,h4,h5,h6,h7⟩
 ·exact .inl h3
 exact .inr ⟨g,o,cur,fr,h4,h5,(hk g cur fr h5 h6).trans h6,h7⟩
theorem LRow.mono {R R':Nat→Prop} {w:World} {v:Value} {l:List ByteArray} (h:LRow R w v l) (hr:∀k,R k→R' k):LRow R' w v l:=by
 obtain ⟨ao,cap,h1,h2,h3⟩:=h;refine ⟨ao,cap,h1,h2,?_⟩;rcases h3 with h3 | ⟨g,o,cur,fr,h4,h5,h6⟩
 ·exact .inl h3
 exact .inr ⟨g,o,cur,fr,h4,hr g h5,h6⟩
theorem LRow.of_owns {R:Nat→Prop} {w:World} {base:Nat} {v:Value} {l:List ByteArray} (h:w.ownsRow base 9 1 v l.length (l.map Value.string)) (hr:∀g,base≤g→g<w.heap.size→R g):LRow R w v l:=by
 obtain ⟨hlen,h | ⟨g,cap,cur,hv,hb,hg,hn,hm,hs,ht⟩⟩:=h
 ·obtain ⟨rfl,h0⟩:=h;have:l = []:=List.eq_nil_of_length_eq_zero h0;subst this;exact LRow.nil R w
 refine ⟨some ⟨g,0,none⟩,cap,hv,⟨(fun h=>by cases h),hn⟩,.inr ⟨g,0,cur,(0,0),rfl,hr g hb (gE hg).1,hg,fun i p hp=>?_⟩⟩;have hi:=(List.getElem?_eq_some_iff.1 hp).1;have e:(l.map Value.string)[i]?=some (.string p):=by rw [List.getElem?_map,hp];rfl
 rw [←ht,List.getElem?_take_of_lt (by omega),Array.getElem?_toList] at e;rw [Nat.zero_add];exact e
def encM (m:MsgB) (sl:Value):Array Value:=#[iv m.kind,iv m.frm,iv m.to,iv m.height,iv m.round,iv m.valid,.string m.dig,sl]
def MsgV (R:Nat→Prop) (w:World) (v:Value) (m:MsgB):Prop:=∃sl,v = .agg (encM m sl)∧LRow R w sl m.list
def ValV (R:Nat→Prop) (w:World) (v:Value) (x:ValB):Prop:=∃sl,v = .agg #[iv x.round,.string x.dig,sl]∧LRow R w sl x.list
def ValP (R:Nat→Prop) (w:World):Option Nat→Option ValB→Prop
 | none,none=>True
 | some g,some x=>R g∧∃sl,w.heap[g]?=some (.cells #[iv x.round,.string x.dig,sl] 120 (0,0))∧LRow R w sl x.list
 | _,_=>False
inductive All2 {α β:Type} (r:α→β→Prop):List α→List β→Prop
 | nil:All2 r [] []
 | cons {a:α} {b:β} {l:List α} {m:List β}:r a b→All2 r l m→All2 r (a :: l) (b :: m)
theorem All2.mono {α β:Type} {r r':α→β→Prop} {l:List α} {m:List β} (h:All2 r l m) (hr:∀a b,r a b→r' a b):All2 r' l m:=by
 induction h with
 | nil=>exact .nil
 | cons h1 _ ih=>exact .cons (hr _ _ h1) ih
theorem All2.len {α β:Type} {r:α→β→Prop} {l:List α} {m:List β} (h:All2 r l m):l.length=m.length:=by
 induction h with
 | nil=>rfl
 | cons h1 _ ih=>simp [ih]
theorem All2.append {α β:Type} {r:α→β→Prop} {l:List α} {m:List β} (h:All2 r l m) {a:α} {b:β} (hab:r a b):All2 r (l ++ [a]) (m ++ [b]):=by
 induction h with
 | nil=>exact .cons hab .nil
 | cons h1 _ ih=>exact .cons h1 ih
theorem All2.mem_left {α β:Type} {r:α→β→Prop} {l:List α} {m:List β} (h:All2 r l m) {a:α} (ha:a∈l):∃b∈m,r a b:=by
 induction h with
 | nil=>cases ha
 | cons h1 _ ih=>
  rcases List.mem_cons.1 ha with rfl | ha
  ·exact ⟨_,by simp,h1⟩
  obtain ⟨b,hb,hr⟩:=ih ha;exact ⟨b,by simp [hb],hr⟩
structure Ptr where
 acc:Nat
 props:Nat
 claims:Nat
 votes:Nat
 stand:Nat
 made:Nat
 decs:Nat
 ques:Nat
 inf:Nat
 box:Nat
 lock:Option Nat
 valid:Option Nat
 own:Option Nat
 mine:Value
 order:Value
def Ptr.maps (p:Ptr):List Nat:=[p.acc,p.props,p.claims,p.votes,p.stand,p.made,p.decs,p.ques,p.inf]
def nodeRow (s:StB) (p:Ptr):Array Value:=
 #[iv s.height,iv s.round,iv s.step,iv s.clock,iv s.ticks,po p.lock,po p.valid,po p.own,mv p.acc,mv p.props,mv p.claims,p.order,pv p.box,mv p.stand,p.mine,mv p.made,iv s.id,iv s.n,mv p.decs,mv p.ques,mv p.inf]
def encAcc (d:ByteArray):Value×Value:=(.string d,.bool true)
def encPl (p:Int×Int):Value×Value:=(.agg #[iv p.1,iv p.2],.bool true)
def encSt (p:Int×(Int×Int)):Value×Value:=(iv p.1,.agg #[iv p.2.1,iv p.2.2])
def encVt (p:Bal×ByteArray):Value×Value:=(.agg #[iv p.1.1,iv p.1.2.1,iv p.1.2.2.1,iv p.1.2.2.2],.string p.2)
def RMsg (R:Nat→Prop) (w:World) (e:Value×Value) (p:Int×MsgB):Prop:=e.1=iv p.1∧MsgV R w e.2 p.2
def RVal (R:Nat→Prop) (w:World) (e:Value×Value) (p:Int×ValB):Prop:=e.1=iv p.1∧ValV R w e.2 p.2
structure Maps (R:Nat→Prop) (w:World) (p:Ptr) (s:StB):Prop where
 acc:RawMap w p.acc (s.acc.map encAcc)
 props:∃L,RawMap w p.props L∧All2 (RMsg R w) L s.props
 claims:∃L,RawMap w p.claims L∧All2 (RMsg R w) L s.claims
 votes:RawMap w p.votes (s.votes.map encVt)
 stand:RawMap w p.stand (s.stand.map encSt)
 made:RawMap w p.made (s.made.map encPl)
 decs:∃L,RawMap w p.decs L∧All2 (RVal R w) L s.decs
 ques:RawMap w p.ques (s.ques.map encSt)
 inf:RawMap w p.inf (s.inf.map encPl)
 nd:p.maps.Nodup
 own:∀b∈p.maps,R b
structure Rest (R:Nat→Prop) (w:World) (p:Ptr) (s:StB):Prop where
 box:R p.box∧w.heap[p.box]?=some (.cells #[iv s.n,mv p.votes] 221 (0,0))
 lock:ValP R w p.lock s.lock
 valid:ValP R w p.valid s.valid
 own:ValP R w p.own s.own
 order:w.ownsRow 0 3 1 p.order s.order.length (s.order.map iv)∧∀g,p.order.ownBlock=some g→R g
 mine:(∃sls,All2 (fun sl m=>LRow R w sl m.list) sls s.mine∧w.ownsRow 0 36 8 p.mine s.mine.length ((sls.zip s.mine).flatMap fun q=>(encM q.2 q.1).toList))∧∀g,p.mine.ownBlock=some g→R g
structure NodeP (R:Nat→Prop) (w:World) (x:Nat) (p:Ptr) (s:StB):Prop where
 node:w.heap[x]?=some (.cells (nodeRow s p) 117 (0,0))
 mem:R x
 maps:Maps R w p s
 rest:Rest R w p s
 lt:∀k,R k→k<w.heap.size
def NodeAt (R:Nat→Prop) (w:World) (x:Nat) (s:StB):Prop:=∃p,NodeP R w x p s
theorem NodeP.c {R:Nat→Prop} {w:World} {x:Nat} {p:Ptr} {s:StB} (h:NodeP R w x p s) {i:Nat} {v:Value} (hv:(nodeRow s p)[i]?=some v):w.cell? ⟨x,i,none⟩=some v:=by
 rw [cell_of_row w x i _ _ _ h.node];exact hv
theorem NodeP.fz {R:Nat→Prop} {w:World} {x:Nat} {p:Ptr} {s:StB} (h:NodeP R w x p s) (i:Nat):w.frozen? ⟨x,i,none⟩=false:=frozen_of_row w x i _ _ h.node
theorem MsgV.kept {R:Nat→Prop} {w w':World} {v:Value} {m:MsgB} (h:MsgV R w v m) (hk:∀g cur fr,R g→w.heap[g]?=some (.cells cur 9 fr)→w'.heap[g]?=w.heap[g]?):MsgV R w' v m:=by
 obtain ⟨sl,h1,h2⟩:=h;exact ⟨sl,h1,h2.kept hk⟩
theorem ValV.kept {R:Nat→Prop} {w w':World} {v:Value} {m:ValB} (h:ValV R w v m) (hk:∀g cur fr,R g→w.heap[g]?=some (.cells cur 9 fr)→w'.heap[g]?=w.heap[g]?):ValV R w' v m:=by
 obtain ⟨sl,h1,h2⟩:=h;exact ⟨sl,h1,h2.kept hk⟩
theorem MsgV.mono {R R':Nat→Prop} {w:World} {v:Value} {m:MsgB} (h:MsgV R w v m) (hr:∀k,R k→R' k):MsgV R' w v m:=by
 obtain ⟨sl,h1,h2⟩:=h;exact ⟨sl,h1,h2.mono hr⟩
theorem ValV.mono {R R':Nat→Prop} {w:World} {v:Value} {m:ValB} (h:ValV R w v m) (hr:∀k,R k→R' k):ValV R' w v m:=by
 obtain ⟨sl,h1,h2⟩:=h;exact ⟨sl,h1,h2.mono hr⟩
theorem ValP.kept {R:Nat→Prop} {w w':World} {p:Option Nat} {x:Option ValB} (h:ValP R w p x) (hk:∀g cur fr,R g→w.heap[g]?=some (.cells cur 9 fr)→w'.heap[g]?=w.heap[g]?) (hv:∀g cur fr,R g→w.heap[g]?=some (.cells cur 120 fr)→w'.heap[g]?=w.heap[g]?):ValP R w' p x:=by
 match p,x,h with
 | none,none,_=>trivial
 | some g,some x,⟨h0,sl,h1,h2⟩=>exact ⟨h0,sl,(hv g _ _ h0 h1).trans h1,h2.kept hk⟩
theorem ValP.mono {R R':Nat→Prop} {w:World} {p:Option Nat} {x:Option ValB} (h:ValP R w p x) (hr:∀k,R k→R' k):ValP R' w p x:=by
 match p,x,h with
 | none,none,_=>trivial
 | some g,some x,⟨h0,sl,h1,h2⟩=>exact ⟨hr g h0,sl,h1,h2.mono hr⟩
theorem owns_blk {w w':World} {base e size n:Nat} {v:Value} {xs:List Value} (h:w.ownsRow base e size v n xs) (hb:∀g cur,v.ownBlock=some g→w.heap[g]?=some (.cells cur e (0,0))→w'.heap[g]?=w.heap[g]?):w'.ownsRow base e size v n xs:=by
 obtain ⟨h1,h | ⟨g,cap,cur,rfl,h2,h3,h4⟩⟩:=h
 ·exact ⟨h1,.inl h⟩
 exact ⟨h1,.inr ⟨g,cap,cur,rfl,h2,(hb g cur rfl h3).trans h3,h4⟩⟩
theorem Rest.kept {R:Nat→Prop} {w w':World} {p:Ptr} {s:StB} (h:Rest R w p s) (hk:∀g cur t fr,R g→w.heap[g]?=some (.cells cur t fr)→t≠117→w'.heap[g]?=w.heap[g]?):Rest R w' p s:=by
 have hs:∀g cur fr,R g→w.heap[g]?=some (.cells cur 9 fr)→w'.heap[g]?=w.heap[g]?:=fun g cur fr hr hg=>hk g cur _ fr hr hg (by decide);have hv:∀g cur fr,R g→w.heap[g]?=some (.cells cur 120 fr)→w'.heap[g]?=w.heap[g]?:=fun g cur fr hr hg=>hk g cur _ fr hr hg (by decide);refine ⟨⟨h.box.1,(hk _ _ _ _ h.box.1 h.box.2 (by decide)).trans h.box.2⟩,h.lock.kept hs hv,h.valid.kept hs hv,h.own.kept hs hv,⟨owns_blk h.order.1 (fun g cur hg hc=>hk g cur _ _ (h.order.2 g hg) hc (by decide)),h.order.2⟩,?_,h.mine.2⟩;obtain ⟨sls,h1,h2⟩:=h.mine.1;exact ⟨sls,h1.mono (fun a b q=>q.kept hs),owns_blk h2 (fun g cur hg hc=>hk g cur _ _ (h.mine.2 g hg) hc (by decide))⟩
theorem Rest.mono {R R':Nat→Prop} {w:World} {p:Ptr} {s:StB} (h:Rest R w p s) (hr:∀k,R k→R' k):Rest R' w p s:=by
 refine ⟨⟨hr _ h.box.1,h.box.2⟩,h.lock.mono hr,h.valid.mono hr,h.own.mono hr,⟨h.order.1,fun g hg=>hr g (h.order.2 g hg)⟩,?_,fun g hg=>hr g (h.mine.2 g hg)⟩;obtain ⟨sls,h1,h2⟩:=h.mine.1;exact ⟨sls,h1.mono (fun a b q=>q.mono hr),h2⟩
theorem RMsg.kept {R:Nat→Prop} {w w':World} {e:Value×Value} {p:Int×MsgB} (h:RMsg R w e p) (hk:∀g cur fr,R g→w.heap[g]?=some (.cells cur 9 fr)→w'.heap[g]?=w.heap[g]?):RMsg R w' e p:=⟨h.1,h.2.kept hk⟩
theorem RVal.kept {R:Nat→Prop} {w w':World} {e:Value×Value} {p:Int×ValB} (h:RVal R w e p) (hk:∀g cur fr,R g→w.heap[g]?=some (.cells cur 9 fr)→w'.heap[g]?=w.heap[g]?):RVal R w' e p:=⟨h.1,h.2.kept hk⟩
theorem Maps.kept {R:Nat→Prop} {w w':World} {p:Ptr} {s:StB} (h:Maps R w p s) (hm:∀b∈p.maps,w'.heap[b]?=w.heap[b]?) (hs:∀g cur fr,R g→w.heap[g]?=some (.cells cur 9 fr)→w'.heap[g]?=w.heap[g]?):Maps R w' p s:=by
 obtain ⟨Lp,p1,p2⟩:=h.props;obtain ⟨Lc,c1,c2⟩:=h.claims;obtain ⟨Ld,d1,d2⟩:=h.decs;exact ⟨h.acc.kept (hm _ (by simp [Ptr.maps])),⟨Lp,p1.kept (hm _ (by simp [Ptr.maps])),p2.mono (fun a b q=>q.kept hs)⟩,⟨Lc,c1.kept (hm _ (by simp [Ptr.maps])),c2.mono (fun a b q=>q.kept hs)⟩,
  h.votes.kept (hm _ (by simp [Ptr.maps])),h.stand.kept (hm _ (by simp [Ptr.maps])),h.made.kept (hm _ (by simp [Ptr.maps])),⟨Ld,d1.kept (hm _ (by simp [Ptr.maps])),d2.mono (fun a b q=>q.kept hs)⟩,
  h.ques.kept (hm _ (by simp [Ptr.maps])),h.inf.kept (hm _ (by simp [Ptr.maps])),h.nd,h.own⟩
theorem Maps.mono {R R':Nat→Prop} {w:World} {p:Ptr} {s:StB} (h:Maps R w p s) (hr:∀k,R k→R' k):Maps R' w p s:=by
 obtain ⟨Lp,p1,p2⟩:=h.props;obtain ⟨Lc,c1,c2⟩:=h.claims;obtain ⟨Ld,d1,d2⟩:=h.decs;exact ⟨h.acc,⟨Lp,p1,p2.mono (fun a b q=>⟨q.1,q.2.mono hr⟩)⟩,⟨Lc,c1,c2.mono (fun a b q=>⟨q.1,q.2.mono hr⟩)⟩,h.votes,h.stand,h.made,⟨Ld,d1,d2.mono (fun a b q=>⟨q.1,q.2.mono hr⟩)⟩,h.ques,h.inf,h.nd,fun b hb=>hr b (h.own b hb)⟩
theorem Maps.isMap {R:Nat→Prop} {w:World} {p:Ptr} {s:StB} (h:Maps R w p s):∀b∈p.maps,∃es c,w.heap[b]?=some (.map es c):=by
 have e:∀{b:Nat} {L:List (Value×Value)},RawMap w b L→∃es c,w.heap[b]?=some (.map es c):=fun {b L} ⟨es,c,h,_⟩=>⟨es,c,h⟩;obtain ⟨Lp,p1,_⟩:=h.props;obtain ⟨Lc,c1,_⟩:=h.claims;obtain ⟨Ld,d1,_⟩:=h.decs;intro b hb;simp only [Ptr.maps,List.mem_cons,List.not_mem_nil,or_false] at hb;rcases hb with rfl | rfl | rfl | rfl | rfl | rfl | rfl | rfl | rfl
 ·exact e h.acc
 ·exact e p1
 ·exact e c1
 ·exact e h.votes
 ·exact e h.stand
 ·exact e h.made
 ·exact e d1
 ·exact e h.ques
 exact e h.inf
theorem NodeP.later {R:Nat→Prop} {w w':World} {x:Nat} {p:Ptr} {s:StB} (h:NodeP R w x p s) (hk:∀k,R k→w'.heap[k]?=w.heap[k]?) (hz:w.heap.size≤w'.heap.size):NodeP R w' x p s:=
 ⟨(hk x h.mem).trans h.node,h.mem,h.maps.kept (fun b hb=>hk b (h.maps.own b hb)) (fun g cur fr hr _=>hk g hr),h.rest.kept (fun g cur t fr hr _ _=>hk g hr),fun k hk=>Nat.lt_of_lt_of_le (h.lt k hk) hz⟩
theorem NodeP.below {R:Nat→Prop} {w w':World} {x:Nat} {p:Ptr} {s:StB} (h:NodeP R w x p s) (hb:Below w.heap.size w w'):NodeP R w' x p s:=h.later (fun k hk=>hb.block k (h.lt k hk)) hb.size
theorem NodeP.mono {R R':Nat→Prop} {w:World} {x:Nat} {p:Ptr} {s:StB} (h:NodeP R w x p s) (hr:∀k,R k→R' k) (hl:∀k,R' k→k<w.heap.size):NodeP R' w x p s:=
 ⟨h.node,hr _ h.mem,h.maps.mono hr,h.rest.mono hr,hl⟩
theorem NodeP.field {R:Nat→Prop} {w w':World} {x:Nat} {p:Ptr} {s s':StB} (h:NodeP R w x p s) (hn:w'.heap[x]?=some (.cells (nodeRow s' p) 117 (0,0))) (hk:∀k,k≠x→w'.heap[k]?=w.heap[k]?) (hz:w.heap.size≤w'.heap.size)
  (hm:∀w2,Maps R w2 p s→Maps R w2 p s') (hr:∀w2,Rest R w2 p s→Rest R w2 p s'):NodeP R w' x p s':=by
 have hne:∀g cur t fr,R g→w.heap[g]?=some (.cells cur t fr)→t≠117→w'.heap[g]?=w.heap[g]?:=fun g cur t fr _ hg ht=>hk g (fun e=>by
  subst e;rw [h.node] at hg;injection hg with hg;injection hg with _ hg _;exact ht hg.symm)
 refine ⟨hn,h.mem,hm _ (h.maps.kept (fun b hb=>hk b (fun e=>?_)) (fun g cur fr hr hg=>hne g cur _ fr hr hg (by decide))),hr _ (h.rest.kept hne),fun k hk=>Nat.lt_of_lt_of_le (h.lt k hk) hz⟩;obtain ⟨es,c,hb'⟩:=h.maps.isMap b hb;subst e;rw [h.node] at hb';cases hb'
theorem NodeP.but {R:Nat→Prop} {w w':World} {x:Nat} {p:Ptr} {s:StB} (h:NodeP R w x p s) {b:Nat} (hb:b∈p.maps) (hk:∀k,k<w.heap.size→k≠b→w'.heap[k]?=w.heap[k]?) :
  (∀(g:Nat) cur t fr,w.heap[g]?=some (Obj.cells cur t fr)→w'.heap[g]?=w.heap[g]?):=by
 obtain ⟨es,c,hm⟩:=h.maps.isMap b hb;intro g cur t fr hg;exact hk g (gE hg).1 (fun e=>by subst e;rw [hm] at hg;cases hg)
theorem NodeP.put_acc {R:Nat→Prop} {w w':World} {x:Nat} {p:Ptr} {s s':StB} (h:NodeP R w x p s) (hk:∀k,k<w.heap.size→k≠p.acc→w'.heap[k]?=w.heap[k]?) (hz:w.heap.size≤w'.heap.size) (hm:RawMap w' p.acc (s'.acc.map encAcc)) (hrow:nodeRow s' p=nodeRow s p:=by rfl) (hr:∀w2,Rest R w2 p s→Rest R w2 p s':=by exact fun _ h=>⟨h.box,h.lock,h.valid,h.own,h.order,h.mine⟩) (eprops:s'.props=s.props:=by rfl) (eclaims:s'.claims=s.claims:=by rfl) (evotes:s'.votes=s.votes:=by rfl) (estand:s'.stand=s.stand:=by rfl) (emade:s'.made=s.made:=by rfl) (edecs:s'.decs=s.decs:=by rfl) (eques:s'.ques=s.ques:=by rfl) (einf:s'.inf=s.inf:=by rfl):NodeP R w' x p s':=by
 have hb:=h.but (b:=p.acc) (by simp [Ptr.maps]) hk;have hs:∀g cur fr,R g→w.heap[g]?=some (.cells cur 9 fr)→w'.heap[g]?=w.heap[g]?:=fun g cur fr _ hg=>hb g cur _ fr hg;have nd:=h.maps.nd;simp only [Ptr.maps,List.nodup_cons,List.mem_cons,List.not_mem_nil,or_false,not_or] at nd;refine ⟨by rw [hrow];exact (hb _ _ _ _ h.node).trans h.node,h.mem,?_,hr _ (h.rest.kept (fun g cur t fr _ hg _=>hb g cur t fr hg)),fun k hk=>Nat.lt_of_lt_of_le (h.lt k hk) hz⟩;refine ⟨?_,?_,?_,?_,?_,?_,?_,?_,?_,h.maps.nd,h.maps.own⟩
 ·exact hm
 ·rw [eprops];obtain ⟨L,l1,l2⟩:=h.maps.props;exact ⟨L,l1.kept (hk _ l1.lt (fun e=>by simp_all)),l2.mono (fun a b q=>q.kept hs)⟩
 ·rw [eclaims];obtain ⟨L,l1,l2⟩:=h.maps.claims;exact ⟨L,l1.kept (hk _ l1.lt (fun e=>by simp_all)),l2.mono (fun a b q=>q.kept hs)⟩
 ·rw [evotes];exact h.maps.votes.kept (hk _ h.maps.votes.lt (fun e=>by simp_all))
 ·rw [estand];exact h.maps.stand.kept (hk _ h.maps.stand.lt (fun e=>by simp_all))
 ·rw [emade];exact h.maps.made.kept (hk _ h.maps.made.lt (fun e=>by simp_all))
 ·rw [edecs];obtain ⟨L,l1,l2⟩:=h.maps.decs;exact ⟨L,l1.kept (hk _ l1.lt (fun e=>by simp_all)),l2.mono (fun a b q=>q.kept hs)⟩
 ·rw [eques];exact h.maps.ques.kept (hk _ h.maps.ques.lt (fun e=>by simp_all))
 rw [einf];exact h.maps.inf.kept (hk _ h.maps.inf.lt (fun e=>by simp_all))
theorem NodeP.put_props {R:Nat→Prop} {w w':World} {x:Nat} {p:Ptr} {s s':StB} (h:NodeP R w x p s) (hk:∀k,k<w.heap.size→k≠p.props→w'.heap[k]?=w.heap[k]?) (hz:w.heap.size≤w'.heap.size) (hm:∃L,RawMap w' p.props L∧All2 (RMsg R w') L s'.props) (hrow:nodeRow s' p=nodeRow s p:=by rfl) (hr:∀w2,Rest R w2 p s→Rest R w2 p s':=by exact fun _ h=>⟨h.box,h.lock,h.valid,h.own,h.order,h.mine⟩) (eacc:s'.acc=s.acc:=by rfl) (eclaims:s'.claims=s.claims:=by rfl) (evotes:s'.votes=s.votes:=by rfl) (estand:s'.stand=s.stand:=by rfl) (emade:s'.made=s.made:=by rfl) (edecs:s'.decs=s.decs:=by rfl) (eques:s'.ques=s.ques:=by rfl) (einf:s'.inf=s.inf:=by rfl):NodeP R w' x p s':=by
 have hb:=h.but (b:=p.props) (by simp [Ptr.maps]) hk;have hs:∀g cur fr,R g→w.heap[g]?=some (.cells cur 9 fr)→w'.heap[g]?=w.heap[g]?:=fun g cur fr _ hg=>hb g cur _ fr hg;have nd:=h.maps.nd;simp only [Ptr.maps,List.nodup_cons,List.mem_cons,List.not_mem_nil,or_false,not_or] at nd;refine ⟨by rw [hrow];exact (hb _ _ _ _ h.node).trans h.node,h.mem,?_,hr _ (h.rest.kept (fun g cur t fr _ hg _=>hb g cur t fr hg)),fun k hk=>Nat.lt_of_lt_of_le (h.lt k hk) hz⟩;refine ⟨?_,?_,?_,?_,?_,?_,?_,?_,?_,h.maps.nd,h.maps.own⟩
 ·rw [eacc];exact h.maps.acc.kept (hk _ h.maps.acc.lt (fun e=>by simp_all))
 ·exact hm
 ·rw [eclaims];obtain ⟨L,l1,l2⟩:=h.maps.claims;exact ⟨L,l1.kept (hk _ l1.lt (fun e=>by simp_all)),l2.mono (fun a b q=>q.kept hs)⟩
 ·rw [evotes];exact h.maps.votes.kept (hk _ h.maps.votes.lt (fun e=>by simp_all))
 ·rw [estand];exact h.maps.stand.kept (hk _ h.maps.stand.lt (fun e=>by simp_all))
 ·rw [emade];exact h.maps.made.kept (hk _ h.maps.made.lt (fun e=>by simp_all))
 ·rw [edecs];obtain ⟨L,l1,l2⟩:=h.maps.decs;exact ⟨L,l1.kept (hk _ l1.lt (fun e=>by simp_all)),l2.mono (fun a b q=>q.kept hs)⟩
 ·rw [eques];exact h.maps.ques.kept (hk _ h.maps.ques.lt (fun e=>by simp_all))
 rw [einf];exact h.maps.inf.kept (hk _ h.maps.inf.lt (fun e=>by simp_all))
theorem NodeP.put_claims {R:Nat→Prop} {w w':World} {x:Nat} {p:Ptr} {s s':StB} (h:NodeP R w x p s) (hk:∀k,k<w.heap.size→k≠p.claims→w'.heap[k]?=w.heap[k]?) (hz:w.heap.size≤w'.heap.size) (hm:∃L,RawMap w' p.claims L∧All2 (RMsg R w') L s'.claims) (hrow:nodeRow s' p=nodeRow s p:=by rfl) (hr:∀w2,Rest R w2 p s→Rest R w2 p s':=by exact fun _ h=>⟨h.box,h.lock,h.valid,h.own,h.order,h.mine⟩) (eacc:s'.acc=s.acc:=by rfl) (eprops:s'.props=s.props:=by rfl) (evotes:s'.votes=s.votes:=by rfl) (estand:s'.stand=s.stand:=by rfl) (emade:s'.made=s.made:=by rfl) (edecs:s'.decs=s.decs:=by rfl) (eques:s'.ques=s.ques:=by rfl) (einf:s'.inf=s.inf:=by rfl):NodeP R w' x p s':=by
 have hb:=h.but (b:=p.claims) (by simp [Ptr.maps]) hk;have hs:∀g cur fr,R g→w.heap[g]?=some (.cells cur 9 fr)→w'.heap[g]?=w.heap[g]?:=fun g cur fr _ hg=>hb g cur _ fr hg;have nd:=h.maps.nd;simp only [Ptr.maps,List.nodup_cons,List.mem_cons,List.not_mem_nil,or_false,not_or] at nd;refine ⟨by rw [hrow];exact (hb _ _ _ _ h.node).trans h.node,h.mem,?_,hr _ (h.rest.kept (fun g cur t fr _ hg _=>hb g cur t fr hg)),fun k hk=>Nat.lt_of_lt_of_le (h.lt k hk) hz⟩;refine ⟨?_,?_,?_,?_,?_,?_,?_,?_,?_,h.maps.nd,h.maps.own⟩
 ·rw [eacc];exact h.maps.acc.kept (hk _ h.maps.acc.lt (fun e=>by simp_all))
 ·rw [eprops];obtain ⟨L,l1,l2⟩:=h.maps.props;exact ⟨L,l1.kept (hk _ l1.lt (fun e=>by simp_all)),l2.mono (fun a b q=>q.kept hs)⟩
 ·exact hm
 ·rw [evotes];exact h.maps.votes.kept (hk _ h.maps.votes.lt (fun e=>by simp_all))
 ·rw [estand];exact h.maps.stand.kept (hk _ h.maps.stand.lt (fun e=>by simp_all))
 ·rw [emade];exact h.maps.made.kept (hk _ h.maps.made.lt (fun e=>by simp_all))
 ·rw [edecs];obtain ⟨L,l1,l2⟩:=h.maps.decs;exact ⟨L,l1.kept (hk _ l1.lt (fun e=>by simp_all)),l2.mono (fun a b q=>q.kept hs)⟩
 ·rw [eques];exact h.maps.ques.kept (hk _ h.maps.ques.lt (fun e=>by simp_all))
 rw [einf];exact h.maps.inf.kept (hk _ h.maps.inf.lt (fun e=>by simp_all))
theorem NodeP.put_votes {R:Nat→Prop} {w w':World} {x:Nat} {p:Ptr} {s s':StB} (h:NodeP R w x p s) (hk:∀k,k<w.heap.size→k≠p.votes→w'.heap[k]?=w.heap[k]?) (hz:w.heap.size≤w'.heap.size) (hm:RawMap w' p.votes (s'.votes.map encVt)) (hrow:nodeRow s' p=nodeRow s p:=by rfl) (hr:∀w2,Rest R w2 p s→Rest R w2 p s':=by exact fun _ h=>⟨h.box,h.lock,h.valid,h.own,h.order,h.mine⟩) (eacc:s'.acc=s.acc:=by rfl) (eprops:s'.props=s.props:=by rfl) (eclaims:s'.claims=s.claims:=by rfl) (estand:s'.stand=s.stand:=by rfl) (emade:s'.made=s.made:=by rfl) (edecs:s'.decs=s.decs:=by rfl) (eques:s'.ques=s.ques:=by rfl) (einf:s'.inf=s.inf:=by rfl):NodeP R w' x p s':=by
 have hb:=h.but (b:=p.votes) (by simp [Ptr.maps]) hk;have hs:∀g cur fr,R g→w.heap[g]?=some (.cells cur 9 fr)→w'.heap[g]?=w.heap[g]?:=fun g cur fr _ hg=>hb g cur _ fr hg;have nd:=h.maps.nd;simp only [Ptr.maps,List.nodup_cons,List.mem_cons,List.not_mem_nil,or_false,not_or] at nd;refine ⟨by rw [hrow];exact (hb _ _ _ _ h.node).trans h.node,h.mem,?_,hr _ (h.rest.kept (fun g cur t fr _ hg _=>hb g cur t fr hg)),fun k hk=>Nat.lt_of_lt_of_le (h.lt k hk) hz⟩;refine ⟨?_,?_,?_,?_,?_,?_,?_,?_,?_,h.maps.nd,h.maps.own⟩
 ·rw [eacc];exact h.maps.acc.kept (hk _ h.maps.acc.lt (fun e=>by simp_all))
 ·rw [eprops];obtain ⟨L,l1,l2⟩:=h.maps.props;exact ⟨L,l1.kept (hk _ l1.lt (fun e=>by simp_all)),l2.mono (fun a b q=>q.kept hs)⟩
 ·rw [eclaims];obtain ⟨L,l1,l2⟩:=h.maps.claims;exact ⟨L,l1.kept (hk _ l1.lt (fun e=>by simp_all)),l2.mono (fun a b q=>q.kept hs)⟩
 ·exact hm
 ·rw [estand];exact h.maps.stand.kept (hk _ h.maps.stand.lt (fun e=>by simp_all))
 ·rw [emade];exact h.maps.made.kept (hk _ h.maps.made.lt (fun e=>by simp_all))
 ·rw [edecs];obtain ⟨L,l1,l2⟩:=h.maps.decs;exact ⟨L,l1.kept (hk _ l1.lt (fun e=>by simp_all)),l2.mono (fun a b q=>q.kept hs)⟩
 ·rw [eques];exact h.maps.ques.kept (hk _ h.maps.ques.lt (fun e=>by simp_all))
 rw [einf];exact h.maps.inf.kept (hk _ h.maps.inf.lt (fun e=>by simp_all))
theorem NodeP.put_stand {R:Nat→Prop} {w w':World} {x:Nat} {p:Ptr} {s s':StB} (h:NodeP R w x p s) (hk:∀k,k<w.heap.size→k≠p.stand→w'.heap[k]?=w.heap[k]?) (hz:w.heap.size≤w'.heap.size) (hm:RawMap w' p.stand (s'.stand.map encSt)) (hrow:nodeRow s' p=nodeRow s p:=by rfl) (hr:∀w2,Rest R w2 p s→Rest R w2 p s':=by exact fun _ h=>⟨h.box,h.lock,h.valid,h.own,h.order,h.mine⟩) (eacc:s'.acc=s.acc:=by rfl) (eprops:s'.props=s.props:=by rfl) (eclaims:s'.claims=s.claims:=by rfl) (evotes:s'.votes=s.votes:=by rfl) (emade:s'.made=s.made:=by rfl) (edecs:s'.decs=s.decs:=by rfl) (eques:s'.ques=s.ques:=by rfl) (einf:s'.inf=s.inf:=by rfl):NodeP R w' x p s':=by
 have hb:=h.but (b:=p.stand) (by simp [Ptr.maps]) hk;have hs:∀g cur fr,R g→w.heap[g]?=some (.cells cur 9 fr)→w'.heap[g]?=w.heap[g]?:=fun g cur fr _ hg=>hb g cur _ fr hg;have nd:=h.maps.nd;simp only [Ptr.maps,List.nodup_cons,List.mem_cons,List.not_mem_nil,or_false,not_or] at nd;refine ⟨by rw [hrow];exact (hb _ _ _ _ h.node).trans h.node,h.mem,?_,hr _ (h.rest.kept (fun g cur t fr _ hg _=>hb g cur t fr hg)),fun k hk=>Nat.lt_of_lt_of_le (h.lt k hk) hz⟩;refine ⟨?_,?_,?_,?_,?_,?_,?_,?_,?_,h.maps.nd,h.maps.own⟩
 ·rw [eacc];exact h.maps.acc.kept (hk _ h.maps.acc.lt (fun e=>by simp_all))
 ·rw [eprops];obtain ⟨L,l1,l2⟩:=h.maps.props;exact ⟨L,l1.kept (hk _ l1.lt (fun e=>by simp_all)),l2.mono (fun a b q=>q.kept hs)⟩
 ·rw [eclaims];obtain ⟨L,l1,l2⟩:=h.maps.claims;exact ⟨L,l1.kept (hk _ l1.lt (fun e=>by simp_all)),l2.mono (fun a b q=>q.kept hs)⟩
 ·rw [evotes];exact h.maps.votes.kept (hk _ h.maps.votes.lt (fun e=>by simp_all))
 ·exact hm
 ·rw [emade];exact h.maps.made.kept (hk _ h.maps.made.lt (fun e=>by simp_all))
 ·rw [edecs];obtain ⟨L,l1,l2⟩:=h.maps.decs;exact ⟨L,l1.kept (hk _ l1.lt (fun e=>by simp_all)),l2.mono (fun a b q=>q.kept hs)⟩
 ·rw [eques];exact h.maps.ques.kept (hk _ h.maps.ques.lt (fun e=>by simp_all))
 rw [einf];exact h.maps.inf.kept (hk _ h.maps.inf.lt (fun e=>by simp_all))
theorem NodeP.put_made {R:Nat→Prop} {w w':World} {x:Nat} {p:Ptr} {s s':StB} (h:NodeP R w x p s) (hk:∀k,k<w.heap.size→k≠p.made→w'.heap[k]?=w.heap[k]?) (hz:w.heap.size≤w'.heap.size) (hm:RawMap w' p.made (s'.made.map encPl)) (hrow:nodeRow s' p=nodeRow s p:=by rfl) (hr:∀w2,Rest R w2 p s→Rest R w2 p s':=by exact fun _ h=>⟨h.box,h.lock,h.valid,h.own,h.order,h.mine⟩) (eacc:s'.acc=s.acc:=by rfl) (eprops:s'.props=s.props:=by rfl) (eclaims:s'.claims=s.claims:=by rfl) (evotes:s'.votes=s.votes:=by rfl) (estand:s'.stand=s.stand:=by rfl) (edecs:s'.decs=s.decs:=by rfl) (eques:s'.ques=s.ques:=by rfl) (einf:s'.inf=s.inf:=by rfl):NodeP R w' x p s':=by
 have hb:=h.but (b:=p.made) (by simp [Ptr.maps]) hk;have hs:∀g cur fr,R g→w.heap[g]?=some (.cells cur 9 fr)→w'.heap[g]?=w.heap[g]?:=fun g cur fr _ hg=>hb g cur _ fr hg;have nd:=h.maps.nd;simp only [Ptr.maps,List.nodup_cons,List.mem_cons,List.not_mem_nil,or_false,not_or] at nd;refine ⟨by rw [hrow];exact (hb _ _ _ _ h.node).trans h.node,h.mem,?_,hr _ (h.rest.kept (fun g cur t fr _ hg _=>hb g cur t fr hg)),fun k hk=>Nat.lt_of_lt_of_le (h.lt k hk) hz⟩;refine ⟨?_,?_,?_,?_,?_,?_,?_,?_,?_,h.maps.nd,h.maps.own⟩
 ·rw [eacc];exact h.maps.acc.kept (hk _ h.maps.acc.lt (fun e=>by simp_all))
 ·rw [eprops];obtain ⟨L,l1,l2⟩:=h.maps.props;exact ⟨L,l1.kept (hk _ l1.lt (fun e=>by simp_all)),l2.mono (fun a b q=>q.kept hs)⟩
 ·rw [eclaims];obtain ⟨L,l1,l2⟩:=h.maps.claims;exact ⟨L,l1.kept (hk _ l1.lt (fun e=>by simp_all)),l2.mono (fun a b q=>q.kept hs)⟩
 ·rw [evotes];exact h.maps.votes.kept (hk _ h.maps.votes.lt (fun e=>by simp_all))
 ·rw [estand];exact h.maps.stand.kept (hk _ h.maps.stand.lt (fun e=>by simp_all))
 ·exact hm
 ·rw [edecs];obtain ⟨L,l1,l2⟩:=h.maps.decs;exact ⟨L,l1.kept (hk _ l1.lt (fun e=>by simp_all)),l2.mono (fun a b q=>q.kept hs)⟩
 ·rw [eques];exact h.maps.ques.kept (hk _ h.maps.ques.lt (fun e=>by simp_all))
 rw [einf];exact h.maps.inf.kept (hk _ h.maps.inf.lt (fun e=>by simp_all))
theorem NodeP.put_decs {R:Nat→Prop} {w w':World} {x:Nat} {p:Ptr} {s s':StB} (h:NodeP R w x p s) (hk:∀k,k<w.heap.size→k≠p.decs→w'.heap[k]?=w.heap[k]?) (hz:w.heap.size≤w'.heap.size) (hm:∃L,RawMap w' p.decs L∧All2 (RVal R w') L s'.decs) (hrow:nodeRow s' p=nodeRow s p:=by rfl) (hr:∀w2,Rest R w2 p s→Rest R w2 p s':=by exact fun _ h=>⟨h.box,h.lock,h.valid,h.own,h.order,h.mine⟩) (eacc:s'.acc=s.acc:=by rfl) (eprops:s'.props=s.props:=by rfl) (eclaims:s'.claims=s.claims:=by rfl) (evotes:s'.votes=s.votes:=by rfl) (estand:s'.stand=s.stand:=by rfl) (emade:s'.made=s.made:=by rfl) (eques:s'.ques=s.ques:=by rfl) (einf:s'.inf=s.inf:=by rfl):NodeP R w' x p s':=by
 have hb:=h.but (b:=p.decs) (by simp [Ptr.maps]) hk;have hs:∀g cur fr,R g→w.heap[g]?=some (.cells cur 9 fr)→w'.heap[g]?=w.heap[g]?:=fun g cur fr _ hg=>hb g cur _ fr hg;have nd:=h.maps.nd;simp only [Ptr.maps,List.nodup_cons,List.mem_cons,List.not_mem_nil,or_false,not_or] at nd;refine ⟨by rw [hrow];exact (hb _ _ _ _ h.node).trans h.node,h.mem,?_,hr _ (h.rest.kept (fun g cur t fr _ hg _=>hb g cur t fr hg)),fun k hk=>Nat.lt_of_lt_of_le (h.lt k hk) hz⟩;refine ⟨?_,?_,?_,?_,?_,?_,?_,?_,?_,h.maps.nd,h.maps.own⟩
 ·rw [eacc];exact h.maps.acc.kept (hk _ h.maps.acc.lt (fun e=>by simp_all))
 ·rw [eprops];obtain ⟨L,l1,l2⟩:=h.maps.props;exact ⟨L,l1.kept (hk _ l1.lt (fun e=>by simp_all)),l2.mono (fun a b q=>q.kept hs)⟩
 ·rw [eclaims];obtain ⟨L,l1,l2⟩:=h.maps.claims;exact ⟨L,l1.kept (hk _ l1.lt (fun e=>by simp_all)),l2.mono (fun a b q=>q.kept hs)⟩
 ·rw [evotes];exact h.maps.votes.kept (hk _ h.maps.votes.lt (fun e=>by simp_all))
 ·rw [estand];exact h.maps.stand.kept (hk _ h.maps.stand.lt (fun e=>by simp_all))
 ·rw [emade];exact h.maps.made.kept (hk _ h.maps.made.lt (fun e=>by simp_all))
 ·exact hm
 ·rw [eques];exact h.maps.ques.kept (hk _ h.maps.ques.lt (fun e=>by simp_all))
 rw [einf];exact h.maps.inf.kept (hk _ h.maps.inf.lt (fun e=>by simp_all))
theorem NodeP.put_ques {R:Nat→Prop} {w w':World} {x:Nat} {p:Ptr} {s s':StB} (h:NodeP R w x p s) (hk:∀k,k<w.heap.size→k≠p.ques→w'.heap[k]?=w.heap[k]?) (hz:w.heap.size≤w'.heap.size) (hm:RawMap w' p.ques (s'.ques.map encSt)) (hrow:nodeRow s' p=nodeRow s p:=by rfl) (hr:∀w2,Rest R w2 p s→Rest R w2 p s':=by exact fun _ h=>⟨h.box,h.lock,h.valid,h.own,h.order,h.mine⟩) (eacc:s'.acc=s.acc:=by rfl) (eprops:s'.props=s.props:=by rfl) (eclaims:s'.claims=s.claims:=by rfl) (evotes:s'.votes=s.votes:=by rfl) (estand:s'.stand=s.stand:=by rfl) (emade:s'.made=s.made:=by rfl) (edecs:s'.decs=s.decs:=by rfl) (einf:s'.inf=s.inf:=by rfl):NodeP R w' x p s':=by
 have hb:=h.but (b:=p.ques) (by simp [Ptr.maps]) hk;have hs:∀g cur fr,R g→w.heap[g]?=some (.cells cur 9 fr)→w'.heap[g]?=w.heap[g]?:=fun g cur fr _ hg=>hb g cur _ fr hg;have nd:=h.maps.nd;simp only [Ptr.maps,List.nodup_cons,List.mem_cons,List.not_mem_nil,or_false,not_or] at nd;refine ⟨by rw [hrow];exact (hb _ _ _ _ h.node).trans h.node,h.mem,?_,hr _ (h.rest.kept (fun g cur t fr _ hg _=>hb g cur t fr hg)),fun k hk=>Nat.lt_of_lt_of_le (h.lt k hk) hz⟩;refine ⟨?_,?_,?_,?_,?_,?_,?_,?_,?_,h.maps.nd,h.maps.own⟩
 ·rw [eacc];exact h.maps.acc.kept (hk _ h.maps.acc.lt (fun e=>by simp_all))
 ·rw [eprops];obtain ⟨L,l1,l2⟩:=h.maps.props;exact ⟨L,l1.kept (hk _ l1.lt (fun e=>by simp_all)),l2.mono (fun a b q=>q.kept hs)⟩
 ·rw [eclaims];obtain ⟨L,l1,l2⟩:=h.maps.claims;exact ⟨L,l1.kept (hk _ l1.lt (fun e=>by simp_all)),l2.mono (fun a b q=>q.kept hs)⟩
 ·rw [evotes];exact h.maps.votes.kept (hk _ h.maps.votes.lt (fun e=>by simp_all))
 ·rw [estand];exact h.maps.stand.kept (hk _ h.maps.stand.lt (fun e=>by simp_all))
 ·rw [emade];exact h.maps.made.kept (hk _ h.maps.made.lt (fun e=>by simp_all))
 ·rw [edecs];obtain ⟨L,l1,l2⟩:=h.maps.decs;exact ⟨L,l1.kept (hk _ l1.lt (fun e=>by simp_all)),l2.mono (fun a b q=>q.kept hs)⟩
 ·exact hm
 rw [einf];exact h.maps.inf.kept (hk _ h.maps.inf.lt (fun e=>by simp_all))
theorem NodeP.put_inf {R:Nat→Prop} {w w':World} {x:Nat} {p:Ptr} {s s':StB} (h:NodeP R w x p s) (hk:∀k,k<w.heap.size→k≠p.inf→w'.heap[k]?=w.heap[k]?) (hz:w.heap.size≤w'.heap.size) (hm:RawMap w' p.inf (s'.inf.map encPl)) (hrow:nodeRow s' p=nodeRow s p:=by rfl) (hr:∀w2,Rest R w2 p s→Rest R w2 p s':=by exact fun _ h=>⟨h.box,h.lock,h.valid,h.own,h.order,h.mine⟩) (eacc:s'.acc=s.acc:=by rfl) (eprops:s'.props=s.props:=by rfl) (eclaims:s'.claims=s.claims:=by rfl) (evotes:s'.votes=s.votes:=by rfl) (estand:s'.stand=s.stand:=by rfl) (emade:s'.made=s.made:=by rfl) (edecs:s'.decs=s.decs:=by rfl) (eques:s'.ques=s.ques:=by rfl):NodeP R w' x p s':=by
 have hb:=h.but (b:=p.inf) (by simp [Ptr.maps]) hk;have hs:∀g cur fr,R g→w.heap[g]?=some (.cells cur 9 fr)→w'.heap[g]?=w.heap[g]?:=fun g cur fr _ hg=>hb g cur _ fr hg;have nd:=h.maps.nd;simp only [Ptr.maps,List.nodup_cons,List.mem_cons,List.not_mem_nil,or_false,not_or] at nd;refine ⟨by rw [hrow];exact (hb _ _ _ _ h.node).trans h.node,h.mem,?_,hr _ (h.rest.kept (fun g cur t fr _ hg _=>hb g cur t fr hg)),fun k hk=>Nat.lt_of_lt_of_le (h.lt k hk) hz⟩;refine ⟨?_,?_,?_,?_,?_,?_,?_,?_,?_,h.maps.nd,h.maps.own⟩
 ·rw [eacc];exact h.maps.acc.kept (hk _ h.maps.acc.lt (fun e=>by simp_all))
 ·rw [eprops];obtain ⟨L,l1,l2⟩:=h.maps.props;exact ⟨L,l1.kept (hk _ l1.lt (fun e=>by simp_all)),l2.mono (fun a b q=>q.kept hs)⟩
 ·rw [eclaims];obtain ⟨L,l1,l2⟩:=h.maps.claims;exact ⟨L,l1.kept (hk _ l1.lt (fun e=>by simp_all)),l2.mono (fun a b q=>q.kept hs)⟩
 ·rw [evotes];exact h.maps.votes.kept (hk _ h.maps.votes.lt (fun e=>by simp_all))
 ·rw [estand];exact h.maps.stand.kept (hk _ h.maps.stand.lt (fun e=>by simp_all))
 ·rw [emade];exact h.maps.made.kept (hk _ h.maps.made.lt (fun e=>by simp_all))
 ·rw [edecs];obtain ⟨L,l1,l2⟩:=h.maps.decs;exact ⟨L,l1.kept (hk _ l1.lt (fun e=>by simp_all)),l2.mono (fun a b q=>q.kept hs)⟩
 ·rw [eques];exact h.maps.ques.kept (hk _ h.maps.ques.lt (fun e=>by simp_all))
 exact hm
end
section
open Go.RowKit
theorem getV_enc {κ β:Type} [DecidableEq κ] {e:κ×β→Value×Value} {ek:κ→Value} {ev:κ→β→Value} (he:∀p,e p=(ek p.1,ev p.1 p.2)) (hi:∀a b,ek a=ek b→a=b) (k:κ):∀l:List (κ×β),getV (ek k) (l.map e)=(getA k l).map (ev k)
 | []=>rfl
 | p :: l=>by
  simp only [List.map_cons,getV,getA,he p];by_cases h:p.1=k
  ·subst h;simp
  have:¬ek p.1=ek k:=fun q=>h (hi _ _ q);rw [if_neg this,if_neg h];exact getV_enc he hi k l
theorem putV_enc {κ β:Type} [DecidableEq κ] {e:κ×β→Value×Value} {ek:κ→Value} {ev:κ→β→Value} (he:∀p,e p=(ek p.1,ev p.1 p.2)) (hi:∀a b,ek a=ek b→a=b) (k:κ) (v:β):∀l:List (κ×β),putV (ek k) (ev k v) (l.map e)=(putA k v l).map e
 | []=>by simp [putV,putA,he]
 | p :: l=>by
  simp only [List.map_cons,putV,putA,he p];by_cases h:p.1=k
  ·subst h;simp [he]
  have:¬ek p.1=ek k:=fun q=>h (hi _ _ q);rw [if_neg this,if_neg h,putV_enc he hi k v l,List.map_cons,he p]
theorem delV_enc {κ β:Type} [DecidableEq κ] {e:κ×β→Value×Value} {ek:κ→Value} {ev:κ→β→Value} (he:∀p,e p=(ek p.1,ev p.1 p.2)) (hi:∀a b,ek a=ek b→a=b) (k:κ):∀l:List (κ×β),delV (ek k) (l.map e)=(delA k l).map e
 | []=>rfl
 | p :: l=>by
  simp only [List.map_cons,delV,delA,he p];by_cases h:p.1=k
  ·subst h;simp
  have:¬ek p.1=ek k:=fun q=>h (hi _ _ q);rw [if_neg this,if_neg h,delV_enc he hi k l,List.map_cons,he p]
theorem getV_set {κ:Type} [DecidableEq κ] {e:κ→Value×Value} {ek:κ→Value} (he:∀p,e p=(ek p,.bool true)) (hi:∀a b,ek a=ek b→a=b) (k:κ):∀l:List κ,getV (ek k) (l.map e)=if k∈l then some (.bool true) else none
 | []=>by simp [getV]
 | p :: l=>by
  simp only [List.map_cons,getV,he p,List.mem_cons];by_cases h:p=k
  ·subst h;simp
  have h1:¬ek p=ek k:=fun q=>h (hi _ _ q);have h2:¬k=p:=fun q=>h q.symm;rw [if_neg h1,getV_set he hi k l];simp only [h2,false_or]
theorem putV_set {κ:Type} [DecidableEq κ] {e:κ→Value×Value} {ek:κ→Value} (he:∀p,e p=(ek p,.bool true)) (hi:∀a b,ek a=ek b→a=b) (k:κ) (l:List κ):putV (ek k) (.bool true) (l.map e)=(insA k l).map e:=by
 have h2:∀l:List κ,k∈l→putV (ek k) (.bool true) (l.map e)=l.map e:=by
  intro l;induction l with
  | nil=>simp
  | cons p l ih=>
   intro hm;simp only [List.map_cons,putV,he p];by_cases h:p=k
   ·subst h;simp
   have h1:¬ek p=ek k:=fun q=>h (hi _ _ q);rw [if_neg h1,ih (by rcases List.mem_cons.1 hm with q | q;exact absurd q.symm h;exact q)]
 have h3:∀l:List κ,k∉l→putV (ek k) (.bool true) (l.map e)=(l ++ [k]).map e:=by
  intro l;induction l with
  | nil=>simp [putV,he]
  | cons p l ih=>
   intro hm;simp only [List.map_cons,List.cons_append,putV,he p];have h1:¬ek p=ek k:=fun q=>hm (by rw [hi _ _ q];simp);rw [if_neg h1,ih (fun q=>hm (List.mem_cons_of_mem _ q))]
 unfold insA;by_cases h:k∈l
 ·rw [if_pos h];exact h2 l h
 rw [if_neg h];exact h3 l h
def KRel {β:Type} (r:Value→β→Prop) (e:Value×Value) (p:Int×β):Prop:=e.1=iv p.1∧r e.2 p.2
theorem getV_rel {β:Type} {r:Value→β→Prop} (k:Int) {L:List (Value×Value)} {l:List (Int×β)} (h:All2 (KRel r) L l):(getV (iv k) L=none∧getA k l=none)∨∃v b,getV (iv k) L=some v∧getA k l=some b∧r v b:=by
 induction h with
 | nil=>exact .inl ⟨rfl,rfl⟩
 | @cons e p L l h1 _ ih=>
  obtain ⟨e1,e2⟩:=e;obtain ⟨h0,h1⟩:=h1;simp only at h0 h1;subst h0;by_cases hk:p.1=k
  ·subst hk;simp [getV,getA,h1]
  have:¬iv p.1=iv k:=fun q=>hk (by simpa [iv] using q);simp only [getV,getA,if_neg this,if_neg hk];exact ih
theorem putV_rel {β:Type} {r:Value→β→Prop} (k:Int) {v:Value} {b:β} (hv:r v b) {L:List (Value×Value)} {l:List (Int×β)} (h:All2 (KRel r) L l):All2 (KRel r) (putV (iv k) v L) (putA k b l):=by
 induction h with
 | nil=>exact .cons ⟨rfl,hv⟩ .nil
 | @cons e p L l h1 h2 ih=>
  obtain ⟨e1,e2⟩:=e;obtain ⟨h0,h1⟩:=h1;simp only at h0 h1;subst h0;by_cases hk:p.1=k
  ·subst hk;simp only [putV,putA,if_true];exact .cons ⟨rfl,hv⟩ h2
  have:¬iv p.1=iv k:=fun q=>hk (by simpa [iv] using q);simp only [putV,putA,if_neg this,if_neg hk];exact .cons ⟨rfl,h1⟩ ih
theorem good_rel {β:Type} {r:Value→β→Prop} (w:World) {L:List (Value×Value)} {l:List (Int×β)} (h:All2 (KRel r) L l):KeysGood goodI w L:=by
 intro p hp;obtain ⟨b,_,h1,_⟩:=h.mem_left hp;exact ⟨_,h1⟩
theorem good_acc (w:World) (l:List ByteArray):KeysGood goodS w (l.map encAcc):=by
 intro p hp;obtain ⟨x,_,rfl⟩:=List.mem_map.1 hp;exact ⟨_,rfl⟩
theorem good_pl (w:World) (l:List (Int×Int)):KeysGood good2 w (l.map encPl):=by
 intro p hp;obtain ⟨x,_,rfl⟩:=List.mem_map.1 hp;exact ⟨_,_,rfl⟩
theorem good_st (w:World) (l:List (Int×(Int×Int))):KeysGood goodI w (l.map encSt):=by
 intro p hp;obtain ⟨x,_,rfl⟩:=List.mem_map.1 hp;exact ⟨_,rfl⟩
theorem good_vt (w:World) (l:List (Bal×ByteArray)):KeysGood good4 w (l.map encVt):=by
 intro p hp;obtain ⟨x,_,rfl⟩:=List.mem_map.1 hp;exact ⟨_,_,_,_,rfl⟩
def plv (p:Int×Int):Value:=.agg #[iv p.1,iv p.2]
def balv (b:Bal):Value:=.agg #[iv b.1,iv b.2.1,iv b.2.2.1,iv b.2.2.2]
theorem iv_inj (a b:Int) (h:iv a=iv b):a=b:=by simpa [iv] using h
theorem str_inj (a b:ByteArray) (h:Value.string a=Value.string b):a=b:=by simpa using h
theorem plv_inj (a b:Int×Int) (h:plv a=plv b):a=b:=by
 obtain ⟨a1,a2⟩:=a;obtain ⟨b1,b2⟩:=b;simp [plv,iv] at h;simp [h]
theorem balv_inj (a b:Bal) (h:balv a=balv b):a=b:=by
 obtain ⟨a1,a2,a3,a4⟩:=a;obtain ⟨b1,b2,b3,b4⟩:=b;simp [balv,iv] at h;simp [h]
end
section
open Go.RowKit
theorem zB (w:World):(zeroValue 4).run Tryz.prog w = .ok (.bool false) w:=by kernel_rfl
theorem zI (w:World):(zeroValue 3).run Tryz.prog w = .ok (iv 0) w:=by kernel_rfl
theorem zS (w:World):(zeroValue 9).run Tryz.prog w = .ok (.string (ByteArray.mk #[])) w:=by kernel_rfl
def zQ:Value:=.agg #[iv 0,iv 0]
theorem zQuest (w:World):(zeroValue 165).run Tryz.prog w = .ok zQ w:=by kernel_rfl
theorem zStand (w:World):(zeroValue 179).run Tryz.prog w = .ok zQ w:=by kernel_rfl
def zM:Value:=.agg #[iv 0,iv 0,iv 0,iv 0,iv 0,iv 0,.string (ByteArray.mk #[]),.slice none 0 0]
theorem zMsg (w:World):(zeroValue 36).run Tryz.prog w = .ok zM w:=by kernel_rfl
def zV:Value:=.agg #[iv 0,.string (ByteArray.mk #[]),.slice none 0 0]
theorem zVal (w:World):(zeroValue 120).run Tryz.prog w = .ok zV w:=by kernel_rfl
def memD {κ:Type} [DecidableEq κ] (k:κ) (l:List κ):Bool:=decide (k∈l)
theorem memD_true {κ:Type} [DecidableEq κ] {k:κ} {l:List κ}:memD k l=true↔k∈l:=by simp [memD]
theorem memD_false {κ:Type} [DecidableEq κ] {k:κ} {l:List κ}:memD k l=false↔k∉l:=by simp [memD]
theorem getV_mem {κ:Type} [DecidableEq κ] {e:κ→Value×Value} {ek:κ→Value} (he:∀p,e p=(ek p,.bool true)) (hi:∀a b,ek a=ek b→a=b) (k:κ) (l:List κ):(getV (ek k) (l.map e)).getD (.bool false) = .bool (memD k l):=by
 rw [getV_set he hi k l];unfold memD;by_cases hd:k∈l <;> simp [hd]
theorem encAcc_eq (p:ByteArray):encAcc p=(Value.string p,.bool true):=rfl
theorem encPl_eq (p:Int×Int):encPl p=(plv p,.bool true):=rfl
theorem encSt_eq (p:Int×(Int×Int)):encSt p=(iv p.1,plv p.2):=rfl
theorem encVt_eq (p:Bal×ByteArray):encVt p=(balv p.1,Value.string p.2):=rfl
section
variable {R:Nat→Prop} {w:World} {p:Ptr} {s:StB}
theorem Maps.look_acc (h:Maps R w p s) (d:ByteArray):(Instr.lookup 109 (.map (some p.acc)) (.string d) false).run Tryz.prog w = .ok (.bool (memD d s.acc)) w:=by
 have:=h.acc.lookup (P:=Tryz.prog) keyS Tryz.underlying109 (good_acc w _) ⟨d,rfl⟩ (zB w) false;refine this.trans ?_;rw [←getV_mem (ek:=.string) encAcc_eq str_inj];rfl
theorem Maps.look_made (h:Maps R w p s) (k r:Int):(Instr.lookup 113 (.map (some p.made)) (.agg #[.int .i64 k,.int .i64 r]) false).run Tryz.prog w = .ok (.bool (memD (k,r) s.made)) w:=by
 have:=h.made.lookup (P:=Tryz.prog) keyPlace Tryz.underlying113 (good_pl w _) (x:=plv (k,r)) ⟨k,r,rfl⟩ (zB w) false;refine this.trans ?_;rw [←getV_mem (ek:=plv) encPl_eq plv_inj];rfl
theorem Maps.look_inf (h:Maps R w p s) (k r:Int):(Instr.lookup 107 (.map (some p.inf)) (.agg #[.int .i64 k,.int .i64 r]) false).run Tryz.prog w = .ok (.bool (memD (k,r) s.inf)) w:=by
 have:=h.inf.lookup (P:=Tryz.prog) keyQuest Tryz.underlying107 (good_pl w _) (x:=plv (k,r)) ⟨k,r,rfl⟩ (zB w) false;refine this.trans ?_;rw [←getV_mem (ek:=plv) encPl_eq plv_inj];rfl
theorem Maps.look_stand (h:Maps R w p s) (k:Int):(Instr.lookup 112 (.map (some p.stand)) (.int .i64 k) true).run Tryz.prog w = .ok (.tuple #[plv ((getA k s.stand).getD (0,0)),.bool (getA k s.stand).isSome]) w:=by
 have:=h.stand.lookup (P:=Tryz.prog) keyI Tryz.underlying112 (good_st w _) (x:=iv k) ⟨k,rfl⟩ (zStand w) true;rw [getV_enc (ek:=iv) (ev:=fun _=>plv) encSt_eq iv_inj] at this;refine this.trans ?_;rcases getA k s.stand with _ | q <;> rfl
theorem Maps.look_ques (h:Maps R w p s) (k:Int) (ok:Bool):(Instr.lookup 106 (.map (some p.ques)) (.int .i64 k) ok).run Tryz.prog w = .ok (if ok then .tuple #[plv ((getA k s.ques).getD (0,0)),.bool (getA k s.ques).isSome] else plv ((getA k s.ques).getD (0,0))) w:=by
 have:=h.ques.lookup (P:=Tryz.prog) keyI Tryz.underlying106 (good_st w _) (x:=iv k) ⟨k,rfl⟩ (zQuest w) ok;rw [getV_enc (ek:=iv) (ev:=fun _=>plv) encSt_eq iv_inj] at this;refine this.trans ?_;rcases getA k s.ques with _ | q <;> rfl
theorem Maps.look_votes (h:Maps R w p s) (a b c d:Int):(Instr.lookup 219 (.map (some p.votes)) (.agg #[.int .i64 a,.int .i64 b,.int .i64 c,.int .i64 d]) true).run Tryz.prog w = .ok (.tuple #[.string ((getA (a,b,c,d) s.votes).getD (ByteArray.mk #[])),.bool (getA (a,b,c,d) s.votes).isSome]) w:=by
 have:=h.votes.lookup (P:=Tryz.prog) keyBal Tryz.underlying219 (good_vt w _) (x:=balv (a,b,c,d)) ⟨a,b,c,d,rfl⟩ (zS w) true;rw [getV_enc (ek:=balv) (ev:=fun _=>Value.string) encVt_eq balv_inj] at this;refine this.trans ?_;rcases getA (a,b,c,d) s.votes with _ | q <;> rfl
theorem look_rel {β:Type} {r:Value→β→Prop} {T E:TypeId} (hT:Tryz.prog.underlying T=some (.map 3 E)) {b:Nat} {l:List (Int×β)} (h:∃L,RawMap w b L∧All2 (KRel r) L l) {z:Value} (hz:(zeroValue E).run Tryz.prog w = .ok z w) (k:Int) (ok:Bool) :
  (getA k l=none∧(Instr.lookup T (.map (some b)) (.int .i64 k) ok).run Tryz.prog w = .ok (if ok then .tuple #[z,.bool false] else z) w) ∨
  ∃x v,getA k l=some x∧r v x∧(Instr.lookup T (.map (some b)) (.int .i64 k) ok).run Tryz.prog w = .ok (if ok then .tuple #[v,.bool true] else v) w:=by
 obtain ⟨L,h1,h2⟩:=h;have:=h1.lookup (P:=Tryz.prog) keyI hT (good_rel w h2) (x:=iv k) ⟨k,rfl⟩ hz ok;rcases getV_rel k h2 with ⟨e1,e2⟩ | ⟨v,x,e1,e2,e3⟩
 ·rw [e1] at this;exact .inl ⟨e2,this⟩
 rw [e1] at this;exact .inr ⟨x,v,e2,e3,this⟩
theorem Maps.look_props (h:Maps R w p s) (k:Int) (ok:Bool):(getA k s.props=none∧(Instr.lookup 110 (.map (some p.props)) (.int .i64 k) ok).run Tryz.prog w = .ok (if ok then .tuple #[zM,.bool false] else zM) w) ∨
  ∃x v,getA k s.props=some x∧MsgV R w v x∧(Instr.lookup 110 (.map (some p.props)) (.int .i64 k) ok).run Tryz.prog w = .ok (if ok then .tuple #[v,.bool true] else v) w:=
 look_rel Tryz.underlying110 h.props (zMsg w) k ok
theorem Maps.look_claims (h:Maps R w p s) (k:Int) (ok:Bool):(getA k s.claims=none∧(Instr.lookup 110 (.map (some p.claims)) (.int .i64 k) ok).run Tryz.prog w = .ok (if ok then .tuple #[zM,.bool false] else zM) w) ∨
  ∃x v,getA k s.claims=some x∧MsgV R w v x∧(Instr.lookup 110 (.map (some p.claims)) (.int .i64 k) ok).run Tryz.prog w = .ok (if ok then .tuple #[v,.bool true] else v) w:=
 look_rel Tryz.underlying110 h.claims (zMsg w) k ok
theorem Maps.look_decs (h:Maps R w p s) (k:Int) (ok:Bool):(getA k s.decs=none∧(Instr.lookup 105 (.map (some p.decs)) (.int .i64 k) ok).run Tryz.prog w = .ok (if ok then .tuple #[zV,.bool false] else zV) w) ∨
  ∃x v,getA k s.decs=some x∧ValV R w v x∧(Instr.lookup 105 (.map (some p.decs)) (.int .i64 k) ok).run Tryz.prog w = .ok (if ok then .tuple #[v,.bool true] else v) w:=
 look_rel Tryz.underlying105 h.decs (zVal w) k ok
end
end
section
open Go.RowKit
structure NC (w:World) (x:Nat) (p:Ptr) (s:StB):Prop where
 c0:w.cell? ⟨x,0,none⟩=some (.int .i64 s.height)
 c1:w.cell? ⟨x,1,none⟩=some (.int .i64 s.round)
 c2:w.cell? ⟨x,2,none⟩=some (.int .i64 s.step)
 c3:w.cell? ⟨x,3,none⟩=some (.int .i64 s.clock)
 c4:w.cell? ⟨x,4,none⟩=some (.int .i64 s.ticks)
 c5:w.cell? ⟨x,5,none⟩=some (po p.lock)
 c6:w.cell? ⟨x,6,none⟩=some (po p.valid)
 c7:w.cell? ⟨x,7,none⟩=some (po p.own)
 c8:w.cell? ⟨x,8,none⟩=some (.map (some p.acc))
 c9:w.cell? ⟨x,9,none⟩=some (.map (some p.props))
 c10:w.cell? ⟨x,10,none⟩=some (.map (some p.claims))
 c11:w.cell? ⟨x,11,none⟩=some p.order
 c12:w.cell? ⟨x,12,none⟩=some (.pointer (some ⟨p.box,0,none⟩))
 c13:w.cell? ⟨x,13,none⟩=some (.map (some p.stand))
 c14:w.cell? ⟨x,14,none⟩=some p.mine
 c15:w.cell? ⟨x,15,none⟩=some (.map (some p.made))
 c16:w.cell? ⟨x,16,none⟩=some (.int .i64 s.id)
 c17:w.cell? ⟨x,17,none⟩=some (.int .i64 s.n)
 c18:w.cell? ⟨x,18,none⟩=some (.map (some p.decs))
 c19:w.cell? ⟨x,19,none⟩=some (.map (some p.ques))
 c20:w.cell? ⟨x,20,none⟩=some (.map (some p.inf))
 fz:∀o,w.frozen? ⟨x,o,none⟩=false
theorem NodeP.nc {R:Nat→Prop} {w:World} {x:Nat} {p:Ptr} {s:StB} (h:NodeP R w x p s):NC w x p s:=
 ⟨h.c rfl,h.c rfl,h.c rfl,h.c rfl,h.c rfl,h.c rfl,h.c rfl,h.c rfl,h.c rfl,h.c rfl,h.c rfl,h.c rfl,h.c rfl,h.c rfl,h.c rfl,h.c rfl,h.c rfl,h.c rfl,h.c rfl,h.c rfl,h.c rfl,h.fz⟩
theorem heap_setC {W:World} {b o:Nat} {cs:Array Value} {t:TypeId} {fr:Nat×Nat} (h:W.heap[b]?=some (.cells cs t fr)) (v:Value):(W.setCell ⟨b,o,none⟩ v).heap[b]?=some (.cells (cs.setIfInBounds o v) t fr):=by
 obtain ⟨hlt,hg⟩:=gE h;simp [World.setCell,hlt,Array.getElem_modify,hg]
theorem Maps.same {R:Nat→Prop} {w:World} {p p':Ptr} {s s':StB} (h:Maps R w p s) (e:p'.maps=p.maps:=by rfl) (e0:(p'.acc,p'.props,p'.claims,p'.votes,p'.stand,p'.made,p'.decs,p'.ques,p'.inf)=(p.acc,p.props,p.claims,p.votes,p.stand,p.made,p.decs,p.ques,p.inf):=by rfl)
  (e1:(s'.acc,s'.props,s'.claims,s'.votes,s'.stand,s'.made,s'.decs,s'.ques,s'.inf)=(s.acc,s.props,s.claims,s.votes,s.stand,s.made,s.decs,s.ques,s.inf):=by rfl):Maps R w p' s':=by
 simp only [Prod.mk.injEq] at e0 e1;obtain ⟨a1,a2,a3,a4,a5,a6,a7,a8,a9⟩:=e0;obtain ⟨b1,b2,b3,b4,b5,b6,b7,b8,b9⟩:=e1;exact ⟨by rw [a1,b1];exact h.acc,by rw [a2,b2];exact h.props,by rw [a3,b3];exact h.claims,by rw [a4,b4];exact h.votes,by rw [a5,b5];exact h.stand,by rw [a6,b6];exact h.made,by rw [a7,b7];exact h.decs,by rw [a8,b8];exact h.ques,by rw [a9,b9];exact h.inf,by rw [e];exact h.nd,by rw [e];exact h.own⟩
theorem Rest.same {R:Nat→Prop} {w:World} {p p':Ptr} {s s':StB} (h:Rest R w p s) (e0:(p'.box,p'.votes,p'.lock,p'.valid,p'.own,p'.order,p'.mine)=(p.box,p.votes,p.lock,p.valid,p.own,p.order,p.mine):=by rfl)
  (e1:(s'.n,s'.lock,s'.valid,s'.own,s'.order,s'.mine)=(s.n,s.lock,s.valid,s.own,s.order,s.mine):=by rfl):Rest R w p' s':=by
 simp only [Prod.mk.injEq] at e0 e1;obtain ⟨a1,a2,a3,a4,a5,a6,a7⟩:=e0;obtain ⟨b1,b2,b3,b4,b5,b6⟩:=e1;exact ⟨by rw [a1,a2,b1];exact h.box,by rw [a3,b2];exact h.lock,by rw [a4,b3];exact h.valid,by rw [a5,b4];exact h.own,by rw [a6,b5];exact h.order,by rw [a7,b6];exact h.mine⟩
theorem NodeP.set {R:Nat→Prop} {w:World} {x:Nat} {p p':Ptr} {s s':StB} (h:NodeP R w x p s) (i:Nat) (v:Value) (hrow:(nodeRow s p).setIfInBounds i v=nodeRow s' p')
  (hm:∀w2,Maps R w2 p s→Maps R w2 p' s') (hr:∀w2,Rest R w2 p s→Rest R w2 p' s'):NodeP R (w.setCell ⟨x,i,none⟩ v) x p' s':=by
 have hk:∀k,k≠x→(w.setCell ⟨x,i,none⟩ v).heap[k]?=w.heap[k]?:=fun k hk=>by
  simp [World.setCell,Array.getElem?_modify,Ne.symm hk]
 have hne:∀g cur t fr,R g→w.heap[g]?=some (.cells cur t fr)→t≠117→(w.setCell ⟨x,i,none⟩ v).heap[g]?=w.heap[g]?:=fun g cur t fr _ hg ht=>hk g (fun e=>by
  subst e;rw [h.node] at hg;injection hg with hg;injection hg with _ hg _;exact ht hg.symm)
 refine ⟨by rw [←hrow];exact heap_setC h.node v,h.mem,hm _ (h.maps.kept (fun b hb=>hk b (fun e=>?_)) (fun g cur fr hr hg=>hne g cur _ fr hr hg (by decide))),hr _ (h.rest.kept hne),fun k hk=>by simpa [World.setCell] using h.lt k hk⟩;obtain ⟨es,c,hb'⟩:=h.maps.isMap b hb;subst e;rw [h.node] at hb';cases hb'
theorem Chg.set {C:Nat→Prop} (w:World) (x i:Nat) (v:Value) (h:C x):Chg C w (w.setCell ⟨x,i,none⟩ v):=by
 refine ⟨rfl,rfl,rfl,by simp [World.setCell],fun k hk hn=>?_⟩;have:x≠k:=fun e=>hn (e ▸ h);simp [World.setCell,Array.getElem?_modify,this]
def Grows (R R':Nat→Prop) (w:World):Prop:=(∀k,R k→R' k)∧∀k,R' k→R k∨w.heap.size≤k
theorem Grows.refl (R:Nat→Prop) (w:World):Grows R R w:=⟨fun _ h=>h,fun _ h=>.inl h⟩
theorem Grows.trans {R R' R'':Nat→Prop} {w w':World} (h:Grows R R' w) (h2:Grows R' R'' w') (hs:w.heap.size≤w'.heap.size):Grows R R'' w:=
 ⟨fun k hk=>h2.1 k (h.1 k hk),fun k hk=>by
  rcases h2.2 k hk with q | q
  ·exact h.2 k q
  exact .inr (Nat.le_trans hs q)⟩
def Turned (R:Nat→Prop) (w:World) (x:Nat) (s':StB) (w':World):Prop:=∃p' R',NodeP R' w' x p' s'∧Chg R w w'∧Grows R R' w
theorem Turned.of {R:Nat→Prop} {w w':World} {x:Nat} {p:Ptr} {s':StB} (h:NodeP R w' x p s') (hc:Chg R w w'):Turned R w x s' w':=⟨p,R,h,hc,Grows.refl R w⟩
theorem Turned.trans {R R1:Nat→Prop} {w w1 w2:World} {x:Nat} {s':StB} (hc:Chg R w w1) (hg:Grows R R1 w) (h:Turned R1 w1 x s' w2):Turned R w x s' w2:=by
 obtain ⟨p,R',h1,h2,h3⟩:=h;exact ⟨p,R',h1,hc.trans (h2.mono (fun k _ hk=>by rcases hg.2 k hk with q | q;exact .inl q;exact .inr (by
  have:=hc.size;exact Nat.le_of_not_lt (fun q2=>by omega)))),hg.trans h3 hc.size⟩
end
end Go.Proofs.YtifcdjmcoibblaaGreatDoor
