/- Ord -/
import Derived.Test.YtifcdjmcoibblaaGreatDoorLq23
import Derived.Test.YtifcdjmcoibblaaGreatDoorLq01
set_option linter.unusedVariables false
set_option linter.unusedSimpArgs false
set_option linter.unusedSectionVars false
set_option maxRecDepth 100000
set_option maxHeartbeats 80000000
namespace Go.Proofs.YtifcdjmcoibblaaGreatDoor
section
open Go.RowKit
theorem NodeP.order_grown {R:Nat→Prop} {w w':World} {x:Nat} {p:Ptr} {s:StB} (h:NodeP R w x p s) (hg:w.grownBy w' p.order.ownBlock):∀g cur t fr,R g→w.heap[g]?=some (Obj.cells cur t fr)→t≠3→w'.heap[g]?=w.heap[g]?:=by
 intro g cur t fr hr hc ht;have hlt:g<w.heap.size:=(gE hc).1;refine hg.block g hlt (fun e=>?_);obtain ⟨_,h2 | ⟨g2,cap,c2,hv,_,h3,_⟩⟩:=h.rest.order.1
 ·rw [h2.1] at e;cases e
 rw [hv] at e;simp [Value.ownBlock] at e;subst e;rw [h3] at hc;cases hc;exact ht rfl
theorem NodeP.omaps_grown {R:Nat→Prop} {w w':World} {x:Nat} {p:Ptr} {s:StB} (h:NodeP R w x p s) (hg:w.grownBy w' p.order.ownBlock):∀b∈p.maps,w'.heap[b]?=w.heap[b]?:=by
 intro b hb;obtain ⟨es,c,hm⟩:=h.maps.isMap b hb;have hlt:b<w.heap.size:=(gE hm).1;refine hg.block b hlt (fun e=>?_);obtain ⟨_,h2 | ⟨g2,cap,c2,hv,_,h3,_⟩⟩:=h.rest.order.1
 ·rw [h2.1] at e;cases e
 rw [hv] at e;simp [Value.ownBlock] at e;subst e;rw [h3] at hm;cases hm
theorem NodeP.order_put {R:Nat→Prop} {w w':World} {x:Nat} {p:Ptr} {s:StB} (h:NodeP R w x p s) {z:Int} {v':Value} (hg:w.grownBy w' p.order.ownBlock)
  (hown:w'.ownsRow 0 3 1 v' (s.order.length+1) (s.order.map iv ++ [iv z])) (hv:∀g,v'.ownBlock=some g→p.order.ownBlock=some g∨w.heap.size≤g) :
  NodeP (fun k=>R k∨v'.ownBlock=some k) (w'.setCell ⟨x,11,none⟩ v') x {p with order:=v'} {s with order:=s.order ++ [z]}:=by
 have hk:=h.order_grown hg;have hstr:∀g cur fr,R g→w.heap[g]?=some (Obj.cells cur 9 fr)→w'.heap[g]?=w.heap[g]?:=fun g cur fr hr hc=>hk g cur _ fr hr hc (by decide);have hx:w'.heap[x]?=some (.cells (nodeRow s p) 117 (0,0)):=(hk x _ _ _ h.mem h.node (by decide)).trans h.node;have hother:∀k,k≠x→(w'.setCell ⟨x,11,none⟩ v').heap[k]?=w'.heap[k]?:=fun k hk=>Below.heap_setCell w' ⟨x,11,none⟩ _ k hk;have hm2:Maps R w' p s:=h.maps.kept (h.omaps_grown hg) (fun g cur fr hr hc=>hstr g cur fr hr hc);have hne:∀{g:Nat} {cur:Array Value} {t:TypeId} {fr:Nat×Nat},w'.heap[g]?=some (Obj.cells cur t fr)→t≠117→g≠x:=fun {g cur t fr} hc ht e=>by
  subst e;rw [hx] at hc;cases hc;exact ht rfl
 have hstr2:∀g cur fr,R g→w'.heap[g]?=some (Obj.cells cur 9 fr)→(w'.setCell ⟨x,11,none⟩ v').heap[g]?=w'.heap[g]?:=fun g cur fr _ hc=>hother g (hne hc (by decide));have hval2:∀g cur fr,R g→w'.heap[g]?=some (Obj.cells cur 120 fr)→(w'.setCell ⟨x,11,none⟩ v').heap[g]?=w'.heap[g]?:=fun g cur fr _ hc=>hother g (hne hc (by decide));have hval1:∀g cur fr,R g→w.heap[g]?=some (Obj.cells cur 120 fr)→w'.heap[g]?=w.heap[g]?:=fun g cur fr hr hc=>hk g cur _ fr hr hc (by decide);have hm3:Maps R (w'.setCell ⟨x,11,none⟩ v') p s:=hm2.kept (fun b hb=>hother b (fun e=>by
  obtain ⟨es,c,q⟩:=hm2.isMap b hb;subst e;rw [hx] at q;cases q)) hstr2
 refine ⟨heap_setC hx v',.inl h.mem,(hm3.mono (fun k hk=>.inl hk)).same,?_,fun k hk=>?_⟩
 ·have hb:=(hk p.box _ _ _ h.rest.box.1 h.rest.box.2 (by decide)).trans h.rest.box.2;obtain ⟨sls,a1,a2⟩:=h.rest.mine.1;refine ⟨⟨.inl h.rest.box.1,(hother _ (hne hb (by decide))).trans hb⟩,((h.rest.lock.kept hstr hval1).kept hstr2 hval2).mono (fun k hk=>.inl hk),((h.rest.valid.kept hstr hval1).kept hstr2 hval2).mono (fun k hk=>.inl hk),((h.rest.own.kept hstr hval1).kept hstr2 hval2).mono (fun k hk=>.inl hk),⟨?_,fun g hg2=>.inr hg2⟩,⟨sls,a1.mono (fun a b q=>((q.kept hstr).kept hstr2).mono (fun k hk=>.inl hk)),?_⟩,fun g hg2=>.inl (h.rest.mine.2 g hg2)⟩
  ·show World.ownsRow _ 0 _ 1 v' (s.order ++ [z]).length ((s.order ++ [z]).map iv);rw [List.length_append,List.map_append];exact owns_blk hown (fun g cur _ hc=>hother g (hne hc (by decide)))
  exact owns_blk (owns_blk a2 (fun g cur hg2 hc=>hk g cur _ _ (h.rest.mine.2 g hg2) hc (by decide))) (fun g cur hg2 hc=>hother g (hne hc (by decide)))
 have hsz:(w'.setCell ⟨x,11,none⟩ v').heap.size=w'.heap.size:=by simp [World.setCell]
 rw [hsz];rcases hk with hk | hk
 ·exact Nat.lt_of_lt_of_le (h.lt k hk) hg.size
 obtain ⟨_,h2 | ⟨g2,cap,c2,hv2,_,h3,_⟩⟩:=hown
 ·rw [h2.1] at hk;cases hk
 rw [hv2] at hk;simp [Value.ownBlock] at hk;subst hk;exact (gE h3).1
end
end Go.Proofs.YtifcdjmcoibblaaGreatDoor
