/- Anf Ntm Kyp Acl -/
import Derived.Test.YtifcdjmcoibblaaGreatDoorAq39
set_option linter.unusedVariables false
set_option linter.unusedSimpArgs false
set_option linter.unusedSectionVars false
set_option maxRecDepth 100000
set_option maxHeartbeats 80000000
namespace Go.Proofs.YtifcdjmcoibblaaGreatDoor
section
open Go.RowKit
theorem Z4g.nth {Z:Nat->Prop} {wt W:World} {ao:Option Addr} {cap n:Nat} {ms:List Z0k} (h:Z4g Z wt W (.slice ao n cap) ms) {q:Nat} {m:Z0k} (hq:ms[q]?=some m) :
  ∃b off lo lc,ao=some ⟨b,off,none⟩∧(∀(j:Nat) (u:Value),(Z0l m (.slice lo m.list.length lc)).toList[j]?=some u->W.cell? ⟨b,off+q * 8+j,none⟩=some u)∧Z0a (Zk2 Z wt W) W (.slice lo m.list.length lc) m.list:=by
 obtain ⟨sls,h1,h2,h3⟩:=h;have hz:(sls.zip ms).length=ms.length:=by rw [List.length_zip,h1.len,Nat.min_self]
 obtain ⟨ao2,cap2,e,hc,hrw⟩:=Z0n (enc:=Zr3) (l:=sls.zip ms) Zcp (by decide) h2;injection e with e1 e2 e3
 subst e1;have hl:=(List.getElem?_eq_some_iff.1 hq).1;have hs:q<sls.length:=by rw [h1.len];exact hl
 have hzq:(sls.zip ms)[q]?=some (sls[q],m):=by
  rw [List.getElem?_zip_eq_some];exact ⟨List.getElem?_eq_getElem hs,hq⟩
 obtain ⟨b,off,e4,_,hcell⟩:=hrw q _ hzq;have hr:=Z8o h1 _ (List.mem_of_getElem? hzq);obtain ⟨lo,lc,e5,_⟩:=id hr;simp only at e5 hr;rw [e5] at hcell hr;exact ⟨b,off,lo,lc,e4,hcell,hr⟩
structure Flk (G:ByteArray->List ByteArray->Prop) (base:Nat) (w1:World) (xs:List Nat) (ss:List StB) (Rs:Nat->Nat->Prop) (W:World):Prop where
 net:Net G base W xs ss Rs
 bel:Below base w1 W
 pos:0<base
 le:base<=w1.heap.size
 glob:Glob w1
section
variable {G:ByteArray->List ByteArray->Prop} {base:Nat} {w1 W W':World} {xs:List Nat} {ss ss':List StB} {Rs Rs':Nat->Nat->Prop}
theorem Flk.size (h:Flk G base w1 xs ss Rs W):base<=W.heap.size:=Nat.le_trans h.le h.bel.size
theorem Flk.gl (h:Flk G base w1 xs ss Rs W):Glob W:=by
 obtain ⟨t,ht⟩:=h.glob;exact ⟨t,(h.bel.block 0 h.pos).trans ht⟩
theorem Flk.sail (h:Flk G base w1 xs ss Rs W) (s:Z6i G base W xs Rs W' ss' Rs'):Flk G base w1 xs ss' Rs' W':=
 ⟨s.net,h.bel.trans (s.chg.below h.size (λk hk=>h.net.low hk)),h.pos,h.le,h.glob⟩
theorem Flk.later (h:Flk G base w1 xs ss Rs W) (hb:Below W.heap.size W W'):Flk G base w1 xs ss Rs W':=
 ⟨h.net.later hb,h.bel.trans (hb.mono h.size),h.pos,h.le,h.glob⟩
theorem Zsj {w:World} {i x:Nat} {s:StB} {R0:Nat->Prop} {v:Value} {l:List ByteArray} (gf:Zhz G) (hN:Net G base w xs ss Rs) (hb:base<=w.heap.size) (hx:xs[i]?=some x) (hs:ss[i]?=some s) (hr:Z0a R0 w v l) (h0:∀k,R0 k->k<w.heap.size) (hl:l.length<=60) (hG:Glob w) (hv:Z1f l=true->G (Z0z l) l) (height:Int) :
  Calls Tryz.prog 36 #[pv x,iv height,v] w λe w'=>e = .returned (Zlm (s.learn height (Z1f l) (Z0z l) l).2)∧∃Rs',Z6i G base w xs Rs w' (ss.set i (s.learn height (Z1f l) (Z0z l) l).1) Rs':=by
 obtain ⟨p,hp⟩:=hN.node i x s hx hs;have hf:=hN.idx hx hs;refine (Zmm hp hr h0 hl hG height).mono ?_;rintro e w' ⟨rfl,h1⟩;obtain ⟨R',h2⟩:=h1.step;exact ⟨rfl,_,hN.sail hb hx h2 (hf.learn height hv)⟩
end
theorem Z7g (s:StB) (m:Z0k) (ok:Bool):(s.receive m ok).ticks=s.ticks:=by
 unfold NS.receive;split
 ·rfl
 split
 ·rfl
 split
 ·obtain ⟨a,b,e⟩:=Z5b s m;rw [e]
 split
 ·rfl
 split
 ·exact (Z1g s m).1.ticks
 split
 ·rfl
 split <;> rfl
end
section
open Go.RowKit
abbrev Z6o:=(Z0k×Value)×Int
def Z4n (p:Z6o):List Value:=(Z0l p.1.1 p.1.2).toList ++ [iv p.2]
def zF:Value:=.agg #[iv 0,iv 0,iv 0,iv 0,iv 0,iv 0,.string (ByteArray.mk #[]),.slice none 0 0,iv 0]
theorem Tryz.infoFlight:(Tryz.prog.info? 205).map (λi=>(i.zero,i.size,i.bytes))=some (some zF,9,96):=by kernel_rfl
theorem Zpa (p:Z6o):(Z4n p).length=9:=by simp [Z4n,Z0l]
def Z2g (W:World) (v:Value) (qs:List Z6o):Prop:=W.ownsRow 0 205 9 v qs.length (qs.flatMap Z4n)
def Z3f (W:World) (v:Value) (fs:List Int):Prop:=W.ownsRow 0 3 1 v fs.length (fs.map iv)
theorem Z2g.nil (W:World):Z2g W (.slice none 0 0) []:=World.ownsRow_nil _ _ _ _
theorem Z3f.nil (W:World):Z3f W (.slice none 0 0) []:=World.ownsRow_nil _ _ _ _
theorem Z1e {W:World} {b e size n:Nat} {v:Value} {xs:List Value} (h:W.ownsRow b e size v n xs) {g:Nat} (hg:v.ownBlock=some g):∃cur,W.heap[g]?=some (.cells cur e (0,0)):=by
 rcases h.2 with ⟨q,_⟩ | ⟨g2,c,cur,q,_,hg2,_⟩
 ·rw [q] at hg;cases hg
 rw [q] at hg;have:g2=g:=by simpa [Value.ownBlock] using hg
 exact ⟨cur,this ▸ hg2⟩
theorem Z0p {W:World} {g k:Nat} {a b:Array Value} {s t:Nat} {x y:Nat×Nat} (h1:W.heap[g]?=some (.cells a s x)) (h2:W.heap[k]?=some (.cells b t y)) (hn:s≠t):g≠k:=λe=>by
 rw [e,h2] at h1;injection h1 with h1
 injection h1 with _ h1 _
 exact hn h1.symm
def Zpb (nb gn:Nat) (qv fv cv:Value) (k:Nat):Prop:=k=nb∨k=gn∨qv.ownBlock=some k∨fv.ownBlock=some k∨cv.ownBlock=some k
structure Z4o (base:Nat) (w1:World) (nb gn nc:Nat) (cur:Array Value) (ln:Nat) (xs:List Nat) (zs:List StB) (Rs:Nat->Nat->Prop) (qv fv cv:Value) (qs:List Z6o) (st:Z0g) (A:Nat->Prop) (W:World):Prop where
 flk:Flk GB base w1 xs zs Rs W
 hl:ln<=xs.length
 h8:xs.length<=8
 hss:st.ss=zs.take ln
 row:W.heap[nb]?=some (.cells (Z1b (st.n:Int) (Z03 st.n) st.last st.now (.slice (some ⟨gn,0,none⟩) ln nc) qv fv cv st.br) 50 (0,0))
 ptr:W.heap[gn]?=some (.cells cur 25 (0,0))
 at':∀(i x:Nat),i<ln->xs[i]?=some x->cur[i]?=some (pv x)
 que:Z2g W qv qs
 qst:st.q=qs.map λp=>(p.1.1,p.2)
 ql:∀p∈qs,Z0a (Asd xs.length Rs W) W p.1.2 p.1.1.list
 fat:Z3f W fv st.fates
 cst:Z1k W cv st.cs
 own:∀k,Zpb nb gn qv fv cv k->Asd xs.length Rs W k∧base<=k
 bes:∀k,A k->Asd xs.length Rs W k∧base<=k∧¬Zpb nb gn qv fv cv k
def Z0d (A:Nat->Prop) (W W':World):Prop:=W.heap.size<=W'.heap.size∧∀k,A k->W'.heap[k]?=W.heap[k]?
theorem Z0d.refl (A:Nat->Prop) (W:World):Z0d A W W:=⟨Nat.le_refl _,λ_ _=>rfl⟩
theorem Z0d.trans {A B:Nat->Prop} {W W' W'':World} (h:Z0d A W W') (h2:Z0d B W' W'') (hs:∀k,A k->B k):Z0d A W W'':=⟨Nat.le_trans h.1 h2.1,λk hk=>(h2.2 k (hs k hk)).trans (h.2 k hk)⟩
section
variable {base:Nat} {w1 W W':World} {nb gn nc:Nat} {cur:Array Value} {ln:Nat} {xs:List Nat} {zs zs':List StB} {Rs Rs':Nat->Nat->Prop} {qv fv cv:Value} {qs:List Z6o} {st:Z0g} {A B:Nat->Prop} {ss':List StB}
theorem Z4o.less (h:Z4o base w1 nb gn nc cur ln xs zs Rs qv fv cv qs st A W) (hs:∀k,B k->A k):Z4o base w1 nb gn nc cur ln xs zs Rs qv fv cv qs st B W:=⟨h.flk,h.hl,h.h8,h.hss,h.row,h.ptr,h.at',h.que,h.qst,h.ql,h.fat,h.cst,h.own,λk hk=>h.bes k (hs k hk)⟩
theorem Z4o.len (h:Z4o base w1 nb gn nc cur ln xs zs Rs qv fv cv qs st A W):xs.length=zs.length:=h.flk.net.len
theorem Z4o.sail (h:Z4o base w1 nb gn nc cur ln xs zs Rs qv fv cv qs st A W) (hs:Z6i GB base W xs Rs W' zs' Rs'):Z4o base w1 nb gn nc cur ln xs zs' Rs' qv fv cv qs {st with ss:=zs'.take ln} A W'∧Z0d A W W':=by
 refine ⟨⟨h.flk.sail hs,h.hl,h.h8,rfl,(hs.blk (h.own nb (.inl rfl)).1).trans h.row,(hs.blk (h.own gn (.inr (.inl rfl))).1).trans h.ptr,h.at',?_,h.qst,λp hp=>hs.row (h.ql p hp),?_,?_,λk hk=>⟨hs.asd (h.own k hk).1,(h.own k hk).2⟩,λk hk=>⟨hs.asd (h.bes k hk).1,(h.bes k hk).2⟩⟩,hs.chg.size,λk hk=>hs.blk (h.bes k hk).1⟩
 ·exact Z09 h.que (λg cur hg _=>hs.blk (h.own g (.inr (.inr (.inl hg)))).1)
 ·exact Z09 h.fat (λg cur hg _=>hs.blk (h.own g (.inr (.inr (.inr (.inl hg))))).1)
 exact h.cst.kept (λg cur _ hg=>hs.blk (h.own g (.inr (.inr (.inr (.inr hg))))).1)
theorem Z4o.lt (h:Z4o base w1 nb gn nc cur ln xs zs Rs qv fv cv qs st A W) {k:Nat} (hk:A k):k<W.heap.size:=(h.bes k hk).1.1
theorem Z4o.keepB (h:Z4o base w1 nb gn nc cur ln xs zs Rs qv fv cv qs st A W) (hb:Below W.heap.size W W'):Z0d A W W':=⟨hb.size,λk hk=>hb.block k (h.lt hk)⟩
theorem Z4o.later (h:Z4o base w1 nb gn nc cur ln xs zs Rs qv fv cv qs st A W) (hb:Below W.heap.size W W'):Z4o base w1 nb gn nc cur ln xs zs Rs qv fv cv qs st A W':=by
 have hbl:∀k,Zpb nb gn qv fv cv k->W'.heap[k]?=W.heap[k]?:=λk hk=>hb.block k (h.own k hk).1.1;exact ⟨h.flk.later hb,h.hl,h.h8,h.hss,(hbl nb (.inl rfl)).trans h.row,(hbl gn (.inr (.inl rfl))).trans h.ptr,h.at',Z09 h.que (λg cur hg _=>hbl g (.inr (.inr (.inl hg)))),h.qst,λp hp=>(h.ql p hp).asLater hb,
  Z09 h.fat (λg cur hg _=>hbl g (.inr (.inr (.inr (.inl hg))))),h.cst.kept (λg cur _ hg=>hbl g (.inr (.inr (.inr (.inr hg))))),λk hk=>⟨(h.own k hk).1.later hb.size,(h.own k hk).2⟩,λk hk=>⟨(h.bes k hk).1.later hb.size,(h.bes k hk).2⟩⟩
theorem Z4o.grow (h:Z4o base w1 nb gn nc cur ln xs zs Rs qv fv cv qs st A W) (hb:Below W.heap.size W W'):Z4o base w1 nb gn nc cur ln xs zs Rs qv fv cv qs st (λk=>A k∨New W W' k) W':=by
 have h2:=h.later hb;refine ⟨h2.flk,h2.hl,h2.h8,h2.hss,h2.row,h2.ptr,h2.at',h2.que,h2.qst,h2.ql,h2.fat,h2.cst,h2.own,λk hk=>?_⟩;rcases hk with hk | hk
 ·exact h2.bes k hk
 refine ⟨Asd.fresh h.flk.net hk,Nat.le_trans h.flk.size hk.1,λq=>?_⟩;have:=(h.own k q).1.1;have:=hk.1;omega
theorem Z4o.turn (h:Z4o base w1 nb gn nc cur ln xs zs Rs qv fv cv qs st A W) {qv' fv' cv':Value} {qs':List Z6o} {st':Z0g}
  (hc:Chg (λk=>k=nb∨qv.ownBlock=some k∨fv.ownBlock=some k∨cv.ownBlock=some k) W W')
  (hr:W'.heap[nb]?=some (.cells (Z1b (st'.n:Int) (Z03 st'.n) st'.last st'.now (.slice (some ⟨gn,0,none⟩) ln nc) qv' fv' cv' st'.br) 50 (0,0)))
  (hs:st'.ss=st.ss) (hq:Z2g W' qv' qs') (hqs:st'.q=qs'.map λp=>(p.1.1,p.2)) (hql:∀p∈qs',p∈qs∨Z0a (Asd xs.length Rs W) W p.1.2 p.1.1.list)
  (hf:Z3f W' fv' st'.fates) (hcs:Z1k W' cv' st'.cs)
  (hB:∀k,B k->A k) (ho:∀k,qv'.ownBlock=some k∨fv'.ownBlock=some k∨cv'.ownBlock=some k->(qv.ownBlock=some k∨fv.ownBlock=some k∨cv.ownBlock=some k)∨W.heap.size<=k∨(A k∧¬B k)) :
  Z4o base w1 nb gn nc cur ln xs zs Rs qv' fv' cv' qs' st' B W'∧Z0d A W W':=by
 have hC:∀k,(k=nb∨qv.ownBlock=some k∨fv.ownBlock=some k∨cv.ownBlock=some k)->Zpb nb gn qv fv cv k:=λk hk=>by
  rcases hk with q | q | q | q
  ·exact .inl q
  ·exact .inr (.inr (.inl q))
  ·exact .inr (.inr (.inr (.inl q)))
  exact .inr (.inr (.inr (.inr q)))
 have hall:∀k,Z7b xs.length Rs k->W'.heap[k]?=W.heap[k]?:=λk hk=>hc.block k (h.flk.net.lt hk) (λe=>(h.own k (hC k e)).1.2 hk);have hbe:Below base W W':=hc.below h.flk.size (λk e=>(h.own k (hC k e)).2);have hty:∀(g:Nat) (cc:Array Value) (t:Nat) (x:Nat×Nat),W.heap[g]?=some (.cells cc t x)->t≠50->t≠205->t≠3->t≠132->W'.heap[g]?=W.heap[g]?:=λg cc t x hg n1 n2 n3 n4=>by
  refine hc.block g (gE hg).1 (λe=>?_);rcases e with e | e | e | e
  ·exact Z0p hg h.row n1 e
  ·obtain ⟨c2,hc2⟩:=Z1e h.que e;exact Z0p hg hc2 n2 rfl
  ·obtain ⟨c2,hc2⟩:=Z1e h.fat e;exact Z0p hg hc2 n3 rfl
  obtain ⟨c2,hc2⟩:=Z1e h.cst e;exact Z0p hg hc2 n4 rfl
 have hown:∀k,Zpb nb gn qv' fv' cv' k->Zpb nb gn qv fv cv k∨(W.heap.size<=k∧k<W'.heap.size)∨(A k∧¬B k):=λk hk=>by
  have lt:∀{v:Value} {b e size n:Nat} {l:List Value},W'.ownsRow b e size v n l->v.ownBlock=some k->k<W'.heap.size:=λhw hv=>by
   obtain ⟨c,hc⟩:=Z1e hw hv;exact (gE hc).1
  have go:∀q:(qv'.ownBlock=some k∨fv'.ownBlock=some k∨cv'.ownBlock=some k),k<W'.heap.size->Zpb nb gn qv fv cv k∨(W.heap.size<=k∧k<W'.heap.size)∨(A k∧¬B k):=λq hl=>by
   rcases ho k q with q2 | q2 | q2
   ·exact .inl (.inr (.inr q2))
   ·exact .inr (.inl ⟨q2,hl⟩)
   exact .inr (.inr q2)
  rcases hk with q | q | q | q | q
  ·exact .inl (.inl q)
  ·exact .inl (.inr (.inl q))
  ·exact go (.inl q) (lt hq q)
  ·exact go (.inr (.inl q)) (lt hf q)
  exact go (.inr (.inr q)) (lt hcs q)
 have hasd:∀k,Asd xs.length Rs W k->Asd xs.length Rs W' k:=λk hk=>hk.later hc.size;refine ⟨⟨⟨h.flk.net.kept hall hc.size,h.flk.bel.trans hbe,h.flk.pos,h.flk.le,h.flk.glob⟩,h.hl,h.h8,hs.trans h.hss,hr,(hty gn _ _ _ h.ptr (by decide) (by decide) (by decide) (by decide)).trans h.ptr,h.at',hq,hqs,λp hp=>?_,hf,hcs,λk hk=>?_,λk hk=>?_⟩,hc.size,λk hk=>?_⟩
 ·have hl:Z0a (Asd xs.length Rs W) W p.1.2 p.1.1.list:=by
   rcases hql p hp with q | q
   ·exact h.ql p q
   exact q
  exact (hl.kept (λg cc fr _ hg=>hty g cc _ fr hg (by decide) (by decide) (by decide) (by decide))).mono hasd
 ·rcases hown k hk with q | ⟨q1,q2⟩ | q
  ·exact ⟨hasd k (h.own k q).1,(h.own k q).2⟩
  ·exact ⟨⟨q2,λhr=>by have:=h.flk.net.lt hr;omega⟩,Nat.le_trans h.flk.size q1⟩
  exact ⟨hasd k (h.bes k q.1).1,(h.bes k q.1).2.1⟩
 ·refine ⟨hasd k (h.bes k (hB k hk)).1,(h.bes k (hB k hk)).2.1,λq=>?_⟩;rcases hown k q with q | ⟨q1,_⟩ | q
  ·exact (h.bes k (hB k hk)).2.2 q
  ·have:=(h.bes k (hB k hk)).1.1;omega
  exact q.2 hk
 exact hc.block k (h.bes k hk).1.1 (λe=>(h.bes k hk).2.2 (hC k e))
theorem Z4o.cell (h:Z4o base w1 nb gn nc cur ln xs zs Rs qv fv cv qs st A W) (i:Nat):W.cell? ⟨nb,i,none⟩=(Z1b (st.n:Int) (Z03 st.n) st.last st.now (.slice (some ⟨gn,0,none⟩) ln nc) qv fv cv st.br)[i]?:=cell_of_row W nb i _ _ _ h.row
theorem Z4o.node (h:Z4o base w1 nb gn nc cur ln xs zs Rs qv fv cv qs st A W) {i x:Nat} (hi:i<ln) (hx:xs[i]?=some x):W.cell? ⟨gn,i,none⟩=some (pv x):=by
 rw [cell_of_row W gn i _ _ _ h.ptr];exact h.at' i x hi hx
theorem Z4o.set (h:Z4o base w1 nb gn nc cur ln xs zs Rs qv fv cv qs st A W) {b:Nat} (hb:A b) {cc:Array Value} {t:Nat} {x:Nat×Nat} (hg:W.heap[b]?=some (.cells cc t x)) (ht:t≠9) (i:Nat) (v:Value):Z4o base w1 nb gn nc cur ln xs zs Rs qv fv cv qs st A (W.setCell ⟨b,i,none⟩ v):=by
 have ho:∀k,k≠b->(W.setCell ⟨b,i,none⟩ v).heap[k]?=W.heap[k]?:=λk hk=>Below.heap_setCell _ ⟨b,i,none⟩ _ k hk;have hA:=h.bes b hb;have hz:(W.setCell ⟨b,i,none⟩ v).heap.size=W.heap.size:=by simp [World.setCell]
 have hbl:∀k,Zpb nb gn qv fv cv k->(W.setCell ⟨b,i,none⟩ v).heap[k]?=W.heap[k]?:=λk hk=>ho k (λe=>hA.2.2 (e ▸ hk));have hasd:∀k,Asd xs.length Rs W k->Asd xs.length Rs (W.setCell ⟨b,i,none⟩ v) k:=λk hk=>hk.later (by omega);exact ⟨⟨h.flk.net.kept (λk hk=>ho k (λe=>hA.1.2 (e ▸ hk))) (by omega),h.flk.bel.setCell hA.2.1 _,h.flk.pos,h.flk.le,h.flk.glob⟩,h.hl,h.h8,h.hss,(hbl nb (.inl rfl)).trans h.row,(hbl gn (.inr (.inl rfl))).trans h.ptr,h.at',Z09 h.que (λg cur hg _=>hbl g (.inr (.inr (.inl hg)))),h.qst,
  λp hp=>((h.ql p hp).kept (λg c2 fr _ hg2=>ho g (Z0p hg2 hg (λe=>ht e.symm)))).mono hasd,
  Z09 h.fat (λg cur hg _=>hbl g (.inr (.inr (.inr (.inl hg))))),h.cst.kept (λg cur _ hg=>hbl g (.inr (.inr (.inr (.inr hg))))),λk hk=>⟨hasd k (h.own k hk).1,(h.own k hk).2⟩,λk hk=>⟨hasd k (h.bes k hk).1,(h.bes k hk).2⟩⟩
end
end
section
open Go.RowKit Go.Sort Go.Lib
attribute [local go_sem] Oper.semAt_some
def Z9w (p:Int×Value):Value×Value:=(.int .i64 p.1,p.2)
def Zgs (l:List (Int×Value)) (pre:List Int) (left:List (Value×Value)):Prop:=
 ∃lf:List (Int×Value),left=lf.map Z9w∧(pre ++ lf.map (·.1)).Perm (l.map (·.1))
theorem Zgs.step {l:List (Int×Value)} {pre:List Int} {left p post:List (Value×Value)} {k v:Value} (h:Zgs l pre left) (hl:left=p ++ (k,v) :: post) :
  ∃i,k = .int .i64 i∧i∈l.map (·.1)∧pre.length<l.length∧Zgs l (pre ++ [i]) (p ++ post):=by
 obtain ⟨lf,rfl,hp⟩:=h;obtain ⟨lp,⟨i,a⟩,lq,rfl,e2,rfl,rfl⟩:=Z70 hl;cases e2;have hm:i∈l.map (·.1):=hp.mem_iff.1 (by simp);refine ⟨i,rfl,hm,by have:=hp.length_eq;simp at this;omega,lp ++ lq,by rw [List.map_append],?_⟩;refine List.Perm.trans ?_ hp;rw [List.append_assoc];refine List.Perm.append_left _ ?_;simpa using (List.perm_middle (a:=i) (l₁:=lp.map (·.1)) (l₂:=lq.map (·.1))).symm
theorem Zgs.fin {l:List (Int×Value)} {pre:List Int} (h:Zgs l pre []):pre.Perm (l.map (·.1)):=by
 obtain ⟨lf,e,hp⟩:=h;have:lf = []:=by simpa using e.symm
 subst this;simpa using hp
theorem Zmo (M:Nat) (w:World) :
  Calls Tryz.prog 84 #[.map (some M)] w λe w'=>e = .returned (.func (.func 140) #[] #[.pointer (some ⟨w.heap.size,0,none⟩)])∧w'=w.alloc (.cells #[.map (some M)] 110):=by
 go_enter Tryz.func84,Tryz.ntmps84
 go_wp2
 go_ret;exact ⟨rfl,rfl⟩
theorem Zmp {w:World} {M:Nat} {l:List (Int×Value)} (n:Nat) (h:Z01 w M (l.map Z9w)) (bx:Nat) (hbx:w.cell? ⟨bx,0,none⟩=some (.map (some M))) :
  Zle n Tryz.prog 140 #[.pointer (some ⟨bx,0,none⟩)] Zja (λpre x=>x∈l.map (·.1)∧pre.length<l.length) (λk=>k=M) (λxs=>xs.Perm (l.map (·.1))) w:=by
 intro lp J O W hW hO hJ hY h0;obtain ⟨L,hLL⟩:∃L,L=l.map Z9w:=⟨_,rfl⟩;have HP:=Hd (show Zgs l [] L from ⟨l,hLL,by simp⟩);rw [<-hLL] at h;have hL:Z01 W M L:=h.kept (hW.block M h.lt);have hbc:W.cell? ⟨bx,0,none⟩=some (.map (some M)):=by rw [hW.cell (p:=⟨bx,0,none⟩) (World.block_lt_of_cell? _ _ hbx)];exact hbx
 have HJ:=Hd hJ;have HY:=Hd hY;have HL:=Hd hL;have HOM:=Hd (show ¬O M from λq=>(hO M q).2 rfl);have HOB:=Hd (show ¬O W.heap.size from λq=>by have:=(hO _ q).1;have:=hW.size;omega);have H0:=Hd h0;have HMS:=Hd (show M<W.heap.size from hL.lt);clear hJ hY hLL hL hbx hO h0 hW h;refine callsIn_of_wp Tryz.func140 rfl trivial ?_ rfl;simp only [Tryz.ntmps140,List.size_toArray,List.length_cons,List.length_nil,Nat.reduceAdd,Nat.reduceSub,Array.replicate_succ,Array.replicate_zero,List.push_toArray,List.append_toArray,List.nil_append,List.cons_append];gi_wp2_with (gi_at_range;refine Z3p _ rfl _ 110 (by rfl) 3 36 Tryz.underlying110 M L (by rfl) HL.out ?_;intro ob hob;have RG0:=Hd hob;have JJ0:=Hd (HJ.out _ _ _ _ _ H0.out (Chg.alloc (λ_=>False) W ob) (λk h=>h.elim));clear hob)
 obtain ⟨it,hit⟩:∃it,W.heap.size=it:=⟨_,rfl⟩;rw [hit] at RG0 HOB ⊢;have HIT:=Hd hit;clear hit;try go_frame
 gi_loopw [] (λwr=>∃(pre:List Int) (left:List (Value×Value)) (O1:Nat->Prop),J pre O1 wr∧Z0f wr M it L left∧Zgs l pre left∧¬O1 M∧¬O1 it) (λwr=>wr.rangeLeft M it)
 case atStart=>exact ⟨[],L,O,JJ0.out,RG0.out,HP.out,HOM.out,HOB.out⟩
 case round=>
  obtain ⟨pre,left,O1,hj,hrg,hpt,hom,hoi⟩:=hrel;have JJ:=Hd hj;have RG:=Hd hrg;have LEN:=Hd hrg.left_len;have PT:=Hd hpt;have OM:=Hd hom;have OI:=Hd hoi;clear hj hrg hpt hom hoi;gi_wp2_with (gi_at_next;refine Z4b _ rfl _ (by rfl) M it L left (by rfl) RG.out ?_ ?_)
  ·intro hl;subst hl;gi_wp2
   go_end0
   exact ⟨⟨_,rfl⟩,_,_,PT.out.fin,JJ.out⟩
  intro k x p post w2 hl hm hr2 hg2 hs2 hen2;obtain ⟨i,rfl,he,hpl,hpt2⟩:=PT.out.step hl;have HLL:=Hd hl;have PT2:=Hd hpt2;have RG2:=Hd hr2;have J2:=Hd (HJ.out _ _ _ _ _ JJ.out (Chg.grown (C:=λk=>k=it) hg2 (λk e=>by cases e;rfl)) (λk hk=>by subst hk;exact ⟨by rw [HIT.out];exact Nat.le_refl _,OI.out⟩));obtain ⟨fn,tmps,assign,body,hy,hR⟩:=HY.out _ _ _ _ ⟨he,hpl⟩ J2.out;dsimp only [Zja] at hy;have HRD:=Hd hR;clear hl hm hr2 hg2 hs2 hpt2 hR;gi_wp2
  refine ⟨λh=>absurd h (by simp [Fence.wide]),HRD.out.mono ?_⟩;rintro e3 W3 ⟨rfl,O2,hj3,hc3,ho3⟩;have RR:=Hd (show Z0f W3 M it L (p ++ post)∧¬O2 M∧¬O2 it from ⟨RG2.out.kept (hc3.block _ RG2.out.map.lt OM.out) (hc3.block _ (by obtain ⟨_,_,_,_,_,_,_,_,_,q,_⟩:=RG2.out;exact Z0u q) OI.out),(λq=>by rcases ho3 _ q with q | q;exact OM.out q;have:=RG2.out.map.lt;omega),(λq=>by rcases ho3 _ q with q | q;exact OI.out q;obtain ⟨_,_,_,_,_,_,_,_,_,q2,_⟩:=RG2.out;have:=Z0u q2;omega)⟩);have J3:=Hd hj3;clear hj3 hc3 ho3;gi_wp2
  go_roundw
  case rel=>exact ⟨_,_,O2,J3.out,RR.out.1,PT2.out,RR.out.2.1,RR.out.2.2⟩
  case measure=>rw [RR.out.1.left_len,LEN.out,HLL.out];simp
theorem Zgt (n bx M:Nat) (l:List (Int×Value)) (w:World) (hn:l.length<=1000) (hm:Z01 w M (l.map Z9w)) (hb:w.cell? ⟨bx,0,none⟩=some (.map (some M))) :
  CallsIn Fence.wide n Tryz.prog 184 #[.slice none 0 0,.func (.func 140) #[] #[.pointer (some ⟨bx,0,none⟩)]] w λe w'=>∃(v:Value) (xs:List Int),e = .returned v∧xs.Perm (l.map (·.1))∧w'.ownsRow w.heap.size 3 1 v xs.length (xs.flatMap Z5y)∧Below w.heap.size w w':=by
 obtain ⟨i0,hi,hz0,hz1,hz2⟩:=info_parts Tryz.infoI1;have HR:=Hd hm;clear hm;refine callsIn_of_wp_marks Tryz.func184 rfl trivial ?_ rfl;simp only [Tryz.ntmps184,List.size_toArray,List.length_cons,List.length_nil,Nat.reduceAdd,Nat.reduceSub,Array.replicate_succ,Array.replicate_zero,List.push_toArray,List.append_toArray,List.nil_append,List.cons_append];gi_wp2
 obtain ⟨W2,hW2⟩:∃W2,w.alloc (.cells #[.slice none 0 0] 47)=W2:=⟨_,rfl⟩;have hs2:W2.heap.size=w.heap.size+1:=by rw [<-hW2];simp
 have B2:=Hd (show Below w.heap.size w W2 by rw [<-hW2];exact (Below.refl _ w).alloc (Nat.le_refl _) _);have BX:=Hd (show Boxed W2 w.heap.size 47 (.slice none 0 0) by rw [<-hW2];exact Boxed.new w _ _);have BM:=Hd (show W2.cell? ⟨bx,0,none⟩=some (.map (some M)) by rw [<-hW2];exact Z0h hb _);have RM:=Hd (show Z01 W2 M (l.map Z9w) from HR.out.kept (B2.out.block M HR.out.lt));rw [hW2];have HS2:=Hd hs2;clear hW2 hs2;refine Z66 (gf:=140) (lb:=#[.pointer (some ⟨bx,0,none⟩)]) rfl (enters_of Tryz.func140 (by kernel_rfl) rfl)
  (Zmp _ RM.out bx BM.out) (λ_=>rfl)
  (λpre O W=>∃v,Z4s w W w.heap.size 47 3 1 pre.length v (pre.flatMap Z5y) O) (λk=>k=w.heap.size∨(Value.slice none 0 0).ownBlock=some k) ?hO0 ?hI ?h0
  (λpre x a' O W=>a' = {tmps:=#[.slice none 0 0,.func (.func 140) #[] #[.pointer (some ⟨bx,0,none⟩)],.pointer (some ⟨w.heap.size,0,none⟩),undef,.slice none 0 0,.int .i64 x,.func (.func 140) #[] #[.pointer (some ⟨bx,0,none⟩)],.int .i64 x,undef,undef,undef,undef,undef],defers:=[]} ∧
   ∃v,Z4s w W w.heap.size 47 3 1 pre.length v (pre.flatMap Z5y) O) ?hM ?assign ?body ?done
 case hO0=>
  intro k hk;rcases hk with rfl | hk
  ·exact ⟨by have:=HS2.out;omega,λh=>by have:=HR.out.lt;omega⟩
  simp [Value.ownBlock] at hk
 case hI=>rintro s O A A' C ⟨v,h⟩ hc hC;exact ⟨v,h.chg hc (λk hk=>⟨by have:=(hC k hk).1;have:=HS2.out;omega,(hC k hk).2⟩)⟩
 case h0=>exact ⟨_,λk=>Iff.rfl,BX.out,World.ownsRow_nil _ _ _ _,B2.out,Nat.le_refl _⟩
 case hM=>rintro s x a' O A A' C ⟨e,v,h⟩ hc hC;exact ⟨e,v,h.chg hc (λk hk=>⟨by have:=(hC k hk).1;have:=HS2.out;omega,(hC k hk).2⟩)⟩
 case assign=>
  intro l' pre x O W K hx hi hK;dsimp only [Zja];gi_wp2
  exact hK _ O W ⟨rfl,hi⟩ (Chg.refl _ _) (λk h=>.inl h)
 case body=>
  rintro l' pre x a' O W hx ⟨rfl,v,hbr⟩;have BR:=Hd hbr;have hcell:=hbr.box.cell;have hpl:pre.length<=1000:=by
   have:=hx.2;omega
  clear hbr hx;gi_wp2_with (first
   | (gi_at_builtin;refine wpListIn_append_own_at _ rfl _ _ 47 rfl w.heap.size 3 i0 (.int .i64 0) 1 8 Tryz.underlying47 hi hz0 hz1 hz2 rfl (by decide) _ _ _ rfl (BR.out.row.alloc _) ⟨W.heap.size,0,none⟩ 1 1 (Z5y x) rfl rfl (Z0w _ _ _ _ rfl) (Zek _) (by unfold maxLen;omega) (by omega) (by have:=BR.out.bel.size;simp;omega) ?_;intro v' w1 own gr hnil hloc;obtain ⟨g',cap',rfl⟩:=ownsRow_succ own;obtain ⟨hv1,hap⟩:=BR.out.appended (by decide) own gr hloc;have AP:=Hd hap;have hc1:=hv1.cell;have hf1:=hv1.frozen;clear own gr hnil hloc hap hv1)
   | gi_in)
  obtain ⟨O',h1,h2,h3⟩:=AP.out;exact ⟨O',⟨_,by rw [Z92,List.length_append];exact h1⟩,h2,h3⟩
 case done=>
  rintro D xs O W hD hnD hxs ⟨v,hbr⟩ hK;have HXS:=Hd hxs;have hcell:=hbr.box.cell;have BR:=Hd hbr;obtain ⟨ao,cap,hv,h1,h2⟩:=Z0n Z4c (by decide) hbr.row;subst hv;clear hbr hxs;gi_wp2
  refine ⟨by simp,.inl ⟨_,_,rfl,run_takeDeferred hK,?_⟩⟩;have hB:=BR.out.chg (Chg.put W D (.deferred none) (C:=λk=>k=D) rfl) (λk hk=>by subst hk;exact ⟨by have:=HS2.out;omega,hnD⟩);exact ⟨_,results_tmp rfl _ _ _,.slice ao xs.length cap,xs,rfl,HXS.out,hB.row,hB.bel⟩
theorem Zf4 (n bx M:Nat) (l:List (Int×Value)) (w:World) (hn:l.length<=1000) (hm:Z01 w M (l.map Z9w)) (hb:w.cell? ⟨bx,0,none⟩=some (.map (some M))) :
  CallsIn Fence.wide n Tryz.prog 138 #[.func (.func 140) #[] #[.pointer (some ⟨bx,0,none⟩)]] w λe w'=>∃(v:Value) (xs:List Int),e = .returned v∧xs.Perm (l.map (·.1))∧w'.ownsRow w.heap.size 3 1 v xs.length (xs.flatMap Z5y)∧Below w.heap.size w w':=by
 have AS:=Hd (λm=>Zgt m bx M l w hn hm hb);clear hm hb;refine callsIn_of_wp Tryz.func138 rfl trivial ?_ rfl;simp only [Tryz.ntmps138,List.size_toArray,List.length_cons,List.length_nil,Nat.reduceAdd,Nat.reduceSub,Array.replicate_succ,Array.replicate_zero,List.push_toArray,List.append_toArray,List.nil_append,List.cons_append];gi_wp2
 refine ⟨trivial,λh=>absurd h (by simp [Fence.wide]),(AS.out _).mono ?_⟩;rintro e W2 ⟨v,xs,rfl,hpm,h2⟩;have PM:=Hd hpm;have H2:=Hd h2;obtain ⟨ao2,cap2,rfl,_,_⟩:=Z0n Z4c (by decide) h2.1;clear h2 hpm;gi_wp2
 go_ret;exact ⟨_,_,rfl,PM.out,H2.out⟩
theorem Zgu (n bx M:Nat) (l:List (Int×Value)) (w:World) (hn:l.length<=1000) (hm:Z01 w M (l.map Z9w)) (hb:w.cell? ⟨bx,0,none⟩=some (.map (some M))) :
  CallsIn Fence.wide n Tryz.prog 83 #[.func (.func 140) #[] #[.pointer (some ⟨bx,0,none⟩)]] w λe w'=>∃v,e = .returned v∧w'.ownsRow w.heap.size 3 1 v l.length ((Z2h (l.map (·.1))).map (Value.int .i64))∧Below w.heap.size w w':=by
 have CO:=Hd (λm=>Zf4 m bx M l w hn hm hb);clear hm hb;refine callsIn_of_wp Tryz.func83 rfl trivial ?_ rfl;simp only [Tryz.ntmps83,List.size_toArray,List.length_cons,List.length_nil,Nat.reduceAdd,Nat.reduceSub,Array.replicate_succ,Array.replicate_zero,List.push_toArray,List.append_toArray,List.nil_append,List.cons_append];gi_wp2
 refine ⟨trivial,λh=>absurd h (by simp [Fence.wide]),(CO.out _).mono ?_⟩;rintro e W2 ⟨v,xs,rfl,hpm,hrow,hbl⟩;have hxl:xs.length=l.length:=by have:=hpm.length_eq;simpa using this
 have hsl:=Z9o hpm;rw [Zcm] at hrow;rcases hrow.2 with ⟨rfl,hz⟩ | ⟨gb,cp,cur,rfl,hbase,hgb,r1,r2,r3,r4⟩
 ·have hx:xs = []:=List.eq_nil_of_length_eq_zero hz;subst hx;have hl0:l = []:=List.eq_nil_of_length_eq_zero (by simpa using hxl.symm);subst hl0;have HB:=Hd hbl;clear hrow hbl hpm hxl hsl;gi_wp2
  refine Z37 (Tryz.slices_Sort_int_none none 0 W2) ?_;rintro e w' ⟨rfl,rfl⟩;gi_wp2
  go_ret;exact ⟨_,rfl,by simpa [Z2h] using World.ownsRow_nil w' w.heap.size 3 1,HB.out⟩
 have hr4:cur.toList.take xs.length=xs.map (Value.int .i64):=by simpa using r4
 have hH:Holds (Value.int .i64) W2 gb 0 xs.toArray:=holds_of_blockI hgb hr4;have hcall:=Tryz.slices_Sort_int gb 0 cp xs W2 hH (Z0u hgb) (by omega);rw [hsl,hxl] at hcall;have CA:=Hd hcall;have FIN:=Hd (show ∀m os,(grow (putRow (Value.int .i64) (Sort.ahead W2 m) gb 0 (Z2h (l.map (·.1))).toArray) os).ownsRow w.heap.size 3 1 (.slice (some ⟨gb,0,none⟩) l.length cp) l.length ((Z2h (l.map (·.1))).map (Value.int .i64))∧Below w.heap.size w (grow (putRow (Value.int .i64) (Sort.ahead W2 m) gb 0 (Z2h (l.map (·.1))).toArray) os) from λm os=>by
  have h1:=ownsRow_sortedI (os:=os) (n:=m) (ts:=Z2h (l.map (·.1))) (ss:=xs) (by rw [<-hsl,List.length_mergeSort]) hbase hgb r1 r2 r3;rw [hxl] at h1;exact ⟨h1,hbl.grown (grownBy_sortedI _) hbl.size (λj hj=>by cases hj;exact hbase)⟩)
 rw [hxl];clear hrow hbl hH hcall hr4 hgb r1 r2 r3 r4 hpm hxl hsl;gi_wp2
 refine Z37 CA.out ?_;rintro e w' ⟨rfl,m,os,rfl⟩;have F2:=Hd (FIN.out m os);gi_wp2
 go_ret;exact ⟨_,rfl,F2.out⟩
end
section
open Go.RowKit Go.Maps
theorem Zak {P:Program} (w:World) (t xT k e:TypeId) (v:Value) (h:P.underlying t=some (.map k e)):(Instr.typeAssert (.iface t v) xT t false).run P w = .ok v w:=by
 simp [Instr.typeAssert,run_underlying h,go_sem,Result.andThen]
theorem Zcw {P:Program} (w:World) {r:Nat} {es:Array MapEntry} {clock:Nat} (t:TypeId) (hb:w.heap[r]?=some (.map es clock)) :
  (Extern.MapsClone.clone #[.iface t (.map (some r))]).run P w = .ok (.iface t (.map (some w.heap.size))) (w.alloc (.map es clock)):=by
 have e:Extern.MapsClone.clone #[.iface t (.map (some r))]=(getObj r >>= λo=>match o with
   | .map entries clock=>(newObj (.map entries clock) >>= λn=>pure (.iface t (.map (some n))))
   | _=>stuck "maps.clone: a map expected"):=rfl
 rw [e];simp [MapKept.run_getObj_map hb,Result.andThen,go_sem]
theorem Zjt {w:World} {b:Nat} {L:List (Value×Value)} (h:Z01 w b L) :
  Calls Tryz.prog 82 #[.map (some b)] w λe w'=>e = .returned (.map (some w.heap.size))∧Z01 w' w.heap.size L∧Below w.heap.size w w':=by
 obtain ⟨es,clock,hb,h2⟩:=h;have HB:=Hd hb;have FIN:=Hd (show Z01 (w.alloc (.map es clock)) w.heap.size L from ⟨es,clock,World.alloc_heap_new w _,h2⟩);clear h2;have qT:∀(w:World) (r:Option Nat),(binOp .eql 109 (.map r) (.map none)).run Tryz.prog w = .ok (.bool r.isNone) w:=λw r=>run_eql_map_nil w _ _ _ r Tryz.underlying109;go_enter Tryz.func82,Tryz.ntmps82
 go_wp2
 rw [run_callFunc_extern Tryz.func137 (by kernel_rfl) (by kernel_rfl) (by kernel_rfl) (e:=Extern.MapsClone.clone) (by kernel_rfl),Zcw w 109 HB.out];simp only [Result.andThen];rw [Oper.upon_value];go_wp2
 rw [Zak _ 109 _ _ _ _ Tryz.underlying109];simp only [Result.andThen];rw [Oper.upon_value];go_wp2
 go_ret;exact ⟨rfl,FIN.out,(Below.refl _ _).alloc (Nat.le_refl _) _⟩
end
end Go.Proofs.YtifcdjmcoibblaaGreatDoor
