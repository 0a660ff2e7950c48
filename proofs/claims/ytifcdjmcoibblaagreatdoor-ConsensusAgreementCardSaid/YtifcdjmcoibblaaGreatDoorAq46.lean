/- Nts Dlv Tkc -/
import Derived.Test.YtifcdjmcoibblaaGreatDoorAq41
import Derived.Test.YtifcdjmcoibblaaGreatDoorAq45
import Derived.Test.YtifcdjmcoibblaaGreatDoorAq42
import Derived.Deep.CutBlock
set_option linter.unusedVariables false
set_option linter.unusedSimpArgs false
set_option linter.unusedSectionVars false
set_option maxRecDepth 100000
set_option maxHeartbeats 80000000
namespace Go.Proofs.YtifcdjmcoibblaaGreatDoor
section
open Go.RowKit
section
variable {base:Nat} {w1 W W':World} {nb gn nc:Nat} {cur:Array Value} {xs:List Nat} {st:Z0g} {A B:Nat->Prop}
theorem Z0q.decided (h:Z0q base w1 nb gn nc cur xs st A W) (k:Int):Calls Tryz.prog 80 #[pv nb,.int .i64 k] W λe w'=>e = .returned (.bool (st.decided k))∧Below W.heap.size W w':=by
 have HX:=Hd h;obtain ⟨ln,hln⟩:∃ln,ln=xs.length:=⟨_,rfl⟩;have HLN:=Hd hln;have n2:=h.cells.2.2.1;rw [<-hln] at n2;have ln8:(ln:Int)<=8:=by have:=h.h8;omega
 clear h hln;unfold pv;go_enter Tryz.func80,Tryz.ntmps80
 go_wp2_with fail
 clear n2;go_loopw [5] (λi wr=>∃j:Nat,j<=ln∧i = .int .i64 (j:Int)∧Below W.heap.size W wr∧(st.ss.take j).any (λs=>s.isDec k)=false) (λi _=>ln - (intOf i).toNat)
 case atStart=>exact ⟨0,Nat.zero_le _,rfl,Below.refl _ _,rfl⟩
 case round=>
  obtain ⟨j,hj,rfl,hb,ha⟩:=hrel;have HB:=Hd hb;have HA:=Hd ha;have HM:=Hd (HX.out.later hb);have n2:=HM.out.cells.2.2.1;rw [<-HLN.out] at n2;have j0:(0:Int)<=(j:Int):=by omega
  clear hb ha;by_cases hjn:j<ln
  ·have j1:(j:Int)<(ln:Int):=by omega
   obtain ⟨x,hx⟩:∃x,xs[j]?=some x:=⟨_,List.getElem?_eq_getElem (by rw [<-HLN.out];exact hjn)⟩;obtain ⟨s,hs⟩:∃s,st.ss[j]?=some s:=⟨_,List.getElem?_eq_getElem (by rw [<-HX.out.len,<-HLN.out];exact hjn)⟩;have nx:=HM.out.node hx;have DC:=Hd (HM.out.dec hx hs k);have HS:=Hd (show st.ss.take (j+1)=st.ss.take j ++ [s] from by
    obtain ⟨h1,h2⟩:=List.getElem?_eq_some_iff.1 hs;rw [List.take_succ_eq_append_getElem h1,h2])
   have HMEM:=Hd (List.mem_of_getElem? hs);unfold pv at nx DC;clear hx hs;rcases hd:s.isDec k with _ | _
   ·rw [hd] at DC;have HD:=Hd hd;clear hd;go_wp2_with (go_at_call 21;(with_reducible refine DC.out.mono ?_);rintro e w2 ⟨⟨u2,rfl,_⟩,hb2⟩;have HB2:=Hd hb2;clear hb2)
    go_roundw
    case rel=>exact ⟨j+1,by omega,by go_num,HB.out.trans (HB2.out.mono HB.out.size),by rw [HS.out,List.any_append,HA.out];simp [HD.out]⟩
    case measure=>simp [intOf];omega
   rw [hd] at DC;have HE:=Hd (show st.decided k=true from List.any_eq_true.2 ⟨s,HMEM.out,hd⟩);clear hd;go_wp2_with (go_at_call 21;(with_reducible refine DC.out.mono ?_);rintro e w2 ⟨⟨u2,rfl,_⟩,hb2⟩;have HB2:=Hd hb2;clear hb2)
   go_ret;rw [HE.out];exact ⟨rfl,HB.out.trans (HB2.out.mono HB.out.size)⟩
  have j1:¬(j:Int)<(ln:Int):=by omega
  have HE:=Hd (show st.decided k=false from by
   have:=HA.out;rw [List.take_of_length_le (by rw [<-HX.out.len,<-HLN.out];omega)] at this;exact this)
  go_wp2_with fail
  go_ret;rw [HE.out];exact ⟨rfl,HB.out⟩
theorem Z0q.note (h:Z0q base w1 nb gn nc cur xs st A W) (m:Z0k) (ao:Option Addr) (cap:Nat) (hl:st.cs.length<=1000000000) :
  Calls Tryz.prog 28 #[pv nb,.agg (Z0l m (.slice ao m.list.length cap))] W λe w'=>e = .returned (.tuple #[])∧Z0q base w1 nb gn nc cur xs (st.note m) A w'∧Z0d A W w':=by
 have h0:=h;obtain ⟨Rs,qv,fv,cv,qs,h⟩:=h;refine (Zp9 (over:=st.decided m.height) h.row h.cst hl (λW' hb=>(h0.later hb).decided m.height)).mono ?_;rintro e w' ⟨rfl,⟨cv',hr,hc,ho⟩,hchg⟩;have hty:∀(g:Nat) (cc:Array Value) (t:Nat) (x:Nat×Nat),W.heap[g]?=some (.cells cc t x)->t≠50->t≠132->w'.heap[g]?=W.heap[g]?:=λg cc t x hg n1 n4=>by
  refine hchg.block g (gE hg).1 (λe=>?_);rcases e with e | e
  ·exact Z0p hg h.row n1 e
  obtain ⟨c2,hc2⟩:=Z1e h.cst e;exact Z0p hg hc2 n4 rfl
 obtain ⟨h1,h2⟩:=h.turn (B:=A) (st':=st.note m) (qs':=qs) (qv':=qv) (fv':=fv) (hchg.mono (λk _ e=>e.elim .inl (λe=>.inr (.inr (.inr e))))) hr rfl (Z09 h.que (λg cur _ hc=>hty g cur _ _ hc (by decide) (by decide))) h.qst (λp hp=>.inl hp)
  (Z09 h.fat (λg cur _ hc=>hty g cur _ _ hc (by decide) (by decide))) hc (λk hk=>hk) (λk hk=>by
   rcases hk with q | q | q
   ·exact .inl (.inl q)
   ·exact .inl (.inr (.inl q))
   rcases ho k q with q | q
   ·exact .inl (.inr (.inr q))
   exact .inr (.inl q))
 exact ⟨rfl,⟨Rs,qv,fv,cv',qs,h1⟩,h2⟩
theorem Z0q.send (h:Z0q base w1 nb gn nc cur xs st A W) {m:Z0k} {ao:Option Addr} {cap:Nat} (hl:Z0a A W (.slice ao m.list.length cap) m.list) (hq:st.q.length<=100000000000) (hf:st.fates.length<=100) (hfr:∀f∈st.fates,0<=f∧f<=100) (h0:0<=st.now) (h1:st.now<=1000000000000) :
  Calls Tryz.prog 161 #[pv nb,.agg (Z0l m (.slice ao m.list.length cap))] W λe w'=>e = .returned (.tuple #[])∧Z0q base w1 nb gn nc cur xs (st.send m) A w'∧Z0d A W w':=by
 obtain ⟨Rs,qv,fv,cv,qs,h⟩:=h;have hql:qs.length<=100000000000:=by rw [h.qst,List.length_map] at hq;exact hq
 refine (Zpi (m:=m) (ao:=ao) (cap:=cap) h.row h.que h.fat hql hf hfr h0 h1).mono ?_;rintro e w' ⟨rfl,qv',fv',hs⟩;have hty:∀(g:Nat) (cc:Array Value) (t:Nat) (x:Nat×Nat),W.heap[g]?=some (.cells cc t x)->t≠50->t≠205->t≠3->w'.heap[g]?=W.heap[g]?:=λg cc t x hg n1 n2 n3=>by
  refine hs.chg.block g (gE hg).1 (λe=>?_);rcases e with e | e | e
  ·exact Z0p hg h.row n1 e
  ·obtain ⟨c2,hc2⟩:=Z1e h.que e;exact Z0p hg hc2 n2 rfl
  obtain ⟨c2,hc2⟩:=Z1e h.fat e;exact Z0p hg hc2 n3 rfl
 have e1:(st.send m).ss=st.ss∧(st.send m).n=st.n∧(st.send m).last=st.last∧(st.send m).now=st.now∧(st.send m).br=st.br∧(st.send m).cs=st.cs∧(st.send m).fates=st.fates.drop 1 ++ st.fates.take 1∧(st.send m).q=(Za4 st.now m (.slice ao m.list.length cap) st.fates qs).map λp=>(p.1.1,p.2):=by
  unfold Z0g.send Za4;split
  ·exact ⟨rfl,rfl,rfl,rfl,rfl,rfl,rfl,h.qst⟩
  refine ⟨rfl,rfl,rfl,rfl,rfl,rfl,rfl,?_⟩;rw [List.map_append,<-h.qst,List.map_cons];by_cases q2:st.fates.headD 0=2
  ·simp only [if_pos q2];rfl
  simp only [if_neg q2];rfl
 obtain ⟨a1,a2,a3,a4,a5,a6,a7,a8⟩:=e1;obtain ⟨h1,h2⟩:=h.turn (B:=A) (st':=st.send m) (qs':=Za4 st.now m (.slice ao m.list.length cap) st.fates qs) (qv':=qv') (fv':=fv') (cv':=cv) (hs.chg.mono (λk _ e=>e.elim .inl (λe=>e.elim (λe=>.inr (.inl e)) (λe=>.inr (.inr (.inl e)))))) (by rw [a2,a3,a4,a5];exact hs.row) a1 hs.que a8 (λp hp=>by
   unfold Za4 at hp;split at hp
   ·exact .inl hp
   have new:∀d:Int,Z0a (Asd xs.length Rs W) W ((m,Value.slice ao m.list.length cap),d).1.2 ((m,Value.slice ao m.list.length cap),d).1.1.list:=λd=>hl.mono (λk hk=>(h.bes k hk).1);rcases List.mem_append.1 hp with hp | hp
   ·exact .inl hp
   rcases List.mem_cons.1 hp with rfl | hp
   ·exact .inr (new _)
   split at hp
   ·obtain rfl:=List.mem_singleton.1 hp;exact .inr (new _)
   cases hp)
  (by rw [a7];exact hs.fat) (by rw [a6];exact Z09 h.cst (λg cur _ hc=>hty g cur _ _ hc (by decide) (by decide) (by decide))) (λk hk=>hk) (λk hk=>by
   rcases hk with q | q | q
   ·rcases hs.qo k q with q | q
    ·exact .inl (.inl q)
    exact .inr (.inl q)
   ·rcases hs.fo k q with q | q
    ·exact .inl (.inr (.inl q))
    exact .inr (.inl q)
   exact .inl (.inr (.inr q)))
 rw [<-a1] at h1;exact ⟨rfl,⟨Rs,qv',fv',cv,_,h1⟩,h2⟩
end
end
section
open Go.RowKit
theorem Z2g.nth {W:World} {v:Value} {qs:List Z6o} (h:Z2g W v qs):∃ao cap,v = .slice ao qs.length cap∧∀(j:Nat) (p:Z6o),qs[j]?=some p->∃b off,ao=some ⟨b,off,none⟩∧b<W.heap.size∧∀(k:Nat) (u:Value),(Z4n p)[k]?=some u->W.cell? ⟨b,off+j * 9+k,none⟩=some u:=by
 obtain ⟨ao,cap,e,_,hr⟩:=Z0n (enc:=Z4n) Zpa (by decide) h;exact ⟨ao,cap,e,λj p hp=>hr j p hp⟩
section
variable {base:Nat} {w1 W W':World} {nb gn nc:Nat} {cur:Array Value} {xs:List Nat} {st:Z0g} {A B:Nat->Prop}
def Zcz (st:Z0g) (j:Nat):List StB:=((st.q.take j).filter st.due).foldl (λss p=>Z9v ss p.1) st.ss
def Z3k (st:Z0g) (qs:List Z6o) (j:Nat):List Z6o:=(qs.take j).filter λp=>!decide (p.2<=st.now)
theorem Zmz (ss:List StB) (m:Z0k):(Z9v ss m).length=ss.length:=by
 unfold Z9v;split
 ·rw [List.length_set]
 rfl
theorem Zia (st:Z0g) (j:Nat):(Zcz st j).length=st.ss.length:=by
 unfold Zcz;generalize (st.q.take j).filter st.due=l;have:∀(l:List (Z0k×Int)) (ss:List StB),(l.foldl (λss p=>Z9v ss p.1) ss).length=ss.length:=by
  intro l;induction l with
  | nil=>intro ss;rfl
  | cons p l ih=>intro ss;rw [List.foldl_cons,ih,Zmz]
 exact this l st.ss
theorem Zf8 {st:Z0g} {j:Nat} {m:Z0k} {d:Int} (h:st.q[j]?=some (m,d)):Zcz st (j+1)=if d<=st.now then Z9v (Zcz st j) m else Zcz st j:=by
 obtain ⟨hl,he⟩:=List.getElem?_eq_some_iff.1 h;unfold Zcz;rw [List.take_succ_eq_append_getElem hl,he,List.filter_append,List.foldl_append];by_cases q:d<=st.now
 ·rw [if_pos q,List.filter_cons,if_pos (by unfold Z0g.due;simpa using q)];rfl
 rw [if_neg q,List.filter_cons,if_neg (by unfold Z0g.due;simpa using q)];rfl
theorem Zbj {st:Z0g} {qs:List Z6o} {j:Nat} {p:Z6o} (h:qs[j]?=some p):Z3k st qs (j+1)=if p.2<=st.now then Z3k st qs j else Z3k st qs j ++ [p]:=by
 obtain ⟨hl,he⟩:=List.getElem?_eq_some_iff.1 h;unfold Z3k;rw [List.take_succ_eq_append_getElem hl,he,List.filter_append];by_cases q:p.2<=st.now
 ·rw [if_pos q,List.filter_cons,if_neg (by simpa using q)];simp
 rw [if_neg q,List.filter_cons,if_pos (by simpa using q)];rfl
theorem Zpj {st:Z0g} {j:Nat} (h:st.q.length<=j):Zcz st j=st.deliver.ss:=by
 unfold Zcz Z0g.deliver;rw [List.take_of_length_le h]
theorem Zn0 {st:Z0g} {qs:List Z6o} {j:Nat} (hq:st.q=qs.map λp=>(p.1.1,p.2)) (h:qs.length<=j):st.deliver.q=(Z3k st qs j).map λp=>(p.1.1,p.2):=by
 unfold Z3k Z0g.deliver;rw [List.take_of_length_le h];show st.q.filter _=_;rw [hq,List.filter_map];rfl
structure Zff (base:Nat) (w1:World) (nb gn nc:Nat) (cur:Array Value) (xs:List Nat) (st:Z0g) (A:Nat->Prop) (W:World) (qv fv cv:Value) (qs:List Z6o) (j:Nat) (rv:Value) (w:World):Prop where
 net:∃Rs',Z4o base w1 nb gn nc cur xs.length xs (Zcz st j) Rs' qv fv cv qs {st with ss:=Zcz st j} (λk=>A k∨rv.ownBlock=some k) w
 keep:Z0d A W w
 row:Z2g w rv (Z3k st qs j)
 fresh:∀k,rv.ownBlock=some k->¬A k
theorem Zff.slice {fv cv qv:Value} {qs:List Z6o} {j:Nat} {rv:Value} {w:World} (h:Zff base w1 nb gn nc cur xs st A W qv fv cv qs j rv w):∃ao cap,rv = .slice ao (Z3k st qs j).length cap:=by
 obtain ⟨ao,cap,e,_⟩:=h.row.nth;exact ⟨ao,cap,e⟩
theorem Zff.bel {fv cv qv:Value} {qs:List Z6o} {j:Nat} {rv:Value} {w w':World} (h:Zff base w1 nb gn nc cur xs st A W qv fv cv qs j rv w) (hb:Below w.heap.size w w'):Zff base w1 nb gn nc cur xs st A W qv fv cv qs j rv w':=by
 obtain ⟨Rs',hn⟩:=h.net;exact ⟨⟨Rs',hn.later hb⟩,h.keep.trans (hn.keepB hb) (λk q=>.inl q),Z07 h.row (λg _ hl=>hb.block g hl),h.fresh⟩
theorem Zff.cells {fv cv:Value} {qs:List Z6o} {b off qc ln j j2:Nat} {rv:Value} {w:World} {p:Z6o} (h:Zff base w1 nb gn nc cur xs st A W (.slice (some ⟨b,off,none⟩) ln qc) fv cv qs j2 rv w) (hp:qs[j]?=some p) {t x:Nat} (hx:xs[t]?=some x) :
  w.cell? ⟨nb,2,none⟩=some (.slice (some ⟨gn,0,none⟩) xs.length nc)∧w.cell? ⟨nb,5,none⟩=some (.slice (some ⟨b,off,none⟩) ln qc)∧w.cell? ⟨gn,t,none⟩=some (pv x)∧∀(k:Nat) (u:Value),(Z4n p)[k]?=some u->w.cell? ⟨b,off+j * 9+k,none⟩=some u:=by
 obtain ⟨Rs',hn⟩:=h.net;obtain ⟨qo2,qc2,eq2,hnth⟩:=hn.que.nth;injection eq2 with q1 q2 q3
 obtain ⟨b2,off2,e2,_,hce⟩:=hnth j p hp;rw [<-q1] at e2;cases e2;exact ⟨hn.cell 2,hn.cell 5,hn.node (List.getElem?_eq_some_iff.1 hx).1 hx,hce⟩
theorem Z4o.recvM {ln:Nat} {zs:List StB} {Rs:Nat->Nat->Prop} {qv fv cv:Value} {qs:List Z6o} {i x:Nat} {s:StB} (h:Z4o base w1 nb gn nc cur ln xs zs Rs qv fv cv qs st A W) (hx:xs[i]?=some x) (hs:zs[i]?=some s) {R0:Nat->Prop} {v:Value} {m:Z0k} (hm:Z8d R0 W v m) (h0:∀k,R0 k->k<W.heap.size) (hl:m.list.length<=60) (hv:Z04 m=true->m.kind=3->GB m.dig m.list) :
  Calls Tryz.prog 20 #[pv x,v] W λe w'=>e = .returned (.tuple #[])∧(∃Rs',Z4o base w1 nb gn nc cur ln xs (zs.set i (s.receive m (Z04 m))) Rs' qv fv cv qs {st with ss:=(zs.set i (s.receive m (Z04 m))).take ln} A w')∧Z0d A W w':=by
 refine (Zr8 (i:=i) GB.gf h.flk.net h.flk.size hx hs hm h0 hl h.flk.gl hv).mono ?_;rintro e w' ⟨rfl,Rs',hs⟩;obtain ⟨h1,h2⟩:=h.sail hs;exact ⟨rfl,⟨Rs',h1⟩,h2⟩
theorem Zff.due {fv cv:Value} {qs:List Z6o} {qo:Option Addr} {qc ln j:Nat} {rv:Value} {w w':World} {m:Z0k} {sl:Value} {d:Int} {t:Nat} {s:StB} (h:Zff base w1 nb gn nc cur xs st A W (.slice qo ln qc) fv cv qs j rv w) (hp:qs[j]?=some ((m,sl),d)) (hd:d<=st.now) (hqs:st.q=qs.map λp=>(p.1.1,p.2)) (ht:m.to=(t:Int)) (hs:(Zcz st j)[t]?=some s) (hl:xs.length=st.ss.length)
  (hn:∃Rs',Z4o base w1 nb gn nc cur xs.length xs ((Zcz st j).set t (s.receive m (Z04 m))) Rs' (.slice qo ln qc) fv cv qs {st with ss:=((Zcz st j).set t (s.receive m (Z04 m))).take xs.length} (λk=>A k∨rv.ownBlock=some k) w') (hk:Z0d (λk=>A k∨rv.ownBlock=some k) w w') :
  Zff base w1 nb gn nc cur xs st A W (.slice qo ln qc) fv cv qs (j+1) rv w':=by
 have hq:st.q[j]?=some (m,d):=by rw [hqs,List.getElem?_map,hp];rfl
 have e1:Zcz st (j+1)=(Zcz st j).set t (s.receive m (Z04 m)):=by
  rw [Zf8 hq,if_pos hd];unfold Z9v;have:m.to.toNat=t:=by omega
  rw [this,hs]
 have e2:Z3k st qs (j+1)=Z3k st qs j:=by rw [Zbj hp,if_pos hd]
 obtain ⟨Rs',hn⟩:=hn;refine ⟨⟨Rs',?_⟩,h.keep.trans hk (λk q=>.inl q),?_,h.fresh⟩
 ·rw [e1];rw [Z3t (by rw [List.length_set,Zia];exact hl)] at hn;exact hn
 rw [e2];exact Z09 h.row (λg cur hg _=>hk.2 g (.inr hg))
theorem Zff.later {fv cv:Value} {qs:List Z6o} {qo rao:Option Addr} {qc ln j rl rcap:Nat} {v2:Value} {w wb w':World} {p:Z6o} (h:Zff base w1 nb gn nc cur xs st A W (.slice qo ln qc) fv cv qs j (.slice rao rl rcap) w) (hp:qs[j]?=some p) (hd:¬p.2<=st.now) (hqs:st.q=qs.map λp=>(p.1.1,p.2)) (hrl:rl=(Z3k st qs j).length)
  (hb:Below w.heap.size w wb) (ho:w'.ownsRow 0 205 9 v2 (rl+1) ((Z3k st qs j).flatMap Z4n ++ Z4n p)) (gr:wb.grownBy w' (Value.slice rao rl rcap).ownBlock) (hl:∀g,v2.ownBlock=some g->(Value.slice rao rl rcap).ownBlock=some g∨wb.heap.size<=g) :
  Zff base w1 nb gn nc cur xs st A W (.slice qo ln qc) fv cv qs (j+1) v2 w'∧(∃a c,v2 = .slice a (rl+1) c):=by
 have hq:st.q[j]?=some (p.1.1,p.2):=by rw [hqs,List.getElem?_map,hp];rfl
 have e1:Zcz st (j+1)=Zcz st j:=by rw [Zf8 hq,if_neg hd]
 have e2:Z3k st qs (j+1)=Z3k st qs j ++ [p]:=by rw [Zbj hp,if_neg hd]
 obtain ⟨Rs',hn⟩:=h.net;have hc:Chg (λk=>(Value.slice rao rl rcap).ownBlock=some k) w w':=(Chg.of_below hb (λk a b=>absurd b (by omega))).trans ((Chg.grown gr (λk e=>e)).mono (λ_ _ q=>.inl q));have hty:∀k,(Value.slice rao rl rcap).ownBlock=some k->(A k∨(Value.slice rao rl rcap).ownBlock=some k):=λk q=>.inr q;have hown:∀k,Zpb nb gn (.slice qo ln qc) fv cv k->w'.heap[k]?=w.heap[k]?:=λk hk=>hc.block k (hn.own k hk).1.1 (λe=>(hn.bes k (.inr e)).2.2 hk);have hall:∀k,Z7b xs.length Rs' k->w'.heap[k]?=w.heap[k]?:=λk hk=>hc.block k (hn.flk.net.lt hk) (λe=>(hn.bes k (.inr e)).1.2 hk);have hasd:∀k,Asd xs.length Rs' w k->Asd xs.length Rs' w' k:=λk hk=>hk.later hc.size;have hbe:Below base w w':=hc.below hn.flk.size (λk e=>(hn.bes k (.inr e)).2.1);have hws:w.heap.size<=wb.heap.size:=hb.size;refine ⟨⟨⟨Rs',?_⟩,h.keep.trans ⟨hc.size,λk hk=>hc.block k ?_ (λe=>?_)⟩ (λk q=>q),?_,λk hk=>?_⟩,?_⟩
 ·rw [e1];refine ⟨⟨hn.flk.net.kept hall hc.size,hn.flk.bel.trans hbe,hn.flk.pos,hn.flk.le,hn.flk.glob⟩,hn.hl,hn.h8,hn.hss,(hown nb (.inl rfl)).trans hn.row,(hown gn (.inr (.inl rfl))).trans hn.ptr,hn.at',Z09 hn.que (λg cur hg _=>hown g (.inr (.inr (.inl hg)))),hn.qst,λp hp=>?_,Z09 hn.fat (λg cur hg _=>hown g (.inr (.inr (.inr (.inl hg))))),hn.cst.kept (λg cur _ hg=>hown g (.inr (.inr (.inr (.inr hg))))),λk hk=>⟨hasd k (hn.own k hk).1,(hn.own k hk).2⟩,λk hk=>?_⟩
  ·refine ((hn.ql p hp).kept (λg c2 fr _ hg2=>hc.block g (gE hg2).1 (λe=>?_))).mono hasd;obtain ⟨c3,hc3⟩:=Z1e h.row e;exact Z0p hg2 hc3 (by decide) rfl
  rcases hk with hk | hk
  ·exact ⟨hasd k (hn.bes k (.inl hk)).1,(hn.bes k (.inl hk)).2⟩
  rcases hl k hk with q | q
  ·exact ⟨hasd k (hn.bes k (.inr q)).1,(hn.bes k (.inr q)).2⟩
  obtain ⟨c2,hc2⟩:=Z1e ho hk;refine ⟨⟨(gE hc2).1,λhr=>by have:=hn.flk.net.lt hr;omega⟩,by have:=hn.flk.size;omega,λq2=>?_⟩;have:=(hn.own k q2).1.1;omega
 ·exact (hn.bes k (.inl hk)).1.1
 ·exact h.fresh k e hk
 ·rw [e2];unfold Z2g;rw [List.flatMap_append,List.length_append,<-hrl];simpa using ho
 ·rcases hl k hk with q | q
  ·exact h.fresh k q
  intro hA;have:=(hn.bes k (.inl hA)).1.1;omega
 rcases ho.2 with ⟨_,h0⟩ | ⟨g,c,_,e,_⟩
 ·omega
 exact ⟨_,_,e⟩
theorem Zgz (h:Z0q base w1 nb gn nc cur xs st A W) (hq:∀p∈st.q,(0<=p.1.to∧p.1.to<(xs.length:Int))∧p.1.list.length<=60∧(Z04 p.1=true->p.1.kind=3->GB p.1.dig p.1.list)) (hl:st.q.length<=100000000000) :
  Calls Tryz.prog 102 #[pv nb] W λe w'=>e = .returned (.tuple #[])∧Z0q base w1 nb gn nc cur xs st.deliver A w'∧Z0d A W w':=by
 obtain ⟨Rs,qv,fv,cv,qs,h⟩:=h;have HQS:=Hd h.qst;have HQK:=Hd (show ∀p∈qs,(0<=p.1.1.to∧p.1.1.to<(xs.length:Int))∧p.1.1.list.length<=60∧(Z04 p.1.1=true->p.1.1.kind=3->GB p.1.1.dig p.1.1.list) from λp hp=>hq (p.1.1,p.2) (by rw [h.qst];exact List.mem_map_of_mem (f:=λp:Z6o=>(p.1.1,p.2)) hp));have hlq:qs.length<=100000000000:=by rw [h.qst,List.length_map] at hl;exact hl
 obtain ⟨qo,qc,eqv,_⟩:=h.que.nth;obtain ⟨ln,hln⟩:∃ln,ln=qs.length:=⟨_,rfl⟩;obtain ⟨xl,hxl⟩:∃xl,xl=xs.length:=⟨_,rfl⟩;rw [<-hln] at eqv;subst eqv;have HLN:=Hd hln;have HXL:=Hd hxl;have xl8:(xl:Int)<=8:=by have:=h.h8;omega
 have ln9:(ln:Int)<=100000000000:=by rw [<-hln] at hlq;omega
 have n5:=h.cell 5;simp [Z1b] at n5;have HS0:=Hd (show Zff base w1 nb gn nc cur xs st A W (.slice qo ln qc) fv cv qs 0 (.slice none 0 0) W from
  ⟨⟨Rs,h.less (λk hk=>hk.resolve_right (λe=>by simp [Value.ownBlock] at e))⟩,Z0d.refl _ _,Z2g.nil W,λk e=>by simp [Value.ownBlock] at e⟩)
 clear h hq hl hlq hln hxl;unfold pv;go_enter Tryz.func102,Tryz.ntmps102
 go_wp2_with fail
 clear n5;go_loopw [3,2] (λi rv wr=>∃j:Nat,j<=ln∧i = .int .i64 (j:Int)∧Zff base w1 nb gn nc cur xs st A W (.slice qo ln qc) fv cv qs j rv wr) (λi _ _=>ln - (intOf i).toNat)
 case atStart=>exact ⟨0,Nat.zero_le _,rfl,HS0.out⟩
 case round=>
  obtain ⟨j,hj,rfl,hd⟩:=hrel;have HD:=Hd hd;have j0:(0:Int)<=(j:Int):=by omega
  obtain ⟨rao,rcap,rfl⟩:=hd.slice;obtain ⟨Rs',hN⟩:=hd.net;have HN:=Hd hN;have n5:=hN.cell 5;have n4:=hN.cell 4;have n2:=hN.cell 2;simp [Z1b] at n5;simp [Z1b,iv] at n4;simp [Z1b] at n2;rw [<-HXL.out] at n2;obtain ⟨rl,hrl⟩:∃rl,rl=(Z3k st qs j).length:=⟨_,rfl⟩;have HRL:=Hd hrl;rw [<-hrl] at HD HN ⊢;have rl9:(rl:Int)<=100000000000:=by
   have h1:rl<=j:=by rw [hrl];unfold Z3k;exact Nat.le_trans (List.length_filter_le _ _) (by rw [List.length_take];omega)
   omega
  clear hd hN hrl;by_cases hjn:j<ln
  ·have j1:(j:Int)<(ln:Int):=by omega
   obtain ⟨⟨⟨m,sl⟩,d⟩,hp⟩:∃p,qs[j]?=some p:=⟨_,List.getElem?_eq_getElem (by rw [<-HLN.out];exact hjn)⟩;have HP:=Hd hp;have hmem:=List.mem_of_getElem? hp;have HQ1:=Hd (HQK.out _ hmem);have hql:=HN.out.ql _ hmem;obtain ⟨lo,lc,esl,_⟩:=id hql;simp only at esl;subst esl;obtain ⟨qo2,qc2,eq2,hnth⟩:=HN.out.que.nth;injection eq2 with q1 q2 q3
   subst q1 q3;obtain ⟨b,off,rfl,hb,hce⟩:=hnth j _ hp;have e8:=hce 8 _ rfl;unfold iv at e8;have HBW:=Hd hb;have HCE:=Hd hce;have HQL:=Hd (show Z0a (λk=>k<wr.heap.size) wr (.slice lo m.list.length lc) m.list from hql.mono (λk hk=>hk.1));clear hmem hnth hce q2 hql hb hp;obtain ⟨bd,hbd⟩:∃bd,bd=decide (d<=st.now):=⟨_,rfl⟩;have HBD:=Hd hbd;clear hbd;go_upto_region 4 with (fail)
   go_cut [25] from 13 to 25 (λt wc=>t = .bool bd∧Below wr.heap.size wr wc)
   case first=>
    have d1:=HBD.out.symm;rcases bd with _ | _
    ·go_quiet (fail)
     go_wp2
     go_meet;exact ⟨rfl,below_drewN (Below.refl _ _) _⟩
    go_quiet (fail)
    go_wp2
    go_meet;exact ⟨rfl,below_drewN (Below.refl _ _) _⟩
   case rest=>
   obtain ⟨rfl,hbk⟩:=hcut;obtain ⟨wk,rfl⟩:∃wk:World,wk=wc:=⟨_,rfl⟩;have HBK:=Hd hbk;have HDK:=Hd (HD.out.bel hbk);have HNK:=Hd (HN.out.later hbk);have HQLK:=Hd (show Z0a (λk=>k<wk.heap.size) wk (.slice lo m.list.length lc) m.list from (HQL.out.kept (λg _ _ hg _=>hbk.block g hg)).mono (λk hk=>Nat.lt_of_lt_of_le hk hbk.size));have HCK:=Hd (show ∀(k:Nat) (u:Value),(Z4n ((m,.slice lo m.list.length lc),d))[k]?=some u->wk.cell? ⟨b,off+j * 9+k,none⟩=some u from λk u hu=>by
    rw [World.cell?_of_block (w:=wr) (hbk.block b HBW.out)];exact HCE.out k u hu)
   clear hbk n5 n4 n2 e8 HCE HQL HD HN HBW;have n5:=HNK.out.cell 5;have n4:=HNK.out.cell 4;have n2:=HNK.out.cell 2;simp [Z1b] at n5;simp [Z1b,iv] at n4;simp [Z1b] at n2;rw [<-HXL.out] at n2;have e0:=HCK.out 0 _ rfl;have e1:=HCK.out 1 _ rfl;have e2:=HCK.out 2 _ rfl;have e3:=HCK.out 3 _ rfl;have e4:=HCK.out 4 _ rfl;have e5:=HCK.out 5 _ rfl;have e6:=HCK.out 6 _ rfl;have e7:=HCK.out 7 _ rfl;have e8:=HCK.out 8 _ rfl;simp only [Nat.add_zero] at e0;unfold iv at e0 e1 e2 e3 e4 e5 e8;rcases bd with _ | _
   ·have HDN:=Hd (of_decide_eq_false HBD.out.symm);obtain ⟨ti,hi,hz0,hz1,hz2⟩:=info_parts Tryz.infoFlight;have HBA:=Hd (show Below wk.heap.size wk (wk.alloc (.cells (Z4n ((m,.slice lo m.list.length lc),d)).toArray 205)) from (Below.refl _ _).alloc (Nat.le_refl _) _);have OWN:=Hd (show (wk.alloc (.cells (Z4n ((m,.slice lo m.list.length lc),d)).toArray 205)).ownsRow 0 205 9 (.slice rao rl rcap) rl ((Z3k st qs j).flatMap Z4n) from by
     have h1:=HDK.out.row;unfold Z2g at h1;rw [<-HRL.out] at h1;exact Z07 h1 (λg _ hl=>HBA.out.block g hl))
    have NEW:=Hd (Z0w wk (Z4n ((m,.slice lo m.list.length lc),d)) 205 wk.heap.size rfl);go_wp2_with (refine Z0m rfl (.tmp 50) (.tmp 58) 46 (by rfl) 0 205 ti zF 9 96 Tryz.underlying46 hi hz0 hz1 hz2 (by rfl) (by decide) (.slice rao rl rcap) rl ((Z3k st qs j).flatMap Z4n) (by rfl) OWN.out ⟨wk.heap.size,0,none⟩ 1 1 (Z4n ((m,.slice lo m.list.length lc),d)) (by rfl) (by rfl) NEW.out (Z7j _ _ _ _ _) (by unfold maxLen;omega) (by omega) (by omega) (rl+1) rfl ?_;intro v2 w2 o2 g2 l2;obtain ⟨hd2,a2,c2,rfl⟩:=HDK.out.later HP.out HDN.out HQS.out HRL.out HBA.out o2 g2 l2;have HD2:=Hd hd2;clear o2 g2 l2 hd2)
    go_roundw
    case rel=>exact ⟨j+1,by omega,by go_num,HD2.out⟩
    case measure=>simp [intOf];omega
   have HDN:=Hd (of_decide_eq_true HBD.out.symm);obtain ⟨t,ht⟩:∃t:Nat,m.to=(t:Int):=⟨m.to.toNat,by have:=HQ1.out.1.1;simp only at this;omega⟩;have htl:t<xs.length:=by have:=HQ1.out.1.2;simp only at this;omega
   have tx:(t:Int)<(xl:Int):=by rw [HXL.out];omega
   have t0:(0:Int)<=(t:Int):=by omega
   obtain ⟨x,hx⟩:∃x,xs[t]?=some x:=⟨_,List.getElem?_eq_getElem htl⟩;obtain ⟨s,hs⟩:∃s,(Zcz st j)[t]?=some s:=⟨_,List.getElem?_eq_getElem (by rw [<-HNK.out.len];exact htl)⟩;have nx:=HNK.out.node htl hx;unfold pv at nx;rw [ht] at e2;have RV:=Hd (show ∀W2,Below wk.heap.size wk W2->Calls Tryz.prog 20 #[.pointer (some ⟨x,0,none⟩),.agg #[.int .i64 m.kind,.int .i64 m.frm,.int .i64 (t:Int),.int .i64 m.height,.int .i64 m.round,.int .i64 m.valid,.string m.dig,.slice lo m.list.length lc]] W2 λe w'=>e = .returned (.tuple #[])∧Zff base w1 nb gn nc cur xs st A W (.slice (some ⟨b,off,none⟩) ln qc) fv cv qs (j+1) (.slice rao rl rcap) w'∧(w'.cell? ⟨nb,2,none⟩=some (.slice (some ⟨gn,0,none⟩) xl nc)∧w'.cell? ⟨nb,5,none⟩=some (.slice (some ⟨b,off,none⟩) ln qc)∧w'.cell? ⟨gn,t,none⟩=some (.pointer (some ⟨x,0,none⟩))∧w'.cell? ⟨b,off+j * 9,none⟩=some (.int .i64 m.kind)∧w'.cell? ⟨b,off+j * 9+1,none⟩=some (.int .i64 m.frm)∧w'.cell? ⟨b,off+j * 9+2,none⟩=some (.int .i64 (t:Int))∧w'.cell? ⟨b,off+j * 9+3,none⟩=some (.int .i64 m.height)∧w'.cell? ⟨b,off+j * 9+4,none⟩=some (.int .i64 m.round)∧w'.cell? ⟨b,off+j * 9+5,none⟩=some (.int .i64 m.valid)∧w'.cell? ⟨b,off+j * 9+6,none⟩=some (.string m.dig)∧w'.cell? ⟨b,off+j * 9+7,none⟩=some (.slice lo m.list.length lc)) from λW2 hW=>by
    have:=(HNK.out.later hW).recvM hx hs (R0:=λk=>k<W2.heap.size) (m:=m) (v:=.agg (Z0l m (.slice lo m.list.length lc))) ⟨_,rfl,(HQLK.out.kept (λg _ _ hg _=>hW.block g hg)).mono (λk hk=>Nat.lt_of_lt_of_le hk hW.size)⟩ (λk hk=>hk) HQ1.out.2.1 HQ1.out.2.2;unfold Z0l iv pv at this;rw [ht] at this;refine this.mono ?_;rintro e w' ⟨rfl,h1,h2⟩;have hd:=(HDK.out.bel hW).due HP.out HDN.out HQS.out ht hs (by rw [HNK.out.len,Zia]) h1 h2;obtain ⟨c1,c2,c3,c4⟩:=hd.cells HP.out hx;have c5:=c4 2 _ rfl;unfold iv at c5;rw [ht] at c5;exact ⟨rfl,hd,by rw [HXL.out];exact c1,c2,c3,c4 0 _ rfl,c4 1 _ rfl,c5,c4 3 _ rfl,c4 4 _ rfl,c4 5 _ rfl,c4 6 _ rfl,c4 7 _ rfl⟩)
   have KEEP:=Hd (show ∀W2,Below wk.heap.size wk W2->W2.cell? ⟨nb,2,none⟩=some (.slice (some ⟨gn,0,none⟩) xl nc)∧W2.cell? ⟨nb,5,none⟩=some (.slice (some ⟨b,off,none⟩) ln qc)∧W2.cell? ⟨gn,t,none⟩=some (.pointer (some ⟨x,0,none⟩))∧W2.cell? ⟨b,off+j * 9,none⟩=some (.int .i64 m.kind)∧W2.cell? ⟨b,off+j * 9+1,none⟩=some (.int .i64 m.frm)∧W2.cell? ⟨b,off+j * 9+2,none⟩=some (.int .i64 (t:Int))∧W2.cell? ⟨b,off+j * 9+3,none⟩=some (.int .i64 m.height)∧W2.cell? ⟨b,off+j * 9+4,none⟩=some (.int .i64 m.round)∧W2.cell? ⟨b,off+j * 9+5,none⟩=some (.int .i64 m.valid)∧W2.cell? ⟨b,off+j * 9+6,none⟩=some (.string m.dig)∧W2.cell? ⟨b,off+j * 9+7,none⟩=some (.slice lo m.list.length lc) from λW2 hW=>by
    have up:∀{a:Addr} {v:Value},wk.cell? a=some v->W2.cell? a=some v:=λ{a v} h=>by
     rw [World.cell?_of_block (w:=wk) (hW.block a.block (World.block_lt_of_cell? _ _ h))];exact h
    exact ⟨up n2,up n5,up nx,up e0,up e1,up e2,up e3,up e4,up e5,up e6,up e7⟩)
   clear ht htl hx hs;go_upto_region 5 with (fail)
   go_region_held3 (λW2=>W2.cell? ⟨nb,2,none⟩=some (.slice (some ⟨gn,0,none⟩) xl nc)∧W2.cell? ⟨nb,5,none⟩=some (.slice (some ⟨b,off,none⟩) ln qc)∧W2.cell? ⟨gn,t,none⟩=some (.pointer (some ⟨x,0,none⟩))∧W2.cell? ⟨b,off+j * 9,none⟩=some (.int .i64 m.kind)∧W2.cell? ⟨b,off+j * 9+1,none⟩=some (.int .i64 m.frm)∧W2.cell? ⟨b,off+j * 9+2,none⟩=some (.int .i64 (t:Int))∧W2.cell? ⟨b,off+j * 9+3,none⟩=some (.int .i64 m.height)∧W2.cell? ⟨b,off+j * 9+4,none⟩=some (.int .i64 m.round)∧W2.cell? ⟨b,off+j * 9+5,none⟩=some (.int .i64 m.valid)∧W2.cell? ⟨b,off+j * 9+6,none⟩=some (.string m.dig)∧W2.cell? ⟨b,off+j * 9+7,none⟩=some (.slice lo m.list.length lc))
    (first | (exact KEEP.out _ (Below.refl _ wk).drew) | (exact KS.out))
    (first | (go_at_call 20;refine (RV.out _ (Below.refl _ wk).drew).mono ?_;rintro e w2 ⟨rfl,hd2,hs2⟩;have HD2:=Hd hd2;have KS:=Hd hs2;clear hd2 hs2))
   all_goals (
    go_wp2_with fail
    go_roundw
    case rel=>exact ⟨j+1,by omega,by go_num,HD2.out⟩
    case measure=>simp [intOf];omega)
  have j1:¬(j:Int)<(ln:Int):=by omega
  have HFIN:=Hd (show Z0q base w1 nb gn nc cur xs st.deliver A (wr.setCell ⟨nb,5,none⟩ (.slice rao rl rcap))∧Z0d A W (wr.setCell ⟨nb,5,none⟩ (.slice rao rl rcap)) from by
   have hq:qs.length<=j:=by rw [<-HLN.out];omega
   have hd:=HD.out;have hrow:=hd.row;rw [HRL.out] at hd ⊢;have h:=HN.out;rw [HRL.out] at h;have e1:st.deliver.ss=Zcz st j:=(Zpj (by rw [HQS.out,List.length_map];exact hq)).symm;have ho:∀(g:Nat) (cur:Array Value) (t:Nat),wr.heap[g]?=some (Obj.cells cur t (0,0))->t≠50->(wr.setCell ⟨nb,5,none⟩ (.slice rao (Z3k st qs j).length rcap)).heap[g]?=wr.heap[g]?:=λg cur t hg hn=>Below.heap_setCell _ ⟨nb,5,none⟩ _ g (λe=>Z0p hg h.row hn e);obtain ⟨h1,h2⟩:=h.turn (B:=A) (W':=wr.setCell ⟨nb,5,none⟩ (.slice rao (Z3k st qs j).length rcap)) (st':=st.deliver) (qv':=.slice rao (Z3k st qs j).length rcap) (fv':=fv) (cv':=cv) (qs':=Z3k st qs j) (Chg.set _ nb 5 _ (.inl rfl)) (Z05 h.row _) e1
    (Z09 hd.row (λg cur _ hc=>ho g cur _ hc (by decide))) (Zn0 HQS.out hq) (λp hp=>.inl (List.mem_of_mem_take (List.mem_filter.1 hp).1))
    (Z09 h.fat (λg cur _ hc=>ho g cur _ hc (by decide))) (Z09 h.cst (λg cur _ hc=>ho g cur _ hc (by decide))) (λk hk=>.inl hk) (λk hk=>by
     rcases hk with q | q | q
     ·exact .inr (.inr ⟨.inr q,hd.fresh k q⟩)
     ·exact .inl (.inr (.inl q))
     exact .inl (.inr (.inr q)))
   rw [<-e1] at h1;exact ⟨⟨_,_,_,_,_,h1⟩,hd.keep.trans h2 (λk hk=>.inl hk)⟩)
  have fz:=λo=>frozen_of_row wr nb o _ _ HN.out.row;clear HD HN n4 n2;go_wp2_with fail
  refine bodyPost_end (results_none rfl _ _ _) rfl ?_;exact ⟨rfl,HFIN.out⟩
end
end
section
open Go.RowKit
theorem Zbk {G:ByteArray->List ByteArray->Prop} {s:StB} (hf:Fit G s):s.props.length<=100:=by
 have hb:=hf.ok.inv.box;have hn:((s.props.map (·.1)).map Int.toNat).Nodup:=by
  refine List.pairwise_map.2 (List.Pairwise.imp_of_mem (λ{a b} ha hb' hab e=>hab ?_) hb.pk);obtain ⟨p,hp,rfl⟩:=List.mem_map.1 ha;obtain ⟨q,hq,rfl⟩:=List.mem_map.1 hb';have h1:=(hb.pr p hp).1;have h2:=(hb.pr q hq).1;omega
 have:=Z8u 100 _ hn (λx hx=>by
  obtain ⟨a,ha,rfl⟩:=List.mem_map.1 hx;obtain ⟨p,hp,rfl⟩:=List.mem_map.1 ha;have h1:=hb.pr p hp;omega)
 rw [List.length_map,List.length_map] at this;exact this
theorem Z4q {props:List (Int×Z0k)}:∀(ks:List Int) (seen:List ByteArray),(Z28 props ks seen).length<=ks.length
 | [],_=>Nat.le_refl _
 | r :: ks,seen=>by
  unfold Z28;rw [List.length_cons];rcases Z02 r props with _ | m
  ·have:=Z4q (props:=props) ks seen;simp only;omega
  simp only;split
  ·have:=Z4q (props:=props) ks seen;omega
  have:=Z4q (props:=props) ks (m.dig :: seen);rw [List.length_cons];omega
theorem Zjx {s:StB} (hf:Fit GB s):s.asked.length<=100:=by
 unfold NS.asked;split
 ·exact Nat.zero_le _
 refine Nat.le_trans (Z4q _ _) ?_;rw [Z3b,List.length_map];exact Zbk hf
theorem Zri {G:ByteArray->List ByteArray->Prop} {base:Nat} {w:World} {xs:List Nat} {ss:List StB} {Rs:Nat->Nat->Prop} {i x:Nat} {s:StB} (gf:Zhz G) (hN:Net G base w xs ss Rs) (hx:xs[i]?=some x) (hs:ss[i]?=some s) :
  Calls Tryz.prog 38 #[pv x] w λe w'=>(∃v,e = .returned v∧Zgv w w' v s.asked)∧Below w.heap.size w w':=by
 obtain ⟨p,hp⟩:=hN.node i x s hx hs;have hf:=hN.idx hx hs;refine Zmr hp ?_ (λk m hm=>?_)
 ·have:=Zbk hf;omega
 have:=gf.law.len _ _ (hf.ok.gi.pg _ (Z0r hm));show m.list.length<=1000;have h2:m.list.length<=60:=this;omega
theorem Zh0 {R:Nat->Prop} {W:World} {u:Value} {l:List ByteArray} (ha:Z1f l=true) (hl:l.length<=60) (hr:Z0a R W u l):Calls Tryz.prog 26 #[u] W λe w'=>e = .returned (.string (Z0z l))∧Below W.heap.size W w':=by
 obtain ⟨a3,c3,rfl,_,hrow3⟩:=hr.row;rw [Z5o ha];exact Z4i a3 _ c3 l W rfl hl hrow3 ha
theorem Zf9 {s:StB} (hf:Fit GB s):s.tick.2.length<=4000:=by
 have ha:s.answers.length<=728:=by
  rw [Z84];have h1:=Z8n hf.qi.q (Z2h (s.ques.map (·.1)));have h2:=hf.qi.q.len;rw [Z3b,List.length_map] at h1;omega
 by_cases hd:s.isDec s.height=true
 ·rw [Zeu hd];show s.answers.length<=_;omega
 rw [Zev (by simpa using hd)];show (s.answers ++ _).length<=_;rw [List.length_append];have h1:=Z9r s.tk2 (s.tk2.mine.drop s.tkFrom);have h2:=(Z58 hf.ok.inv).num.n7;have h3:=(Z58 hf.ok.inv).mine_len;have h4:(s.tk2.mine.drop s.tkFrom).length<=400:=by rw [List.length_drop];omega
 have h5:s.tk2.n.toNat * (s.tk2.mine.drop s.tkFrom).length<=7 * 400:=Nat.mul_le_mul (by omega) h4;omega
theorem Z5w {R R':Nat->Prop} {W:World} {u v:Value} {a b:List ByteArray} (ha:Z0a R W u a) (hb:Z0a R' W v b) (hl:a.length<=1000000):Calls Tryz.prog 22 #[u,v] W λe w'=>e = .returned (.bool (decide (a=b)))∧Below W.heap.size W w':=by
 obtain ⟨ao,ca,rfl,_,hra⟩:=ha.row;obtain ⟨bo,cb,rfl,_,hrb⟩:=hb.row;exact Zhy ao bo ca cb _ _ a b W rfl rfl hl hra hrb
section
variable {base:Nat} {w1 W W':World} {nb gn nc:Nat} {cur:Array Value} {xs:List Nat} {st:Z0g} {A B:Nat->Prop}
theorem Z0q.asked (h:Z0q base w1 nb gn nc cur xs st A W) {i x:Nat} {s:StB} (hx:xs[i]?=some x) (hs:st.ss[i]?=some s):Calls Tryz.prog 38 #[pv x] W λe w'=>(∃v,e = .returned v∧Zgv W w' v s.asked)∧Below W.heap.size W w':=by
 obtain ⟨Rs,qv,fv,cv,qs,h⟩:=h;exact Zri GB.gf h.flk.net hx hs
end
structure Cap (st:Z0g) (K:Nat):Prop where
 q:st.q.length<=K
 cs:st.cs.length<=K
 f:st.fates.length<=100
 fr:∀f∈st.fates,0<=f∧f<=100
 n0:0<=st.now
 n1:st.now<=1000000000000
theorem Cap.put {st:Z0g} {K:Nat} (h:Cap st K) (d:Bool) (k:Int) (i:Nat) (m:Z0k):Cap (st.put d k i m) (K+2):=by
 have hn:Cap (if d=false∧m.height=k∧m.to=1 - min (i:Int) 1 then st.note m else st) (K+1):=by
  split
  ·refine ⟨Nat.le_succ_of_le h.q,?_,h.f,h.fr,h.n0,h.n1⟩;show (Z5z _ _ _ _).2.length<=_;unfold Z5z;split
   ·exact Nat.le_succ_of_le h.cs
   simp only;split
   ·rw [List.length_append];have:=h.cs;simp;omega
   exact Nat.le_succ_of_le h.cs
  exact ⟨Nat.le_succ_of_le h.q,Nat.le_succ_of_le h.cs,h.f,h.fr,h.n0,h.n1⟩
 have hs:∀{t:Z0g},Cap t (K+1)->t.q.length<=K->Cap (t.send m) (K+2):=λ{t} c cq=>by
  have hf:(t.fates.drop 1 ++ t.fates.take 1).length<=100:=by have:=c.f;rw [List.length_append,List.length_drop,List.length_take];omega
  have hfr:∀f∈t.fates.drop 1 ++ t.fates.take 1,0<=f∧f<=100:=λf hf=>by
   rcases List.mem_append.1 hf with q | q
   ·exact c.fr f (List.mem_of_mem_drop q)
   exact c.fr f (List.mem_of_mem_take q)
  unfold Z0g.send;split
  ·exact ⟨by have:t.q.length<=K:=cq;show t.q.length<=_;omega,by have:=c.cs;show t.cs.length<=_;omega,hf,hfr,c.n0,c.n1⟩
  refine ⟨?_,by have:=c.cs;show t.cs.length<=_;omega,hf,hfr,c.n0,c.n1⟩;show (t.q ++ _ :: _).length<=_;rw [List.length_append,List.length_cons];split <;> simp <;> omega
 have hq:(if d=false∧m.height=k∧m.to=1 - min (i:Int) 1 then st.note m else st).q=st.q:=by split <;> rfl
 unfold Z0g.put;simp only;split
 ·exact hs hn (by rw [hq];exact h.q)
 exact ⟨Nat.le_succ_of_le hn.q,Nat.le_succ_of_le hn.cs,hn.f,hn.fr,hn.n0,hn.n1⟩
theorem Cap.puts {d:Bool} {k:Int} {i:Nat}:∀(ms:List Z0k) {st:Z0g} {K:Nat},Cap st K->Cap (ms.foldl (Z0g.put d k i) st) (K+2 * ms.length)
 | [],st,K,h=>h
 | m :: ms,st,K,h=>by
  rw [List.foldl_cons,List.length_cons];have:=Cap.puts (d:=d) (k:=k) (i:=i) ms (h.put d k i m);rw [show K+2 * (ms.length+1)=K+2+2 * ms.length by omega];exact this
theorem Cap.mono {st:Z0g} {K K':Nat} (h:Cap st K) (hk:K<=K'):Cap st K':=⟨Nat.le_trans h.q hk,Nat.le_trans h.cs hk,h.f,h.fr,h.n0,h.n1⟩
theorem Cap.set {st:Z0g} {K:Nat} (h:Cap st K) (i:Nat) (s:StB):Cap (st.set i s) K:=⟨h.q,h.cs,h.f,h.fr,h.n0,h.n1⟩
def Z8f (s:StB):Nat->StB
 | 0=>s
 | j+1=>match s.asked[j]? with
  | none=>Z8f s j
  | some l=>if l=fam 3 then Z8f s j else (Z8f s j).accept (Z0z l)
theorem Za5:∀(a b:List (List ByteArray)) (s:StB),Z2n s (a ++ b)=Z2n (Z2n s a) b
 | [],b,s=>rfl
 | l :: a,b,s=>Za5 a b _
theorem Zfa (s:StB):∀j,j<=s.asked.length->Z8f s j=Z2n s (s.asked.take j)
 | 0,_=>rfl
 | j+1,h=>by
  have hl:j<s.asked.length:=h;rw [List.take_succ_eq_append_getElem hl,Za5,<-Zfa s j (by omega)];show (match s.asked[j]? with | none=>Z8f s j | some l=>if l=fam 3 then Z8f s j else (Z8f s j).accept (Z0z l))=_;rw [List.getElem?_eq_getElem hl];rfl
theorem Zd0 (s:StB) {j:Nat} (h:j=s.asked.length):Z8f s j=Z2n s s.asked:=by
 rw [Zfa s j (by omega),h,List.take_length]
theorem Zfb {s:StB} {j:Nat} {l:List ByteArray} (h:s.asked[j]?=some l):Z8f s (j+1)=if l=fam 3 then Z8f s j else (Z8f s j).accept (Z0z l):=by
 show (match s.asked[j]? with | none=>Z8f s j | some l=>if l=fam 3 then Z8f s j else (Z8f s j).accept (Z0z l))=_;rw [h]
theorem Z7k (s:StB):∀j,(Z8f s j).height=s.height∧(Z8f s j).decs=s.decs∧(Z8f s j).ticks=s.ticks
 | 0=>⟨rfl,rfl,rfl⟩
 | j+1=>by
  obtain ⟨a,b,c⟩:=Z7k s j;rcases hl:s.asked[j]? with _ | l
  ·have e:Z8f s (j+1)=Z8f s j:=by
    show (match s.asked[j]? with | none=>Z8f s j | some l=>if l=fam 3 then Z8f s j else (Z8f s j).accept (Z0z l))=_;rw [hl]
   rw [e];exact ⟨a,b,c⟩
  rw [Zfb hl];split
  ·exact ⟨a,b,c⟩
  exact ⟨a,b,c⟩
theorem Za6 (last:Int) (i:Nat) (s:StB):(Z1s last i s).ticks<=s.ticks∨(Z1s last i s).ticks=0:=by
 have h:=(Z7k s s.asked.length).2.2;rw [Zd0 s rfl] at h;unfold Z1s Zbe;split
 ·unfold NS.begin;split
  ·exact .inl (Int.le_of_eq h)
  split
  ·exact .inl (Int.le_of_eq h)
  split
  ·exact .inr rfl
  exact .inl (Int.le_of_eq h)
 exact .inl (Int.le_of_eq h)
end
end Go.Proofs.YtifcdjmcoibblaaGreatDoor
