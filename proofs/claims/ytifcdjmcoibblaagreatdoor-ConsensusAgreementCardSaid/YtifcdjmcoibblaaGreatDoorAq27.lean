/- ConP ConU Net Hlp Lst -/
import Derived.Test.YtifcdjmcoibblaaGreatDoorAq25
import Derived.Test.YtifcdjmcoibblaaGreatDoorAq26
set_option linter.unusedVariables false
set_option linter.unusedSimpArgs false
set_option linter.unusedSectionVars false
namespace Go.Proofs.YtifcdjmcoibblaaGreatDoor
structure Z3h (q:List (Int×(Int×Int))):Prop where
 nd:(q.map (·.1)).Nodup
 rg:∀p∈q,0<=p.1∧p.1<7∧0<=p.2.1∧p.2.1<1200∧0<=p.2.2∧p.2.2<=99
theorem Z3h.nil:Z3h []:=⟨List.nodup_nil,by simp⟩
theorem Z3h.put {l:List (Int×(Int×Int))} (h:Z3h l) {k:Int} {v:Int×Int} (hk:0<=k∧k<7) (hv:0<=v.1∧v.1<1200∧0<=v.2∧v.2<=99):Z3h (Z18 k v l):=
 ⟨Z34 h.nd,λp hp=>by
  rcases Z2o hp with e | e
  ·rw [e];exact ⟨hk.1,hk.2,hv.1,hv.2.1,hv.2.2.1,hv.2.2.2⟩
  exact h.rg p e⟩
theorem Z8k {κ β:Type} [DecidableEq κ] (k:κ):∀l:List (κ×β),(Zk4 k l).Sublist l
 | []=>.slnil
 | p :: l=>by
  unfold Zk4;split
  ·exact List.sublist_cons_self p l
  exact (Z8k k l).cons_cons p
theorem Z3h.del {l:List (Int×(Int×Int))} (h:Z3h l) (k:Int):Z3h (Zk4 k l):=
 ⟨h.nd.sublist ((Z8k k l).map _),λp hp=>h.rg p ((Z8k k l).subset hp)⟩
theorem Z9j:∀(n:Nat) {l:List Int},l.Nodup->(∀x∈l,0<=x∧x<n)->l.length<=n
 | 0,l,_,h=>by
  rcases l with _ | ⟨a,l⟩
  ·simp
  ·exact absurd (h a (by simp)) (by omega)
 | n+1,l,hn,h=>by
  have h2:=Z9j n (l:=l.filter λx:Int=>decide (x≠(n:Int))) (hn.sublist List.filter_sublist) (λx hx=>by
   simp only [List.mem_filter,decide_eq_true_eq] at hx;have:=h x hx.1;have h3:=hx.2;constructor
   ·exact this.1
   have:=this.2;push_cast at this;omega)
  have h3:l.length<=(l.filter λx:Int=>decide (x≠(n:Int))).length+1:=by
   clear h2 h;induction l with
   | nil=>simp
   | cons a l ih=>
    rw [List.nodup_cons] at hn;by_cases ha:a=n
    ·have e:(l.filter λx:Int=>decide (x≠(n:Int)))=l:=by
      rw [List.filter_eq_self];intro b hb;have:b≠a:=λq=>hn.1 (q ▸ hb);simp only [decide_eq_true_eq];rw [<-ha];exact this
     subst ha;rw [List.filter_cons];simp only [ne_eq,not_true_eq_false,decide_false,Bool.false_eq_true,if_false,List.length_cons];simp only [ne_eq] at e;rw [e];exact Nat.le_refl _
    have:=ih hn.2;rw [List.filter_cons];simp only [ne_eq,ha,not_false_eq_true,decide_true,if_true,List.length_cons];simp only [ne_eq] at this;omega
  omega
theorem Z3h.len {l:List (Int×(Int×Int))} (h:Z3h l):l.length<=7:=by
 have:=Z9j 7 h.nd (λx hx=>by
  obtain ⟨p,hp,rfl⟩:=List.mem_map.1 hx;have:=h.rg p hp;exact ⟨this.1,this.2.1⟩)
 simpa using this
theorem Z3h.get {l:List (Int×(Int×Int))} (h:Z3h l) {k:Int} {v:Int×Int} (e:Z02 k l=some v):0<=k∧k<7∧0<=v.1∧v.1<1200∧0<=v.2∧v.2<=99:=h.rg (k,v) (Z0r e)
section
variable {D L:Type} [Dg D] [Inhabited L]
theorem Zoc {s:NS D L} (h:Z3h s.ques) {m:Msg D L} (hf:0<=m.frm∧m.frm<7) (hh:0<=m.height∧m.height<1200) (hr:0<=m.round∧m.round<=99):Z3h (s.ask m).ques:=by
 have hp:Z3h (Z18 m.frm (m.height,m.round) s.ques):=h.put hf ⟨hh.1,hh.2,hr.1,hr.2⟩;unfold NS.ask;split
 ·show Z3h (match Z02 m.frm s.ques with | some q=>if q.1=m.height then Zk4 m.frm s.ques else s.ques | none=>s.ques);split
  ·split
   ·exact h.del _
   exact h
  exact h
 split
 ·exact h
 split
 ·split
  ·exact hp
  exact h
 exact hp
end
section
variable {D L:Type} [Dg D] [Inhabited L]
structure QI (s:NS D L):Prop where
 q:Z3h s.ques
 o:∀p∈s.ques,p.1<s.n∧p.1≠s.id∧s.isDec p.2.1=true
theorem QI.of {s s':NS D L} (h:QI s) (hq:s'.ques=s.ques) (hn:s'.n=s.n) (hi:s'.id=s.id) (hd:∀k,s.isDec k=true->s'.isDec k=true):QI s':=
 ⟨by rw [hq];exact h.q,λp hp=>by
  have:=h.o p (hq ▸ hp);exact ⟨by rw [hn];exact this.1,by rw [hi];exact this.2.1,hd _ this.2.2⟩⟩
theorem QI.none {s:NS D L} (h:s.ques = []):QI s:=⟨by rw [h];exact Z3h.nil,λp hp=>by rw [h] at hp;cases hp⟩
theorem Zs7 {s:NS D L} (h:QI s) {m:Msg D L} (hf:0<=m.frm∧m.frm<7) (hfn:m.frm<s.n∧m.frm≠s.id) (hh:0<=m.height∧m.height<1200) (hr:0<=m.round∧m.round<=99) (hd:s.isDec m.height=true):QI (s.ask m):=by
 have hq:=Zoc h.q (m:=m) hf hh hr;obtain ⟨a,b,e⟩:=Z5b s m;refine ⟨hq,λp hp=>?_⟩;have hm:p=(m.frm,(m.height,m.round))∨p∈s.ques:=by
  have hput:p∈Z18 m.frm (m.height,m.round) s.ques->p=(m.frm,(m.height,m.round))∨p∈s.ques:=Z2o;unfold NS.ask at hp;split at hp
  ·have hp:p∈(match Z02 m.frm s.ques with | some q=>if q.1=m.height then Zk4 m.frm s.ques else s.ques | none=>s.ques):=hp;split at hp
   ·split at hp
    ·exact .inr ((Z8k _ _).subset hp)
    exact .inr hp
   exact .inr hp
  split at hp
  ·exact .inr hp
  split at hp
  ·split at hp
   ·exact hput hp
   exact .inr hp
  exact hput hp
 rw [e];rcases hm with rfl | hm
 ·exact ⟨hfn.1,hfn.2,hd⟩
 exact h.o p hm
structure InM (m:Msg D L):Prop where
 f0:0<=m.frm
 ft:m.frm≠m.to
 h0:0<=m.height
 h1:m.height<1200
 r0:0<=m.round
 r1:m.round<=99
theorem Zj8 {s:NS D L} (h:QI s) {m:Msg D L} {ok:Bool} (hn:s.n<=7) (hm:ok=true->m.kind=3∨m.kind=4∨m.kind=6∨m.kind=5->InM m):QI (s.receive m ok):=by
 unfold NS.receive;split
 ·exact h
 rename_i q
 simp only [not_or,Bool.not_eq_false,Decidable.not_not,Int.not_le,Int.not_lt] at q;obtain ⟨q1,q2,q3,q4⟩:=q;split
 ·exact h
 rename_i hk
 simp only [Decidable.not_not] at hk;have hm:=hm q1 hk;split
 ·rename_i hd
  exact Zs7 h ⟨hm.f0,by omega⟩ ⟨q3,by rw [<-q2];exact hm.ft⟩ ⟨hm.h0,hm.h1⟩ ⟨hm.r0,hm.r1⟩ hd
 split
 ·exact h
 split
 ·obtain ⟨hb,_⟩:=Z1g s m;exact h.of hb.ques hb.n hb.id (λk hk=>by unfold NS.isDec at hk ⊢;rw [hb.decs];exact hk)
 split
 ·exact h.of rfl rfl rfl (λ_ hk=>hk)
 split
 ·exact h
 exact h.of rfl rfl rfl (λ_ hk=>hk)
theorem Zqn {sz:D->Prop} {s:NS D L} (hi:Z0x sz s):QI s.tick.1:=QI.none (Z38 hi).ques
theorem Zs8 (id n:Int):QI (Z42 id n:NS D L):=QI.none rfl
theorem Zod {s:NS D L} (h:QI s) (k:Int) (ok:Bool) (d:D) (l:L):QI (s.begin k ok d l).1:=by
 unfold NS.begin;split
 ·exact h
 split
 ·exact h.of rfl rfl rfl (λ_ hk=>hk)
 split
 ·exact h.of rfl rfl rfl (λ_ hk=>hk)
 exact h
theorem Zlo {s:NS D L} (h:QI s) (d:D):QI (s.accept d):=h.of rfl rfl rfl (λ_ hk=>hk)
theorem Zb9 {s:NS D L} {k j:Int} {v:Val D L} (h:s.isDec j=true):(Z02 j (Z18 k v s.decs)).isSome=true:=by
 rw [Z29];split
 ·rfl
 exact h
theorem Zoe {s:NS D L} (h:QI s) (k:Int) (ok:Bool) (d:D) (l:L):QI (s.learn k ok d l).1:=by
 unfold NS.learn;split
 ·exact h
 split
 ·split
  ·exact h
  exact h.of rfl rfl rfl (λ_ hk=>Zb9 hk)
 exact h.of rfl rfl rfl (λ_ hk=>Zb9 hk)
structure Zro (sz:D->Prop) (G:D->L->Prop) (me n:Int) (m:Msg D L):Prop where
 frm:m.frm=me
 t0:0<=m.to
 t1:m.to<n
 tm:m.to≠me
 h0:0<=m.height
 h1:m.height<1200
 r0:0<=m.round
 r1:m.round<=99
 kind:m.kind=3∨m.kind=4∨m.kind=6∨m.kind=5
 prop:m.kind=3->G m.dig m.list∧-1<=m.valid∧m.valid<m.round
 vote:m.kind≠3->m.valid=0∧m.list=default∧sz m.dig
theorem Z9k {x:Int}:∀{l:List Int},x∈Z2h l->x∈l
 | [],h=>by cases h
 | a :: l,h=>by
  have hins:∀(y:Int) (m:List Int),x∈Zk1 y m->x=y∨x∈m:=by
   intro y m;induction m with
   | nil=>intro h;simp [Zk1] at h;exact .inl h
   | cons b m ih=>
    intro h;unfold Zk1 at h;split at h
    ·rcases List.mem_cons.1 h with e | e
     ·exact .inl e
     exact .inr e
    rcases List.mem_cons.1 h with e | e
    ·exact .inr (by rw [e];simp)
    rcases ih e with e | e
    ·exact .inl e
    exact .inr (List.mem_cons_of_mem _ e)
  rcases hins a (Z2h l) h with e | e
  ·rw [e];simp
  exact List.mem_cons_of_mem _ (Z9k e)
theorem Zck (s:NS D L) (h:Int) {r:Int} (h0:0<=r) (h1:r<=99):0<=s.claimRound h r∧s.claimRound h r<=99:=by
 unfold NS.claimRound;split
 ·exact ⟨h0,h1⟩
 split <;> omega
theorem Zs9 {sz:D->Prop} {G:D->L->Prop} {s:NS D L} (hg:GI sz G s) {k:Int} (h:s.isDec k=true):G (s.decDig k) (s.decList k):=by
 unfold NS.isDec at h;unfold NS.decDig NS.decList;rcases e:Z02 k s.decs with _ | v
 ·rw [e] at h;cases h
 exact hg.dg _ (Z0r e)
theorem Z9l {sz:D->Prop} {G:D->L->Prop} (hGz:∀d l,G d l->sz d) {s:NS D L} (hi:Z0x sz s) (hg:GI sz G s) (hq:QI s):∀m∈s.answers,Zro sz G s.id s.n m:=by
 intro m hm;unfold NS.answers at hm;obtain ⟨site,hs,hm⟩:=List.mem_flatMap.1 hm;split at hm
 ·rename_i q e
  obtain ⟨a1,a2,a3,a4,a5,a6⟩:=hq.q.get e;obtain ⟨b1,b2,b3⟩:=hq.o _ (Z0r e);have hG:=Zs9 hg b3;have hz:=hGz _ _ hG;unfold NS.answer at hm;simp only [List.cons_append,List.nil_append,List.mem_cons,List.mem_append,List.mem_map,List.mem_range,List.not_mem_nil,or_false] at hm;have hc:=Zck s q.1 a5 a6;rcases hm with rfl | rfl | ⟨i,hi,rfl⟩ | rfl
  ·exact ⟨rfl,a1,b1,b2,a3,a4,hc.1,hc.2,.inl rfl,λ_=>⟨hG,Int.le_refl _,by show -1<s.claimRound q.1 q.2;omega⟩,λh=>absurd rfl h⟩
  ·exact ⟨rfl,a1,b1,b2,a3,a4,a5,a6,.inr (.inl rfl),λh=>absurd h (by show ¬((4:Int)=3);decide),λ_=>⟨rfl,rfl,hz⟩⟩
  ·exact ⟨rfl,a1,b1,b2,a3,a4,by show (0:Int)<=i;omega,by show (i:Int)<=99;omega,.inr (.inr (.inl rfl)),λh=>absurd h (by show ¬((6:Int)=3);decide),λ_=>⟨rfl,rfl,hz⟩⟩
  exact ⟨rfl,a1,b1,b2,a3,a4,a5,a6,.inr (.inr (.inr rfl)),λh=>absurd h (by show ¬((5:Int)=3);decide),λ_=>⟨rfl,rfl,hz⟩⟩
 cases hm
theorem Zeh {s:NS D L} {ms:List (Msg D L)} {m:Msg D L} (h:m∈s.sends ms):∃a∈ms,∃t:Nat,(t:Int)<s.n∧(t:Int)≠s.id∧m=⟨a.kind,a.frm,(t:Int),a.height,a.round,a.valid,a.dig,a.list⟩:=by
 unfold NS.sends at h;obtain ⟨a,ha,h⟩:=List.mem_flatMap.1 h;obtain ⟨t,ht,h⟩:=List.mem_filterMap.1 h;split at h
 ·rename_i hne
  rw [List.mem_range] at ht;exact ⟨a,ha,t,by omega,hne,by simpa using h.symm⟩
 cases h
theorem Zlp {sz:D->Prop} {G:D->L->Prop} {s:NS D L} (hi:Z0x sz s) (hg:GI sz G s) {ms:List (Msg D L)} (hms:∀m∈ms,m∈s.mine):∀m∈s.sends ms,Zro sz G s.id s.n m:=by
 intro m hm;obtain ⟨a,ha,t,h1,h2,rfl⟩:=Zeh hm;have hmine:=hms a ha;obtain ⟨r1,r2,r3,r4⟩:=hi.min.rng a hmine;have ho:=hg.mg a hmine;exact ⟨ho.frm,by show (0:Int)<=t;omega,h1,h2,by show 0<=a.height;rw [ho.height];exact hi.num.h0,by show a.height<1200;rw [ho.height];exact hi.num.h1,r3,r4,by show a.kind=3∨a.kind=4∨a.kind=6∨a.kind=5;omega,λh=>⟨(ho.prop h).1,(ho.prop h).2.1,(ho.prop h).2.2.1⟩,ho.vote⟩
theorem Zba {s:NS D L} (h:s.isDec s.height=false):∃t,s.tick.2=s.answers ++ s.tick.1.sends (s.tick.1.mine.drop t):=by
 unfold NS.tick;simp only;rw [if_neg (by show ¬s.isDec s.height=true;rw [h];simp)];exact ⟨_,rfl⟩
theorem Zof {sz:D->Prop} {G:D->L->Prop} (hGz:∀d l,G d l->sz d) {s:NS D L} (hi:Z0x sz s) (hg:GI sz G s) (hq:QI s):∀m∈s.tick.2,Zro sz G s.id s.n m:=by
 intro m hm;rcases hd:s.isDec s.height with _ | _
 ·obtain ⟨t,e⟩:=Zba hd;rw [e] at hm;rcases List.mem_append.1 hm with hm | hm
  ·exact Z9l hGz hi hg hq m hm
  have hk:=Z38 hi;have:=Zlp (Zh9 hi) (Zkf hi hg) (λa ha=>List.mem_of_mem_drop ha) m hm;rw [hk.id,hk.n] at this;exact this
 have e:s.tick.2=s.answers:=by
  unfold NS.tick;simp only;rw [if_pos (show ({s with ques:=[]}:NS D L).isDec _=true from hd)]
 rw [e] at hm;exact Z9l hGz hi hg hq m hm
end
set_option maxRecDepth 100000
set_option maxHeartbeats 80000000
section
open Go.RowKit
structure Fit (G:ByteArray->List ByteArray->Prop) (s:StB):Prop where
 ok:Ok G s
 qi:QI s
def Ztv (R:Nat->Prop) (w:World) (x:Nat) (s':StB) (w':World) (R':Nat->Prop):Prop:=(∃p,Z00 R' w' x p s')∧Chg R w w'∧Z2b R R' w
theorem Z06.step {R:Nat->Prop} {w w':World} {x:Nat} {s':StB} (h:Z06 R w x s' w'):∃R',Ztv R w x s' w' R':=by
 obtain ⟨p,R',a,b,c⟩:=h;exact ⟨R',⟨p,a⟩,b,c⟩
structure Net (G:ByteArray->List ByteArray->Prop) (base:Nat) (w:World) (xs:List Nat) (ss:List StB) (Rs:Nat->Nat->Prop):Prop where
 len:xs.length=ss.length
 node:∀i x s,xs[i]?=some x->ss[i]?=some s->∃p,Z00 (Rs i) w x p s
 fit:∀s∈ss,Fit G s
 dis:∀i j k,i<xs.length->j<xs.length->i≠j->Rs i k->¬Rs j k
 lo:∀i k,i<xs.length->Rs i k->base<=k
def Z7b (n:Nat) (Rs:Nat->Nat->Prop) (k:Nat):Prop:=∃i,i<n∧Rs i k
section
variable {G:ByteArray->List ByteArray->Prop} {base:Nat} {w w':World} {xs:List Nat} {ss:List StB} {Rs:Nat->Nat->Prop}
theorem Net.lt (h:Net G base w xs ss Rs) {k:Nat} (hk:Z7b xs.length Rs k):k<w.heap.size:=by
 obtain ⟨i,hi,hr⟩:=hk;obtain ⟨p,hp⟩:=h.node i xs[i] (ss[i]'(by rw [<-h.len];exact hi)) (List.getElem?_eq_getElem hi) (List.getElem?_eq_getElem _);exact hp.lt k hr
theorem Net.low (h:Net G base w xs ss Rs) {k:Nat} (hk:Z7b xs.length Rs k):base<=k:=by
 obtain ⟨i,hi,hr⟩:=hk;exact h.lo i k hi hr
theorem Net.nil (G:ByteArray->List ByteArray->Prop) (base:Nat) (w:World) (Rs:Nat->Nat->Prop):Net G base w [] [] Rs:=
 ⟨rfl,λi x s hx _=>by simp at hx,λs hs=>(List.not_mem_nil hs).elim,λi j k hi _ _ _=>absurd hi (Nat.not_lt_zero i),λi k hi _=>absurd hi (Nat.not_lt_zero i)⟩
theorem Net.later (h:Net G base w xs ss Rs) (hb:Below w.heap.size w w'):Net G base w' xs ss Rs:=
 ⟨h.len,λi x s hx hs=>by
  obtain ⟨p,hp⟩:=h.node i x s hx hs;exact ⟨p,hp.below hb⟩,h.fit,h.dis,h.lo⟩
theorem Net.push (h:Net G base w xs ss Rs) (hb:Below w.heap.size w w') {x:Nat} {s:StB} {R:Nat->Prop} {p:Ptr} (hp:Z00 R w' x p s) (hR:∀k,R k->w.heap.size<=k) (hf:Fit G s) (hbs:base<=w.heap.size) :
  Net G base w' (xs ++ [x]) (ss ++ [s]) (λj=>if j<xs.length then Rs j else R):=by
 have h2:=h.later hb;have hl:=h.len;refine ⟨by simp [hl],λi y t hy ht=>?_,λt ht=>?_,λi j k hi hj hne hr=>?_,λi k hi hr=>?_⟩
 ·by_cases q:i<xs.length
  ·rw [if_pos q];rw [List.getElem?_append_left q] at hy;rw [List.getElem?_append_left (by omega)] at ht;exact h2.node i y t hy ht
  rw [if_neg q];have hi:=(List.getElem?_eq_some_iff.1 hy).1;rw [List.length_append,List.length_singleton] at hi;obtain rfl:i=xs.length:=by omega
  rw [List.getElem?_append_right (Nat.le_refl _)] at hy;rw [hl,List.getElem?_append_right (Nat.le_refl _)] at ht;simp at hy ht;subst hy ht;exact ⟨p,hp⟩
 ·rw [List.mem_append,List.mem_singleton] at ht;rcases ht with ht | rfl
  ·exact h.fit t ht
  exact hf
 ·rw [List.length_append,List.length_singleton] at hi hj;by_cases q:i<xs.length
  ·rw [if_pos q] at hr;by_cases q2:j<xs.length
   ·rw [if_pos q2];exact h.dis i j k q q2 hne hr
   rw [if_neg q2];intro hk;have:=h.lt ⟨i,q,hr⟩;have:=hR k hk;omega
  rw [if_neg q] at hr;have q2:j<xs.length:=by omega
  rw [if_pos q2];intro hk;have:=h.lt ⟨j,q2,hk⟩;have:=hR k hr;omega
 rw [List.length_append,List.length_singleton] at hi;by_cases q:i<xs.length
 ·rw [if_pos q] at hr;exact h.lo i k q hr
 rw [if_neg q] at hr;have:=hR k hr;omega
theorem Net.step (h:Net G base w xs ss Rs) (hbs:base<=w.heap.size) {i x:Nat} (hx:xs[i]?=some x) {s':StB} {R':Nat->Prop} (hs:Ztv (Rs i) w x s' w' R') (hf:Fit G s') :
  Net G base w' xs (ss.set i s') (λj=>if j=i then R' else Rs j):=by
 obtain ⟨⟨p',hp⟩,hc,hg⟩:=hs;have hi:=(List.getElem?_eq_some_iff.1 hx).1;have hl:=h.len;refine ⟨by simp [hl],λj y t hy ht=>?_,λt ht=>?_,λa b k ha hb hne hr=>?_,λa k ha hr=>?_⟩
 ·by_cases q:j=i
  ·subst q;rw [if_pos rfl];rw [hx] at hy;obtain rfl:x=y:=by injection hy
   rw [List.getElem?_set_self (by omega)] at ht;obtain rfl:s'=t:=by injection ht
   exact ⟨p',hp⟩
  rw [if_neg q];rw [List.getElem?_set_ne (λe=>q e.symm)] at ht;obtain ⟨p,hq⟩:=h.node j y t hy ht;have hj:=(List.getElem?_eq_some_iff.1 hy).1;exact ⟨p,hq.later (λk hk=>hc.block k (hq.lt k hk) (h.dis j i k hj hi q hk)) hc.size⟩
 ·rcases List.mem_or_eq_of_mem_set ht with q | rfl
  ·exact h.fit t q
  exact hf
 ·by_cases qa:a=i
  ·subst qa;rw [if_pos rfl] at hr;rw [if_neg (λe=>hne e.symm)];intro hk;rcases hg.2 k hr with q | q
   ·exact h.dis _ b k ha hb hne q hk
   have:=h.lt ⟨b,hb,hk⟩;omega
  rw [if_neg qa] at hr;by_cases qb:b=i
  ·subst qb;rw [if_pos rfl];intro hk;rcases hg.2 k hk with q | q
   ·exact h.dis a _ k ha hb hne hr q
   have:=h.lt ⟨a,ha,hr⟩;omega
  rw [if_neg qb];exact h.dis a b k ha hb hne hr
 by_cases qa:a=i
 ·subst qa;rw [if_pos rfl] at hr;rcases hg.2 k hr with q | q
  ·exact h.lo _ k ha q
  omega
 rw [if_neg qa] at hr;exact h.lo a k ha hr
theorem Z7b.step {n i:Nat} {R':Nat->Prop} (hi:i<n) (hg:Z2b (Rs i) R' w) {k:Nat} (hk:Z7b n (λj=>if j=i then R' else Rs j) k):Z7b n Rs k∨w.heap.size<=k:=by
 obtain ⟨j,hj,hr⟩:=hk;by_cases q:j=i
 ·subst q;rw [if_pos rfl] at hr;rcases hg.2 k hr with q | q
  ·exact .inl ⟨_,hi,q⟩
  exact .inr q
 rw [if_neg q] at hr;exact .inl ⟨j,hj,hr⟩
theorem Z7b.chg {n i:Nat} (hi:i<n) (hc:Chg (Rs i) w w'):Chg (Z7b n Rs) w w':=hc.mono (λk _ hk=>⟨i,hi,hk⟩)
end
end
section
open Go.RowKit
def Zai (c n:Int):Int:=(if c<0 then -(c+1) else c) % n
theorem Zhw (c n:Int) (hn:0<n):0<=Zai c n:=Int.emod_nonneg _ (by omega)
theorem Zog (c n:Int) (hn:0<n):Zai c n<n:=Int.emod_lt_of_pos _ hn
theorem Z10 (c:Int) (n:Nat) (hn:0<n):∃k:Nat,k<n∧Zai c n=k:=⟨(Zai c n).toNat,by have:=Zhw c n (by omega);have:=Zog c n (by omega);omega,by have:=Zhw c n (by omega);omega⟩
theorem Z2e (c n:Int) (w:World) (h1:-9223372036854775808<=c) (h2:c<=9223372036854775807) (h3:1<=n) (h4:n<=9223372036854775807) :
  Calls Tryz.prog 14 #[.int .i64 c,.int .i64 n] w λe w'=>e = .returned (.int .i64 (Zai c n))∧w=w':=by
 by_cases h:c<0
 ·have hp:Zai c n = -((c+1).tmod n):=by
   unfold Zai;rw [if_pos h,<-Int.neg_tmod,Int.tmod_eq_emod_of_nonneg (by omega)]
  have HP:=Hd hp;clear hp;have hn0:(n == 0)=false:=beq_eq_false_iff_ne.2 (by omega);go_enter Tryz.func14,Tryz.ntmps14
  go_wp2
  go_ret;exact ⟨by rw [HP.out];rfl,rfl⟩
 have hp:Zai c n=c % n:=by unfold Zai;rw [if_neg h]
 have HP:=Hd hp;clear hp;have hn0:(n == 0)=false:=beq_eq_false_iff_ne.2 (by omega);go_enter Tryz.func14,Tryz.ntmps14
 go_wp2
 go_ret;exact ⟨by rw [HP.out];rfl,rfl⟩
def idL (c:Nat):List Nat:=c :: List.replicate 31 0
def idB (c:Nat):ByteArray:=Z64 (idL c)
theorem Zlq {W:World} {b o:Nat} {cs:Array Value} {t:TypeId} {fr:Nat×Nat} (h:W.heap[b]?=some (.cells cs t fr)) (v:Value):(W.setCell ⟨b,o,none⟩ v).heap[b]?=some (.cells (cs.setIfInBounds o v) t fr):=by
 obtain ⟨hlt,hg⟩:=gE h;simp [World.setCell,hlt,Array.getElem_modify,hg]
theorem Zqo:madeCells (Value.int .u8 0).cells (32 * 1)=Zb3 32 []:=by
 apply Array.ext
 ·rw [size_madeCells];simp [Zb3]
 intro i h1 h2;have h3:i<32:=by rw [size_madeCells] at h1;omega
 have e1:(Zb3 32 [])[i]?=some (.int .u8 0):=Z75 (by simp) h3;rw [Array.getElem?_eq_getElem h2] at e1;injection e1 with e1
 rw [e1];simp [madeCells,Value.cells,Nat.mod_one]
theorem Zj9 (w:World):(Instr.makeSlice 135 (.int .i64 32) (.int .i64 32)).run Tryz.prog w = .ok (.slice (some ⟨w.heap.size,0,none⟩) 32 32) (w.alloc (.cells (Zb3 32 []) 5)):=by
 obtain ⟨i0,hi,hz0,hz1,hz2⟩:=info_parts Tryz.infoB;have h:=run_makeSlice (P:=Tryz.prog) w 135 5 i0 (.int .u8 0) Tryz.underlying135 hi hz0 .i64 .i64 32 32 (by omega) (by omega) (by rw [hz1];decide) (by rw [hz2];decide) (by omega);rw [h,hz1,show Int.toNat 32=32 from rfl,Zqo]
theorem Zsa {W:World} {g c:Nat} {t:TypeId} {fr:Nat×Nat} (h:W.heap[g]?=some (.cells (Zb3 32 [c]) t fr)):Z1l 1 Z6b W (some ⟨g,0,none⟩) (idL c):=λi x hx=>by
 refine ⟨g,0,rfl,(gE h).1,λj u hu=>?_⟩;have hj:j=0:=by
  have:=(List.getElem?_eq_some_iff.1 hu).1;simp [Z6b] at this;exact this
 subst hj;simp [Z6b] at hu;subst hu;rw [cell_of_row W g _ _ _ _ h];rcases i with _ | i
 ·simp [idL] at hx;subst hx;exact Zhq (by rfl)
 have hi:i+1<32:=by
  have:=(List.getElem?_eq_some_iff.1 hx).1;simpa [idL] using this
 have hx:(List.replicate 31 0)[i]?=some x:=hx;rw [List.getElem?_replicate] at hx;rw [if_pos (by omega)] at hx;injection hx with hx
 subst hx;simp only [Nat.mul_one,Nat.add_zero,Nat.zero_add];exact Z75 (by simp) hi
theorem Zhx (c:Nat) (w:World):Calls Tryz.prog 37 #[.int .u8 (c:Int)] w λe w'=>e = .returned (.string (idB c))∧Below w.heap.size w w':=by
 have MK:=Zj9 w;obtain ⟨g,hg⟩:∃g,g=w.heap.size:=⟨_,rfl⟩;have h0:=World.alloc_heap_new w (.cells (Zb3 32 []) 5);have HB:=Hd ((Below.refl _ w).alloc (Nat.le_refl _) (.cells (Zb3 32 []) 5));obtain ⟨w1,hw1⟩:∃w1,w1=w.alloc (.cells (Zb3 32 []) 5):=⟨_,rfl⟩;rw [<-hw1] at MK h0 HB;rw [<-hg] at MK h0;have c0:=cell_of_row w1 g 0 _ _ _ h0;rw [Z75 (by simp) (by omega)] at c0;have fz:=λo=>frozen_of_row w1 g o _ _ h0;have h1:(w1.setCell ⟨g,0,none⟩ (.int .u8 (c:Int))).heap[g]?=some (.cells (Zb3 32 [c]) 5 (0,0)):=by
  rw [Zlq h0 _];exact congrArg _ (congrArg (λx=>Obj.cells x _ _) (Zhr (n:=32) (l:=[]) (by simp) c))
 have cv:=Z76 (w:=w1.setCell ⟨g,0,none⟩ (.int .u8 (c:Int))) 32 32 (l:=idL c) (by simp [idL]) (by omega) (Zsa h1);have HB2:=Hd (show Below w.heap.size w (w1.setCell ⟨g,0,none⟩ (.int .u8 (c:Int))) from HB.out.setCell (by rw [hg];exact Nat.le_refl _) _);clear h0 h1 hg hw1;go_enter Tryz.func37,Tryz.ntmps37
 go_wp2
 go_ret;exact ⟨rfl,HB2.out⟩
def Zei (a b:List ByteArray):Bool:=decide (a=b)
theorem Zoh (w:World) (n:Nat):Below w.heap.size w (w.drewN n):=⟨rfl,rfl,rfl,Nat.le_refl _,λ_ _=>rfl⟩
theorem Zhy (ao bo:Option Addr) (ca cb na nb:Nat) (a b:List ByteArray) (W:World) (hna:a.length=na) (hnb:b.length=nb) (hn:na<=1000000) (ha:Z1l 1 Zhe W ao a) (hb:Z1l 1 Zhe W bo b) :
  Calls Tryz.prog 22 #[.slice ao na ca,.slice bo nb cb] W λe w'=>e = .returned (.bool (Zei a b))∧Below W.heap.size W w':=by
 have HA:=Hd ha;have HB:=Hd hb;have HNA:=Hd hna;have HNB:=Hd hnb;by_cases hl:na=nb
 ·subst hl;have q0:((na:Int) != (na:Int))=false:=by simp
  clear ha hb hna hnb;go_enter Tryz.func22,Tryz.ntmps22
  go_wp2
  go_loopw [5] (λi wr=>∃k:Nat,k<=na∧i = .int .i64 k∧a.take k=b.take k∧Below W.heap.size W wr) (λi _=>na - (intOf i).toNat)
  case atStart=>exact ⟨0,Nat.zero_le _,rfl,by simp,Below.refl _ _⟩
  case round=>
   obtain ⟨k,hk,rfl,htk,hbl⟩:=hrel;have TK:=Hd htk;have BL:=Hd hbl;clear htk hbl;by_cases hlt:k<na
   ·have hka:k<a.length:=by rw [HNA.out];exact hlt
    have hkb:k<b.length:=by rw [HNB.out];exact hlt
    obtain ⟨b1,o1,rfl,_,e1⟩:=(HA.out.later BL.out).str hka;obtain ⟨b2,o2,rfl,_,e2⟩:=(HB.out.later BL.out).str hkb;have HT:=Hd (show a[k]=b[k]->a.take (k+1)=b.take (k+1) from λq=>by rw [List.take_succ_eq_append_getElem hka,List.take_succ_eq_append_getElem hkb,TK.out,q]);have HF:=Hd (show a[k]≠b[k]->Zei a b=false from λq=>by unfold Zei;exact decide_eq_false (λe=>q (by subst e;rfl)));obtain ⟨x,hx⟩:∃x,a[k]=x:=⟨_,rfl⟩;obtain ⟨y,hy⟩:∃y,b[k]=y:=⟨_,rfl⟩;rw [hx] at e1 HT HF;rw [hy] at e2 HT HF;have k0:(0:Int)<=(k:Int):=by omega
    have k1:(k:Int)<(na:Int):=by omega
    have NX:=Hd (λ(n':Nat)=>BL.out.trans ((Zoh wr n').mono BL.out.size));clear hx hy hka hkb;by_cases hxy:x=y
    ·have q1:(x.toList == y.toList)=true:=by rw [hxy];simp
     have T2:=Hd (HT.out hxy);clear hxy;go_wp2
     go_quiet (fail)
     go_wp2
     go_roundw
     case rel=>exact ⟨k+1,by omega,by go_num,T2.out,NX.out _⟩
     case measure=>simp [intOf];omega
    have q1:(x.toList == y.toList)=false:=(Lib.bytes_beq_false_iff _ _).2 hxy;have F2:=Hd (HF.out hxy);clear hxy;go_wp2
    go_quiet (fail)
    go_wp2
    go_ret;rw [F2.out];exact ⟨rfl,NX.out _⟩
   have hs:Zei a b=true:=by
    have h:=TK.out;rw [List.take_of_length_le (by rw [HNA.out];omega),List.take_of_length_le (by rw [HNB.out];omega)] at h;unfold Zei;exact decide_eq_true h
   have HS:=Hd hs;clear hs;go_wp2
   go_ret;rw [HS.out];exact ⟨rfl,BL.out⟩
 have q0:((na:Int) != (nb:Int))=true:=by simp;omega
 have HS:=Hd (show Zei a b=false by unfold Zei;exact decide_eq_false (λe=>hl (by rw [<-hna,<-hnb,e])));clear ha hb hna hnb;go_enter Tryz.func22,Tryz.ntmps22
 go_wp2
 go_ret;rw [HS.out];exact ⟨rfl,Below.refl _ _⟩
end
section
open Go.RowKit
def Zqp (j:Nat):List ByteArray:=if j=0 then [idB 1] else if j=1 then [idB 1,idB 2] else if j=2 then [idB 3] else [idB 9]
structure Zqq (w W:World) (g:Nat):Prop where
 new:w.heap.size<=g∧g<W.heap.size
 cell:∀j,j<4->∃v,W.cell? ⟨g,j,none⟩=some v∧Z0a (New w W) W v (Zqp j)
theorem Z8l {w W:World} {g:Nat} {l:List ByteArray} (h:W.heap[g]?=some (.cells (l.map Value.string).toArray 9 (0,0))) (hg:w.heap.size<=g):Z0a (New w W) W (.slice (some ⟨g,0,none⟩) l.length l.length) l:=
 ⟨_,_,rfl,⟨(λe=>by cases e),Nat.le_refl _⟩,.inr ⟨g,0,_,_,rfl,⟨hg,(gE h).1⟩,h,λi p hp=>by
  rw [List.getElem?_toArray,List.getElem?_map,Nat.zero_add,hp];rfl⟩⟩
theorem Z2v {w W:World} {g:Nat} {o:Obj} (h:w.heap[g]?=some o) (hb:Below w.heap.size w W):W.heap[g]?=some o:=(hb.block g (gE h).1).trans h
theorem Z2f (w:World):Calls Tryz.prog 17 #[] w λe w'=>∃g,e = .returned (.slice (some ⟨g,0,none⟩) 4 4)∧Below w.heap.size w w'∧Zqq w w' g:=by
 have I1:=Hd (show ∀W,Calls Tryz.prog 37 #[.int .u8 1] W λe w'=>e = .returned (.string (idB 1))∧Below W.heap.size W w' from λW=>Zhx 1 W);have I2:=Hd (show ∀W,Calls Tryz.prog 37 #[.int .u8 2] W λe w'=>e = .returned (.string (idB 2))∧Below W.heap.size W w' from λW=>Zhx 2 W);have I3:=Hd (show ∀W,Calls Tryz.prog 37 #[.int .u8 3] W λe w'=>e = .returned (.string (idB 3))∧Below W.heap.size W w' from λW=>Zhx 3 W);have I9:=Hd (show ∀W,Calls Tryz.prog 37 #[.int .u8 9] W λe w'=>e = .returned (.string (idB 9))∧Below W.heap.size W w' from λW=>Zhx 9 W);obtain ⟨d1,h1⟩:∃d,d=idB 1:=⟨_,rfl⟩;obtain ⟨d2,h2⟩:∃d,d=idB 2:=⟨_,rfl⟩;obtain ⟨d3,h3⟩:∃d,d=idB 3:=⟨_,rfl⟩;obtain ⟨d9,h9⟩:∃d,d=idB 9:=⟨_,rfl⟩;rw [<-h1] at I1;rw [<-h2] at I2;rw [<-h3] at I3;rw [<-h9] at I9;have HD:=Hd (show Zqp 0 = [d1]∧Zqp 1 = [d1,d2]∧Zqp 2 = [d3]∧Zqp 3 = [d9] from by rw [h1,h2,h3,h9];exact ⟨rfl,rfl,rfl,rfl⟩);clear h1 h2 h3 h9;go_enter Tryz.func17,Tryz.ntmps17
 go_wp2_with (first
  | (go_at_call 37;with_reducible refine (I1.out _).mono ?_;rintro e wA ⟨rfl,BA⟩)
  | (go_at_call 37;with_reducible refine (I2.out _).mono ?_;rintro e wB ⟨rfl,BB⟩)
  | (go_at_call 37;with_reducible refine (I3.out _).mono ?_;rintro e wC ⟨rfl,BC⟩)
  | (go_at_call 37;with_reducible refine (I9.out _).mono ?_;rintro e wD ⟨rfl,BD⟩))
 rename_i w1 B1
 have A1:=(Below.refl w1.heap.size w1).alloc (Nat.le_refl _) (.cells #[.string d1] 9);have A2:=(Below.refl wB.heap.size wB).alloc (Nat.le_refl _) (.cells #[.string d1,.string d2] 9);have A3:=(Below.refl wC.heap.size wC).alloc (Nat.le_refl _) (.cells #[.string d3] 9);have A4:=(Below.refl wD.heap.size wD).alloc (Nat.le_refl _) (.cells #[.string d9] 9);have e1:=World.alloc_heap_new w1 (.cells #[.string d1] 9);have e2:=World.alloc_heap_new wB (.cells #[.string d1,.string d2] 9);have e3:=World.alloc_heap_new wC (.cells #[.string d3] 9);have e4:=World.alloc_heap_new wD (.cells #[.string d9] 9);obtain ⟨x1,hx1⟩:∃x,x=w1.alloc (.cells #[.string d1] 9):=⟨_,rfl⟩;obtain ⟨x2,hx2⟩:∃x,x=wB.alloc (.cells #[.string d1,.string d2] 9):=⟨_,rfl⟩;obtain ⟨x3,hx3⟩:∃x,x=wC.alloc (.cells #[.string d3] 9):=⟨_,rfl⟩;obtain ⟨x4,hx4⟩:∃x,x=wD.alloc (.cells #[.string d9] 9):=⟨_,rfl⟩;have z4:x4.heap.size=wD.heap.size+1:=by rw [hx4];simp
 rw [<-hx1] at A1 e1 BA;rw [<-hx2] at A2 e2 BC;rw [<-hx3] at A3 e3 BD;rw [<-hx4] at A4 e4 ⊢;clear hx1 hx2 hx3 hx4;have t1:=B1;have t2:=t1.trans (A1.mono t1.size);have t3:=t2.trans (BA.mono t2.size);have t4:=t3.trans (BB.mono t3.size);have t5:=t4.trans (A2.mono t4.size);have t6:=t5.trans (BC.mono t5.size);have t7:=t6.trans (A3.mono t6.size);have t8:=t7.trans (BD.mono t7.size);have t9:=t8.trans (A4.mono t8.size);rw [<-z4];obtain ⟨cs,hcs⟩:∃cs:Array Value,cs = #[Value.slice (some ⟨w1.heap.size,0,none⟩) 1 1,Value.slice (some ⟨wB.heap.size,0,none⟩) 2 2,Value.slice (some ⟨wC.heap.size,0,none⟩) 1 1,Value.slice (some ⟨wD.heap.size,0,none⟩) 1 1]:=⟨_,rfl⟩;have A5:=(Below.refl x4.heap.size x4).alloc (Nat.le_refl _) (.cells cs 30);have e5:=World.alloc_heap_new x4 (.cells cs 30);have z5:(x4.alloc (.cells cs 30)).heap.size=x4.heap.size+1:=by simp
 rw [<-hcs];obtain ⟨x5,hx5⟩:∃x,x=x4.alloc (.cells cs 30):=⟨_,rfl⟩;rw [<-hx5] at A5 e5 z5 ⊢;have t10:=t9.trans (A5.mono t9.size);have f4:=Z2v e4 A5;have f3:=Z2v (Z2v (Z2v e3 BD) A4) A5;have f2:=Z2v (Z2v (Z2v (Z2v (Z2v e2 BC) A3) BD) A4) A5;have f1:=Z2v (Z2v (Z2v (Z2v (Z2v (Z2v (Z2v (Z2v e1 BA) BB) A2) BC) A3) BD) A4) A5;obtain ⟨l0,l1,l2,l3⟩:=HD.out;have hcell:=λj=>cell_of_row x5 x4.heap.size j _ _ _ e5;go_ret;refine ⟨_,rfl,t10,⟨t9.size,by rw [z5];omega⟩,λj hj=>?_⟩;rw [hcell,hcs];rcases j with _ | _ | _ | _ | j
 ·exact ⟨_,rfl,by rw [l0];exact Z8l (l:=[d1]) f1 t1.size⟩
 ·exact ⟨_,rfl,by rw [l1];exact Z8l (l:=[d1,d2]) f2 t4.size⟩
 ·exact ⟨_,rfl,by rw [l2];exact Z8l (l:=[d3]) f3 t6.size⟩
 ·exact ⟨_,rfl,by rw [l3];exact Z8l (l:=[d9]) f4 t8.size⟩
 omega
end
end Go.Proofs.YtifcdjmcoibblaaGreatDoor
