/- Nn No -/
import Derived.Test.YtifcdjmcoibblaaGreatDoorAq39
set_option linter.unusedVariables false
set_option linter.unusedSimpArgs false
set_option linter.unusedSectionVars false
set_option maxRecDepth 100000
set_option maxHeartbeats 80000000
namespace Go.Proofs.YtifcdjmcoibblaaGreatDoor
theorem Move.kr {s t:StB} (m:Move s t) (h:∀m∈s.mine,m.kind=6->m.round<=s.round):∀m∈t.mine,m.kind=6->m.round<=t.round:=by
 have one:∀(u:StB) (k r:Int) (d:ByteArray),u.mine=s.mine->s.round<=u.round->(k=6->r<=u.round)->∀m∈(u.say (vote k r d)).mine,m.kind=6->m.round<=(u.say (vote k r d)).round:=λu k r d hu h1 h2 m hm hk=>by
  obtain ⟨_,e1,_,_,e4,_⟩:=Z0j u (vote k r d:Z0k);rw [e4,hu] at hm;rw [e1];rcases List.mem_append.1 hm with hm | hm
  ·have:=h m hm hk;omega
  obtain rfl:m = {(vote k r d:Z0k) with frm:=u.id,height:=u.height}:=by simpa using hm
  exact h2 hk
 cases m with
 | claims m h1=>exact h
 | decide v r hr h1=>exact h
 | spread r hr h1 hd hc=>exact one s 6 r _ rfl (Int.le_refl _) (λ_=>hr)
 | validate v h1 hr=>exact h
 | follow r hr hp=>exact one {s with round:=r} 5 r _ rfl (Int.le_of_lt hr.1) (λq=>by omega)
 | propose v h1 h2 hp hm=>
  intro m hm hk;obtain ⟨_,e1,_,_,e4,_⟩:=Z0j s (⟨3,0,0,0,s.round,v.round,v.dig,v.list⟩:Z0k);rw [e4] at hm;rw [e1];rcases List.mem_append.1 hm with hm | hm
  ·exact h m hm hk
  ·obtain rfl:m = {(⟨3,0,0,0,s.round,v.round,v.dig,v.list⟩:Z0k) with frm:=s.id,height:=s.height}:=by simpa using hm
   exact absurd (show (3:Int)=6 from hk) (by decide)
 | prevote p d h1 h2 ha hv hd=>exact one s 4 s.round d rfl (Int.le_refl _) (λq=>by omega)
 | miss h1 hl=>exact one s 4 s.round _ rfl (Int.le_refl _) (λq=>by omega)
 | key d h1 h2 hm h3=>exact one s 6 s.round d rfl (Int.le_refl _) (λ_=>Int.le_refl _)
 | key2 d h1 h2 hm=>exact one s 6 s.round d rfl (Int.le_refl _) (λ_=>Int.le_refl _)
 | wait h1 hm=>exact h
 | pass h1 h2=>exact one s 5 s.round _ rfl (Int.le_refl _) (λq=>by omega)
 | bolt v h1 h2=>exact one {s with lock:=some v} 5 s.round _ rfl (Int.le_refl _) (λq=>by omega)
 | leave h1 hl=>exact one s 5 s.round _ rfl (Int.le_refl _) (λq=>by omega)
 | next h1 hl hr=>
  intro m hm hk;have:=h m hm hk;show m.round<=s.round+1;omega
theorem Zrh {s:StB} (hv:Z0x szB s) (h:∀m∈s.mine,m.kind=6->m.round<=s.round):∀m∈s.tick.1.mine,m.kind=6->m.round<=s.tick.1.round:=by
 unfold NS.tick;simp only;split
 ·exact h
 exact Zgq (sz:=szB) (P:=λt=>∀m∈t.mine,m.kind=6->m.round<=t.round) (λs t _ _ m q=>m.kr q) _ (Z35 (Z2l hv)) h
theorem Z4v.tick {s:StB} (h:Z4v s):Z4v s.tick.1:=by
 have hk:=Z38 h.fit.ok.inv;refine ⟨h.fit.tick,λk v hv=>?_,Zrh h.fit.ok.inv h.kr⟩;by_cases e:k=s.height
 ·rw [e];exact h.fit.ok.inv.num.h0
 rw [hk.other k e] at hv;exact h.dz k v hv
theorem Z4v.accept {s:StB} (h:Z4v s) (d:ByteArray):Z4v (s.accept d):=⟨h.fit.accept d,h.dz,h.kr⟩
theorem Z4v.begin {s:StB} (h:Z4v s) (k:Int) {l:List ByteArray} (hl:GB (Z0z l) l):Z4v (s.begin k (Z1f l) (Z0z l) l).1:=by
 refine ⟨h.fit.begin GB.gf k (λ_=>hl),?_,?_⟩
 ·unfold NS.begin;repeat' split
  all_goals exact h.dz
 unfold NS.begin;split
 ·exact h.kr
 split
 ·exact h.kr
 split
 ·intro m hm;cases hm
 exact h.kr
theorem Z4v.receive {s:StB} (h:Z4v s) {m:Z0k} (hm:Z04 m=true->m.kind=3->GB m.dig m.list):Z4v (s.receive m (Z04 m)):=by
 obtain ⟨e1,e2,e3,e4,e5,e6,e7,e8⟩:=Z3r s m (Z04 m);refine ⟨h.fit.receive hm,?_,?_⟩
 ·have:(s.receive m (Z04 m)).decs=s.decs:=by assumption
  rw [this];exact h.dz
 have h1:(s.receive m (Z04 m)).mine=s.mine:=by assumption
 have h2:(s.receive m (Z04 m)).round=s.round:=by assumption
 rw [h1,h2];exact h.kr
theorem Zms {s:StB}:∀l∈s.asked,∃p∈s.props,p.2.list=l:=by
 have key:∀(rs:List Int) (seen:List ByteArray),∀l∈Z28 s.props rs seen,∃p∈s.props,p.2.list=l:=by
  intro rs;induction rs with
  | nil=>intro _ l hl;cases hl
  | cons r rs ih=>
   intro seen l hl;unfold Z28 at hl;split at hl
   ·rename_i m hm
    split at hl
    ·exact ih _ l hl
    rcases List.mem_cons.1 hl with rfl | hl
    ·exact ⟨_,Z0r hm,rfl⟩
    exact ih _ l hl
   exact ih _ l hl
 intro l hl;unfold NS.asked at hl;split at hl
 ·cases hl
 exact key _ _ l hl
theorem Zmt {s:StB} (h:Fit GB s):∀l∈s.asked,GB (Z0z l) l:=by
 intro l hl;obtain ⟨p,hp,rfl⟩:=Zms l hl;have hg:=h.ok.gi.pg p hp;rw [(GB.gf.val _ _ hg).2] at hg;exact hg
theorem Z4p (i:Nat) (h:Int):AB (Z0z (Z40 i h))∧GB (Z0z (Z40 i h)) (Z40 i h):=by
 have:(((i:Int)+h) % 3).toNat<3:=by omega
 exact ⟨⟨_,this,rfl⟩,GB.fam (by omega)⟩
section
variable {H F N:Nat}
variable {V V':Zez ByteArray} {E E':Zf0 ByteArray} {w:Z0g}
theorem AgN.upd (a:AgN H F N V E w) {i:Nat} (hi:i<H) {t:StB} (hg:Agr H F AB V' E' (upd (sgm w.ss) i t) N) (ht:Z4v t) (hV:∀i k h r d,V i k h r d->V' i k h r d) (hE:∀i h d,E i h d->E' i h d):AgN H F N V' E' (w.set i t):=by
 refine ⟨a.n,by show (w.ss.set i t).length=H;rw [List.length_set];exact a.len,?_,λs hs=>?_,λp hp=>(a.q p hp).mono hV hE,λc hc=>?_,a.br⟩
 ·show Agr H F AB V' E' (sgm (w.ss.set i t)) N;rw [Zrg (by rw [a.len];exact hi)];exact hg
 ·rcases List.mem_or_eq_of_mem_set hs with q | rfl
  ·exact a.node s q
  exact ht
 obtain ⟨j,hj,e,q⟩:=a.cs c hc;exact ⟨j,hj,e,hV _ _ _ _ _ q⟩
theorem Z0g.set_set (w:Z0g) (i:Nat) (s t:StB):(w.set i s).set i t=w.set i t:=by
 unfold Z0g.set;simp only [List.set_set]
theorem Z0g.set_get (w:Z0g) {i:Nat} {s:StB} (h:i<w.ss.length):(w.set i s).ss[i]?=some s:=List.getElem?_set_self h
theorem Z0g.set_same (w:Z0g) {i:Nat} {s:StB} (h:w.ss[i]?=some s):w.set i s=w:=by
 unfold Z0g.set;have:w.ss.set i s=w.ss:=by
  apply List.ext_getElem?;intro j;by_cases e:j=i
  ·subst e;rw [List.getElem?_set_self (List.getElem?_eq_some_iff.1 h).1,h]
  rw [List.getElem?_set_ne (λq=>e q.symm)]
 rw [this]
theorem AgN.nodeAt (a:AgN H F N V E w) {i:Nat} {s:StB} (h:w.ss[i]?=some s):Z4v s:=a.node s (List.mem_of_getElem? h)
theorem AgN.accepts (a:AgN H F N V E w) {i:Nat} (hi:i<H):∀(ls:List (List ByteArray)) {s:StB},(∀l∈ls,GB (Z0z l) l)->AgN H F N V E (w.set i s)->AgN H F N V E (w.set i (Z2n s ls))
 | [],s,_,h=>h
 | l :: ls,s,hl,h=>by
  refine a.accepts hi ls (λx hx=>hl x (List.mem_cons_of_mem _ hx)) ?_;split
  ·exact h
  rename_i q
  have hL:i<w.ss.length:=by rw [a.len];exact hi
  have hs:(w.set i s).ss[i]?=some s:=w.set_get hL;have hA:AB (Z0z l):=by
   obtain ⟨j,hj,e,_⟩:=hl l (List.mem_cons_self ..);refine ⟨j,?_,by rw [e]⟩;refine Classical.byContradiction λc=>q ?_;obtain rfl:j=3:=by omega
   exact e
  have:=h.upd hi (t:=s.accept (Z0z l)) (by
   have:=h.agr.accept hi (d:=Z0z l) hA;rw [Z2z hs] at this;exact this) ((h.nodeAt hs).accept _) (λ_ _ _ _ _ q=>q) (λ_ _ _ q=>q)
  rw [Z0g.set_set] at this;exact this
theorem AgN.begins (a:AgN H F N V E w) {i:Nat} (hi:i<H) {s:StB} (hs:w.ss[i]?=some s) (k:Int) {l:List ByteArray} (hA:AB (Z0z l)) (hl:GB (Z0z l) l):AgN H F N V E (w.set i (s.begin k (Z1f l) (Z0z l) l).1):=by
 refine a.upd hi ?_ ((a.nodeAt hs).begin k hl) (λ_ _ _ _ _ q=>q) (λ_ _ _ q=>q);have:=a.agr.begin hi k (Z1f l) (d:=Z0z l) (l:=l) (λ_=>hA);rw [Z2z hs] at this;exact this
theorem AgN.ready (a:AgN H F N V E w) {i:Nat} (hi:i<H) {s:StB} (hs:w.ss[i]?=some s):AgN H F N V E (w.set i (Z1s w.last i s)):=by
 have h1:=a.accepts hi s.asked (s:=s) (Zmt (a.nodeAt hs).fit) (by rw [w.set_same hs];exact a);have hL:i<w.ss.length:=by rw [a.len];exact hi
 unfold Z1s Zbe;split
 ·have:=h1.begins hi (w.set_get hL) ((Z2n s s.asked).height+1) (Z4p i ((Z2n s s.asked).height+1)).1 (Z4p i ((Z2n s s.asked).height+1)).2;rw [Z0g.set_set] at this;exact this
 exact h1
theorem AgN.tickS (a:AgN H F N V E w) (h3:2 * F<H) (hN:N=H+F) (hf:Z03 (N:Int)=(F:Int)) {i:Nat} (hi:i<H) {s:StB} (hs:w.ss[i]?=some s):∃V' E',AgN H F N V' E' (w.tickS i s):=by
 have h1:=a.ready hi hs;have hL:i<w.ss.length:=by rw [a.len];exact hi
 have hg:=w.set_get (s:=Z1s w.last i s) hL;have hn:=h1.nodeAt hg;have es:=Z2z hg;obtain ⟨V',E',b1,b2,b3,b4⟩:=h1.agr.tick (sz:=szB) (G:=GB) h3 hN hf hi (by rw [es];exact hn.fit.ok.inv) (by rw [es];exact hn.fit.ok.gi) (by rw [es];exact hn.fit.qi);rw [es] at b1 b3 b4;have h2:=h1.upd hi b1 hn.tick b2.1 b2.2.1;rw [Z0g.set_set] at h2;refine ⟨V',E',h2.puts h3 hi _ (λm hm=>?_) (λq m hm hh hk=>?_)⟩
 ·have ho:=hn.fit.out GB.gf m hm;have hi2:=hn.fit.ok.inv.num;obtain ⟨_,c2,c3⟩:=Zlu GB.gf ho hi2.id0 hi2.idn hi2.n7;exact ⟨b3 m hm,c2,λ_=>c3⟩
 rw [(Z38 hn.fit.ok.inv).height] at hh;exact b4 q m hm hh hk
theorem AgN.tick (a:AgN H F N V E w) (h3:2 * F<H) (hN:N=H+F) (hf:Z03 (N:Int)=(F:Int)) (i:Nat):∃V' E',AgN H F N V' E' (w.tick i):=by
 unfold Z0g.tick;rcases hs:w.ss[i]? with _ | s
 ·exact ⟨V,E,a⟩
 exact a.tickS h3 hN hf (by rw [<-a.len];exact (List.getElem?_eq_some_iff.1 hs).1) hs
theorem AgN.recv (a:AgN H F N V E w) {i:Nat} (hi:i<H) {s:StB} (hs:w.ss[i]?=some s) {m:Z0k} (hm:Src H N V E m) (hg:Z04 m=true->m.kind=3->GB m.dig m.list):AgN H F N V E (w.set i (s.receive m (Z04 m))):=by
 refine a.upd hi ?_ ((a.nodeAt hs).receive hg) (λ_ _ _ _ _ q=>q) (λ_ _ _ q=>q);have:=a.agr.receive hi (m:=m) (ok:=Z04 m) hm (λq=>?_) (λq hk=>?_)
 ·rw [Z2z hs] at this;exact this
 ·unfold Z04 Z2k Z6e at q;simp at q;exact q.1.1.1.1
 unfold Z04 at q;rw [Bool.and_eq_true,if_neg (by omega),if_neg (by omega),if_pos hk] at q;unfold Z55 at q;simp at q;exact q.2.1.2
theorem AgN.recvs (a:AgN H F N V E w):∀(l:List (Z0k×Int)) (ss:List StB),(∀p∈l,Zrs H N V E p.1)->AgN H F N V E {w with ss:=ss}->AgN H F N V E {w with ss:=l.foldl (λss p=>Z9v ss p.1) ss}
 | [],ss,_,h=>h
 | p :: l,ss,hp,h=>by
  rw [List.foldl_cons];refine a.recvs l _ (λx hx=>hp x (List.mem_cons_of_mem _ hx)) ?_;obtain ⟨s1,s2,s3,s4,s5⟩:=hp p (List.mem_cons_self ..);unfold Z9v;rcases hs:ss[p.1.to.toNat]? with _ | s
  ·exact h
  exact h.recv (by omega) (i:=p.1.to.toNat) hs s1 s5
theorem AgN.deliver (a:AgN H F N V E w):AgN H F N V E w.deliver:=by
 have h:=a.recvs (w.q.filter w.due) w.ss (λp hp=>a.q p (List.mem_filter.1 hp).1) a;exact ⟨h.n,h.len,h.agr,h.node,λp hp=>a.q p (List.mem_filter.1 hp).1,h.cs,h.br⟩
theorem AgN.later (a:AgN H F N V E w) (t:Int):AgN H F N V E {w with now:=t}:=⟨a.n,a.len,a.agr,a.node,a.q,a.cs,a.br⟩
theorem AgN.lied (a:AgN H F N V E w) {i:Nat} (hi:i<H) {s:StB} (hs:w.ss[i]?=some s) {m:Z0k} (hf:(H:Int)<=m.frm) (hg:Z04 m=true->m.kind=3->GB m.dig m.list):AgN H F N V E (w.set i (s.receive m (Z04 m))):=
 a.recv hi hs (λj e hj=>by omega) hg
theorem AgN.agree (a:AgN H F N V E w) (h3:2 * F<H) {s t:StB} (hs:s∈w.ss) (ht:t∈w.ss) {k:Int} {u v:Z4x} (h1:Z02 k s.decs=some u) (h2:Z02 k t.decs=some v):u.list=v.list∧u.list≠fam 3:=by
 obtain ⟨i,hi⟩:=List.getElem?_of_mem hs;obtain ⟨j,hj⟩:=List.getElem?_of_mem ht;have li:i<H:=by rw [<-a.len];exact (List.getElem?_eq_some_iff.1 hi).1
 have lj:j<H:=by rw [<-a.len];exact (List.getElem?_eq_some_iff.1 hj).1
 have e1:=((a.agr.loc i li).dec k u (by rw [Z2z hi];exact h1)).1;have e2:=((a.agr.loc j lj).dec k v (by rw [Z2z hj];exact h2)).1;have e:=a.agr.decs_one li lj e1 e2;have g1:=(a.node s hs).fit.ok.gi.dg _ (Z0r h1);have g2:=(a.node t ht).fit.ok.gi.dg _ (Z0r h2);obtain ⟨x,hx,x1,x2⟩:=g1;obtain ⟨y,hy,y1,y2⟩:=g2;simp only at x1 x2 y1 y2;refine ⟨?_,λc=>?_⟩
 ·have:=Z9m (show x<10 by omega) (show y<10 by omega) (by rw [<-x2,<-y2];exact e);rw [x1,y1,this]
 obtain ⟨z,hz,z1⟩:=a.agr.acc_dec h3 li e1;have e3:=Zok (show x<10 by omega) (show 3<10 by omega) (by rw [<-x1];exact c);have:=Z9m (show z<10 by omega) (show x<10 by omega) (by rw [<-x2,<-z1]);omega
end
def Zgw (v:Z4x):Z4x:=⟨-1,v.dig,v.list⟩
theorem Zf5 {old:StB} (hg:∀p∈old.decs,GB p.2.dig p.2.list) (i n:Int):∀m:Nat,m<=1200->∃D,Z3e old (Z42 i n) m=({(Z42 i n:StB) with decs:=D}:StB)∧∀k,Z02 k D=if 0<=k∧k<(m:Int) then (Z02 k old.decs).map Zgw else none
 | 0,_=>⟨[],rfl,λk=>by rw [if_neg (by omega)];rfl⟩
 | m+1,h=>by
  obtain ⟨D,e,hD⟩:=Zf5 hg i n m (by omega);have key:Z3e old (Z42 i n) (m+1)=Z4e old ({(Z42 i n:StB) with decs:=D}:StB) (m:Int):=by
   show Z4e old (Z3e old (Z42 i n) m) (m:Int)=_;rw [e]
  rw [key];unfold Z4e;have hm:Z02 (m:Int) D=none:=by rw [hD,if_neg (by omega)]
  rcases hv:Z02 (m:Int) old.decs with _ | v
  ·refine ⟨D,rfl,λk=>?_⟩;rw [hD];by_cases q:0<=k∧k<(m:Int)
   ·rw [if_pos q,if_pos (by omega)]
   rw [if_neg q];by_cases q2:0<=k∧k<((m+1:Nat):Int)
   ·obtain rfl:k=(m:Int):=by omega
    rw [if_pos q2,hv];rfl
   rw [if_neg q2]
  have g:=hg _ (Z0r hv);obtain ⟨g1,g2⟩:=GB.gf.val _ _ g;simp only at g1 g2;refine ⟨Z18 (m:Int) (Zgw v) D,?_,λk=>?_⟩
  ·simp only;unfold NS.learn;rw [if_neg (by rw [g1];simp;omega)];have:Z02 (m:Int) ({(Z42 i n:StB) with decs:=D}:StB).decs=none:=hm;rw [this];simp only;rw [<-g2];rfl
  rw [Z29,hD];by_cases q:k=(m:Int)
  ·rw [if_pos q,if_pos (by omega),q,hv];rfl
  rw [if_neg q];by_cases q2:0<=k∧k<(m:Int)
  ·rw [if_pos q2,if_pos (by omega)]
  rw [if_neg q2,if_neg (by omega)]
theorem Zi7 {x p:Int×ByteArray}:∀{l:List (Int×ByteArray)},p∈Zh6 x l↔p=x∨p∈l
 | []=>by simp [Zh6]
 | y :: l=>by
  unfold Zh6;split
  ·simp
  rw [List.mem_cons,Zi7,List.mem_cons];constructor
  ·rintro (h | h | h)
   ·exact .inr (.inl h)
   ·exact .inl h
   exact .inr (.inr h)
  rintro (h | h | h)
  ·exact .inr (.inl h)
  ·exact .inl h
  exact .inr (.inr h)
theorem Zbg (l:List (Int×ByteArray)) (p:Int×ByteArray):p∈l.foldr Zh6 []↔p∈l:=by
 induction l with
 | nil=>exact Iff.rfl
 | cons a l ih=>rw [List.foldr_cons,Zi7,ih,List.mem_cons]
theorem Zcx {s:StB} {p:Int×ByteArray}:p∈s.keys↔∃m∈s.mine,m.kind=6∧p=(m.round,m.dig):=by
 unfold NS.keys;rw [Zbg,List.mem_filterMap];constructor
 ·rintro ⟨m,hm,e⟩;split at e
  ·rename_i h;cases e;exact ⟨m,hm,h,rfl⟩
  cases e
 rintro ⟨m,hm,h,rfl⟩;exact ⟨m,hm,by rw [if_pos h]⟩
theorem Z9x {r:Int} {f:ByteArray->Bool} {x:Int×ByteArray} (hx:x.1<r) (hf:f x.2=true):∀(l:List (Int×ByteArray)) (last:Int),last<x.1->(∀p∈l,p.1≠x.1)->Z0t r f last l=true->Z0t r f last (Zh6 x l)=true
 | [],last,h1,_,_=>by
  unfold Zh6 Z0t;rw [if_neg (by rw [hf];simp;omega)];rfl
 | y :: l,last,h1,h2,h3=>by
  have hy:=h2 y (List.mem_cons_self ..);unfold Z0t at h3;split at h3
  ·cases h3
  rename_i q
  simp only [not_or,Int.not_le,Bool.not_eq_false] at q;unfold Zh6;split
  ·rename_i c
   unfold Z0t;rw [if_neg (by rw [hf];simp;omega)];unfold Z0t;rw [if_neg (by rw [q.2.2];simp;omega)];exact h3
  rename_i c
  unfold Z0t;rw [if_neg (by rw [q.2.2];simp;omega)];exact Z9x hx hf l y.1 (by omega) (λp hp=>h2 p (List.mem_cons_of_mem _ hp)) h3
theorem Z9y {r:Int} {f:ByteArray->Bool}:∀l:List (Int×ByteArray),(∀p∈l,-1<p.1∧p.1<r∧f p.2=true)->(l.map (·.1)).Nodup->Z0t r f (-1) (l.foldr Zh6 [])=true
 | [],_,_=>rfl
 | a :: l,h,hn=>by
  rw [List.map_cons,List.nodup_cons] at hn;obtain ⟨h1,h2,h4⟩:=h a (List.mem_cons_self ..);rw [List.foldr_cons];refine Z9x h2 h4 _ _ h1 (λp hp e=>hn.1 ?_) (Z9y l (λp hp=>h p (List.mem_cons_of_mem _ hp)) hn.2);rw [Zbg] at hp;rw [<-e];exact List.mem_map_of_mem hp
theorem Z87:∀(l:List Z0k),(l.map λm=>(m.kind,m.round)).Nodup->((l.filterMap λm=>if m.kind=6 then some (m.round,m.dig) else none).map (·.1)).Nodup
 | [],_=>List.nodup_nil
 | m :: l,h=>by
  rw [List.map_cons,List.nodup_cons] at h;have ih:=Z87 l h.2;rw [List.filterMap_cons];by_cases hk:m.kind=6
  ·rw [if_pos hk];simp only [List.map_cons,List.nodup_cons];refine ⟨λhc=>h.1 ?_,ih⟩;obtain ⟨p,hp,e⟩:=List.mem_map.1 hc;obtain ⟨x,hx,e2⟩:=List.mem_filterMap.1 hp;split at e2
   ·rename_i hk2
    cases e2;exact List.mem_map.2 ⟨x,hx,by rw [hk,hk2,show x.round=m.round from e]⟩
   cases e2
  rw [if_neg hk];exact ih
theorem Zbh {s:StB} (hm:Zic s) {r:Int} (hr:∀m∈s.mine,m.kind=6->m.round<r∧Zcv m.dig=true):Z0t r Zcv (-1) s.keys=true:=by
 unfold NS.keys;refine Z9y _ (λp hp=>?_) (Z87 _ ?_)
 ·obtain ⟨m,h1,e⟩:=List.mem_filterMap.1 hp;split at e
  ·rename_i hk
   cases e;obtain ⟨a,b⟩:=hr m h1 hk;have:=(hm.rng m h1).2.2.1;exact ⟨by show -1<m.round;omega,a,b⟩
  cases e
 have:=hm.nodup;rw [hm.made] at this;exact this
def Z30 (s:StB) (ks:List (Int×ByteArray)):StB:=ks.foldl (λs k=>s.say (vote 6 k.1 k.2)) s
theorem Z5u:∀(ks:List (Int×ByteArray)) (s:StB),Z8s s (Z30 s ks)∧(Z30 s ks).round=s.round∧(Z30 s ks).step=s.step∧(Z30 s ks).props=s.props∧(Z30 s ks).mine=s.mine ++ ks.map (λk=>{(vote 6 k.1 k.2:Z0k) with frm:=s.id,height:=s.height}) ∧
  ∀q d,Z02 q (Z30 s ks).votes=some d->Z02 q s.votes=some d∨∃k∈ks,d=k.2∧q=(s.id,6,s.height,k.1)
 | [],s=>⟨⟨rfl,rfl,rfl,rfl,rfl,rfl,rfl,rfl,rfl,rfl,rfl,rfl,rfl⟩,rfl,rfl,rfl,by simp [Z30],λq d h=>.inl h⟩
 | k :: ks,s=>by
  obtain ⟨hb,e1,e2,e3,e4,e5⟩:=Z0j s (vote 6 k.1 k.2:Z0k);have ep:(s.say (vote 6 k.1 k.2)).props=s.props:=Z23 _ (by decide);obtain ⟨hc,f1,f2,f3,f4,f5⟩:=Z5u ks (s.say (vote 6 k.1 k.2));have e:Z30 s (k :: ks)=Z30 (s.say (vote 6 k.1 k.2)) ks:=rfl;rw [e];refine ⟨⟨hc.height.trans hb.height,hc.id.trans hb.id,hc.n.trans hb.n,hc.valid.trans hb.valid,hc.lock.trans hb.lock,hc.own.trans hb.own,hc.claims.trans hb.claims,hc.order.trans hb.order,hc.acc.trans hb.acc,hc.decs.trans hb.decs,hc.ques.trans hb.ques,hc.inf.trans hb.inf,hc.ticks.trans hb.ticks⟩,f1.trans e1,f2.trans e2,f3.trans ep,?_,λq d h=>?_⟩
  ·rw [f4,e4,hb.id,hb.height];simp
  rcases f5 q d h with h | ⟨x,hx,h1,h2⟩
  ·rw [Z3c] at h;split at h
   ·rename_i hg;exact .inl (hg.trans h)
   split at h
   ·rename_i c
    cases h;exact .inr ⟨k,List.mem_cons_self ..,rfl,c.2⟩
   cases h
  exact .inr ⟨x,List.mem_cons_of_mem _ hx,h1,by rw [h2,hb.id,hb.height]⟩
def Z7h (i n:Int) (D:List (Int×Z4x)):StB:={(Z42 i n:StB) with decs:=D}
structure Zsk (old:StB) (D:List (Int×Z4x)):Prop where
 g:∀k,Z02 k D=(Z02 k old.decs).map Zgw
theorem Zi8 {old:StB} (h:Z4v old) (hh:∀k v,Z02 k old.decs=some v->k<=old.height) {n i:Nat}:∃D,Z24 n i old=Z7h (i:Int) (n:Int) D∧Zsk old D:=by
 have h0:=h.fit.ok.inv.num.h0;have h1:=h.fit.ok.inv.num.h1;obtain ⟨D,e,hD⟩:=Zf5 h.fit.ok.gi.dg (i:Int) (n:Int) (old.height+1).toNat (by omega);refine ⟨D,e,⟨λk=>?_⟩⟩;rw [hD];by_cases q:0<=k∧k<(((old.height+1).toNat:Nat):Int)
 ·rw [if_pos q]
 rw [if_neg q];rcases hv:Z02 k old.decs with _ | v
 ·rfl
 have:=h.dz k v hv;have:=hh k v hv;omega
theorem Z9z {old:StB} (h:Z4v old) {n i:Nat} (hin:i<n) (h7:n<=7):∀m:Nat,Fit GB (Z3e old (Z42 (i:Int) (n:Int)) m)
 | 0=>Fit.new (by omega) (by omega) (by omega)
 | m+1=>by
  have ih:=Z9z h hin h7 m;show Fit GB (Z4e old _ _);unfold Z4e;split
  ·rename_i v hv
   have g:=h.fit.ok.gi.dg _ (Z0r hv);rw [(GB.gf.val _ _ g).2] at g;exact ih.learn _ (λ_=>g)
  exact ih
theorem Zpc {s:StB} (h:GI szB GB s) (height round locked:Int) {l:List ByteArray} (hl:GB (Z0z l) l∨locked<0) (keys:List (Int×ByteArray)):GI szB GB (Z12 s height round locked l keys).1:=by
 unfold Z12 NS.resume;split
 ·exact h
 split
 ·exact h
 rename_i q
 simp only [not_or,Bool.not_eq_false] at q;have key:∀(ks:List (Int×ByteArray)) (last:Int) (u:StB),Z0t round Zcv last ks=true->GI szB GB u->GI szB GB (ks.foldl (λs k=>s.say (vote 6 k.1 k.2)) u):=by
  intro ks;induction ks with
  | nil=>intro _ u _ hu;exact hu
  | cons k ks ih=>
   intro last u ha hu;unfold Z0t at ha;split at ha
   ·cases ha
   rename_i c
   simp only [not_or,Bool.not_eq_false] at c;refine ih k.1 _ ha (Zke hu ?_ ?_)
   ·intro h3;exact absurd (show (6:Int)=3 from h3) (by decide)
   intro _;exact ⟨rfl,rfl,.inr (show k.2.size=32 from by have:=c.2.2;unfold Zcv at this;simpa using this)⟩
 refine key keys (-1) _ q.1 ?_;have hm:=Zkg h height round;split
 ·rename_i hl0
  have hl:=hl.resolve_right (by omega);exact hm.of rfl rfl (λv hv=>by cases hv;exact hl) (λv hv=>by cases hv;exact hl) hm.og hm.dg rfl rfl rfl rfl
 exact hm
theorem Z5v {s:StB} (h:Fit GB s) (hq:s.ques = []) (height round locked:Int) {l:List ByteArray} (hl:GB (Z0z l) l∨locked<0) (keys:List (Int×ByteArray)):Fit GB (Z12 s height round locked l keys).1:=by
 refine ⟨⟨Zii h.ok.inv (size:=Zcv) (λd hd=>.inr (by unfold Zcv at hd;simpa using hd)) _ _ _ _ _ _ _ (λ_=>.inr (Z9n l)),Zpc h.ok.gi _ _ _ hl _⟩,QI.none ?_⟩;unfold Z12 NS.resume;split
 ·exact hq
 split
 ·exact hq
 refine (Z5u keys _).1.ques.trans ?_;split <;> exact hq
section
variable {H F N:Nat}
variable {V V':Zez ByteArray} {E E':Zf0 ByteArray} {w:Z0g}
theorem AgN.again (a:AgN H F N V E w) (h3:2 * F<H) (hN:N=H+F) (h7:N<=7) {i:Nat} (hi:i<H) {old x:StB} (hs:w.ss[i]?=some old) (hh:old.height<1199) (hx:Z2s w.n i old=some x):AgN H F N V E (w.set i x):=by
 have hl:=a.agr.loc i hi;rw [Z2z hs] at hl;have ho:=a.nodeAt hs;have hn:=ho.fit.ok.inv.num;have hh00:=hn.h0;obtain ⟨D,eD,hD⟩:=Zi8 ho (n:=w.n) (i:=i) (λk v hv=>(hl.dec k v hv).2);have hfit:Fit GB (Z24 w.n i old):=Z9z ho (by rw [a.n];omega) (by rw [a.n];exact h7) _;rw [eD] at hfit;have ed:∀k,(Z02 k D).map (·.dig)=(Z02 k old.decs).map (·.dig):=λk=>by
  rw [hD.g];rcases Z02 k old.decs with _ | v <;> rfl
 have dz:∀k v,Z02 k D=some v->0<=k:=λk v hv=>by
  rw [hD.g] at hv;rcases hg:Z02 k old.decs with _ | u
  ·rw [hg] at hv;cases hv
  exact ho.dz k u hg
 have eN:(w.n:Int)=(N:Int):=by rw [a.n]
 unfold Z2s at hx;rw [eD] at hx;split at hx
 ·rename_i hd
  cases hx;have e0:Z02 (old.height+1) D=none:=by
   rcases hg:Z02 (old.height+1) D with _ | v
   ·rfl
   rw [hD.g] at hg;rcases hq:Z02 (old.height+1) old.decs with _ | u
   ·rw [hq] at hg;cases hg
   have:=(hl.dec _ _ hq).2;omega
  have e:(Z12 (Z7h (i:Int) (w.n:Int) D) (old.height+1) 0 (-1) [] []).1=(Z7h (i:Int) (w.n:Int) D).moved (old.height+1) 0:=by
   unfold Z12 NS.resume;rw [if_neg (by rw [show Z1f []=true from rfl];simp;omega),if_neg (by
    have:(Z7h (i:Int) (w.n:Int) D).isDec (old.height+1)=false:=by
     unfold NS.isDec;show (Z02 (old.height+1) D).isSome=false;rw [e0];rfl
    rw [this];show ¬(Z0t 0 Zcv (-1) []=false∨false=true∨old.height+1<0∨(old.height+1=0∧(0:Int)<=0));rw [show Z0t 0 Zcv (-1) []=true from rfl];simp;omega)]
   rfl
  have hf2:=Z5v hfit rfl (old.height+1) 0 (-1) (l:=[]) (.inr (by decide)) [];rw [e] at hf2 ⊢;refine a.upd hi (a.agr.still (i:=i) (t:=(Z7h (i:Int) (w.n:Int) D).moved (old.height+1) 0) (hl.onward ?_ ?_ ?_ rfl rfl rfl rfl (λd hd=>by cases hd) rfl (λk=>ed k)) (λh r q=>?_)) ⟨hf2,dz,λm hm=>by cases hm⟩ (λ_ _ _ _ _ q=>q) (λ_ _ _ q=>q)
  ·exact hl.id.symm
  ·rw [hl.nn];exact eN
  ·show old.height<old.height+1;omega
  rw [Z2z hs] at q;left
  show h<old.height+1;rcases q with q | q <;> omega
 rename_i hd
 split at hx
 ·rename_i hr4
  cases hx;have hd:old.isDec old.height=false:=by simpa using hd
  have hlk:∀v,old.lock=some v->0<=v.round∧v.round<=old.round∧GB v.dig v.list:=λv hv=>by
   refine ⟨(hn.lr v hv).1,?_,ho.fit.ok.gi.lg v hv⟩;rcases hl.lockr v hv with q | q <;> omega
  have hasc:Z1f (Z20 old)=true:=by
   unfold Z20;rcases hv:old.lock with _ | v
   ·rfl
   exact (GB.gf.val _ _ (hlk v hv).2.2).1
  have hlr:-1<=Z1w old∧Z1w old<=old.round:=by
   unfold Z1w;have:=hn.r0;rcases hv:old.lock with _ | v
   ·simp only;omega
   have:=hlk v hv;simp only;omega
  have hle:¬(Z1w old<0∧(Z20 old).isEmpty=false):=by
   unfold Z1w Z20;rcases hv:old.lock with _ | v
   ·simp
   have:=hlk v hv;simp only;omega
  have hks:Z0t (old.round+1) Zcv (-1) old.keys=true:=Zbh ho.fit.ok.inv.min (λm hm hk=>by
   refine ⟨by have:=ho.kr m hm hk;omega,?_⟩;have hv:=hl.mineV m hm (by omega);rw [hk] at hv;have hne:=(a.agr.kq _ _ _ _ hv).1;rcases ((ho.fit.ok.gi.mg m hm).vote (by omega)).2.2 with q | q
   ·exfalso;apply hne;exact Classical.byContradiction λc=>by rw [Z5k c] at q;cases q
   unfold Zcv;simpa using q)
  have e0:Z02 old.height D=none:=by
   rw [hD.g];unfold NS.isDec at hd;rcases hq:Z02 old.height old.decs with _ | u
   ·rfl
   rw [hq] at hd;cases hd
  obtain ⟨t0,ht0⟩:∃t0:StB,t0=(if 0<=Z1w old then {(Z7h (i:Int) (w.n:Int) D).moved old.height (old.round+1) with lock:=some ⟨Z1w old,Z0z (Z20 old),Z20 old⟩,valid:=some ⟨Z1w old,Z0z (Z20 old),Z20 old⟩,acc:=[Z0z (Z20 old)]} else (Z7h (i:Int) (w.n:Int) D).moved old.height (old.round+1)):=⟨_,rfl⟩;have hr0:=hn.r0;have hh0:=hn.h0;have e:(Z12 (Z7h (i:Int) (w.n:Int) D) old.height (old.round+1) (Z1w old) (Z20 old) old.keys).1=Z30 t0 old.keys:=by
   unfold Z12 NS.resume;rw [if_neg (by
    rw [hasc];simp only [not_or];exact ⟨by simp,by omega,by omega,by omega,by omega,by omega,by omega,hle⟩),if_neg (by
    have:(Z7h (i:Int) (w.n:Int) D).isDec old.height=false:=by
     unfold NS.isDec;show (Z02 old.height D).isSome=false;rw [e0];rfl
    rw [this,hks];show ¬(true=false∨false=true∨old.height<0∨(old.height=0∧old.round+1<=0));simp;omega)]
   rw [ht0];rfl
  have hGl:GB (Z0z (Z20 old)) (Z20 old)∨Z1w old<0:=by
   unfold Z20 Z1w;rcases hv:old.lock with _ | v
   ·right;simp
   left
   have g:=(hlk v hv).2.2;rw [(GB.gf.val _ _ g).2] at g;exact g
  have hf2:=Z5v hfit rfl old.height (old.round+1) (Z1w old) hGl old.keys;rw [e] at hf2;obtain ⟨b1,b2,b3,b4,b5,b6⟩:=Z5u old.keys t0;have t1:t0.id=(i:Int)∧t0.n=(w.n:Int)∧t0.height=old.height∧t0.round=old.round+1∧t0.mine = []∧t0.votes = []∧t0.claims = []∧t0.props = []∧t0.decs=D∧t0.own=none:=by
   rw [ht0];split <;> exact ⟨rfl,rfl,rfl,rfl,rfl,rfl,rfl,rfl,rfl,rfl⟩
  obtain ⟨c1,c2,c3,c4,c5,c6,c7,c8,c9,c10⟩:=t1;have hm:∀m∈(Z30 t0 old.keys).mine,m.kind=6∧∃b∈old.mine,b.kind=6∧b.round=m.round∧b.dig=m.dig:=λm hm=>by
   rw [b5,c5,List.nil_append] at hm;obtain ⟨k,hk,rfl⟩:=List.mem_map.1 hm;obtain ⟨b,hb,h1,rfl⟩:=Zcx.1 hk;exact ⟨rfl,b,hb,h1,rfl,rfl⟩
  have hlkT:∀v,t0.lock=some v->∃u,old.lock=some u∧u.round=v.round∧u.dig=v.dig:=λv hv=>by
   rw [ht0] at hv;unfold Z1w Z20 at hv;rcases hu:old.lock with _ | u
   ·rw [hu] at hv;rw [if_neg (by simp)] at hv;cases hv
   rw [hu] at hv;rw [if_pos (hlk u hu).1] at hv;cases hv;exact ⟨u,rfl,rfl,(GB.gf.val _ _ (hlk u hu).2.2).2⟩
  have hlkO:∀u,old.lock=some u->∃v,t0.lock=some v∧u.round=v.round∧u.dig=v.dig:=λu hu=>by
   refine ⟨⟨u.round,Z0z u.list,u.list⟩,?_,rfl,(GB.gf.val _ _ (hlk u hu).2.2).2⟩;rw [ht0];unfold Z1w Z20;rw [hu];rw [if_pos (hlk u hu).1]
  have hacc:∀d∈t0.acc,AB d:=λd hd2=>by
   rw [ht0] at hd2;unfold Z1w Z20 at hd2;rcases hu:old.lock with _ | u
   ·rw [hu] at hd2;rw [if_neg (by simp)] at hd2;cases hd2
   rw [hu] at hd2;rw [if_pos (hlk u hu).1] at hd2;have:d=Z0z u.list:=by simpa using hd2
   rw [this,<-(GB.gf.val _ _ (hlk u hu).2.2).2];exact a.agr.acc_key h3 (hl.lockk u hu)
  have hL:Loc H AB V E N i (Z30 t0 old.keys):=by
   refine hl.again (b1.id.trans (c1.trans hl.id.symm)) (b1.n.trans (c2.trans (eN.trans hl.nn.symm))) (b1.height.trans c3) (by rw [b2,c4];omega) (λm h1 _=>hm m h1) (λb hb hk=>?_) (λq d hq=>?_) (b1.claims.trans c7) (b4.trans c8)
    (λd hd=>hacc d (b1.acc ▸ hd)) (λv hv=>hlkT v (b1.lock ▸ hv)) (λu hu=>by rw [b1.lock];exact hlkO u hu) (λk=>by rw [b1.decs,c9];exact ed k)
   ·refine ⟨{(vote 6 b.round b.dig:Z0k) with frm:=t0.id,height:=t0.height},?_,rfl,rfl,rfl⟩;rw [b5,c5,List.nil_append];exact List.mem_map.2 ⟨(b.round,b.dig),Zcx.2 ⟨b,hb,hk,rfl⟩,rfl⟩
   rcases b6 q d hq with h1 | ⟨k,hk,h1,h2⟩
   ·rw [c6] at h1;cases h1
   obtain ⟨b,hb,g1,rfl⟩:=Zcx.1 hk;exact ⟨b,hb,g1,h1.symm,by rw [h2,c1,c3]⟩
  have hT:Z4v (Z30 t0 old.keys):=⟨hf2,λk v hv=>dz k v (by rw [b1.decs,c9] at hv;exact hv),λm h1 h2=>by
   obtain ⟨_,b,hb,g1,g2,g3⟩:=hm m h1;have:=ho.kr b hb g1;rw [b2,c4];omega⟩
  have a2:=a.upd hi (t:=Z30 t0 old.keys) (a.agr.still hL (λh r q=>by
   rw [Z2z hs] at q;unfold Z86 at q ⊢;rw [b1.height,b2,c3,c4];omega)) hT (λ_ _ _ _ _ q=>q) (λ_ _ _ q=>q)
  have hLn:i<w.ss.length:=by rw [a.len];exact hi
  have a3:=a2.begins hi (w.set_get hLn) old.height (Z4p i old.height).1 (Z4p i old.height).2;rw [Z0g.set_set] at a3;rw [e];exact a3
 cases hx
theorem AgN.restart (a:AgN H F N V E w) (h3:2 * F<H) (hN:N=H+F) (h7:N<=7) (i:Nat) (hh:∀s∈w.ss,s.height<1199):AgN H F N V E (w.restart i):=by
 unfold Z0g.restart;rcases hs:w.ss[i]? with _ | old
 ·exact a
 simp only;rcases hx:Z2s w.n i old with _ | x
 ·exact a
 exact a.again h3 hN h7 (by rw [<-a.len];exact (List.getElem?_eq_some_iff.1 hs).1) hs (hh old (List.mem_of_getElem? hs)) hx
end
end Go.Proofs.YtifcdjmcoibblaaGreatDoor
