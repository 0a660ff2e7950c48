/- ConJ ConK ConL -/
import Derived.Test.YtifcdjmcoibblaaGreatDoorAq02
set_option linter.unusedVariables false
set_option linter.unusedSimpArgs false
set_option linter.unusedSectionVars false
namespace Go.Proofs.YtifcdjmcoibblaaGreatDoor
section
variable {D L:Type} [Dg D] [Inhabited L]
theorem Z1u {kind:Int} {a b:List (Int×Int)} (h:∀x∈a,x∈b):∀n,Z3v kind b n<=Z3v kind a n
 | 0=>Nat.le_refl _
 | n+1=>by
  unfold Z3v;have:=Z1u (kind:=kind) h n;by_cases q:(kind,(n:Int))∈a
  ·rw [if_pos q,if_pos (h _ q)];omega
  rw [if_neg q];split <;> omega
theorem Z6q {kind r:Int} {a:List (Int×Int)} (hr:0<=r) (hn:(kind,r)∉a):∀n:Nat,r<n->Z3v kind (Z2j (kind,r) a) n+1<=Z3v kind a n
 | 0,h=>by omega
 | n+1,h=>by
  unfold Z3v;have hm:=Z1u (kind:=kind) (a:=a) (b:=Z2j (kind,r) a) (λx hx=>Z1t.2 (.inl hx)) n;by_cases q:r=n
  ·have e1:(kind,(n:Int))∈Z2j (kind,r) a:=Z1t.2 (.inr (by rw [q]));have e2:(kind,(n:Int))∉a:=by rw [<-q];exact hn
   rw [if_pos e1,if_neg e2];omega
  have ih:=Z6q hr hn n (by omega);by_cases e1:(kind,(n:Int))∈a
  ·rw [if_pos e1,if_pos (Z1t.2 (.inl e1))];omega
  rw [if_neg e1];split <;> omega
theorem Zac.of {s s':NS D L} (h:Zac s) (hb:Z8s s s') (hr:s'.round=s.round) (hs:s'.step=s.step) (hc:s'.clock=s.clock):Zac s':=
 ⟨by rw [hb.n];exact h.n1,by rw [hb.n];exact h.n7,by rw [hb.id];exact h.id0,by rw [hb.id,hb.n];exact h.idn,by rw [hb.height];exact h.h0,by rw [hb.height];exact h.h1,by rw [hr];exact h.r0,by rw [hr];exact h.r1,by rw [hs];exact h.st1,by rw [hs];exact h.st4,by rw [hc];exact h.c0,by rw [hc,hb.ticks];exact h.c1,by rw [hb.valid];exact h.vr,by rw [hb.lock];exact h.lr⟩
theorem Zda {s:NS D L} (h:Zac s) {k:Int} (h1:1<=k) (h4:k<=4):Zac (s.enter k):=
 ⟨h.n1,h.n7,h.id0,h.idn,h.h0,h.h1,h.r0,h.r1,h1,h4,Int.le_refl _,by have:=h.c0;have:=h.c1;show (0:Int)<=s.ticks;omega,h.vr,h.lr⟩
theorem Zbp {sz:D->Prop} {s:NS D L} (h:Z0x sz s) {k:Int} {d:D} {st:Int} (hk:k=4∨k=5) (hd:sz d) (h1:1<=s.step∧s.step<=st) (h4:st<=4) (hnew:∀m∈s.mine,m.kind=k->m.round≠s.round)
  (hst4:2<=st) (hst5:k=5->st=4) (hno5:k=4->∀m∈s.mine,m.kind=5->m.round<s.round):Z0x sz (s.cast k d st):=by
 obtain ⟨hb,e1,e2,e3,e4,e5⟩:=Z0j s (vote k s.round d:Msg D L);have hnm:=Znf h.min hnew;have hr:0<=s.round∧s.round<=99:=⟨h.num.r0,h.num.r1⟩;refine ⟨Zda (h.num.of hb e1 e2 e3) (by omega) h4,?_,Zd9 (Zfh h.box h.num hr (show (-1:Int)<=0∧(0:Int)<=99 by omega) hd) _,h.nil⟩;refine Zbo h.min (m:=vote k s.round d) (show 3<=k∧k<=6 by omega) hr hnm e4 e5 ?_ ?_
 ·intro x hx hx4;show x.round<(s.say _).round∨(x.round=(s.say _).round∧2<=st);rw [e1];rcases List.mem_append.1 hx with q | q
  ·rcases h.min.no4 x q hx4 with q1 | q1
   ·exact .inl q1
   exact .inr ⟨q1.1,hst4⟩
  simp at q;subst q;exact .inr ⟨rfl,hst4⟩
 intro x hx hx5;show x.round<(s.say _).round∨(x.round=(s.say _).round∧st=4);rw [e1];rcases List.mem_append.1 hx with q | q
 ·rcases hk with hk | hk
  ·exact .inl (hno5 hk x q hx5)
  rcases h.min.no5 x q hx5 with q1 | q1
  ·exact .inl q1
  exact absurd q1.1 (hnew x q (by omega))
 simp at q;subst q;exact .inr ⟨rfl,hst5 hx5⟩
theorem Zfi {sz:D->Prop} {s:NS D L} (h:Z0x sz s) {r:Int} {d:D} (hr:0<=r∧r<=99) (hd:sz d) (hnew:((6:Int),r)∉s.made):Z0x sz (s.say (vote 6 r d)):=by
 obtain ⟨hb,e1,e2,e3,e4,e5⟩:=Z0j s (vote 6 r d:Msg D L);refine ⟨h.num.of hb e1 e2 e3,?_,Zfh h.box h.num hr (show (-1:Int)<=0∧(0:Int)<=99 by omega) hd,h.nil⟩;refine Zbo h.min (m:=vote 6 r d) (show (3:Int)<=6∧(6:Int)<=6 by omega) hr hnew e4 e5 ?_ ?_
 ·intro x hx hx4;rw [e1,e2];rcases List.mem_append.1 hx with q | q
  ·exact h.min.no4 x q hx4
  simp at q;subst q;simp [vote] at hx4
 intro x hx hx5;rw [e1,e2];rcases List.mem_append.1 hx with q | q
 ·exact h.min.no5 x q hx5
 simp at q;subst q;simp [vote] at hx5
theorem Zie {n:Nat} {votes:List (Bal×D)} {kind height round:Int} {d:D} (h:d∈Z0y n votes kind height round):∃i:Nat,i<n∧Z02 ((i:Int),kind,height,round) votes=some d:=by
 unfold Z0y at h;obtain ⟨i,hi,hd⟩:=List.mem_filterMap.1 h;exact ⟨i,List.mem_range.1 hi,hd⟩
theorem Zk5 (l:List D):(Z5x l).1=Dg.nil∨(Z5x l).1∈l:=by
 unfold Z5x;have:∀(l2:List D) (b:D×Int),(∀x∈l2,x∈l)->(b.1=Dg.nil∨b.1∈l)->((l2.foldl (λb d=>if b.2<(l.count d:Int)∨((l.count d:Int)=b.2∧Dg.lt d b.1=true) then (d,(l.count d:Int)) else b) b).1=Dg.nil∨(l2.foldl (λb d=>if b.2<(l.count d:Int)∨((l.count d:Int)=b.2∧Dg.lt d b.1=true) then (d,(l.count d:Int)) else b) b).1∈l):=by
  intro l2;induction l2 with
  | nil=>intro b _ h;exact h
  | cons x t ih=>
   intro b hm h;rw [List.foldl_cons];refine ih _ (λy hy=>hm y (by simp [hy])) ?_;split
   ·exact .inr (hm x (by simp))
   exact h
 exact this l _ (λx h=>h) (.inl rfl)
theorem Zbq {sz:D->Prop} {s:NS D L} (h:Z0x sz s) (kind r:Int):sz (s.most kind r).1:=by
 unfold NS.most;rcases Zk5 (Z0y s.n.toNat s.votes kind s.height r) with q | q
 ·rw [q];exact h.nil
 obtain ⟨i,_,hi⟩:=Zie q;exact h.box.vz _ (Z0r hi)
theorem Z6r {sz:D->Prop} {s:NS D L} (h:Z0x sz s) {kind r:Int} {d:D} (hc:s.chosen kind r=some d):sz d∧d≠Dg.nil:=by
 unfold NS.chosen at hc;simp only at hc;split at hc
 ·rename_i q;cases hc;exact ⟨Zbq h kind r,q.1⟩
 cases hc
theorem Z1h {sz:D->Prop} {s:NS D L} (h:Z0x sz s) {kind r:Int} {v:Val D L} (hc:s.chosenList kind r=some v):sz v.dig∧v.round=r∧s.chosen kind r=some v.dig∧s.known v.dig=some v.list:=by
 unfold NS.chosenList at hc;split at hc
 ·cases hc
 rename_i d hd
 split at hc
 ·cases hc
 rename_i l hl
 cases hc;exact ⟨(Z6r h hd).1,rfl,hd,hl⟩
theorem Zfj {sz:D->Prop} {s s':NS D L} (h:Z0x sz s) (he:s.rDecide=some s'):Z0x sz s'∧s'.isDec s'.height=true∧s'.ticks=s.ticks:=by
 have key:∀v,Z0x sz {s with decs:=Z18 s.height v s.decs}∧({s with decs:=Z18 s.height v s.decs}:NS D L).isDec s.height=true:=λv=>
  ⟨⟨⟨h.num.n1,h.num.n7,h.num.id0,h.num.idn,h.num.h0,h.num.h1,h.num.r0,h.num.r1,h.num.st1,h.num.st4,h.num.c0,h.num.c1,h.num.vr,h.num.lr⟩,⟨h.min.made,h.min.nodup,h.min.rng,h.min.no4,h.min.no5⟩,h.box.of rfl rfl rfl rfl rfl rfl h.box.vz2 h.box.lz rfl,h.nil⟩,by unfold NS.isDec;simp only [Z29];simp⟩
 unfold NS.rDecide at he;split at he
 ·cases he;exact ⟨(key _).1,(key _).2,rfl⟩
 split at he
 ·cases he;exact ⟨(key _).1,(key _).2,rfl⟩
 cases he
theorem Zfk {sz:D->Prop} {s s':NS D L} (h:Z0x sz s) (he:s.rSpread=some s'):Z0x sz s'∧s'.mu<s.mu∧Z8s s s':=by
 unfold NS.rSpread at he;obtain ⟨k,hk,hf,_⟩:=Z0i he;have:=h.num.r0;have:=h.num.r1;simp only at hf;split at hf
 ·rename_i q
  cases hf;obtain ⟨hb,e1,e2,e3,e4,e5⟩:=Z0j s (vote 6 k (s.most 6 k).1:Msg D L);refine ⟨Zfi h (show (0:Int)<=k∧(k:Int)<=99 by omega) (Zbq h _ _) q.1,?_,hb⟩;have e6:(s.say (vote 6 k (s.most 6 k).1)).made=Z2j (6,(k:Int)) s.made:=e5;unfold NS.mu NS.least;rw [e1,e2,e6,hb.valid];have:=Z6q (kind:=6) (r:=k) (by omega) q.1 100 (by omega);have:=Z1u (kind:=3) (a:=s.made) (b:=Z2j (6,(k:Int)) s.made) (λx hx=>Z1t.2 (.inl hx)) 100;omega
 cases hf
theorem Zbr {sz:D->Prop} {s s':NS D L} (h:Z0x sz s) (he:s.rValidate=some s'):Z0x sz s'∧s'.mu<s.mu:=by
 unfold NS.rValidate at he;obtain ⟨k,hk,hf,_⟩:=Z0i he;have:=h.num.r0;have:=h.num.r1;try simp only at hf
 have hl:-1<=s.least:=by
  unfold NS.least;split
  ·rename_i v hv;have:=h.num.vr v hv;omega
  omega
 rcases hc:s.chosenList 6 (s.round - k) with _ | v
 ·rw [hc] at hf;cases hf
 rw [hc] at hf;cases hf;obtain ⟨z1,z2,_⟩:=Z1h h hc;refine ⟨⟨⟨h.num.n1,h.num.n7,h.num.id0,h.num.idn,h.num.h0,h.num.h1,h.num.r0,h.num.r1,h.num.st1,h.num.st4,h.num.c0,h.num.c1,λx hx=>?_,h.num.lr⟩,⟨h.min.made,h.min.nodup,h.min.rng,h.min.no4,h.min.no5⟩,h.box.of rfl rfl rfl rfl rfl rfl (λx hx=>?_) h.box.lz rfl,h.nil⟩,?_⟩
 ·cases hx;omega
 ·cases hx;exact z1
 show 5 * (100 - s.round).toNat+(4 - s.step).toNat+Z3v 6 s.made 100+Z3v 3 s.made 100+(100 - v.round).toNat<5 * (100 - s.round).toNat+(4 - s.step).toNat+Z3v 6 s.made 100+Z3v 3 s.made 100+(100 - s.least).toNat;omega
theorem Zfl {sz:D->Prop} {s s':NS D L} (h:Z0x sz s) (he:s.rFollow=some s'):Z0x sz s'∧s'.mu<s.mu:=by
 unfold NS.rFollow at he;obtain ⟨k,hk,hf,_⟩:=Z0i he;have:=h.num.r0;have:=h.num.r1;have:=h.num.st1;have:=h.num.st4;try simp only at hf
 split at hf
 ·cases hf;obtain ⟨q,hq⟩:∃q:Int,(99:Int) - k=q:=⟨_,rfl⟩;rw [hq];have hq1:s.round<q∧q<=99:=by omega
  have hI:Z0x sz ({s with round:=q,step:=4}:NS D L):=by
   refine ⟨⟨h.num.n1,h.num.n7,h.num.id0,h.num.idn,h.num.h0,h.num.h1,by show 0<=q;omega,hq1.2,by show (1:Int)<=4;omega,by show (4:Int)<=4;omega,h.num.c0,h.num.c1,h.num.vr,h.num.lr⟩,⟨h.min.made,h.min.nodup,h.min.rng,λm hm h4=>?_,λm hm h5=>?_⟩,h.box.of rfl rfl rfl rfl rfl rfl h.box.vz2 h.box.lz rfl,h.nil⟩
   ·have:=h.min.no4 m hm h4;left;show m.round<q;omega
   have:=h.min.no5 m hm h5;left;show m.round<q;omega
  have e0:({s with round:=q}:NS D L).cast 5 Dg.nil 4=({s with round:=q,step:=4}:NS D L).cast 5 Dg.nil 4:=by
   rcases hg:Z02 (s.id,(5:Int),s.height,q) s.votes with _ | x <;> simp [NS.cast,NS.say,vote,NS.enter,NS.putVote,hg]
  obtain ⟨hb,e1,e2,e3,e4,e5⟩:=Z0j ({s with round:=q,step:=4}:NS D L) (vote 5 q Dg.nil:Msg D L);rw [e0];refine ⟨Zbp hI (.inr rfl) h.nil (show (1:Int)<=4∧(4:Int)<=4 by omega) (by omega) (λm hm h5=>?_) (by omega) (λ_=>rfl) (λq=>by omega),?_⟩
  ·have:=h.min.no5 m hm h5;show m.round≠q;omega
  have f1:(({s with round:=q,step:=4}:NS D L).cast 5 Dg.nil 4).round=q:=e1;have f2:(({s with round:=q,step:=4}:NS D L).cast 5 Dg.nil 4).step=4:=rfl;have f3:(({s with round:=q,step:=4}:NS D L).cast 5 Dg.nil 4).made=Z2j (5,q) s.made:=e5;have f4:(({s with round:=q,step:=4}:NS D L).cast 5 Dg.nil 4).least=s.least:=by
   unfold NS.least;rw [show (({s with round:=q,step:=4}:NS D L).cast 5 Dg.nil 4).valid=s.valid from hb.valid]
  unfold NS.mu;rw [f1,f2,f3,f4];have:=Z1u (kind:=6) (a:=s.made) (b:=Z2j (5,q) s.made) (λx hx=>Z1t.2 (.inl hx)) 100;have:=Z1u (kind:=3) (a:=s.made) (b:=Z2j (5,q) s.made) (λx hx=>Z1t.2 (.inl hx)) 100;omega
 cases hf
theorem Zdb {sz:D->Prop} {s s':NS D L} (h:Z0x sz s) (he:s.rPropose=some s'):Z0x sz s'∧s'.mu<s.mu:=by
 unfold NS.rPropose at he;have:=h.num.r0;have:=h.num.r1;split at he
 ·cases he
 rename_i v hv
 split at he
 ·cases he
 rename_i q
 simp only [not_or,Decidable.not_not] at q;obtain ⟨q1,q2,q3⟩:=q;cases he;have hz:sz v.dig∧-1<=v.round∧v.round<=99:=by
  unfold NS.toPropose at hv;split at hv
  ·rename_i u hu
   split at hv
   ·cases hv;have:=h.num.vr v hu;exact ⟨h.box.vz2 v hu,by omega,by omega⟩
   have:=h.box.oz v hv;exact ⟨this.1,by omega,by omega⟩
  have:=h.box.oz v hv;exact ⟨this.1,by omega,by omega⟩
 obtain ⟨hb,e1,e2,e3,e4,e5⟩:=Z0j s (⟨3,0,0,0,s.round,v.round,v.dig,v.list⟩:Msg D L);refine ⟨⟨h.num.of hb e1 e2 e3,?_,Zfh h.box h.num ⟨h.num.r0,h.num.r1⟩ hz.2 hz.1,h.nil⟩,?_⟩
 ·refine Zbo h.min (m:=⟨3,0,0,0,s.round,v.round,v.dig,v.list⟩) (show (3:Int)<=3∧(3:Int)<=6 by omega) ⟨h.num.r0,h.num.r1⟩ q3 e4 e5 ?_ ?_
  ·intro x hx hx4;rw [e1,e2];rcases List.mem_append.1 hx with q | q
   ·exact h.min.no4 x q hx4
   simp at q;subst q;simp at hx4
  intro x hx hx5;rw [e1,e2];rcases List.mem_append.1 hx with q | q
  ·exact h.min.no5 x q hx5
  simp at q;subst q;simp at hx5
 have e6:(s.say (⟨3,0,0,0,s.round,v.round,v.dig,v.list⟩:Msg D L)).made=Z2j (3,s.round) s.made:=e5;unfold NS.mu NS.least;rw [e1,e2,e6,hb.valid];have:=Z6q (kind:=3) (r:=s.round) (by omega) q3 100 (by omega);have:=Z1u (kind:=6) (a:=s.made) (b:=Z2j (3,s.round) s.made) (λx hx=>Z1t.2 (.inl hx)) 100;omega
theorem Zk6 {s:NS D L} {k st:Int} {d:D} (h1:s.step<st) (h4:st<=4):(s.cast k d st).mu<s.mu:=by
 obtain ⟨hb,e1,e2,e3,e4,e5⟩:=Z0j s (vote k s.round d:Msg D L);have f1:(s.cast k d st).round=s.round:=e1;have f2:(s.cast k d st).step=st:=rfl;have f3:(s.cast k d st).made=Z2j (k,s.round) s.made:=e5;have f4:(s.cast k d st).least=s.least:=by
  unfold NS.least;rw [show (s.cast k d st).valid=s.valid from hb.valid]
 unfold NS.mu;rw [f1,f2,f3,f4];have:=Z1u (kind:=6) (a:=s.made) (b:=Z2j (k,s.round) s.made) (λx hx=>Z1t.2 (.inl hx)) 100;have:=Z1u (kind:=3) (a:=s.made) (b:=Z2j (k,s.round) s.made) (λx hx=>Z1t.2 (.inl hx)) 100;omega
theorem Zdc {sz:D->Prop} {s:NS D L} (h:Z0x sz s) (h1:s.step=1) {d:D} (hd:sz d):Z0x sz (s.cast 4 d 2)∧(s.cast 4 d 2).mu<s.mu:=
 ⟨Zbp h (.inl rfl) hd (by omega) (by omega) (λm hm h4=>by have:=h.min.no4 m hm h4;omega) (by omega) (λq=>by omega) (λ_ m hm h5=>by have:=h.min.no5 m hm h5;omega),Zk6 (by omega) (by omega)⟩
theorem Z7l {sz:D->Prop} {s:NS D L} (h:Z0x sz s) (h1:s.step=2∨s.step=3) {d:D} (hd:sz d):Z0x sz (s.cast 5 d 4)∧(s.cast 5 d 4).mu<s.mu:=
 ⟨Zbp h (.inr rfl) hd (by omega) (by omega) (λm hm h5=>by have:=h.min.no5 m hm h5;omega) (by omega) (λ_=>rfl) (λq=>by omega),Zk6 (by omega) (by omega)⟩
theorem Zdd {sz:D->Prop} {s s':NS D L} (h:Z0x sz s) (he:s.rPrevote=some s'):Z0x sz s'∧s'.mu<s.mu:=by
 unfold NS.rPrevote at he;split at he
 ·cases he
 rename_i p hp
 split at he
 ·cases he
 rename_i q
 split at he
 ·cases he
 simp only [not_or,Decidable.not_not] at q;cases he;refine Zdc h q.1 ?_;have hz:=(h.box.pr _ (Z0r hp)).2.2.2.2;split
 ·split
  ·exact h.nil
  exact hz
 exact hz
theorem Zk7 {sz:D->Prop} {s s':NS D L} (h:Z0x sz s) (he:s.rMiss=some s'):Z0x sz s'∧s'.mu<s.mu:=by
 unfold NS.rMiss at he;split at he
 ·cases he
 rename_i q
 simp only [not_or,Decidable.not_not] at q;cases he;exact Zdc h q.1 h.nil
theorem Zde {sz:D->Prop} {s:NS D L} (h:Z0x sz s) {k:Int} (h1:s.step<k) (h4:k<4) (h2:2<=s.step):Z0x sz (s.enter k)∧(s.enter k).mu<s.mu:=by
 have:=h.num.st1;refine ⟨⟨Zda h.num (by omega) (by omega),⟨h.min.made,h.min.nodup,h.min.rng,λm hm q=>?_,λm hm q=>?_⟩,Zd9 h.box _,h.nil⟩,?_⟩
 ·rcases h.min.no4 m hm q with r | r
  ·exact .inl r
  exact .inr ⟨r.1,show 2<=k by omega⟩
 ·rcases h.min.no5 m hm q with r | r
  ·exact .inl r
  omega
 show 5 * (100 - s.round).toNat+(4 - k).toNat+Z3v 6 s.made 100+Z3v 3 s.made 100+(100 - s.least).toNat<5 * (100 - s.round).toNat+(4 - s.step).toNat+Z3v 6 s.made 100+Z3v 3 s.made 100+(100 - s.least).toNat;omega
theorem Zng {sz:D->Prop} {s s':NS D L} (h:Z0x sz s) (he:s.rKey=some s'):Z0x sz s'∧s'.mu<s.mu:=by
 unfold NS.rKey at he;have:=h.num.r0;have:=h.num.r1;have:=h.num.st1;split at he
 ·cases he
 rename_i d hd
 split at he
 ·cases he
 rename_i q
 simp only [not_or] at q;obtain ⟨q1,q2⟩:=q;obtain ⟨hb,e1,e2,e3,e4,e5⟩:=Z0j s (vote 6 s.round d:Msg D L);have hI:=Zfi h ⟨h.num.r0,h.num.r1⟩ (Z6r h hd).1 q2;have hm:(s.say (vote 6 s.round d)).mu<s.mu:=by
  have e6:(s.say (vote 6 s.round d:Msg D L)).made=Z2j (6,s.round) s.made:=e5;unfold NS.mu NS.least;rw [e1,e2,e6,hb.valid];have:=Z6q (kind:=6) (r:=s.round) (by omega) q2 100 (by omega);have:=Z1u (kind:=3) (a:=s.made) (b:=Z2j (6,s.round) s.made) (λx hx=>Z1t.2 (.inl hx)) 100;omega
 simp only at he;cases he;split
 ·rename_i q3
  have:=Zde hI (k:=3) (by omega) (by omega) (by omega);exact ⟨this.1,by omega⟩
 exact ⟨hI,hm⟩
theorem Zk8 {sz:D->Prop} {s s':NS D L} (h:Z0x sz s) (he:s.rWait=some s'):Z0x sz s'∧s'.mu<s.mu:=by
 unfold NS.rWait at he;split at he
 ·cases he
 rename_i q
 simp only [Decidable.not_not] at q;split at he
 ·cases he;exact Zde h (by omega) (by omega) (by omega)
 split at he
 ·cases he;exact Z7l h (.inl q) h.nil
 cases he
theorem Zk9 {sz:D->Prop} {s s':NS D L} (h:Z0x sz s) (he:s.rSeal=some s'):Z0x sz s'∧s'.mu<s.mu:=by
 unfold NS.rSeal at he;have:=h.num.r0;have:=h.num.r1;split at he
 ·cases he
 rename_i v hv
 split at he
 ·cases he
 rename_i q
 simp only [Decidable.not_not] at q;cases he;obtain ⟨z1,z2,_⟩:=Z1h h hv;have hI:Z0x sz ({s with lock:=some v}:NS D L):=⟨⟨h.num.n1,h.num.n7,h.num.id0,h.num.idn,h.num.h0,h.num.h1,h.num.r0,h.num.r1,h.num.st1,h.num.st4,h.num.c0,h.num.c1,h.num.vr,λx hx=>by cases hx;omega⟩,⟨h.min.made,h.min.nodup,h.min.rng,h.min.no4,h.min.no5⟩,h.box.of rfl rfl rfl rfl rfl rfl h.box.vz2 (λx hx=>by cases hx;exact z1) rfl,h.nil⟩;have:=Z7l hI (.inr q) z1;exact ⟨this.1,this.2⟩
theorem Zif {sz:D->Prop} {s s':NS D L} (h:Z0x sz s) (he:s.rLeave=some s'):Z0x sz s'∧s'.mu<s.mu:=by
 unfold NS.rLeave at he;split at he
 ·cases he
 rename_i q
 simp only [not_or,Decidable.not_not] at q;cases he;exact Z7l h (.inr q.1) h.nil
theorem Zka {sz:D->Prop} {s s':NS D L} (h:Z0x sz s) (he:s.rNext=some s'):Z0x sz s'∧s'.mu<s.mu:=by
 unfold NS.rNext at he;have:=h.num.r0;have:=h.num.r1;split at he
 ·cases he
 rename_i q
 simp only [not_or,Decidable.not_not] at q;obtain ⟨q1,q2,q3⟩:=q;cases he;refine ⟨⟨⟨h.num.n1,h.num.n7,h.num.id0,h.num.idn,h.num.h0,h.num.h1,by show 0<=s.round+1;omega,by show s.round+1<=99;omega,by show (1:Int)<=1;omega,by show (1:Int)<=4;omega,Int.le_refl _,by have:=h.num.c0;have:=h.num.c1;show (0:Int)<=s.ticks;omega,h.num.vr,h.num.lr⟩,⟨h.min.made,h.min.nodup,h.min.rng,λm hm q=>?_,λm hm q=>?_⟩,h.box.of rfl rfl rfl rfl rfl rfl h.box.vz2 h.box.lz rfl,h.nil⟩,?_⟩
 ·have:=h.min.no4 m hm q;left;show m.round<s.round+1;omega
 ·have:=h.min.no5 m hm q;left;show m.round<s.round+1;omega
 show 5 * (100 - (s.round+1)).toNat+(4 - 1:Int).toNat+Z3v 6 s.made 100+Z3v 3 s.made 100+(100 - s.least).toNat<5 * (100 - s.round).toNat+(4 - s.step).toNat+Z3v 6 s.made 100+Z3v 3 s.made 100+(100 - s.least).toNat;omega
theorem Zbs {sz:D->Prop} {s s':NS D L} (h:Z0x sz s) {k:Nat} (he:s.rule k=some s'):Z0x sz s'∧(s'.isDec s'.height=true∨s'.mu<s.mu):=by
 unfold NS.rule at he;split at he
 ·have:=Zfj h he;exact ⟨this.1,.inl this.2.1⟩
 ·have:=Zfk h he;exact ⟨this.1,.inr this.2.1⟩
 ·have:=Zbr h he;exact ⟨this.1,.inr this.2⟩
 ·have:=Zfl h he;exact ⟨this.1,.inr this.2⟩
 ·have:=Zdb h he;exact ⟨this.1,.inr this.2⟩
 ·have:=Zdd h he;exact ⟨this.1,.inr this.2⟩
 ·have:=Zk7 h he;exact ⟨this.1,.inr this.2⟩
 ·have:=Zng h he;exact ⟨this.1,.inr this.2⟩
 ·have:=Zk8 h he;exact ⟨this.1,.inr this.2⟩
 ·have:=Zk9 h he;exact ⟨this.1,.inr this.2⟩
 ·have:=Zif h he;exact ⟨this.1,.inr this.2⟩
 ·have:=Zka h he;exact ⟨this.1,.inr this.2⟩
 cases he
theorem Z5a {sz:D->Prop} {s s':NS D L} (h:Z0x sz s) (he:s.stepS=some s'):Z0x sz s'∧(s'.isDec s'.height=true∨s'.mu<s.mu):=by
 obtain ⟨k,_,hk,_⟩:=Z0i he;exact Zbs h hk
theorem Z7m (k:Nat) {s:NS D L} (h:s.isDec s.height=true):NS.runS k s=s:=by
 rcases k with _ | k
 ·rfl
 unfold NS.runS;rw [if_pos h]
theorem Zh8 {sz:D->Prop}:∀(k:Nat) {s:NS D L},Z0x sz s->s.mu<k->∀j,k<=j->NS.runS j s=NS.runS (k+1) s
 | 0,s,_,h,_,_=>by omega
 | k+1,s,hI,h,j,hj=>by
  rcases j with _ | j
  ·omega
  unfold NS.runS;by_cases hd:s.isDec s.height=true
  ·rw [if_pos hd,if_pos hd]
  rw [if_neg hd,if_neg hd];rcases he:s.stepS with _ | s'
  ·rfl
  obtain ⟨i1,i2⟩:=Z5a hI he;simp only;rcases i2 with i2 | i2
  ·rw [Z7m _ i2,Z7m _ i2]
  exact Zh8 k i1 (by omega) j (by omega)
theorem Zig {sz:D->Prop} {s s':NS D L} (hI:Z0x sz s) (hd:s.isDec s.height=false) (he:s.stepS=some s'):s.apply=s'.apply:=by
 obtain ⟨i1,i2⟩:=Z5a hI he;unfold NS.apply;rcases i2 with i2 | i2
 ·rw [Z7m _ i2];show NS.runS (s.mu+1+1) s=s';unfold NS.runS;rw [if_neg (by rw [hd];simp),he];exact Z7m _ i2
 show NS.runS (s.mu+1+1) s=_;conv=>lhs;unfold NS.runS
 rw [if_neg (by rw [hd];simp),he];exact Zh8 (s'.mu+1) i1 (by omega) (s.mu+1) (by omega)
theorem Zdf {s:NS D L} (h:s.isDec s.height=true∨s.stepS=none):s.apply=s:=by
 unfold NS.apply;show NS.runS (s.mu+1+1) s=_;rcases h with h | h
 ·exact Z7m _ h
 unfold NS.runS;split
 ·rfl
 rw [h]
theorem Zkb {sz:D->Prop}:∀(k:Nat) {s:NS D L},Z0x sz s->Z0x sz (NS.runS k s)
 | 0,s,h=>h
 | k+1,s,h=>by
  unfold NS.runS;split
  ·exact h
  split
  ·exact h
  rename_i s' he;exact Zkb k (Z5a h he).1
theorem Zdg {sz:D->Prop} {s:NS D L} (h:Z0x sz s):Z0x sz s.apply:=Zkb _ h
end
theorem Z8u:∀(n:Nat) (l:List Nat),l.Nodup->(∀x∈l,x<n)->l.length<=n
 | 0,l,_,h=>by
  rcases l with _ | ⟨a,r⟩
  ·simp
  ·have:=h a (by simp);omega
 | n+1,l,hn,h=>by
  have ih:=Z8u n (l.erase n) (hn.erase n) (λx hx=>by
   have h1:=(hn.mem_erase_iff).1 hx;have:=h x h1.2;have:=h1.1;omega)
  have:l.length<=(l.erase n).length+1:=by rw [List.length_erase];split <;> omega
  omega
theorem Z8v {α β:Type} {f:α->β}:∀{l:List α},l.Nodup->(∀x∈l,∀y∈l,f x=f y->x=y)->(l.map f).Nodup
 | [],_,_=>by simp
 | a :: l,hn,h=>by
  rw [List.nodup_cons] at hn;rw [List.map_cons,List.nodup_cons];refine ⟨λhm=>?_,Z8v hn.2 (λx hx y hy=>h x (by simp [hx]) y (by simp [hy]))⟩;obtain ⟨x,hx,e⟩:=List.mem_map.1 hm;have:=h x (by simp [hx]) a (by simp) e;subst this;exact hn.1 hx
theorem Z8w {l:List Int} {n:Nat} (hn:l.Nodup) (h:∀x∈l,0<=x∧x<n):l.length<=n:=by
 have:=Z8u n (l.map Int.toNat) (Z8v hn (λx hx y hy e=>by have:=h x hx;have:=h y hy;omega)) (λx hx=>by
  obtain ⟨y,hy,rfl⟩:=List.mem_map.1 hx;have:=h y hy;omega)
 rwa [List.length_map] at this
theorem Z1x {α:Type} {v:α} {P:Prop} (h:(none:Option α)=some v):P:=by cases h
theorem Z21 {α:Type} {v:α} {P:Prop} (h:v∈([]:List α)):P:=by cases h
section
variable {D L:Type} [Dg D] [Inhabited L]
theorem Z0x.mine_len {sz:D->Prop} {s:NS D L} (h:Z0x sz s):s.mine.length<=400:=by
 have hl:s.mine.length=s.made.length:=by rw [h.min.made,List.length_map]
 have hr:∀p∈s.made,3<=p.1∧p.1<=6∧0<=p.2∧p.2<=99:=λp hp=>by
  rw [h.min.made] at hp;obtain ⟨m,hm,rfl⟩:=List.mem_map.1 hp;exact h.min.rng m hm
 have:=Z8w (n:=400) (l:=s.made.map λp=>(p.1 - 3) * 100+p.2) (Z8v h.min.nodup (λx hx y hy e=>by
  have:=hr x hx;have:=hr y hy;exact Prod.ext (by omega) (by omega))) (λx hx=>by
  obtain ⟨p,hp,rfl⟩:=List.mem_map.1 hx;have:=hr p hp;omega)
 rw [List.length_map] at this;omega
theorem Z0x.order_len {sz:D->Prop} {s:NS D L} (h:Z0x sz s):s.order.length<=7∧s.claims.length<=7:=by
 have:=Z8w (n:=7) h.box.ck (λx hx=>by
  obtain ⟨p,hp,rfl⟩:=List.mem_map.1 hx;have:=h.box.cr p hp;have:=h.num.n7;omega)
 rw [List.length_map] at this;rw [h.box.ord,List.length_map];exact ⟨this,this⟩
theorem Z0x.stand_len {sz:D->Prop} {s:NS D L} (h:Z0x sz s):s.stand.length<=7:=by
 have:=Z8w (n:=7) h.box.sk (λx hx=>by
  obtain ⟨p,hp,rfl⟩:=List.mem_map.1 hx;have:=h.box.sr p hp;have:=h.num.n7;omega)
 rwa [List.length_map] at this
structure OkM (sz:D->Prop) (m:Msg D L):Prop where
 f0:0<=m.frm
 r0:0<=m.round
 r1:m.round<=99
 v0:-1<=m.valid
 v1:m.valid<=99
 dz:sz m.dig
theorem Z0x.of {sz:D->Prop} {s s':NS D L} (h:Z0x sz s) (hn:Zac s') (hb:Zid sz s') (h1:s'.mine=s.mine) (h2:s'.made=s.made) (h3:s'.round=s.round) (h4:s'.step=s.step):Z0x sz s':=
 ⟨hn,⟨by rw [h1,h2];exact h.min.made,by rw [h2];exact h.min.nodup,by rw [h1];exact h.min.rng,by rw [h1,h3,h4];exact h.min.no4,by rw [h1,h3,h4];exact h.min.no5⟩,hb,h.nil⟩
theorem Zfm {sz:D->Prop} {s:NS D L} (h:Z0x sz s) {m:Msg D L} (hf:0<=m.frm∧m.frm<s.n) (hm:OkM sz m):Z0x sz (s.putVote m):=by
 obtain ⟨hb,e1,e2,e3,e4,e5,e6⟩:=Z1g s m;exact h.of (h.num.of hb e1 e2 e3) (Z8t h.box hf ⟨hm.r0,hm.r1⟩ hm.dz) e4 e5 e1 e2
theorem Z5b (s:NS D L) (m:Msg D L):∃q i,s.ask m = {s with ques:=q,inf:=i}:=by
 unfold NS.ask;split
 ·exact ⟨_,_,rfl⟩
 split
 ·exact ⟨s.ques,s.inf,rfl⟩
 split
 ·split
  ·exact ⟨_,s.inf,rfl⟩
  exact ⟨s.ques,s.inf,rfl⟩
 exact ⟨_,s.inf,rfl⟩
theorem Zfn {sz:D->Prop} {s:NS D L} (h:Z0x sz s) {m:Msg D L} {ok:Bool} (hm:ok=true->m.kind=3∨m.kind=4∨m.kind=6∨m.kind=5->OkM sz m):Z0x sz (s.receive m ok):=by
 unfold NS.receive;split
 ·exact h
 rename_i q
 simp only [not_or,Bool.not_eq_false,Decidable.not_not,Int.not_le,Int.not_lt] at q;obtain ⟨q1,q2,q3,q4⟩:=q;split
 ·exact h
 rename_i hk
 simp only [Decidable.not_not] at hk;have hm:=hm q1 hk;split
 ·obtain ⟨a,b,e⟩:=Z5b s m;rw [e];exact h.of ⟨h.num.n1,h.num.n7,h.num.id0,h.num.idn,h.num.h0,h.num.h1,h.num.r0,h.num.r1,h.num.st1,h.num.st4,h.num.c0,h.num.c1,h.num.vr,h.num.lr⟩ (h.box.of rfl rfl rfl rfl rfl rfl h.box.vz2 h.box.lz rfl) rfl rfl rfl rfl
 split
 ·exact h
 split
 ·exact Zfm h ⟨hm.f0,q3⟩ hm
 have hn:∀(p c:List (Int×Msg D L)) (o:List Int),Zac ({s with props:=p,claims:=c,order:=o}:NS D L):=λp c o=>⟨h.num.n1,h.num.n7,h.num.id0,h.num.idn,h.num.h0,h.num.h1,h.num.r0,h.num.r1,h.num.st1,h.num.st4,h.num.c0,h.num.c1,h.num.vr,h.num.lr⟩;split
 ·refine h.of (hn _ s.claims s.order) ⟨h.box.vk,h.box.sk,h.box.sr,h.box.vz,Zan h.box.pk _ _,λp hp=>?_,h.box.ck,h.box.cr,h.box.ord,h.box.vz2,h.box.lz,h.box.oz⟩ rfl rfl rfl rfl;rcases Z43 hp with rfl | hp
  ·exact ⟨hm.r0,hm.r1,hm.v0,hm.v1,hm.dz⟩
  exact h.box.pr p hp
 split
 ·exact h
 rename_i hg
 refine h.of (hn s.props _ _) ⟨h.box.vk,h.box.sk,h.box.sr,h.box.vz,h.box.pk,h.box.pr,Z34 h.box.ck,λp hp=>?_,?_,h.box.vz2,h.box.lz,h.box.oz⟩ rfl rfl rfl rfl
 ·rcases Z2o hp with rfl | hp
  ·exact ⟨hm.f0,q3,hm.dz⟩
  exact h.box.cr p hp
 show s.order ++ [m.frm]=_;rw [Zh7 hg,h.box.ord,List.map_append];rfl
theorem Zq3 {sz:D->Prop} (hz:sz Dg.nil) {id n:Int} (h0:0<=id) (h1:id<n) (h7:n<=7):Z0x sz (Z42 id n:NS D L):=
 ⟨⟨by show 1<=n;omega,h7,h0,h1,by show (0:Int)<=0;omega,by show (0:Int)<1200;omega,by show (0:Int)<=0;omega,by show (0:Int)<=99;omega,by show (1:Int)<=1;omega,by show (1:Int)<=4;omega,Int.le_refl _,Int.le_refl _,λv hv=>Z1x hv,λv hv=>Z1x hv⟩,
  ⟨rfl,List.nodup_nil,λm hm=>Z21 hm,λm hm=>Z21 hm,λm hm=>Z21 hm⟩,
  ⟨List.nodup_nil,List.nodup_nil,λp hp=>Z21 hp,λp hp=>Z21 hp,List.nodup_nil,λp hp=>Z21 hp,List.nodup_nil,λp hp=>Z21 hp,rfl,λv hv=>Z1x hv,λv hv=>Z1x hv,λv hv=>Z1x hv⟩,hz⟩
theorem Zdh {sz:D->Prop} {s:NS D L} (h:Z0x sz s) {k r:Int} (h0:0<=k) (h1:k<1200) (r0:0<=r) (r1:r<=99):Z0x sz (s.moved k r):=
 ⟨⟨h.num.n1,h.num.n7,h.num.id0,h.num.idn,h0,h1,r0,r1,by show (1:Int)<=1;omega,by show (1:Int)<=4;omega,Int.le_refl _,Int.le_refl _,λv hv=>Z1x hv,λv hv=>Z1x hv⟩,
  ⟨rfl,List.nodup_nil,λm hm=>Z21 hm,λm hm=>Z21 hm,λm hm=>Z21 hm⟩,
  ⟨List.nodup_nil,List.nodup_nil,λp hp=>Z21 hp,λp hp=>Z21 hp,List.nodup_nil,λp hp=>Z21 hp,List.nodup_nil,λp hp=>Z21 hp,rfl,λv hv=>Z1x hv,λv hv=>Z1x hv,λv hv=>Z1x hv⟩,h.nil⟩
theorem Zkc {sz:D->Prop} {s:NS D L} (h:Z0x sz s) (k:Int) (ok:Bool) {d:D} (l:L) (hd:ok=true->sz d):Z0x sz (s.begin k ok d l).1:=by
 unfold NS.begin;split
 ·exact h
 rename_i hok
 have hd:=hd (by simpa using hok);split
 ·refine h.of ⟨h.num.n1,h.num.n7,h.num.id0,h.num.idn,h.num.h0,h.num.h1,h.num.r0,h.num.r1,h.num.st1,h.num.st4,h.num.c0,h.num.c1,h.num.vr,h.num.lr⟩ ⟨h.box.vk,h.box.sk,h.box.sr,h.box.vz,h.box.pk,h.box.pr,h.box.ck,h.box.cr,h.box.ord,h.box.vz2,h.box.lz,λv hv=>by cases hv;exact ⟨hd,rfl⟩⟩ rfl rfl rfl rfl
 split
 ·rename_i q
  have h:=Zdh h (k:=k) (r:=0) (by have:=h.num.h0;omega) q.2.2.1 (by omega) (by omega);refine h.of ⟨h.num.n1,h.num.n7,h.num.id0,h.num.idn,h.num.h0,h.num.h1,h.num.r0,h.num.r1,h.num.st1,h.num.st4,h.num.c0,h.num.c1,h.num.vr,h.num.lr⟩ ⟨h.box.vk,h.box.sk,h.box.sr,h.box.vz,h.box.pk,h.box.pr,h.box.ck,h.box.cr,h.box.ord,h.box.vz2,h.box.lz,λv hv=>by cases hv;exact ⟨hd,rfl⟩⟩ rfl rfl rfl rfl
 exact h
theorem Zih {sz:D->Prop} {s:NS D L} (h:Z0x sz s) (d:D):Z0x sz (s.accept d):=
 h.of ⟨h.num.n1,h.num.n7,h.num.id0,h.num.idn,h.num.h0,h.num.h1,h.num.r0,h.num.r1,h.num.st1,h.num.st4,h.num.c0,h.num.c1,h.num.vr,h.num.lr⟩ (h.box.of rfl rfl rfl rfl rfl rfl h.box.vz2 h.box.lz rfl) rfl rfl rfl rfl
theorem Zkd {sz:D->Prop} {s:NS D L} (h:Z0x sz s) (k:Int) (ok:Bool) (d:D) (l:L):Z0x sz (s.learn k ok d l).1:=by
 have key:∀x,Z0x sz ({s with decs:=x}:NS D L):=λx=>h.of ⟨h.num.n1,h.num.n7,h.num.id0,h.num.idn,h.num.h0,h.num.h1,h.num.r0,h.num.r1,h.num.st1,h.num.st4,h.num.c0,h.num.c1,h.num.vr,h.num.lr⟩ (h.box.of rfl rfl rfl rfl rfl rfl h.box.vz2 h.box.lz rfl) rfl rfl rfl rfl;unfold NS.learn;split
 ·exact h
 split
 ·split
  ·exact h
  exact key _
 exact key _
theorem Zdi {sz:D->Prop} {size:D->Bool} {round:Int} (hs:∀d,size d=true->sz d) (hr:round<=99):∀(keys:List (Int×D)) (last:Int) (s:NS D L),-1<=last->Z0x sz s->s.round=round->Z0t round size last keys=true->(∀p∈s.made,p.2<=last)->Z0x sz (keys.foldl (λs k=>s.say (vote 6 k.1 k.2)) s)
 | [],_,s,_,h,_,_,_=>h
 | k :: l,last,s,h1,h,hrd,ha,hm=>by
  unfold Z0t at ha;split at ha
  ·cases ha
  rename_i q
  simp only [not_or,Int.not_le,Bool.not_eq_false] at q;obtain ⟨q1,q2,q3⟩:=q;rw [List.foldl_cons];obtain ⟨hb,e1,e2,e3,e4,e5⟩:=Z0j s (vote 6 k.1 k.2:Msg D L);refine Zdi hs hr l k.1 _ (by omega) (Zfi h ⟨by omega,by omega⟩ (hs _ q3) (λhk=>by have:=hm _ hk;simp at this;omega)) (by rw [e1];exact hrd) ha (λp hp=>?_);rw [e5] at hp;rcases Z1t.1 hp with hp | hp
  ·have:=hm p hp;omega
  subst hp;exact Int.le_refl _
theorem Zii {sz:D->Prop} {s:NS D L} (h:Z0x sz s) {size:D->Bool} (hs:∀d,size d=true->sz d) (height round locked:Int) (ok:Bool) {d:D} (l:L) (empty:Bool) (keys:List (Int×D)) (hd:ok=true->sz d):Z0x sz (s.resume height round locked ok d l empty keys (Z0t round size (-1) keys)).1:=by
 unfold NS.resume;split
 ·exact h
 rename_i q
 simp only [not_or,Int.not_le,Int.not_lt,Bool.not_eq_false] at q;split
 ·exact h
 rename_i q2
 simp only [not_or,Bool.not_eq_false] at q2;have h1:=Zdh h (k:=height) (r:=round) (by omega) (by omega) (by omega) (by omega);refine Zdi hs (by omega) keys (-1) _ (by omega) ?_ ?_ q2.1 ?_
 ·split
  ·refine h1.of ⟨h1.num.n1,h1.num.n7,h1.num.id0,h1.num.idn,h1.num.h0,h1.num.h1,h1.num.r0,h1.num.r1,h1.num.st1,h1.num.st4,h1.num.c0,h1.num.c1,λv hv=>(by cases hv;show 0<=locked∧locked<=99;omega),λv hv=>(by cases hv;show 0<=locked∧locked<=99;omega)⟩ (h1.box.of rfl rfl rfl rfl rfl rfl (λv hv=>by cases hv;exact hd q.1) (λv hv=>by cases hv;exact hd q.1) rfl) rfl rfl rfl rfl
  exact h1
 ·split <;> rfl
 intro p hp;split at hp <;> exact absurd hp (by simp [NS.moved])
theorem Z35 {sz:D->Prop} {s:NS D L} (h:Z0x sz s):Z0x sz s.ticked:=by
 have:=h.num.c0;have:=h.num.c1;refine h.of ⟨h.num.n1,h.num.n7,h.num.id0,h.num.idn,h.num.h0,h.num.h1,h.num.r0,h.num.r1,h.num.st1,h.num.st4,?_,?_,h.num.vr,h.num.lr⟩ (h.box.of rfl rfl rfl rfl rfl rfl h.box.vz2 h.box.lz rfl) rfl rfl rfl rfl
 ·show 0<=(if s.waiting then s.clock else s.clock+1);split <;> omega
 show (if s.waiting then s.clock else s.clock+1)<=s.ticks+1;split <;> omega
theorem Z2l {sz:D->Prop} {s:NS D L} (h:Z0x sz s):Z0x sz {s with ques:=[]}:=
 h.of ⟨h.num.n1,h.num.n7,h.num.id0,h.num.idn,h.num.h0,h.num.h1,h.num.r0,h.num.r1,h.num.st1,h.num.st4,h.num.c0,h.num.c1,h.num.vr,h.num.lr⟩ (h.box.of rfl rfl rfl rfl rfl rfl h.box.vz2 h.box.lz rfl) rfl rfl rfl rfl
theorem Zh9 {sz:D->Prop} {s:NS D L} (h:Z0x sz s):Z0x sz s.tick.1:=by
 unfold NS.tick;simp only;split
 ·exact Z2l h
 exact Zdg (Z35 (Z2l h))
end
class DgL (D:Type) [Dg D]:Prop where
 irr:∀a:D,Dg.lt a a=false
 trans:∀a b c:D,Dg.lt a b=true->Dg.lt b c=true->Dg.lt a c=true
 tri:∀a b:D,Dg.lt a b=false->Dg.lt b a=false->a=b
section
variable {D:Type} [Dg D]
def bst (b p:D×Int):D×Int:=if b.2<p.2∨(p.2=b.2∧Dg.lt p.1 b.1=true) then p else b
def Z44 (S:D×Int->Prop) (b:D×Int):Prop:=((∀p,¬S p)∧b=(Dg.nil,0))∨(S b∧∀p,S p->p.2<b.2∨(p.2=b.2∧Dg.lt p.1 b.1=false))
theorem Z44.step [DgL D] {S:D×Int->Prop} {b:D×Int} (h:Z44 S b) {p:D×Int} (hp:1<=p.2):Z44 (λx=>S x∨x=p) (bst b p):=by
 unfold bst;rcases h with ⟨h1,rfl⟩ | ⟨h1,h2⟩
 ·rw [if_pos (.inl (by show (0:Int)<p.2;omega))];exact .inr ⟨.inr rfl,λx hx=>by
   rcases hx with hx | rfl
   ·exact absurd hx (h1 x)
   exact .inr ⟨rfl,DgL.irr _⟩⟩
 split
 ·rename_i q
  refine .inr ⟨.inr rfl,λx hx=>?_⟩;rcases hx with hx | rfl
  ·rcases q with q | ⟨q1,q2⟩
   ·rcases h2 x hx with r | r
    ·left;omega
    left;omega
   rcases h2 x hx with r | ⟨r1,r2⟩
   ·left;omega
   refine .inr ⟨by omega,?_⟩;rcases hl:Dg.lt x.1 p.1 with _ | _
   ·rfl
   exact absurd (DgL.trans _ _ _ hl q2) (by rw [r2];simp)
  exact .inr ⟨rfl,DgL.irr _⟩
 rename_i q
 simp only [not_or,not_and,Int.not_lt,Bool.not_eq_true] at q;refine .inr ⟨.inl h1,λx hx=>?_⟩;rcases hx with hx | rfl
 ·exact h2 x hx
 by_cases e:x.2=b.2
 ·exact .inr ⟨e,q.2 e⟩
 left;have:=q.1;omega
theorem Z44.uniq [DgL D] {S:D×Int->Prop} {b c:D×Int} (h:Z44 S b) (h2:Z44 S c):b=c:=by
 rcases h with ⟨h,rfl⟩ | ⟨h,hb⟩ <;> rcases h2 with ⟨h2,rfl⟩ | ⟨h2,hc⟩
 ·rfl
 ·exact absurd h2 (h _)
 ·exact absurd h (h2 _)
 rcases hb c h2 with q | ⟨q,q1⟩ <;> rcases hc b h with r | ⟨r,r1⟩
 ·omega
 ·omega
 ·omega
 exact Prod.ext (DgL.tri _ _ r1 q1) r
theorem Z44.of {S T:D×Int->Prop} {b:D×Int} (h:Z44 S b) (e:∀p,S p↔T p):Z44 T b:=by
 have:S=T:=funext λp=>propext (e p);exact this ▸ h
theorem Z8x [DgL D]:∀(l:List (D×Int)) (S:D×Int->Prop) (b:D×Int),(∀p∈l,1<=p.2)->Z44 S b->Z44 (λx=>S x∨x∈l) (l.foldl bst b)
 | [],S,b,_,h=>h.of (λp=>by simp)
 | p :: l,S,b,h1,h=>by
  rw [List.foldl_cons];exact (Z8x l _ _ (λq hq=>h1 q (by simp [hq])) (h.step (h1 p (by simp)))).of (λx=>by simp [or_assoc])
theorem Znh (l:List D):Z5x l=(l.map λd=>(d,(l.count d:Int))).foldl bst (Dg.nil,0):=by
 unfold Z5x;rw [List.foldl_map];rfl
theorem Z7n [DgL D] (l:List D):Z44 (λp=>p.1∈l∧p.2=(l.count p.1:Int)) (Z5x l):=by
 rw [Znh];refine (Z8x _ (λ_=>False) _ (λp hp=>?_) (.inl ⟨λp h=>h,rfl⟩)).of (λp=>?_)
 ·obtain ⟨d,hd,rfl⟩:=List.mem_map.1 hp;have:=List.count_pos_iff.2 hd;simp only;omega
 rw [List.mem_map];constructor
 ·rintro (h | ⟨d,hd,rfl⟩)
  ·exact h.elim
  exact ⟨hd,rfl⟩
 rintro ⟨h1,h2⟩;exact .inr ⟨p.1,h1,Prod.ext rfl h2.symm⟩
def Z1i (l:List D):List (D×Int):=l.foldl (λc d=>Z18 d ((Z02 d c).getD 0+1) c) []
theorem Z5c (l:List D):∀d,Z02 d (Z1i l)=if d∈l then some (l.count d:Int) else none:=by
 have:∀(t p:List D) (c:List (D×Int)),(∀d,Z02 d c=if d∈p then some (p.count d:Int) else none)->∀d,Z02 d (t.foldl (λc d=>Z18 d ((Z02 d c).getD 0+1) c) c)=if d∈p ++ t then some ((p ++ t).count d:Int) else none:=by
  intro t;induction t with
  | nil=>intro p c h d;simpa using h d
  | cons x t ih=>
   intro p c h d;rw [List.foldl_cons];have:=ih (p ++ [x]) (Z18 x ((Z02 x c).getD 0+1) c) (λe=>?_) d
   ·rw [this];simp
   rw [Z29];by_cases q:e=x
   ·subst q;rw [if_pos rfl,h e];by_cases m:e∈p
    ·rw [if_pos m];simp [List.count_append]
    rw [if_neg m];simp [List.count_append,List.count_eq_zero_of_not_mem m]
   rw [if_neg q,h e];have q2:¬x=e:=λr=>q r.symm;simp [List.count_append,q,q2]
 intro d;exact this l [] [] (λd=>by simp [Z02]) d
theorem Zdj (l:List D):((Z1i l).map (·.1)).Nodup:=by
 unfold Z1i;have:∀(t:List D) (c:List (D×Int)),(c.map (·.1)).Nodup->((t.foldl (λc d=>Z18 d ((Z02 d c).getD 0+1) c) c).map (·.1)).Nodup:=by
  intro t;induction t with
  | nil=>intro c h;exact h
  | cons x t ih=>intro c h;exact ih _ (Z34 h)
 exact this l [] (by simp)
theorem Zao (l:List D) (p:D×Int):p∈Z1i l↔p.1∈l∧p.2=(l.count p.1:Int):=by
 constructor
 ·intro h;have:=Zfg (Zdj l) (k:=p.1) (v:=p.2) h;rw [Z5c] at this;split at this
  ·rename_i q;exact ⟨q,(Option.some.inj this).symm⟩
  cases this
 rintro ⟨h1,h2⟩;have:=Z5c l p.1;rw [if_pos h1,<-h2] at this;exact Z0r this
theorem Zni [DgL D] (l:List D) {c:List (D×Int)} (h:c.Perm (Z1i l)):c.foldl bst (Dg.nil,0)=Z5x l:=by
 refine Z44.uniq (S:=λp=>p.1∈l∧p.2=(l.count p.1:Int)) ((Z8x c (λ_=>False) _ (λp hp=>?_) (.inl ⟨λp h=>h,rfl⟩)).of (λp=>?_)) (Z7n l)
 ·obtain ⟨h1,h2⟩:=(Zao l p).1 (h.mem_iff.1 hp);have:=List.count_pos_iff.2 h1;omega
 rw [h.mem_iff,Zao];simp
end
end Go.Proofs.YtifcdjmcoibblaaGreatDoor
