/- ConJ ConK ConL -/
import Derived.Test.YtifcdjmcoibblaaGreatDoorFq05
set_option linter.unusedVariables false
set_option linter.unusedSimpArgs false
set_option linter.unusedSectionVars false
namespace Go.Proofs.YtifcdjmcoibblaaGreatDoor
section
variable {D L:Type} [Dg D] [Inhabited L]
theorem openK_le (kind:Int) (made:List (Int×Int)):∀n,openK kind made n≤n
 | 0=>Nat.le_refl _
 | n+1=>by unfold openK;have:=openK_le kind made n;split <;> omega
theorem openK_mono {kind:Int} {a b:List (Int×Int)} (h:∀x∈a,x∈b):∀n,openK kind b n≤openK kind a n
 | 0=>Nat.le_refl _
 | n+1=>by
  unfold openK;have:=openK_mono (kind:=kind) h n;by_cases q:(kind,(n:Int))∈a
  ·rw [if_pos q,if_pos (h _ q)];omega
  rw [if_neg q];split <;> omega
theorem openK_new {kind r:Int} {a:List (Int×Int)} (hr:0≤r) (hn:(kind,r)∉a):∀n:Nat,r<n→openK kind (insA (kind,r) a) n+1≤openK kind a n
 | 0,h=>by omega
 | n+1,h=>by
  unfold openK;have hm:=openK_mono (kind:=kind) (a:=a) (b:=insA (kind,r) a) (fun x hx=>mem_insA.2 (.inl hx)) n;by_cases q:r=n
  ·have e1:(kind,(n:Int))∈insA (kind,r) a:=mem_insA.2 (.inr (by rw [q]));have e2:(kind,(n:Int))∉a:=by rw [←q];exact hn
   rw [if_pos e1,if_neg e2];omega
  have ih:=openK_new hr hn n (by omega);by_cases e1:(kind,(n:Int))∈a
  ·rw [if_pos e1,if_pos (mem_insA.2 (.inl e1))];omega
  rw [if_neg e1];split <;> omega
theorem NumI.of {s s':NS D L} (h:NumI s) (hb:SameBut s s') (hr:s'.round=s.round) (hs:s'.step=s.step) (hc:s'.clock=s.clock):NumI s':=
 ⟨by rw [hb.n];exact h.n1,by rw [hb.n];exact h.n7,by rw [hb.id];exact h.id0,by rw [hb.id,hb.n];exact h.idn,by rw [hb.height];exact h.h0,by rw [hb.height];exact h.h1,by rw [hr];exact h.r0,by rw [hr];exact h.r1,by rw [hs];exact h.st1,by rw [hs];exact h.st4,by rw [hc];exact h.c0,by rw [hc,hb.ticks];exact h.c1,by rw [hb.valid];exact h.vr,by rw [hb.lock];exact h.lr⟩
theorem num_enter {s:NS D L} (h:NumI s) {k:Int} (h1:1≤k) (h4:k≤4):NumI (s.enter k):=
 ⟨h.n1,h.n7,h.id0,h.idn,h.h0,h.h1,h.r0,h.r1,h1,h4,Int.le_refl _,by have:=h.c0;have:=h.c1;show (0:Int)≤s.ticks;omega,h.vr,h.lr⟩
theorem cast_inv {sz:D→Prop} {s:NS D L} (h:InvS sz s) {k:Int} {d:D} {st:Int} (hk:k=4∨k=5) (hd:sz d) (h1:1≤s.step∧s.step≤st) (h4:st≤4) (hnew:∀m∈s.mine,m.kind=k→m.round≠s.round)
  (hst4:2≤st) (hst5:k=5→st=4) (hno5:k=4→∀m∈s.mine,m.kind=5→m.round<s.round):InvS sz (s.cast k d st):=by
 obtain ⟨hb,e1,e2,e3,e4,e5⟩:=say_same s (vote k s.round d:Msg D L);have hnm:=not_made h.min hnew;have hr:0≤s.round∧s.round≤99:=⟨h.num.r0,h.num.r1⟩;refine ⟨num_enter (h.num.of hb e1 e2 e3) (by omega) h4,?_,box_enter (say_box h.box h.num hr (show (-1:Int)≤0∧(0:Int)≤99 by omega) hd) _,h.nil⟩;refine mine_say h.min (m:=vote k s.round d) (show 3≤k∧k≤6 by omega) hr hnm e4 e5 ?_ ?_
 ·intro x hx hx4;show x.round<(s.say _).round∨(x.round=(s.say _).round∧2≤st);rw [e1];rcases List.mem_append.1 hx with q | q
  ·rcases h.min.no4 x q hx4 with q1 | q1
   ·exact .inl q1
   exact .inr ⟨q1.1,hst4⟩
  simp at q;subst q;exact .inr ⟨rfl,hst4⟩
 intro x hx hx5;show x.round<(s.say _).round∨(x.round=(s.say _).round∧st=4);rw [e1];rcases List.mem_append.1 hx with q | q
 ·rcases hk with hk | hk
  ·exact .inl (hno5 hk x q hx5)
  rcases h.min.no5 x q hx5 with q1 | q1
  ·exact .inl q1
  exact absurd q1.1 (hnew x q (by omega))
 simp at q;subst q;exact .inr ⟨rfl,hst5 hx5⟩
theorem key_inv {sz:D→Prop} {s:NS D L} (h:InvS sz s) {r:Int} {d:D} (hr:0≤r∧r≤99) (hd:sz d) (hnew:((6:Int),r)∉s.made):InvS sz (s.say (vote 6 r d)):=by
 obtain ⟨hb,e1,e2,e3,e4,e5⟩:=say_same s (vote 6 r d:Msg D L);refine ⟨h.num.of hb e1 e2 e3,?_,say_box h.box h.num hr (show (-1:Int)≤0∧(0:Int)≤99 by omega) hd,h.nil⟩;refine mine_say h.min (m:=vote 6 r d) (show (3:Int)≤6∧(6:Int)≤6 by omega) hr hnew e4 e5 ?_ ?_
 ·intro x hx hx4;rw [e1,e2];rcases List.mem_append.1 hx with q | q
  ·exact h.min.no4 x q hx4
  simp at q;subst q;simp [vote] at hx4
 intro x hx hx5;rw [e1,e2];rcases List.mem_append.1 hx with q | q
 ·exact h.min.no5 x q hx5
 simp at q;subst q;simp [vote] at hx5
theorem mem_voters {n:Nat} {votes:List (Bal×D)} {kind height round:Int} {d:D} (h:d∈voters n votes kind height round):∃i:Nat,i<n∧getA ((i:Int),kind,height,round) votes=some d:=by
 unfold voters at h;obtain ⟨i,hi,hd⟩:=List.mem_filterMap.1 h;exact ⟨i,List.mem_range.1 hi,hd⟩
theorem mostL_mem (l:List D):(mostL l).1=Dg.nil∨(mostL l).1∈l:=by
 unfold mostL;have:∀(l2:List D) (b:D×Int),(∀x∈l2,x∈l)→(b.1=Dg.nil∨b.1∈l)→((l2.foldl (fun b d=>if b.2<(l.count d:Int)∨((l.count d:Int)=b.2∧Dg.lt d b.1=true) then (d,(l.count d:Int)) else b) b).1=Dg.nil∨(l2.foldl (fun b d=>if b.2<(l.count d:Int)∨((l.count d:Int)=b.2∧Dg.lt d b.1=true) then (d,(l.count d:Int)) else b) b).1∈l):=by
  intro l2;induction l2 with
  | nil=>intro b _ h;exact h
  | cons x t ih=>
   intro b hm h;rw [List.foldl_cons];refine ih _ (fun y hy=>hm y (by simp [hy])) ?_;split
   ·exact .inr (hm x (by simp))
   exact h
 exact this l _ (fun x h=>h) (.inl rfl)
theorem most_sz {sz:D→Prop} {s:NS D L} (h:InvS sz s) (kind r:Int):sz (s.most kind r).1:=by
 unfold NS.most;rcases mostL_mem (voters s.n.toNat s.votes kind s.height r) with q | q
 ·rw [q];exact h.nil
 obtain ⟨i,_,hi⟩:=mem_voters q;exact h.box.vz _ (getA_mem hi)
theorem chosen_sz {sz:D→Prop} {s:NS D L} (h:InvS sz s) {kind r:Int} {d:D} (hc:s.chosen kind r=some d):sz d∧d≠Dg.nil:=by
 unfold NS.chosen at hc;simp only at hc;split at hc
 ·rename_i q;cases hc;exact ⟨most_sz h kind r,q.1⟩
 cases hc
theorem chosenList_sz {sz:D→Prop} {s:NS D L} (h:InvS sz s) {kind r:Int} {v:Val D L} (hc:s.chosenList kind r=some v):sz v.dig∧v.round=r∧s.chosen kind r=some v.dig∧s.known v.dig=some v.list:=by
 unfold NS.chosenList at hc;split at hc
 ·cases hc
 rename_i d hd
 split at hc
 ·cases hc
 rename_i l hl
 cases hc;exact ⟨(chosen_sz h hd).1,rfl,hd,hl⟩
theorem rDecide_inv {sz:D→Prop} {s s':NS D L} (h:InvS sz s) (he:s.rDecide=some s'):InvS sz s'∧s'.isDec s'.height=true∧s'.ticks=s.ticks:=by
 have key:∀v,InvS sz {s with decs:=putA s.height v s.decs}∧({s with decs:=putA s.height v s.decs}:NS D L).isDec s.height=true:=fun v=>
  ⟨⟨⟨h.num.n1,h.num.n7,h.num.id0,h.num.idn,h.num.h0,h.num.h1,h.num.r0,h.num.r1,h.num.st1,h.num.st4,h.num.c0,h.num.c1,h.num.vr,h.num.lr⟩,⟨h.min.made,h.min.nodup,h.min.rng,h.min.no4,h.min.no5⟩,h.box.of rfl rfl rfl rfl rfl rfl h.box.vz2 h.box.lz rfl,h.nil⟩,by unfold NS.isDec;simp only [getA_put];simp⟩
 unfold NS.rDecide at he;split at he
 ·cases he;exact ⟨(key _).1,(key _).2,rfl⟩
 split at he
 ·cases he;exact ⟨(key _).1,(key _).2,rfl⟩
 cases he
theorem rSpread_inv {sz:D→Prop} {s s':NS D L} (h:InvS sz s) (he:s.rSpread=some s'):InvS sz s'∧s'.mu<s.mu∧SameBut s s':=by
 unfold NS.rSpread at he;obtain ⟨k,hk,hf,_⟩:=firstR_some he;have:=h.num.r0;have:=h.num.r1;simp only at hf;split at hf
 ·rename_i q
  cases hf;obtain ⟨hb,e1,e2,e3,e4,e5⟩:=say_same s (vote 6 k (s.most 6 k).1:Msg D L);refine ⟨key_inv h (show (0:Int)≤k∧(k:Int)≤99 by omega) (most_sz h _ _) q.1,?_,hb⟩;have e6:(s.say (vote 6 k (s.most 6 k).1)).made=insA (6,(k:Int)) s.made:=e5;unfold NS.mu NS.least;rw [e1,e2,e6,hb.valid];have:=openK_new (kind:=6) (r:=k) (by omega) q.1 100 (by omega);have:=openK_mono (kind:=3) (a:=s.made) (b:=insA (6,(k:Int)) s.made) (fun x hx=>mem_insA.2 (.inl hx)) 100;omega
 cases hf
theorem rValidate_inv {sz:D→Prop} {s s':NS D L} (h:InvS sz s) (he:s.rValidate=some s'):InvS sz s'∧s'.mu<s.mu:=by
 unfold NS.rValidate at he;obtain ⟨k,hk,hf,_⟩:=firstR_some he;have:=h.num.r0;have:=h.num.r1;try simp only at hf
 have hl:-1≤s.least:=by
  unfold NS.least;split
  ·rename_i v hv;have:=h.num.vr v hv;omega
  omega
 rcases hc:s.chosenList 6 (s.round - k) with _ | v
 ·rw [hc] at hf;cases hf
 rw [hc] at hf;cases hf;obtain ⟨z1,z2,_⟩:=chosenList_sz h hc;refine ⟨⟨⟨h.num.n1,h.num.n7,h.num.id0,h.num.idn,h.num.h0,h.num.h1,h.num.r0,h.num.r1,h.num.st1,h.num.st4,h.num.c0,h.num.c1,fun x hx=>?_,h.num.lr⟩,⟨h.min.made,h.min.nodup,h.min.rng,h.min.no4,h.min.no5⟩,h.box.of rfl rfl rfl rfl rfl rfl (fun x hx=>?_) h.box.lz rfl,h.nil⟩,?_⟩
 ·cases hx;omega
 ·cases hx;exact z1
 show 5 * (100 - s.round).toNat+(4 - s.step).toNat+openK 6 s.made 100+openK 3 s.made 100+(100 - v.round).toNat<5 * (100 - s.round).toNat+(4 - s.step).toNat+openK 6 s.made 100+openK 3 s.made 100+(100 - s.least).toNat;omega
theorem rFollow_inv {sz:D→Prop} {s s':NS D L} (h:InvS sz s) (he:s.rFollow=some s'):InvS sz s'∧s'.mu<s.mu:=by
 unfold NS.rFollow at he;obtain ⟨k,hk,hf,_⟩:=firstR_some he;have:=h.num.r0;have:=h.num.r1;have:=h.num.st1;have:=h.num.st4;try simp only at hf
 split at hf
 ·cases hf;obtain ⟨q,hq⟩:∃q:Int,(99:Int) - k=q:=⟨_,rfl⟩;rw [hq];have hq1:s.round<q∧q≤99:=by omega
  have hI:InvS sz ({s with round:=q,step:=4}:NS D L):=by
   refine ⟨⟨h.num.n1,h.num.n7,h.num.id0,h.num.idn,h.num.h0,h.num.h1,by show 0≤q;omega,hq1.2,by show (1:Int)≤4;omega,by show (4:Int)≤4;omega,h.num.c0,h.num.c1,h.num.vr,h.num.lr⟩,⟨h.min.made,h.min.nodup,h.min.rng,fun m hm h4=>?_,fun m hm h5=>?_⟩,h.box.of rfl rfl rfl rfl rfl rfl h.box.vz2 h.box.lz rfl,h.nil⟩
   ·have:=h.min.no4 m hm h4;left;show m.round<q;omega
   have:=h.min.no5 m hm h5;left;show m.round<q;omega
  have e0:({s with round:=q}:NS D L).cast 5 Dg.nil 4=({s with round:=q,step:=4}:NS D L).cast 5 Dg.nil 4:=by
   rcases hg:getA (s.id,(5:Int),s.height,q) s.votes with _ | x <;> simp [NS.cast,NS.say,vote,NS.enter,NS.putVote,hg]
  obtain ⟨hb,e1,e2,e3,e4,e5⟩:=say_same ({s with round:=q,step:=4}:NS D L) (vote 5 q Dg.nil:Msg D L);rw [e0];refine ⟨cast_inv hI (.inr rfl) h.nil (show (1:Int)≤4∧(4:Int)≤4 by omega) (by omega) (fun m hm h5=>?_) (by omega) (fun _=>rfl) (fun q=>by omega),?_⟩
  ·have:=h.min.no5 m hm h5;show m.round≠q;omega
  have f1:(({s with round:=q,step:=4}:NS D L).cast 5 Dg.nil 4).round=q:=e1;have f2:(({s with round:=q,step:=4}:NS D L).cast 5 Dg.nil 4).step=4:=rfl;have f3:(({s with round:=q,step:=4}:NS D L).cast 5 Dg.nil 4).made=insA (5,q) s.made:=e5;have f4:(({s with round:=q,step:=4}:NS D L).cast 5 Dg.nil 4).least=s.least:=by
   unfold NS.least;rw [show (({s with round:=q,step:=4}:NS D L).cast 5 Dg.nil 4).valid=s.valid from hb.valid]
  unfold NS.mu;rw [f1,f2,f3,f4];have:=openK_mono (kind:=6) (a:=s.made) (b:=insA (5,q) s.made) (fun x hx=>mem_insA.2 (.inl hx)) 100;have:=openK_mono (kind:=3) (a:=s.made) (b:=insA (5,q) s.made) (fun x hx=>mem_insA.2 (.inl hx)) 100;omega
 cases hf
theorem rPropose_inv {sz:D→Prop} {s s':NS D L} (h:InvS sz s) (he:s.rPropose=some s'):InvS sz s'∧s'.mu<s.mu:=by
 unfold NS.rPropose at he;have:=h.num.r0;have:=h.num.r1;split at he
 ·cases he
 rename_i v hv
 split at he
 ·cases he
 rename_i q
 simp only [not_or,Decidable.not_not] at q;obtain ⟨q1,q2,q3⟩:=q;cases he;have hz:sz v.dig∧-1≤v.round∧v.round≤99:=by
  unfold NS.toPropose at hv;split at hv
  ·rename_i u hu
   split at hv
   ·cases hv;have:=h.num.vr v hu;exact ⟨h.box.vz2 v hu,by omega,by omega⟩
   have:=h.box.oz v hv;exact ⟨this.1,by omega,by omega⟩
  have:=h.box.oz v hv;exact ⟨this.1,by omega,by omega⟩
 obtain ⟨hb,e1,e2,e3,e4,e5⟩:=say_same s (⟨3,0,0,0,s.round,v.round,v.dig,v.list⟩:Msg D L);refine ⟨⟨h.num.of hb e1 e2 e3,?_,say_box h.box h.num ⟨h.num.r0,h.num.r1⟩ hz.2 hz.1,h.nil⟩,?_⟩
 ·refine mine_say h.min (m:=⟨3,0,0,0,s.round,v.round,v.dig,v.list⟩) (show (3:Int)≤3∧(3:Int)≤6 by omega) ⟨h.num.r0,h.num.r1⟩ q3 e4 e5 ?_ ?_
  ·intro x hx hx4;rw [e1,e2];rcases List.mem_append.1 hx with q | q
   ·exact h.min.no4 x q hx4
   simp at q;subst q;simp at hx4
  intro x hx hx5;rw [e1,e2];rcases List.mem_append.1 hx with q | q
  ·exact h.min.no5 x q hx5
  simp at q;subst q;simp at hx5
 have e6:(s.say (⟨3,0,0,0,s.round,v.round,v.dig,v.list⟩:Msg D L)).made=insA (3,s.round) s.made:=e5;unfold NS.mu NS.least;rw [e1,e2,e6,hb.valid];have:=openK_new (kind:=3) (r:=s.round) (by omega) q3 100 (by omega);have:=openK_mono (kind:=6) (a:=s.made) (b:=insA (3,s.round) s.made) (fun x hx=>mem_insA.2 (.inl hx)) 100;omega
theorem cast_mu {s:NS D L} {k st:Int} {d:D} (h1:s.step<st) (h4:st≤4):(s.cast k d st).mu<s.mu:=by
 obtain ⟨hb,e1,e2,e3,e4,e5⟩:=say_same s (vote k s.round d:Msg D L);have f1:(s.cast k d st).round=s.round:=e1;have f2:(s.cast k d st).step=st:=rfl;have f3:(s.cast k d st).made=insA (k,s.round) s.made:=e5;have f4:(s.cast k d st).least=s.least:=by
  unfold NS.least;rw [show (s.cast k d st).valid=s.valid from hb.valid]
 unfold NS.mu;rw [f1,f2,f3,f4];have:=openK_mono (kind:=6) (a:=s.made) (b:=insA (k,s.round) s.made) (fun x hx=>mem_insA.2 (.inl hx)) 100;have:=openK_mono (kind:=3) (a:=s.made) (b:=insA (k,s.round) s.made) (fun x hx=>mem_insA.2 (.inl hx)) 100;omega
theorem first_inv {sz:D→Prop} {s:NS D L} (h:InvS sz s) (h1:s.step=1) {d:D} (hd:sz d):InvS sz (s.cast 4 d 2)∧(s.cast 4 d 2).mu<s.mu:=
 ⟨cast_inv h (.inl rfl) hd (by omega) (by omega) (fun m hm h4=>by have:=h.min.no4 m hm h4;omega) (by omega) (fun q=>by omega) (fun _ m hm h5=>by have:=h.min.no5 m hm h5;omega),cast_mu (by omega) (by omega)⟩
theorem second_inv {sz:D→Prop} {s:NS D L} (h:InvS sz s) (h1:s.step=2∨s.step=3) {d:D} (hd:sz d):InvS sz (s.cast 5 d 4)∧(s.cast 5 d 4).mu<s.mu:=
 ⟨cast_inv h (.inr rfl) hd (by omega) (by omega) (fun m hm h5=>by have:=h.min.no5 m hm h5;omega) (by omega) (fun _=>rfl) (fun q=>by omega),cast_mu (by omega) (by omega)⟩
theorem rPrevote_inv {sz:D→Prop} {s s':NS D L} (h:InvS sz s) (he:s.rPrevote=some s'):InvS sz s'∧s'.mu<s.mu:=by
 unfold NS.rPrevote at he;split at he
 ·cases he
 rename_i p hp
 split at he
 ·cases he
 rename_i q
 split at he
 ·cases he
 simp only [not_or,Decidable.not_not] at q;cases he;refine first_inv h q.1 ?_;have hz:=(h.box.pr _ (getA_mem hp)).2.2.2.2;split
 ·split
  ·exact h.nil
  exact hz
 exact hz
theorem rMiss_inv {sz:D→Prop} {s s':NS D L} (h:InvS sz s) (he:s.rMiss=some s'):InvS sz s'∧s'.mu<s.mu:=by
 unfold NS.rMiss at he;split at he
 ·cases he
 rename_i q
 simp only [not_or,Decidable.not_not] at q;cases he;exact first_inv h q.1 h.nil
theorem enter_inv {sz:D→Prop} {s:NS D L} (h:InvS sz s) {k:Int} (h1:s.step<k) (h4:k<4) (h2:2≤s.step):InvS sz (s.enter k)∧(s.enter k).mu<s.mu:=by
 have:=h.num.st1;refine ⟨⟨num_enter h.num (by omega) (by omega),⟨h.min.made,h.min.nodup,h.min.rng,fun m hm q=>?_,fun m hm q=>?_⟩,box_enter h.box _,h.nil⟩,?_⟩
 ·rcases h.min.no4 m hm q with r | r
  ·exact .inl r
  exact .inr ⟨r.1,show 2≤k by omega⟩
 ·rcases h.min.no5 m hm q with r | r
  ·exact .inl r
  omega
 show 5 * (100 - s.round).toNat+(4 - k).toNat+openK 6 s.made 100+openK 3 s.made 100+(100 - s.least).toNat<5 * (100 - s.round).toNat+(4 - s.step).toNat+openK 6 s.made 100+openK 3 s.made 100+(100 - s.least).toNat;omega
theorem rKey_inv {sz:D→Prop} {s s':NS D L} (h:InvS sz s) (he:s.rKey=some s'):InvS sz s'∧s'.mu<s.mu:=by
 unfold NS.rKey at he;have:=h.num.r0;have:=h.num.r1;have:=h.num.st1;split at he
 ·cases he
 rename_i d hd
 split at he
 ·cases he
 rename_i q
 simp only [not_or] at q;obtain ⟨q1,q2⟩:=q;obtain ⟨hb,e1,e2,e3,e4,e5⟩:=say_same s (vote 6 s.round d:Msg D L);have hI:=key_inv h ⟨h.num.r0,h.num.r1⟩ (chosen_sz h hd).1 q2;have hm:(s.say (vote 6 s.round d)).mu<s.mu:=by
  have e6:(s.say (vote 6 s.round d:Msg D L)).made=insA (6,s.round) s.made:=e5;unfold NS.mu NS.least;rw [e1,e2,e6,hb.valid];have:=openK_new (kind:=6) (r:=s.round) (by omega) q2 100 (by omega);have:=openK_mono (kind:=3) (a:=s.made) (b:=insA (6,s.round) s.made) (fun x hx=>mem_insA.2 (.inl hx)) 100;omega
 simp only at he;cases he;split
 ·rename_i q3
  have:=enter_inv hI (k:=3) (by omega) (by omega) (by omega);exact ⟨this.1,by omega⟩
 exact ⟨hI,hm⟩
theorem rWait_inv {sz:D→Prop} {s s':NS D L} (h:InvS sz s) (he:s.rWait=some s'):InvS sz s'∧s'.mu<s.mu:=by
 unfold NS.rWait at he;split at he
 ·cases he
 rename_i q
 simp only [Decidable.not_not] at q;split at he
 ·cases he;exact enter_inv h (by omega) (by omega) (by omega)
 split at he
 ·cases he;exact second_inv h (.inl q) h.nil
 cases he
theorem rSeal_inv {sz:D→Prop} {s s':NS D L} (h:InvS sz s) (he:s.rSeal=some s'):InvS sz s'∧s'.mu<s.mu:=by
 unfold NS.rSeal at he;have:=h.num.r0;have:=h.num.r1;split at he
 ·cases he
 rename_i v hv
 split at he
 ·cases he
 rename_i q
 simp only [Decidable.not_not] at q;cases he;obtain ⟨z1,z2,_⟩:=chosenList_sz h hv;have hI:InvS sz ({s with lock:=some v}:NS D L):=⟨⟨h.num.n1,h.num.n7,h.num.id0,h.num.idn,h.num.h0,h.num.h1,h.num.r0,h.num.r1,h.num.st1,h.num.st4,h.num.c0,h.num.c1,h.num.vr,fun x hx=>by cases hx;omega⟩,⟨h.min.made,h.min.nodup,h.min.rng,h.min.no4,h.min.no5⟩,h.box.of rfl rfl rfl rfl rfl rfl h.box.vz2 (fun x hx=>by cases hx;exact z1) rfl,h.nil⟩;have:=second_inv hI (.inr q) z1;exact ⟨this.1,this.2⟩
theorem rLeave_inv {sz:D→Prop} {s s':NS D L} (h:InvS sz s) (he:s.rLeave=some s'):InvS sz s'∧s'.mu<s.mu:=by
 unfold NS.rLeave at he;split at he
 ·cases he
 rename_i q
 simp only [not_or,Decidable.not_not] at q;cases he;exact second_inv h (.inr q.1) h.nil
theorem rNext_inv {sz:D→Prop} {s s':NS D L} (h:InvS sz s) (he:s.rNext=some s'):InvS sz s'∧s'.mu<s.mu:=by
 unfold NS.rNext at he;have:=h.num.r0;have:=h.num.r1;split at he
 ·cases he
 rename_i q
 simp only [not_or,Decidable.not_not] at q;obtain ⟨q1,q2,q3⟩:=q;cases he;refine ⟨⟨⟨h.num.n1,h.num.n7,h.num.id0,h.num.idn,h.num.h0,h.num.h1,by show 0≤s.round+1;omega,by show s.round+1≤99;omega,by show (1:Int)≤1;omega,by show (1:Int)≤4;omega,Int.le_refl _,by have:=h.num.c0;have:=h.num.c1;show (0:Int)≤s.ticks;omega,h.num.vr,h.num.lr⟩,⟨h.min.made,h.min.nodup,h.min.rng,fun m hm q=>?_,fun m hm q=>?_⟩,h.box.of rfl rfl rfl rfl rfl rfl h.box.vz2 h.box.lz rfl,h.nil⟩,?_⟩
 ·have:=h.min.no4 m hm q;left;show m.round<s.round+1;omega
 ·have:=h.min.no5 m hm q;left;show m.round<s.round+1;omega
 show 5 * (100 - (s.round+1)).toNat+(4 - 1:Int).toNat+openK 6 s.made 100+openK 3 s.made 100+(100 - s.least).toNat<5 * (100 - s.round).toNat+(4 - s.step).toNat+openK 6 s.made 100+openK 3 s.made 100+(100 - s.least).toNat;omega
theorem rule_inv {sz:D→Prop} {s s':NS D L} (h:InvS sz s) {k:Nat} (he:s.rule k=some s'):InvS sz s'∧(s'.isDec s'.height=true∨s'.mu<s.mu):=by
 unfold NS.rule at he;split at he
 ·have:=rDecide_inv h he;exact ⟨this.1,.inl this.2.1⟩
 ·have:=rSpread_inv h he;exact ⟨this.1,.inr this.2.1⟩
 ·have:=rValidate_inv h he;exact ⟨this.1,.inr this.2⟩
 ·have:=rFollow_inv h he;exact ⟨this.1,.inr this.2⟩
 ·have:=rPropose_inv h he;exact ⟨this.1,.inr this.2⟩
 ·have:=rPrevote_inv h he;exact ⟨this.1,.inr this.2⟩
 ·have:=rMiss_inv h he;exact ⟨this.1,.inr this.2⟩
 ·have:=rKey_inv h he;exact ⟨this.1,.inr this.2⟩
 ·have:=rWait_inv h he;exact ⟨this.1,.inr this.2⟩
 ·have:=rSeal_inv h he;exact ⟨this.1,.inr this.2⟩
 ·have:=rLeave_inv h he;exact ⟨this.1,.inr this.2⟩
 ·have:=rNext_inv h he;exact ⟨this.1,.inr this.2⟩
 cases he
theorem step_inv {sz:D→Prop} {s s':NS D L} (h:InvS sz s) (he:s.stepS=some s'):InvS sz s'∧(s'.isDec s'.height=true∨s'.mu<s.mu):=by
 obtain ⟨k,_,hk,_⟩:=firstR_some he;exact rule_inv h hk
theorem run_dec (k:Nat) {s:NS D L} (h:s.isDec s.height=true):NS.runS k s=s:=by
 rcases k with _ | k
 ·rfl
 unfold NS.runS;rw [if_pos h]
theorem run_more {sz:D→Prop}:∀(k:Nat) {s:NS D L},InvS sz s→s.mu<k→∀j,k≤j→NS.runS j s=NS.runS (k+1) s
 | 0,s,_,h,_,_=>by omega
 | k+1,s,hI,h,j,hj=>by
  rcases j with _ | j
  ·omega
  unfold NS.runS;by_cases hd:s.isDec s.height=true
  ·rw [if_pos hd,if_pos hd]
  rw [if_neg hd,if_neg hd];rcases he:s.stepS with _ | s'
  ·rfl
  obtain ⟨i1,i2⟩:=step_inv hI he;simp only;rcases i2 with i2 | i2
  ·rw [run_dec _ i2,run_dec _ i2]
  exact run_more k i1 (by omega) j (by omega)
theorem apply_step {sz:D→Prop} {s s':NS D L} (hI:InvS sz s) (hd:s.isDec s.height=false) (he:s.stepS=some s'):s.apply=s'.apply:=by
 obtain ⟨i1,i2⟩:=step_inv hI he;unfold NS.apply;rcases i2 with i2 | i2
 ·rw [run_dec _ i2];show NS.runS (s.mu+1+1) s=s';unfold NS.runS;rw [if_neg (by rw [hd];simp),he];exact run_dec _ i2
 show NS.runS (s.mu+1+1) s=_;conv=>lhs;unfold NS.runS
 rw [if_neg (by rw [hd];simp),he];exact run_more (s'.mu+1) i1 (by omega) (s.mu+1) (by omega)
theorem apply_end {s:NS D L} (h:s.isDec s.height=true∨s.stepS=none):s.apply=s:=by
 unfold NS.apply;show NS.runS (s.mu+1+1) s=_;rcases h with h | h
 ·exact run_dec _ h
 unfold NS.runS;split
 ·rfl
 rw [h]
theorem run_inv {sz:D→Prop}:∀(k:Nat) {s:NS D L},InvS sz s→InvS sz (NS.runS k s)
 | 0,s,h=>h
 | k+1,s,h=>by
  unfold NS.runS;split
  ·exact h
  split
  ·exact h
  rename_i s' he;exact run_inv k (step_inv h he).1
theorem apply_inv {sz:D→Prop} {s:NS D L} (h:InvS sz s):InvS sz s.apply:=run_inv _ h
end
theorem nodup_len:∀(n:Nat) (l:List Nat),l.Nodup→(∀x∈l,x<n)→l.length≤n
 | 0,l,_,h=>by
  rcases l with _ | ⟨a,r⟩
  ·simp
  ·have:=h a (by simp);omega
 | n+1,l,hn,h=>by
  have ih:=nodup_len n (l.erase n) (hn.erase n) (fun x hx=>by
   have h1:=(hn.mem_erase_iff).1 hx;have:=h x h1.2;have:=h1.1;omega)
  have:l.length≤(l.erase n).length+1:=by rw [List.length_erase];split <;> omega
  omega
theorem nodup_map {α β:Type} {f:α→β}:∀{l:List α},l.Nodup→(∀x∈l,∀y∈l,f x=f y→x=y)→(l.map f).Nodup
 | [],_,_=>by simp
 | a :: l,hn,h=>by
  rw [List.nodup_cons] at hn;rw [List.map_cons,List.nodup_cons];refine ⟨fun hm=>?_,nodup_map hn.2 (fun x hx y hy=>h x (by simp [hx]) y (by simp [hy]))⟩;obtain ⟨x,hx,e⟩:=List.mem_map.1 hm;have:=h x (by simp [hx]) a (by simp) e;subst this;exact hn.1 hx
theorem nodup_int {l:List Int} {n:Nat} (hn:l.Nodup) (h:∀x∈l,0≤x∧x<n):l.length≤n:=by
 have:=nodup_len n (l.map Int.toNat) (nodup_map hn (fun x hx y hy e=>by have:=h x hx;have:=h y hy;omega)) (fun x hx=>by
  obtain ⟨y,hy,rfl⟩:=List.mem_map.1 hx;have:=h y hy;omega)
 rwa [List.length_map] at this
theorem no_some {α:Type} {v:α} {P:Prop} (h:(none:Option α)=some v):P:=by cases h
theorem no_mem {α:Type} {v:α} {P:Prop} (h:v∈([]:List α)):P:=by cases h
section
variable {D L:Type} [Dg D] [Inhabited L]
theorem InvS.mine_len {sz:D→Prop} {s:NS D L} (h:InvS sz s):s.mine.length≤400:=by
 have hl:s.mine.length=s.made.length:=by rw [h.min.made,List.length_map]
 have hr:∀p∈s.made,3≤p.1∧p.1≤6∧0≤p.2∧p.2≤99:=fun p hp=>by
  rw [h.min.made] at hp;obtain ⟨m,hm,rfl⟩:=List.mem_map.1 hp;exact h.min.rng m hm
 have:=nodup_int (n:=400) (l:=s.made.map fun p=>(p.1 - 3) * 100+p.2) (nodup_map h.min.nodup (fun x hx y hy e=>by
  have:=hr x hx;have:=hr y hy;exact Prod.ext (by omega) (by omega))) (fun x hx=>by
  obtain ⟨p,hp,rfl⟩:=List.mem_map.1 hx;have:=hr p hp;omega)
 rw [List.length_map] at this;omega
theorem InvS.order_len {sz:D→Prop} {s:NS D L} (h:InvS sz s):s.order.length≤7∧s.claims.length≤7:=by
 have:=nodup_int (n:=7) h.box.ck (fun x hx=>by
  obtain ⟨p,hp,rfl⟩:=List.mem_map.1 hx;have:=h.box.cr p hp;have:=h.num.n7;omega)
 rw [List.length_map] at this;rw [h.box.ord,List.length_map];exact ⟨this,this⟩
theorem InvS.props_len {sz:D→Prop} {s:NS D L} (h:InvS sz s):s.props.length≤100:=by
 have:=nodup_int (n:=100) h.box.pk (fun x hx=>by
  obtain ⟨p,hp,rfl⟩:=List.mem_map.1 hx;have:=h.box.pr p hp;omega)
 rwa [List.length_map] at this
theorem InvS.stand_len {sz:D→Prop} {s:NS D L} (h:InvS sz s):s.stand.length≤7:=by
 have:=nodup_int (n:=7) h.box.sk (fun x hx=>by
  obtain ⟨p,hp,rfl⟩:=List.mem_map.1 hx;have:=h.box.sr p hp;have:=h.num.n7;omega)
 rwa [List.length_map] at this
structure OkM (sz:D→Prop) (m:Msg D L):Prop where
 f0:0≤m.frm
 r0:0≤m.round
 r1:m.round≤99
 v0:-1≤m.valid
 v1:m.valid≤99
 dz:sz m.dig
theorem InvS.of {sz:D→Prop} {s s':NS D L} (h:InvS sz s) (hn:NumI s') (hb:BoxI sz s') (h1:s'.mine=s.mine) (h2:s'.made=s.made) (h3:s'.round=s.round) (h4:s'.step=s.step):InvS sz s':=
 ⟨hn,⟨by rw [h1,h2];exact h.min.made,by rw [h2];exact h.min.nodup,by rw [h1];exact h.min.rng,by rw [h1,h3,h4];exact h.min.no4,by rw [h1,h3,h4];exact h.min.no5⟩,hb,h.nil⟩
theorem putVote_inv {sz:D→Prop} {s:NS D L} (h:InvS sz s) {m:Msg D L} (hf:0≤m.frm∧m.frm<s.n) (hm:OkM sz m):InvS sz (s.putVote m):=by
 obtain ⟨hb,e1,e2,e3,e4,e5,e6⟩:=putVote_same s m;exact h.of (h.num.of hb e1 e2 e3) (putVote_box h.box hf ⟨hm.r0,hm.r1⟩ hm.dz) e4 e5 e1 e2
theorem ask_same (s:NS D L) (m:Msg D L):∃q i,s.ask m = {s with ques:=q,inf:=i}:=by
 unfold NS.ask;split
 ·exact ⟨_,_,rfl⟩
 split
 ·exact ⟨s.ques,s.inf,rfl⟩
 split
 ·split
  ·exact ⟨_,s.inf,rfl⟩
  exact ⟨s.ques,s.inf,rfl⟩
 exact ⟨_,s.inf,rfl⟩
theorem receive_inv {sz:D→Prop} {s:NS D L} (h:InvS sz s) {m:Msg D L} {ok:Bool} (hm:ok=true→m.kind=3∨m.kind=4∨m.kind=6∨m.kind=5→OkM sz m):InvS sz (s.receive m ok):=by
 unfold NS.receive;split
 ·exact h
 rename_i q
 simp only [not_or,Bool.not_eq_false,Decidable.not_not,Int.not_le,Int.not_lt] at q;obtain ⟨q1,q2,q3,q4⟩:=q;split
 ·exact h
 rename_i hk
 simp only [Decidable.not_not] at hk;have hm:=hm q1 hk;split
 ·obtain ⟨a,b,e⟩:=ask_same s m;rw [e];exact h.of ⟨h.num.n1,h.num.n7,h.num.id0,h.num.idn,h.num.h0,h.num.h1,h.num.r0,h.num.r1,h.num.st1,h.num.st4,h.num.c0,h.num.c1,h.num.vr,h.num.lr⟩ (h.box.of rfl rfl rfl rfl rfl rfl h.box.vz2 h.box.lz rfl) rfl rfl rfl rfl
 split
 ·exact h
 split
 ·exact putVote_inv h ⟨hm.f0,q3⟩ hm
 have hn:∀(p c:List (Int×Msg D L)) (o:List Int),NumI ({s with props:=p,claims:=c,order:=o}:NS D L):=fun p c o=>⟨h.num.n1,h.num.n7,h.num.id0,h.num.idn,h.num.h0,h.num.h1,h.num.r0,h.num.r1,h.num.st1,h.num.st4,h.num.c0,h.num.c1,h.num.vr,h.num.lr⟩;split
 ·refine h.of (hn _ s.claims s.order) ⟨h.box.vk,h.box.sk,h.box.sr,h.box.vz,keepA_keys h.box.pk _ _,fun p hp=>?_,h.box.ck,h.box.cr,h.box.ord,h.box.vz2,h.box.lz,h.box.oz⟩ rfl rfl rfl rfl;rcases mem_keepA hp with rfl | hp
  ·exact ⟨hm.r0,hm.r1,hm.v0,hm.v1,hm.dz⟩
  exact h.box.pr p hp
 split
 ·exact h
 rename_i hg
 refine h.of (hn s.props _ _) ⟨h.box.vk,h.box.sk,h.box.sr,h.box.vz,h.box.pk,h.box.pr,nodup_putA h.box.ck,fun p hp=>?_,?_,h.box.vz2,h.box.lz,h.box.oz⟩ rfl rfl rfl rfl
 ·rcases mem_putA hp with rfl | hp
  ·exact ⟨hm.f0,q3,hm.dz⟩
  exact h.box.cr p hp
 show s.order ++ [m.frm]=_;rw [putA_new hg,h.box.ord,List.map_append];rfl
theorem new_inv {sz:D→Prop} (hz:sz Dg.nil) {id n:Int} (h0:0≤id) (h1:id<n) (h7:n≤7):InvS sz (newS id n:NS D L):=
 ⟨⟨by show 1≤n;omega,h7,h0,h1,by show (0:Int)≤0;omega,by show (0:Int)<1200;omega,by show (0:Int)≤0;omega,by show (0:Int)≤99;omega,by show (1:Int)≤1;omega,by show (1:Int)≤4;omega,Int.le_refl _,Int.le_refl _,fun v hv=>no_some hv,fun v hv=>no_some hv⟩,
  ⟨rfl,List.nodup_nil,fun m hm=>no_mem hm,fun m hm=>no_mem hm,fun m hm=>no_mem hm⟩,
  ⟨List.nodup_nil,List.nodup_nil,fun p hp=>no_mem hp,fun p hp=>no_mem hp,List.nodup_nil,fun p hp=>no_mem hp,List.nodup_nil,fun p hp=>no_mem hp,rfl,fun v hv=>no_some hv,fun v hv=>no_some hv,fun v hv=>no_some hv⟩,hz⟩
theorem moved_inv {sz:D→Prop} {s:NS D L} (h:InvS sz s) {k r:Int} (h0:0≤k) (h1:k<1200) (r0:0≤r) (r1:r≤99):InvS sz (s.moved k r):=
 ⟨⟨h.num.n1,h.num.n7,h.num.id0,h.num.idn,h0,h1,r0,r1,by show (1:Int)≤1;omega,by show (1:Int)≤4;omega,Int.le_refl _,Int.le_refl _,fun v hv=>no_some hv,fun v hv=>no_some hv⟩,
  ⟨rfl,List.nodup_nil,fun m hm=>no_mem hm,fun m hm=>no_mem hm,fun m hm=>no_mem hm⟩,
  ⟨List.nodup_nil,List.nodup_nil,fun p hp=>no_mem hp,fun p hp=>no_mem hp,List.nodup_nil,fun p hp=>no_mem hp,List.nodup_nil,fun p hp=>no_mem hp,rfl,fun v hv=>no_some hv,fun v hv=>no_some hv,fun v hv=>no_some hv⟩,h.nil⟩
theorem begin_inv {sz:D→Prop} {s:NS D L} (h:InvS sz s) (k:Int) (ok:Bool) {d:D} (l:L) (hd:ok=true→sz d):InvS sz (s.begin k ok d l).1:=by
 unfold NS.begin;split
 ·exact h
 rename_i hok
 have hd:=hd (by simpa using hok);split
 ·refine h.of ⟨h.num.n1,h.num.n7,h.num.id0,h.num.idn,h.num.h0,h.num.h1,h.num.r0,h.num.r1,h.num.st1,h.num.st4,h.num.c0,h.num.c1,h.num.vr,h.num.lr⟩ ⟨h.box.vk,h.box.sk,h.box.sr,h.box.vz,h.box.pk,h.box.pr,h.box.ck,h.box.cr,h.box.ord,h.box.vz2,h.box.lz,fun v hv=>by cases hv;exact ⟨hd,rfl⟩⟩ rfl rfl rfl rfl
 split
 ·rename_i q
  have h:=moved_inv h (k:=k) (r:=0) (by have:=h.num.h0;omega) q.2.2.1 (by omega) (by omega);refine h.of ⟨h.num.n1,h.num.n7,h.num.id0,h.num.idn,h.num.h0,h.num.h1,h.num.r0,h.num.r1,h.num.st1,h.num.st4,h.num.c0,h.num.c1,h.num.vr,h.num.lr⟩ ⟨h.box.vk,h.box.sk,h.box.sr,h.box.vz,h.box.pk,h.box.pr,h.box.ck,h.box.cr,h.box.ord,h.box.vz2,h.box.lz,fun v hv=>by cases hv;exact ⟨hd,rfl⟩⟩ rfl rfl rfl rfl
 exact h
theorem accept_inv {sz:D→Prop} {s:NS D L} (h:InvS sz s) (d:D):InvS sz (s.accept d):=
 h.of ⟨h.num.n1,h.num.n7,h.num.id0,h.num.idn,h.num.h0,h.num.h1,h.num.r0,h.num.r1,h.num.st1,h.num.st4,h.num.c0,h.num.c1,h.num.vr,h.num.lr⟩ (h.box.of rfl rfl rfl rfl rfl rfl h.box.vz2 h.box.lz rfl) rfl rfl rfl rfl
theorem learn_inv {sz:D→Prop} {s:NS D L} (h:InvS sz s) (k:Int) (ok:Bool) (d:D) (l:L):InvS sz (s.learn k ok d l).1:=by
 have key:∀x,InvS sz ({s with decs:=x}:NS D L):=fun x=>h.of ⟨h.num.n1,h.num.n7,h.num.id0,h.num.idn,h.num.h0,h.num.h1,h.num.r0,h.num.r1,h.num.st1,h.num.st4,h.num.c0,h.num.c1,h.num.vr,h.num.lr⟩ (h.box.of rfl rfl rfl rfl rfl rfl h.box.vz2 h.box.lz rfl) rfl rfl rfl rfl;unfold NS.learn;split
 ·exact h
 split
 ·split
  ·exact h
  exact key _
 exact key _
theorem keys_fold {sz:D→Prop} {size:D→Bool} {round:Int} (hs:∀d,size d=true→sz d) (hr:round≤99):∀(keys:List (Int×D)) (last:Int) (s:NS D L),-1≤last→InvS sz s→s.round=round→areKeys round size last keys=true→(∀p∈s.made,p.2≤last)→InvS sz (keys.foldl (fun s k=>s.say (vote 6 k.1 k.2)) s)
 | [],_,s,_,h,_,_,_=>h
 | k :: l,last,s,h1,h,hrd,ha,hm=>by
  unfold areKeys at ha;split at ha
  ·cases ha
  rename_i q
  simp only [not_or,Int.not_le,Bool.not_eq_false] at q;obtain ⟨q1,q2,q3⟩:=q;rw [List.foldl_cons];obtain ⟨hb,e1,e2,e3,e4,e5⟩:=say_same s (vote 6 k.1 k.2:Msg D L);refine keys_fold hs hr l k.1 _ (by omega) (key_inv h ⟨by omega,by omega⟩ (hs _ q3) (fun hk=>by have:=hm _ hk;simp at this;omega)) (by rw [e1];exact hrd) ha (fun p hp=>?_);rw [e5] at hp;rcases mem_insA.1 hp with hp | hp
  ·have:=hm p hp;omega
  subst hp;exact Int.le_refl _
theorem resume_inv {sz:D→Prop} {s:NS D L} (h:InvS sz s) {size:D→Bool} (hs:∀d,size d=true→sz d) (height round locked:Int) (ok:Bool) {d:D} (l:L) (empty:Bool) (keys:List (Int×D)) (hd:ok=true→sz d):InvS sz (s.resume height round locked ok d l empty keys (areKeys round size (-1) keys)).1:=by
 unfold NS.resume;split
 ·exact h
 rename_i q
 simp only [not_or,Int.not_le,Int.not_lt,Bool.not_eq_false] at q;split
 ·exact h
 rename_i q2
 simp only [not_or,Bool.not_eq_false] at q2;have h1:=moved_inv h (k:=height) (r:=round) (by omega) (by omega) (by omega) (by omega);refine keys_fold hs (by omega) keys (-1) _ (by omega) ?_ ?_ q2.1 ?_
 ·split
  ·refine h1.of ⟨h1.num.n1,h1.num.n7,h1.num.id0,h1.num.idn,h1.num.h0,h1.num.h1,h1.num.r0,h1.num.r1,h1.num.st1,h1.num.st4,h1.num.c0,h1.num.c1,fun v hv=>(by cases hv;show 0≤locked∧locked≤99;omega),fun v hv=>(by cases hv;show 0≤locked∧locked≤99;omega)⟩ (h1.box.of rfl rfl rfl rfl rfl rfl (fun v hv=>by cases hv;exact hd q.1) (fun v hv=>by cases hv;exact hd q.1) rfl) rfl rfl rfl rfl
  exact h1
 ·split <;> rfl
 intro p hp;split at hp <;> exact absurd hp (by simp [NS.moved])
theorem ticked_inv {sz:D→Prop} {s:NS D L} (h:InvS sz s):InvS sz s.ticked:=by
 have:=h.num.c0;have:=h.num.c1;refine h.of ⟨h.num.n1,h.num.n7,h.num.id0,h.num.idn,h.num.h0,h.num.h1,h.num.r0,h.num.r1,h.num.st1,h.num.st4,?_,?_,h.num.vr,h.num.lr⟩ (h.box.of rfl rfl rfl rfl rfl rfl h.box.vz2 h.box.lz rfl) rfl rfl rfl rfl
 ·show 0≤(if s.waiting then s.clock else s.clock+1);split <;> omega
 show (if s.waiting then s.clock else s.clock+1)≤s.ticks+1;split <;> omega
theorem noques_inv {sz:D→Prop} {s:NS D L} (h:InvS sz s):InvS sz {s with ques:=[]}:=
 h.of ⟨h.num.n1,h.num.n7,h.num.id0,h.num.idn,h.num.h0,h.num.h1,h.num.r0,h.num.r1,h.num.st1,h.num.st4,h.num.c0,h.num.c1,h.num.vr,h.num.lr⟩ (h.box.of rfl rfl rfl rfl rfl rfl h.box.vz2 h.box.lz rfl) rfl rfl rfl rfl
theorem tick_inv {sz:D→Prop} {s:NS D L} (h:InvS sz s):InvS sz s.tick.1:=by
 unfold NS.tick;simp only;split
 ·exact noques_inv h
 exact apply_inv (ticked_inv (noques_inv h))
end
class DgL (D:Type) [Dg D]:Prop where
 irr:∀a:D,Dg.lt a a=false
 trans:∀a b c:D,Dg.lt a b=true→Dg.lt b c=true→Dg.lt a c=true
 tri:∀a b:D,Dg.lt a b=false→Dg.lt b a=false→a=b
section
variable {D:Type} [Dg D]
def bst (b p:D×Int):D×Int:=if b.2<p.2∨(p.2=b.2∧Dg.lt p.1 b.1=true) then p else b
def IsBest (S:D×Int→Prop) (b:D×Int):Prop:=((∀p,¬S p)∧b=(Dg.nil,0))∨(S b∧∀p,S p→p.2<b.2∨(p.2=b.2∧Dg.lt p.1 b.1=false))
theorem IsBest.step [DgL D] {S:D×Int→Prop} {b:D×Int} (h:IsBest S b) {p:D×Int} (hp:1≤p.2):IsBest (fun x=>S x∨x=p) (bst b p):=by
 unfold bst;rcases h with ⟨h1,rfl⟩ | ⟨h1,h2⟩
 ·rw [if_pos (.inl (by show (0:Int)<p.2;omega))];exact .inr ⟨.inr rfl,fun x hx=>by
   rcases hx with hx | rfl
   ·exact absurd hx (h1 x)
   exact .inr ⟨rfl,DgL.irr _⟩⟩
 split
 ·rename_i q
  refine .inr ⟨.inr rfl,fun x hx=>?_⟩;rcases hx with hx | rfl
  ·rcases q with q | ⟨q1,q2⟩
   ·rcases h2 x hx with r | r
    ·left;omega
    left;omega
   rcases h2 x hx with r | ⟨r1,r2⟩
   ·left;omega
   refine .inr ⟨by omega,?_⟩;rcases hl:Dg.lt x.1 p.1 with _ | _
   ·rfl
   exact absurd (DgL.trans _ _ _ hl q2) (by rw [r2];simp)
  exact .inr ⟨rfl,DgL.irr _⟩
 rename_i q
 simp only [not_or,not_and,Int.not_lt,Bool.not_eq_true] at q;refine .inr ⟨.inl h1,fun x hx=>?_⟩;rcases hx with hx | rfl
 ·exact h2 x hx
 by_cases e:x.2=b.2
 ·exact .inr ⟨e,q.2 e⟩
 left;have:=q.1;omega
theorem IsBest.uniq [DgL D] {S:D×Int→Prop} {b c:D×Int} (h:IsBest S b) (h2:IsBest S c):b=c:=by
 rcases h with ⟨h,rfl⟩ | ⟨h,hb⟩ <;> rcases h2 with ⟨h2,rfl⟩ | ⟨h2,hc⟩
 ·rfl
 ·exact absurd h2 (h _)
 ·exact absurd h (h2 _)
 rcases hb c h2 with q | ⟨q,q1⟩ <;> rcases hc b h with r | ⟨r,r1⟩
 ·omega
 ·omega
 ·omega
 exact Prod.ext (DgL.tri _ _ r1 q1) r
theorem IsBest.of {S T:D×Int→Prop} {b:D×Int} (h:IsBest S b) (e:∀p,S p↔T p):IsBest T b:=by
 have:S=T:=funext fun p=>propext (e p);exact this ▸ h
theorem fold_best [DgL D]:∀(l:List (D×Int)) (S:D×Int→Prop) (b:D×Int),(∀p∈l,1≤p.2)→IsBest S b→IsBest (fun x=>S x∨x∈l) (l.foldl bst b)
 | [],S,b,_,h=>h.of (fun p=>by simp)
 | p :: l,S,b,h1,h=>by
  rw [List.foldl_cons];exact (fold_best l _ _ (fun q hq=>h1 q (by simp [hq])) (h.step (h1 p (by simp)))).of (fun x=>by simp [or_assoc])
theorem mostL_eq (l:List D):mostL l=(l.map fun d=>(d,(l.count d:Int))).foldl bst (Dg.nil,0):=by
 unfold mostL;rw [List.foldl_map];rfl
theorem mostL_best [DgL D] (l:List D):IsBest (fun p=>p.1∈l∧p.2=(l.count p.1:Int)) (mostL l):=by
 rw [mostL_eq];refine (fold_best _ (fun _=>False) _ (fun p hp=>?_) (.inl ⟨fun p h=>h,rfl⟩)).of (fun p=>?_)
 ·obtain ⟨d,hd,rfl⟩:=List.mem_map.1 hp;have:=List.count_pos_iff.2 hd;simp only;omega
 rw [List.mem_map];constructor
 ·rintro (h | ⟨d,hd,rfl⟩)
  ·exact h.elim
  exact ⟨hd,rfl⟩
 rintro ⟨h1,h2⟩;exact .inr ⟨p.1,h1,Prod.ext rfl h2.symm⟩
def countsL (l:List D):List (D×Int):=l.foldl (fun c d=>putA d ((getA d c).getD 0+1) c) []
theorem counts_get (l:List D):∀d,getA d (countsL l)=if d∈l then some (l.count d:Int) else none:=by
 have:∀(t p:List D) (c:List (D×Int)),(∀d,getA d c=if d∈p then some (p.count d:Int) else none)→∀d,getA d (t.foldl (fun c d=>putA d ((getA d c).getD 0+1) c) c)=if d∈p ++ t then some ((p ++ t).count d:Int) else none:=by
  intro t;induction t with
  | nil=>intro p c h d;simpa using h d
  | cons x t ih=>
   intro p c h d;rw [List.foldl_cons];have:=ih (p ++ [x]) (putA x ((getA x c).getD 0+1) c) (fun e=>?_) d
   ·rw [this];simp
   rw [getA_put];by_cases q:e=x
   ·subst q;rw [if_pos rfl,h e];by_cases m:e∈p
    ·rw [if_pos m];simp [List.count_append]
    rw [if_neg m];simp [List.count_append,List.count_eq_zero_of_not_mem m]
   rw [if_neg q,h e];have q2:¬x=e:=fun r=>q r.symm;simp [List.count_append,q,q2]
 intro d;exact this l [] [] (fun d=>by simp [getA]) d
theorem counts_nodup (l:List D):((countsL l).map (·.1)).Nodup:=by
 unfold countsL;have:∀(t:List D) (c:List (D×Int)),(c.map (·.1)).Nodup→((t.foldl (fun c d=>putA d ((getA d c).getD 0+1) c) c).map (·.1)).Nodup:=by
  intro t;induction t with
  | nil=>intro c h;exact h
  | cons x t ih=>intro c h;exact ih _ (nodup_putA h)
 exact this l [] (by simp)
theorem counts_mem (l:List D) (p:D×Int):p∈countsL l↔p.1∈l∧p.2=(l.count p.1:Int):=by
 constructor
 ·intro h;have:=getA_of (counts_nodup l) (k:=p.1) (v:=p.2) h;rw [counts_get] at this;split at this
  ·rename_i q;exact ⟨q,(Option.some.inj this).symm⟩
  cases this
 rintro ⟨h1,h2⟩;have:=counts_get l p.1;rw [if_pos h1,←h2] at this;exact getA_mem this
theorem most_any [DgL D] (l:List D) {c:List (D×Int)} (h:c.Perm (countsL l)):c.foldl bst (Dg.nil,0)=mostL l:=by
 refine IsBest.uniq (S:=fun p=>p.1∈l∧p.2=(l.count p.1:Int)) ((fold_best c (fun _=>False) _ (fun p hp=>?_) (.inl ⟨fun p h=>h,rfl⟩)).of (fun p=>?_)) (mostL_best l)
 ·obtain ⟨h1,h2⟩:=(counts_mem l p).1 (h.mem_iff.1 hp);have:=List.count_pos_iff.2 h1;omega
 rw [h.mem_iff,counts_mem];simp
end
end Go.Proofs.YtifcdjmcoibblaaGreatDoor
