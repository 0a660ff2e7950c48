/- ConT Tkm -/
import Derived.Test.YtifcdjmcoibblaaGreatDoorFq18
set_option linter.unusedVariables false
set_option linter.unusedSimpArgs false
set_option linter.unusedSectionVars false
namespace Go.Proofs.YtifcdjmcoibblaaGreatDoor
section
variable {D L:Type} [Dg D] [Inhabited L]
theorem tick_done {s:NS D L} (h:s.isDec s.height=true):s.tick=({s with ques:=[]},s.answers):=by
 unfold NS.tick;simp only;exact if_pos h
def toldS (id n:Int) (d:D) (l:L):NS D L:={(newS id n:NS D L) with decs:=[(0,⟨-1,d,l⟩)]}
theorem told_learn (id n:Int) (d:D) (l:L):(newS id n:NS D L).learn 0 true d l=(toldS id n d l,true):=by
 unfold NS.learn;simp only [Bool.true_eq_false,false_or];rw [if_neg (by omega)];rfl
def quesS (id n:Int) (d:D) (l:L) (q:List (Int×(Int×Int))):NS D L:={(toldS id n d l) with ques:=q}
theorem told_dec (id n:Int) (d:D) (l:L) (q:List (Int×(Int×Int))):(quesS id n d l q).isDec 0=true:=rfl
theorem told_tick (id n:Int) (d:D) (l:L):(toldS id n d l).tick=(toldS id n d l,[]):=tick_done rfl
def lateV (n i r:Int):Msg D L:=⟨4,n - 1,i,0,r,0,Dg.nil,default⟩
def quesOf (n:Int):Option Int→List (Int×(Int×Int))
 | none=>[]
 | some r=>[(n - 1,(0,r))]
def maxO (o:Option Int) (r:Int):Option Int:=match o with | none=>some r | some a=>some (max a r)
theorem told_ask {id n:Int} {d:D} {l:L} (o:Option Int) {r:Int} (hn:1≤n):(quesS id n d l (quesOf n o)).receive (lateV n id r) true=quesS id n d l (quesOf n (maxO o r)):=by
 unfold NS.receive;rw [if_neg (by
  simp only [Bool.true_eq_false,false_or,not_or];exact ⟨fun h=>h rfl,by show ¬(n≤n - 1);omega,by show ¬((0:Int)<0);omega⟩)]
 rw [if_neg (by intro h;exact h (.inr (.inl rfl)))];rw [if_pos (show (quesS id n d l (quesOf n o)).isDec (lateV n id r:Msg D L).height=true from rfl)];unfold NS.ask;rw [if_neg (by rintro ⟨h,_⟩;exact absurd h (by show ¬(4:Int)=3;omega))];rw [if_neg (by show ¬_∈([]:List (Int×Int));simp)];rcases o with _ | a
 ·rfl
 show (match getA (n - 1) [(n - 1,((0:Int),a))] with | some q=>_ | none=>_)=_;unfold getA;rw [if_pos rfl];show (if (0:Int)<0∨((0:Int)=0∧a<r) then _ else _)=_;by_cases h:a<r
 ·rw [if_pos (.inr ⟨rfl,h⟩)];have e:max a r=r:=by omega
  unfold maxO;simp only [e];show quesS id n d l (putA (n - 1) (0,r) [(n - 1,((0:Int),a))])=_;unfold putA;rw [if_pos rfl];rfl
 rw [if_neg (by rintro (q | ⟨_,q⟩) <;> omega)];have e:max a r=a:=by omega
 unfold maxO;simp only [e]
theorem told_asks {id n:Int} {d:D} {l:L} (hn:1≤n):∀(rs:List Int) (o:Option Int),rs.foldl (fun s r=>s.receive (lateV n id r) true) (quesS id n d l (quesOf n o))=quesS id n d l (quesOf n (rs.foldl maxO o))
 | [],o=>rfl
 | r :: rs,o=>by rw [List.foldl_cons,told_ask o hn,told_asks hn rs,List.foldl_cons]
theorem told_answers {id n:Int} {d:D} {l:L} (o:Option Int):(quesS id n d l (quesOf n o)).tick=(toldS id n d l,match o with | none=>[] | some r=>(toldS id n d l).answer (n - 1) (0,r)):=by
 rw [tick_done rfl];refine Prod.ext rfl ?_;rcases o with _ | r
 ·rfl
 show NS.answers _=_;unfold NS.answers;show (sortI [n - 1]).flatMap (fun site=>match getA site [(n - 1,((0:Int),r))] with | some q=>_ | none=>[])=_;show ([n - 1]:List Int).flatMap _=_;rw [List.flatMap_cons,List.flatMap_nil,List.append_nil];unfold getA;rw [if_pos rfl];rfl
theorem answer_eq {id n:Int} {d:D} {l:L} (site r:Int):(toldS id n d l).answer site (0,r) =
  [⟨3,id,site,0,(toldS id n d l).claimRound 0 r,-1,d,l⟩,⟨4,id,site,0,r,0,d,default⟩] ++ ((List.range (r+1).toNat).map fun (k:Nat)=>(⟨6,id,site,0,(k:Int),0,d,default⟩:Msg D L)) ++ [⟨5,id,site,0,r,0,d,default⟩]:=rfl
theorem answer_len {id n:Int} {d:D} {l:L} (site:Int) {r:Int} (hr:0≤r):(((toldS id n d l).answer site (0,r)).length:Int)=r+4:=by
 rw [answer_eq];simp;omega
structure LateI (n:Int) (d:D) (l:L) (k:Nat) (s:NS D L):Prop where
 nn:s.n=n
 id:s.id=n - 1
 height:s.height=0
 decs:s.decs = []
 ques:s.ques = []
 mine:s.mine = []
 order:s.order=(List.range k).map fun (i:Nat)=>(i:Int)
 claims:∃mm:Nat→Msg D L,s.claims=((List.range k).map fun (i:Nat)=>((i:Int),mm i))∧∀i,i<k→(mm i).dig=d∧(mm i).list=l
theorem late_new (n:Int) (d:D) (l:L):LateI n d l 0 (newS (n - 1) n:NS D L):=⟨rfl,rfl,rfl,rfl,rfl,rfl,rfl,fun _=>default_msg,rfl,fun i hi=>absurd hi (by omega)⟩
 where default_msg:Msg D L:=⟨0,0,0,0,0,0,Dg.nil,default⟩
theorem LateI.isDec {n:Int} {d:D} {l:L} {k:Nat} {s:NS D L} (h:LateI n d l k s) (j:Int):s.isDec j=false:=by
 unfold NS.isDec;rw [h.decs];rfl
theorem LateI.vote {n:Int} {d:D} {l:L} {k:Nat} {s:NS D L} (h:LateI n d l k s) {m:Msg D L} (hk:m.kind≠3) (hh:m.height=0):LateI n d l k (s.receive m true):=by
 unfold NS.receive;split
 ·exact h
 split
 ·exact h
 rw [h.isDec];simp only [Bool.false_eq_true,if_false];rw [if_neg (by rw [hh,h.height];omega)];first | rw [if_pos hk] | skip
 obtain ⟨hb,e1,e2,e3,e4,e5,e6⟩:=putVote_same s m;exact ⟨by rw [hb.n];exact h.nn,by rw [hb.id];exact h.id,by rw [hb.height];exact h.height,by rw [hb.decs];exact h.decs,by rw [hb.ques];exact h.ques,by rw [e4];exact h.mine,by rw [hb.order];exact h.order,by rw [hb.claims];exact h.claims⟩
theorem LateI.claim {n:Int} {d:D} {l:L} {k:Nat} {s:NS D L} (h:LateI n d l k s) {m:Msg D L} (hk:m.kind=3) (hf:m.frm=k) (ht:m.to=n - 1) (hh:m.height=0) (hkn:(k:Int)<n)
  (hd:m.dig=d) (hl:m.list=l) (hp:m.round % n≠k):LateI n d l (k+1) (s.receive m true):=by
 obtain ⟨mm,hc,hm⟩:=h.claims;have hprop:s.proposer m.frm m.height m.round=false:=by
  unfold NS.proposer;rw [h.nn,hf,hh,Int.zero_add];exact decide_eq_false hp
 have hg:getA m.frm s.claims=none:=by
  rw [getA_none,hc,hf];simp only [List.map_map,List.mem_map,List.mem_range,Function.comp];rintro ⟨i,hi,e⟩;have:i=k:=by omega
  omega
 unfold NS.receive;rw [if_neg (by
  simp only [Bool.true_eq_false,false_or,not_or];refine ⟨?_,?_,?_⟩
  ·rw [ht,h.id];simp
  ·rw [h.nn,hf];omega
  rw [h.height,hh];omega)]
 rw [if_neg (by intro q;exact q (.inl hk))];rw [h.isDec];simp only [Bool.false_eq_true,if_false];rw [if_neg (by rw [hh,h.height];omega),if_neg (by intro q;exact q hk),hprop];simp only [Bool.false_eq_true,if_false,hg];refine ⟨h.nn,h.id,h.height,h.decs,h.ques,h.mine,?_,fun i=>if i=k then m else mm i,?_,fun i hi=>?_⟩
 ·show s.order ++ [m.frm]=_;rw [h.order,hf,List.range_succ,List.map_append];rfl
 ·show putA m.frm m s.claims=_;rw [putA_new hg,hc,List.range_succ,List.map_append];congr 1
  ·refine List.map_congr_left fun i hi=>?_;rw [List.mem_range] at hi;show ((i:Int),mm i)=((i:Int),if i=k then m else mm i);rw [if_neg (by omega)]
  simp [hf]
 by_cases e:i=k
 ·simp only [e,if_true];exact ⟨hd,hl⟩
 simp only [e,if_false];exact hm i (by omega)
theorem claim_round {id n:Int} {d:D} {l:L} {r:Int} (hn:2≤n) (h0:0≤id) (h1:id<n) (hr:0≤r) (hr2:r<99):(toldS id n d l).claimRound 0 r % n≠id∧(toldS id n d l).claimRound 0 r=if r % n=id then r+1 else r:=by
 unfold NS.claimRound NS.proposer;show (if decide ((0+r) % n=id)=false then r else if r<99 then r+1 else r - 1) % n≠id∧(if decide ((0+r) % n=id)=false then r else if r<99 then r+1 else r - 1)=_;rw [Int.zero_add];by_cases h:r % n=id
 ·have e:decide (r % n=id)=true:=decide_eq_true h;rw [e];simp only [Bool.true_eq_false,if_false];rw [if_pos hr2,if_pos h];refine ⟨fun q=>?_,rfl⟩;have h2:=Int.emod_add_emod r n 1;rw [h,q] at h2;rcases (by omega:id+1<n∨n≤id+1) with q1 | q1
  ·rw [Int.emod_eq_of_lt (by omega) q1] at h2;omega
  have e2:id+1=n:=by omega
  rw [e2,Int.emod_self] at h2;omega
 have e:decide (r % n=id)=false:=decide_eq_false h;rw [e];simp only [if_true];rw [if_neg h];exact ⟨h,rfl⟩
theorem LateI.answer {n:Int} {d:D} {l:L} {k:Nat} {s:NS D L} (h:LateI n d l k s) (hn:2≤n) (hkn:(k:Int)<n) {r:Int} (hr:0≤r) (hr2:r<99):LateI n d l (k+1) (((toldS (k:Int) n d l).answer (n - 1) (0,r)).foldl (fun s m=>s.receive m true) s):=by
 have hfold:∀(ms:List (Msg D L)) (j:Nat) (t:NS D L),LateI n d l j t→(∀m∈ms,m.kind≠3∧m.height=0)→LateI n d l j (ms.foldl (fun s m=>s.receive m true) t):=by
  intro ms;induction ms with
  | nil=>intro j t ht _;exact ht
  | cons m ms ih=>intro j t ht hm;exact ih j _ (ht.vote (hm m (by simp)).1 (hm m (by simp)).2) (fun x hx=>hm x (by simp [hx]))
 rw [answer_eq,List.append_assoc,List.cons_append,List.foldl_cons];refine hfold _ _ _ (h.claim rfl rfl rfl rfl hkn rfl rfl (claim_round hn (by omega) hkn hr hr2).1) ?_;intro m hm;simp only [List.cons_append,List.nil_append,List.mem_cons,List.mem_append,List.mem_map,List.mem_range,List.not_mem_nil,or_false] at hm;rcases hm with rfl | ⟨i,hi,rfl⟩ | rfl
 ·exact ⟨by show ¬((4:Int)=3);decide,rfl⟩
 ·exact ⟨by show ¬((6:Int)=3);decide,rfl⟩
 exact ⟨by show ¬((5:Int)=3);decide,rfl⟩
theorem LateI.tick {n:Int} {d:D} {l:L} {k:Nat} {s:NS D L} (h:LateI n d l k s) (hn:1≤n) (hk:faultsN n<k):s.tick.2 = []∧s.tick.1.ques = []∧∃v,getA 0 s.tick.1.decs=some v∧v.dig=d∧v.list=l:=by
 obtain ⟨mm,hc,hm⟩:=h.claims;have hf:0≤faultsN n∨faultsN n<0:=by omega
 have hans:s.answers = []:=by unfold NS.answers;rw [h.ques];rfl
 unfold NS.tick;simp only;rw [if_neg (by show ¬s.isDec s.height=true;rw [h.isDec];simp)];rw [hans];obtain ⟨t,ht⟩:∃t,t=({s with ques:=[]}:NS D L).ticked:=⟨_,rfl⟩;have hk0:0<k∨k=0:=by omega
 have ht_n:t.n=n:=by rw [ht];exact h.nn
 have ht_h:t.height=0:=by rw [ht];exact h.height
 have ht_d:t.decs = []:=by rw [ht];exact h.decs
 have ht_q:t.ques = []:=by rw [ht];rfl
 have ht_m:t.mine = []:=by rw [ht];exact h.mine
 have ht_o:t.order=(List.range k).map fun (i:Nat)=>(i:Int):=by rw [ht];exact h.order
 have ht_c:t.claims=(List.range k).map fun (i:Nat)=>((i:Int),mm i):=by rw [ht];exact hc
 rw [←ht];have hkk:k≠0∨k=0:=by omega
 have hdec:t.isDec t.height=false:=by unfold NS.isDec;rw [ht_d];rfl
 have hcnt:∀dd:D,dd=d→countD dd t.claims=k:=by
  rintro _ rfl;unfold countD;rw [ht_c,List.filter_eq_self.2 (by
   intro p hp;simp only [List.mem_map,List.mem_range] at hp;obtain ⟨i,hi,rfl⟩:=hp;exact decide_eq_true (hm i hi).1)]
  simp
 rcases Nat.eq_zero_or_pos k with hz | hz
 ·subst hz;exfalso;have hfn:faultsN n=(n - 1) / 3:=rfl;omega
 obtain ⟨k',rfl⟩:∃k',k=k'+1:=⟨k - 1,by omega⟩;have hg0:getA (0:Int) t.claims=some (mm 0):=by
  rw [ht_c,List.range_succ_eq_map,List.map_cons];unfold getA;rw [if_pos (by simp)]
 have hcl:claimed t t.order=some (mm 0):=by
  rw [ht_o,List.range_succ_eq_map,List.map_cons];unfold claimed;show (match getA (0:Int) t.claims with | some m=>_ | none=>_)=_;rw [hg0];show (if faultsN t.n<countD (mm 0).dig t.claims then some (mm 0) else _)=_;rw [if_pos (by rw [ht_n,hcnt _ (hm 0 (by omega)).1];exact hk)]
 have hrule:t.rDecide=some {t with decs:=putA t.height ⟨-1,(mm 0).dig,(mm 0).list⟩ t.decs}:=by
  unfold NS.rDecide;rw [hcl]
 have hstep:t.stepS=some {t with decs:=putA t.height ⟨-1,(mm 0).dig,(mm 0).list⟩ t.decs}:=by
  unfold NS.stepS;exact firstR_at (k:=0) (fun i hi=>absurd hi (by omega)) hrule (by omega)
 have happ:t.apply = {t with decs:=putA t.height ⟨-1,(mm 0).dig,(mm 0).list⟩ t.decs}:=by
  unfold NS.apply;show NS.runS (t.mu+1+1) t=_;unfold NS.runS;rw [hdec];simp only [Bool.false_eq_true,if_false,hstep];unfold NS.runS;rw [if_pos (by unfold NS.isDec;rw [getA_put,if_pos rfl];rfl)]
 rw [happ];refine ⟨?_,ht_q,⟨-1,(mm 0).dig,(mm 0).list⟩,?_,(hm 0 (by omega)).1,(hm 0 (by omega)).2⟩
 ·show [] ++ NS.sends _ (List.drop _ t.mine) = [];rw [ht_m,List.drop_nil];rfl
 show getA 0 (putA t.height _ t.decs)=_;rw [getA_put,if_pos ht_h.symm]
end
section
variable {D L:Type} [Dg D] [Inhabited L]
def toM (m:Msg D L) (t:Int):Msg D L:=⟨m.kind,m.frm,t,m.height,m.round,m.valid,m.dig,m.list⟩
theorem toM_eq (m:Msg D L) (t:Int):toM m t=⟨m.kind,m.frm,t,m.height,m.round,m.valid,m.dig,m.list⟩:=rfl
def sendTo (me:Int) (m:Msg D L) (j:Nat):List (Msg D L):=(List.range j).filterMap fun (t:Nat)=>if (t:Int)≠me then some (toM m (t:Int)) else none
theorem sends_eq (s:NS D L) (ms:List (Msg D L)):s.sends ms=ms.flatMap fun m=>sendTo s.id m s.n.toNat:=rfl
theorem sendTo_zero (me:Int) (m:Msg D L):sendTo me m 0 = []:=rfl
theorem sendTo_same {me:Int} {m:Msg D L} {j:Nat} (h:(j:Int)=me):sendTo me m (j+1)=sendTo me m j:=by
 unfold sendTo;rw [List.range_succ,List.filterMap_append];simp [h]
theorem sendTo_next {me:Int} {m:Msg D L} {j:Nat} (h:(j:Int)≠me):sendTo me m (j+1)=sendTo me m j ++ [toM m (j:Int)]:=by
 unfold sendTo;rw [List.range_succ,List.filterMap_append];simp [h]
theorem sendTo_len (me:Int) (m:Msg D L) (j:Nat):(sendTo me m j).length≤j:=by
 unfold sendTo;refine Nat.le_trans (List.length_filterMap_le _ _) ?_;simp
theorem sends_len (s:NS D L):∀ms:List (Msg D L),(s.sends ms).length≤s.n.toNat * ms.length
 | []=>by simp [NS.sends]
 | m :: ms=>by
  have h1:=sendTo_len s.id m s.n.toNat;have h2:=sends_len s ms;rw [sends_eq] at h2 ⊢;rw [List.flatMap_cons,List.length_append,List.length_cons,Nat.mul_succ];omega
def NS.tk1 (s:NS D L):NS D L:=({s with ques:=[]}:NS D L).ticked
def NS.tk2 (s:NS D L):NS D L:=s.tk1.apply
def NS.tkFrom (s:NS D L):Nat:=if s.tk2.ticks % 4=0 then 0 else s.tk1.mine.length
theorem tick_open {s:NS D L} (h:s.isDec s.height=false):s.tick=(s.tk2,s.answers ++ s.tk2.sends (s.tk2.mine.drop s.tkFrom)):=by
 unfold NS.tick;simp only;rw [if_neg (by
  have:({s with ques:=[]}:NS D L).isDec s.height=false:=h;rw [this];decide)]
 rfl
theorem tk1_mine (s:NS D L):s.tk1.mine=s.mine:=rfl
theorem tk1_inv {sz:D→Prop} {s:NS D L} (h:InvS sz s):InvS sz s.tk1:=ticked_inv (noques_inv h)
theorem tk2_inv {sz:D→Prop} {s:NS D L} (h:InvS sz s):InvS sz s.tk2:=apply_inv (tk1_inv h)
theorem tk2_keep {sz:D→Prop} {s:NS D L} (h:InvS sz s):Keep s.tk1 s.tk2:=run_keep _ (tk1_inv h)
theorem tkFrom_le {sz:D→Prop} {s:NS D L} (h:InvS sz s):s.tkFrom≤s.tk2.mine.length:=by
 unfold NS.tkFrom;obtain ⟨t,ht⟩:=(tk2_keep h).mine;split
 ·exact Nat.zero_le _
 rw [ht,List.length_append];omega
theorem tk1_eq (s:NS D L):s.tk1 = {s with ques:=[],ticks:=s.ticks+1,clock:=if s.waiting then s.clock else s.clock+1}:=rfl
theorem waiting_eq {s t:NS D L} (h1:t.step=s.step) (h2:t.stand=s.stand) (h3:t.round=s.round) (h4:t.n=s.n):t.waiting=s.waiting:=by
 unfold NS.waiting NS.reached NS.passed;rw [h1,h2,h3,h4]
end
end Go.Proofs.YtifcdjmcoibblaaGreatDoor
