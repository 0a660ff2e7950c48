/- ConW ConX Lkp -/
import Derived.Test.YtifcdjmcoibblaaGreatDoorLq37
set_option linter.unusedVariables false
set_option linter.unusedSimpArgs false
set_option linter.unusedSectionVars false
namespace Go.Proofs.YtifcdjmcoibblaaGreatDoor
section
variable {D L:Type} [Dg D] [Inhabited L]
inductive Move (s:NS D L):NS D L→Prop
 | claims (m:Msg D L) (h:claimed s s.order=some m):Move s {s with decs:=putA s.height ⟨-1,m.dig,m.list⟩ s.decs}
 | decide (v:Val D L) (r:Nat) (hr:r<100) (h:s.chosenList 5 r=some v):Move s {s with decs:=putA s.height v s.decs}
 | spread (r:Nat) (hr:(r:Int)≤s.round) (h:((6:Int),(r:Int))∉s.made) (hd:(s.most 6 r).1≠Dg.nil) (hc:faultsN s.n<(s.most 6 r).2):Move s (s.say (vote 6 r (s.most 6 r).1))
 | validate (v:Val D L) (h:s.chosenList 6 v.round=some v) (hr:s.least<v.round∧v.round≤s.round):Move s {s with valid:=some v}
 | follow (r:Int) (hr:s.round<r∧r≤99) (hp:faultsN s.n<s.passed r):Move s ({s with round:=r}.cast 5 Dg.nil 4)
 | propose (v:Val D L) (h:s.toPropose=some v) (h1:s.step=1) (hp:s.proposer s.id s.height s.round=true) (hm:((3:Int),s.round)∉s.made):Move s (s.say ⟨3,0,0,0,s.round,v.round,v.dig,v.list⟩)
 | prevote (p:Msg D L) (d:D) (h:getA s.round s.props=some p) (h1:s.step=1) (ha:p.dig∈s.acc) (hv:0≤p.valid→faultsN s.n<s.count 6 p.valid p.dig)
   (hd:d=Dg.nil∨(d=p.dig∧∀v,s.lock=some v→v.dig≠p.dig→v.round≤p.valid)):Move s (s.cast 4 d 2)
 | miss (h1:s.step=1) (hl:s.late=true):Move s (s.cast 4 Dg.nil 2)
 | key (d:D) (h:s.chosen 4 s.round=some d) (h1:s.step≠1) (hm:((6:Int),s.round)∉s.made) (h2:s.step≠2):Move s (s.say (vote 6 s.round d))
 | key2 (d:D) (h:s.chosen 4 s.round=some d) (h1:s.step=2) (hm:((6:Int),s.round)∉s.made):Move s ((s.say (vote 6 s.round d)).enter 3)
 | wait (h1:s.step=2) (hm:((6:Int),s.round)∈s.made):Move s (s.enter 3)
 | pass (h1:s.step=2) (h:s.late=true∨quorumN s.n≤s.count 4 s.round Dg.nil):Move s (s.cast 5 Dg.nil 4)
 | bolt (v:Val D L) (h:s.chosenList 6 s.round=some v) (h1:s.step=3):Move s ({s with lock:=some v}.cast 5 v.dig 4)
 | leave (h1:s.step=3) (hl:s.late=true):Move s (s.cast 5 Dg.nil 4)
 | next (h1:s.step=4) (hl:s.late=true) (hr:s.round+1<100):Move s ({s with round:=s.round+1}.enter 1)
theorem chosenList_round {s:NS D L} {k r:Int} {v:Val D L} (h:s.chosenList k r=some v):v.round=r∧s.chosen k r=some v.dig∧s.known v.dig=some v.list:=by
 unfold NS.chosenList at h;split at h
 ·cases h
 rename_i d hc
 split at h
 ·cases h
 rename_i l hl
 cases h;exact ⟨rfl,hc,hl⟩
theorem Move.of_rule {s s':NS D L} (hr0:0≤s.round) {k:Nat} (he:s.rule k=some s'):Move s s':=by
 unfold NS.rule at he;split at he
 ·unfold NS.rDecide at he;split at he
  ·rename_i m hm;cases he;exact .claims m hm
  split at he
  ·rename_i v hv
   cases he;obtain ⟨r,h1,h2,_⟩:=firstR_some hv;exact .decide v r h1 h2
  cases he
 ·unfold NS.rSpread at he;obtain ⟨k,hk,hf,_⟩:=firstR_some he;simp only at hf;split at hf
  ·rename_i q;cases hf;exact .spread k (by omega) q.1 q.2.1 q.2.2
  cases hf
 ·unfold NS.rValidate at he;obtain ⟨k,hk,hf,_⟩:=firstR_some he;rcases hc:s.chosenList 6 (s.round - k) with _ | v
  ·rw [hc] at hf;cases hf
  rw [hc] at hf;cases hf;have e:=(chosenList_round hc).1;exact .validate v (by rw [e];exact hc) ⟨by omega,by omega⟩
 ·unfold NS.rFollow at he;obtain ⟨k,hk,hf,_⟩:=firstR_some he;split at hf
  ·rename_i q
   cases hf;exact .follow (99 - k) ⟨by omega,by omega⟩ q
  cases hf
 ·unfold NS.rPropose at he;split at he
  ·cases he
  rename_i v hv
  split at he
  ·cases he
  rename_i q
  simp only [not_or,Decidable.not_not,Bool.not_eq_false] at q;cases he;exact .propose v hv q.1 q.2.1 q.2.2
 ·unfold NS.rPrevote at he;split at he
  ·cases he
  rename_i p hp
  split at he
  ·cases he
  rename_i q
  simp only [not_or,Decidable.not_not] at q;split at he
  ·cases he
  rename_i q2
  simp only [not_and,Int.not_le] at q2;cases he;refine .prevote p _ hp q.1 q.2 q2 ?_;split
  ·rename_i v hv
   split
   ·exact .inl rfl
   rename_i q3
   refine .inr ⟨rfl,fun u hu hne=>?_⟩;cases hv.symm.trans hu;simp only [not_and,Int.not_lt] at q3;exact q3 hne
  rename_i hv
  exact .inr ⟨rfl,fun u hu=>by rw [hv] at hu;cases hu⟩
 ·unfold NS.rMiss at he;split at he
  ·cases he
  rename_i q
  simp only [not_or,Decidable.not_not,Bool.not_eq_false] at q;cases he;exact .miss q.1 q.2
 ·unfold NS.rKey at he;split at he
  ·cases he
  rename_i d hd
  split at he
  ·cases he
  rename_i q
  simp only [not_or] at q;simp only at he;have e:=(say_same s (vote 6 s.round d)).2.2.1;cases he;split
  ·rename_i q2
   exact .key2 d hd (by rw [←e];exact q2) q.2
  rename_i q2
  exact .key d hd q.1 q.2 (by rw [←e];exact q2)
 ·unfold NS.rWait at he;split at he
  ·cases he
  rename_i q
  simp only [ne_eq,Decidable.not_not] at q;split at he
  ·rename_i q2;cases he;exact .wait q q2
  split at he
  ·rename_i q3;cases he;exact .pass q q3
  cases he
 ·unfold NS.rSeal at he;split at he
  ·cases he
  rename_i v hv
  split at he
  ·cases he
  rename_i q
  simp only [ne_eq,Decidable.not_not] at q;cases he;exact .bolt v hv q
 ·unfold NS.rLeave at he;split at he
  ·cases he
  rename_i q
  simp only [not_or,Decidable.not_not,Bool.not_eq_false] at q;cases he;exact .leave q.1 q.2
 ·unfold NS.rNext at he;split at he
  ·cases he
  rename_i q
  simp only [not_or,Decidable.not_not,Bool.not_eq_false,Int.not_le] at q;cases he;exact .next q.1 q.2.1 q.2.2
 cases he
theorem run_all {sz:D→Prop} {P:NS D L→Prop} (hs:∀s t:NS D L,InvS sz s→s.isDec s.height=false→Move s t→P s→P t):∀(k:Nat) {s:NS D L},InvS sz s→P s→P (NS.runS k s)
 | 0,s,_,h=>h
 | k+1,s,hi,h=>by
  unfold NS.runS;split
  ·exact h
  rename_i hd
  split
  ·exact h
  rename_i t he
  obtain ⟨j,_,hj,_⟩:=firstR_some he;exact run_all hs k (step_inv hi he).1 (hs s t hi (by simpa using hd) (Move.of_rule hi.num.r0 hj) h)
theorem voters_mono {a b:List (Bal×D)} (h:∀k d,getA k a=some d→getA k b=some d) (n:Nat) (k hh r:Int) (d:D):(voters n a k hh r).count d≤(voters n b k hh r).count d:=by
 unfold voters;induction List.range n with
 | nil=>exact Nat.le_refl _
 | cons i l ih=>
  rw [List.filterMap_cons,List.filterMap_cons];rcases ha:getA ((i:Int),k,hh,r) a with _ | x
  ·rcases hb:getA ((i:Int),k,hh,r) b with _ | y
   ·exact ih
   simp only [List.count_cons];omega
  rw [h _ _ ha];simp only [List.count_cons];omega
theorem putVote_get (s:NS D L) (m:Msg D L) (k:Bal):getA k (s.putVote m).votes=match getA k s.votes with | some d=>some d | none=>if k=(m.frm,m.kind,m.height,m.round) then some m.dig else none:=by
 unfold NS.putVote;split
 ·rename_i d hd
  rcases hk:getA k s.votes with _ | x
  ·simp only;rw [if_neg (fun e=>by rw [e,hd] at hk;cases hk)]
  rfl
 rename_i hd
 show getA k (putA _ _ s.votes)=_;rw [getA_put];by_cases e:k=(m.frm,m.kind,m.height,m.round)
 ·rw [if_pos e,e,hd];simp
 rw [if_neg e,if_neg e];rcases getA k s.votes with _ | x <;> rfl
theorem say_get (s:NS D L) (m:Msg D L) (k:Bal):getA k (s.say m).votes=match getA k s.votes with | some d=>some d | none=>if m.kind≠3∧k=(s.id,m.kind,s.height,m.round) then some m.dig else none:=by
 unfold NS.say;simp only;split
 ·rename_i h3
  show getA k s.votes=_;rcases getA k s.votes with _ | x
  ·simp [h3]
  rfl
 rename_i h3
 rw [putVote_get];show (match getA k s.votes with | some d=>some d | none=>if k=(s.id,m.kind,s.height,m.round) then some m.dig else none)=_;rcases getA k s.votes with _ | x
 ·simp [h3]
 rfl
theorem say_mono (s:NS D L) (m:Msg D L):∀k d,getA k s.votes=some d→getA k (s.say m).votes=some d:=fun k d h=>by rw [say_get,h]
theorem count_mono {s t:NS D L} (h:∀k d,getA k s.votes=some d→getA k t.votes=some d) (hn:t.n=s.n) (hh:t.height=s.height) (k r:Int) (d:D):s.count k r d≤t.count k r d:=by
 unfold NS.count;rw [hn,hh];exact_mod_cast voters_mono h _ k _ r d
theorem count_say (s:NS D L) (m:Msg D L) (k r:Int) (d:D):s.count k r d≤(s.say m).count k r d:=count_mono (say_mono s m) (say_same s m).1.n (say_same s m).1.height k r d
theorem Move.votes {s t:NS D L} (h:Move s t):∀k d,getA k s.votes=some d→getA k t.votes=some d:=by
 cases h with
 | claims | decide | validate | wait | next=>exact fun k d h=>h
 | spread | propose | key=>exact say_mono s _
 | key2=>exact say_mono s _
 | prevote | miss | pass | leave=>exact say_mono s _
 | follow r=>exact say_mono ({s with round:=r}:NS D L) _
 | bolt v=>exact say_mono ({s with lock:=some v}:NS D L) _
theorem chosen_count [DgL D] {s:NS D L} {k r:Int} {d:D} (h:s.chosen k r=some d):quorumN s.n≤s.count k r d∧d≠Dg.nil:=by
 unfold NS.chosen at h;simp only at h;split at h
 ·rename_i q
  cases h;refine ⟨?_,q.1⟩;unfold NS.count NS.most at *;rcases mostL_best (voters s.n.toNat s.votes k s.height r) with ⟨_,e⟩ | ⟨⟨_,e⟩,_⟩
  ·exact absurd (by rw [e]) q.1
  rw [←e];exact q.2
 cases h
def lockR (s:NS D L):Int:=match s.lock with | some v=>v.round | none=>-1
def PVL (r0:Int) (d0:D) (s:NS D L):Prop:=∀m∈s.mine,m.kind=4→m.dig≠Dg.nil→r0<m.round→m.dig≠d0→∃k:Int,r0≤k∧0≤k∧k≤99∧faultsN s.n<s.count 6 k m.dig
structure LockI (s:NS D L):Prop where
 lq:∀v,s.lock=some v→quorumN s.n≤s.count 6 v.round v.dig
 lr:∀v,s.lock=some v→v.round≤s.round
 pv:∀v,s.lock=some v→PVL v.round v.dig s
structure Ghost (r0:Int) (d0:D) (s:NS D L):Prop where
 l:∃v,s.lock=some v∧r0≤v.round
 pv:PVL r0 d0 s
theorem quorum_faults {n:Int} (h:1≤n):faultsN n<quorumN n:=by unfold quorumN faultsN;omega
theorem PVL.mono {r0:Int} {d0:D} {s t:NS D L} (h:PVL r0 d0 s) (hm:t.mine=s.mine) (hn:t.n=s.n) (hc:∀k r d,s.count k r d≤t.count k r d):PVL r0 d0 t:=by
 intro m hmm h4 hne hr hd;obtain ⟨k,k1,k2,k3,k4⟩:=h m (hm ▸ hmm) h4 hne hr hd;exact ⟨k,k1,k2,k3,by rw [hn];exact Int.lt_of_lt_of_le k4 (hc 6 k m.dig)⟩
theorem PVL.say {r0:Int} {d0:D} {s t:NS D L} (h:PVL r0 d0 s) {m:Msg D L} (hm:t.mine=s.mine ++ [m]) (hn:t.n=s.n) (hc:∀k r d,s.count k r d≤t.count k r d)
  (hnew:m.kind=4→m.dig≠Dg.nil→r0<m.round→m.dig≠d0→∃k:Int,r0≤k∧0≤k∧k≤99∧faultsN s.n<s.count 6 k m.dig):PVL r0 d0 t:=by
 intro x hx h4 hne hr hd;rw [hm] at hx;have:∃k:Int,r0≤k∧0≤k∧k≤99∧faultsN s.n<s.count 6 k x.dig:=by
  rcases List.mem_append.1 hx with hx | hx
  ·exact h x hx h4 hne hr hd
  have e:x=m:=by simpa using hx
  subst e;exact hnew h4 hne hr hd
 obtain ⟨k,k1,k2,k3,k4⟩:=this;exact ⟨k,k1,k2,k3,by rw [hn];exact Int.lt_of_lt_of_le k4 (hc 6 k x.dig)⟩
theorem Move.pvl [DgL D] {sz:D→Prop} {s t:NS D L} (hi:InvS sz s) (hl:LockI s) (h:Move s t) {r0:Int} {d0:D} (hr:∃v,s.lock=some v∧r0≤v.round) (hp:PVL r0 d0 s):PVL r0 d0 t:=by
 have cm:=count_mono h.votes;have quiet:∀{u:NS D L} {m:Msg D L},(m.kind≠4∨m.dig=Dg.nil)→u.mine=s.mine→u.n=s.n→(∀k r d,s.count k r d≤(u.say m).count k r d)→∀v:NS D L,v.mine=(u.say m).mine→v.n=(u.say m).n→(∀k r d,(u.say m).count k r d≤v.count k r d)→PVL r0 d0 v:=by
  intro u m hq e1 e2 hc v f1 f2 hc2;obtain ⟨hb,_,_,_,em,_⟩:=say_same u m;refine hp.say (m:={m with frm:=u.id,height:=u.height}) (by rw [f1,em,e1]) (by rw [f2,hb.n,e2]) (fun k r d=>Int.le_trans (hc k r d) (hc2 k r d)) (fun h4 hne=>?_);rcases hq with q | q
  ·exact absurd h4 q
  exact absurd q hne
 cases h with
 | claims | decide | validate | wait | next=>exact hp.mono rfl rfl (fun _ _ _=>Int.le_refl _)
 | spread r=>exact quiet (u:=s) (m:=vote 6 r (s.most 6 r).1) (.inl (by show ¬(6:Int)=4;decide)) rfl rfl (count_say s _) _ rfl rfl (fun _ _ _=>Int.le_refl _)
 | propose v=>exact quiet (u:=s) (m:=⟨3,0,0,0,s.round,v.round,v.dig,v.list⟩) (.inl (by show ¬(3:Int)=4;decide)) rfl rfl (count_say s _) _ rfl rfl (fun _ _ _=>Int.le_refl _)
 | key d=>exact quiet (u:=s) (m:=vote 6 s.round d) (.inl (by show ¬(6:Int)=4;decide)) rfl rfl (count_say s _) _ rfl rfl (fun _ _ _=>Int.le_refl _)
 | key2 d=>exact quiet (u:=s) (m:=vote 6 s.round d) (.inl (by show ¬(6:Int)=4;decide)) rfl rfl (count_say s _) _ rfl rfl (fun _ _ _=>Int.le_refl _)
 | miss=>exact quiet (u:=s) (m:=vote 4 s.round Dg.nil) (.inr rfl) rfl rfl (count_say s _) _ rfl rfl (fun _ _ _=>Int.le_refl _)
 | pass=>exact quiet (u:=s) (m:=vote 5 s.round Dg.nil) (.inr rfl) rfl rfl (count_say s _) _ rfl rfl (fun _ _ _=>Int.le_refl _)
 | leave=>exact quiet (u:=s) (m:=vote 5 s.round Dg.nil) (.inr rfl) rfl rfl (count_say s _) _ rfl rfl (fun _ _ _=>Int.le_refl _)
 | follow r=>exact quiet (u:={s with round:=r}) (m:=vote 5 r Dg.nil) (.inr rfl) rfl rfl (count_say ({s with round:=r}:NS D L) _) _ rfl rfl (fun _ _ _=>Int.le_refl _)
 | bolt v=>exact quiet (u:={s with lock:=some v}) (m:=vote 5 s.round v.dig) (.inl (by show ¬(5:Int)=4;decide)) rfl rfl (count_say ({s with lock:=some v}:NS D L) _) _ rfl rfl (fun _ _ _=>Int.le_refl _)
 | prevote p d hg h1 ha hv hd=>
  rcases hd with rfl | ⟨rfl,hd⟩
  ·exact quiet (u:=s) (m:=vote 4 s.round Dg.nil) (.inr rfl) rfl rfl (count_say s _) _ rfl rfl (fun _ _ _=>Int.le_refl _)
  obtain ⟨hb,_,_,_,em,_⟩:=say_same s (vote 4 s.round p.dig:Msg D L);refine hp.say (m:={(vote 4 s.round p.dig:Msg D L) with frm:=s.id,height:=s.height}) em hb.n (count_say s _) (fun _ hne _ _=>?_);obtain ⟨v,e,hv0⟩:=hr;have hvr:=hi.num.lr v e;by_cases q:v.dig=p.dig
  ·refine ⟨v.round,hv0,hvr.1,hvr.2,?_⟩;show faultsN s.n<s.count 6 v.round p.dig;have:=hl.lq v e;have:=quorum_faults hi.num.n1;rw [←q];omega
  have h2:=hd v e q;have h3:=hi.box.pr _ (getA_mem hg);exact ⟨p.valid,by omega,by omega,h3.2.2.2.1,hv (by omega)⟩
theorem Move.lock {s t:NS D L} (h:Move s t):(t.lock=s.lock∧s.round≤t.round)∨∃v,t.lock=some v∧v.round=s.round∧t.round=s.round∧s.chosen 6 s.round=some v.dig∧t.mine=s.mine ++ [{(vote 5 s.round v.dig:Msg D L) with frm:=s.id,height:=s.height}]:=by
 have hsay:∀(u:NS D L) (m:Msg D L),(u.say m).lock=u.lock∧(u.say m).round=u.round:=fun u m=>⟨(say_same u m).1.lock,(say_same u m).2.1⟩;cases h with
 | claims | decide | validate | wait=>exact .inl ⟨rfl,Int.le_refl _⟩
 | next=>exact .inl ⟨rfl,by show s.round≤s.round+1;omega⟩
 | spread r=>exact .inl ⟨(hsay s _).1,Int.le_of_eq (hsay s _).2.symm⟩
 | propose v=>exact .inl ⟨(hsay s _).1,Int.le_of_eq (hsay s _).2.symm⟩
 | key d=>exact .inl ⟨(hsay s _).1,Int.le_of_eq (hsay s _).2.symm⟩
 | key2 d=>exact .inl ⟨(hsay s _).1,Int.le_of_eq (hsay s _).2.symm⟩
 | prevote p d=>exact .inl ⟨(hsay s _).1,Int.le_of_eq (hsay s _).2.symm⟩
 | miss=>exact .inl ⟨(hsay s _).1,Int.le_of_eq (hsay s _).2.symm⟩
 | pass=>exact .inl ⟨(hsay s _).1,Int.le_of_eq (hsay s _).2.symm⟩
 | leave=>exact .inl ⟨(hsay s _).1,Int.le_of_eq (hsay s _).2.symm⟩
 | follow r hr=>exact .inl ⟨(hsay ({s with round:=r}:NS D L) _).1,by
   show s.round≤(NS.say ({s with round:=r}:NS D L) _).round;rw [(hsay ({s with round:=r}:NS D L) _).2];exact Int.le_of_lt hr.1⟩
 | bolt v hv=>
  obtain ⟨e1,e2,_⟩:=chosenList_round hv;exact .inr ⟨v,(hsay ({s with lock:=some v}:NS D L) _).1,e1,(hsay ({s with lock:=some v}:NS D L) _).2,e2,(say_same ({s with lock:=some v}:NS D L) _).2.2.2.2.1⟩
theorem Move.n {s t:NS D L} (h:Move s t):t.n=s.n∧t.height=s.height∧t.id=s.id:=by
 have hsay:∀(u:NS D L) (m:Msg D L),(u.say m).n=u.n∧(u.say m).height=u.height∧(u.say m).id=u.id:=fun u m=>⟨(say_same u m).1.n,(say_same u m).1.height,(say_same u m).1.id⟩;cases h with
 | claims | decide | validate | wait | next=>exact ⟨rfl,rfl,rfl⟩
 | spread | propose | key | key2 | prevote | miss | pass | leave=>exact hsay s _
 | follow r=>exact hsay ({s with round:=r}:NS D L) _
 | bolt v=>exact hsay ({s with lock:=some v}:NS D L) _
theorem Move.locked [DgL D] {sz:D→Prop} {s t:NS D L} (hi:InvS sz s) (hl:LockI s) (h:Move s t):LockI t∧lockR s≤lockR t∧∀r0 d0,Ghost r0 d0 s→Ghost r0 d0 t:=by
 have cm:∀k r d,s.count k r d≤t.count k r d:=count_mono h.votes h.n.1 h.n.2.1;rcases h.lock with ⟨e,hr⟩ | ⟨v,e,hr,hr2,hc,hm⟩
 ·refine ⟨⟨fun v hv=>?_,fun v hv=>?_,fun v hv=>?_⟩,?_,fun r0 d0 g=>⟨?_,h.pvl hi hl g.l g.pv⟩⟩
  ·rw [e] at hv;rw [h.n.1];exact Int.le_trans (hl.lq v hv) (cm _ _ _)
  ·rw [e] at hv;exact Int.le_trans (hl.lr v hv) hr
  ·rw [e] at hv;exact h.pvl hi hl ⟨v,hv,Int.le_refl _⟩ (hl.pv v hv)
  ·unfold lockR;rw [e];exact Int.le_refl _
  rw [e];exact g.l
 have hlow:∀u,s.lock=some u→u.round≤v.round:=fun u hu=>by rw [hr];exact hl.lr u hu
 refine ⟨⟨fun u hu=>?_,fun u hu=>?_,fun u hu=>?_⟩,?_,fun r0 d0 g=>⟨?_,h.pvl hi hl g.l g.pv⟩⟩
 ·rw [e] at hu;cases hu;rw [h.n.1,hr];exact Int.le_trans (chosen_count hc).1 (cm _ _ _)
 ·rw [e] at hu;cases hu;rw [hr,hr2];exact Int.le_refl _
 ·rw [e] at hu;cases hu;intro m hmm h4 hne hlt hd;exfalso;rw [hm] at hmm;rcases List.mem_append.1 hmm with q | q
  ·have:=hi.min.no4 m q h4;omega
  have:m = {(vote 5 s.round v.dig:Msg D L) with frm:=s.id,height:=s.height}:=by simpa using q
  subst this;exact absurd h4 (by show ¬(5:Int)=4;decide)
 ·unfold lockR;rw [e];rcases hs:s.lock with _ | u
  ·have:=hi.num.r0;show -1≤v.round;omega
  exact hlow u hs
 obtain ⟨u,hu,q⟩:=g.l;exact ⟨v,e,Int.le_trans q (hlow u hu)⟩
theorem tick_locked [DgL D] {sz:D→Prop} {s:NS D L} (hi:InvS sz s) (hl:LockI s):LockI s.tick.1∧lockR s≤lockR s.tick.1∧∀v,s.lock=some v→PVL v.round v.dig s.tick.1:=by
 unfold NS.tick;simp only;split
 ·exact ⟨⟨hl.lq,hl.lr,hl.pv⟩,Int.le_refl _,hl.pv⟩
 have h0:LockI ({s with ques:=[]}:NS D L).ticked:=⟨hl.lq,hl.lr,hl.pv⟩;have hr:=run_all (sz:=sz) (P:=fun t=>LockI t∧lockR s≤lockR t∧∀r0 d0,Ghost r0 d0 s→Ghost r0 d0 t) (fun a b ha _ hm q=>by
  obtain ⟨q1,q2,q3⟩:=q;obtain ⟨p1,p2,p3⟩:=hm.locked ha q1;exact ⟨p1,Int.le_trans q2 p2,fun r0 d0 g=>p3 r0 d0 (q3 r0 d0 g)⟩) (({s with ques:=[]}:NS D L).ticked.mu+2) (ticked_inv (noques_inv hi)) ⟨h0,Int.le_refl _,fun r0 d0 g=>⟨g.l,g.pv⟩⟩
 exact ⟨hr.1,hr.2.1,fun v hv=>(hr.2.2 v.round v.dig ⟨⟨v,hv,Int.le_refl _⟩,hl.pv v hv⟩).pv⟩
end
theorem nodup_le {α:Type} [DecidableEq α]:∀{a b:List α},a.Nodup→(∀x∈a,x∈b)→a.length≤b.length
 | [],b,_,_=>Nat.zero_le _
 | x :: a,b,hn,h=>by
  rw [List.nodup_cons] at hn;have hx:=h x (by simp);have h2:=nodup_le (b:=b.erase x) hn.2 (fun y hy=>by
   rw [List.mem_erase_of_ne (fun e:y=x=>hn.1 (e ▸ hy))];exact h y (by simp [hy]))
  have h3:=List.length_erase_of_mem hx;have h4:0<b.length:=List.length_pos_of_mem hx;rw [List.length_cons];omega
section
variable {D L:Type} [Dg D] [Inhabited L]
theorem Move.said {sz:D→Prop} {s t:NS D L} (hi:InvS sz s) (h:Move s t):(t.mine=s.mine∧t.votes=s.votes)∨∃m:Msg D L,(m.kind,m.round)∉s.made∧t.mine=s.mine ++ [{m with frm:=s.id,height:=s.height}] ∧
  ∀k,getA k t.votes=match getA k s.votes with | some d=>some d | none=>if m.kind≠3∧k=(s.id,m.kind,s.height,m.round) then some m.dig else none:=by
 have hsay:∀(m0:Msg D L),(m0.kind,m0.round)∉s.made→(s.say m0).mine=s.mine∧(s.say m0).votes=s.votes∨∃m:Msg D L,(m.kind,m.round)∉s.made∧(s.say m0).mine=s.mine ++ [{m with frm:=s.id,height:=s.height}] ∧
  ∀k,getA k (s.say m0).votes=match getA k s.votes with | some d=>some d | none=>if m.kind≠3∧k=(s.id,m.kind,s.height,m.round) then some m.dig else none:=fun m hm=>.inr ⟨m,hm,(say_same s m).2.2.2.2.1,say_get s m⟩
 have h4:s.step=1→((4:Int),s.round)∉s.made:=fun h1=>not_made hi.min (fun m hm h4 e=>by
  have:=hi.min.no4 m hm h4;omega)
 have h5:s.step≠4→((5:Int),s.round)∉s.made:=fun h1=>not_made hi.min (fun m hm h5 e=>by
  have:=hi.min.no5 m hm h5;omega)
 cases h with
 | claims | decide | validate | wait | next=>exact .inl ⟨rfl,rfl⟩
 | spread r hr h=>exact hsay (vote 6 r (s.most 6 r).1) h
 | propose v h h1 hp hm=>exact hsay ⟨3,0,0,0,s.round,v.round,v.dig,v.list⟩ hm
 | key d h h1 hm=>exact hsay (vote 6 s.round d) hm
 | key2 d h h1 hm=>exact hsay (vote 6 s.round d) hm
 | prevote p d h h1=>exact hsay (vote 4 s.round d) (h4 h1)
 | miss h1=>exact hsay (vote 4 s.round Dg.nil) (h4 h1)
 | pass h1=>exact hsay (vote 5 s.round Dg.nil) (h5 (by omega))
 | leave h1=>exact hsay (vote 5 s.round Dg.nil) (h5 (by omega))
 | follow r hr=>exact .inr ⟨vote 5 r Dg.nil,not_made (k:=5) (r:=r) hi.min (fun m hm h5 e=>by
   have:=hi.min.no5 m hm h5;omega),(say_same ({s with round:=r}:NS D L) _).2.2.2.2.1,say_get ({s with round:=r}:NS D L) _⟩
 | bolt v hv h3=>exact .inr ⟨vote 5 s.round v.dig,h5 (by omega),(say_same ({s with lock:=some v}:NS D L) _).2.2.2.2.1,say_get ({s with lock:=some v}:NS D L) _⟩
structure OwnV (s:NS D L):Prop where
 a:∀m∈s.mine,m.kind≠3→getA (s.id,m.kind,s.height,m.round) s.votes=some m.dig
 b:∀k h r d,getA (s.id,k,h,r) s.votes=some d→h=s.height∧∃m∈s.mine,m.kind=k∧k≠3∧m.round=r∧m.dig=d
theorem OwnV.of {s t:NS D L} (h:OwnV s) (hi:t.id=s.id) (hh:t.height=s.height) (hm:t.mine=s.mine) (hv:∀k h r,getA (s.id,k,h,r) t.votes=getA (s.id,k,h,r) s.votes):OwnV t:=
 ⟨fun m hmm h3=>by rw [hi,hh,hv];exact h.a m (hm ▸ hmm) h3,fun k h2 r d q=>by
  rw [hi,hv] at q;obtain ⟨e,m,hmm,q2⟩:=h.b k h2 r d q;exact ⟨by rw [hh];exact e,m,hm ▸ hmm,q2⟩⟩
theorem Move.ownV {sz:D→Prop} {s t:NS D L} (hi:InvS sz s) (h:Move s t) (ho:OwnV s):OwnV t∧∀k,k.1≠s.id→getA k t.votes=getA k s.votes:=by
 obtain ⟨e1,e2,e3⟩:=h.n;rcases h.said hi with ⟨hm,hv⟩ | ⟨m,hnew,hm,hv⟩
 ·exact ⟨ho.of e3 e2 hm (fun k h r=>by rw [hv]),fun k _=>by rw [hv]⟩
 have hfree:m.kind≠3→getA (s.id,m.kind,s.height,m.round) s.votes=none:=fun h3=>by
  rcases hg:getA (s.id,m.kind,s.height,m.round) s.votes with _ | d
  ·rfl
  exfalso;obtain ⟨_,x,hx,x1,_,x3,_⟩:=ho.b _ _ _ _ hg;refine hnew ?_;rw [hi.min.made];exact List.mem_map.2 ⟨x,hx,by rw [x1,x3]⟩
 refine ⟨⟨fun x hx h3=>?_,fun k hh r d q=>?_⟩,fun k hk=>?_⟩
 ·rw [e3,e2,hv];rw [hm] at hx;rcases List.mem_append.1 hx with hx | hx
  ·rw [ho.a x hx h3]
  have e:x = {m with frm:=s.id,height:=s.height}:=by simpa using hx
  subst e;simp only;rw [hfree h3];simp only;rw [if_pos ⟨h3,trivial⟩]
 ·rw [e3,hv] at q;rcases hg:getA (s.id,k,hh,r) s.votes with _ | d'
  ·rw [hg] at q;simp only at q;split at q
   ·rename_i c
    obtain ⟨c1,c2⟩:=c;injection q with q
    injection c2 with _ c2
    injection c2 with c3 c4
    injection c4 with c5 c6
    subst q;exact ⟨by rw [e2,c5],{m with frm:=s.id,height:=s.height},by rw [hm];exact List.mem_append_right _ (List.mem_singleton.2 rfl),c3.symm,by rw [c3];exact c1,c6.symm,rfl⟩
   cases q
  rw [hg] at q;simp only at q;cases q;obtain ⟨a1,x,hx,q2⟩:=ho.b _ _ _ _ hg;exact ⟨by rw [e2];exact a1,x,by rw [hm];exact List.mem_append_left _ hx,q2⟩
 rw [hv];rcases getA k s.votes with _ | d
 ·simp only;rw [if_neg (fun c=>hk (by rw [c.2]))]
 rfl
theorem tick_ownV {sz:D→Prop} {s:NS D L} (hi:InvS sz s) (ho:OwnV s):OwnV s.tick.1∧(∀k,k.1≠s.id→getA k s.tick.1.votes=getA k s.votes)∧∀k d,getA k s.votes=some d→getA k s.tick.1.votes=some d:=by
 unfold NS.tick;simp only;split
 ·exact ⟨⟨ho.a,ho.b⟩,fun _ _=>rfl,fun _ _ h=>h⟩
 have hr:=run_all (sz:=sz) (P:=fun t=>t.id=s.id∧OwnV t∧(∀k,k.1≠s.id→getA k t.votes=getA k s.votes)∧∀k d,getA k s.votes=some d→getA k t.votes=some d) (fun a b ha _ hm q=>by
  obtain ⟨q0,q1,q2,q3⟩:=q;obtain ⟨p1,p2⟩:=hm.ownV ha q1;exact ⟨by rw [hm.n.2.2];exact q0,p1,fun k hk=>by rw [p2 k (by rw [q0];exact hk)];exact q2 k hk,fun k d h=>hm.votes k d (q3 k d h)⟩) (({s with ques:=[]}:NS D L).ticked.mu+2) (ticked_inv (noques_inv hi)) ⟨rfl,⟨ho.a,ho.b⟩,fun _ _=>rfl,fun _ _ h=>h⟩
 exact hr.2
theorem new_ownV (id n:Int):OwnV (newS id n:NS D L):=⟨(fun m hm=>(List.not_mem_nil (show m∈([]:List (Msg D L)) from hm)).elim),(fun k h r d q=>by have q:(none:Option D)=some d:=q;cases q)⟩
theorem receive_ownV {s:NS D L} (ho:OwnV s) {m:Msg D L} {ok:Bool} (hf:ok=true→m.frm≠m.to):OwnV (s.receive m ok):=by
 obtain ⟨e1,e2,e3,e4,e5,e6,e7,e8⟩:=receive_kept s m ok;refine ho.of e2 e1 e5 (fun k h r=>?_);unfold NS.receive;split
 ·rfl
 rename_i q
 simp only [not_or,Bool.not_eq_false,Decidable.not_not,Int.not_le,Int.not_lt] at q;obtain ⟨q1,q2,q3,q4⟩:=q;split
 ·rfl
 split
 ·obtain ⟨a,b,e⟩:=ask_same s m;rw [e]
 split
 ·rfl
 split
 ·rw [putVote_get];rcases getA (s.id,k,h,r) s.votes with _ | d
  ·simp only;rw [if_neg (fun c=>hf q1 (by injection c with c _;rw [q2];exact c.symm))]
  rfl
 split
 ·rfl
 split <;> rfl
def addB (l:List (Bal×D)) (m:Msg D L):List (Bal×D):=
 match getA (m.frm,m.kind,m.height,m.round) l with
 | some _=>l
 | none=>l ++ [((m.frm,m.kind,m.height,m.round),m.dig)]
def countB (l:List (Bal×D)) (k h r:Int) (d:D):Int:=((l.filter fun p=>decide (p.1.2=(k,h,r)) && decide (p.2=d)).length:Int)
theorem addB_get (l:List (Bal×D)) (m:Msg D L) (k:Bal):getA k (addB l m)=match getA k l with | some d=>some d | none=>if k=(m.frm,m.kind,m.height,m.round) then some m.dig else none:=by
 unfold addB;split
 ·rename_i d hd
  rcases hk:getA k l with _ | x
  ·simp only;rw [if_neg (fun e=>by rw [e,hd] at hk;cases hk)]
  rfl
 rename_i hd
 rw [←putA_new hd,getA_put];by_cases e:k=(m.frm,m.kind,m.height,m.round)
 ·rw [if_pos e,e,hd];simp
 rw [if_neg e,if_neg e];rcases getA k l with _ | x <;> rfl
theorem addB_nodup {l:List (Bal×D)} (h:(l.map (·.1)).Nodup) (m:Msg D L):((addB l m).map (·.1)).Nodup:=by
 unfold addB;split
 ·exact h
 rename_i hd
 rw [←putA_new hd];exact nodup_putA h
theorem addB_mem {l:List (Bal×D)} {m:Msg D L} {p:Bal×D} (h:p∈addB l m):p∈l∨p.1.1=m.frm:=by
 unfold addB at h;split at h
 ·exact .inl h
 rcases List.mem_append.1 h with h | h
 ·exact .inl h
 have e:p=((m.frm,m.kind,m.height,m.round),m.dig):=by simpa using h
 exact .inr (by rw [e])
theorem countB_eq {l votes:List (Bal×D)} {n:Nat} (hn:(l.map (·.1)).Nodup) (hr:∀p∈l,0≤p.1.1∧p.1.1<n) (he:∀k,getA k l=getA k votes) (k h r:Int) (d:D):countB l k h r d=((voters n votes k h r).count d:Int):=by
 have e1:(voters n votes k h r).count d=((List.range n).filter fun (i:Nat)=>decide (getA ((i:Int),k,h,r) l=some d)).length:=by
  unfold voters;induction List.range n with
  | nil=>rfl
  | cons i t ih=>
   rw [List.filterMap_cons,List.filter_cons,he];rcases hg:getA ((i:Int),k,h,r) votes with _ | x
   ·simp only [hg,reduceCtorEq,decide_false,Bool.false_eq_true,if_false];exact ih
   by_cases q:x=d
   ·subst q;simp only [hg,decide_true,if_true,List.count_cons_self,List.length_cons,ih]
   have q2:¬(some x=some d):=fun e=>q (by simpa using e);simp only [hg,q2,decide_false,Bool.false_eq_true,if_false];rw [List.count_cons_of_ne q];exact ih
 rw [e1];unfold countB;have a1:((l.filter fun p=>decide (p.1.2=(k,h,r)) && decide (p.2=d)).map fun p=>p.1.1).Nodup:=by
  clear hr he e1;induction l with
  | nil=>simp
  | cons p t ih=>
   rw [List.map_cons,List.nodup_cons] at hn;rw [List.filter_cons];split
   ·rename_i q
    simp only [Bool.and_eq_true,decide_eq_true_eq] at q;rw [List.map_cons,List.nodup_cons];refine ⟨fun hm=>?_,ih hn.2⟩;obtain ⟨u,hu,e⟩:=List.mem_map.1 hm;simp only [List.mem_filter,Bool.and_eq_true,decide_eq_true_eq] at hu;exact hn.1 (List.mem_map.2 ⟨u,hu.1,Prod.ext e (by rw [hu.2.1,q.1])⟩)
   exact ih hn.2
 have a2:(((List.range n).filter fun (i:Nat)=>decide (getA ((i:Int),k,h,r) l=some d)).map fun (i:Nat)=>(i:Int)).Nodup:=
  List.Pairwise.map _ (fun a b (e:a≠b)=>by show (a:Int)≠(b:Int);omega) ((List.nodup_range (n:=n)).sublist List.filter_sublist)
 have l1:=nodup_le a1 (b:=((List.range n).filter fun (i:Nat)=>decide (getA ((i:Int),k,h,r) l=some d)).map fun (i:Nat)=>(i:Int)) (fun x hx=>by
  obtain ⟨p,hp,rfl⟩:=List.mem_map.1 hx;simp only [List.mem_filter,Bool.and_eq_true,decide_eq_true_eq] at hp;obtain ⟨hp,q1,q2⟩:=hp;have hb:=hr p hp;refine List.mem_map.2 ⟨p.1.1.toNat,?_,by omega⟩;simp only [List.mem_filter,List.mem_range,decide_eq_true_eq];refine ⟨by omega,?_⟩;have e:((p.1.1.toNat:Int),k,h,r)=p.1:=Prod.ext (by show ((p.1.1.toNat:Nat):Int)=p.1.1;omega) q1.symm;rw [e,←q2];exact getA_of hn hp)
 have l2:=nodup_le a2 (b:=(l.filter fun p=>decide (p.1.2=(k,h,r)) && decide (p.2=d)).map fun p=>p.1.1) (fun x hx=>by
  obtain ⟨i,hi,rfl⟩:=List.mem_map.1 hx;simp only [List.mem_filter,List.mem_range,decide_eq_true_eq] at hi;have hm:=getA_mem hi.2;refine List.mem_map.2 ⟨(((i:Int),k,h,r),d),?_,rfl⟩;simp only [List.mem_filter,Bool.and_eq_true,decide_eq_true_eq];exact ⟨hm,trivial,trivial⟩)
 simp only [List.length_map] at l1 l2;have:=Nat.le_antisymm l1 l2;omega
theorem fold_addB (ms:List (Msg D L)):∀(l:List (Bal×D)) (k:Bal),getA k (ms.foldl addB l)=match getA k l with | some d=>some d | none=>(ms.find? fun m=>decide (k=(m.frm,m.kind,m.height,m.round))).map (·.dig):=by
 induction ms with
 | nil=>intro l k;show getA k l=_;rcases getA k l with _ | x <;> rfl
 | cons m ms ih=>
  intro l k;rw [List.foldl_cons,ih,addB_get];rcases getA k l with _ | x
  ·simp only;rw [List.find?_cons];by_cases e:k=(m.frm,m.kind,m.height,m.round)
   ·simp only [if_pos e,decide_eq_true e];rfl
   simp only [if_neg e,decide_eq_false e]
  rfl
theorem tick_sends2 {s:NS D L} (h:s.isDec s.height=false):∃t,t≤s.mine.length∧s.tick.2=s.answers ++ s.tick.1.sends (s.tick.1.mine.drop t):=by
 unfold NS.tick;simp only;rw [if_neg (by show ¬s.isDec s.height=true;rw [h];simp)];refine ⟨_,?_,rfl⟩;split
 ·exact Nat.zero_le _
 exact Nat.le_refl _
theorem sends_mem {s:NS D L} {ms:List (Msg D L)} {a:Msg D L} (ha:a∈ms) {t:Nat} (h1:(t:Int)<s.n) (h2:(t:Int)≠s.id):(⟨a.kind,a.frm,(t:Int),a.height,a.round,a.valid,a.dig,a.list⟩:Msg D L)∈s.sends ms:=by
 unfold NS.sends;refine List.mem_flatMap.2 ⟨a,ha,List.mem_filterMap.2 ⟨t,List.mem_range.2 (by omega),?_⟩⟩;rw [if_pos h2]
structure RefV (n:Int) (l:List (Bal×D)) (s:NS D L):Prop where
 nd:(l.map (·.1)).Nodup
 rg:∀p∈l,0≤p.1.1∧p.1.1<n
 eq:∀k,getA k l=getA k s.votes
theorem RefV.tick {sz:D→Prop} {G:D→L→Prop} {n:Int} {l:List (Bal×D)} {s:NS D L} (h:RefV n l s) (hi:InvS sz s) (hg:GI sz G s) (ho:OwnV s) (hn:s.n=n) (h2:2≤n) (hd:s.isDec s.height=false) (hq:s.ques = []) :
  RefV n ((s.tick.2.filter fun m=>decide (m.kind≠3)).foldl addB l) s.tick.1:=by
 obtain ⟨t,ht,hout⟩:=tick_sends2 hd;have hans:s.answers = []:=by unfold NS.answers;rw [hq];rfl
 rw [hans,List.nil_append] at hout;obtain ⟨o1,o2,o3⟩:=tick_ownV hi ho;have hk:=tick_keep hi;have hi2:=tick_inv hi;have hg2:=tick_G hi hg;have hfrm:∀m∈(s.tick.2.filter fun m=>decide (m.kind≠3)),m.frm=s.id∧m.height=s.height∧m.kind≠3∧∃a∈s.tick.1.mine,a.kind=m.kind∧a.round=m.round∧a.dig=m.dig:=fun m hm=>by
  simp only [List.mem_filter,decide_eq_true_eq] at hm;obtain ⟨hm,h3⟩:=hm;rw [hout] at hm;obtain ⟨a,ha,x,_,_,rfl⟩:=mem_sends hm;have ha:=List.mem_of_mem_drop ha;have:=hg2.mg a ha;exact ⟨by show a.frm=_;rw [this.frm,hk.id],by show a.height=_;rw [this.height,hk.height],h3,a,ha,rfl,rfl,rfl⟩
 refine ⟨?_,?_,fun k=>?_⟩
 ·clear hfrm;induction (s.tick.2.filter fun m=>decide (m.kind≠3)) generalizing l with
  | nil=>exact h.nd
  | cons m ms ih=>
   rw [List.foldl_cons];have:∀(ms:List (Msg D L)) (l:List (Bal×D)),(l.map (·.1)).Nodup→((ms.foldl addB l).map (·.1)).Nodup:=by
    intro ms;induction ms with
    | nil=>intro l h;exact h
    | cons a ms ih2=>intro l h;exact ih2 _ (addB_nodup h a)
   exact this _ _ (addB_nodup h.nd m)
 ·have:∀(ms:List (Msg D L)) (l:List (Bal×D)),(∀m∈ms,m.frm=s.id)→(∀p∈l,0≤p.1.1∧p.1.1<n)→∀p∈ms.foldl addB l,0≤p.1.1∧p.1.1<n:=by
   intro ms;induction ms with
   | nil=>intro l _ h;exact h
   | cons a ms ih2=>
    intro l hm h;refine ih2 _ (fun m hmm=>hm m (by simp [hmm])) (fun p hp=>?_);rcases addB_mem hp with q | q
    ·exact h p q
    rw [q,hm a (by simp)];exact ⟨hi.num.id0,by rw [←hn];exact hi.num.idn⟩
  exact this _ _ (fun m hm=>(hfrm m hm).1) h.rg
 rw [fold_addB,h.eq];rcases hk0:getA k s.votes with _ | d
 ·simp only;rcases hf:(s.tick.2.filter fun m=>decide (m.kind≠3)).find? (fun m=>decide (k=(m.frm,m.kind,m.height,m.round))) with _ | m
  ·rw [hf];rw [List.find?_eq_none] at hf;show none=_;rcases hv:getA k s.tick.1.votes with _ | d
   ·rfl
   exfalso;by_cases e1:k.1=s.id
   ·obtain ⟨k1,k2,k3,k4⟩:=k;simp only at e1;subst e1;rw [←hk.id] at hv hk0;obtain ⟨b1,x,hx,b2,b3,b4,b5⟩:=o1.b _ _ _ _ hv;have hnew:x∈s.tick.1.mine.drop t:=by
     obtain ⟨u,hu⟩:=hk.mine;rw [hu] at hx ⊢;rcases List.mem_append.1 hx with hx | hx
     ·exfalso;have:=ho.a x hx (by rw [b2];exact b3);rw [b2,b4] at this;rw [hk.id,b1,hk.height,this] at hk0;cases hk0
     rw [List.drop_append_of_le_length ht];exact List.mem_append_right _ hx
    obtain ⟨y,y1,y2⟩:∃y:Nat,(y:Int)<s.tick.1.n∧(y:Int)≠s.tick.1.id:=by
     rw [hk.n,hk.id,hn];by_cases z:s.id=0
     ·exact ⟨1,by show (1:Int)<n;omega,by rw [z];decide⟩
     exact ⟨0,by show (0:Int)<n;omega,fun e=>z e.symm⟩
    have hin:=sends_mem hnew y1 y2;rw [←hout] at hin;have ox:=hg2.mg x hx;refine hf _ (List.mem_filter.2 ⟨hin,by simpa using (by rw [b2];exact b3:x.kind≠3)⟩) ?_;rw [decide_eq_true_eq];show (s.id,k2,k3,k4)=(x.frm,x.kind,x.height,x.round);rw [ox.frm,b2,ox.height,b4,b1,hk.id]
   rw [o2 k e1,hk0] at hv;cases hv
  have hm:=List.mem_of_find?_eq_some hf;have he:=List.find?_some hf;rw [decide_eq_true_eq] at he;obtain ⟨f1,f2,f3,a,ha,a1,a2,a3⟩:=hfrm m hm;rw [hf];show some m.dig=_;have:=o1.a a ha (by rw [a1];exact f3);rw [he,f1,f2,←a1,←a2,←a3];rw [hk.id,hk.height] at this;exact this.symm
 simp only;exact (o3 k d hk0).symm
theorem RefV.receive {n:Int} {l:List (Bal×D)} {s:NS D L} (h:RefV n l s) {m:Msg D L} {ok:Bool} (hn:s.n=n) (hd:s.isDec m.height=false) (hh:m.height=s.height) (ht:m.to=s.id) (hf0:ok=true→0≤m.frm)
  (hk:m.kind=3∨m.kind=4∨m.kind=6∨m.kind=5):RefV n (if ok=true∧m.kind≠3∧m.frm<n then addB l m else l) (s.receive m ok):=by
 by_cases hok:ok=true
 ·have hf0:=hf0 hok;by_cases hfn:m.frm<n
  ·have c1:¬(ok=false∨m.to≠s.id∨s.n≤m.frm∨s.height<m.height):=by
    rintro (q | q | q | q)
    ·rw [hok] at q;cases q
    ·exact q ht
    ·omega
    omega
   have c2:¬m.height<s.height:=by omega
   by_cases h3:m.kind=3
   ·rw [if_neg (by rintro ⟨_,q,_⟩;exact q h3)];unfold NS.receive;rw [if_neg c1,if_neg (fun q=>q hk),hd];simp only [Bool.false_eq_true,if_false];rw [if_neg c2,if_neg (fun q=>q h3)];split
    ·exact ⟨h.nd,h.rg,h.eq⟩
    split
    ·exact h
    exact ⟨h.nd,h.rg,h.eq⟩
   rw [if_pos ⟨hok,h3,hfn⟩];unfold NS.receive;rw [if_neg c1,if_neg (fun q=>q hk),hd];simp only [Bool.false_eq_true,if_false];rw [if_neg c2,if_pos h3];refine ⟨addB_nodup h.nd m,fun p hp=>?_,fun k=>?_⟩
   ·rcases addB_mem hp with q | q
    ·exact h.rg p q
    rw [q];exact ⟨hf0,hfn⟩
   rw [addB_get,putVote_get,h.eq];try (rcases getA k s.votes with _ | x <;> rfl)
  rw [if_neg (by rintro ⟨_,_,q⟩;exact hfn q)];unfold NS.receive;rw [if_pos (by right;right;left;rw [hn];omega)];exact h
 rw [if_neg (by rintro ⟨q,_⟩;exact hok q)];unfold NS.receive;rw [if_pos (.inl (by simpa using hok))];exact h
end
section
variable {D L:Type} [Dg D] [Inhabited L]
theorem receive_mono (s:NS D L) (m:Msg D L) (ok:Bool):∀k d,getA k s.votes=some d→getA k (s.receive m ok).votes=some d:=by
 intro k d h;unfold NS.receive;split
 ·exact h
 split
 ·exact h
 split
 ·obtain ⟨a,b,e⟩:=ask_same s m;rw [e];exact h
 split
 ·exact h
 split
 ·rw [putVote_get,h]
 split
 ·exact h
 split <;> exact h
theorem LockI.of {s t:NS D L} (h:LockI s) (hl:t.lock=s.lock) (hr:t.round=s.round) (hm:t.mine=s.mine) (hn:t.n=s.n) (hh:t.height=s.height) (hv:∀k d,getA k s.votes=some d→getA k t.votes=some d):LockI t:=by
 have cm:∀k r d,s.count k r d≤t.count k r d:=count_mono hv hn hh;refine ⟨fun v e=>?_,fun v e=>?_,fun v e=>?_⟩
 ·rw [hl] at e;rw [hn];exact Int.le_trans (h.lq v e) (cm _ _ _)
 ·rw [hl] at e;rw [hr];exact h.lr v e
 rw [hl] at e;exact (h.pv v e).mono hm hn cm
structure LkI (sz:D→Prop) (G:D→L→Prop) (me n:Int) (s:NS D L) (l:List (Bal×D)):Prop where
 o:OnceI sz G me n s []
 un:s.isDec 0=false
 lk:LockI s
 ov:OwnV s
 rv:RefV n l s
theorem LkI.start {sz:D→Prop} (hz:sz Dg.nil) (G:D→L→Prop) {me n:Int} (h0:0≤me) (h1:me<n) (h7:n≤7):LkI sz G me n (newS me n:NS D L) []:=
 ⟨OnceI.start hz G h0 h1 h7,rfl,⟨fun v h=>(by cases h),fun v h=>(by cases h),fun v h=>(by cases h)⟩,new_ownV me n,⟨List.nodup_nil,fun p hp=>(by cases hp),fun k=>rfl⟩⟩
theorem LkI.begin {sz:D→Prop} {G:D→L→Prop} (hGz:∀d l,G d l→sz d) {me n:Int} {s:NS D L} {l:List (Bal×D)} (h:LkI sz G me n s l) (ok:Bool) {d:D} {x:L} (hd:ok=true→G d x):LkI sz G me n (s.begin 0 ok d x).1 l:=by
 have h1:=(h.o.begin hGz ok hd).1;obtain ⟨o,a,e⟩:=begin_zero s h.o.height ok d x;rw [e] at h1 ⊢;exact ⟨h1,h.un,h.lk.of rfl rfl rfl rfl rfl (fun _ _ q=>q),h.ov.of rfl rfl rfl (fun _ _ _=>rfl),⟨h.rv.nd,h.rv.rg,h.rv.eq⟩⟩
theorem LkI.accept {sz:D→Prop} {G:D→L→Prop} {me n:Int} {s:NS D L} {l:List (Bal×D)} (h:LkI sz G me n s l) (d:D) (hi:InvS sz (s.accept d)):LkI sz G me n (s.accept d) l:=
 ⟨h.o.accept d hi,h.un,h.lk.of rfl rfl rfl rfl rfl (fun _ _ q=>q),h.ov.of rfl rfl rfl (fun _ _ _=>rfl),⟨h.rv.nd,h.rv.rg,h.rv.eq⟩⟩
theorem LkI.receive {sz:D→Prop} {G:D→L→Prop} {me n:Int} {s:NS D L} {l:List (Bal×D)} (h:LkI sz G me n s l) {m:Msg D L} {ok:Bool} (hh:m.height=0) (ht:m.to=me)
  (h1:ok=true→m.kind=3∨m.kind=4∨m.kind=6∨m.kind=5→OkM sz m) (h2:ok=true→m.kind=3∨m.kind=4∨m.kind=6∨m.kind=5→InM m) (h3:ok=true→m.kind=3→G m.dig m.list)
  (hf:ok=true→0≤m.frm∧m.frm≠m.to) (hk:m.kind=3∨m.kind=4∨m.kind=6∨m.kind=5) :
  LkI sz G me n (s.receive m ok) (if ok=true∧m.kind≠3∧m.frm<n then addB l m else l):=by
 obtain ⟨e1,e2,e3,e4,e5,e6,e7,e8⟩:=receive_kept s m ok;refine ⟨h.o.receive hh h1 h2 h3,?_,h.lk.of e7 e6 e5 e3 e1 (receive_mono s m ok),receive_ownV h.ov (fun q=>(hf q).2),h.rv.receive h.o.nn (by rw [hh];exact h.un) (by rw [hh,h.o.height]) (by rw [ht,h.o.id]) (fun q=>(hf q).1) hk⟩;have:=h.un;unfold NS.isDec at this ⊢;rw [e4];exact this
def boxT (l:List (Bal×D)) (ms:List (Msg D L)):List (Bal×D):=(ms.filter fun m=>decide (m.kind≠3)).foldl addB l
structure LkT (n:Int) (s:NS D L) (l:List (Bal×D)):Prop where
 up:lockR s≤lockR s.tick.1
 pre:∀m∈s.tick.2,∀v,s.lock=some v→m.kind=4→m.dig≠Dg.nil→v.round<m.round→m.dig≠v.dig→∃k:Int,v.round≤k∧0≤k∧k≤99∧faultsN n<countB l 6 0 k m.dig
 quo:∀v,s.tick.1.lock=some v→quorumN n≤countB l 6 0 v.round v.dig
theorem LkI.tick [DgL D] {sz:D→Prop} {G:D→L→Prop} {me n:Int} {s:NS D L} {l:List (Bal×D)} (h:LkI sz G me n s l) (h2:2≤n) (hd:s.tick.1.isDec 0=false) :
  LkI sz G me n s.tick.1 (boxT l s.tick.2)∧LkT n s (boxT l s.tick.2):=by
 obtain ⟨a1,a2,a3⟩:=tick_locked h.o.inv h.lk;have hq:=h.o.ques h.un;have hdh:s.isDec s.height=false:=by rw [h.o.height];exact h.un
 have hrv:=h.rv.tick h.o.inv h.o.g h.ov h.o.nn h2 hdh hq;have ho:=h.o.tick.1;have hI:LkI sz G me n s.tick.1 (boxT l s.tick.2):=⟨ho,hd,a1,(tick_ownV h.o.inv h.ov).1,hrv⟩;have hk:=tick_keep h.o.inv;have n1:=h.o.inv.num.n1;have hcb:∀k r d,countB (boxT l s.tick.2) k 0 r d=s.tick.1.count k r d:=fun k r d=>by
  have:=countB_eq (n:=s.tick.1.n.toNat) hrv.nd (fun p hp=>by
   have q:=hrv.rg p hp;rw [ho.nn];omega) hrv.eq k 0 r d
  unfold NS.count;rw [ho.height];exact this
 refine ⟨hI,a2,fun m hm v hv h4 hne hr hdg=>?_,fun v hv=>?_⟩
 ·obtain ⟨u,hu⟩:=tick_sends (s:=s) hdh;have hans:s.answers = []:=by unfold NS.answers;rw [hq];rfl
  rw [hans,List.nil_append] at hu;rw [hu] at hm;obtain ⟨a,ha,x,_,_,rfl⟩:=mem_sends hm;obtain ⟨k,k1,k2,k3,k4⟩:=a3 v hv a (List.mem_of_mem_drop ha) h4 hne hr hdg;rw [ho.nn] at k4;exact ⟨k,k1,k2,k3,by rw [hcb];exact k4⟩
 rw [hcb];have:=a1.lq v hv;rw [ho.nn] at this;exact this
end
end Go.Proofs.YtifcdjmcoibblaaGreatDoor
