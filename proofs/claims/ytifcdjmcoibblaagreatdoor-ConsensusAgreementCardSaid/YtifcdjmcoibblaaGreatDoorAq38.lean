/- ConW ConX Agr Ags Agm Agt -/
import Derived.Test.YtifcdjmcoibblaaGreatDoorAq37
set_option linter.unusedVariables false
set_option linter.unusedSimpArgs false
set_option linter.unusedSectionVars false
namespace Go.Proofs.YtifcdjmcoibblaaGreatDoor
section
variable {D L:Type} [Dg D] [Inhabited L]
inductive Move (s:NS D L):NS D L->Prop
 | claims (m:Msg D L) (h:Z0v s s.order=some m):Move s {s with decs:=Z18 s.height ⟨-1,m.dig,m.list⟩ s.decs}
 | decide (v:Val D L) (r:Nat) (hr:r<100) (h:s.chosenList 5 r=some v):Move s {s with decs:=Z18 s.height v s.decs}
 | spread (r:Nat) (hr:(r:Int)<=s.round) (h:((6:Int),(r:Int))∉s.made) (hd:(s.most 6 r).1≠Dg.nil) (hc:Z03 s.n<(s.most 6 r).2):Move s (s.say (vote 6 r (s.most 6 r).1))
 | validate (v:Val D L) (h:s.chosenList 6 v.round=some v) (hr:s.least<v.round∧v.round<=s.round):Move s {s with valid:=some v}
 | follow (r:Int) (hr:s.round<r∧r<=99) (hp:Z03 s.n<s.passed r):Move s ({s with round:=r}.cast 5 Dg.nil 4)
 | propose (v:Val D L) (h:s.toPropose=some v) (h1:s.step=1) (hp:s.proposer s.id s.height s.round=true) (hm:((3:Int),s.round)∉s.made):Move s (s.say ⟨3,0,0,0,s.round,v.round,v.dig,v.list⟩)
 | prevote (p:Msg D L) (d:D) (h:Z02 s.round s.props=some p) (h1:s.step=1) (ha:p.dig∈s.acc) (hv:0<=p.valid->Z03 s.n<s.count 6 p.valid p.dig)
   (hd:d=Dg.nil∨(d=p.dig∧∀v,s.lock=some v->v.dig≠p.dig->v.round<=p.valid)):Move s (s.cast 4 d 2)
 | miss (h1:s.step=1) (hl:s.late=true):Move s (s.cast 4 Dg.nil 2)
 | key (d:D) (h:s.chosen 4 s.round=some d) (h1:s.step≠1) (hm:((6:Int),s.round)∉s.made) (h2:s.step≠2):Move s (s.say (vote 6 s.round d))
 | key2 (d:D) (h:s.chosen 4 s.round=some d) (h1:s.step=2) (hm:((6:Int),s.round)∉s.made):Move s ((s.say (vote 6 s.round d)).enter 3)
 | wait (h1:s.step=2) (hm:((6:Int),s.round)∈s.made):Move s (s.enter 3)
 | pass (h1:s.step=2) (h:s.late=true∨Z0s s.n<=s.count 4 s.round Dg.nil):Move s (s.cast 5 Dg.nil 4)
 | bolt (v:Val D L) (h:s.chosenList 6 s.round=some v) (h1:s.step=3):Move s ({s with lock:=some v}.cast 5 v.dig 4)
 | leave (h1:s.step=3) (hl:s.late=true):Move s (s.cast 5 Dg.nil 4)
 | next (h1:s.step=4) (hl:s.late=true) (hr:s.round+1<100):Move s ({s with round:=s.round+1}.enter 1)
theorem Z2y {s:NS D L} {k r:Int} {v:Val D L} (h:s.chosenList k r=some v):v.round=r∧s.chosen k r=some v.dig∧s.known v.dig=some v.list:=by
 unfold NS.chosenList at h;split at h
 ·cases h
 rename_i d hc
 split at h
 ·cases h
 rename_i l hl
 cases h;exact ⟨rfl,hc,hl⟩
theorem Move.of_rule {s s':NS D L} (hr0:0<=s.round) {k:Nat} (he:s.rule k=some s'):Move s s':=by
 unfold NS.rule at he;split at he
 ·unfold NS.rDecide at he;split at he
  ·rename_i m hm;cases he;exact .claims m hm
  split at he
  ·rename_i v hv
   cases he;obtain ⟨r,h1,h2,_⟩:=Z0i hv;exact .decide v r h1 h2
  cases he
 ·unfold NS.rSpread at he;obtain ⟨k,hk,hf,_⟩:=Z0i he;simp only at hf;split at hf
  ·rename_i q;cases hf;exact .spread k (by omega) q.1 q.2.1 q.2.2
  cases hf
 ·unfold NS.rValidate at he;obtain ⟨k,hk,hf,_⟩:=Z0i he;rcases hc:s.chosenList 6 (s.round - k) with _ | v
  ·rw [hc] at hf;cases hf
  rw [hc] at hf;cases hf;have e:=(Z2y hc).1;exact .validate v (by rw [e];exact hc) ⟨by omega,by omega⟩
 ·unfold NS.rFollow at he;obtain ⟨k,hk,hf,_⟩:=Z0i he;split at hf
  ·rename_i q
   cases hf;exact .follow (99 - k) ⟨by omega,by omega⟩ q
  cases hf
 ·unfold NS.rPropose at he;split at he
  ·cases he
  rename_i v hv
  split at he
  ·cases he
  rename_i q
  simp only [not_or,Decidable.not_not,Bool.not_eq_false] at q;cases he;exact .propose v hv q.1 q.2.1 q.2.2
 ·unfold NS.rPrevote at he;split at he
  ·cases he
  rename_i p hp
  split at he
  ·cases he
  rename_i q
  simp only [not_or,Decidable.not_not] at q;split at he
  ·cases he
  rename_i q2
  simp only [not_and,Int.not_le] at q2;cases he;refine .prevote p _ hp q.1 q.2 q2 ?_;split
  ·rename_i v hv
   split
   ·exact .inl rfl
   rename_i q3
   refine .inr ⟨rfl,λu hu hne=>?_⟩;cases hv.symm.trans hu;simp only [not_and,Int.not_lt] at q3;exact q3 hne
  rename_i hv
  exact .inr ⟨rfl,λu hu=>by rw [hv] at hu;cases hu⟩
 ·unfold NS.rMiss at he;split at he
  ·cases he
  rename_i q
  simp only [not_or,Decidable.not_not,Bool.not_eq_false] at q;cases he;exact .miss q.1 q.2
 ·unfold NS.rKey at he;split at he
  ·cases he
  rename_i d hd
  split at he
  ·cases he
  rename_i q
  simp only [not_or] at q;simp only at he;have e:=(Z0j s (vote 6 s.round d)).2.2.1;cases he;split
  ·rename_i q2
   exact .key2 d hd (by rw [<-e];exact q2) q.2
  rename_i q2
  exact .key d hd q.1 q.2 (by rw [<-e];exact q2)
 ·unfold NS.rWait at he;split at he
  ·cases he
  rename_i q
  simp only [ne_eq,Decidable.not_not] at q;split at he
  ·rename_i q2;cases he;exact .wait q q2
  split at he
  ·rename_i q3;cases he;exact .pass q q3
  cases he
 ·unfold NS.rSeal at he;split at he
  ·cases he
  rename_i v hv
  split at he
  ·cases he
  rename_i q
  simp only [ne_eq,Decidable.not_not] at q;cases he;exact .bolt v hv q
 ·unfold NS.rLeave at he;split at he
  ·cases he
  rename_i q
  simp only [not_or,Decidable.not_not,Bool.not_eq_false] at q;cases he;exact .leave q.1 q.2
 ·unfold NS.rNext at he;split at he
  ·cases he
  rename_i q
  simp only [not_or,Decidable.not_not,Bool.not_eq_false,Int.not_le] at q;cases he;exact .next q.1 q.2.1 q.2.2
 cases he
theorem Zgq {sz:D->Prop} {P:NS D L->Prop} (hs:∀s t:NS D L,Z0x sz s->s.isDec s.height=false->Move s t->P s->P t):∀(k:Nat) {s:NS D L},Z0x sz s->P s->P (NS.runS k s)
 | 0,s,_,h=>h
 | k+1,s,hi,h=>by
  unfold NS.runS;split
  ·exact h
  rename_i hd
  split
  ·exact h
  rename_i t he
  obtain ⟨j,_,hj,_⟩:=Z0i he;exact Zgq hs k (Z5a hi he).1 (hs s t hi (by simpa using hd) (Move.of_rule hi.num.r0 hj) h)
theorem Z9u (s:NS D L) (m:Msg D L) (k:Bal):Z02 k (s.putVote m).votes=match Z02 k s.votes with | some d=>some d | none=>if k=(m.frm,m.kind,m.height,m.round) then some m.dig else none:=by
 unfold NS.putVote;split
 ·rename_i d hd
  rcases hk:Z02 k s.votes with _ | x
  ·simp only;rw [if_neg (λe=>by rw [e,hd] at hk;cases hk)]
  rfl
 rename_i hd
 show Z02 k (Z18 _ _ s.votes)=_;rw [Z29];by_cases e:k=(m.frm,m.kind,m.height,m.round)
 ·rw [if_pos e,e,hd];simp
 rw [if_neg e,if_neg e];rcases Z02 k s.votes with _ | x <;> rfl
theorem Z3c (s:NS D L) (m:Msg D L) (k:Bal):Z02 k (s.say m).votes=match Z02 k s.votes with | some d=>some d | none=>if m.kind≠3∧k=(s.id,m.kind,s.height,m.round) then some m.dig else none:=by
 unfold NS.say;simp only;split
 ·rename_i h3
  show Z02 k s.votes=_;rcases Z02 k s.votes with _ | x
  ·simp [h3]
  rfl
 rename_i h3
 rw [Z9u];show (match Z02 k s.votes with | some d=>some d | none=>if k=(s.id,m.kind,s.height,m.round) then some m.dig else none)=_;rcases Z02 k s.votes with _ | x
 ·simp [h3]
 rfl
theorem Z2w [DgL D] {s:NS D L} {k r:Int} {d:D} (h:s.chosen k r=some d):Z0s s.n<=s.count k r d∧d≠Dg.nil:=by
 unfold NS.chosen at h;simp only at h;split at h
 ·rename_i q
  cases h;refine ⟨?_,q.1⟩;unfold NS.count NS.most at *;rcases Z7n (Z0y s.n.toNat s.votes k s.height r) with ⟨_,e⟩ | ⟨⟨_,e⟩,_⟩
  ·exact absurd (by rw [e]) q.1
  rw [<-e];exact q.2
 cases h
def Z1w (s:NS D L):Int:=match s.lock with | some v=>v.round | none=>-1
end
theorem Z8p {α:Type} [DecidableEq α]:∀{a b:List α},a.Nodup->(∀x∈a,x∈b)->a.length<=b.length
 | [],b,_,_=>Nat.zero_le _
 | x :: a,b,hn,h=>by
  rw [List.nodup_cons] at hn;have hx:=h x (by simp);have h2:=Z8p (b:=b.erase x) hn.2 (λy hy=>by
   rw [List.mem_erase_of_ne (λe:y=x=>hn.1 (e ▸ hy))];exact h y (by simp [hy]))
  have h3:=List.length_erase_of_mem hx;have h4:0<b.length:=List.length_pos_of_mem hx;rw [List.length_cons];omega
section
variable {D L:Type} [Dg D] [Inhabited L]
structure OwnV (s:NS D L):Prop where
 a:∀m∈s.mine,m.kind≠3->Z02 (s.id,m.kind,s.height,m.round) s.votes=some m.dig
 b:∀k h r d,Z02 (s.id,k,h,r) s.votes=some d->h=s.height∧∃m∈s.mine,m.kind=k∧k≠3∧m.round=r∧m.dig=d
structure RefV (n:Int) (l:List (Bal×D)) (s:NS D L):Prop where
 nd:(l.map (·.1)).Nodup
 rg:∀p∈l,0<=p.1.1∧p.1.1<n
 eq:∀k,Z02 k l=Z02 k s.votes
end
theorem Zaj {α:Type} [DecidableEq α] {a b:List α} {p:α->Bool} (h:a.Nodup) (hb:∀x∈a,p x=false->x∈b):a.length<=(a.filter p).length+b.length:=by
 have h1:a.length=(a.filter p).length+(a.filter (λx=>!p x)).length:=by
  induction a with
  | nil=>rfl
  | cons x a ih=>
   rw [List.nodup_cons] at h;have ih:=ih h.2 (λy hy=>hb y (List.mem_cons_of_mem _ hy));rw [List.filter_cons,List.filter_cons];rcases p x with _ | _
   ·simp;omega
   simp;omega
 have h2:(a.filter (λx=>!p x)).length<=b.length:=Z8p (h.filter _) (λx hx=>by
  obtain ⟨h3,h4⟩:=List.mem_filter.1 hx;exact hb x h3 (by simpa using h4))
 omega
theorem Zpy {H:Nat} {a b:List Nat} (ha:a.Nodup) (hb:b.Nodup) (ha2:∀x∈a,x<H) (hb2:∀x∈b,x<H) (h:H<a.length+b.length):∃x,x∈a∧x∈b:=by
 refine Classical.byContradiction λhn=>?_;have hn:∀x,x∈a->x∉b:=λx h1 h2=>hn ⟨x,h1,h2⟩;have h1:(a ++ b).Nodup:=by
  rw [List.nodup_append];exact ⟨ha,hb,λx hx y hy e=>hn x hx (e ▸ hy)⟩
 have h2:=Z8p h1 (b:=List.range H) (λx hx=>by
  rw [List.mem_range];rcases List.mem_append.1 hx with q | q
  ·exact ha2 x q
  exact hb2 x q)
 rw [List.length_append,List.length_range] at h2;omega
section
variable {D L:Type} [Dg D] [Inhabited L]
def Zi5 (n:Nat) (votes:List (Bal×D)) (k h r:Int) (d:D):List Nat:=(List.range n).filter λi=>decide (Z02 ((i:Int),k,h,r) votes=some d)
theorem Zey (n:Nat) (votes:List (Bal×D)) (k h r:Int) (d:D):(Z0y n votes k h r).count d=(Zi5 n votes k h r d).length:=by
 unfold Z0y Zi5;induction List.range n with
 | nil=>rfl
 | cons i l ih=>
  rw [List.filterMap_cons,List.filter_cons];rcases hg:Z02 ((i:Int),k,h,r) votes with _ | x
  ·simpa using ih
  by_cases e:x=d
  ·subst e;simp [ih]
  simp [e,ih]
theorem Z8c {n H:Nat} {votes:List (Bal×D)} {k h r:Int} {d:D} (hH:H<=n):∃S:List Nat,S.Nodup∧(∀j∈S,j<H∧Z02 ((j:Int),k,h,r) votes=some d)∧(Z0y n votes k h r).count d<=S.length+(n - H):=by
 have hnd:(Zi5 n votes k h r d).Nodup:=List.nodup_range.filter _;refine ⟨(Zi5 n votes k h r d).filter (λj=>decide (j<H)),hnd.filter _,λj hj=>?_,?_⟩
 ·obtain ⟨h1,h2⟩:=List.mem_filter.1 hj;obtain ⟨_,h3⟩:=List.mem_filter.1 h1;exact ⟨by simpa using h2,by simpa using h3⟩
 rw [Zey];have:=Zaj (p:=λj=>decide (j<H)) (b:=List.range' H (n - H)) hnd (λx hx hp=>by
  obtain ⟨h1,_⟩:=List.mem_filter.1 hx;rw [List.mem_range] at h1;rw [List.mem_range'_1];have:¬x<H:=by simpa using hp
  omega)
 rw [List.length_range'] at this;exact this
abbrev Zez (D:Type):=Nat->Int->Int->Int->D->Prop
abbrev Zf0 (D:Type):=Nat->Int->D->Prop
variable (H F:Nat) (A:D->Prop) (V V':Zez D) (E E':Zf0 D) (σ σ':Nat->NS D L)
def QV (k h r:Int) (d:D):Prop:=∃S:List Nat,S.Nodup∧(∀j∈S,j<H∧V j k h r d)∧H<=S.length+F
def Z3d (h r:Int) (d:D):Prop:=(∃j,j<H∧V j 6 h r d)∨∃j,j<H∧E j h d
def Z86 (s:NS D L) (h r:Int):Prop:=h<s.height∨(h=s.height∧r<s.round)
def NoQ (h r:Int) (d:D):Prop:=∃S:List Nat,S.Nodup∧(∀j∈S,j<H∧Z86 (σ j) h r∧¬V j 5 h r d)∧F<S.length
structure Zf1 (h r:Int) (d:D):Prop where
 ne:d≠Dg.nil
 q5:QV H F V 5 h r d
 q4:QV H F V 4 h r d
 one:∀j,j<H->∀d',E j h d'->d'=d
 key:∀i v d',V i 6 h v d'->d'≠d->v<r
 nc:∀r1 d',r1<r->d'≠d->d'≠Dg.nil->NoQ H F V σ h r1 d'
structure Loc (N:Nat) (i:Nat) (s:NS D L):Prop where
 id:s.id=(i:Int)
 nn:s.n=(N:Int)
 ht:∀k h r d,V i k h r d->h<=s.height
 mineV:∀m∈s.mine,m.kind≠3->V i m.kind s.height m.round m.dig
 v45:∀k r d,V i k s.height r d->k=4∨k=5->r<s.round∨(r=s.round∧∃m∈s.mine,m.kind=k∧m.round=r∧m.dig=d)
 v6:∀r d,V i 6 s.height r d->∃m∈s.mine,m.kind=6∧m.round=r∧m.dig=d
 box:∀(j:Nat) k h r d,Z02 ((j:Int),k,h,r) s.votes=some d->j<H->V j k h r d∨E j h d
 cl:∀(j:Nat) m,Z02 (j:Int) s.claims=some m->j<H->E j s.height m.dig
 lockr:∀v,s.lock=some v->v.round<s.round∨(v.round=s.round∧s.step=4)
 lockk:∀v,s.lock=some v->Z3d H V E s.height v.round v.dig
 lock5:∀r d,V i 5 s.height r d->d≠Dg.nil->∃v,s.lock=some v∧r<=v.round∧(v.round=r->v.dig=d)
 pv:∀p∈s.props,p.2.valid<p.1
 acc:∀d∈s.acc,A d
 dec:∀h v,Z02 h s.decs=some v->E i h v.dig∧h<=s.height
 ced:∀h d,E i h d->∃v,Z02 h s.decs=some v∧v.dig=d
structure Agr (N:Nat):Prop where
 loc:∀i,i<H->Loc H A V E N i (σ i)
 kind:∀i k h r d,V i k h r d->i<H∧(k=4∨k=5∨k=6)
 one:∀i k h r d d',V i k h r d->V i k h r d'->d=d'
 kq:∀i h v d,V i 6 h v d->d≠Dg.nil∧(QV H F V 4 h v d∨∃j,j<H∧E j h d)
 pk:∀i h r d,V i 5 h r d->d≠Dg.nil->Z3d H V E h r d
 pvi:∀i h v d r1 d1,V i 4 h v d->d≠Dg.nil->V i 5 h r1 d1->d1≠Dg.nil->r1<v->∃r2 d2,r1<=r2∧r2<v∧(r2=r1->d2=d1)∧Z3d H V E h r2 d2∧(d2=d∨∃u,r2<=u∧u<v∧Z3d H V E h u d)
 av:∀i h r d,V i 4 h r d->d=Dg.nil∨A d
 sa:∀h,(∀j,j<H->∀d,¬E j h d)->∀i v d,V i 6 h v d->∀r1 d',r1<v->d'≠d->d'≠Dg.nil->NoQ H F V σ h r1 d'
 dc:∀j h d,j<H->E j h d->∃r d0,Zf1 H F V E σ h r d0
variable {H F A V V' E E' σ σ'}
theorem QV.mono (hV:∀i k h r d,V i k h r d->V' i k h r d) {k h r:Int} {d:D} (q:QV H F V k h r d):QV H F V' k h r d:=by
 obtain ⟨S,h1,h2,h3⟩:=q;exact ⟨S,h1,λj hj=>⟨(h2 j hj).1,hV _ _ _ _ _ (h2 j hj).2⟩,h3⟩
theorem Z3d.mono (hV:∀i k h r d,V i k h r d->V' i k h r d) (hE:∀i h d,E i h d->E' i h d) {h r:Int} {d:D} (q:Z3d H V E h r d):Z3d H V' E' h r d:=by
 rcases q with ⟨j,h1,h2⟩ | ⟨j,h1,h2⟩
 ·exact .inl ⟨j,h1,hV _ _ _ _ _ h2⟩
 exact .inr ⟨j,h1,hE _ _ _ h2⟩
theorem NoQ.mono (hp:∀j h r,j<H->Z86 (σ j) h r->Z86 (σ' j) h r) (hV:∀j h r d,Z86 (σ j) h r->V' j 5 h r d->V j 5 h r d) {h r:Int} {d:D} (q:NoQ H F V σ h r d):NoQ H F V' σ' h r d:=by
 obtain ⟨S,h1,h2,h3⟩:=q;exact ⟨S,h1,λj hj=>⟨(h2 j hj).1,hp j h r (h2 j hj).1 (h2 j hj).2.1,λq=>(h2 j hj).2.2 (hV j h r d (h2 j hj).2.1 q)⟩,h3⟩
theorem QV.meet (h3:2 * F<H) {k k' h h' r r':Int} {d d':D} (a:QV H F V k h r d) (b:QV H F V k' h' r' d'):∃j,j<H∧V j k h r d∧V j k' h' r' d':=by
 obtain ⟨S,s1,s2,s3⟩:=a;obtain ⟨T,t1,t2,t3⟩:=b;obtain ⟨x,x1,x2⟩:=Zpy s1 t1 (λx hx=>(s2 x hx).1) (λx hx=>(t2 x hx).1) (by omega);exact ⟨x,(s2 x x1).1,(s2 x x1).2,(t2 x x2).2⟩
theorem QV.some (h3:F<H) {k h r:Int} {d:D} (a:QV H F V k h r d):∃j,j<H∧V j k h r d:=by
 obtain ⟨S,s1,s2,s3⟩:=a;rcases S with _ | ⟨x,S⟩
 ·simp at s3;omega
 exact ⟨x,s2 x (List.mem_cons_self ..)⟩
theorem NoQ.no {h r:Int} {d:D} (a:NoQ H F V σ h r d) (q:QV H F V 5 h r d):False:=by
 obtain ⟨S,s1,s2,s3⟩:=a;obtain ⟨T,t1,t2,t3⟩:=q;obtain ⟨x,x1,x2⟩:=Zpy s1 t1 (λx hx=>(s2 x hx).1) (λx hx=>(t2 x hx).1) (by omega);exact (s2 x x1).2.2 (t2 x x2).2
theorem Loc.quorum {N i:Nat} {s:NS D L} (hl:Loc H A V E N i s) (hN:N=H+F) {k r:Int} {d:D} (hf:Z03 (N:Int)=(F:Int)) (hq:Z0s s.n<=s.count k r d):QV H F V k s.height r d∨∃j,j<H∧E j s.height d:=by
 unfold NS.count Z0s at hq;rw [hl.nn,hf] at hq;obtain ⟨S,s1,s2,s3⟩:=Z8c (n:=N) (H:=H) (votes:=s.votes) (k:=k) (h:=s.height) (r:=r) (d:=d) (by omega);by_cases hE:∃j,j<H∧E j s.height d
 ·exact .inr hE
 refine .inl ⟨S,s1,λj hj=>⟨(s2 j hj).1,?_⟩,?_⟩
 ·rcases hl.box j k s.height r d (s2 j hj).2 (s2 j hj).1 with q | q
  ·exact q
  exact absurd ⟨j,(s2 j hj).1,q⟩ hE
 have:(N:Int).toNat=N:=by omega
 rw [this] at hq;omega
theorem Loc.more {N i:Nat} {s:NS D L} (hl:Loc H A V E N i s) (hN:N=H+F) {k r:Int} {d:D} (hf:Z03 (N:Int)=(F:Int)) (hq:Z03 s.n<s.count k r d):(∃j,j<H∧V j k s.height r d)∨∃j,j<H∧E j s.height d:=by
 unfold NS.count at hq;rw [hl.nn,hf] at hq;obtain ⟨S,s1,s2,s3⟩:=Z8c (n:=N) (H:=H) (votes:=s.votes) (k:=k) (h:=s.height) (r:=r) (d:=d) (by omega);have:(N:Int).toNat=N:=by omega
 rw [this] at hq;rcases S with _ | ⟨x,S⟩
 ·simp at s3;omega
 obtain ⟨q1,q2⟩:=s2 x (List.mem_cons_self ..);rcases hl.box x k s.height r d q2 q1 with q | q
 ·exact .inl ⟨x,q1,q⟩
 exact .inr ⟨x,q1,q⟩
variable {N:Nat}
theorem Agr.decs_one (h:Agr H F A V E σ N) {i j:Nat} {k:Int} {d d':D} (hi:i<H) (hj:j<H) (h1:E i k d) (h2:E j k d'):d=d':=by
 obtain ⟨r,d0,c⟩:=h.dc i k d hi h1;rw [c.one i hi d h1,c.one j hj d' h2]
theorem Agr.key_one (h:Agr H F A V E σ N) (h3:2 * F<H) {k:Int} (hn:∀j,j<H->∀d,¬E j k d) {i j:Nat} {v:Int} {d d':D} (h1:V i 6 k v d) (h2:V j 6 k v d'):d=d':=by
 rcases (h.kq i k v d h1).2 with q | ⟨a,b,c⟩
 ·rcases (h.kq j k v d' h2).2 with q' | ⟨a,b,c⟩
  ·obtain ⟨x,_,x1,x2⟩:=q.meet h3 q';exact h.one _ _ _ _ _ _ x1 x2
  exact absurd c (hn a b d')
 exact absurd c (hn a b d)
theorem Agr.new_sa (h:Agr H F A V E σ N) (h3:2 * F<H) {k v:Int} {d:D} (hd:d≠Dg.nil) (hn:∀j,j<H->∀d,¬E j k d) (q:QV H F V 4 k v d):∀r1 d',r1<v->d'≠d->d'≠Dg.nil->NoQ H F V σ k r1 d':=by
 intro r1 d' hr hne hnn;have key:∀u d,Z3d H V E k u d->∃j,j<H∧V j 6 k u d:=λu d q=>by
  rcases q with q | ⟨a,b,c⟩
  ·exact q
  exact absurd c (hn a b d)
 obtain ⟨S,s1,s2,s3⟩:=q;by_cases hz:∃z∈S,V z 5 k r1 d'
 ·obtain ⟨z,hz,hz5⟩:=hz;obtain ⟨z1,z2⟩:=s2 z hz;obtain ⟨r2,d2,a1,a2,a3,a4,a5⟩:=h.pvi z k v d r1 d' z2 hd hz5 hnn hr;obtain ⟨x,x1,x2⟩:=key _ _ a4;rcases a5 with rfl | ⟨u,u1,u2,u3⟩
  ·have:r1<r2:=by
    rcases Int.lt_or_eq_of_le a1 with q | q
    ·exact q
    exact absurd (a3 q.symm).symm hne
   exact h.sa k hn x r2 d2 x2 r1 d' this hne hnn
  obtain ⟨y,y1,y2⟩:=key _ _ u3;by_cases hlt:r1<u
  ·exact h.sa k hn y u d y2 r1 d' hlt hne hnn
  exfalso;have e1:r2=r1:=by omega
  have e2:u=r1:=by omega
  have:=a3 e1;subst e1 e2 this;exact hne (h.key_one h3 hn x2 y2)
 refine ⟨S,s1,λj hj=>?_,by omega⟩;obtain ⟨j1,j2⟩:=s2 j hj;refine ⟨j1,?_,λq=>hz ⟨j,hj,q⟩⟩;have hl:=h.loc j j1;have:=hl.ht _ _ _ _ j2;rcases Int.lt_or_eq_of_le this with q | q
 ·exact .inl q
 subst q;right
 refine ⟨rfl,?_⟩;rcases hl.v45 4 v d j2 (.inl rfl) with q | ⟨q,_⟩ <;> omega
theorem Agr.new_low (h:Agr H F A V E σ N) (h3:2 * F<H) {k r v:Int} {D0 d:D} (c:Zf1 H F V E σ k r D0) (hd:d≠Dg.nil) (hne:d≠D0) (q:QV H F V 4 k v d):v<r:=by
 refine Classical.byContradiction λhv=>?_;have hv:r<=v:=by omega
 rcases Int.lt_or_eq_of_le hv with hlt | e
 ·obtain ⟨z,z0,z5,z4⟩:=c.q5.meet h3 q;obtain ⟨r2,d2,a1,a2,a3,a4,a5⟩:=h.pvi z k v d r D0 z4 hd z5 c.ne hlt;have low:∀u d,Z3d H V E k u d->d≠D0->u<r:=λu d q hq=>by
   rcases q with ⟨j,_,q⟩ | ⟨j,j1,q⟩
   ·exact c.key _ _ _ q hq
   exact absurd (c.one j j1 _ q) hq
  rcases a5 with rfl | ⟨u,u1,u2,u3⟩
  ·have:=low _ _ a4 hne;omega
  have:=low _ _ u3 hne;omega
 subst e;obtain ⟨z,z0,z5,z4⟩:=c.q4.meet h3 q;exact hne (h.one _ _ _ _ _ _ z4 z5)
theorem Agr.acc_dec (h:Agr H F A V E σ N) (h3:2 * F<H) {j:Nat} {k:Int} {d:D} (hj:j<H) (hd:E j k d):A d:=by
 obtain ⟨r,d0,c⟩:=h.dc j k d hj hd;rw [c.one j hj d hd];obtain ⟨x,_,x1⟩:=c.q4.some (by omega);rcases h.av _ _ _ _ x1 with q | q
 ·exact absurd q c.ne
 exact q
theorem Agr.acc_key (h:Agr H F A V E σ N) (h3:2 * F<H) {k r:Int} {d:D} (q:Z3d H V E k r d):A d:=by
 rcases q with ⟨j,j1,q⟩ | ⟨j,j1,q⟩
 ·obtain ⟨hn,q | ⟨a,b,c⟩⟩:=h.kq _ _ _ _ q
  ·obtain ⟨x,_,x1⟩:=q.some (by omega);rcases h.av _ _ _ _ x1 with q | q
   ·exact absurd q hn
   exact q
  exact h.acc_dec h3 b c
 exact h.acc_dec h3 j1 q
end
section
variable {D L:Type} [Dg D] [Inhabited L]
def upd (σ:Nat->NS D L) (i:Nat) (t:NS D L):Nat->NS D L:=λj=>if j=i then t else σ j
def Znd (V:Zez D) (i:Nat) (k h r:Int) (d:D):Zez D:=λj k' h' r' d'=>V j k' h' r' d'∨(j=i∧k'=k∧h'=h∧r'=r∧d'=d)
def Zk3 (E:Zf0 D) (i:Nat) (h:Int) (d:D):Zf0 D:=λj h' d'=>E j h' d'∨(j=i∧h'=h∧d'=d)
variable {H F N:Nat} {A:D->Prop} {V V':Zez D} {E E':Zf0 D} {σ σ':Nat->NS D L}
theorem Z5s (i:Nat) (t:NS D L):upd σ i t i=t:=if_pos rfl
theorem Zi6 {i j:Nat} (t:NS D L) (h:j≠i):upd σ i t j=σ j:=if_neg h
theorem Loc.other {j:Nat} {s:NS D L} (hl:Loc H A V E N j s) (hV:∀i k h r d,V i k h r d->V' i k h r d) (hVj:∀k h r d,V' j k h r d->V j k h r d) (hE:∀i h d,E i h d->E' i h d) (hEj:∀h d,E' j h d->E j h d):Loc H A V' E' N j s:=
 ⟨hl.id,hl.nn,λk h r d q=>hl.ht k h r d (hVj _ _ _ _ q),λm hm h3=>hV _ _ _ _ _ (hl.mineV m hm h3),λk r d q=>hl.v45 k r d (hVj _ _ _ _ q),λr d q=>hl.v6 r d (hVj _ _ _ _ q),
  λj' k h r d q hj=>(hl.box j' k h r d q hj).imp (hV _ _ _ _ _) (hE _ _ _),λj' m q hj=>hE _ _ _ (hl.cl j' m q hj),hl.lockr,λv hv=>(hl.lockk v hv).mono hV hE,λr d q=>hl.lock5 r d (hVj _ _ _ _ q),hl.pv,hl.acc,
  λh v q=>⟨hE _ _ _ (hl.dec h v q).1,(hl.dec h v q).2⟩,λh d q=>hl.ced h d (hEj _ _ q)⟩
theorem Zct {i:Nat} {t:NS D L} (hp:∀h r,Z86 (σ i) h r->Z86 t h r) (j:Nat) (h r:Int) (q:Z86 (σ j) h r):Z86 (upd σ i t j) h r:=by
 by_cases e:j=i
 ·subst e;rw [Z5s];exact hp h r q
 rw [Zi6 t e];exact q
theorem Agr.still (a:Agr H F A V E σ N) {i:Nat} {t:NS D L} (hl:Loc H A V E N i t) (hp:∀h r,Z86 (σ i) h r->Z86 t h r):Agr H F A V E (upd σ i t) N:=by
 have nc:∀{h r d},NoQ H F V σ h r d->NoQ H F V (upd σ i t) h r d:=λq=>q.mono (λj h r _=>Zct hp j h r) (λ_ _ _ _ _ q=>q);refine ⟨λj hj=>?_,a.kind,a.one,a.kq,a.pk,a.pvi,a.av,λh hn j v d q r1 d' q1 q2 q3=>nc (a.sa h hn j v d q r1 d' q1 q2 q3),λj h d hj q=>?_⟩
 ·by_cases e:j=i
  ·subst e;rw [Z5s];exact hl
  rw [Zi6 t e];exact a.loc j hj
 obtain ⟨r,d0,c⟩:=a.dc j h d hj q;exact ⟨r,d0,c.ne,c.q5,c.q4,c.one,c.key,λr1 d' q1 q2 q3=>nc (c.nc r1 d' q1 q2 q3)⟩
theorem Agr.vote (a:Agr H F A V E σ N) (h3:2 * F<H) {i:Nat} (hi:i<H) {t:NS D L} {k r:Int} {d:D} (hl:Loc H A (Znd V i k (σ i).height r d) E N i t) (hp:∀h r,Z86 (σ i) h r->Z86 t h r)
  (hk:k=4∨k=5∨k=6) (hu:∀d',V i k (σ i).height r d'->d'=d)
  (h4:k=4->(d=Dg.nil∨A d)∧(d≠Dg.nil->∀r1 d1,V i 5 (σ i).height r1 d1->d1≠Dg.nil->r1<r->∃r2 d2,r1<=r2∧r2<r∧(r2=r1->d2=d1)∧Z3d H V E (σ i).height r2 d2∧(d2=d∨∃u,r2<=u∧u<r∧Z3d H V E (σ i).height u d)))
  (h5:k=5->(d≠Dg.nil->Z3d H V E (σ i).height r d)∧¬Z86 (σ i) (σ i).height r∧∀v d',V i 4 (σ i).height v d'->v<=r)
  (h6:k=6->d≠Dg.nil∧(QV H F V 4 (σ i).height r d∨(∃j,j<H∧E j (σ i).height d)∨∃j,j<H∧V j 6 (σ i).height r d)) :
  Agr H F A (Znd V i k (σ i).height r d) E (upd σ i t) N:=by
 have hV:∀i' k' h' r' d',V i' k' h' r' d'->Znd V i k (σ i).height r d i' k' h' r' d':=λ_ _ _ _ _ q=>.inl q;have hE:∀i h d,E i h d->E i h d:=λ_ _ _ q=>q;have nc:∀{h r' d'},NoQ H F V σ h r' d'->NoQ H F (Znd V i k (σ i).height r d) (upd σ i t) h r' d':=λq=>q.mono (λj h r _=>Zct hp j h r) (λj h r' d' q1 q2=>by
  rcases q2 with q2 | ⟨e1,e2,e3,e4,e5⟩
  ·exact q2
  subst e1 e3 e4;exact absurd q1 (h5 e2.symm).2.1)
 have kok:∀{h r' d'},Z3d H V E h r' d'->Z3d H (Znd V i k (σ i).height r d) E h r' d':=λq=>q.mono hV hE;refine ⟨λj hj=>?_,λj k' h' r' d' q=>?_,λj k' h' r' d1 d2 q1 q2=>?_,λj h' v d' q=>?_,λj h' r' d' q hd=>?_,λj h' v d' r1 d1 q1 n1 q2 n2 hr=>?_,λj h' r' d' q=>?_,λh' hn j v d' q r1 d1 hr n1 n2=>?_,λj h' d' hj q=>?_⟩
 ·by_cases e:j=i
  ·subst e;rw [Z5s];exact hl
  rw [Zi6 t e];exact (a.loc j hj).other hV (λ_ _ _ _ q=>q.resolve_right (λc=>e c.1)) hE (λ_ _ q=>q)
 ·rcases q with q | ⟨rfl,rfl,_⟩
  ·exact a.kind _ _ _ _ _ q
  exact ⟨hi,hk⟩
 ·rcases q1 with q1 | ⟨e1,e2,e3,e4,e5⟩
  ·rcases q2 with q2 | ⟨e1,e2,e3,e4,e5⟩
   ·exact a.one _ _ _ _ _ _ q1 q2
   subst e1 e2 e3 e4 e5;exact hu _ q1
  rcases q2 with q2 | ⟨f1,f2,f3,f4,f5⟩
  ·subst e1 e2 e3 e4 e5;exact (hu _ q2).symm
  rw [e5,f5]
 ·rcases q with q | ⟨e1,e2,e3,e4,e5⟩
  ·obtain ⟨q1,q2⟩:=a.kq _ _ _ _ q;exact ⟨q1,q2.imp (λq=>q.mono hV) id⟩
  subst e1 e3 e4 e5;obtain ⟨q1,q2⟩:=h6 e2.symm;refine ⟨q1,?_⟩;rcases q2 with q2 | q2 | ⟨x,_,q2⟩
  ·exact .inl (q2.mono hV)
  ·exact .inr q2
  exact (a.kq _ _ _ _ q2).2.imp (λq=>q.mono hV) id
 ·rcases q with q | ⟨e1,e2,e3,e4,e5⟩
  ·exact kok (a.pk _ _ _ _ q hd)
  subst e1 e3 e4 e5;exact kok ((h5 e2.symm).1 hd)
 ·have fin:(∃r2 d2,r1<=r2∧r2<v∧(r2=r1->d2=d1)∧Z3d H V E h' r2 d2∧(d2=d'∨∃u,r2<=u∧u<v∧Z3d H V E h' u d'))->∃r2 d2,r1<=r2∧r2<v∧(r2=r1->d2=d1)∧Z3d H (Znd V i k (σ i).height r d) E h' r2 d2∧(d2=d'∨∃u,r2<=u∧u<v∧Z3d H (Znd V i k (σ i).height r d) E h' u d'):=by
   rintro ⟨r2,d2,a1,a2,a3,a4,a5⟩;exact ⟨r2,d2,a1,a2,a3,kok a4,a5.imp id (λ⟨u,u1,u2,u3⟩=>⟨u,u1,u2,kok u3⟩)⟩
  rcases q2 with q2 | ⟨f1,f2,f3,f4,f5⟩
  ·rcases q1 with q1 | ⟨e1,e2,e3,e4,e5⟩
   ·exact fin (a.pvi _ _ _ _ _ _ q1 n1 q2 n2 hr)
   subst e1 e3 e4 e5;exact fin ((h4 e2.symm).2 n1 r1 d1 q2 n2 hr)
  exfalso;have q3:V j 4 h' v d':=by
   rcases q1 with q1 | ⟨e1,e2,e3,e4,e5⟩
   ·exact q1
   omega
  subst f1 f3 f4 f5;have:=(h5 f2.symm).2.2 v d' q3;omega
 ·rcases q with q | ⟨e1,e2,e3,e4,e5⟩
  ·exact a.av _ _ _ _ q
  subst e5;exact (h4 e2.symm).1
 ·rcases q with q | ⟨e1,e2,e3,e4,e5⟩
  ·exact nc (a.sa h' hn _ _ _ q _ _ hr n1 n2)
  subst e1 e3 e4 e5;obtain ⟨q1,q2⟩:=h6 e2.symm;rcases q2 with q2 | ⟨x,x1,q2⟩ | ⟨x,_,q2⟩
  ·exact nc (a.new_sa h3 q1 hn q2 _ _ hr n1 n2)
  ·exact absurd q2 (hn x x1 _)
  exact nc (a.sa _ hn _ _ _ q2 _ _ hr n1 n2)
 obtain ⟨r0,d0,c⟩:=a.dc j h' d' hj q;refine ⟨r0,d0,c.ne,c.q5.mono hV,c.q4.mono hV,c.one,λx v d1 q1 n1=>?_,λr1 d1 q1 q2 q3=>nc (c.nc r1 d1 q1 q2 q3)⟩;rcases q1 with q1 | ⟨e1,e2,e3,e4,e5⟩
 ·exact c.key _ _ _ q1 n1
 subst e1 e3 e4 e5;obtain ⟨m1,m2⟩:=h6 e2.symm;rcases m2 with m2 | ⟨y,y1,m2⟩ | ⟨y,_,m2⟩
 ·exact a.new_low h3 c m1 n1 m2
 ·exact absurd (c.one _ y1 _ m2) n1
 exact c.key _ _ _ m2 n1
theorem Agr.decide (a:Agr H F A V E σ N) (h3:2 * F<H) {i:Nat} (hi:i<H) {t:NS D L} {h0:Int} {d:D} (hl:Loc H A V (Zk3 E i h0 d) N i t) (hp:∀h r,Z86 (σ i) h r->Z86 t h r)
  (hd:(∃j,j<H∧E j h0 d)∨(d≠Dg.nil∧∃r,QV H F V 5 h0 r d)):Agr H F A V (Zk3 E i h0 d) (upd σ i t) N:=by
 have hV:∀i k h r d,V i k h r d->V i k h r d:=λ_ _ _ _ _ q=>q;have hE:∀i' h' d',E i' h' d'->Zk3 E i h0 d i' h' d':=λ_ _ _ q=>.inl q;have nc:∀{h r' d'},NoQ H F V σ h r' d'->NoQ H F V (upd σ i t) h r' d':=λq=>q.mono (λj h r _=>Zct hp j h r) (λ_ _ _ _ _ q=>q);have kok:∀{h r' d'},Z3d H V E h r' d'->Z3d H V (Zk3 E i h0 d) h r' d':=λq=>q.mono hV hE;have ev:∀{h d'},(∃j,j<H∧E j h d')->∃j,j<H∧Zk3 E i h0 d j h d':=λ⟨j,a,b⟩=>⟨j,a,.inl b⟩;have ch:∃r,Zf1 H F V (Zk3 E i h0 d) (upd σ i t) h0 r d:=by
  have up:∀{r d0},Zf1 H F V E σ h0 r d0->d=d0->Zf1 H F V (Zk3 E i h0 d) (upd σ i t) h0 r d:=λ{r d0} c e=>by
   subst e;exact ⟨c.ne,c.q5,c.q4,λj hj d' q=>q.elim (c.one j hj d') (λq=>q.2.2),c.key,λr1 d' q1 q2 q3=>nc (c.nc r1 d' q1 q2 q3)⟩
  rcases hd with ⟨j,hj,q⟩ | ⟨hne,r,q⟩
  ·obtain ⟨r,d0,c⟩:=a.dc j h0 d hj q;exact ⟨r,up c (c.one j hj d q)⟩
  obtain ⟨z,z0,z5⟩:=q.some (by omega);have hk:=a.pk z h0 r d z5 hne;by_cases hn:∀j,j<H->∀d,¬E j h0 d
  ·obtain ⟨x,x0,x6⟩:∃j,j<H∧V j 6 h0 r d:=by
    rcases hk with q | ⟨b,b1,b2⟩
    ·exact q
    exact absurd b2 (hn b b1 d)
   have q4:QV H F V 4 h0 r d:=by
    rcases (a.kq _ _ _ _ x6).2 with q | ⟨b,b1,b2⟩
    ·exact q
    exact absurd b2 (hn b b1 d)
   refine ⟨r,hne,q,q4,λj hj d' q=>?_,λy v d' y6 n1=>?_,λr1 d' q1 q2 q3=>nc (a.sa h0 hn x r d x6 r1 d' q1 q2 q3)⟩
   ·rcases q with q | q
    ·exact absurd q (hn j hj d')
    exact q.2.2
   refine Classical.byContradiction λhv=>?_;have hv:r<=v:=by omega
   rcases Int.lt_or_eq_of_le hv with hlt | e
   ·exact (a.sa h0 hn y v d' y6 r d hlt n1.symm hne).no q
   subst e;exact n1 (a.key_one h3 hn y6 x6)
  obtain ⟨j,hj,d1,q1⟩:∃j,j<H∧∃d,E j h0 d:=Classical.byContradiction λc=>hn (λj hj d q=>c ⟨j,hj,d,q⟩);obtain ⟨r0,d0,c⟩:=a.dc j h0 d1 hj q1;refine ⟨r0,up c (Classical.byContradiction λn1=>?_)⟩;by_cases hlt:r<r0
  ·exact (c.nc r d hlt n1 hne).no q
  rcases hk with ⟨b,_,b2⟩ | ⟨b,b1,b2⟩
  ·have:=c.key _ _ _ b2 n1;omega
  exact n1 (c.one b b1 _ b2)
 refine ⟨λj hj=>?_,a.kind,a.one,λj h v d' q=>?_,λj h r d' q n=>kok (a.pk j h r d' q n),λj h v d' r1 d1 q1 n1 q2 n2 hr=>?_,a.av,λh hn j v d' q r1 d1 hr n1 n2=>?_,λj h d' hj q=>?_⟩
 ·by_cases e:j=i
  ·subst e;rw [Z5s];exact hl
  rw [Zi6 t e];exact (a.loc j hj).other hV (λ_ _ _ _ q=>q) hE (λ_ _ q=>q.resolve_right (λc=>e c.1))
 ·obtain ⟨q1,q2⟩:=a.kq j h v d' q;exact ⟨q1,q2.imp id ev⟩
 ·obtain ⟨r2,d2,a1,a2,a3,a4,a5⟩:=a.pvi j h v d' r1 d1 q1 n1 q2 n2 hr;exact ⟨r2,d2,a1,a2,a3,kok a4,a5.imp id (λ⟨u,u1,u2,u3⟩=>⟨u,u1,u2,kok u3⟩)⟩
 ·exact nc (a.sa h (λj hj d q=>hn j hj d (.inl q)) j v d' q r1 d1 hr n1 n2)
 by_cases eh:h=h0
 ·subst eh;obtain ⟨r,c⟩:=ch;exact ⟨r,d,c⟩
 have q:E j h d':=q.resolve_right (λc=>eh c.2.1);obtain ⟨r,d0,c⟩:=a.dc j h d' hj q;exact ⟨r,d0,c.ne,c.q5,c.q4,λj hj d' q=>c.one j hj d' (q.resolve_right (λc=>eh c.2.1)),c.key,λr1 d' q1 q2 q3=>nc (c.nc r1 d' q1 q2 q3)⟩
end
section
variable {D L:Type} [Dg D] [Inhabited L]
variable {H F N:Nat} {A:D->Prop} {V V':Zez D} {E E':Zf0 D} {σ σ':Nat->NS D L}
theorem Loc.voted {i:Nat} {s t:NS D L} (hl:Loc H A V E N i s) {k r:Int} {d:D} (hk:k=4∨k=5∨k=6) (ei:t.id=s.id) (en:t.n=s.n) (eh:t.height=s.height)
  (em:t.mine=s.mine ++ [{(vote k r d:Msg D L) with frm:=s.id,height:=s.height}])
  (ev:∀q,Z02 q t.votes=match Z02 q s.votes with | some d=>some d | none=>if (vote k r d:Msg D L).kind≠3∧q=(s.id,(vote k r d:Msg D L).kind,s.height,(vote k r d:Msg D L).round) then some (vote k r d:Msg D L).dig else none)
  (ec:t.claims=s.claims) (ep:t.props=s.props) (ea:t.acc=s.acc) (ed:t.decs=s.decs)
  (hr:s.round<=t.round) (hn:k=4∨k=5->r=t.round) (h1:∀v,t.lock=some v->v.round<t.round∨(v.round=t.round∧t.step=4)) (h2:∀v,t.lock=some v->Z3d H V E s.height v.round v.dig)
  (h3:∀r' d',V i 5 s.height r' d'->d'≠Dg.nil->∃v,t.lock=some v∧r'<=v.round∧(v.round=r'->v.dig=d')) (h4:k=5->d≠Dg.nil->∃v,t.lock=some v∧r<=v.round∧(v.round=r->v.dig=d)) :
  Loc H A (Znd V i k s.height r d) E N i t:=by
 have hV:∀i' k' h' r' d',V i' k' h' r' d'->Znd V i k s.height r d i' k' h' r' d':=λ_ _ _ _ _ q=>.inl q;have hE:∀i h d,E i h d->E i h d:=λ_ _ _ q=>q;refine ⟨by rw [ei];exact hl.id,by rw [en];exact hl.nn,λk' h' r' d' q=>?_,λm hm h3=>?_,λk' r' d' q h45=>?_,λr' d' q=>?_,λj k' h' r' d' q hj=>?_,λj m q hj=>?_,h1,λv hv=>?_,λr' d' q hd=>?_,
  λp hp=>hl.pv p (ep ▸ hp),λd hd=>hl.acc d (ea ▸ hd),λh' v q=>?_,λh' d' q=>?_⟩
 ·rw [eh];rcases q with q | ⟨_,_,e,_⟩
  ·exact hl.ht _ _ _ _ q
  rw [e];exact Int.le_refl _
 ·rw [em] at hm;rw [eh];rcases List.mem_append.1 hm with hm | hm
  ·exact .inl (hl.mineV m hm h3)
  obtain rfl:m = {(vote k r d:Msg D L) with frm:=s.id,height:=s.height}:=by simpa using hm
  exact .inr ⟨rfl,rfl,rfl,rfl,rfl⟩
 ·rw [eh] at q;rw [em];rcases q with q | ⟨_,e2,_,e4,e5⟩
  ·rcases hl.v45 k' r' d' q h45 with c | ⟨c,m,hm,c2⟩
   ·exact .inl (by omega)
   by_cases e:r'<t.round
   ·exact .inl e
   exact .inr ⟨by omega,m,List.mem_append_left _ hm,c2⟩
  subst e2 e4 e5;exact .inr ⟨hn h45,_,List.mem_append_right _ (List.mem_singleton.2 rfl),rfl,rfl,rfl⟩
 ·rw [eh] at q;rw [em];rcases q with q | ⟨_,e2,_,e4,e5⟩
  ·obtain ⟨m,hm,c⟩:=hl.v6 r' d' q;exact ⟨m,List.mem_append_left _ hm,c⟩
  subst e4 e5;exact ⟨_,List.mem_append_right _ (List.mem_singleton.2 rfl),e2.symm,rfl,rfl⟩
 ·rw [ev] at q;rcases hg:Z02 ((j:Int),k',h',r') s.votes with _ | x
  ·rw [hg] at q;simp only at q;split at q
   ·rename_i c
    obtain ⟨_,c⟩:=c;injection q with q
    injection c with c1 c2
    injection c2 with c2 c3
    injection c3 with c3 c4
    rw [hl.id] at c1;exact .inl (.inr ⟨by omega,c2,c3,c4,q.symm⟩)
   cases q
  rw [hg] at q;simp only at q;cases q;exact (hl.box j k' h' r' d' hg hj).imp (hV _ _ _ _ _) (λq=>q)
 ·rw [eh];rw [ec] at q;exact hl.cl j m q hj
 ·rw [eh];exact (h2 v hv).mono hV hE
 ·rw [eh] at q;rcases q with q | ⟨_,e2,_,e4,e5⟩
  ·exact h3 _ _ q hd
  subst e4 e5;exact h4 e2.symm hd
 ·rw [eh];rw [ed] at q;exact hl.dec h' v q
 rw [ed];exact hl.ced h' d' q
theorem Loc.kept {i:Nat} {s t:NS D L} (hl:Loc H A V E N i s) {x:List (Msg D L)} (ei:t.id=s.id) (en:t.n=s.n) (eh:t.height=s.height) (em:t.mine=s.mine ++ x) (hx:∀m∈x,m.kind=3)
  (ev:∀q,Z02 q t.votes=Z02 q s.votes) (ec:t.claims=s.claims) (ep:∀p∈t.props,p∈s.props∨p.2.valid<p.1) (ea:∀d∈t.acc,d∈s.acc∨A d) (ed:t.decs=s.decs) (el:t.lock=s.lock)
  (hr:s.round<=t.round) (h1:∀v,t.lock=some v->v.round<t.round∨(v.round=t.round∧t.step=4)):Loc H A V E N i t:=by
 refine ⟨by rw [ei];exact hl.id,by rw [en];exact hl.nn,λk' h' r' d' q=>by rw [eh];exact hl.ht _ _ _ _ q,λm hm h3=>?_,λk' r' d' q h45=>?_,λr' d' q=>?_,λj k' h' r' d' q hj=>hl.box j k' h' r' d' (by rw [<-ev];exact q) hj,
  λj m q hj=>by rw [eh];exact hl.cl j m (ec ▸ q) hj,h1,λv hv=>by rw [eh];exact hl.lockk v (el ▸ hv),λr' d' q hd=>by rw [eh] at q;rw [el];exact hl.lock5 r' d' q hd,
  λp hp=>?_,λd hd=>?_,λh' v q=>by rw [eh];exact hl.dec h' v (ed ▸ q),λh' d' q=>by rw [ed];exact hl.ced h' d' q⟩
 ·rw [em] at hm;rw [eh];rcases List.mem_append.1 hm with hm | hm
  ·exact hl.mineV m hm h3
  exact absurd (hx m hm) h3
 ·rw [eh] at q;rw [em];rcases hl.v45 k' r' d' q h45 with c | ⟨c,m,hm,c2⟩
  ·exact .inl (by omega)
  by_cases e:r'<t.round
  ·exact .inl e
  exact .inr ⟨by omega,m,List.mem_append_left _ hm,c2⟩
 ·rw [eh] at q;rw [em];obtain ⟨m,hm,c⟩:=hl.v6 r' d' q;exact ⟨m,List.mem_append_left _ hm,c⟩
 ·rcases ep p hp with q | q
  ·exact hl.pv p q
  exact q
 rcases ea d hd with q | q
 ·exact hl.acc d q
 exact q
theorem Loc.decided {i:Nat} {s:NS D L} (hl:Loc H A V E N i s) (hd:s.isDec s.height=false) (v:Val D L):Loc H A V (Zk3 E i s.height v.dig) N i {s with decs:=Z18 s.height v s.decs}:=by
 have hV:∀i k h r d,V i k h r d->V i k h r d:=λ_ _ _ _ _ q=>q;have hE:∀i' h' d',E i' h' d'->Zk3 E i s.height v.dig i' h' d':=λ_ _ _ q=>.inl q;refine ⟨hl.id,hl.nn,hl.ht,hl.mineV,hl.v45,hl.v6,λj k h r d q hj=>(hl.box j k h r d q hj).imp (λq=>q) (hE _ _ _),λj m q hj=>hE _ _ _ (hl.cl j m q hj),hl.lockr,λv hv=>(hl.lockk v hv).mono hV hE,hl.lock5,hl.pv,hl.acc,λh u q=>?_,λh d q=>?_⟩
 ·rw [show ({s with decs:=Z18 s.height v s.decs}:NS D L).decs=Z18 s.height v s.decs from rfl,Z29] at q;split at q
  ·rename_i e
   cases q;exact ⟨.inr ⟨rfl,e,rfl⟩,by rw [e];exact Int.le_refl _⟩
  exact ⟨.inl (hl.dec h u q).1,(hl.dec h u q).2⟩
 show ∃u,Z02 h (Z18 s.height v s.decs)=some u∧u.dig=d;rw [Z29];rcases q with q | ⟨_,e,e2⟩
 ·rw [if_neg (λe=>by
   obtain ⟨u,hu,_⟩:=hl.ced h d q;unfold NS.isDec at hd;rw [<-e,hu] at hd;cases hd)]
  exact hl.ced h d q
 rw [if_pos e];exact ⟨v,rfl,e2.symm⟩
theorem Zcu {sz:D->Prop} {s:NS D L} (hi:Z0x sz s) (hn:s.n=(N:Int)) (hN:N=H+F) {d:D} (hc:(F:Int)<Z19 d s.claims):∃(j:Nat) (m:Msg D L),j<H∧Z02 (j:Int) s.claims=some m∧m.dig=d:=by
 refine Classical.byContradiction λhne=>?_;unfold Z19 at hc;have hnd:((s.claims.filter λp=>decide (p.2.dig=d)).map (λp=>p.1.toNat)).Nodup:=by
  have h1:((s.claims.filter λp=>decide (p.2.dig=d)).map (·.1)).Nodup:=(List.filter_sublist.map _).nodup hi.box.ck;have e:(s.claims.filter λp=>decide (p.2.dig=d)).map (λp=>p.1.toNat)=((s.claims.filter λp=>decide (p.2.dig=d)).map (·.1)).map Int.toNat:=by rw [List.map_map];rfl
  rw [e];refine List.Pairwise.map _ (λa b h=>h) ?_;refine h1.imp_of_mem (λ{a b} ha hb hab e=>hab ?_);obtain ⟨p,hp,rfl⟩:=List.mem_map.1 ha;obtain ⟨q,hq,rfl⟩:=List.mem_map.1 hb;have:=(hi.box.cr p (List.mem_filter.1 hp).1).1;have:=(hi.box.cr q (List.mem_filter.1 hq).1).1;omega
 have:=Z8p hnd (b:=List.range' H F) (λx hx=>by
  obtain ⟨p,hp,rfl⟩:=List.mem_map.1 hx;obtain ⟨h1,h2⟩:=List.mem_filter.1 hp;have h3:=hi.box.cr p h1;rw [hn] at h3;rw [List.mem_range'_1];have:¬p.1.toNat<H:=λhlt=>hne ⟨p.1.toNat,p.2,hlt,by
   have e:((p.1.toNat:Nat):Int)=p.1:=by omega
   rw [e];exact Zfg hi.box.ck h1,by simpa using h2⟩
  omega)
 rw [List.length_map,List.length_range'] at this;omega
theorem Z4m {s:NS D L}:∀{l:List Int} {m:Msg D L},Z0v s l=some m->Z03 s.n<Z19 m.dig s.claims
 | [],m,h=>by cases h
 | x :: l,m,h=>by
  unfold Z0v at h;split at h
  ·split at h
   ·rename_i q;cases h;exact q
   exact Z4m h
  exact Z4m h
theorem Zjs [DgL D] {s:NS D L} {k r:Int} (h:(s.most k r).1≠Dg.nil):(s.most k r).2=s.count k r (s.most k r).1:=by
 unfold NS.count NS.most at *;rcases Z7n (Z0y s.n.toNat s.votes k s.height r) with ⟨_,e⟩ | ⟨⟨_,e⟩,_⟩
 ·exact absurd (by rw [e]) h
 exact e
theorem Z23 (u:NS D L) {k r:Int} {d:D} (hk:k≠3):(u.say (vote k r d)).props=u.props:=by
 unfold NS.say;simp only;rw [if_neg (show ¬(vote k r d:Msg D L).kind=3 from hk)];unfold NS.putVote;split <;> rfl
def Z6j (i:Nat) (V V':Zez D) (E E':Zf0 D):Prop:=(∀i k h r d,V i k h r d->V' i k h r d)∧(∀i h d,E i h d->E' i h d)∧(∀j,j≠i->(∀k h r d,V' j k h r d->V j k h r d)∧∀h d,E' j h d->E j h d)
theorem Z6j.refl (i:Nat) (V:Zez D) (E:Zf0 D):Z6j i V V E E:=⟨λ_ _ _ _ _ q=>q,λ_ _ _ q=>q,λ_ _=>⟨λ_ _ _ _ q=>q,λ_ _ q=>q⟩⟩
theorem Z6j.vote (i:Nat) (V:Zez D) (E:Zf0 D) (k h r:Int) (d:D):Z6j i V (Znd V i k h r d) E E:=⟨λ_ _ _ _ _ q=>.inl q,λ_ _ _ q=>q,λj hj=>⟨λ_ _ _ _ q=>q.resolve_right (λc=>hj c.1),λ_ _ q=>q⟩⟩
theorem Z6j.dec (i:Nat) (V:Zez D) (E:Zf0 D) (h:Int) (d:D):Z6j i V V E (Zk3 E i h d):=⟨λ_ _ _ _ _ q=>q,λ_ _ _ q=>.inl q,λj hj=>⟨λ_ _ _ _ q=>q,λ_ _ q=>q.resolve_right (λc=>hj c.1)⟩⟩
theorem Z6j.trans {i:Nat} {V V' V'':Zez D} {E E' E'':Zf0 D} (a:Z6j i V V' E E') (b:Z6j i V' V'' E' E''):Z6j i V V'' E E'':=
 ⟨λ_ _ _ _ _ q=>b.1 _ _ _ _ _ (a.1 _ _ _ _ _ q),λ_ _ _ q=>b.2.1 _ _ _ (a.2.1 _ _ _ q),λj hj=>⟨λ_ _ _ _ q=>(a.2.2 j hj).1 _ _ _ _ ((b.2.2 j hj).1 _ _ _ _ q),λ_ _ q=>(a.2.2 j hj).2 _ _ ((b.2.2 j hj).2 _ _ q)⟩⟩
theorem Move.agr [DgL D] {sz:D->Prop} (a:Agr H F A V E σ N) (h3:2 * F<H) (hN:N=H+F) (hf:Z03 (N:Int)=(F:Int)) {i:Nat} (hi:i<H) {s t:NS D L} (es:σ i=s) (hv:Z0x sz s) (hd:s.isDec s.height=false) (m:Move s t) :
  ∃V' E',Agr H F A V' E' (upd σ i t) N∧Z6j i V V' E E':=by
 subst es;obtain ⟨s,hs⟩:∃s,s=σ i:=⟨_,rfl⟩;have hl:=a.loc i hi;rw [<-hs] at hl hv hd m;have pastT:∀{u:NS D L},u.height=s.height->s.round<=u.round->∀h r,Z86 (σ i) h r->Z86 u h r:=λe1 e2 h r q=>by
  rw [<-hs] at q;unfold Z86 at q ⊢;rw [e1];omega
 have no4:s.step=1->∀d',¬V i 4 s.height s.round d':=λh1 d' q=>by
  rcases hl.v45 4 _ d' q (.inl rfl) with c | ⟨_,m,hm,k1,k2,_⟩
  ·omega
  have:=hv.min.no4 m hm k1;omega
 have no5:s.step≠4->∀d',¬V i 5 s.height s.round d':=λh1 d' q=>by
  rcases hl.v45 5 _ d' q (.inr rfl) with c | ⟨_,m,hm,k1,k2,_⟩
  ·omega
  have:=hv.min.no5 m hm k1;omega
 have no6:∀r,((6:Int),r)∉s.made->∀d',¬V i 6 s.height r d':=λr h1 d' q=>by
  obtain ⟨m,hm,k1,k2,_⟩:=hl.v6 r d' q;refine h1 ?_;rw [hv.min.made];exact List.mem_map.2 ⟨m,hm,by rw [k1,k2]⟩
 have le4:∀v d',V i 4 s.height v d'->v<=s.round:=λv d' q=>by
  rcases hl.v45 4 v d' q (.inl rfl) with c | ⟨c,_⟩ <;> omega
 have lowlock:s.step≠4->∀v,s.lock=some v->v.round<s.round:=λh1 v hv=>by
  rcases hl.lockr v hv with q | q <;> omega
 cases m with
 | claims m h=>
  have hc:=Z4m h;rw [hl.nn,hf] at hc;obtain ⟨j,m',hj,hg,e⟩:=Zcu hv hl.nn hN hc;have hE:=hl.cl j m' hg hj;rw [e] at hE;exact ⟨V,Zk3 E i s.height m.dig,a.decide h3 hi (hl.decided hd ⟨-1,m.dig,m.list⟩) (pastT rfl (Int.le_refl _)) (.inl ⟨j,hj,hE⟩),Z6j.dec _ _ _ _ _⟩
 | decide v r hr h=>
  obtain ⟨e1,e2,_⟩:=Z2y h;obtain ⟨c1,c2⟩:=Z2w e2;refine ⟨V,Zk3 E i s.height v.dig,a.decide h3 hi (hl.decided hd v) (pastT rfl (Int.le_refl _)) ?_,Z6j.dec _ _ _ _ _⟩;rcases hl.quorum hN hf c1 with q | q
  ·exact .inr ⟨c2,r,q⟩
  ·exact .inl q
 | spread r hr h hd2 hc=>
  obtain ⟨hb,e1,e2,e3,e4,e5⟩:=Z0j s (vote 6 r (s.most 6 r).1:Msg D L);have hp:(s.say (vote 6 r (s.most 6 r).1)).props=s.props:=Z23 _ (by decide);refine ⟨_,E,a.vote h3 hi (k:=6) (r:=(r:Int)) (d:=(s.most 6 r).1) (by
   rw [<-hs];exact hl.voted (.inr (.inr rfl)) hb.id hb.n hb.height e4 (Z3c s _) hb.claims hp hb.acc hb.decs (by rw [e1];exact Int.le_refl _) (λq=>by omega) (λv q=>by rw [hb.lock] at q;rw [e1,e2];exact hl.lockr v q) (λv q=>hl.lockk v (hb.lock ▸ q))
    (λr d q n=>by rw [hb.lock];exact hl.lock5 r d q n) (λq=>by omega)) (pastT hb.height (by rw [e1];exact Int.le_refl _)) (.inr (.inr rfl)) (λd' q=>by rw [<-hs] at q;exact absurd q (no6 _ h d')) (λq=>by omega) (λq=>by omega) (λ_=>⟨hd2,?_⟩),Z6j.vote _ _ _ _ _ _ _⟩
  rw [Zjs hd2] at hc;rw [<-hs];rcases hl.more hN hf hc with q | q
  ·exact .inr (.inr q)
  ·exact .inr (.inl q)
 | validate v h hr=>
  exact ⟨V,E,a.still (hl.kept (x:=[]) rfl rfl rfl (by simp) (λm hm=>by cases hm) (λ_=>rfl) rfl (λp hp=>.inl hp) (λd hd=>.inl hd) rfl rfl (Int.le_refl _) hl.lockr) (pastT rfl (Int.le_refl _)),Z6j.refl _ _ _⟩
 | follow r hr hp=>
  obtain ⟨hb,e1,e2,e3,e4,e5⟩:=Z0j ({s with round:=r}:NS D L) (vote 5 r Dg.nil:Msg D L);have hp:(({s with round:=r}:NS D L).say (vote 5 r Dg.nil)).props=s.props:=Z23 _ (by decide);refine ⟨_,E,a.vote h3 hi (k:=5) (r:=r) (d:=Dg.nil) (t:=({s with round:=r}:NS D L).cast 5 Dg.nil 4) (by
   rw [<-hs];exact hl.voted (.inr (.inl rfl)) hb.id hb.n hb.height e4 (Z3c ({s with round:=r}:NS D L) _) hb.claims hp hb.acc hb.decs (by show s.round<=(NS.say _ _).round;rw [e1];exact Int.le_of_lt hr.1) (λ_=>e1.symm)
    (λv q=>by
     have q:s.lock=some v:=hb.lock.symm.trans q;left
     show v.round<(NS.say _ _).round;rw [e1];show v.round<r;rcases hl.lockr v q with c | c <;> omega) (λv q=>hl.lockk v (hb.lock.symm.trans q))
    (λr' d' q n=>by
     obtain ⟨v,v1,v2⟩:=hl.lock5 r' d' q n;exact ⟨v,hb.lock.trans v1,v2⟩) (λ_ n=>absurd rfl n)) (pastT hb.height (by show s.round<=(NS.say _ _).round;rw [e1];exact Int.le_of_lt hr.1)) (.inr (.inl rfl)) (λd' q=>by
     rw [<-hs] at q;rcases hl.v45 5 _ d' q (.inr rfl) with c | ⟨c,_⟩ <;> omega) (λq=>by omega) (λ_=>⟨λn=>absurd rfl n,by rw [<-hs];unfold Z86;omega,λv d' q=>by rw [<-hs] at q;have:=le4 v d' q;omega⟩) (λq=>by omega),Z6j.vote _ _ _ _ _ _ _⟩
 | propose v h h1 hp hm=>
  obtain ⟨hb,e1,e2,e3,e4,e5⟩:=Z0j s (⟨3,0,0,0,s.round,v.round,v.dig,v.list⟩:Msg D L);have hvr:v.round<s.round:=by
   unfold NS.toPropose at h;have ho:∀u,s.own=some u->u.round<s.round:=λu hu=>by
    have:=(hv.box.oz u hu).2;have:=hv.num.r0;omega
   split at h
   ·split at h
    ·rename_i q;cases h;exact q
    exact ho v h
   exact ho v h
  refine ⟨V,E,a.still (hl.kept hb.id hb.n hb.height e4 (λm hm=>by
   have:m = {(⟨3,0,0,0,s.round,v.round,v.dig,v.list⟩:Msg D L) with frm:=s.id,height:=s.height}:=by simpa using hm
   rw [this]) (λq=>by
    rfl) hb.claims (λp hp=>?_) (λd hd=>.inl (hb.acc ▸ hd)) hb.decs hb.lock (by rw [e1];exact Int.le_refl _) (λv q=>by rw [hb.lock] at q;rw [e1,e2];exact hl.lockr v q)) (pastT hb.height (by rw [e1];exact Int.le_refl _)),Z6j.refl _ _ _⟩
  have hp:p∈Z3u s.props s.round {(⟨3,0,0,0,s.round,v.round,v.dig,v.list⟩:Msg D L) with frm:=s.id,height:=s.height}:=by
   have e:(s.say ⟨3,0,0,0,s.round,v.round,v.dig,v.list⟩).props=Z3u s.props s.round {(⟨3,0,0,0,s.round,v.round,v.dig,v.list⟩:Msg D L) with frm:=s.id,height:=s.height}:=rfl;rw [<-e];exact hp
  rcases Z43 hp with rfl | q
  ·exact .inr hvr
  ·exact .inl q
 | prevote p d h h1 ha hvp hd2=>
  obtain ⟨hb,e1,e2,e3,e4,e5⟩:=Z0j s (vote 4 s.round d:Msg D L);have hpp:(s.say (vote 4 s.round d)).props=s.props:=Z23 _ (by decide);refine ⟨_,E,a.vote h3 hi (k:=4) (r:=s.round) (d:=d) (t:=s.cast 4 d 2) (by
   rw [<-hs];exact hl.voted (.inl rfl) hb.id hb.n hb.height e4 (Z3c s _) hb.claims hpp hb.acc hb.decs (by show s.round<=(NS.say _ _).round;rw [e1];exact Int.le_refl _) (λ_=>e1.symm)
    (λv q=>by
     have q:s.lock=some v:=hb.lock.symm.trans q;left
     show v.round<(NS.say _ _).round;rw [e1];exact lowlock (by omega) v q) (λv q=>hl.lockk v (hb.lock.symm.trans q))
    (λr' d' q n=>by
     obtain ⟨v,v1,v2⟩:=hl.lock5 r' d' q n;exact ⟨v,hb.lock.trans v1,v2⟩) (λq=>by omega)) (pastT hb.height (by show s.round<=(NS.say _ _).round;rw [e1];exact Int.le_refl _)) (.inl rfl) (λd' q=>by
     rw [<-hs] at q;exact absurd q (no4 h1 d')) (λ_=>⟨?_,λn r1 d1 q n1 hr=>?_⟩) (λq=>by omega) (λq=>by omega),Z6j.vote _ _ _ _ _ _ _⟩
  ·rcases hd2 with q | ⟨q,_⟩
   ·exact .inl q
   rw [q];exact .inr (hl.acc _ ha)
  ·rw [<-hs] at q ⊢;rcases hd2 with c | ⟨c,hd2⟩
   ·exact absurd c n
   ·subst c;obtain ⟨v,v1,v2,v3⟩:=hl.lock5 r1 d1 q n1;refine ⟨v.round,v.dig,v2,lowlock (by omega) v v1,v3,hl.lockk v v1,?_⟩;by_cases e:v.dig=p.dig
    ·exact .inl e
    ·have c1:=hd2 v v1 e;have c2:=(hv.num.lr v v1).1;have c3:=hl.pv _ (Z0r h);exact .inr ⟨p.valid,c1,c3,hl.more hN hf (hvp (by omega))⟩
 | miss h1 hlt=>
  obtain ⟨hb,e1,e2,e3,e4,e5⟩:=Z0j s (vote 4 s.round Dg.nil:Msg D L);have hpp:(s.say (vote 4 s.round Dg.nil)).props=s.props:=Z23 _ (by decide);exact ⟨_,E,a.vote h3 hi (k:=4) (r:=s.round) (d:=Dg.nil) (t:=s.cast 4 Dg.nil 2) (by
   rw [<-hs];exact hl.voted (.inl rfl) hb.id hb.n hb.height e4 (Z3c s _) hb.claims hpp hb.acc hb.decs (by show s.round<=(NS.say _ _).round;rw [e1];exact Int.le_refl _) (λ_=>e1.symm)
    (λv q=>by
     have q:s.lock=some v:=hb.lock.symm.trans q;left
     show v.round<(NS.say _ _).round;rw [e1];exact lowlock (by omega) v q) (λv q=>hl.lockk v (hb.lock.symm.trans q))
    (λr' d' q n=>by
     obtain ⟨v,v1,v2⟩:=hl.lock5 r' d' q n;exact ⟨v,hb.lock.trans v1,v2⟩) (λq=>by omega)) (pastT hb.height (by show s.round<=(NS.say _ _).round;rw [e1];exact Int.le_refl _)) (.inl rfl) (λd' q=>by
     rw [<-hs] at q;exact absurd q (no4 h1 d')) (λ_=>⟨.inl rfl,λn=>absurd rfl n⟩) (λq=>by omega) (λq=>by omega),Z6j.vote _ _ _ _ _ _ _⟩
 | key d h h1 hm h2=>
  obtain ⟨hb,e1,e2,e3,e4,e5⟩:=Z0j s (vote 6 s.round d:Msg D L);have hpp:(s.say (vote 6 s.round d)).props=s.props:=Z23 _ (by decide);obtain ⟨c1,c2⟩:=Z2w h;refine ⟨_,E,a.vote h3 hi (k:=6) (r:=s.round) (d:=d) (by
   rw [<-hs];exact hl.voted (.inr (.inr rfl)) hb.id hb.n hb.height e4 (Z3c s _) hb.claims hpp hb.acc hb.decs (by rw [e1];exact Int.le_refl _) (λq=>by omega) (λv q=>by rw [hb.lock] at q;rw [e1,e2];exact hl.lockr v q) (λv q=>hl.lockk v (hb.lock ▸ q))
    (λr d q n=>by rw [hb.lock];exact hl.lock5 r d q n) (λq=>by omega)) (pastT hb.height (by rw [e1];exact Int.le_refl _)) (.inr (.inr rfl)) (λd' q=>by rw [<-hs] at q;exact absurd q (no6 _ hm d')) (λq=>by omega) (λq=>by omega) (λ_=>⟨c2,?_⟩),Z6j.vote _ _ _ _ _ _ _⟩
  rw [<-hs];rcases hl.quorum hN hf c1 with q | q
  ·exact .inl q
  ·exact .inr (.inl q)
 | key2 d h h1 hm=>
  obtain ⟨hb,e1,e2,e3,e4,e5⟩:=Z0j s (vote 6 s.round d:Msg D L);have hpp:(s.say (vote 6 s.round d)).props=s.props:=Z23 _ (by decide);obtain ⟨c1,c2⟩:=Z2w h;refine ⟨_,E,a.vote h3 hi (k:=6) (r:=s.round) (d:=d) (t:=(s.say (vote 6 s.round d)).enter 3) (by
   rw [<-hs];exact hl.voted (.inr (.inr rfl)) hb.id hb.n hb.height e4 (Z3c s _) hb.claims hpp hb.acc hb.decs (by show s.round<=(NS.say _ _).round;rw [e1];exact Int.le_refl _) (λq=>by omega)
    (λv q=>by
     have q:s.lock=some v:=hb.lock.symm.trans q;left
     show v.round<(NS.say _ _).round;rw [e1];exact lowlock (by omega) v q) (λv q=>hl.lockk v (hb.lock.symm.trans q))
    (λr' d' q n=>by
     obtain ⟨v,v1,v2⟩:=hl.lock5 r' d' q n;exact ⟨v,hb.lock.trans v1,v2⟩) (λq=>by omega)) (pastT hb.height (by show s.round<=(NS.say _ _).round;rw [e1];exact Int.le_refl _)) (.inr (.inr rfl)) (λd' q=>by rw [<-hs] at q;exact absurd q (no6 _ hm d')) (λq=>by omega) (λq=>by omega) (λ_=>⟨c2,?_⟩),Z6j.vote _ _ _ _ _ _ _⟩
  rw [<-hs];rcases hl.quorum hN hf c1 with q | q
  ·exact .inl q
  ·exact .inr (.inl q)
 | wait h1 hm=>
  exact ⟨V,E,a.still (hl.kept (x:=[]) rfl rfl rfl (by simp [NS.enter]) (λm hm=>by cases hm) (λ_=>rfl) rfl (λp hp=>.inl hp) (λd hd=>.inl hd) rfl rfl (Int.le_refl _) (λv hv=>.inl (lowlock (by omega) v hv))) (pastT rfl (Int.le_refl _)),Z6j.refl _ _ _⟩
 | pass h1 hx=>
  obtain ⟨hb,e1,e2,e3,e4,e5⟩:=Z0j s (vote 5 s.round Dg.nil:Msg D L);have hpp:(s.say (vote 5 s.round Dg.nil)).props=s.props:=Z23 _ (by decide);exact ⟨_,E,a.vote h3 hi (k:=5) (r:=s.round) (d:=Dg.nil) (t:=s.cast 5 Dg.nil 4) (by
   rw [<-hs];exact hl.voted (.inr (.inl rfl)) hb.id hb.n hb.height e4 (Z3c s _) hb.claims hpp hb.acc hb.decs (by show s.round<=(NS.say _ _).round;rw [e1];exact Int.le_refl _) (λ_=>e1.symm)
    (λv q=>by
     have q:s.lock=some v:=hb.lock.symm.trans q;left
     show v.round<(NS.say _ _).round;rw [e1];exact lowlock (by omega) v q) (λv q=>hl.lockk v (hb.lock.symm.trans q))
    (λr' d' q n=>by
     obtain ⟨v,v1,v2⟩:=hl.lock5 r' d' q n;exact ⟨v,hb.lock.trans v1,v2⟩) (λ_ n=>absurd rfl n)) (pastT hb.height (by show s.round<=(NS.say _ _).round;rw [e1];exact Int.le_refl _)) (.inr (.inl rfl)) (λd' q=>by
     rw [<-hs] at q;exact absurd q (no5 (by omega) d')) (λq=>by omega) (λ_=>⟨λn=>absurd rfl n,by rw [<-hs];unfold Z86;omega,λv d' q=>by rw [<-hs] at q;exact le4 v d' q⟩) (λq=>by omega),Z6j.vote _ _ _ _ _ _ _⟩
 | bolt v h h1=>
  obtain ⟨hb,e1,e2,e3,e4,e5⟩:=Z0j ({s with lock:=some v}:NS D L) (vote 5 s.round v.dig:Msg D L);have hpp:(({s with lock:=some v}:NS D L).say (vote 5 s.round v.dig)).props=s.props:=Z23 _ (by decide);obtain ⟨r1,r2,_⟩:=Z2y h;obtain ⟨c1,c2⟩:=Z2w r2;have hk:Z3d H V E s.height s.round v.dig:=by
   rcases hl.quorum hN hf c1 with q | q
   ·exact .inl (q.some (by omega))
   exact .inr q
  refine ⟨_,E,a.vote h3 hi (k:=5) (r:=s.round) (d:=v.dig) (t:=({s with lock:=some v}:NS D L).cast 5 v.dig 4) (by
   rw [<-hs];exact hl.voted (.inr (.inl rfl)) hb.id hb.n hb.height e4 (Z3c ({s with lock:=some v}:NS D L) _) hb.claims hpp hb.acc hb.decs (by show s.round<=(NS.say _ _).round;rw [e1];exact Int.le_refl _) (λ_=>e1.symm)
    (λu q=>by
     have q:some v=some u:=hb.lock.symm.trans q;cases q;right
     refine ⟨?_,rfl⟩;show v.round=(NS.say _ _).round;rw [e1];exact r1) (λu q=>by
     have q:some v=some u:=hb.lock.symm.trans q;cases q;rw [r1];exact hk)
    (λr' d' q n=>by
     refine ⟨v,hb.lock,?_,λe=>?_⟩
     ·rw [r1];rcases hl.v45 5 _ d' q (.inr rfl) with c | ⟨c,_⟩ <;> omega
     ·exfalso;rw [r1] at e;subst e;exact no5 (by omega) d' q) (λ_ n=>⟨v,hb.lock,Int.le_of_eq r1.symm,λ_=>rfl⟩)) (pastT hb.height (by show s.round<=(NS.say _ _).round;rw [e1];exact Int.le_refl _)) (.inr (.inl rfl)) (λd' q=>by
     rw [<-hs] at q;exact absurd q (no5 (by omega) d')) (λq=>by omega) (λ_=>⟨λ_=>by rw [<-hs];exact hk,by rw [<-hs];unfold Z86;omega,λv d' q=>by rw [<-hs] at q;exact le4 v d' q⟩) (λq=>by omega),Z6j.vote _ _ _ _ _ _ _⟩
 | leave h1 hx=>
  obtain ⟨hb,e1,e2,e3,e4,e5⟩:=Z0j s (vote 5 s.round Dg.nil:Msg D L);have hpp:(s.say (vote 5 s.round Dg.nil)).props=s.props:=Z23 _ (by decide);exact ⟨_,E,a.vote h3 hi (k:=5) (r:=s.round) (d:=Dg.nil) (t:=s.cast 5 Dg.nil 4) (by
   rw [<-hs];exact hl.voted (.inr (.inl rfl)) hb.id hb.n hb.height e4 (Z3c s _) hb.claims hpp hb.acc hb.decs (by show s.round<=(NS.say _ _).round;rw [e1];exact Int.le_refl _) (λ_=>e1.symm)
    (λv q=>by
     have q:s.lock=some v:=hb.lock.symm.trans q;left
     show v.round<(NS.say _ _).round;rw [e1];exact lowlock (by omega) v q) (λv q=>hl.lockk v (hb.lock.symm.trans q))
    (λr' d' q n=>by
     obtain ⟨v,v1,v2⟩:=hl.lock5 r' d' q n;exact ⟨v,hb.lock.trans v1,v2⟩) (λ_ n=>absurd rfl n)) (pastT hb.height (by show s.round<=(NS.say _ _).round;rw [e1];exact Int.le_refl _)) (.inr (.inl rfl)) (λd' q=>by
     rw [<-hs] at q;exact absurd q (no5 (by omega) d')) (λq=>by omega) (λ_=>⟨λn=>absurd rfl n,by rw [<-hs];unfold Z86;omega,λv d' q=>by rw [<-hs] at q;exact le4 v d' q⟩) (λq=>by omega),Z6j.vote _ _ _ _ _ _ _⟩
 | next h1 hx hr=>
  exact ⟨V,E,a.still (hl.kept (x:=[]) rfl rfl rfl (by simp [NS.enter]) (λm hm=>by cases hm) (λ_=>rfl) rfl (λp hp=>.inl hp) (λd hd=>.inl hd) rfl rfl (by show s.round<=s.round+1;omega) (λv hv=>.inl (by
   show v.round<s.round+1;rcases hl.lockr v hv with c | c <;> omega))) (pastT rfl (by show s.round<=s.round+1;omega)),Z6j.refl _ _ _⟩
end
section
variable {D L:Type} [Dg D] [Inhabited L]
variable {H F N:Nat} {A:D->Prop} {V V':Zez D} {E E':Zf0 D} {σ σ':Nat->NS D L}
variable (H V E N) in
def Src (m:Msg D L):Prop:=∀j:Nat,m.frm=(j:Int)->j<H->(m.kind≠3->V j m.kind m.height m.round m.dig∨E j m.height m.dig)∧(m.kind=3->(m.height+m.round) % (N:Int)≠(j:Int)->E j m.height m.dig)
theorem Src.mono (hV:∀i k h r d,V i k h r d->V' i k h r d) (hE:∀i h d,E i h d->E' i h d) {m:Msg D L} (h:Src H N V E m):Src H N V' E' m:=λj e hj=>
 ⟨λk=>((h j e hj).1 k).imp (hV _ _ _ _ _) (hE _ _ _),λk n=>hE _ _ _ ((h j e hj).2 k n)⟩
theorem Zrf (i:Nat) (s t:NS D L):upd (upd σ i s) i t=upd σ i t:=by
 funext j
 unfold upd;split <;> rfl
theorem Z5t (i:Nat):upd σ i (σ i)=σ:=by
 funext j
 unfold upd;split
 ·rename_i e;rw [e]
 rfl
theorem Z59 {s t:NS D L} (eh:t.height=s.height) (er:s.round<=t.round) (h r:Int) (q:Z86 s h r):Z86 t h r:=by
 unfold Z86 at q ⊢;rw [eh];omega
theorem Z6k {sz:D->Prop} {G:D->L->Prop} {i:Nat} {s:NS D L} (hl:Loc H A V E N i s) (hq:QI s):∀m∈s.answers,E i m.height m.dig∧m.frm=(i:Int)∧s.isDec m.height=true:=by
 intro m hm;unfold NS.answers at hm;obtain ⟨site,hs,hm⟩:=List.mem_flatMap.1 hm;split at hm
 ·rename_i q e
  have b3:=(hq.o _ (Z0r e)).2.2;have hE:E i q.1 (s.decDig q.1):=by
   have b4:=b3;unfold NS.isDec at b4;unfold NS.decDig;rcases hg:Z02 q.1 s.decs with _ | v
   ·rw [hg] at b4;cases b4
   exact (hl.dec q.1 v hg).1
  unfold NS.answer at hm;simp only [List.cons_append,List.nil_append,List.mem_cons,List.mem_append,List.mem_map,List.mem_range,List.not_mem_nil,or_false] at hm;rcases hm with rfl | rfl | ⟨x,hx,rfl⟩ | rfl <;> exact ⟨hE,hl.id,b3⟩
 cases hm
theorem Zmn {i:Nat} {m:Msg D L} (h:E i m.height m.dig) (hf:m.frm=(i:Int)):Src H N V E m:=λj e hj=>by
 have:j=i:=by omega
 subst this;exact ⟨λ_=>.inr h,λ_ _=>h⟩
theorem Agr.tick [DgL D] {sz:D->Prop} {G:D->L->Prop} (a:Agr H F A V E σ N) (h3:2 * F<H) (hN:N=H+F) (hf:Z03 (N:Int)=(F:Int)) {i:Nat} (hi:i<H) (hv:Z0x sz (σ i)) (hg:GI sz G (σ i)) (hq:QI (σ i)) :
  ∃V' E',Agr H F A V' E' (upd σ i (σ i).tick.1) N∧Z6j i V V' E E'∧(∀m∈(σ i).tick.2,Src H N V' E' m) ∧
   ((σ i).isDec (σ i).height=false->∀m∈(σ i).tick.2,m.height=(σ i).height->m.kind≠3->m.frm=(i:Int)∧V' i m.kind m.height m.round m.dig):=by
 have hl:=a.loc i hi;rcases hd:(σ i).isDec (σ i).height with _ | _
 ·have key:∃V' E',Agr H F A V' E' (upd σ i (σ i).tick.1) N∧Z6j i V V' E E':=by
   have e:(σ i).tick.1=NS.runS (({(σ i) with ques:=[]}:NS D L).ticked.mu+2) ({(σ i) with ques:=[]}:NS D L).ticked:=by
    unfold NS.tick;simp only;rw [if_neg (by show ¬(σ i).isDec (σ i).height=true;rw [hd];simp)];rfl
   rw [e];have h0:Agr H F A V E (upd σ i ({(σ i) with ques:=[]}:NS D L).ticked) N:=a.still (hl.kept (x:=[]) rfl rfl rfl (by simp [NS.ticked]) (λm hm=>by cases hm) (λ_=>rfl) rfl (λp hp=>.inl hp) (λd hd=>.inl hd) rfl rfl (Int.le_refl _) hl.lockr) (Z59 rfl (Int.le_refl _));exact Zgq (sz:=sz) (P:=λt=>∃V' E',Agr H F A V' E' (upd σ i t) N∧Z6j i V V' E E') (λs t hs hds hm q=>by
    obtain ⟨V1,E1,q1,q2⟩:=q;obtain ⟨V2,E2,p1,p2⟩:=hm.agr q1 h3 hN hf hi (Z5s i s) hs hds;rw [Zrf] at p1;exact ⟨V2,E2,p1,q2.trans p2⟩) _ (Z35 (Z2l hv)) ⟨V,E,h0,Z6j.refl _ _ _⟩
  obtain ⟨V',E',k1,k2⟩:=key;have hk:=Z38 hv;have hl2:Loc H A V' E' N i (σ i).tick.1:=by
   have:=k1.loc i hi;rw [Z5s] at this;exact this
  have hg2:=Zkf hv hg;obtain ⟨t,ht⟩:=Zba hd;have mem:∀m∈(σ i).tick.1.sends ((σ i).tick.1.mine.drop t),m.frm=(i:Int)∧m.height=(σ i).height∧(m.kind≠3->V' i m.kind m.height m.round m.dig)∧(m.kind=3->(m.height+m.round) % (N:Int)=(i:Int)):=λm hm=>by
   obtain ⟨b,hb,x,_,_,rfl⟩:=Zeh hm;have hb:=List.mem_of_mem_drop hb;have ho:=hg2.mg b hb;have e1:b.frm=(i:Int):=by rw [ho.frm,hk.id];exact hl.id
   have e2:b.height=(σ i).height:=by rw [ho.height,hk.height]
   refine ⟨e1,e2,λh3=>?_,λh3=>?_⟩
   ·have:=hl2.mineV b hb h3;rw [<-ho.height] at this;exact this
   have:=(ho.prop h3).2.2.2;unfold NS.proposer at this;have:=of_decide_eq_true this;rw [<-ho.height,hk.n,hl.nn,hk.id,hl.id] at this;exact this
  refine ⟨V',E',k1,k2,λm hm=>?_,λ_ m hm hh h3=>?_⟩
  ·rw [ht] at hm;rcases List.mem_append.1 hm with hm | hm
   ·obtain ⟨a1,a2,_⟩:=Z6k (sz:=sz) (G:=G) hl hq m hm;exact Zmn (k2.2.1 _ _ _ a1) a2
   obtain ⟨a1,a2,a3,a4⟩:=mem m hm;intro j e hj;have:j=i:=by omega
   subst this;exact ⟨λk=>.inl (a3 k),λk n=>absurd (a4 k) n⟩
  rw [ht] at hm;rcases List.mem_append.1 hm with hm | hm
  ·obtain ⟨_,_,a3⟩:=Z6k (sz:=sz) (G:=G) hl hq m hm;rw [hh,hd] at a3;cases a3
  obtain ⟨a1,a2,a3,a4⟩:=mem m hm;exact ⟨a1,a3 h3⟩
 have e:(σ i).tick=({(σ i) with ques:=[]},(σ i).answers):=by
  unfold NS.tick;simp only;exact if_pos hd
 rw [e];refine ⟨V,E,a.still (hl.kept (x:=[]) rfl rfl rfl (by simp) (λm hm=>by cases hm) (λ_=>rfl) rfl (λp hp=>.inl hp) (λd hd=>.inl hd) rfl rfl (Int.le_refl _) hl.lockr) (Z59 rfl (Int.le_refl _)),Z6j.refl _ _ _,λm hm=>?_,λc=>by cases c⟩;obtain ⟨a1,a2,_⟩:=Z6k (sz:=sz) (G:=G) hl hq m hm;exact Zmn a1 a2
theorem Agr.receive (a:Agr H F A V E σ N) {i:Nat} (hi:i<H) {m:Msg D L} {ok:Bool} (hm:Src H N V E m) (h0:ok=true->0<=m.frm) (hv:ok=true->m.kind=3->m.valid<m.round):Agr H F A V E (upd σ i ((σ i).receive m ok)) N:=by
 have hl:=a.loc i hi;obtain ⟨e1,e2,e3,e4,e5,e6,e7,e8⟩:=Z3r (σ i) m ok;have same:∀{t:NS D L},t.votes=(σ i).votes->t.claims=(σ i).claims->t.props=(σ i).props->t.acc=(σ i).acc->t.id=(σ i).id->t.n=(σ i).n->t.height=(σ i).height->t.mine=(σ i).mine->t.decs=(σ i).decs->t.lock=(σ i).lock->t.round=(σ i).round->t.step=(σ i).step->Agr H F A V E (upd σ i t) N:=λf1 f2 f3 f4 f5 f6 f7 f8 f9 f10 f11 f12=>
  a.still (hl.kept (x:=[]) f5 f6 f7 (by rw [f8];simp) (λm hm=>by cases hm) (λ_=>by rw [f1]) f2 (λp hp=>.inl (f3 ▸ hp)) (λd hd=>.inl (f4 ▸ hd)) f9 f10 (by rw [f11];exact Int.le_refl _) (λv hv=>by rw [f10] at hv;rw [f11,f12];exact hl.lockr v hv)) (Z59 f7 (by rw [f11];exact Int.le_refl _))
 unfold NS.receive;split
 ·rw [Z5t];exact a
 rename_i q
 simp only [not_or,Bool.not_eq_false,Decidable.not_not,Int.not_le,Int.not_lt] at q;obtain ⟨q1,q2,q3,q4⟩:=q;have hfr:=h0 q1;obtain ⟨j,hj⟩:∃j:Nat,m.frm=(j:Int):=⟨m.frm.toNat,by omega⟩;split
 ·rw [Z5t];exact a
 split
 ·obtain ⟨x,y,e⟩:=Z5b (σ i) m;rw [e];exact same rfl rfl rfl rfl rfl rfl rfl rfl rfl rfl rfl rfl
 split
 ·rw [Z5t];exact a
 rename_i hh
 split
 ·rename_i h3
  obtain ⟨hb,f1,f2,f3,f4,f5,f6⟩:=Z1g (σ i) m;refine a.still ⟨hb.id.trans hl.id,hb.n.trans hl.nn,λk h r d q=>by rw [hb.height];exact hl.ht k h r d q,λx hx=>by rw [hb.height];exact hl.mineV x (f4 ▸ hx),λk r d q=>by rw [hb.height] at q;rw [f1,f4];exact hl.v45 k r d q,λr d q=>by rw [hb.height] at q;rw [f4];exact hl.v6 r d q,λx k h r d q hx=>?_,
   λx y q hx=>by rw [hb.height];exact hl.cl x y (hb.claims ▸ q) hx,λv q=>by rw [f1,f2];exact hl.lockr v (hb.lock ▸ q),λv q=>by rw [hb.height];exact hl.lockk v (hb.lock ▸ q),λr d q n=>by rw [hb.height] at q;rw [hb.lock];exact hl.lock5 r d q n,λp hp=>hl.pv p ?_,λd hd=>hl.acc d (hb.acc ▸ hd),
   λh v q=>by rw [hb.height];exact hl.dec h v (hb.decs ▸ q),λh d q=>by rw [hb.decs];exact hl.ced h d q⟩ (Z59 hb.height (by rw [f1];exact Int.le_refl _))
  ·rw [Z9u] at q;rcases hg:Z02 ((x:Int),k,h,r) (σ i).votes with _ | y
   ·rw [hg] at q;simp only at q;split at q
    ·rename_i c
     injection q with q
     injection c with c1 c2
     injection c2 with c2 c3
     injection c3 with c3 c4
     have:=(hm x c1.symm hx).1 h3;rw [<-c2,<-c3,<-c4,q] at this;exact this
    cases q
   rw [hg] at q;simp only at q;cases q;exact hl.box x k h r d hg hx
  have e:((σ i).putVote m).props=(σ i).props:=by unfold NS.putVote;split <;> rfl
  exact e ▸ hp
 rename_i h3
 simp only [ne_eq,Decidable.not_not] at h3;split
 ·refine a.still (hl.kept (x:=[]) rfl rfl rfl (by simp) (λm hm=>by cases hm) (λ_=>rfl) rfl (λp hp=>?_) (λd hd=>.inl hd) rfl rfl (Int.le_refl _) hl.lockr) (Z59 rfl (Int.le_refl _));rcases Z43 hp with rfl | hp
  ·exact .inr (hv q1 h3)
  exact .inl hp
 rename_i hpr
 split
 ·rw [Z5t];exact a
 refine a.still ⟨hl.id,hl.nn,hl.ht,hl.mineV,hl.v45,hl.v6,hl.box,λx y q hx=>?_,hl.lockr,hl.lockk,hl.lock5,hl.pv,hl.acc,hl.dec,hl.ced⟩ (Z59 rfl (Int.le_refl _));have q:Z02 (x:Int) (Z18 m.frm m (σ i).claims)=some y:=q;rw [Z29] at q;split at q
 ·rename_i c
  cases q;have hne:(m.height+m.round) % (N:Int)≠(x:Int):=by
   unfold NS.proposer at hpr;have:=of_decide_eq_false (by simpa using hpr);rw [hl.nn] at this;rw [c];exact this
  have hE:=(hm x c.symm hx).2 h3 hne;have:m.height=(σ i).height:=by omega
  rw [this] at hE;exact hE
 exact hl.cl x y q hx
theorem Agr.accept (a:Agr H F A V E σ N) {i:Nat} (hi:i<H) {d:D} (hd:A d):Agr H F A V E (upd σ i ((σ i).accept d)) N:=by
 have hl:=a.loc i hi;exact a.still (hl.kept (x:=[]) rfl rfl rfl (by simp [NS.accept]) (λm hm=>by cases hm) (λ_=>rfl) rfl (λp hp=>.inl hp) (λx hx=>by
  have hx:x∈Z2j d (σ i).acc:=hx;rcases Z1t.1 hx with q | q
  ·exact .inl q
  exact .inr (q ▸ hd)) rfl rfl (Int.le_refl _) hl.lockr) (Z59 rfl (Int.le_refl _))
theorem Loc.onward {i:Nat} {s t:NS D L} (hl:Loc H A V E N i s) (ei:t.id=s.id) (en:t.n=s.n) (eh:s.height<t.height) (em:t.mine = []) (ev:t.votes = []) (ec:t.claims = []) (ep:t.props = []) (ea:∀d∈t.acc,A d) (el:t.lock=none)
  (ed:∀h,(Z02 h t.decs).map (·.dig)=(Z02 h s.decs).map (·.dig)):Loc H A V E N i t:=by
 have no:∀k r d,¬V i k t.height r d:=λk r d q=>by
  have:=hl.ht _ _ _ _ q;omega
 refine ⟨ei.trans hl.id,en.trans hl.nn,λk h r d q=>by have:=hl.ht k h r d q;omega,λm hm=>(by rw [em] at hm;cases hm),λk r d q=>absurd q (no k r d),λr d q=>absurd q (no 6 r d),λj k h r d q=>(by rw [ev] at q;cases q),λj m q=>(by rw [ec] at q;cases q),
  λv q=>(by rw [el] at q;cases q),λv q=>(by rw [el] at q;cases q),λr d q=>absurd q (no 5 r d),λp hp=>(by rw [ep] at hp;cases hp),ea,λh v q=>?_,λh d q=>?_⟩
 ·have:=ed h;rw [q] at this;rcases hg:Z02 h s.decs with _ | u
  ·rw [hg] at this;cases this
  rw [hg] at this;have e:v.dig=u.dig:=by simpa using this
  obtain ⟨a,b⟩:=hl.dec h u hg;rw [e];exact ⟨a,by omega⟩
 obtain ⟨u,hu,e⟩:=hl.ced h d q;have:=ed h;rw [hu] at this;rcases hg:Z02 h t.decs with _ | v
 ·rw [hg] at this;cases this
 rw [hg] at this;have e2:v.dig=u.dig:=by simpa using this
 exact ⟨v,rfl,by rw [e2];exact e⟩
theorem Loc.again {i:Nat} {s t:NS D L} (hl:Loc H A V E N i s) (ei:t.id=s.id) (en:t.n=s.n) (eh:t.height=s.height) (er:s.round<t.round)
  (em:∀m∈t.mine,m.kind≠3->m.kind=6∧∃b∈s.mine,b.kind=6∧b.round=m.round∧b.dig=m.dig) (em2:∀b∈s.mine,b.kind=6->∃m∈t.mine,m.kind=6∧m.round=b.round∧m.dig=b.dig)
  (ev:∀q d,Z02 q t.votes=some d->∃b∈s.mine,b.kind=6∧b.dig=d∧q=((i:Int),6,s.height,b.round)) (ec:t.claims = []) (ep:t.props = []) (ea:∀d∈t.acc,A d)
  (el:∀v,t.lock=some v->∃u,s.lock=some u∧u.round=v.round∧u.dig=v.dig) (el2:∀u,s.lock=some u->∃v,t.lock=some v∧u.round=v.round∧u.dig=v.dig)
  (ed:∀h,(Z02 h t.decs).map (·.dig)=(Z02 h s.decs).map (·.dig)):Loc H A V E N i t:=by
 refine ⟨ei.trans hl.id,en.trans hl.nn,λk h r d q=>by rw [eh];exact hl.ht k h r d q,λm hm h3=>?_,λk r d q h45=>?_,λr d q=>?_,λj k h r d q hj=>?_,λj m q=>(by rw [ec] at q;cases q),λv q=>?_,λv q=>?_,λr d q n=>?_,λp hp=>(by rw [ep] at hp;cases hp),ea,λh v q=>?_,λh d q=>?_⟩
 ·obtain ⟨k6,b,hb,b1,b2,b3⟩:=em m hm h3;have:=hl.mineV b hb (by rw [b1];decide);rw [b1,b2,b3] at this;rw [eh,k6];exact this
 ·rw [eh] at q;left
  rcases hl.v45 k r d q h45 with c | ⟨c,_⟩ <;> omega
 ·rw [eh] at q;obtain ⟨b,hb,b1,b2,b3⟩:=hl.v6 r d q;obtain ⟨m,hm,m1,m2,m3⟩:=em2 b hb b1;exact ⟨m,hm,m1,by rw [m2];exact b2,by rw [m3];exact b3⟩
 ·obtain ⟨b,hb,b1,b2,e⟩:=ev _ d q;injection e with e1 e2
  injection e2 with e2 e3
  injection e3 with e3 e4
  have:=hl.mineV b hb (by rw [b1];decide);rw [b1,b2] at this;have ej:j=i:=by omega
  subst ej;rw [e2,e3,e4];exact .inl this
 ·left
  obtain ⟨u,hu,u1,_⟩:=el v q;rcases hl.lockr u hu with c | c <;> omega
 ·obtain ⟨u,hu,u1,u2⟩:=el v q;rw [eh,<-u1,<-u2];exact hl.lockk u hu
 ·rw [eh] at q;obtain ⟨u,hu,u1,u2⟩:=hl.lock5 r d q n;obtain ⟨v,hv,v1,v2⟩:=el2 u hu;exact ⟨v,hv,by omega,λe=>by rw [<-v2];exact u2 (by omega)⟩
 ·have:=ed h;rw [q] at this;rcases hg:Z02 h s.decs with _ | u
  ·rw [hg] at this;cases this
  rw [hg] at this;have e:v.dig=u.dig:=by simpa using this
  rw [e,eh];exact hl.dec h u hg
 obtain ⟨u,hu,e⟩:=hl.ced h d q;have:=ed h;rw [hu] at this;rcases hg:Z02 h t.decs with _ | v
 ·rw [hg] at this;cases this
 rw [hg] at this;have e2:v.dig=u.dig:=by simpa using this
 exact ⟨v,rfl,by rw [e2];exact e⟩
theorem Agr.begin (a:Agr H F A V E σ N) {i:Nat} (hi:i<H) (k:Int) (ok:Bool) {d:D} {l:L} (hd:ok=true->A d):Agr H F A V E (upd σ i ((σ i).begin k ok d l).1) N:=by
 have hl:=a.loc i hi;unfold NS.begin;split
 ·rw [Z5t];exact a
 rename_i hok
 have hok:ok=true:=by simpa using hok
 split
 ·exact a.still (hl.kept (x:=[]) rfl rfl rfl (by simp) (λm hm=>by cases hm) (λ_=>rfl) rfl (λp hp=>.inl hp) (λx hx=>by
   have hx:x∈Z2j d (σ i).acc:=hx;rcases Z1t.1 hx with q | q
   ·exact .inl q
   exact .inr (q ▸ hd hok)) rfl rfl (Int.le_refl _) hl.lockr) (Z59 rfl (Int.le_refl _))
 split
 ·rename_i q
  obtain ⟨q1,q2,q3,q4⟩:=q;have hlt:(σ i).height<(({(σ i).moved k 0 with own:=some ⟨-1,d,l⟩,acc:=[d]}:NS D L)).height:=by show (σ i).height<k;omega
  refine a.still (hl.onward rfl rfl hlt rfl rfl rfl rfl (λx hx=>?_) rfl (λ_=>rfl)) (λh r q'=>?_)
  ·have:x=d:=by simpa using hx
   rw [this];exact hd hok
  left
  have e:h<(({(σ i).moved k 0 with own:=some ⟨-1,d,l⟩,acc:=[d]}:NS D L)).height:=by
   unfold Z86 at q';omega
  exact e
 rw [Z5t];exact a
theorem Agr.start (σ:Nat->NS D L) (h:∀i,i<H->∃o a,σ i = {(Z42 (i:Int) (N:Int):NS D L) with own:=o,acc:=a}∧∀d∈a,A d):Agr H F A (λ_ _ _ _ _=>False) (λ_ _ _=>False) σ N:=by
 refine ⟨λi hi=>?_,λ_ _ _ _ _ q=>q.elim,λ_ _ _ _ _ _ q=>q.elim,λ_ _ _ _ q=>q.elim,λ_ _ _ _ q=>q.elim,λ_ _ _ _ _ _ q=>q.elim,λ_ _ _ _ q=>q.elim,λ_ _ _ _ _ q=>q.elim,λ_ _ _ _ q=>q.elim⟩;obtain ⟨o,a,e,ha⟩:=h i hi;rw [e];exact ⟨rfl,rfl,λ_ _ _ _ q=>q.elim,λm hm=>(by cases hm),λ_ _ _ q=>q.elim,λ_ _ q=>q.elim,λ_ _ _ _ _ q=>(by cases q),λ_ _ q=>(by cases q),λ_ q=>(by cases q),λ_ q=>(by cases q),λ_ _ q=>q.elim,λ_ q=>(by cases q),ha,λ_ _ q=>(by cases q),λ_ _ q=>q.elim⟩
end
end Go.Proofs.YtifcdjmcoibblaaGreatDoor
