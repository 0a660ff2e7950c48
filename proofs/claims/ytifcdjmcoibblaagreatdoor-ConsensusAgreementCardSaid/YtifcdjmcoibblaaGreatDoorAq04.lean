/- ConG ConN ConQ -/
import Derived.Test.YtifcdjmcoibblaaGreatDoorAq03
set_option linter.unusedVariables false
set_option linter.unusedSimpArgs false
set_option linter.unusedSectionVars false
namespace Go.Proofs.YtifcdjmcoibblaaGreatDoor
section
variable {D L:Type} [Dg D] [Inhabited L]
structure OwnM (sz:D->Prop) (G:D->L->Prop) (s:NS D L) (m:Msg D L):Prop where
 frm:m.frm=s.id
 height:m.height=s.height
 prop:m.kind=3->G m.dig m.list∧-1<=m.valid∧m.valid<m.round∧s.proposer s.id s.height m.round=true
 vote:m.kind≠3->m.valid=0∧m.list=default∧sz m.dig
structure GI (sz:D->Prop) (G:D->L->Prop) (s:NS D L):Prop where
 pg:∀p∈s.props,G p.2.dig p.2.list
 cg:∀p∈s.claims,G p.2.dig p.2.list
 vg:∀v,s.valid=some v->G v.dig v.list
 lg:∀v,s.lock=some v->G v.dig v.list
 og:∀v,s.own=some v->G v.dig v.list
 dg:∀p∈s.decs,G p.2.dig p.2.list
 mg:∀m∈s.mine,OwnM sz G s m
theorem Z5d {d:D} {l:L}:∀{x:List (Int×Msg D L)},Z13 d x=some l->∃p∈x,p.2.dig=d∧p.2.list=l
 | [],h=>by cases h
 | p :: x,h=>by
  unfold Z13 at h;split at h
  ·rename_i e;cases h;exact ⟨p,by simp,e,rfl⟩
  obtain ⟨q,hq,e⟩:=Z5d h;exact ⟨q,by simp [hq],e⟩
theorem Z67 {d:D}:∀{x:List (Int×Msg D L)},Z13 d x=none↔∀p∈x,p.2.dig≠d
 | []=>by simp [Z13]
 | p :: x=>by
  unfold Z13;split
  ·rename_i e;simp [e]
  rename_i e
  rw [Z67];simp [e]
theorem Zfo {sz:D->Prop} {G:D->L->Prop} {s:NS D L} (h:GI sz G s) {d:D} {l:L} (hk:s.known d=some l):G d l:=by
 unfold NS.known at hk;split at hk
 ·rename_i x hx
  cases hk;obtain ⟨p,hp,rfl,rfl⟩:=Z5d hx;exact h.pg p hp
 split at hk
 ·rename_i x hx
  cases hk;obtain ⟨p,hp,rfl,rfl⟩:=Z5d hx;exact h.cg p hp
 split at hk
 ·rename_i v hv
  split at hk
  ·rename_i e;cases hk;subst e;exact h.lg v hv
  cases hk
 cases hk
theorem GI.of {sz:D->Prop} {G:D->L->Prop} {s s':NS D L} (h:GI sz G s) (h1:s'.props=s.props) (h2:s'.claims=s.claims) (h3:∀v,s'.valid=some v->G v.dig v.list) (h4:∀v,s'.lock=some v->G v.dig v.list) (h5:∀v,s'.own=some v->G v.dig v.list)
  (h6:∀p∈s'.decs,G p.2.dig p.2.list) (h7:s'.mine=s.mine) (h8:s'.id=s.id) (h9:s'.height=s.height) (h10:s'.n=s.n):GI sz G s':=by
 refine ⟨by rw [h1];exact h.pg,by rw [h2];exact h.cg,h3,h4,h5,h6,by
  rw [h7];intro m hm;have:=h.mg m hm;exact ⟨by rw [h8];exact this.frm,by rw [h9];exact this.height,by unfold NS.proposer;rw [h8,h9,h10];exact this.prop,this.vote⟩⟩
theorem Zke {sz:D->Prop} {G:D->L->Prop} {s:NS D L} (h:GI sz G s) {m:Msg D L} (h3:m.kind=3->G m.dig m.list∧-1<=m.valid∧m.valid<m.round∧s.proposer s.id s.height m.round=true) (hv:m.kind≠3->m.valid=0∧m.list=default∧sz m.dig):GI sz G (s.say m):=by
 obtain ⟨hb,e1,e2,e3,e4,e5⟩:=Z0j s m;refine ⟨?_,by rw [hb.claims];exact h.cg,by rw [hb.valid];exact h.vg,by rw [hb.lock];exact h.lg,by rw [hb.own];exact h.og,by rw [hb.decs];exact h.dg,?_⟩
 ·unfold NS.say;simp only;split
  ·rename_i q
   intro p hp;rcases Z43 hp with rfl | hp
   ·exact (h3 q).1
   exact h.pg p hp
  rw [(Z1g _ _).2.2.2.2.2.2];exact h.pg
 rw [e4];intro x hx;rcases List.mem_append.1 hx with q | q
 ·have:=h.mg x q;exact ⟨by rw [hb.id];exact this.frm,by rw [hb.height];exact this.height,by unfold NS.proposer;rw [hb.id,hb.height,hb.n];exact this.prop,this.vote⟩
 simp at q;subst q;exact ⟨by rw [hb.id],by rw [hb.height],by unfold NS.proposer;rw [hb.id,hb.height,hb.n];exact h3,hv⟩
theorem Zbt {sz:D->Prop} {G:D->L->Prop} {s:NS D L} (h:GI sz G s) (k:Int):GI sz G (s.enter k):=h.of rfl rfl h.vg h.lg h.og h.dg rfl rfl rfl rfl
theorem Zap {sz:D->Prop} {G:D->L->Prop} {s:NS D L} (h:GI sz G s) {k:Int} (hk:k≠3) {d:D} (hd:sz d) (st:Int):GI sz G (s.cast k d st):=
 Zbt (Zke h (λq=>absurd q hk) (λ_=>⟨rfl,rfl,hd⟩)) st
theorem Zpl {sz:D->Prop} {G:D->L->Prop} {s s':NS D L} (hi:Z0x sz s) (h:GI sz G s) {k:Nat} (he:s.rule k=some s'):GI sz G s':=by
 have hds:∀v:Val D L,G v.dig v.list->GI sz G {s with decs:=Z18 s.height v s.decs}:=λv hv=>h.of rfl rfl h.vg h.lg h.og (λp hp=>by
  rcases Z2o hp with rfl | hp
  ·exact hv
  exact h.dg p hp) rfl rfl rfl rfl
 have hcl:∀(l:List Int) (m:Msg D L),Z0v s l=some m->G m.dig m.list:=by
  intro l;induction l with
  | nil=>intro m hm;cases hm
  | cons a l ih=>
   intro m hm;unfold Z0v at hm;split at hm
   ·rename_i x hx
    split at hm
    ·cases hm;exact h.cg _ (Z0r hx)
    exact ih m hm
   exact ih m hm
 unfold NS.rule at he;split at he
 ·unfold NS.rDecide at he;split at he
  ·rename_i m hm;cases he;exact hds _ (hcl _ _ hm)
  split at he
  ·rename_i v hv
   cases he;obtain ⟨k,_,hk,_⟩:=Z0i hv;obtain ⟨_,_,_,q⟩:=Z1h hi hk;exact hds v (Zfo h q)
  cases he
 ·unfold NS.rSpread at he;obtain ⟨k,hk,hf,_⟩:=Z0i he;simp only at hf;split at hf
  ·cases hf;exact Zke h (λq=>absurd q (by show (6:Int)≠3;omega)) (λ_=>⟨rfl,rfl,Zbq hi _ _⟩)
  cases hf
 ·unfold NS.rValidate at he;obtain ⟨k,hk,hf,_⟩:=Z0i he;rcases hc:s.chosenList 6 (s.round - k) with _ | v
  ·rw [hc] at hf;cases hf
  rw [hc] at hf;cases hf;obtain ⟨_,_,_,q⟩:=Z1h hi hc;exact h.of rfl rfl (λx hx=>by cases hx;exact Zfo h q) h.lg h.og h.dg rfl rfl rfl rfl
 ·unfold NS.rFollow at he;obtain ⟨k,hk,hf,_⟩:=Z0i he;split at hf
  ·cases hf;have h1:GI sz G ({s with round:=99 - k}:NS D L):=h.of rfl rfl h.vg h.lg h.og h.dg rfl rfl rfl rfl;exact Zap h1 (by omega) hi.nil 4
  cases hf
 ·unfold NS.rPropose at he;split at he
  ·cases he
  rename_i v hv
  split at he
  ·cases he
  rename_i q
  simp only [not_or,Decidable.not_not,Bool.not_eq_false] at q;cases he;have hr:=hi.num.r0;refine Zke h (λ_=>?_) (λq=>absurd rfl q);have hz:G v.dig v.list∧-1<=v.round∧v.round<s.round:=by
   unfold NS.toPropose at hv;split at hv
   ·rename_i u hu
    split at hv
    ·cases hv;have:=hi.num.vr v hu;exact ⟨h.vg v hu,by omega,by omega⟩
    have:=hi.box.oz v hv;exact ⟨h.og v hv,by omega,by omega⟩
   have:=hi.box.oz v hv;exact ⟨h.og v hv,by omega,by omega⟩
  exact ⟨hz.1,hz.2.1,hz.2.2,q.2.1⟩
 ·unfold NS.rPrevote at he;split at he
  ·cases he
  rename_i p hp
  have hz:=(hi.box.pr _ (Z0r hp)).2.2.2.2;split at he
  ·cases he
  split at he
  ·cases he
  cases he;refine Zap h (by omega) ?_ 2;split
  ·split
   ·exact hi.nil
   exact hz
  exact hz
 ·unfold NS.rMiss at he;split at he
  ·cases he
  cases he;exact Zap h (by omega) hi.nil 2
 ·unfold NS.rKey at he;split at he
  ·cases he
  rename_i d hd
  split at he
  ·cases he
  have hS:=Zke h (m:=vote 6 s.round d) (λq=>absurd q (by show (6:Int)≠3;omega)) (λ_=>⟨rfl,rfl,(Z6r hi hd).1⟩);simp only at he;cases he;split
  ·exact Zbt hS 3
  exact hS
 ·unfold NS.rWait at he;split at he
  ·cases he
  split at he
  ·cases he;exact Zbt h 3
  split at he
  ·cases he;exact Zap h (by omega) hi.nil 4
  cases he
 ·unfold NS.rSeal at he;split at he
  ·cases he
  rename_i v hv
  split at he
  ·cases he
  cases he;obtain ⟨z1,_,_,q⟩:=Z1h hi hv;have h1:GI sz G ({s with lock:=some v}:NS D L):=h.of rfl rfl h.vg (λx hx=>by cases hx;exact Zfo h q) h.og h.dg rfl rfl rfl rfl;exact Zap h1 (by omega) z1 4
 ·unfold NS.rLeave at he;split at he
  ·cases he
  cases he;exact Zap h (by omega) hi.nil 4
 ·unfold NS.rNext at he;split at he
  ·cases he
  cases he;exact Zbt (s:={s with round:=s.round+1}) (h.of rfl rfl h.vg h.lg h.og h.dg rfl rfl rfl rfl) 1
 cases he
theorem Zq4 {sz:D->Prop} {G:D->L->Prop}:∀(k:Nat) {s:NS D L},Z0x sz s->GI sz G s->GI sz G (NS.runS k s)
 | 0,s,_,h=>h
 | k+1,s,hi,h=>by
  unfold NS.runS;split
  ·exact h
  split
  ·exact h
  rename_i s' he
  obtain ⟨j,_,hj,_⟩:=Z0i he;exact Zq4 k (Z5a hi he).1 (Zpl hi h hj)
theorem Zkf {sz:D->Prop} {G:D->L->Prop} {s:NS D L} (hi:Z0x sz s) (h:GI sz G s):GI sz G s.tick.1:=by
 have h1:GI sz G ({s with ques:=[]}:NS D L):=h.of rfl rfl h.vg h.lg h.og h.dg rfl rfl rfl rfl;unfold NS.tick;simp only;split
 ·exact h1
 exact Zq4 _ (Z35 (Z2l hi)) (h1.of rfl rfl h1.vg h1.lg h1.og h1.dg rfl rfl rfl rfl)
theorem Zt9 (sz:D->Prop) (G:D->L->Prop) (id n:Int):GI sz G (Z42 id n:NS D L):=
 ⟨λp hp=>Z21 hp,λp hp=>Z21 hp,λv hv=>Z1x hv,λv hv=>Z1x hv,λv hv=>Z1x hv,λp hp=>Z21 hp,λm hm=>Z21 hm⟩
theorem Zkg {sz:D->Prop} {G:D->L->Prop} {s:NS D L} (h:GI sz G s) (k r:Int):GI sz G (s.moved k r):=
 ⟨λp hp=>Z21 hp,λp hp=>Z21 hp,λv hv=>Z1x hv,λv hv=>Z1x hv,λv hv=>Z1x hv,h.dg,λm hm=>Z21 hm⟩
theorem Zq5 {sz:D->Prop} {G:D->L->Prop} {s:NS D L} (h:GI sz G s) (k:Int) (ok:Bool) {d:D} {l:L} (hd:ok=true->G d l):GI sz G (s.begin k ok d l).1:=by
 unfold NS.begin;split
 ·exact h
 rename_i hok
 have hd:=hd (by simpa using hok);split
 ·exact h.of rfl rfl h.vg h.lg (λv hv=>by cases hv;exact hd) h.dg rfl rfl rfl rfl
 split
 ·have h1:=Zkg h k 0;exact h1.of rfl rfl h1.vg h1.lg (λv hv=>by cases hv;exact hd) h1.dg rfl rfl rfl rfl
 exact h
theorem Znj {sz:D->Prop} {G:D->L->Prop} {s:NS D L} (h:GI sz G s) (d:D):GI sz G (s.accept d):=h.of rfl rfl h.vg h.lg h.og h.dg rfl rfl rfl rfl
theorem Zq6 {sz:D->Prop} {G:D->L->Prop} {s:NS D L} (h:GI sz G s) (k:Int) (ok:Bool) {d:D} {l:L} (hd:ok=true->G d l):GI sz G (s.learn k ok d l).1:=by
 unfold NS.learn;split
 ·exact h
 rename_i q
 simp only [not_or,Bool.not_eq_false] at q;have key:GI sz G {s with decs:=Z18 k ⟨-1,d,l⟩ s.decs}:=h.of rfl rfl h.vg h.lg h.og (λp hp=>by
  rcases Z2o hp with rfl | hp
  ·exact hd q.1
  exact h.dg p hp) rfl rfl rfl rfl
 split
 ·split
  ·exact h
  exact key
 exact key
theorem Zkh {sz:D->Prop} {G:D->L->Prop} {s:NS D L} (h:GI sz G s) {m:Msg D L} {ok:Bool} (hm:ok=true->m.kind=3->G m.dig m.list):GI sz G (s.receive m ok):=by
 unfold NS.receive;split
 ·exact h
 rename_i q
 simp only [not_or,Bool.not_eq_false] at q;split
 ·exact h
 split
 ·obtain ⟨a,b,e⟩:=Z5b s m;rw [e];exact h.of rfl rfl h.vg h.lg h.og h.dg rfl rfl rfl rfl
 split
 ·exact h
 split
 ·obtain ⟨hb,e1,e2,e3,e4,e5,e6⟩:=Z1g s m;exact h.of e6 hb.claims (by rw [hb.valid];exact h.vg) (by rw [hb.lock];exact h.lg) (by rw [hb.own];exact h.og) (by rw [hb.decs];exact h.dg) e4 hb.id hb.height hb.n
 rename_i hk
 have hG:=hm q.1 (by simpa using hk);have own:∀s':NS D L,s'.mine=s.mine->s'.id=s.id->s'.height=s.height->s'.n=s.n->∀x∈s'.mine,OwnM sz G s' x:=λs' a b c d x hx=>by
  have:=h.mg x (a ▸ hx);exact ⟨by rw [b];exact this.frm,by rw [c];exact this.height,by unfold NS.proposer;rw [b,c,d];exact this.prop,this.vote⟩
 split
 ·exact ⟨λp hp=>by
   rcases Z43 hp with rfl | hp
   ·exact hG
   exact h.pg p hp,h.cg,h.vg,h.lg,h.og,h.dg,own _ rfl rfl rfl rfl⟩
 split
 ·exact h
 exact ⟨h.pg,λp hp=>by
  rcases Z2o hp with rfl | hp
  ·exact hG
  exact h.cg p hp,h.vg,h.lg,h.og,h.dg,own _ rfl rfl rfl rfl⟩
structure Zsp (s:NS D L):Prop where
 p:∀a∈s.props,∀b∈s.props,a.2.dig=b.2.dig->a.2.list=b.2.list
 c:∀a∈s.claims,∀b∈s.claims,a.2.dig=b.2.dig->a.2.list=b.2.list
theorem GI.coh {sz:D->Prop} {G:D->L->Prop} (hG:∀d l l',G d l->G d l'->l=l') {s:NS D L} (h:GI sz G s):Zsp s:=
 ⟨λa ha b hb e=>hG _ _ _ (h.pg a ha) (e ▸ h.pg b hb),λa ha b hb e=>hG _ _ _ (h.cg a ha) (e ▸ h.cg b hb)⟩
inductive Reaches:NS D L->NS D L->Prop
 | here (s:NS D L):Reaches s s
 | step {s t u:NS D L}:s.isDec s.height=false->s.stepS=some t->Reaches t u->Reaches s u
end
section
section
variable {D L E M:Type} [Dg D] [Inhabited L] [Dg E] [Inhabited M]
structure Ren (f:D->E) (g:L->M):Prop where
 inj:∀a b,f a=f b->a=b
 nil:f Dg.nil=Dg.nil
 lt:∀a b,Dg.lt (f a) (f b)=Dg.lt a b
 def_:g default=default
def Msg.ren (f:D->E) (g:L->M) (m:Msg D L):Msg E M:=⟨m.kind,m.frm,m.to,m.height,m.round,m.valid,f m.dig,g m.list⟩
def Val.ren (f:D->E) (g:L->M) (v:Val D L):Val E M:=⟨v.round,f v.dig,g v.list⟩
def Zaq {κ β γ:Type} (h:β->γ) (l:List (κ×β)):List (κ×γ):=l.map λp=>(p.1,h p.2)
def NS.ren (f:D->E) (g:L->M) (s:NS D L):NS E M:=
 {height:=s.height,round:=s.round,step:=s.step,clock:=s.clock,ticks:=s.ticks,lock:=s.lock.map (Val.ren f g),valid:=s.valid.map (Val.ren f g),own:=s.own.map (Val.ren f g),acc:=s.acc.map f,props:=Zaq (Msg.ren f g) s.props,claims:=Zaq (Msg.ren f g) s.claims,order:=s.order,votes:=Zaq f s.votes,stand:=s.stand,mine:=s.mine.map (Msg.ren f g),made:=s.made,id:=s.id,n:=s.n,decs:=Zaq (Val.ren f g) s.decs,ques:=s.ques,inf:=s.inf}
section
variable {κ β γ:Type} [DecidableEq κ]
theorem Z25 (h:β->γ) (k:κ):∀l:List (κ×β),Z02 k (Zaq h l)=(Z02 k l).map h
 | []=>rfl
 | p :: l=>by
  show (if p.1=k then some (h p.2) else Z02 k (Zaq h l))=(if p.1=k then some p.2 else Z02 k l).map h;split
  ·rfl
  exact Z25 h k l
theorem Z6s (h:β->γ) (k:κ) (v:β):∀l:List (κ×β),Zaq h (Z18 k v l)=Z18 k (h v) (Zaq h l)
 | []=>rfl
 | p :: l=>by
  show Zaq h (if p.1=k then (k,v) :: l else p :: Z18 k v l)=(if p.1=k then (k,h v) :: Zaq h l else (p.1,h p.2) :: Z18 k (h v) (Zaq h l));split
  ·rfl
  rw [<-Z6s h k v l];rfl
end
theorem Z36 {α β:Type} {f:Nat->Option α} {h:α->β} {f2:Nat->Option β} (e:∀i,f2 i=(f i).map h):∀n,Z1m f2 n=(Z1m f n).map h
 | 0=>rfl
 | n+1=>by
  unfold Z1m;rw [Z36 e n];rcases Z1m f n with _ | a
  ·exact e n
  rfl
variable {f:D->E} {g:L->M}
theorem Zfp (r:Ren f g) {d:D} {l:List D}:f d∈l.map f↔d∈l:=by
 rw [List.mem_map];constructor
 ·rintro ⟨a,h,e⟩;exact r.inj _ _ e ▸ h
 intro h;exact ⟨d,h,rfl⟩
theorem Znk (r:Ren f g) (d:D) (l:List D):(Z2j d l).map f=Z2j (f d) (l.map f):=by
 unfold Z2j;by_cases h:d∈l
 ·rw [if_pos h,if_pos ((Zfp r).2 h)]
 rw [if_neg h,if_neg (λq=>h ((Zfp r).1 q))];simp
theorem Zdk (l:List (Int×Msg D L)) (k:Int) (m:Msg D L):Zaq (Msg.ren f g) (Z3u l k m)=Z3u (Zaq (Msg.ren f g) l) k (m.ren f g):=by
 unfold Z3u;rw [Z25];rcases Z02 k l with _ | x
 ·exact Z6s _ _ _ _
 rfl
theorem Z8y (s:NS D L) (m:Msg D L):(s.putVote m).ren f g=(s.ren f g).putVote (m.ren f g):=by
 unfold NS.putVote;have:Z02 ((m.ren f g).frm,(m.ren f g).kind,(m.ren f g).height,(m.ren f g).round) (s.ren f g).votes=(Z02 (m.frm,m.kind,m.height,m.round) s.votes).map f:=Z25 f _ _;rw [this];rcases Z02 (m.frm,m.kind,m.height,m.round) s.votes with _ | x
 ·simp only [Option.map_none,NS.ren,Msg.ren,Z6s];rfl
 rfl
theorem Zbu (s:NS D L) (m:Msg D L):(s.say m).ren f g=(s.ren f g).say (m.ren f g):=by
 unfold NS.say;simp only;by_cases h:m.kind=3
 ·rw [if_pos h,if_pos (show (m.ren f g).kind=3 from h)];simp only [NS.ren,Msg.ren,Zdk,List.map_append,List.map_cons,List.map_nil]
 rw [if_neg h,if_neg (show ¬(m.ren f g).kind=3 from h),Z8y];simp only [NS.ren,Msg.ren,List.map_append,List.map_cons,List.map_nil]
theorem Zbv (r:Ren f g) (k rd:Int) (d:D):(vote k rd d:Msg D L).ren f g=vote k rd (f d):=by
 unfold vote Msg.ren;simp only;rw [r.def_]
theorem Zki (s:NS D L) (k:Int):(s.enter k).ren f g=(s.ren f g).enter k:=rfl
theorem Z5e (r:Ren f g) (s:NS D L) (k:Int) (d:D) (st:Int):(s.cast k d st).ren f g=(s.ren f g).cast k (f d) st:=by
 unfold NS.cast;rw [Zki,Zbu,Zbv r];rfl
theorem Zar (n:Nat) (votes:List (Bal×D)) (k h rd:Int):Z0y n (Zaq f votes) k h rd=(Z0y n votes k h rd).map f:=by
 unfold Z0y;rw [List.map_filterMap];congr 1
 funext i
 rw [Z25]
theorem Zdl (r:Ren f g) (d:D) (l:List D):(l.map f).count (f d)=l.count d:=by
 induction l with
 | nil=>rfl
 | cons a t ih=>
  rw [List.map_cons,List.count_cons,List.count_cons,ih];by_cases h:a=d
  ·subst h;simp
  have:f a≠f d:=λq=>h (r.inj _ _ q);simp [h,this]
theorem Zkj (r:Ren f g) (l:List D):Z5x (l.map f)=(f (Z5x l).1,(Z5x l).2):=by
 unfold Z5x;rw [List.foldl_map];have:∀(t:List D) (b:D×Int),t.foldl (λ(b:E×Int) (d:D)=>if b.2<((l.map f).count (f d):Int)∨(((l.map f).count (f d):Int)=b.2∧Dg.lt (f d) b.1=true) then (f d,((l.map f).count (f d):Int)) else b) (f b.1,b.2) =
   (f (t.foldl (λb d=>if b.2<(l.count d:Int)∨((l.count d:Int)=b.2∧Dg.lt d b.1=true) then (d,(l.count d:Int)) else b) b).1,(t.foldl (λb d=>if b.2<(l.count d:Int)∨((l.count d:Int)=b.2∧Dg.lt d b.1=true) then (d,(l.count d:Int)) else b) b).2):=by
  intro t;induction t with
  | nil=>intro b;rfl
  | cons x t ih=>
   intro b;rw [List.foldl_cons,List.foldl_cons,<-ih];congr 1
   simp only [Zdl r,r.lt];split <;> rfl
 rw [<-this l (Dg.nil,0)];simp only [r.nil]
theorem Zha (r:Ren f g) (s:NS D L) (k rd:Int):(s.ren f g).most k rd=(f (s.most k rd).1,(s.most k rd).2):=by
 unfold NS.most;rw [<-Zkj r,<-Zar];rfl
theorem Zas (r:Ren f g) (s:NS D L) (k rd:Int) (d:D):(s.ren f g).count k rd (f d)=s.count k rd d:=by
 unfold NS.count;rw [<-Zdl r,<-Zar];rfl
theorem Zat (r:Ren f g) (s:NS D L) (k rd:Int):(s.ren f g).chosen k rd=(s.chosen k rd).map f:=by
 unfold NS.chosen;simp only [Zha r];by_cases h:(s.most k rd).1≠Dg.nil∧Z0s s.n<=(s.most k rd).2
 ·rw [if_pos h,if_pos]
  ·rfl
  exact ⟨λq=>h.1 (r.inj _ _ (by rw [q,r.nil])),h.2⟩
 rw [if_neg h,if_neg]
 ·rfl
 rintro ⟨h1,h2⟩;exact h ⟨λq=>h1 (by rw [q,r.nil]),h2⟩
theorem Z7o (r:Ren f g) (d:D):∀l:List (Int×Msg D L),Z13 (f d) (Zaq (Msg.ren f g) l)=(Z13 d l).map g
 | []=>rfl
 | p :: l=>by
  show (if f p.2.dig=f d then some (g p.2.list) else Z13 (f d) (Zaq (Msg.ren f g) l))=(if p.2.dig=d then some p.2.list else Z13 d l).map g;by_cases h:p.2.dig=d
  ·rw [if_pos h,if_pos (by rw [h])];rfl
  rw [if_neg h,if_neg (λq=>h (r.inj _ _ q))];exact Z7o r d l
theorem Zkk (r:Ren f g) (s:NS D L) (d:D):(s.ren f g).known (f d)=(s.known d).map g:=by
 unfold NS.known;have h1:Z13 (f d) (s.ren f g).props=(Z13 d s.props).map g:=Z7o r d _;have h2:Z13 (f d) (s.ren f g).claims=(Z13 d s.claims).map g:=Z7o r d _;have h3:(s.ren f g).lock=s.lock.map (Val.ren f g):=rfl;rw [h1,h2,h3];rcases Z13 d s.props with _ | a
 ·rcases Z13 d s.claims with _ | b
  ·rcases s.lock with _ | v
   ·rfl
   simp only [Option.map_none,Option.map_some,Val.ren];by_cases h:v.dig=d
   ·rw [if_pos h,if_pos (by rw [h])];rfl
   rw [if_neg h,if_neg (λq=>h (r.inj _ _ q))];rfl
  rfl
 rfl
theorem Z3w (r:Ren f g) (s:NS D L) (k rd:Int):(s.ren f g).chosenList k rd=(s.chosenList k rd).map (Val.ren f g):=by
 unfold NS.chosenList;rw [Zat r];rcases s.chosen k rd with _ | d
 ·rfl
 simp only [Option.map_some,Zkk r];rcases s.known d with _ | l <;> rfl
theorem Zij (r:Ren f g) (d:D) (l:List (Int×Msg D L)):Z19 (f d) (Zaq (Msg.ren f g) l)=Z19 d l:=by
 unfold Z19 Zaq;rw [List.filter_map,List.length_map];congr 2
 refine List.filter_congr λx hx=>?_;simp only [Function.comp,Msg.ren];by_cases h:x.2.dig=d
 ·simp [h]
 have:f x.2.dig≠f d:=λq=>h (r.inj _ _ q);simp [h,this]
theorem Z8z (r:Ren f g) (s:NS D L):∀l:List Int,Z0v (s.ren f g) l=(Z0v s l).map (Msg.ren f g)
 | []=>rfl
 | x :: l=>by
  have h1:Z02 x (s.ren f g).claims=(Z02 x s.claims).map (Msg.ren f g):=Z25 _ _ _;have h2:∀m:Msg D L,Z19 (m.ren f g).dig (s.ren f g).claims=Z19 m.dig s.claims:=λm=>Zij r m.dig s.claims;have h3:(s.ren f g).n=s.n:=rfl;have ih:=Z8z r s l;unfold Z0v;rw [h1];rcases Z02 x s.claims with _ | m
  ·exact ih
  simp only [Option.map_some,h2,h3];split
  ·rfl
  exact ih
theorem Znl (r:Ren f g) (s:NS D L) (k:Nat):(s.ren f g).rule k=(s.rule k).map (NS.ren f g):=by
 have hn:(s.ren f g).n=s.n:=rfl;have hr:(s.ren f g).round=s.round:=rfl;have hs:(s.ren f g).step=s.step:=rfl;have hm:(s.ren f g).made=s.made:=rfl;have hl:(s.ren f g).late=s.late:=rfl;have hdec:∀v:Val D L,({s with decs:=Z18 s.height v s.decs}:NS D L).ren f g = {s.ren f g with decs:=Z18 s.height (v.ren f g) (s.ren f g).decs}:=λv=>by
  simp only [NS.ren,Z6s]
 unfold NS.rule;split
 ·unfold NS.rDecide;have ho:(s.ren f g).order=s.order:=rfl;rw [ho,Z8z r,Z36 (f:=λ(i:Nat)=>s.chosenList 5 i) (h:=Val.ren f g) (λi=>Z3w r s 5 i)];rcases Z0v s s.order with _ | m
  ·rcases Z1m (λ(i:Nat)=>s.chosenList 5 i) 100 with _ | v
   ·rfl
   simp only [Option.map_none,Option.map_some,hdec];rfl
  simp only [Option.map_some,hdec];rfl
 ·unfold NS.rSpread;rw [hr];refine Z36 (λi=>?_) _;simp only [Zha r,hm,hn];by_cases h:((6:Int),(i:Int))∉s.made∧(s.most 6 i).1≠Dg.nil∧Z03 s.n<(s.most 6 i).2
  ·rw [if_pos h,if_pos ⟨h.1,λq=>h.2.1 (r.inj _ _ (by rw [q,r.nil])),h.2.2⟩];simp only [Option.map_some,Zbu,Zbv r]
  rw [if_neg h,if_neg (λq=>h ⟨q.1,λe=>q.2.1 (by rw [e,r.nil]),q.2.2⟩)];rfl
 ·unfold NS.rValidate;have hle:(s.ren f g).least=s.least:=by unfold NS.least;show (match s.valid.map (Val.ren f g) with | some v=>v.round | none=>-1)=_;rcases s.valid with _ | v <;> rfl
  rw [hr,hle];refine Z36 (λi=>?_) _;rw [Z3w r];rcases s.chosenList 6 (s.round - i) with _ | v <;> rfl
 ·unfold NS.rFollow;rw [hr];refine Z36 (λi=>?_) _;have hp:∀q,(s.ren f g).passed q=s.passed q:=λq=>rfl;simp only [hp,hn];split
  ·simp only [Option.map_some,Z5e r,r.nil];rfl
  rfl
 ·unfold NS.rPropose;have ht:(s.ren f g).toPropose=s.toPropose.map (Val.ren f g):=by
   unfold NS.toPropose;have hv:(s.ren f g).valid=s.valid.map (Val.ren f g):=rfl;rw [hv];rcases s.valid with _ | v
   ·rfl
   simp only [Option.map_some,hr];show (if v.round<s.round then some (v.ren f g) else s.own.map (Val.ren f g))=_;split <;> rfl
  have hp:∀a b c,(s.ren f g).proposer a b c=s.proposer a b c:=λ_ _ _=>rfl;have hi:(s.ren f g).id=s.id:=rfl;have hh:(s.ren f g).height=s.height:=rfl;rw [ht];rcases s.toPropose with _ | v
  ·rfl
  simp only [Option.map_some,hr,hs,hm,hp,hi,hh];split
  ·rfl
  simp only [Option.map_some,Zbu];rfl
 ·unfold NS.rPrevote;have hp:Z02 s.round (s.ren f g).props=(Z02 s.round s.props).map (Msg.ren f g):=Z25 _ _ _;rw [hr,hp];rcases Z02 s.round s.props with _ | p
  ·rfl
  have ha:(p.ren f g).dig∉(s.ren f g).acc↔p.dig∉s.acc:=not_congr (Zfp r);have hc:(s.ren f g).count 6 p.valid (p.ren f g).dig=s.count 6 p.valid p.dig:=Zas r s 6 p.valid p.dig;have hv:(p.ren f g).valid=p.valid:=rfl;have hlk:(s.ren f g).lock=s.lock.map (Val.ren f g):=rfl;simp only [Option.map_some,ha,hc,hs,hn,hv,hlk];by_cases q1:s.step≠1∨p.dig∉s.acc
  ·rw [if_pos q1,if_pos q1];rfl
  rw [if_neg q1,if_neg q1];by_cases q2:0<=p.valid∧s.count 6 p.valid p.dig<=Z03 s.n
  ·rw [if_pos q2,if_pos q2];rfl
  rw [if_neg q2,if_neg q2];simp only [Option.map_some,Z5e r];congr 2
  rcases s.lock with _ | v
  ·rfl
  simp only [Option.map_some,Val.ren];by_cases h:v.dig≠p.dig∧p.valid<v.round
  ·rw [if_pos h,if_pos ⟨λq=>h.1 (r.inj _ _ q),h.2⟩,r.nil]
  rw [if_neg h,if_neg (λq=>h ⟨λe=>q.1 (by rw [e];rfl),q.2⟩)];rfl
 ·unfold NS.rMiss;rw [hs,hl];split
  ·rfl
  simp only [Option.map_some,Z5e r,r.nil]
 ·unfold NS.rKey;rw [hr,Zat r];rcases s.chosen 4 s.round with _ | d
  ·rfl
  simp only [Option.map_some,hs,hm];split
  ·rfl
  have e1:(s.ren f g).say (vote 6 s.round (f d))=(s.say (vote 6 s.round d)).ren f g:=by rw [Zbu,Zbv r]
  rw [e1];show some (if (s.say (vote 6 s.round d)).step=2 then _ else _)=_;simp only [Option.map_some];split <;> rfl
 ·unfold NS.rWait;have hc:(s.ren f g).count 4 s.round Dg.nil=s.count 4 s.round Dg.nil:=by rw [<-r.nil];exact Zas r s 4 s.round Dg.nil
  rw [hs,hm,hr,hl,hc,hn];split
  ·rfl
  split
  ·rfl
  split
  ·simp only [Option.map_some,Z5e r,r.nil]
  rfl
 ·unfold NS.rSeal;rw [hr,Z3w r];rcases s.chosenList 6 s.round with _ | v
  ·rfl
  simp only [Option.map_some,hs];split
  ·rfl
  simp only [Option.map_some,Z5e r];rfl
 ·unfold NS.rLeave;rw [hs,hl];split
  ·rfl
  simp only [Option.map_some,Z5e r,r.nil]
 ·unfold NS.rNext;rw [hs,hl,hr];split
  ·rfl
  rfl
 rfl
theorem Zkl (r:Ren f g) (s:NS D L):(s.ren f g).stepS=s.stepS.map (NS.ren f g):=Z36 (Znl r s) 12
theorem Z6t (s:NS D L) (h:Int):(s.ren f g).isDec h=s.isDec h:=by
 unfold NS.isDec;have:Z02 h (s.ren f g).decs=(Z02 h s.decs).map (Val.ren f g):=Z25 _ _ _;rw [this];rcases Z02 h s.decs with _ | v <;> rfl
theorem Zkm (r:Ren f g):∀(k:Nat) (s:NS D L),NS.runS k (s.ren f g)=(NS.runS k s).ren f g
 | 0,s=>rfl
 | k+1,s=>by
  unfold NS.runS;have:(s.ren f g).isDec (s.ren f g).height=s.isDec s.height:=Z6t s s.height;rw [this];split
  ·rfl
  rw [Zkl r];rcases s.stepS with _ | t
  ·rfl
  exact Zkm r k t
theorem Zkn (r:Ren f g) (s:NS D L):(s.ren f g).apply=s.apply.ren f g:=by
 unfold NS.apply;have:(s.ren f g).mu=s.mu:=by
  unfold NS.mu NS.least;show _+(100 - (match s.valid.map (Val.ren f g) with | some v=>v.round | none=>-1)).toNat=_;rcases s.valid with _ | v <;> rfl
 rw [this];exact Zkm r _ s
theorem Zko (s:NS D L) (ms:List (Msg D L)):(s.ren f g).sends (ms.map (Msg.ren f g))=(s.sends ms).map (Msg.ren f g):=by
 unfold NS.sends;rw [List.flatMap_map,List.map_flatMap];congr 1
 funext m
 rw [List.map_filterMap];congr 1
 funext i
 show (if (i:Int)≠s.id then _ else _)=_;split <;> rfl
theorem Zau (r:Ren f g) (s:NS D L) (h:Int):(s.ren f g).decDig h=f (s.decDig h):=by
 unfold NS.decDig;have:Z02 h (s.ren f g).decs=(Z02 h s.decs).map (Val.ren f g):=Z25 _ _ _;rw [this];rcases Z02 h s.decs with _ | v
 ·exact r.nil.symm
 rfl
theorem Zfq (r:Ren f g) (s:NS D L) (h:Int):(s.ren f g).decList h=g (s.decList h):=by
 unfold NS.decList;have:Z02 h (s.ren f g).decs=(Z02 h s.decs).map (Val.ren f g):=Z25 _ _ _;rw [this];rcases Z02 h s.decs with _ | v
 ·exact r.def_.symm
 rfl
theorem Zfr (r:Ren f g) (s:NS D L):(s.ren f g).answers=s.answers.map (Msg.ren f g):=by
 unfold NS.answers;rw [List.map_flatMap];have hq:(s.ren f g).ques=s.ques:=rfl;rw [hq];congr 1
 funext x
 rcases Z02 x s.ques with _ | q
 ·rfl
 unfold NS.answer;have hc:(s.ren f g).claimRound q.1 q.2=s.claimRound q.1 q.2:=rfl;have hi:(s.ren f g).id=s.id:=rfl;simp only [Zau r,Zfq r,hc,hi,List.map_append,List.map_cons,List.map_nil,List.map_map];congr 1
 ·congr 1
  ·simp [Msg.ren,r.def_]
  refine List.map_congr_left λi _=>?_;simp [Function.comp,Msg.ren,r.def_]
 simp [Msg.ren,r.def_]
theorem Znm (r:Ren f g) (s:NS D L):(s.ren f g).tick=(s.tick.1.ren f g,s.tick.2.map (Msg.ren f g)):=by
 unfold NS.tick;have ha:=Zfr r s;have e0:({s.ren f g with ques:=[]}:NS E M)=({s with ques:=[]}:NS D L).ren f g:=rfl;simp only [e0,ha];obtain ⟨s0,h0⟩:∃s0:NS D L,{s with ques:=[]}=s0:=⟨_,rfl⟩;rw [h0];have hh:(s0.ren f g).isDec (s.ren f g).height=s0.isDec s.height:=Z6t s0 s.height;have h1:(s0.ren f g).ticked=s0.ticked.ren f g:=rfl;simp only [hh,h1,Zkn r];by_cases q1:s0.isDec s.height=true
 ·rw [if_pos q1,if_pos q1]
 rw [if_neg q1,if_neg q1];have h2:(s0.ticked.apply.ren f g).ticks=s0.ticked.apply.ticks:=rfl;have h3:(s0.ticked.apply.ren f g).mine=s0.ticked.apply.mine.map (Msg.ren f g):=rfl;have h4:(s0.ticked.ren f g).mine.length=s0.ticked.mine.length:=by show (s0.ticked.mine.map _).length=_;simp
 simp only [h2,h3,h4,<-List.map_drop,Zko,List.map_append]
theorem Zq7 (r:Ren f g) (s:NS D L) (m:Msg D L):(s.ren f g).ask (m.ren f g)=(s.ask m).ren f g:=by
 unfold NS.ask;have h1:(m.ren f g).dig=(s.ren f g).decDig m.height↔m.dig=s.decDig m.height:=by
  rw [Zau r];exact ⟨λh=>r.inj _ _ h,λh=>by rw [<-h];rfl⟩
 have h2:∀a b c,(s.ren f g).proposer a b c=s.proposer a b c:=λ_ _ _=>rfl;have h3:(s.ren f g).ques=s.ques:=rfl;have h4:(s.ren f g).inf=s.inf:=rfl;have h5:(m.ren f g).frm=m.frm:=rfl;have h6:(m.ren f g).height=m.height:=rfl;have h7:(m.ren f g).kind=m.kind:=rfl;have h8:(m.ren f g).round=m.round:=rfl;simp only [h6] at h1 ⊢;simp only [h1,h2,h3,h4,h5,h7,h8];by_cases q1:m.kind=3∧s.proposer m.frm m.height m.round=false∧m.dig=s.decDig m.height
 ·rw [if_pos q1,if_pos q1];rfl
 rw [if_neg q1,if_neg q1];by_cases q2:(m.height,m.frm)∈s.inf
 ·rw [if_pos q2,if_pos q2]
 rw [if_neg q2,if_neg q2];rcases Z02 m.frm s.ques with _ | q
 ·rfl
 simp only;split <;> rfl
theorem Zfs (r:Ren f g) (s:NS D L) (m:Msg D L) (ok:Bool):(s.ren f g).receive (m.ren f g) ok=(s.receive m ok).ren f g:=by
 unfold NS.receive;have h1:(s.ren f g).isDec (m.ren f g).height=s.isDec m.height:=Z6t s m.height;have h2:(s.ren f g).proposer (m.ren f g).frm (m.ren f g).height (m.ren f g).round=s.proposer m.frm m.height m.round:=rfl;have h3:Z02 m.frm (s.ren f g).claims=(Z02 m.frm s.claims).map (Msg.ren f g):=Z25 _ _ _;rw [h1,h2,Zq7 r,<-Z8y];show (if ok=false∨m.to≠s.id∨s.n<=m.frm∨s.height<m.height then _ else if ¬(m.kind=3∨m.kind=4∨m.kind=6∨m.kind=5) then _ else if _ then _ else if m.height<s.height then _ else if m.kind≠3 then _ else if _ then _ else match Z02 m.frm (s.ren f g).claims with | some _=>_ | none=>_)=_;rw [h3];split
 ·rfl
 split
 ·rfl
 split
 ·rfl
 split
 ·rfl
 split
 ·rfl
 split
 ·simp only [NS.ren,Zdk];rfl
 rcases Z02 m.frm s.claims with _ | x
 ·simp only [Option.map_none,NS.ren,Z6s];rfl
 rfl
theorem Zdm (r:Ren f g) (s:NS D L) (k:Int) (ok:Bool) (d:D) (l:L):(s.ren f g).begin k ok (f d) (g l)=((s.begin k ok d l).1.ren f g,(s.begin k ok d l).2):=by
 unfold NS.begin;have h1:∀h,(s.ren f g).isDec h=s.isDec h:=λh=>Z6t s h;have h2:(s.ren f g).height=s.height:=rfl;have h3:(s.ren f g).own.isNone=s.own.isNone:=by show (s.own.map _).isNone=_;rcases s.own with _ | v <;> rfl
 simp only [h1,h2,h3];split
 ·rfl
 split
 ·simp only [NS.ren,Znk r];rfl
 split <;> rfl
end
end
section
variable {D L:Type} [Dg D] [Inhabited L]
end
end Go.Proofs.YtifcdjmcoibblaaGreatDoor
