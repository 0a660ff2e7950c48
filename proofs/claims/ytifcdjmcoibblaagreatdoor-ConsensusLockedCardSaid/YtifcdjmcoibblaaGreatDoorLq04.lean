/- ConG ConN ConQ -/
import Derived.Test.YtifcdjmcoibblaaGreatDoorLq03
set_option linter.unusedVariables false
set_option linter.unusedSimpArgs false
set_option linter.unusedSectionVars false
namespace Go.Proofs.YtifcdjmcoibblaaGreatDoor
section
variable {D L:Type} [Dg D] [Inhabited L]
structure OwnM (sz:D→Prop) (G:D→L→Prop) (s:NS D L) (m:Msg D L):Prop where
 frm:m.frm=s.id
 height:m.height=s.height
 prop:m.kind=3→G m.dig m.list∧-1≤m.valid∧m.valid<m.round∧s.proposer s.id s.height m.round=true
 vote:m.kind≠3→m.valid=0∧m.list=default∧sz m.dig
structure GI (sz:D→Prop) (G:D→L→Prop) (s:NS D L):Prop where
 pg:∀p∈s.props,G p.2.dig p.2.list
 cg:∀p∈s.claims,G p.2.dig p.2.list
 vg:∀v,s.valid=some v→G v.dig v.list
 lg:∀v,s.lock=some v→G v.dig v.list
 og:∀v,s.own=some v→G v.dig v.list
 dg:∀p∈s.decs,G p.2.dig p.2.list
 mg:∀m∈s.mine,OwnM sz G s m
theorem listOf_mem {d:D} {l:L}:∀{x:List (Int×Msg D L)},listOf d x=some l→∃p∈x,p.2.dig=d∧p.2.list=l
 | [],h=>by cases h
 | p :: x,h=>by
  unfold listOf at h;split at h
  ·rename_i e;cases h;exact ⟨p,by simp,e,rfl⟩
  obtain ⟨q,hq,e⟩:=listOf_mem h;exact ⟨q,by simp [hq],e⟩
theorem listOf_none {d:D}:∀{x:List (Int×Msg D L)},listOf d x=none↔∀p∈x,p.2.dig≠d
 | []=>by simp [listOf]
 | p :: x=>by
  unfold listOf;split
  ·rename_i e;simp [e]
  rename_i e
  rw [listOf_none];simp [e]
theorem known_G {sz:D→Prop} {G:D→L→Prop} {s:NS D L} (h:GI sz G s) {d:D} {l:L} (hk:s.known d=some l):G d l:=by
 unfold NS.known at hk;split at hk
 ·rename_i x hx
  cases hk;obtain ⟨p,hp,rfl,rfl⟩:=listOf_mem hx;exact h.pg p hp
 split at hk
 ·rename_i x hx
  cases hk;obtain ⟨p,hp,rfl,rfl⟩:=listOf_mem hx;exact h.cg p hp
 split at hk
 ·rename_i v hv
  split at hk
  ·rename_i e;cases hk;subst e;exact h.lg v hv
  cases hk
 cases hk
theorem GI.of {sz:D→Prop} {G:D→L→Prop} {s s':NS D L} (h:GI sz G s) (h1:s'.props=s.props) (h2:s'.claims=s.claims) (h3:∀v,s'.valid=some v→G v.dig v.list) (h4:∀v,s'.lock=some v→G v.dig v.list) (h5:∀v,s'.own=some v→G v.dig v.list)
  (h6:∀p∈s'.decs,G p.2.dig p.2.list) (h7:s'.mine=s.mine) (h8:s'.id=s.id) (h9:s'.height=s.height) (h10:s'.n=s.n):GI sz G s':=by
 refine ⟨by rw [h1];exact h.pg,by rw [h2];exact h.cg,h3,h4,h5,h6,by
  rw [h7];intro m hm;have:=h.mg m hm;exact ⟨by rw [h8];exact this.frm,by rw [h9];exact this.height,by unfold NS.proposer;rw [h8,h9,h10];exact this.prop,this.vote⟩⟩
theorem say_G {sz:D→Prop} {G:D→L→Prop} {s:NS D L} (h:GI sz G s) {m:Msg D L} (h3:m.kind=3→G m.dig m.list∧-1≤m.valid∧m.valid<m.round∧s.proposer s.id s.height m.round=true) (hv:m.kind≠3→m.valid=0∧m.list=default∧sz m.dig):GI sz G (s.say m):=by
 obtain ⟨hb,e1,e2,e3,e4,e5⟩:=say_same s m;refine ⟨?_,by rw [hb.claims];exact h.cg,by rw [hb.valid];exact h.vg,by rw [hb.lock];exact h.lg,by rw [hb.own];exact h.og,by rw [hb.decs];exact h.dg,?_⟩
 ·unfold NS.say;simp only;split
  ·rename_i q
   intro p hp;rcases mem_keepA hp with rfl | hp
   ·exact (h3 q).1
   exact h.pg p hp
  rw [(putVote_same _ _).2.2.2.2.2.2];exact h.pg
 rw [e4];intro x hx;rcases List.mem_append.1 hx with q | q
 ·have:=h.mg x q;exact ⟨by rw [hb.id];exact this.frm,by rw [hb.height];exact this.height,by unfold NS.proposer;rw [hb.id,hb.height,hb.n];exact this.prop,this.vote⟩
 simp at q;subst q;exact ⟨by rw [hb.id],by rw [hb.height],by unfold NS.proposer;rw [hb.id,hb.height,hb.n];exact h3,hv⟩
theorem enter_G {sz:D→Prop} {G:D→L→Prop} {s:NS D L} (h:GI sz G s) (k:Int):GI sz G (s.enter k):=h.of rfl rfl h.vg h.lg h.og h.dg rfl rfl rfl rfl
theorem cast_G {sz:D→Prop} {G:D→L→Prop} {s:NS D L} (h:GI sz G s) {k:Int} (hk:k≠3) {d:D} (hd:sz d) (st:Int):GI sz G (s.cast k d st):=
 enter_G (say_G h (fun q=>absurd q hk) (fun _=>⟨rfl,rfl,hd⟩)) st
theorem rule_G {sz:D→Prop} {G:D→L→Prop} {s s':NS D L} (hi:InvS sz s) (h:GI sz G s) {k:Nat} (he:s.rule k=some s'):GI sz G s':=by
 have hds:∀v:Val D L,G v.dig v.list→GI sz G {s with decs:=putA s.height v s.decs}:=fun v hv=>h.of rfl rfl h.vg h.lg h.og (fun p hp=>by
  rcases mem_putA hp with rfl | hp
  ·exact hv
  exact h.dg p hp) rfl rfl rfl rfl
 have hcl:∀(l:List Int) (m:Msg D L),claimed s l=some m→G m.dig m.list:=by
  intro l;induction l with
  | nil=>intro m hm;cases hm
  | cons a l ih=>
   intro m hm;unfold claimed at hm;split at hm
   ·rename_i x hx
    split at hm
    ·cases hm;exact h.cg _ (getA_mem hx)
    exact ih m hm
   exact ih m hm
 unfold NS.rule at he;split at he
 ·unfold NS.rDecide at he;split at he
  ·rename_i m hm;cases he;exact hds _ (hcl _ _ hm)
  split at he
  ·rename_i v hv
   cases he;obtain ⟨k,_,hk,_⟩:=firstR_some hv;obtain ⟨_,_,_,q⟩:=chosenList_sz hi hk;exact hds v (known_G h q)
  cases he
 ·unfold NS.rSpread at he;obtain ⟨k,hk,hf,_⟩:=firstR_some he;simp only at hf;split at hf
  ·cases hf;exact say_G h (fun q=>absurd q (by show (6:Int)≠3;omega)) (fun _=>⟨rfl,rfl,most_sz hi _ _⟩)
  cases hf
 ·unfold NS.rValidate at he;obtain ⟨k,hk,hf,_⟩:=firstR_some he;rcases hc:s.chosenList 6 (s.round - k) with _ | v
  ·rw [hc] at hf;cases hf
  rw [hc] at hf;cases hf;obtain ⟨_,_,_,q⟩:=chosenList_sz hi hc;exact h.of rfl rfl (fun x hx=>by cases hx;exact known_G h q) h.lg h.og h.dg rfl rfl rfl rfl
 ·unfold NS.rFollow at he;obtain ⟨k,hk,hf,_⟩:=firstR_some he;split at hf
  ·cases hf;have h1:GI sz G ({s with round:=99 - k}:NS D L):=h.of rfl rfl h.vg h.lg h.og h.dg rfl rfl rfl rfl;exact cast_G h1 (by omega) hi.nil 4
  cases hf
 ·unfold NS.rPropose at he;split at he
  ·cases he
  rename_i v hv
  split at he
  ·cases he
  rename_i q
  simp only [not_or,Decidable.not_not,Bool.not_eq_false] at q;cases he;have hr:=hi.num.r0;refine say_G h (fun _=>?_) (fun q=>absurd rfl q);have hz:G v.dig v.list∧-1≤v.round∧v.round<s.round:=by
   unfold NS.toPropose at hv;split at hv
   ·rename_i u hu
    split at hv
    ·cases hv;have:=hi.num.vr v hu;exact ⟨h.vg v hu,by omega,by omega⟩
    have:=hi.box.oz v hv;exact ⟨h.og v hv,by omega,by omega⟩
   have:=hi.box.oz v hv;exact ⟨h.og v hv,by omega,by omega⟩
  exact ⟨hz.1,hz.2.1,hz.2.2,q.2.1⟩
 ·unfold NS.rPrevote at he;split at he
  ·cases he
  rename_i p hp
  have hz:=(hi.box.pr _ (getA_mem hp)).2.2.2.2;split at he
  ·cases he
  split at he
  ·cases he
  cases he;refine cast_G h (by omega) ?_ 2;split
  ·split
   ·exact hi.nil
   exact hz
  exact hz
 ·unfold NS.rMiss at he;split at he
  ·cases he
  cases he;exact cast_G h (by omega) hi.nil 2
 ·unfold NS.rKey at he;split at he
  ·cases he
  rename_i d hd
  split at he
  ·cases he
  have hS:=say_G h (m:=vote 6 s.round d) (fun q=>absurd q (by show (6:Int)≠3;omega)) (fun _=>⟨rfl,rfl,(chosen_sz hi hd).1⟩);simp only at he;cases he;split
  ·exact enter_G hS 3
  exact hS
 ·unfold NS.rWait at he;split at he
  ·cases he
  split at he
  ·cases he;exact enter_G h 3
  split at he
  ·cases he;exact cast_G h (by omega) hi.nil 4
  cases he
 ·unfold NS.rSeal at he;split at he
  ·cases he
  rename_i v hv
  split at he
  ·cases he
  cases he;obtain ⟨z1,_,_,q⟩:=chosenList_sz hi hv;have h1:GI sz G ({s with lock:=some v}:NS D L):=h.of rfl rfl h.vg (fun x hx=>by cases hx;exact known_G h q) h.og h.dg rfl rfl rfl rfl;exact cast_G h1 (by omega) z1 4
 ·unfold NS.rLeave at he;split at he
  ·cases he
  cases he;exact cast_G h (by omega) hi.nil 4
 ·unfold NS.rNext at he;split at he
  ·cases he
  cases he;exact enter_G (s:={s with round:=s.round+1}) (h.of rfl rfl h.vg h.lg h.og h.dg rfl rfl rfl rfl) 1
 cases he
theorem run_G {sz:D→Prop} {G:D→L→Prop}:∀(k:Nat) {s:NS D L},InvS sz s→GI sz G s→GI sz G (NS.runS k s)
 | 0,s,_,h=>h
 | k+1,s,hi,h=>by
  unfold NS.runS;split
  ·exact h
  split
  ·exact h
  rename_i s' he
  obtain ⟨j,_,hj,_⟩:=firstR_some he;exact run_G k (step_inv hi he).1 (rule_G hi h hj)
theorem tick_G {sz:D→Prop} {G:D→L→Prop} {s:NS D L} (hi:InvS sz s) (h:GI sz G s):GI sz G s.tick.1:=by
 have h1:GI sz G ({s with ques:=[]}:NS D L):=h.of rfl rfl h.vg h.lg h.og h.dg rfl rfl rfl rfl;unfold NS.tick;simp only;split
 ·exact h1
 exact run_G _ (ticked_inv (noques_inv hi)) (h1.of rfl rfl h1.vg h1.lg h1.og h1.dg rfl rfl rfl rfl)
theorem new_G (sz:D→Prop) (G:D→L→Prop) (id n:Int):GI sz G (newS id n:NS D L):=
 ⟨fun p hp=>no_mem hp,fun p hp=>no_mem hp,fun v hv=>no_some hv,fun v hv=>no_some hv,fun v hv=>no_some hv,fun p hp=>no_mem hp,fun m hm=>no_mem hm⟩
theorem moved_G {sz:D→Prop} {G:D→L→Prop} {s:NS D L} (h:GI sz G s) (k r:Int):GI sz G (s.moved k r):=
 ⟨fun p hp=>no_mem hp,fun p hp=>no_mem hp,fun v hv=>no_some hv,fun v hv=>no_some hv,fun v hv=>no_some hv,h.dg,fun m hm=>no_mem hm⟩
theorem begin_G {sz:D→Prop} {G:D→L→Prop} {s:NS D L} (h:GI sz G s) (k:Int) (ok:Bool) {d:D} {l:L} (hd:ok=true→G d l):GI sz G (s.begin k ok d l).1:=by
 unfold NS.begin;split
 ·exact h
 rename_i hok
 have hd:=hd (by simpa using hok);split
 ·exact h.of rfl rfl h.vg h.lg (fun v hv=>by cases hv;exact hd) h.dg rfl rfl rfl rfl
 split
 ·have h1:=moved_G h k 0;exact h1.of rfl rfl h1.vg h1.lg (fun v hv=>by cases hv;exact hd) h1.dg rfl rfl rfl rfl
 exact h
theorem accept_G {sz:D→Prop} {G:D→L→Prop} {s:NS D L} (h:GI sz G s) (d:D):GI sz G (s.accept d):=h.of rfl rfl h.vg h.lg h.og h.dg rfl rfl rfl rfl
theorem learn_G {sz:D→Prop} {G:D→L→Prop} {s:NS D L} (h:GI sz G s) (k:Int) (ok:Bool) {d:D} {l:L} (hd:ok=true→G d l):GI sz G (s.learn k ok d l).1:=by
 unfold NS.learn;split
 ·exact h
 rename_i q
 simp only [not_or,Bool.not_eq_false] at q;have key:GI sz G {s with decs:=putA k ⟨-1,d,l⟩ s.decs}:=h.of rfl rfl h.vg h.lg h.og (fun p hp=>by
  rcases mem_putA hp with rfl | hp
  ·exact hd q.1
  exact h.dg p hp) rfl rfl rfl rfl
 split
 ·split
  ·exact h
  exact key
 exact key
theorem receive_G {sz:D→Prop} {G:D→L→Prop} {s:NS D L} (h:GI sz G s) {m:Msg D L} {ok:Bool} (hm:ok=true→m.kind=3→G m.dig m.list):GI sz G (s.receive m ok):=by
 unfold NS.receive;split
 ·exact h
 rename_i q
 simp only [not_or,Bool.not_eq_false] at q;split
 ·exact h
 split
 ·obtain ⟨a,b,e⟩:=ask_same s m;rw [e];exact h.of rfl rfl h.vg h.lg h.og h.dg rfl rfl rfl rfl
 split
 ·exact h
 split
 ·obtain ⟨hb,e1,e2,e3,e4,e5,e6⟩:=putVote_same s m;exact h.of e6 hb.claims (by rw [hb.valid];exact h.vg) (by rw [hb.lock];exact h.lg) (by rw [hb.own];exact h.og) (by rw [hb.decs];exact h.dg) e4 hb.id hb.height hb.n
 rename_i hk
 have hG:=hm q.1 (by simpa using hk);have own:∀s':NS D L,s'.mine=s.mine→s'.id=s.id→s'.height=s.height→s'.n=s.n→∀x∈s'.mine,OwnM sz G s' x:=fun s' a b c d x hx=>by
  have:=h.mg x (a ▸ hx);exact ⟨by rw [b];exact this.frm,by rw [c];exact this.height,by unfold NS.proposer;rw [b,c,d];exact this.prop,this.vote⟩
 split
 ·exact ⟨fun p hp=>by
   rcases mem_keepA hp with rfl | hp
   ·exact hG
   exact h.pg p hp,h.cg,h.vg,h.lg,h.og,h.dg,own _ rfl rfl rfl rfl⟩
 split
 ·exact h
 exact ⟨h.pg,fun p hp=>by
  rcases mem_putA hp with rfl | hp
  ·exact hG
  exact h.cg p hp,h.vg,h.lg,h.og,h.dg,own _ rfl rfl rfl rfl⟩
structure CohS (s:NS D L):Prop where
 p:∀a∈s.props,∀b∈s.props,a.2.dig=b.2.dig→a.2.list=b.2.list
 c:∀a∈s.claims,∀b∈s.claims,a.2.dig=b.2.dig→a.2.list=b.2.list
theorem GI.coh {sz:D→Prop} {G:D→L→Prop} (hG:∀d l l',G d l→G d l'→l=l') {s:NS D L} (h:GI sz G s):CohS s:=
 ⟨fun a ha b hb e=>hG _ _ _ (h.pg a ha) (e ▸ h.pg b hb),fun a ha b hb e=>hG _ _ _ (h.cg a ha) (e ▸ h.cg b hb)⟩
inductive Reaches:NS D L→NS D L→Prop
 | here (s:NS D L):Reaches s s
 | step {s t u:NS D L}:s.isDec s.height=false→s.stepS=some t→Reaches t u→Reaches s u
theorem reaches_G {sz:D→Prop} {G:D→L→Prop} {s t:NS D L} (h:Reaches s t):InvS sz s→GI sz G s→InvS sz t∧GI sz G t:=by
 induction h with
 | here s=>exact fun a b=>⟨a,b⟩
 | step _ he _ ih=>
  intro hi hg;obtain ⟨j,_,hj,_⟩:=firstR_some he;exact ih (step_inv hi he).1 (rule_G hi hg hj)
end
section
section
variable {D L E M:Type} [Dg D] [Inhabited L] [Dg E] [Inhabited M]
structure Ren (f:D→E) (g:L→M):Prop where
 inj:∀a b,f a=f b→a=b
 nil:f Dg.nil=Dg.nil
 lt:∀a b,Dg.lt (f a) (f b)=Dg.lt a b
 def_:g default=default
def Msg.ren (f:D→E) (g:L→M) (m:Msg D L):Msg E M:=⟨m.kind,m.frm,m.to,m.height,m.round,m.valid,f m.dig,g m.list⟩
def Val.ren (f:D→E) (g:L→M) (v:Val D L):Val E M:=⟨v.round,f v.dig,g v.list⟩
def mapV {κ β γ:Type} (h:β→γ) (l:List (κ×β)):List (κ×γ):=l.map fun p=>(p.1,h p.2)
def NS.ren (f:D→E) (g:L→M) (s:NS D L):NS E M:=
 {height:=s.height,round:=s.round,step:=s.step,clock:=s.clock,ticks:=s.ticks,lock:=s.lock.map (Val.ren f g),valid:=s.valid.map (Val.ren f g),own:=s.own.map (Val.ren f g),acc:=s.acc.map f,props:=mapV (Msg.ren f g) s.props,claims:=mapV (Msg.ren f g) s.claims,order:=s.order,votes:=mapV f s.votes,stand:=s.stand,mine:=s.mine.map (Msg.ren f g),made:=s.made,id:=s.id,n:=s.n,decs:=mapV (Val.ren f g) s.decs,ques:=s.ques,inf:=s.inf}
section
variable {κ β γ:Type} [DecidableEq κ]
theorem getA_ren (h:β→γ) (k:κ):∀l:List (κ×β),getA k (mapV h l)=(getA k l).map h
 | []=>rfl
 | p :: l=>by
  show (if p.1=k then some (h p.2) else getA k (mapV h l))=(if p.1=k then some p.2 else getA k l).map h;split
  ·rfl
  exact getA_ren h k l
theorem putA_ren (h:β→γ) (k:κ) (v:β):∀l:List (κ×β),mapV h (putA k v l)=putA k (h v) (mapV h l)
 | []=>rfl
 | p :: l=>by
  show mapV h (if p.1=k then (k,v) :: l else p :: putA k v l)=(if p.1=k then (k,h v) :: mapV h l else (p.1,h p.2) :: putA k (h v) (mapV h l));split
  ·rfl
  rw [←putA_ren h k v l];rfl
theorem mapV_keys (h:β→γ) (l:List (κ×β)):(mapV h l).map (·.1)=l.map (·.1):=by unfold mapV;simp
end
theorem firstR_ren {α β:Type} {f:Nat→Option α} {h:α→β} {f2:Nat→Option β} (e:∀i,f2 i=(f i).map h):∀n,firstR f2 n=(firstR f n).map h
 | 0=>rfl
 | n+1=>by
  unfold firstR;rw [firstR_ren e n];rcases firstR f n with _ | a
  ·exact e n
  rfl
variable {f:D→E} {g:L→M}
theorem mem_ren (r:Ren f g) {d:D} {l:List D}:f d∈l.map f↔d∈l:=by
 rw [List.mem_map];constructor
 ·rintro ⟨a,h,e⟩;exact r.inj _ _ e ▸ h
 intro h;exact ⟨d,h,rfl⟩
theorem insA_ren (r:Ren f g) (d:D) (l:List D):(insA d l).map f=insA (f d) (l.map f):=by
 unfold insA;by_cases h:d∈l
 ·rw [if_pos h,if_pos ((mem_ren r).2 h)]
 rw [if_neg h,if_neg (fun q=>h ((mem_ren r).1 q))];simp
theorem keepA_ren (l:List (Int×Msg D L)) (k:Int) (m:Msg D L):mapV (Msg.ren f g) (keepA l k m)=keepA (mapV (Msg.ren f g) l) k (m.ren f g):=by
 unfold keepA;rw [getA_ren];rcases getA k l with _ | x
 ·exact putA_ren _ _ _ _
 rfl
theorem putVote_ren (s:NS D L) (m:Msg D L):(s.putVote m).ren f g=(s.ren f g).putVote (m.ren f g):=by
 unfold NS.putVote;have:getA ((m.ren f g).frm,(m.ren f g).kind,(m.ren f g).height,(m.ren f g).round) (s.ren f g).votes=(getA (m.frm,m.kind,m.height,m.round) s.votes).map f:=getA_ren f _ _;rw [this];rcases getA (m.frm,m.kind,m.height,m.round) s.votes with _ | x
 ·simp only [Option.map_none,NS.ren,Msg.ren,putA_ren];rfl
 rfl
theorem say_ren (s:NS D L) (m:Msg D L):(s.say m).ren f g=(s.ren f g).say (m.ren f g):=by
 unfold NS.say;simp only;by_cases h:m.kind=3
 ·rw [if_pos h,if_pos (show (m.ren f g).kind=3 from h)];simp only [NS.ren,Msg.ren,keepA_ren,List.map_append,List.map_cons,List.map_nil]
 rw [if_neg h,if_neg (show ¬(m.ren f g).kind=3 from h),putVote_ren];simp only [NS.ren,Msg.ren,List.map_append,List.map_cons,List.map_nil]
theorem vote_ren (r:Ren f g) (k rd:Int) (d:D):(vote k rd d:Msg D L).ren f g=vote k rd (f d):=by
 unfold vote Msg.ren;simp only;rw [r.def_]
theorem enter_ren (s:NS D L) (k:Int):(s.enter k).ren f g=(s.ren f g).enter k:=rfl
theorem cast_ren (r:Ren f g) (s:NS D L) (k:Int) (d:D) (st:Int):(s.cast k d st).ren f g=(s.ren f g).cast k (f d) st:=by
 unfold NS.cast;rw [enter_ren,say_ren,vote_ren r];rfl
theorem voters_ren (n:Nat) (votes:List (Bal×D)) (k h rd:Int):voters n (mapV f votes) k h rd=(voters n votes k h rd).map f:=by
 unfold voters;rw [List.map_filterMap];congr 1
 funext i
 rw [getA_ren]
theorem count_ren (r:Ren f g) (d:D) (l:List D):(l.map f).count (f d)=l.count d:=by
 induction l with
 | nil=>rfl
 | cons a t ih=>
  rw [List.map_cons,List.count_cons,List.count_cons,ih];by_cases h:a=d
  ·subst h;simp
  have:f a≠f d:=fun q=>h (r.inj _ _ q);simp [h,this]
theorem mostL_ren (r:Ren f g) (l:List D):mostL (l.map f)=(f (mostL l).1,(mostL l).2):=by
 unfold mostL;rw [List.foldl_map];have:∀(t:List D) (b:D×Int),t.foldl (fun (b:E×Int) (d:D)=>if b.2<((l.map f).count (f d):Int)∨(((l.map f).count (f d):Int)=b.2∧Dg.lt (f d) b.1=true) then (f d,((l.map f).count (f d):Int)) else b) (f b.1,b.2) =
   (f (t.foldl (fun b d=>if b.2<(l.count d:Int)∨((l.count d:Int)=b.2∧Dg.lt d b.1=true) then (d,(l.count d:Int)) else b) b).1,(t.foldl (fun b d=>if b.2<(l.count d:Int)∨((l.count d:Int)=b.2∧Dg.lt d b.1=true) then (d,(l.count d:Int)) else b) b).2):=by
  intro t;induction t with
  | nil=>intro b;rfl
  | cons x t ih=>
   intro b;rw [List.foldl_cons,List.foldl_cons,←ih];congr 1
   simp only [count_ren r,r.lt];split <;> rfl
 rw [←this l (Dg.nil,0)];simp only [r.nil]
theorem most_ren (r:Ren f g) (s:NS D L) (k rd:Int):(s.ren f g).most k rd=(f (s.most k rd).1,(s.most k rd).2):=by
 unfold NS.most;rw [←mostL_ren r,←voters_ren];rfl
theorem ncount_ren (r:Ren f g) (s:NS D L) (k rd:Int) (d:D):(s.ren f g).count k rd (f d)=s.count k rd d:=by
 unfold NS.count;rw [←count_ren r,←voters_ren];rfl
theorem chosen_ren (r:Ren f g) (s:NS D L) (k rd:Int):(s.ren f g).chosen k rd=(s.chosen k rd).map f:=by
 unfold NS.chosen;simp only [most_ren r];by_cases h:(s.most k rd).1≠Dg.nil∧quorumN s.n≤(s.most k rd).2
 ·rw [if_pos h,if_pos]
  ·rfl
  exact ⟨fun q=>h.1 (r.inj _ _ (by rw [q,r.nil])),h.2⟩
 rw [if_neg h,if_neg]
 ·rfl
 rintro ⟨h1,h2⟩;exact h ⟨fun q=>h1 (by rw [q,r.nil]),h2⟩
theorem listOf_ren (r:Ren f g) (d:D):∀l:List (Int×Msg D L),listOf (f d) (mapV (Msg.ren f g) l)=(listOf d l).map g
 | []=>rfl
 | p :: l=>by
  show (if f p.2.dig=f d then some (g p.2.list) else listOf (f d) (mapV (Msg.ren f g) l))=(if p.2.dig=d then some p.2.list else listOf d l).map g;by_cases h:p.2.dig=d
  ·rw [if_pos h,if_pos (by rw [h])];rfl
  rw [if_neg h,if_neg (fun q=>h (r.inj _ _ q))];exact listOf_ren r d l
theorem known_ren (r:Ren f g) (s:NS D L) (d:D):(s.ren f g).known (f d)=(s.known d).map g:=by
 unfold NS.known;have h1:listOf (f d) (s.ren f g).props=(listOf d s.props).map g:=listOf_ren r d _;have h2:listOf (f d) (s.ren f g).claims=(listOf d s.claims).map g:=listOf_ren r d _;have h3:(s.ren f g).lock=s.lock.map (Val.ren f g):=rfl;rw [h1,h2,h3];rcases listOf d s.props with _ | a
 ·rcases listOf d s.claims with _ | b
  ·rcases s.lock with _ | v
   ·rfl
   simp only [Option.map_none,Option.map_some,Val.ren];by_cases h:v.dig=d
   ·rw [if_pos h,if_pos (by rw [h])];rfl
   rw [if_neg h,if_neg (fun q=>h (r.inj _ _ q))];rfl
  rfl
 rfl
theorem chosenList_ren (r:Ren f g) (s:NS D L) (k rd:Int):(s.ren f g).chosenList k rd=(s.chosenList k rd).map (Val.ren f g):=by
 unfold NS.chosenList;rw [chosen_ren r];rcases s.chosen k rd with _ | d
 ·rfl
 simp only [Option.map_some,known_ren r];rcases s.known d with _ | l <;> rfl
theorem countD_ren (r:Ren f g) (d:D) (l:List (Int×Msg D L)):countD (f d) (mapV (Msg.ren f g) l)=countD d l:=by
 unfold countD mapV;rw [List.filter_map,List.length_map];congr 2
 refine List.filter_congr fun x hx=>?_;simp only [Function.comp,Msg.ren];by_cases h:x.2.dig=d
 ·simp [h]
 have:f x.2.dig≠f d:=fun q=>h (r.inj _ _ q);simp [h,this]
theorem claimed_ren (r:Ren f g) (s:NS D L):∀l:List Int,claimed (s.ren f g) l=(claimed s l).map (Msg.ren f g)
 | []=>rfl
 | x :: l=>by
  have h1:getA x (s.ren f g).claims=(getA x s.claims).map (Msg.ren f g):=getA_ren _ _ _;have h2:∀m:Msg D L,countD (m.ren f g).dig (s.ren f g).claims=countD m.dig s.claims:=fun m=>countD_ren r m.dig s.claims;have h3:(s.ren f g).n=s.n:=rfl;have ih:=claimed_ren r s l;unfold claimed;rw [h1];rcases getA x s.claims with _ | m
  ·exact ih
  simp only [Option.map_some,h2,h3];split
  ·rfl
  exact ih
theorem rule_ren (r:Ren f g) (s:NS D L) (k:Nat):(s.ren f g).rule k=(s.rule k).map (NS.ren f g):=by
 have hn:(s.ren f g).n=s.n:=rfl;have hr:(s.ren f g).round=s.round:=rfl;have hs:(s.ren f g).step=s.step:=rfl;have hm:(s.ren f g).made=s.made:=rfl;have hl:(s.ren f g).late=s.late:=rfl;have hdec:∀v:Val D L,({s with decs:=putA s.height v s.decs}:NS D L).ren f g = {s.ren f g with decs:=putA s.height (v.ren f g) (s.ren f g).decs}:=fun v=>by
  simp only [NS.ren,putA_ren]
 unfold NS.rule;split
 ·unfold NS.rDecide;have ho:(s.ren f g).order=s.order:=rfl;rw [ho,claimed_ren r,firstR_ren (f:=fun (i:Nat)=>s.chosenList 5 i) (h:=Val.ren f g) (fun i=>chosenList_ren r s 5 i)];rcases claimed s s.order with _ | m
  ·rcases firstR (fun (i:Nat)=>s.chosenList 5 i) 100 with _ | v
   ·rfl
   simp only [Option.map_none,Option.map_some,hdec];rfl
  simp only [Option.map_some,hdec];rfl
 ·unfold NS.rSpread;rw [hr];refine firstR_ren (fun i=>?_) _;simp only [most_ren r,hm,hn];by_cases h:((6:Int),(i:Int))∉s.made∧(s.most 6 i).1≠Dg.nil∧faultsN s.n<(s.most 6 i).2
  ·rw [if_pos h,if_pos ⟨h.1,fun q=>h.2.1 (r.inj _ _ (by rw [q,r.nil])),h.2.2⟩];simp only [Option.map_some,say_ren,vote_ren r]
  rw [if_neg h,if_neg (fun q=>h ⟨q.1,fun e=>q.2.1 (by rw [e,r.nil]),q.2.2⟩)];rfl
 ·unfold NS.rValidate;have hle:(s.ren f g).least=s.least:=by unfold NS.least;show (match s.valid.map (Val.ren f g) with | some v=>v.round | none=>-1)=_;rcases s.valid with _ | v <;> rfl
  rw [hr,hle];refine firstR_ren (fun i=>?_) _;rw [chosenList_ren r];rcases s.chosenList 6 (s.round - i) with _ | v <;> rfl
 ·unfold NS.rFollow;rw [hr];refine firstR_ren (fun i=>?_) _;have hp:∀q,(s.ren f g).passed q=s.passed q:=fun q=>rfl;simp only [hp,hn];split
  ·simp only [Option.map_some,cast_ren r,r.nil];rfl
  rfl
 ·unfold NS.rPropose;have ht:(s.ren f g).toPropose=s.toPropose.map (Val.ren f g):=by
   unfold NS.toPropose;have hv:(s.ren f g).valid=s.valid.map (Val.ren f g):=rfl;rw [hv];rcases s.valid with _ | v
   ·rfl
   simp only [Option.map_some,hr];show (if v.round<s.round then some (v.ren f g) else s.own.map (Val.ren f g))=_;split <;> rfl
  have hp:∀a b c,(s.ren f g).proposer a b c=s.proposer a b c:=fun _ _ _=>rfl;have hi:(s.ren f g).id=s.id:=rfl;have hh:(s.ren f g).height=s.height:=rfl;rw [ht];rcases s.toPropose with _ | v
  ·rfl
  simp only [Option.map_some,hr,hs,hm,hp,hi,hh];split
  ·rfl
  simp only [Option.map_some,say_ren];rfl
 ·unfold NS.rPrevote;have hp:getA s.round (s.ren f g).props=(getA s.round s.props).map (Msg.ren f g):=getA_ren _ _ _;rw [hr,hp];rcases getA s.round s.props with _ | p
  ·rfl
  have ha:(p.ren f g).dig∉(s.ren f g).acc↔p.dig∉s.acc:=not_congr (mem_ren r);have hc:(s.ren f g).count 6 p.valid (p.ren f g).dig=s.count 6 p.valid p.dig:=ncount_ren r s 6 p.valid p.dig;have hv:(p.ren f g).valid=p.valid:=rfl;have hlk:(s.ren f g).lock=s.lock.map (Val.ren f g):=rfl;simp only [Option.map_some,ha,hc,hs,hn,hv,hlk];by_cases q1:s.step≠1∨p.dig∉s.acc
  ·rw [if_pos q1,if_pos q1];rfl
  rw [if_neg q1,if_neg q1];by_cases q2:0≤p.valid∧s.count 6 p.valid p.dig≤faultsN s.n
  ·rw [if_pos q2,if_pos q2];rfl
  rw [if_neg q2,if_neg q2];simp only [Option.map_some,cast_ren r];congr 2
  rcases s.lock with _ | v
  ·rfl
  simp only [Option.map_some,Val.ren];by_cases h:v.dig≠p.dig∧p.valid<v.round
  ·rw [if_pos h,if_pos ⟨fun q=>h.1 (r.inj _ _ q),h.2⟩,r.nil]
  rw [if_neg h,if_neg (fun q=>h ⟨fun e=>q.1 (by rw [e];rfl),q.2⟩)];rfl
 ·unfold NS.rMiss;rw [hs,hl];split
  ·rfl
  simp only [Option.map_some,cast_ren r,r.nil]
 ·unfold NS.rKey;rw [hr,chosen_ren r];rcases s.chosen 4 s.round with _ | d
  ·rfl
  simp only [Option.map_some,hs,hm];split
  ·rfl
  have e1:(s.ren f g).say (vote 6 s.round (f d))=(s.say (vote 6 s.round d)).ren f g:=by rw [say_ren,vote_ren r]
  rw [e1];show some (if (s.say (vote 6 s.round d)).step=2 then _ else _)=_;simp only [Option.map_some];split <;> rfl
 ·unfold NS.rWait;have hc:(s.ren f g).count 4 s.round Dg.nil=s.count 4 s.round Dg.nil:=by rw [←r.nil];exact ncount_ren r s 4 s.round Dg.nil
  rw [hs,hm,hr,hl,hc,hn];split
  ·rfl
  split
  ·rfl
  split
  ·simp only [Option.map_some,cast_ren r,r.nil]
  rfl
 ·unfold NS.rSeal;rw [hr,chosenList_ren r];rcases s.chosenList 6 s.round with _ | v
  ·rfl
  simp only [Option.map_some,hs];split
  ·rfl
  simp only [Option.map_some,cast_ren r];rfl
 ·unfold NS.rLeave;rw [hs,hl];split
  ·rfl
  simp only [Option.map_some,cast_ren r,r.nil]
 ·unfold NS.rNext;rw [hs,hl,hr];split
  ·rfl
  rfl
 rfl
theorem stepS_ren (r:Ren f g) (s:NS D L):(s.ren f g).stepS=s.stepS.map (NS.ren f g):=firstR_ren (rule_ren r s) 12
theorem isDec_ren (s:NS D L) (h:Int):(s.ren f g).isDec h=s.isDec h:=by
 unfold NS.isDec;have:getA h (s.ren f g).decs=(getA h s.decs).map (Val.ren f g):=getA_ren _ _ _;rw [this];rcases getA h s.decs with _ | v <;> rfl
theorem run_ren (r:Ren f g):∀(k:Nat) (s:NS D L),NS.runS k (s.ren f g)=(NS.runS k s).ren f g
 | 0,s=>rfl
 | k+1,s=>by
  unfold NS.runS;have:(s.ren f g).isDec (s.ren f g).height=s.isDec s.height:=isDec_ren s s.height;rw [this];split
  ·rfl
  rw [stepS_ren r];rcases s.stepS with _ | t
  ·rfl
  exact run_ren r k t
theorem apply_ren (r:Ren f g) (s:NS D L):(s.ren f g).apply=s.apply.ren f g:=by
 unfold NS.apply;have:(s.ren f g).mu=s.mu:=by
  unfold NS.mu NS.least;show _+(100 - (match s.valid.map (Val.ren f g) with | some v=>v.round | none=>-1)).toNat=_;rcases s.valid with _ | v <;> rfl
 rw [this];exact run_ren r _ s
theorem sends_ren (s:NS D L) (ms:List (Msg D L)):(s.ren f g).sends (ms.map (Msg.ren f g))=(s.sends ms).map (Msg.ren f g):=by
 unfold NS.sends;rw [List.flatMap_map,List.map_flatMap];congr 1
 funext m
 rw [List.map_filterMap];congr 1
 funext i
 show (if (i:Int)≠s.id then _ else _)=_;split <;> rfl
theorem decDig_ren (r:Ren f g) (s:NS D L) (h:Int):(s.ren f g).decDig h=f (s.decDig h):=by
 unfold NS.decDig;have:getA h (s.ren f g).decs=(getA h s.decs).map (Val.ren f g):=getA_ren _ _ _;rw [this];rcases getA h s.decs with _ | v
 ·exact r.nil.symm
 rfl
theorem decList_ren (r:Ren f g) (s:NS D L) (h:Int):(s.ren f g).decList h=g (s.decList h):=by
 unfold NS.decList;have:getA h (s.ren f g).decs=(getA h s.decs).map (Val.ren f g):=getA_ren _ _ _;rw [this];rcases getA h s.decs with _ | v
 ·exact r.def_.symm
 rfl
theorem answers_ren (r:Ren f g) (s:NS D L):(s.ren f g).answers=s.answers.map (Msg.ren f g):=by
 unfold NS.answers;rw [List.map_flatMap];have hq:(s.ren f g).ques=s.ques:=rfl;rw [hq];congr 1
 funext x
 rcases getA x s.ques with _ | q
 ·rfl
 unfold NS.answer;have hc:(s.ren f g).claimRound q.1 q.2=s.claimRound q.1 q.2:=rfl;have hi:(s.ren f g).id=s.id:=rfl;simp only [decDig_ren r,decList_ren r,hc,hi,List.map_append,List.map_cons,List.map_nil,List.map_map];congr 1
 ·congr 1
  ·simp [Msg.ren,r.def_]
  refine List.map_congr_left fun i _=>?_;simp [Function.comp,Msg.ren,r.def_]
 simp [Msg.ren,r.def_]
theorem tick_ren (r:Ren f g) (s:NS D L):(s.ren f g).tick=(s.tick.1.ren f g,s.tick.2.map (Msg.ren f g)):=by
 unfold NS.tick;have ha:=answers_ren r s;have e0:({s.ren f g with ques:=[]}:NS E M)=({s with ques:=[]}:NS D L).ren f g:=rfl;simp only [e0,ha];obtain ⟨s0,h0⟩:∃s0:NS D L,{s with ques:=[]}=s0:=⟨_,rfl⟩;rw [h0];have hh:(s0.ren f g).isDec (s.ren f g).height=s0.isDec s.height:=isDec_ren s0 s.height;have h1:(s0.ren f g).ticked=s0.ticked.ren f g:=rfl;simp only [hh,h1,apply_ren r];by_cases q1:s0.isDec s.height=true
 ·rw [if_pos q1,if_pos q1]
 rw [if_neg q1,if_neg q1];have h2:(s0.ticked.apply.ren f g).ticks=s0.ticked.apply.ticks:=rfl;have h3:(s0.ticked.apply.ren f g).mine=s0.ticked.apply.mine.map (Msg.ren f g):=rfl;have h4:(s0.ticked.ren f g).mine.length=s0.ticked.mine.length:=by show (s0.ticked.mine.map _).length=_;simp
 simp only [h2,h3,h4,←List.map_drop,sends_ren,List.map_append]
theorem ask_ren (r:Ren f g) (s:NS D L) (m:Msg D L):(s.ren f g).ask (m.ren f g)=(s.ask m).ren f g:=by
 unfold NS.ask;have h1:(m.ren f g).dig=(s.ren f g).decDig m.height↔m.dig=s.decDig m.height:=by
  rw [decDig_ren r];exact ⟨fun h=>r.inj _ _ h,fun h=>by rw [←h];rfl⟩
 have h2:∀a b c,(s.ren f g).proposer a b c=s.proposer a b c:=fun _ _ _=>rfl;have h3:(s.ren f g).ques=s.ques:=rfl;have h4:(s.ren f g).inf=s.inf:=rfl;have h5:(m.ren f g).frm=m.frm:=rfl;have h6:(m.ren f g).height=m.height:=rfl;have h7:(m.ren f g).kind=m.kind:=rfl;have h8:(m.ren f g).round=m.round:=rfl;simp only [h6] at h1 ⊢;simp only [h1,h2,h3,h4,h5,h7,h8];by_cases q1:m.kind=3∧s.proposer m.frm m.height m.round=false∧m.dig=s.decDig m.height
 ·rw [if_pos q1,if_pos q1];rfl
 rw [if_neg q1,if_neg q1];by_cases q2:(m.height,m.frm)∈s.inf
 ·rw [if_pos q2,if_pos q2]
 rw [if_neg q2,if_neg q2];rcases getA m.frm s.ques with _ | q
 ·rfl
 simp only;split <;> rfl
theorem receive_ren (r:Ren f g) (s:NS D L) (m:Msg D L) (ok:Bool):(s.ren f g).receive (m.ren f g) ok=(s.receive m ok).ren f g:=by
 unfold NS.receive;have h1:(s.ren f g).isDec (m.ren f g).height=s.isDec m.height:=isDec_ren s m.height;have h2:(s.ren f g).proposer (m.ren f g).frm (m.ren f g).height (m.ren f g).round=s.proposer m.frm m.height m.round:=rfl;have h3:getA m.frm (s.ren f g).claims=(getA m.frm s.claims).map (Msg.ren f g):=getA_ren _ _ _;rw [h1,h2,ask_ren r,←putVote_ren];show (if ok=false∨m.to≠s.id∨s.n≤m.frm∨s.height<m.height then _ else if ¬(m.kind=3∨m.kind=4∨m.kind=6∨m.kind=5) then _ else if _ then _ else if m.height<s.height then _ else if m.kind≠3 then _ else if _ then _ else match getA m.frm (s.ren f g).claims with | some _=>_ | none=>_)=_;rw [h3];split
 ·rfl
 split
 ·rfl
 split
 ·rfl
 split
 ·rfl
 split
 ·rfl
 split
 ·simp only [NS.ren,keepA_ren];rfl
 rcases getA m.frm s.claims with _ | x
 ·simp only [Option.map_none,NS.ren,putA_ren];rfl
 rfl
theorem begin_ren (r:Ren f g) (s:NS D L) (k:Int) (ok:Bool) (d:D) (l:L):(s.ren f g).begin k ok (f d) (g l)=((s.begin k ok d l).1.ren f g,(s.begin k ok d l).2):=by
 unfold NS.begin;have h1:∀h,(s.ren f g).isDec h=s.isDec h:=fun h=>isDec_ren s h;have h2:(s.ren f g).height=s.height:=rfl;have h3:(s.ren f g).own.isNone=s.own.isNone:=by show (s.own.map _).isNone=_;rcases s.own with _ | v <;> rfl
 simp only [h1,h2,h3];split
 ·rfl
 split
 ·simp only [NS.ren,insA_ren r];rfl
 split <;> rfl
theorem accept_ren (r:Ren f g) (s:NS D L) (d:D):(s.ren f g).accept (f d)=(s.accept d).ren f g:=by
 unfold NS.accept;simp only [NS.ren,insA_ren r]
theorem askedL_ren (r:Ren f g) (props:List (Int×Msg D L)):∀(l:List Int) (seen:List D),askedL (mapV (Msg.ren f g) props) l (seen.map f)=(askedL props l seen).map g
 | [],seen=>rfl
 | x :: l,seen=>by
  unfold askedL;rw [getA_ren];rcases getA x props with _ | m
  ·exact askedL_ren r props l seen
  simp only [Option.map_some];have:(m.ren f g).dig∈seen.map f↔m.dig∈seen:=mem_ren r;by_cases h:m.dig∈seen
  ·rw [if_pos h,if_pos (this.2 h)];exact askedL_ren r props l seen
  rw [if_neg h,if_neg (fun q=>h (this.1 q)),List.map_cons,←askedL_ren r props l (m.dig :: seen)];rfl
theorem asked_ren (r:Ren f g) (s:NS D L):(s.ren f g).asked=s.asked.map g:=by
 unfold NS.asked;have:(s.ren f g).isDec (s.ren f g).height=s.isDec s.height:=isDec_ren s s.height;rw [this];split
 ·rfl
 have h1:(s.ren f g).props=mapV (Msg.ren f g) s.props:=rfl;have h2:(s.ren f g).acc=s.acc.map f:=rfl;rw [h1,h2,mapV_keys,askedL_ren r]
theorem new_ren (id n:Int):(newS id n:NS E M)=(newS id n:NS D L).ren f g:=rfl
end
end
section
variable {D L:Type} [Dg D] [Inhabited L]
theorem firstR_less {α:Type} {f:Nat→Option α} {k:Nat}:∀{n:Nat},k≤n→(∀i,k≤i→i<n→f i=none)→firstR f n=firstR f k
 | 0,h,_=>by have:k=0:=by omega
             subst this;rfl
 | n+1,h,hf=>by
  rcases Nat.lt_or_ge n k with q | q
  ·have:k=n+1:=by omega
   subst this;rfl
  show (match firstR f n with | some a=>some a | none=>f n)=_;rw [firstR_less q (fun i a b=>hf i a (by omega)),hf n q (by omega)];rcases firstR f k with _ | a <;> rfl
def topV (votes:List (Bal×D)):Nat:=votes.foldl (fun a p=>max a (p.1.2.2.2.toNat+1)) 0
theorem topV_le (votes:List (Bal×D)):∀p∈votes,p.1.2.2.2.toNat+1≤topV votes:=by
 unfold topV;have h1:∀(l:List (Bal×D)) (a:Nat),a≤l.foldl (fun a p=>max a (p.1.2.2.2.toNat+1)) a:=by
  intro l;induction l with
  | nil=>intro a;exact Nat.le_refl _
  | cons p l ih=>intro a;rw [List.foldl_cons];exact Nat.le_trans (Nat.le_max_left _ _) (ih _)
 have:∀(l:List (Bal×D)) (a:Nat),∀p∈l,p.1.2.2.2.toNat+1≤l.foldl (fun a p=>max a (p.1.2.2.2.toNat+1)) a:=by
  intro l;induction l with
  | nil=>intro a p hp;cases hp
  | cons q l ih=>
   intro a p hp;rw [List.foldl_cons];rcases List.mem_cons.1 hp with rfl | hp
   ·exact Nat.le_trans (Nat.le_max_right _ _) (h1 _ _)
   exact ih _ p hp
 exact this votes 0
theorem voters_top {votes:List (Bal×D)} {r:Nat} (h:topV votes≤r) (n:Nat) (k hh:Int):voters n votes k hh (r:Int) = []:=by
 rcases hv:voters n votes k hh (r:Int) with _ | ⟨d,t⟩
 ·rfl
 exfalso;obtain ⟨i,_,hg⟩:=mem_voters (n:=n) (votes:=votes) (kind:=k) (height:=hh) (round:=r) (d:=d) (by rw [hv];simp);have:=topV_le votes _ (getA_mem hg);simp at this;omega
theorem chosen_top {s:NS D L} {r:Nat} (h:topV s.votes≤r) (k:Int):s.chosen k (r:Int)=none:=by
 unfold NS.chosen NS.most;rw [voters_top h];simp [mostL]
def NS.fDecide (s:NS D L):Option (NS D L):=
 match claimed s s.order with
 | some m=>some {s with decs:=putA s.height ⟨-1,m.dig,m.list⟩ s.decs}
 | none=>match firstR (fun r=>s.chosenList 5 r) (min 100 (topV s.votes)) with
  | some v=>some {s with decs:=putA s.height v s.decs}
  | none=>none
theorem fDecide_eq (s:NS D L):s.fDecide=s.rDecide:=by
 unfold NS.fDecide NS.rDecide;rw [firstR_less (f:=fun (r:Nat)=>s.chosenList 5 r) (k:=min 100 (topV s.votes)) (n:=100) (Nat.min_le_left _ _) (fun i h1 h2=>by
  unfold NS.chosenList;rw [chosen_top (by omega)])]
 rcases claimed s s.order with _ | m
 ·rcases firstR (fun (r:Nat)=>s.chosenList 5 r) (min 100 (topV s.votes)) with _ | v <;> rfl
 rfl
def topS (stand:List (Int×(Int×Int))):Nat:=stand.foldl (fun a p=>max a (max p.2.1.toNat p.2.2.toNat)) 0
theorem topS_le (l:List (Int×(Int×Int))):∀p∈l,p.2.1.toNat≤topS l∧p.2.2.toNat≤topS l:=by
 unfold topS;have h1:∀(l:List (Int×(Int×Int))) (a:Nat),a≤l.foldl (fun a p=>max a (max p.2.1.toNat p.2.2.toNat)) a:=by
  intro l;induction l with
  | nil=>intro a;exact Nat.le_refl _
  | cons p l ih=>intro a;rw [List.foldl_cons];exact Nat.le_trans (Nat.le_max_left _ _) (ih _)
 have:∀(l:List (Int×(Int×Int))) (a:Nat),∀p∈l,p.2.1.toNat≤l.foldl (fun a p=>max a (max p.2.1.toNat p.2.2.toNat)) a∧p.2.2.toNat≤l.foldl (fun a p=>max a (max p.2.1.toNat p.2.2.toNat)) a:=by
  intro l;induction l with
  | nil=>intro a p hp;cases hp
  | cons q l ih=>
   intro a p hp;rw [List.foldl_cons];rcases List.mem_cons.1 hp with rfl | hp
   ·have:=h1 l (max a (max p.2.1.toNat p.2.2.toNat));omega
   exact ih _ p hp
 exact this l 0
def NS.fFollow (s:NS D L):Option (NS D L):=
 let t:=min 99 (topS s.stand)
 firstR (fun i=>if faultsN s.n<s.passed ((t:Int) - i) then some ({s with round:=(t:Int) - i}.cast 5 Dg.nil 4) else none) ((t:Int) - s.round).toNat
theorem fFollow_eq {s:NS D L} (hn:1≤s.n) (hr:0≤s.round):s.fFollow=s.rFollow:=by
 unfold NS.fFollow NS.rFollow;simp only;obtain ⟨t,ht⟩:∃t,min 99 (topS s.stand)=t:=⟨_,rfl⟩;rw [ht];have hz:∀q:Int,(t:Int)<q→q≤99→¬faultsN s.n<s.passed q:=fun q h1 h2=>by
  have hf:0≤faultsN s.n:=by unfold faultsN;omega
  have:s.passed q=0:=by
   unfold NS.passed;rw [List.filter_eq_nil_iff.2 (fun p hp=>?_)]
   ·rfl
   have:=topS_le s.stand p hp;simp;omega
  omega
 by_cases hlt:(t:Int)≤s.round
 ·rw [show ((t:Int) - s.round).toNat=0 by omega];show none=_;symm
  refine firstR_none (fun i hi=>?_);rw [if_neg (hz _ (by omega) (by omega))]
 have hk:(99 - s.round).toNat=(99 - t)+((t:Int) - s.round).toNat:=by omega
 have hshift:∀(f g:Nat→Option (NS D L)) (k n:Nat),(∀i,i<k→f i=none)→(∀i,f (k+i)=g i)→firstR g n=firstR f (k+n):=by
  intro f g k n h1 h2;induction n with
  | zero=>rw [Nat.add_zero,firstR_none h1];rfl
  | succ n ih=>
   rw [←Nat.add_assoc,firstR_succ,firstR_succ,ih,h2]
 rw [hk];refine hshift _ _ _ _ (fun i hi=>?_) (fun i=>?_)
 ·rw [if_neg (hz _ (by omega) (by omega))]
 have:(99:Int) - ((99 - t+i:Nat):Int)=(t:Int) - i:=by omega
 rw [this]
def NS.ruleF (s:NS D L):Nat→Option (NS D L)
 | 0=>s.fDecide | 1=>s.rSpread | 2=>s.rValidate | 3=>s.fFollow | 4=>s.rPropose | 5=>s.rPrevote
 | 6=>s.rMiss | 7=>s.rKey | 8=>s.rWait | 9=>s.rSeal | 10=>s.rLeave | 11=>s.rNext | _=>none
def NS.stepF (s:NS D L):Option (NS D L):=firstR s.ruleF 12
def NS.runF:Nat→NS D L→NS D L
 | 0,s=>s
 | k+1,s=>if s.isDec s.height then s else match s.stepF with
  | none=>s
  | some s'=>NS.runF k s'
theorem stepF_eq {sz:D→Prop} {s:NS D L} (h:InvS sz s):s.stepF=s.stepS:=by
 unfold NS.stepF NS.stepS;congr 1
 funext k
 rcases k with _ | _ | _ | _ | _ | _ | _ | _ | _ | _ | _ | _ | k
 ·exact fDecide_eq s
 ·rfl
 ·rfl
 ·exact fFollow_eq h.num.n1 h.num.r0
 all_goals rfl
theorem runF_eq {sz:D→Prop}:∀(k:Nat) {s:NS D L},InvS sz s→NS.runF k s=NS.runS k s
 | 0,s,_=>rfl
 | k+1,s,h=>by
  unfold NS.runF NS.runS;rw [stepF_eq h];split
  ·rfl
  rcases he:s.stepS with _ | t
  ·rfl
  exact runF_eq k (step_inv h he).1
theorem mu_le (s:NS D L) {sz:D→Prop} (h:InvS sz s):s.mu≤804:=by
 have:=openK_le 6 s.made 100;have:=openK_le 3 s.made 100;have:=h.num.r0;have:=h.num.st1;have:-1≤s.least:=by
  unfold NS.least;split
  ·rename_i v hv;have:=h.num.vr v hv;omega
  omega
 unfold NS.mu;omega
def NS.tickF (s0:NS D L):NS D L×List (Msg D L):=
 let out:=s0.answers
 let s:={s0 with ques:=[]}
 if s.isDec s.height then (s,out)
 else
  let s1:=s.ticked
  let s2:=NS.runF 900 s1
  (s2,out ++ s2.sends (s2.mine.drop (if s2.ticks % 4=0 then 0 else s1.mine.length)))
theorem tickF_eq {sz:D→Prop} {s:NS D L} (h:InvS sz s):s.tickF=s.tick:=by
 unfold NS.tickF NS.tick;simp only;have h1:=ticked_inv (noques_inv h);have e:NS.runF 900 (({s with ques:=[]}:NS D L).ticked)=(({s with ques:=[]}:NS D L).ticked).apply:=by
  rw [runF_eq 900 h1];unfold NS.apply;have:=mu_le _ h1;rw [run_more (({s with ques:=[]}:NS D L).ticked.mu+1) h1 (by omega) 900 (by omega)]
 rw [e]
end
end Go.Proofs.YtifcdjmcoibblaaGreatDoor
