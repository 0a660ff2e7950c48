/- ConG -/
import Derived.Test.YtifcdjmcoibblaaGreatDoorFq08
set_option linter.unusedVariables false
set_option linter.unusedSimpArgs false
set_option linter.unusedSectionVars false
namespace Go.Proofs.YtifcdjmcoibblaaGreatDoor
section
variable {D L:Type} [Dg D] [Inhabited L]
structure OwnM (sz:D→Prop) (G:D→L→Prop) (s:NS D L) (m:Msg D L):Prop where
 frm:m.frm=s.id
 height:m.height=s.height
 prop:m.kind=3→G m.dig m.list∧-1≤m.valid∧m.valid<m.round∧s.proposer s.id s.height m.round=true
 vote:m.kind≠3→m.valid=0∧m.list=default∧sz m.dig
def Shy (G:D→L→Prop) (me:Int):Prop:=(∀d l d' l',G d l→G d' l'→d=d')∧me≠0
structure GI (sz:D→Prop) (G:D→L→Prop) (s:NS D L):Prop where
 pg:∀p∈s.props,G p.2.dig p.2.list
 cg:∀p∈s.claims,G p.2.dig p.2.list
 vg:∀v,s.valid=some v→G v.dig v.list
 lg:∀v,s.lock=some v→G v.dig v.list
 og:∀v,s.own=some v→¬Shy G s.id→G v.dig v.list
 dg:∀p∈s.decs,G p.2.dig p.2.list
 mg:∀m∈s.mine,OwnM sz G s m
theorem listOf_mem {d:D} {l:L}:∀{x:List (Int×Msg D L)},listOf d x=some l→∃p∈x,p.2.dig=d∧p.2.list=l
 | [],h=>by cases h
 | p :: x,h=>by
  unfold listOf at h;split at h
  ·rename_i e;cases h;exact ⟨p,by simp,e,rfl⟩
  obtain ⟨q,hq,e⟩:=listOf_mem h;exact ⟨q,by simp [hq],e⟩
theorem listOf_none {d:D}:∀{x:List (Int×Msg D L)},listOf d x=none↔∀p∈x,p.2.dig≠d
 | []=>by simp [listOf]
 | p :: x=>by
  unfold listOf;split
  ·rename_i e;simp [e]
  rename_i e
  rw [listOf_none];simp [e]
theorem known_G {sz:D→Prop} {G:D→L→Prop} {s:NS D L} (h:GI sz G s) {d:D} {l:L} (hk:s.known d=some l):G d l:=by
 unfold NS.known at hk;split at hk
 ·rename_i x hx
  cases hk;obtain ⟨p,hp,rfl,rfl⟩:=listOf_mem hx;exact h.pg p hp
 split at hk
 ·rename_i x hx
  cases hk;obtain ⟨p,hp,rfl,rfl⟩:=listOf_mem hx;exact h.cg p hp
 split at hk
 ·rename_i v hv
  split at hk
  ·rename_i e;cases hk;subst e;exact h.lg v hv
  cases hk
 cases hk
theorem GI.of {sz:D→Prop} {G:D→L→Prop} {s s':NS D L} (h:GI sz G s) (h1:s'.props=s.props) (h2:s'.claims=s.claims) (h3:∀v,s'.valid=some v→G v.dig v.list) (h4:∀v,s'.lock=some v→G v.dig v.list) (h5:∀v,s'.own=some v→¬Shy G s.id→G v.dig v.list)
  (h6:∀p∈s'.decs,G p.2.dig p.2.list) (h7:s'.mine=s.mine) (h8:s'.id=s.id) (h9:s'.height=s.height) (h10:s'.n=s.n):GI sz G s':=by
 refine ⟨by rw [h1];exact h.pg,by rw [h2];exact h.cg,h3,h4,by rw [h8];exact h5,h6,by
  rw [h7];intro m hm;have:=h.mg m hm;exact ⟨by rw [h8];exact this.frm,by rw [h9];exact this.height,by unfold NS.proposer;rw [h8,h9,h10];exact this.prop,this.vote⟩⟩
theorem say_G {sz:D→Prop} {G:D→L→Prop} {s:NS D L} (h:GI sz G s) {m:Msg D L} (h3:m.kind=3→G m.dig m.list∧-1≤m.valid∧m.valid<m.round∧s.proposer s.id s.height m.round=true) (hv:m.kind≠3→m.valid=0∧m.list=default∧sz m.dig):GI sz G (s.say m):=by
 obtain ⟨hb,e1,e2,e3,e4,e5⟩:=say_same s m;refine ⟨?_,by rw [hb.claims];exact h.cg,by rw [hb.valid];exact h.vg,by rw [hb.lock];exact h.lg,by rw [hb.own,hb.id];exact h.og,by rw [hb.decs];exact h.dg,?_⟩
 ·unfold NS.say;simp only;split
  ·rename_i q
   intro p hp;rcases mem_keepA hp with rfl | hp
   ·exact (h3 q).1
   exact h.pg p hp
  rw [(putVote_same _ _).2.2.2.2.2.2];exact h.pg
 rw [e4];intro x hx;rcases List.mem_append.1 hx with q | q
 ·have:=h.mg x q;exact ⟨by rw [hb.id];exact this.frm,by rw [hb.height];exact this.height,by unfold NS.proposer;rw [hb.id,hb.height,hb.n];exact this.prop,this.vote⟩
 simp at q;subst q;exact ⟨by rw [hb.id],by rw [hb.height],by unfold NS.proposer;rw [hb.id,hb.height,hb.n];exact h3,hv⟩
theorem enter_G {sz:D→Prop} {G:D→L→Prop} {s:NS D L} (h:GI sz G s) (k:Int):GI sz G (s.enter k):=h.of rfl rfl h.vg h.lg h.og h.dg rfl rfl rfl rfl
theorem cast_G {sz:D→Prop} {G:D→L→Prop} {s:NS D L} (h:GI sz G s) {k:Int} (hk:k≠3) {d:D} (hd:sz d) (st:Int):GI sz G (s.cast k d st):=
 enter_G (say_G h (fun q=>absurd q hk) (fun _=>⟨rfl,rfl,hd⟩)) st
theorem rule_G {sz:D→Prop} {G:D→L→Prop} {s s':NS D L} (hi:InvS sz s) (h:GI sz G s) (hx:Shy G s.id→s.proposer s.id s.height s.round=false) {k:Nat} (he:s.rule k=some s'):GI sz G s':=by
 have hds:∀v:Val D L,G v.dig v.list→GI sz G {s with decs:=putA s.height v s.decs}:=fun v hv=>h.of rfl rfl h.vg h.lg h.og (fun p hp=>by
  rcases mem_putA hp with rfl | hp
  ·exact hv
  exact h.dg p hp) rfl rfl rfl rfl
 have hcl:∀(l:List Int) (m:Msg D L),claimed s l=some m→G m.dig m.list:=by
  intro l;induction l with
  | nil=>intro m hm;cases hm
  | cons a l ih=>
   intro m hm;unfold claimed at hm;split at hm
   ·rename_i x hx
    split at hm
    ·cases hm;exact h.cg _ (getA_mem hx)
    exact ih m hm
   exact ih m hm
 unfold NS.rule at he;split at he
 ·unfold NS.rDecide at he;split at he
  ·rename_i m hm;cases he;exact hds _ (hcl _ _ hm)
  split at he
  ·rename_i v hv
   cases he;obtain ⟨k,_,hk,_⟩:=firstR_some hv;obtain ⟨_,_,_,q⟩:=chosenList_sz hi hk;exact hds v (known_G h q)
  cases he
 ·unfold NS.rSpread at he;obtain ⟨k,hk,hf,_⟩:=firstR_some he;simp only at hf;split at hf
  ·cases hf;exact say_G h (fun q=>absurd q (by show (6:Int)≠3;omega)) (fun _=>⟨rfl,rfl,most_sz hi _ _⟩)
  cases hf
 ·unfold NS.rValidate at he;obtain ⟨k,hk,hf,_⟩:=firstR_some he;rcases hc:s.chosenList 6 (s.round - k) with _ | v
  ·rw [hc] at hf;cases hf
  rw [hc] at hf;cases hf;obtain ⟨_,_,_,q⟩:=chosenList_sz hi hc;exact h.of rfl rfl (fun x hx=>by cases hx;exact known_G h q) h.lg h.og h.dg rfl rfl rfl rfl
 ·unfold NS.rFollow at he;obtain ⟨k,hk,hf,_⟩:=firstR_some he;split at hf
  ·cases hf;have h1:GI sz G ({s with round:=99 - k}:NS D L):=h.of rfl rfl h.vg h.lg h.og h.dg rfl rfl rfl rfl;exact cast_G h1 (by omega) hi.nil 4
  cases hf
 ·unfold NS.rPropose at he;split at he
  ·cases he
  rename_i v hv
  split at he
  ·cases he
  rename_i q
  simp only [not_or,Decidable.not_not,Bool.not_eq_false] at q;cases he;have hr:=hi.num.r0;refine say_G h (fun _=>?_) (fun q=>absurd rfl q);have hns:¬Shy G s.id:=fun q2=>by rw [hx q2] at q;exact absurd q.2.1 Bool.false_ne_true
  have hz:G v.dig v.list∧-1≤v.round∧v.round<s.round:=by
   unfold NS.toPropose at hv;split at hv
   ·rename_i u hu
    split at hv
    ·cases hv;have:=hi.num.vr v hu;exact ⟨h.vg v hu,by omega,by omega⟩
    have:=hi.box.oz v hv;exact ⟨h.og v hv hns,by omega,by omega⟩
   have:=hi.box.oz v hv;exact ⟨h.og v hv hns,by omega,by omega⟩
  exact ⟨hz.1,hz.2.1,hz.2.2,q.2.1⟩
 ·unfold NS.rPrevote at he;split at he
  ·cases he
  rename_i p hp
  have hz:=(hi.box.pr _ (getA_mem hp)).2.2.2.2;split at he
  ·cases he
  split at he
  ·cases he
  cases he;refine cast_G h (by omega) ?_ 2;split
  ·split
   ·exact hi.nil
   exact hz
  exact hz
 ·unfold NS.rMiss at he;split at he
  ·cases he
  cases he;exact cast_G h (by omega) hi.nil 2
 ·unfold NS.rKey at he;split at he
  ·cases he
  rename_i d hd
  split at he
  ·cases he
  have hS:=say_G h (m:=vote 6 s.round d) (fun q=>absurd q (by show (6:Int)≠3;omega)) (fun _=>⟨rfl,rfl,(chosen_sz hi hd).1⟩);simp only at he;cases he;split
  ·exact enter_G hS 3
  exact hS
 ·unfold NS.rWait at he;split at he
  ·cases he
  split at he
  ·cases he;exact enter_G h 3
  split at he
  ·cases he;exact cast_G h (by omega) hi.nil 4
  cases he
 ·unfold NS.rSeal at he;split at he
  ·cases he
  rename_i v hv
  split at he
  ·cases he
  cases he;obtain ⟨z1,_,_,q⟩:=chosenList_sz hi hv;have h1:GI sz G ({s with lock:=some v}:NS D L):=h.of rfl rfl h.vg (fun x hx=>by cases hx;exact known_G h q) h.og h.dg rfl rfl rfl rfl;exact cast_G h1 (by omega) z1 4
 ·unfold NS.rLeave at he;split at he
  ·cases he
  cases he;exact cast_G h (by omega) hi.nil 4
 ·unfold NS.rNext at he;split at he
  ·cases he
  cases he;exact enter_G (s:={s with round:=s.round+1}) (h.of rfl rfl h.vg h.lg h.og h.dg rfl rfl rfl rfl) 1
 cases he
theorem rule_kp {sz:D→Prop} {s s':NS D L} (hi:InvS sz s) {k:Nat} (he:s.rule k=some s'):s'.id=s.id∧s'.n=s.n∧s'.height=s.height∧s.round≤s'.round:=by
 have hs:∀m:Msg D L,(s.say m).id=s.id∧(s.say m).n=s.n∧(s.say m).height=s.height∧s.round≤(s.say m).round:=fun m=>by
  obtain ⟨hb,e1,_⟩:=say_same s m;exact ⟨hb.id,hb.n,hb.height,Int.le_of_eq e1.symm⟩
 have hs2:∀(t:NS D L) (m:Msg D L),t.id=s.id→t.n=s.n→t.height=s.height→s.round≤t.round→(t.say m).id=s.id∧(t.say m).n=s.n∧(t.say m).height=s.height∧s.round≤(t.say m).round:=fun t m h1 h2 h3 h4=>by
  obtain ⟨hb,e1,_⟩:=say_same t m;exact ⟨hb.id.trans h1,hb.n.trans h2,hb.height.trans h3,by rw [e1];exact h4⟩
 have same:s.id=s.id∧s.n=s.n∧s.height=s.height∧s.round≤s.round:=⟨rfl,rfl,rfl,Int.le_refl _⟩;unfold NS.rule at he;split at he
 ·unfold NS.rDecide at he;split at he
  ·cases he;exact same
  split at he
  ·cases he;exact same
  cases he
 ·unfold NS.rSpread at he;obtain ⟨k,hk,hf,_⟩:=firstR_some he;simp only at hf;split at hf
  ·cases hf;exact hs _
  cases hf
 ·unfold NS.rValidate at he;obtain ⟨k,hk,hf,_⟩:=firstR_some he;rcases hc:s.chosenList 6 (s.round - k) with _ | v
  ·rw [hc] at hf;cases hf
  rw [hc] at hf;cases hf;exact same
 ·unfold NS.rFollow at he;obtain ⟨k,hk,hf,_⟩:=firstR_some he;split at hf
  ·cases hf;exact hs2 _ _ rfl rfl rfl (by show s.round≤99 - (k:Int);omega)
  cases hf
 ·unfold NS.rPropose at he;split at he
  ·cases he
  split at he
  ·cases he
  cases he;exact hs _
 ·unfold NS.rPrevote at he;split at he
  ·cases he
  split at he
  ·cases he
  split at he
  ·cases he
  cases he;exact hs _
 ·unfold NS.rMiss at he;split at he
  ·cases he
  cases he;exact hs _
 ·unfold NS.rKey at he;split at he
  ·cases he
  split at he
  ·cases he
  simp only at he;cases he;split
  ·exact hs _
  exact hs _
 ·unfold NS.rWait at he;split at he
  ·cases he
  split at he
  ·cases he;exact same
  split at he
  ·cases he;exact hs _
  cases he
 ·unfold NS.rSeal at he;split at he
  ·cases he
  split at he
  ·cases he
  cases he;exact hs2 _ _ rfl rfl rfl (Int.le_refl _)
 ·unfold NS.rLeave at he;split at he
  ·cases he
  cases he;exact hs _
 ·unfold NS.rNext at he;split at he
  ·cases he
  cases he;exact ⟨rfl,rfl,rfl,by show s.round≤s.round+1;omega⟩
 cases he
theorem run_kp {sz:D→Prop}:∀(k:Nat) {s:NS D L},InvS sz s→(NS.runS k s).id=s.id∧(NS.runS k s).n=s.n∧(NS.runS k s).height=s.height∧s.round≤(NS.runS k s).round
 | 0,s,_=>⟨rfl,rfl,rfl,Int.le_refl _⟩
 | k+1,s,hi=>by
  unfold NS.runS;split
  ·exact ⟨rfl,rfl,rfl,Int.le_refl _⟩
  split
  ·exact ⟨rfl,rfl,rfl,Int.le_refl _⟩
  rename_i s' he
  obtain ⟨j,_,hj,_⟩:=firstR_some he;obtain ⟨a1,a2,a3,a4⟩:=rule_kp hi hj;obtain ⟨b1,b2,b3,b4⟩:=run_kp k (step_inv hi he).1;exact ⟨b1.trans a1,b2.trans a2,b3.trans a3,Int.le_trans a4 b4⟩
def Meek (G:D→L→Prop) (k:Nat) (s:NS D L):Prop:=Shy G s.id→s.height=0∧(NS.runS k s).round=0
theorem Meek.not {sz:D→Prop} {G:D→L→Prop} {k:Nat} {s:NS D L} (h:Meek G k s) (hi:InvS sz s):Shy G s.id→s.proposer s.id s.height s.round=false:=fun q=>by
 obtain ⟨h1,h2⟩:=h q;have h3:=(run_kp k hi).2.2.2;have h4:=hi.num.r0;have h5:=hi.num.n1;have hr:s.round=0:=by omega
 unfold NS.proposer;rw [h1,hr];show decide ((0+0:Int) % s.n=s.id)=false;rw [show ((0+0:Int) % s.n)=0 from Int.zero_emod _];exact decide_eq_false (fun e=>q.2 e.symm)
theorem Meek.next {sz:D→Prop} {G:D→L→Prop} {k:Nat} {s s':NS D L} (h:Meek G (k+1) s) (hi:InvS sz s) (hd:s.isDec s.height=false) (he:s.stepS=some s'):Meek G k s':=fun q=>by
 obtain ⟨j,_,hj,_⟩:=firstR_some he;obtain ⟨a1,a2,a3,a4⟩:=rule_kp hi hj;rw [a1] at q;obtain ⟨h1,h2⟩:=h q;unfold NS.runS at h2;rw [if_neg (by rw [hd];exact Bool.false_ne_true),he] at h2;exact ⟨a3.trans h1,h2⟩
theorem Meek.of {G:D→L→Prop} (hG:¬∀d l d' l',G d l→G d' l'→d=d') {k:Nat} {s:NS D L}:Meek G k s:=fun q=>absurd q.1 hG
theorem run_G {sz:D→Prop} {G:D→L→Prop}:∀(k:Nat) {s:NS D L},InvS sz s→GI sz G s→Meek G k s→GI sz G (NS.runS k s)
 | 0,s,_,h,_=>h
 | k+1,s,hi,h,hm=>by
  unfold NS.runS;split
  ·exact h
  rename_i hd
  split
  ·exact h
  rename_i s' he
  obtain ⟨j,_,hj,_⟩:=firstR_some he;exact run_G k (step_inv hi he).1 (rule_G hi h (hm.not hi) hj) (hm.next hi (by simpa using hd) he)
def MeekT (G:D→L→Prop) (s:NS D L):Prop:=Meek G ((({s with ques:=[]}:NS D L).ticked).mu+2) (({s with ques:=[]}:NS D L).ticked)
theorem tick_G {sz:D→Prop} {G:D→L→Prop} {s:NS D L} (hi:InvS sz s) (h:GI sz G s) (hm:MeekT G s):GI sz G s.tick.1:=by
 have h1:GI sz G ({s with ques:=[]}:NS D L):=h.of rfl rfl h.vg h.lg h.og h.dg rfl rfl rfl rfl;unfold NS.tick;simp only;split
 ·exact h1
 exact run_G _ (ticked_inv (noques_inv hi)) (h1.of rfl rfl h1.vg h1.lg h1.og h1.dg rfl rfl rfl rfl) hm
theorem new_G (sz:D→Prop) (G:D→L→Prop) (id n:Int):GI sz G (newS id n:NS D L):=
 ⟨fun p hp=>no_mem hp,fun p hp=>no_mem hp,fun v hv=>no_some hv,fun v hv=>no_some hv,fun v hv=>no_some hv,fun p hp=>no_mem hp,fun m hm=>no_mem hm⟩
theorem moved_G {sz:D→Prop} {G:D→L→Prop} {s:NS D L} (h:GI sz G s) (k r:Int):GI sz G (s.moved k r):=
 ⟨fun p hp=>no_mem hp,fun p hp=>no_mem hp,fun v hv=>no_some hv,fun v hv=>no_some hv,fun v hv=>no_some hv,h.dg,fun m hm=>no_mem hm⟩
theorem begin_G {sz:D→Prop} {G:D→L→Prop} {s:NS D L} (h:GI sz G s) (k:Int) (ok:Bool) {d:D} {l:L} (hd:ok=true→¬Shy G s.id→G d l):GI sz G (s.begin k ok d l).1:=by
 unfold NS.begin;split
 ·exact h
 rename_i hok
 have hd:=hd (by simpa using hok);split
 ·exact h.of rfl rfl h.vg h.lg (fun v hv=>by cases hv;exact hd) h.dg rfl rfl rfl rfl
 split
 ·have h1:=moved_G h k 0;exact h1.of rfl rfl h1.vg h1.lg (fun v hv=>by cases hv;exact hd) h1.dg rfl rfl rfl rfl
 exact h
theorem accept_G {sz:D→Prop} {G:D→L→Prop} {s:NS D L} (h:GI sz G s) (d:D):GI sz G (s.accept d):=h.of rfl rfl h.vg h.lg h.og h.dg rfl rfl rfl rfl
theorem learn_G {sz:D→Prop} {G:D→L→Prop} {s:NS D L} (h:GI sz G s) (k:Int) (ok:Bool) {d:D} {l:L} (hd:ok=true→G d l):GI sz G (s.learn k ok d l).1:=by
 unfold NS.learn;split
 ·exact h
 rename_i q
 simp only [not_or,Bool.not_eq_false] at q;have key:GI sz G {s with decs:=putA k ⟨-1,d,l⟩ s.decs}:=h.of rfl rfl h.vg h.lg h.og (fun p hp=>by
  rcases mem_putA hp with rfl | hp
  ·exact hd q.1
  exact h.dg p hp) rfl rfl rfl rfl
 split
 ·split
  ·exact h
  exact key
 exact key
theorem receive_G {sz:D→Prop} {G:D→L→Prop} {s:NS D L} (h:GI sz G s) {m:Msg D L} {ok:Bool} (hm:ok=true→m.kind=3→G m.dig m.list):GI sz G (s.receive m ok):=by
 unfold NS.receive;split
 ·exact h
 rename_i q
 simp only [not_or,Bool.not_eq_false] at q;split
 ·exact h
 split
 ·obtain ⟨a,b,e⟩:=ask_same s m;rw [e];exact h.of rfl rfl h.vg h.lg h.og h.dg rfl rfl rfl rfl
 split
 ·exact h
 split
 ·obtain ⟨hb,e1,e2,e3,e4,e5,e6⟩:=putVote_same s m;exact h.of e6 hb.claims (by rw [hb.valid];exact h.vg) (by rw [hb.lock];exact h.lg) (by rw [hb.own];exact h.og) (by rw [hb.decs];exact h.dg) e4 hb.id hb.height hb.n
 rename_i hk
 have hG:=hm q.1 (by simpa using hk);have own:∀s':NS D L,s'.mine=s.mine→s'.id=s.id→s'.height=s.height→s'.n=s.n→∀x∈s'.mine,OwnM sz G s' x:=fun s' a b c d x hx=>by
  have:=h.mg x (a ▸ hx);exact ⟨by rw [b];exact this.frm,by rw [c];exact this.height,by unfold NS.proposer;rw [b,c,d];exact this.prop,this.vote⟩
 split
 ·exact ⟨fun p hp=>by
   rcases mem_keepA hp with rfl | hp
   ·exact hG
   exact h.pg p hp,h.cg,h.vg,h.lg,h.og,h.dg,own _ rfl rfl rfl rfl⟩
 split
 ·exact h
 exact ⟨h.pg,fun p hp=>by
  rcases mem_putA hp with rfl | hp
  ·exact hG
  exact h.cg p hp,h.vg,h.lg,h.og,h.dg,own _ rfl rfl rfl rfl⟩
structure CohS (s:NS D L):Prop where
 p:∀a∈s.props,∀b∈s.props,a.2.dig=b.2.dig→a.2.list=b.2.list
 c:∀a∈s.claims,∀b∈s.claims,a.2.dig=b.2.dig→a.2.list=b.2.list
theorem GI.coh {sz:D→Prop} {G:D→L→Prop} (hG:∀d l l',G d l→G d l'→l=l') {s:NS D L} (h:GI sz G s):CohS s:=
 ⟨fun a ha b hb e=>hG _ _ _ (h.pg a ha) (e ▸ h.pg b hb),fun a ha b hb e=>hG _ _ _ (h.cg a ha) (e ▸ h.cg b hb)⟩
end
end Go.Proofs.YtifcdjmcoibblaaGreatDoor
