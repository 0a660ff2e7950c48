/- ConP ConU Net Hlp Lst -/
import Derived.Test.YtifcdjmcoibblaaGreatDoorLq09
import Derived.Test.YtifcdjmcoibblaaGreatDoorLq03
import Derived.Test.YtifcdjmcoibblaaGreatDoorLq04
import Derived.Test.YtifcdjmcoibblaaGreatDoorLq25
import Derived.Test.YtifcdjmcoibblaaGreatDoorLq26
import Derived.Test.YtifcdjmcoibblaaGreatDoorLq14
import Derived.Test.YtifcdjmcoibblaaGreatDoorLq06
import Derived.Lib.SlicesS
import Derived.Sort.Walk0
import Derived.Deep.QuietTactic
import Derived.BigQuiet
import Derived.Test.YtifcdjmcoibblaaGreatDoorLq01
import Derived.Test.YtifcdjmcoibblaaGreatDoorLq19
set_option linter.unusedVariables false
set_option linter.unusedSimpArgs false
set_option linter.unusedSectionVars false
namespace Go.Proofs.YtifcdjmcoibblaaGreatDoor
structure QuesI (q:List (Int×(Int×Int))):Prop where
 nd:(q.map (·.1)).Nodup
 rg:∀p∈q,0≤p.1∧p.1<7∧0≤p.2.1∧p.2.1<1200∧0≤p.2.2∧p.2.2≤99
theorem QuesI.nil:QuesI []:=⟨List.nodup_nil,by simp⟩
theorem QuesI.put {l:List (Int×(Int×Int))} (h:QuesI l) {k:Int} {v:Int×Int} (hk:0≤k∧k<7) (hv:0≤v.1∧v.1<1200∧0≤v.2∧v.2≤99):QuesI (putA k v l):=
 ⟨nodup_putA h.nd,fun p hp=>by
  rcases mem_putA hp with e | e
  ·rw [e];exact ⟨hk.1,hk.2,hv.1,hv.2.1,hv.2.2.1,hv.2.2.2⟩
  exact h.rg p e⟩
theorem delA_sub {κ β:Type} [DecidableEq κ] (k:κ):∀l:List (κ×β),(delA k l).Sublist l
 | []=>.slnil
 | p :: l=>by
  unfold delA;split
  ·exact List.sublist_cons_self p l
  exact (delA_sub k l).cons_cons p
theorem QuesI.del {l:List (Int×(Int×Int))} (h:QuesI l) (k:Int):QuesI (delA k l):=
 ⟨h.nd.sublist ((delA_sub k l).map _),fun p hp=>h.rg p ((delA_sub k l).subset hp)⟩
theorem nodup_below:∀(n:Nat) {l:List Int},l.Nodup→(∀x∈l,0≤x∧x<n)→l.length≤n
 | 0,l,_,h=>by
  rcases l with _ | ⟨a,l⟩
  ·simp
  ·exact absurd (h a (by simp)) (by omega)
 | n+1,l,hn,h=>by
  have h2:=nodup_below n (l:=l.filter fun x:Int=>decide (x≠(n:Int))) (hn.sublist List.filter_sublist) (fun x hx=>by
   simp only [List.mem_filter,decide_eq_true_eq] at hx;have:=h x hx.1;have h3:=hx.2;constructor
   ·exact this.1
   have:=this.2;push_cast at this;omega)
  have h3:l.length≤(l.filter fun x:Int=>decide (x≠(n:Int))).length+1:=by
   clear h2 h;induction l with
   | nil=>simp
   | cons a l ih=>
    rw [List.nodup_cons] at hn;by_cases ha:a=n
    ·have e:(l.filter fun x:Int=>decide (x≠(n:Int)))=l:=by
      rw [List.filter_eq_self];intro b hb;have:b≠a:=fun q=>hn.1 (q ▸ hb);simp only [decide_eq_true_eq];rw [←ha];exact this
     subst ha;rw [List.filter_cons];simp only [ne_eq,not_true_eq_false,decide_false,Bool.false_eq_true,if_false,List.length_cons];simp only [ne_eq] at e;rw [e];exact Nat.le_refl _
    have:=ih hn.2;rw [List.filter_cons];simp only [ne_eq,ha,not_false_eq_true,decide_true,if_true,List.length_cons];simp only [ne_eq] at this;omega
  omega
theorem QuesI.len {l:List (Int×(Int×Int))} (h:QuesI l):l.length≤7:=by
 have:=nodup_below 7 h.nd (fun x hx=>by
  obtain ⟨p,hp,rfl⟩:=List.mem_map.1 hx;have:=h.rg p hp;exact ⟨this.1,this.2.1⟩)
 simpa using this
theorem QuesI.get {l:List (Int×(Int×Int))} (h:QuesI l) {k:Int} {v:Int×Int} (e:getA k l=some v):0≤k∧k<7∧0≤v.1∧v.1<1200∧0≤v.2∧v.2≤99:=h.rg (k,v) (getA_mem e)
section
variable {D L:Type} [Dg D] [Inhabited L]
theorem ask_ques {s:NS D L} (h:QuesI s.ques) {m:Msg D L} (hf:0≤m.frm∧m.frm<7) (hh:0≤m.height∧m.height<1200) (hr:0≤m.round∧m.round≤99):QuesI (s.ask m).ques:=by
 have hp:QuesI (putA m.frm (m.height,m.round) s.ques):=h.put hf ⟨hh.1,hh.2,hr.1,hr.2⟩;unfold NS.ask;split
 ·show QuesI (match getA m.frm s.ques with | some q=>if q.1=m.height then delA m.frm s.ques else s.ques | none=>s.ques);split
  ·split
   ·exact h.del _
   exact h
  exact h
 split
 ·exact h
 split
 ·split
  ·exact hp
  exact h
 exact hp
theorem receive_ques {s:NS D L} (h:QuesI s.ques) {m:Msg D L} {ok:Bool} (hn:s.n≤7) (hf:ok=true→0≤m.frm) (hh:ok=true→0≤m.height∧m.height<1200) (hr:ok=true→0≤m.round∧m.round≤99):QuesI (s.receive m ok).ques:=by
 unfold NS.receive;split
 ·exact h
 rename_i q
 simp only [not_or,Bool.not_eq_false,Decidable.not_not,Int.not_le,Int.not_lt] at q;obtain ⟨q1,q2,q3,q4⟩:=q;split
 ·exact h
 split
 ·exact ask_ques h ⟨hf q1,by omega⟩ (hh q1) (hr q1)
 split
 ·exact h
 split
 ·rw [(putVote_same s m).1.ques];exact h
 split
 ·exact h
 split
 ·exact h
 exact h
theorem tick_ques {sz:D→Prop} {s:NS D L} (hi:InvS sz s):QuesI s.tick.1.ques:=by
 have h:=(tick_keep hi).ques;rw [h];exact QuesI.nil
theorem new_ques (id n:Int):QuesI (newS id n:NS D L).ques:=QuesI.nil
theorem begin_ques {s:NS D L} (h:QuesI s.ques) (k:Int) (ok:Bool) (d:D) (l:L):QuesI (s.begin k ok d l).1.ques:=by
 unfold NS.begin;split
 ·exact h
 split
 ·exact h
 split
 ·exact h
 exact h
theorem accept_ques {s:NS D L} (h:QuesI s.ques) (d:D):QuesI (s.accept d).ques:=h
theorem learn_ques {s:NS D L} (h:QuesI s.ques) (k:Int) (ok:Bool) (d:D) (l:L):QuesI (s.learn k ok d l).1.ques:=by
 unfold NS.learn;split
 ·exact h
 split
 ·split
  ·exact h
  exact h
 exact h
end
section
variable {D L:Type} [Dg D] [Inhabited L]
structure QI (s:NS D L):Prop where
 q:QuesI s.ques
 o:∀p∈s.ques,p.1<s.n∧p.1≠s.id∧s.isDec p.2.1=true
theorem QI.of {s s':NS D L} (h:QI s) (hq:s'.ques=s.ques) (hn:s'.n=s.n) (hi:s'.id=s.id) (hd:∀k,s.isDec k=true→s'.isDec k=true):QI s':=
 ⟨by rw [hq];exact h.q,fun p hp=>by
  have:=h.o p (hq ▸ hp);exact ⟨by rw [hn];exact this.1,by rw [hi];exact this.2.1,hd _ this.2.2⟩⟩
theorem QI.none {s:NS D L} (h:s.ques = []):QI s:=⟨by rw [h];exact QuesI.nil,fun p hp=>by rw [h] at hp;cases hp⟩
theorem ask_QI {s:NS D L} (h:QI s) {m:Msg D L} (hf:0≤m.frm∧m.frm<7) (hfn:m.frm<s.n∧m.frm≠s.id) (hh:0≤m.height∧m.height<1200) (hr:0≤m.round∧m.round≤99) (hd:s.isDec m.height=true):QI (s.ask m):=by
 have hq:=ask_ques h.q (m:=m) hf hh hr;obtain ⟨a,b,e⟩:=ask_same s m;refine ⟨hq,fun p hp=>?_⟩;have hm:p=(m.frm,(m.height,m.round))∨p∈s.ques:=by
  have hput:p∈putA m.frm (m.height,m.round) s.ques→p=(m.frm,(m.height,m.round))∨p∈s.ques:=mem_putA;unfold NS.ask at hp;split at hp
  ·have hp:p∈(match getA m.frm s.ques with | some q=>if q.1=m.height then delA m.frm s.ques else s.ques | none=>s.ques):=hp;split at hp
   ·split at hp
    ·exact .inr ((delA_sub _ _).subset hp)
    exact .inr hp
   exact .inr hp
  split at hp
  ·exact .inr hp
  split at hp
  ·split at hp
   ·exact hput hp
   exact .inr hp
  exact hput hp
 rw [e];rcases hm with rfl | hm
 ·exact ⟨hfn.1,hfn.2,hd⟩
 exact h.o p hm
structure InM (m:Msg D L):Prop where
 f0:0≤m.frm
 ft:m.frm≠m.to
 h0:0≤m.height
 h1:m.height<1200
 r0:0≤m.round
 r1:m.round≤99
theorem receive_QI {s:NS D L} (h:QI s) {m:Msg D L} {ok:Bool} (hn:s.n≤7) (hm:ok=true→m.kind=3∨m.kind=4∨m.kind=6∨m.kind=5→InM m):QI (s.receive m ok):=by
 unfold NS.receive;split
 ·exact h
 rename_i q
 simp only [not_or,Bool.not_eq_false,Decidable.not_not,Int.not_le,Int.not_lt] at q;obtain ⟨q1,q2,q3,q4⟩:=q;split
 ·exact h
 rename_i hk
 simp only [Decidable.not_not] at hk;have hm:=hm q1 hk;split
 ·rename_i hd
  exact ask_QI h ⟨hm.f0,by omega⟩ ⟨q3,by rw [←q2];exact hm.ft⟩ ⟨hm.h0,hm.h1⟩ ⟨hm.r0,hm.r1⟩ hd
 split
 ·exact h
 split
 ·obtain ⟨hb,_⟩:=putVote_same s m;exact h.of hb.ques hb.n hb.id (fun k hk=>by unfold NS.isDec at hk ⊢;rw [hb.decs];exact hk)
 split
 ·exact h.of rfl rfl rfl (fun _ hk=>hk)
 split
 ·exact h
 exact h.of rfl rfl rfl (fun _ hk=>hk)
theorem tick_QI {sz:D→Prop} {s:NS D L} (hi:InvS sz s):QI s.tick.1:=QI.none (tick_keep hi).ques
theorem new_QI (id n:Int):QI (newS id n:NS D L):=QI.none rfl
theorem begin_QI {s:NS D L} (h:QI s) (k:Int) (ok:Bool) (d:D) (l:L):QI (s.begin k ok d l).1:=by
 unfold NS.begin;split
 ·exact h
 split
 ·exact h.of rfl rfl rfl (fun _ hk=>hk)
 split
 ·exact h.of rfl rfl rfl (fun _ hk=>hk)
 exact h
theorem accept_QI {s:NS D L} (h:QI s) (d:D):QI (s.accept d):=h.of rfl rfl rfl (fun _ hk=>hk)
theorem isDec_putA {s:NS D L} {k j:Int} {v:Val D L} (h:s.isDec j=true):(getA j (putA k v s.decs)).isSome=true:=by
 rw [getA_put];split
 ·rfl
 exact h
theorem learn_QI {s:NS D L} (h:QI s) (k:Int) (ok:Bool) (d:D) (l:L):QI (s.learn k ok d l).1:=by
 unfold NS.learn;split
 ·exact h
 split
 ·split
  ·exact h
  exact h.of rfl rfl rfl (fun _ hk=>isDec_putA hk)
 exact h.of rfl rfl rfl (fun _ hk=>isDec_putA hk)
structure OutM (sz:D→Prop) (G:D→L→Prop) (me n:Int) (m:Msg D L):Prop where
 frm:m.frm=me
 t0:0≤m.to
 t1:m.to<n
 tm:m.to≠me
 h0:0≤m.height
 h1:m.height<1200
 r0:0≤m.round
 r1:m.round≤99
 kind:m.kind=3∨m.kind=4∨m.kind=6∨m.kind=5
 prop:m.kind=3→G m.dig m.list∧-1≤m.valid∧m.valid<m.round
 vote:m.kind≠3→m.valid=0∧m.list=default∧sz m.dig
theorem mem_sortI {x:Int}:∀{l:List Int},x∈sortI l→x∈l
 | [],h=>by cases h
 | a :: l,h=>by
  have hins:∀(y:Int) (m:List Int),x∈insI y m→x=y∨x∈m:=by
   intro y m;induction m with
   | nil=>intro h;simp [insI] at h;exact .inl h
   | cons b m ih=>
    intro h;unfold insI at h;split at h
    ·rcases List.mem_cons.1 h with e | e
     ·exact .inl e
     exact .inr e
    rcases List.mem_cons.1 h with e | e
    ·exact .inr (by rw [e];simp)
    rcases ih e with e | e
    ·exact .inl e
    exact .inr (List.mem_cons_of_mem _ e)
  rcases hins a (sortI l) h with e | e
  ·rw [e];simp
  exact List.mem_cons_of_mem _ (mem_sortI e)
theorem claimRound_ok (s:NS D L) (h:Int) {r:Int} (h0:0≤r) (h1:r≤99):0≤s.claimRound h r∧s.claimRound h r≤99:=by
 unfold NS.claimRound;split
 ·exact ⟨h0,h1⟩
 split <;> omega
theorem decs_G {sz:D→Prop} {G:D→L→Prop} {s:NS D L} (hg:GI sz G s) {k:Int} (h:s.isDec k=true):G (s.decDig k) (s.decList k):=by
 unfold NS.isDec at h;unfold NS.decDig NS.decList;rcases e:getA k s.decs with _ | v
 ·rw [e] at h;cases h
 exact hg.dg _ (getA_mem e)
theorem answers_out {sz:D→Prop} {G:D→L→Prop} (hGz:∀d l,G d l→sz d) {s:NS D L} (hi:InvS sz s) (hg:GI sz G s) (hq:QI s):∀m∈s.answers,OutM sz G s.id s.n m:=by
 intro m hm;unfold NS.answers at hm;obtain ⟨site,hs,hm⟩:=List.mem_flatMap.1 hm;split at hm
 ·rename_i q e
  obtain ⟨a1,a2,a3,a4,a5,a6⟩:=hq.q.get e;obtain ⟨b1,b2,b3⟩:=hq.o _ (getA_mem e);have hG:=decs_G hg b3;have hz:=hGz _ _ hG;unfold NS.answer at hm;simp only [List.cons_append,List.nil_append,List.mem_cons,List.mem_append,List.mem_map,List.mem_range,List.not_mem_nil,or_false] at hm;have hc:=claimRound_ok s q.1 a5 a6;rcases hm with rfl | rfl | ⟨i,hi,rfl⟩ | rfl
  ·exact ⟨rfl,a1,b1,b2,a3,a4,hc.1,hc.2,.inl rfl,fun _=>⟨hG,Int.le_refl _,by show -1<s.claimRound q.1 q.2;omega⟩,fun h=>absurd rfl h⟩
  ·exact ⟨rfl,a1,b1,b2,a3,a4,a5,a6,.inr (.inl rfl),fun h=>absurd h (by show ¬((4:Int)=3);decide),fun _=>⟨rfl,rfl,hz⟩⟩
  ·exact ⟨rfl,a1,b1,b2,a3,a4,by show (0:Int)≤i;omega,by show (i:Int)≤99;omega,.inr (.inr (.inl rfl)),fun h=>absurd h (by show ¬((6:Int)=3);decide),fun _=>⟨rfl,rfl,hz⟩⟩
  exact ⟨rfl,a1,b1,b2,a3,a4,a5,a6,.inr (.inr (.inr rfl)),fun h=>absurd h (by show ¬((5:Int)=3);decide),fun _=>⟨rfl,rfl,hz⟩⟩
 cases hm
theorem mem_sends {s:NS D L} {ms:List (Msg D L)} {m:Msg D L} (h:m∈s.sends ms):∃a∈ms,∃t:Nat,(t:Int)<s.n∧(t:Int)≠s.id∧m=⟨a.kind,a.frm,(t:Int),a.height,a.round,a.valid,a.dig,a.list⟩:=by
 unfold NS.sends at h;obtain ⟨a,ha,h⟩:=List.mem_flatMap.1 h;obtain ⟨t,ht,h⟩:=List.mem_filterMap.1 h;split at h
 ·rename_i hne
  rw [List.mem_range] at ht;exact ⟨a,ha,t,by omega,hne,by simpa using h.symm⟩
 cases h
theorem sends_out {sz:D→Prop} {G:D→L→Prop} {s:NS D L} (hi:InvS sz s) (hg:GI sz G s) {ms:List (Msg D L)} (hms:∀m∈ms,m∈s.mine):∀m∈s.sends ms,OutM sz G s.id s.n m:=by
 intro m hm;obtain ⟨a,ha,t,h1,h2,rfl⟩:=mem_sends hm;have hmine:=hms a ha;obtain ⟨r1,r2,r3,r4⟩:=hi.min.rng a hmine;have ho:=hg.mg a hmine;exact ⟨ho.frm,by show (0:Int)≤t;omega,h1,h2,by show 0≤a.height;rw [ho.height];exact hi.num.h0,by show a.height<1200;rw [ho.height];exact hi.num.h1,r3,r4,by show a.kind=3∨a.kind=4∨a.kind=6∨a.kind=5;omega,fun h=>⟨(ho.prop h).1,(ho.prop h).2.1,(ho.prop h).2.2.1⟩,ho.vote⟩
theorem tick_sends {s:NS D L} (h:s.isDec s.height=false):∃t,s.tick.2=s.answers ++ s.tick.1.sends (s.tick.1.mine.drop t):=by
 unfold NS.tick;simp only;rw [if_neg (by show ¬s.isDec s.height=true;rw [h];simp)];exact ⟨_,rfl⟩
theorem tick_out {sz:D→Prop} {G:D→L→Prop} (hGz:∀d l,G d l→sz d) {s:NS D L} (hi:InvS sz s) (hg:GI sz G s) (hq:QI s):∀m∈s.tick.2,OutM sz G s.id s.n m:=by
 intro m hm;rcases hd:s.isDec s.height with _ | _
 ·obtain ⟨t,e⟩:=tick_sends hd;rw [e] at hm;rcases List.mem_append.1 hm with hm | hm
  ·exact answers_out hGz hi hg hq m hm
  have hk:=tick_keep hi;have:=sends_out (tick_inv hi) (tick_G hi hg) (fun a ha=>List.mem_of_mem_drop ha) m hm;rw [hk.id,hk.n] at this;exact this
 have e:s.tick.2=s.answers:=by
  unfold NS.tick;simp only;rw [if_pos (show ({s with ques:=[]}:NS D L).isDec _=true from hd)]
 rw [e] at hm;exact answers_out hGz hi hg hq m hm
end
set_option maxRecDepth 100000
set_option maxHeartbeats 80000000
section
open Go.RowKit
structure Fit (G:ByteArray→List ByteArray→Prop) (s:StB):Prop where
 ok:Ok G s
 qi:QI s
def Step (R:Nat→Prop) (w:World) (x:Nat) (s':StB) (w':World) (R':Nat→Prop):Prop:=(∃p,NodeP R' w' x p s')∧Chg R w w'∧Grows R R' w
theorem Turned.step {R:Nat→Prop} {w w':World} {x:Nat} {s':StB} (h:Turned R w x s' w'):∃R',Step R w x s' w' R':=by
 obtain ⟨p,R',a,b,c⟩:=h;exact ⟨R',⟨p,a⟩,b,c⟩
structure Net (G:ByteArray→List ByteArray→Prop) (base:Nat) (w:World) (xs:List Nat) (ss:List StB) (Rs:Nat→Nat→Prop):Prop where
 len:xs.length=ss.length
 node:∀i x s,xs[i]?=some x→ss[i]?=some s→∃p,NodeP (Rs i) w x p s
 fit:∀s∈ss,Fit G s
 dis:∀i j k,i<xs.length→j<xs.length→i≠j→Rs i k→¬Rs j k
 lo:∀i k,i<xs.length→Rs i k→base≤k
def AllR (n:Nat) (Rs:Nat→Nat→Prop) (k:Nat):Prop:=∃i,i<n∧Rs i k
section
variable {G:ByteArray→List ByteArray→Prop} {base:Nat} {w w':World} {xs:List Nat} {ss:List StB} {Rs:Nat→Nat→Prop}
theorem Net.lt (h:Net G base w xs ss Rs) {k:Nat} (hk:AllR xs.length Rs k):k<w.heap.size:=by
 obtain ⟨i,hi,hr⟩:=hk;obtain ⟨p,hp⟩:=h.node i xs[i] (ss[i]'(by rw [←h.len];exact hi)) (List.getElem?_eq_getElem hi) (List.getElem?_eq_getElem _);exact hp.lt k hr
theorem Net.low (h:Net G base w xs ss Rs) {k:Nat} (hk:AllR xs.length Rs k):base≤k:=by
 obtain ⟨i,hi,hr⟩:=hk;exact h.lo i k hi hr
theorem Net.nil (G:ByteArray→List ByteArray→Prop) (base:Nat) (w:World) (Rs:Nat→Nat→Prop):Net G base w [] [] Rs:=
 ⟨rfl,fun i x s hx _=>by simp at hx,fun s hs=>(List.not_mem_nil hs).elim,fun i j k hi _ _ _=>absurd hi (Nat.not_lt_zero i),fun i k hi _=>absurd hi (Nat.not_lt_zero i)⟩
theorem Net.later (h:Net G base w xs ss Rs) (hb:Below w.heap.size w w'):Net G base w' xs ss Rs:=
 ⟨h.len,fun i x s hx hs=>by
  obtain ⟨p,hp⟩:=h.node i x s hx hs;exact ⟨p,hp.below hb⟩,h.fit,h.dis,h.lo⟩
theorem Net.push (h:Net G base w xs ss Rs) (hb:Below w.heap.size w w') {x:Nat} {s:StB} {R:Nat→Prop} {p:Ptr} (hp:NodeP R w' x p s) (hR:∀k,R k→w.heap.size≤k) (hf:Fit G s) (hbs:base≤w.heap.size) :
  Net G base w' (xs ++ [x]) (ss ++ [s]) (fun j=>if j<xs.length then Rs j else R):=by
 have h2:=h.later hb;have hl:=h.len;refine ⟨by simp [hl],fun i y t hy ht=>?_,fun t ht=>?_,fun i j k hi hj hne hr=>?_,fun i k hi hr=>?_⟩
 ·by_cases q:i<xs.length
  ·rw [if_pos q];rw [List.getElem?_append_left q] at hy;rw [List.getElem?_append_left (by omega)] at ht;exact h2.node i y t hy ht
  rw [if_neg q];have hi:=(List.getElem?_eq_some_iff.1 hy).1;rw [List.length_append,List.length_singleton] at hi;obtain rfl:i=xs.length:=by omega
  rw [List.getElem?_append_right (Nat.le_refl _)] at hy;rw [hl,List.getElem?_append_right (Nat.le_refl _)] at ht;simp at hy ht;subst hy ht;exact ⟨p,hp⟩
 ·rw [List.mem_append,List.mem_singleton] at ht;rcases ht with ht | rfl
  ·exact h.fit t ht
  exact hf
 ·rw [List.length_append,List.length_singleton] at hi hj;by_cases q:i<xs.length
  ·rw [if_pos q] at hr;by_cases q2:j<xs.length
   ·rw [if_pos q2];exact h.dis i j k q q2 hne hr
   rw [if_neg q2];intro hk;have:=h.lt ⟨i,q,hr⟩;have:=hR k hk;omega
  rw [if_neg q] at hr;have q2:j<xs.length:=by omega
  rw [if_pos q2];intro hk;have:=h.lt ⟨j,q2,hk⟩;have:=hR k hr;omega
 rw [List.length_append,List.length_singleton] at hi;by_cases q:i<xs.length
 ·rw [if_pos q] at hr;exact h.lo i k q hr
 rw [if_neg q] at hr;have:=hR k hr;omega
theorem Net.step (h:Net G base w xs ss Rs) (hbs:base≤w.heap.size) {i x:Nat} (hx:xs[i]?=some x) {s':StB} {R':Nat→Prop} (hs:Step (Rs i) w x s' w' R') (hf:Fit G s') :
  Net G base w' xs (ss.set i s') (fun j=>if j=i then R' else Rs j):=by
 obtain ⟨⟨p',hp⟩,hc,hg⟩:=hs;have hi:=(List.getElem?_eq_some_iff.1 hx).1;have hl:=h.len;refine ⟨by simp [hl],fun j y t hy ht=>?_,fun t ht=>?_,fun a b k ha hb hne hr=>?_,fun a k ha hr=>?_⟩
 ·by_cases q:j=i
  ·subst q;rw [if_pos rfl];rw [hx] at hy;obtain rfl:x=y:=by injection hy
   rw [List.getElem?_set_self (by omega)] at ht;obtain rfl:s'=t:=by injection ht
   exact ⟨p',hp⟩
  rw [if_neg q];rw [List.getElem?_set_ne (fun e=>q e.symm)] at ht;obtain ⟨p,hq⟩:=h.node j y t hy ht;have hj:=(List.getElem?_eq_some_iff.1 hy).1;exact ⟨p,hq.later (fun k hk=>hc.block k (hq.lt k hk) (h.dis j i k hj hi q hk)) hc.size⟩
 ·rcases List.mem_or_eq_of_mem_set ht with q | rfl
  ·exact h.fit t q
  exact hf
 ·by_cases qa:a=i
  ·subst qa;rw [if_pos rfl] at hr;rw [if_neg (fun e=>hne e.symm)];intro hk;rcases hg.2 k hr with q | q
   ·exact h.dis _ b k ha hb hne q hk
   have:=h.lt ⟨b,hb,hk⟩;omega
  rw [if_neg qa] at hr;by_cases qb:b=i
  ·subst qb;rw [if_pos rfl];intro hk;rcases hg.2 k hk with q | q
   ·exact h.dis a _ k ha hb hne hr q
   have:=h.lt ⟨a,ha,hr⟩;omega
  rw [if_neg qb];exact h.dis a b k ha hb hne hr
 by_cases qa:a=i
 ·subst qa;rw [if_pos rfl] at hr;rcases hg.2 k hr with q | q
  ·exact h.lo _ k ha q
  omega
 rw [if_neg qa] at hr;exact h.lo a k ha hr
theorem AllR.step {n i:Nat} {R':Nat→Prop} (hi:i<n) (hg:Grows (Rs i) R' w) {k:Nat} (hk:AllR n (fun j=>if j=i then R' else Rs j) k):AllR n Rs k∨w.heap.size≤k:=by
 obtain ⟨j,hj,hr⟩:=hk;by_cases q:j=i
 ·subst q;rw [if_pos rfl] at hr;rcases hg.2 k hr with q | q
  ·exact .inl ⟨_,hi,q⟩
  exact .inr q
 rw [if_neg q] at hr;exact .inl ⟨j,hj,hr⟩
theorem AllR.chg {n i:Nat} (hi:i<n) (hc:Chg (Rs i) w w'):Chg (AllR n Rs) w w':=hc.mono (fun k _ hk=>⟨i,hi,hk⟩)
end
end
section
open Go.RowKit
def pickZ (c n:Int):Int:=(if c<0 then -(c+1) else c) % n
theorem pickZ_lo (c n:Int) (hn:0<n):0≤pickZ c n:=Int.emod_nonneg _ (by omega)
theorem pickZ_hi (c n:Int) (hn:0<n):pickZ c n<n:=Int.emod_lt_of_pos _ hn
theorem pickZ_nat (c:Int) (n:Nat) (hn:0<n):∃k:Nat,k<n∧pickZ c n=k:=⟨(pickZ c n).toNat,by have:=pickZ_lo c n (by omega);have:=pickZ_hi c n (by omega);omega,by have:=pickZ_lo c n (by omega);omega⟩
theorem pick_any (c n:Int) (w:World) (h1:-9223372036854775808≤c) (h2:c≤9223372036854775807) (h3:1≤n) (h4:n≤9223372036854775807) :
  Calls Tryz.prog 14 #[.int .i64 c,.int .i64 n] w fun e w'=>e = .returned (.int .i64 (pickZ c n))∧w=w':=by
 by_cases h:c<0
 ·have hp:pickZ c n = -((c+1).tmod n):=by
   unfold pickZ;rw [if_pos h,←Int.neg_tmod,Int.tmod_eq_emod_of_nonneg (by omega)]
  have HP:=Hd hp;clear hp;have hn0:(n == 0)=false:=beq_eq_false_iff_ne.2 (by omega);go_enter Tryz.func14,Tryz.ntmps14
  go_wp2
  go_ret;exact ⟨by rw [HP.out];rfl,rfl⟩
 have hp:pickZ c n=c % n:=by unfold pickZ;rw [if_neg h]
 have HP:=Hd hp;clear hp;have hn0:(n == 0)=false:=beq_eq_false_iff_ne.2 (by omega);go_enter Tryz.func14,Tryz.ntmps14
 go_wp2
 go_ret;exact ⟨by rw [HP.out];rfl,rfl⟩
def idL (c:Nat):List Nat:=c :: List.replicate 31 0
def idB (c:Nat):ByteArray:=strB (idL c)
theorem heap_setH {W:World} {b o:Nat} {cs:Array Value} {t:TypeId} {fr:Nat×Nat} (h:W.heap[b]?=some (.cells cs t fr)) (v:Value):(W.setCell ⟨b,o,none⟩ v).heap[b]?=some (.cells (cs.setIfInBounds o v) t fr):=by
 obtain ⟨hlt,hg⟩:=gE h;simp [World.setCell,hlt,Array.getElem_modify,hg]
theorem made_32:madeCells (Value.int .u8 0).cells (32 * 1)=rowB 32 []:=by
 apply Array.ext
 ·rw [size_madeCells];simp [rowB]
 intro i h1 h2;have h3:i<32:=by rw [size_madeCells] at h1;omega
 have e1:(rowB 32 [])[i]?=some (.int .u8 0):=rowB_zero (by simp) h3;rw [Array.getElem?_eq_getElem h2] at e1;injection e1 with e1
 rw [e1];simp [madeCells,Value.cells,Nat.mod_one]
theorem mk_bytes32 (w:World):(Instr.makeSlice 135 (.int .i64 32) (.int .i64 32)).run Tryz.prog w = .ok (.slice (some ⟨w.heap.size,0,none⟩) 32 32) (w.alloc (.cells (rowB 32 []) 5)):=by
 obtain ⟨i0,hi,hz0,hz1,hz2⟩:=info_parts Tryz.infoB;have h:=run_makeSlice (P:=Tryz.prog) w 135 5 i0 (.int .u8 0) Tryz.underlying135 hi hz0 .i64 .i64 32 32 (by omega) (by omega) (by rw [hz1];decide) (by rw [hz2];decide) (by omega);rw [h,hz1,show Int.toNat 32=32 from rfl,made_32]
theorem id_row {W:World} {g c:Nat} {t:TypeId} {fr:Nat×Nat} (h:W.heap[g]?=some (.cells (rowB 32 [c]) t fr)):RowK 1 encB W (some ⟨g,0,none⟩) (idL c):=fun i x hx=>by
 refine ⟨g,0,rfl,(gE h).1,fun j u hu=>?_⟩;have hj:j=0:=by
  have:=(List.getElem?_eq_some_iff.1 hu).1;simp [encB] at this;exact this
 subst hj;simp [encB] at hu;subst hu;rw [cell_of_row W g _ _ _ _ h];rcases i with _ | i
 ·simp [idL] at hx;subst hx;exact rowB_get (by rfl)
 have hi:i+1<32:=by
  have:=(List.getElem?_eq_some_iff.1 hx).1;simpa [idL] using this
 have hx:(List.replicate 31 0)[i]?=some x:=hx;rw [List.getElem?_replicate] at hx;rw [if_pos (by omega)] at hx;injection hx with hx
 subst hx;simp only [Nat.mul_one,Nat.add_zero,Nat.zero_add];exact rowB_zero (by simp) hi
theorem id_any (c:Nat) (w:World):Calls Tryz.prog 37 #[.int .u8 (c:Int)] w fun e w'=>e = .returned (.string (idB c))∧Below w.heap.size w w':=by
 have MK:=mk_bytes32 w;obtain ⟨g,hg⟩:∃g,g=w.heap.size:=⟨_,rfl⟩;have h0:=World.alloc_heap_new w (.cells (rowB 32 []) 5);have HB:=Hd ((Below.refl _ w).alloc (Nat.le_refl _) (.cells (rowB 32 []) 5));obtain ⟨w1,hw1⟩:∃w1,w1=w.alloc (.cells (rowB 32 []) 5):=⟨_,rfl⟩;rw [←hw1] at MK h0 HB;rw [←hg] at MK h0;have c0:=cell_of_row w1 g 0 _ _ _ h0;rw [rowB_zero (by simp) (by omega)] at c0;have fz:=fun o=>frozen_of_row w1 g o _ _ h0;have h1:(w1.setCell ⟨g,0,none⟩ (.int .u8 (c:Int))).heap[g]?=some (.cells (rowB 32 [c]) 5 (0,0)):=by
  rw [heap_setH h0 _];exact congrArg _ (congrArg (fun x=>Obj.cells x _ _) (rowB_set (n:=32) (l:=[]) (by simp) c))
 have cv:=conv_row (w:=w1.setCell ⟨g,0,none⟩ (.int .u8 (c:Int))) 32 32 (l:=idL c) (by simp [idL]) (by omega) (id_row h1);have HB2:=Hd (show Below w.heap.size w (w1.setCell ⟨g,0,none⟩ (.int .u8 (c:Int))) from HB.out.setCell (by rw [hg];exact Nat.le_refl _) _);clear h0 h1 hg hw1;go_enter Tryz.func37,Tryz.ntmps37
 go_wp2
 go_ret;exact ⟨rfl,HB2.out⟩
def sameB (a b:List ByteArray):Bool:=decide (a=b)
theorem below_dn (w:World) (n:Nat):Below w.heap.size w (w.drewN n):=⟨rfl,rfl,rfl,Nat.le_refl _,fun _ _=>rfl⟩
theorem same_any (ao bo:Option Addr) (ca cb na nb:Nat) (a b:List ByteArray) (W:World) (hna:a.length=na) (hnb:b.length=nb) (hn:na≤1000000) (ha:RowK 1 encT W ao a) (hb:RowK 1 encT W bo b) :
  Calls Tryz.prog 22 #[.slice ao na ca,.slice bo nb cb] W fun e w'=>e = .returned (.bool (sameB a b))∧Below W.heap.size W w':=by
 have HA:=Hd ha;have HB:=Hd hb;have HNA:=Hd hna;have HNB:=Hd hnb;by_cases hl:na=nb
 ·subst hl;have q0:((na:Int) != (na:Int))=false:=by simp
  clear ha hb hna hnb;go_enter Tryz.func22,Tryz.ntmps22
  go_wp2
  go_loopw [5] (fun i wr=>∃k:Nat,k≤na∧i = .int .i64 k∧a.take k=b.take k∧Below W.heap.size W wr) (fun i _=>na - (intOf i).toNat)
  case atStart=>exact ⟨0,Nat.zero_le _,rfl,by simp,Below.refl _ _⟩
  case round=>
   obtain ⟨k,hk,rfl,htk,hbl⟩:=hrel;have TK:=Hd htk;have BL:=Hd hbl;clear htk hbl;by_cases hlt:k<na
   ·have hka:k<a.length:=by rw [HNA.out];exact hlt
    have hkb:k<b.length:=by rw [HNB.out];exact hlt
    obtain ⟨b1,o1,rfl,_,e1⟩:=(HA.out.later BL.out).str hka;obtain ⟨b2,o2,rfl,_,e2⟩:=(HB.out.later BL.out).str hkb;have HT:=Hd (show a[k]=b[k]→a.take (k+1)=b.take (k+1) from fun q=>by rw [List.take_succ_eq_append_getElem hka,List.take_succ_eq_append_getElem hkb,TK.out,q]);have HF:=Hd (show a[k]≠b[k]→sameB a b=false from fun q=>by unfold sameB;exact decide_eq_false (fun e=>q (by subst e;rfl)));obtain ⟨x,hx⟩:∃x,a[k]=x:=⟨_,rfl⟩;obtain ⟨y,hy⟩:∃y,b[k]=y:=⟨_,rfl⟩;rw [hx] at e1 HT HF;rw [hy] at e2 HT HF;have k0:(0:Int)≤(k:Int):=by omega
    have k1:(k:Int)<(na:Int):=by omega
    have NX:=Hd (fun (n':Nat)=>BL.out.trans ((below_dn wr n').mono BL.out.size));clear hx hy hka hkb;by_cases hxy:x=y
    ·have q1:(x.toList == y.toList)=true:=by rw [hxy];simp
     have T2:=Hd (HT.out hxy);clear hxy;go_wp2
     go_quiet (fail)
     go_wp2
     go_roundw
     case rel=>exact ⟨k+1,by omega,by go_num,T2.out,NX.out _⟩
     case measure=>simp [intOf];omega
    have q1:(x.toList == y.toList)=false:=(Lib.bytes_beq_false_iff _ _).2 hxy;have F2:=Hd (HF.out hxy);clear hxy;go_wp2
    go_quiet (fail)
    go_wp2
    go_ret;rw [F2.out];exact ⟨rfl,NX.out _⟩
   have hs:sameB a b=true:=by
    have h:=TK.out;rw [List.take_of_length_le (by rw [HNA.out];omega),List.take_of_length_le (by rw [HNB.out];omega)] at h;unfold sameB;exact decide_eq_true h
   have HS:=Hd hs;clear hs;go_wp2
   go_ret;rw [HS.out];exact ⟨rfl,BL.out⟩
 have q0:((na:Int) != (nb:Int))=true:=by simp;omega
 have HS:=Hd (show sameB a b=false by unfold sameB;exact decide_eq_false (fun e=>hl (by rw [←hna,←hnb,e])));clear ha hb hna hnb;go_enter Tryz.func22,Tryz.ntmps22
 go_wp2
 go_ret;rw [HS.out];exact ⟨rfl,Below.refl _ _⟩
end
section
open Go.RowKit
def lstN (j:Nat):List ByteArray:=if j=0 then [idB 1] else if j=1 then [idB 1,idB 2] else if j=2 then [idB 3] else [idB 9]
structure ListsAt (w W:World) (g:Nat):Prop where
 new:w.heap.size≤g∧g<W.heap.size
 cell:∀j,j<4→∃v,W.cell? ⟨g,j,none⟩=some v∧LRow (New w W) W v (lstN j)
theorem lrow_new {w W:World} {g:Nat} {l:List ByteArray} (h:W.heap[g]?=some (.cells (l.map Value.string).toArray 9 (0,0))) (hg:w.heap.size≤g):LRow (New w W) W (.slice (some ⟨g,0,none⟩) l.length l.length) l:=
 ⟨_,_,rfl,⟨(fun e=>by cases e),Nat.le_refl _⟩,.inr ⟨g,0,_,_,rfl,⟨hg,(gE h).1⟩,h,fun i p hp=>by
  rw [List.getElem?_toArray,List.getElem?_map,Nat.zero_add,hp];rfl⟩⟩
theorem up_blk {w W:World} {g:Nat} {o:Obj} (h:w.heap[g]?=some o) (hb:Below w.heap.size w W):W.heap[g]?=some o:=(hb.block g (gE h).1).trans h
theorem lists_any (w:World):Calls Tryz.prog 17 #[] w fun e w'=>∃g,e = .returned (.slice (some ⟨g,0,none⟩) 4 4)∧Below w.heap.size w w'∧ListsAt w w' g:=by
 have I1:=Hd (show ∀W,Calls Tryz.prog 37 #[.int .u8 1] W fun e w'=>e = .returned (.string (idB 1))∧Below W.heap.size W w' from fun W=>id_any 1 W);have I2:=Hd (show ∀W,Calls Tryz.prog 37 #[.int .u8 2] W fun e w'=>e = .returned (.string (idB 2))∧Below W.heap.size W w' from fun W=>id_any 2 W);have I3:=Hd (show ∀W,Calls Tryz.prog 37 #[.int .u8 3] W fun e w'=>e = .returned (.string (idB 3))∧Below W.heap.size W w' from fun W=>id_any 3 W);have I9:=Hd (show ∀W,Calls Tryz.prog 37 #[.int .u8 9] W fun e w'=>e = .returned (.string (idB 9))∧Below W.heap.size W w' from fun W=>id_any 9 W);obtain ⟨d1,h1⟩:∃d,d=idB 1:=⟨_,rfl⟩;obtain ⟨d2,h2⟩:∃d,d=idB 2:=⟨_,rfl⟩;obtain ⟨d3,h3⟩:∃d,d=idB 3:=⟨_,rfl⟩;obtain ⟨d9,h9⟩:∃d,d=idB 9:=⟨_,rfl⟩;rw [←h1] at I1;rw [←h2] at I2;rw [←h3] at I3;rw [←h9] at I9;have HD:=Hd (show lstN 0 = [d1]∧lstN 1 = [d1,d2]∧lstN 2 = [d3]∧lstN 3 = [d9] from by rw [h1,h2,h3,h9];exact ⟨rfl,rfl,rfl,rfl⟩);clear h1 h2 h3 h9;go_enter Tryz.func17,Tryz.ntmps17
 go_wp2_with (first
  | (go_at_call 37;with_reducible refine (I1.out _).mono ?_;rintro e wA ⟨rfl,BA⟩)
  | (go_at_call 37;with_reducible refine (I2.out _).mono ?_;rintro e wB ⟨rfl,BB⟩)
  | (go_at_call 37;with_reducible refine (I3.out _).mono ?_;rintro e wC ⟨rfl,BC⟩)
  | (go_at_call 37;with_reducible refine (I9.out _).mono ?_;rintro e wD ⟨rfl,BD⟩))
 rename_i w1 B1
 have A1:=(Below.refl w1.heap.size w1).alloc (Nat.le_refl _) (.cells #[.string d1] 9);have A2:=(Below.refl wB.heap.size wB).alloc (Nat.le_refl _) (.cells #[.string d1,.string d2] 9);have A3:=(Below.refl wC.heap.size wC).alloc (Nat.le_refl _) (.cells #[.string d3] 9);have A4:=(Below.refl wD.heap.size wD).alloc (Nat.le_refl _) (.cells #[.string d9] 9);have e1:=World.alloc_heap_new w1 (.cells #[.string d1] 9);have e2:=World.alloc_heap_new wB (.cells #[.string d1,.string d2] 9);have e3:=World.alloc_heap_new wC (.cells #[.string d3] 9);have e4:=World.alloc_heap_new wD (.cells #[.string d9] 9);obtain ⟨x1,hx1⟩:∃x,x=w1.alloc (.cells #[.string d1] 9):=⟨_,rfl⟩;obtain ⟨x2,hx2⟩:∃x,x=wB.alloc (.cells #[.string d1,.string d2] 9):=⟨_,rfl⟩;obtain ⟨x3,hx3⟩:∃x,x=wC.alloc (.cells #[.string d3] 9):=⟨_,rfl⟩;obtain ⟨x4,hx4⟩:∃x,x=wD.alloc (.cells #[.string d9] 9):=⟨_,rfl⟩;have z4:x4.heap.size=wD.heap.size+1:=by rw [hx4];simp
 rw [←hx1] at A1 e1 BA;rw [←hx2] at A2 e2 BC;rw [←hx3] at A3 e3 BD;rw [←hx4] at A4 e4 ⊢;clear hx1 hx2 hx3 hx4;have t1:=B1;have t2:=t1.trans (A1.mono t1.size);have t3:=t2.trans (BA.mono t2.size);have t4:=t3.trans (BB.mono t3.size);have t5:=t4.trans (A2.mono t4.size);have t6:=t5.trans (BC.mono t5.size);have t7:=t6.trans (A3.mono t6.size);have t8:=t7.trans (BD.mono t7.size);have t9:=t8.trans (A4.mono t8.size);rw [←z4];obtain ⟨cs,hcs⟩:∃cs:Array Value,cs = #[Value.slice (some ⟨w1.heap.size,0,none⟩) 1 1,Value.slice (some ⟨wB.heap.size,0,none⟩) 2 2,Value.slice (some ⟨wC.heap.size,0,none⟩) 1 1,Value.slice (some ⟨wD.heap.size,0,none⟩) 1 1]:=⟨_,rfl⟩;have A5:=(Below.refl x4.heap.size x4).alloc (Nat.le_refl _) (.cells cs 30);have e5:=World.alloc_heap_new x4 (.cells cs 30);have z5:(x4.alloc (.cells cs 30)).heap.size=x4.heap.size+1:=by simp
 rw [←hcs];obtain ⟨x5,hx5⟩:∃x,x=x4.alloc (.cells cs 30):=⟨_,rfl⟩;rw [←hx5] at A5 e5 z5 ⊢;have t10:=t9.trans (A5.mono t9.size);have f4:=up_blk e4 A5;have f3:=up_blk (up_blk (up_blk e3 BD) A4) A5;have f2:=up_blk (up_blk (up_blk (up_blk (up_blk e2 BC) A3) BD) A4) A5;have f1:=up_blk (up_blk (up_blk (up_blk (up_blk (up_blk (up_blk (up_blk e1 BA) BB) A2) BC) A3) BD) A4) A5;obtain ⟨l0,l1,l2,l3⟩:=HD.out;have hcell:=fun j=>cell_of_row x5 x4.heap.size j _ _ _ e5;go_ret;refine ⟨_,rfl,t10,⟨t9.size,by rw [z5];omega⟩,fun j hj=>?_⟩;rw [hcell,hcs];rcases j with _ | _ | _ | _ | j
 ·exact ⟨_,rfl,by rw [l0];exact lrow_new (l:=[d1]) f1 t1.size⟩
 ·exact ⟨_,rfl,by rw [l1];exact lrow_new (l:=[d1,d2]) f2 t4.size⟩
 ·exact ⟨_,rfl,by rw [l2];exact lrow_new (l:=[d3]) f3 t6.size⟩
 ·exact ⟨_,rfl,by rw [l3];exact lrow_new (l:=[d9]) f4 t8.size⟩
 omega
end
end Go.Proofs.YtifcdjmcoibblaaGreatDoor
