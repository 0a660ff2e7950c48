/- ConU -/
import Derived.Test.YtifcdjmcoibblaaGreatDoorFq18
import Derived.Test.YtifcdjmcoibblaaGreatDoorFq10
set_option linter.unusedVariables false
set_option linter.unusedSimpArgs false
set_option linter.unusedSectionVars false
namespace Go.Proofs.YtifcdjmcoibblaaGreatDoor
section
variable {D L:Type} [Dg D] [Inhabited L]
structure QI (s:NS D L):Prop where
 q:QuesI s.ques
 o:∀p∈s.ques,p.1<s.n∧p.1≠s.id∧s.isDec p.2.1=true
theorem QI.of {s s':NS D L} (h:QI s) (hq:s'.ques=s.ques) (hn:s'.n=s.n) (hi:s'.id=s.id) (hd:∀k,s.isDec k=true→s'.isDec k=true):QI s':=
 ⟨by rw [hq];exact h.q,fun p hp=>by
  have:=h.o p (hq ▸ hp);exact ⟨by rw [hn];exact this.1,by rw [hi];exact this.2.1,hd _ this.2.2⟩⟩
theorem QI.none {s:NS D L} (h:s.ques = []):QI s:=⟨by rw [h];exact QuesI.nil,fun p hp=>by rw [h] at hp;cases hp⟩
theorem ask_QI {s:NS D L} (h:QI s) {m:Msg D L} (hf:0≤m.frm∧m.frm<7) (hfn:m.frm<s.n∧m.frm≠s.id) (hh:0≤m.height∧m.height<1200) (hr:0≤m.round∧m.round≤99) (hd:s.isDec m.height=true):QI (s.ask m):=by
 have hq:=ask_ques h.q (m:=m) hf hh hr;obtain ⟨a,b,e⟩:=ask_same s m;refine ⟨hq,fun p hp=>?_⟩;have hm:p=(m.frm,(m.height,m.round))∨p∈s.ques:=by
  have hput:p∈putA m.frm (m.height,m.round) s.ques→p=(m.frm,(m.height,m.round))∨p∈s.ques:=mem_putA;unfold NS.ask at hp;split at hp
  ·have hp:p∈(match getA m.frm s.ques with | some q=>if q.1=m.height then delA m.frm s.ques else s.ques | none=>s.ques):=hp;split at hp
   ·split at hp
    ·exact .inr ((delA_sub _ _).subset hp)
    exact .inr hp
   exact .inr hp
  split at hp
  ·exact .inr hp
  split at hp
  ·split at hp
   ·exact hput hp
   exact .inr hp
  exact hput hp
 rw [e];rcases hm with rfl | hm
 ·exact ⟨hfn.1,hfn.2,hd⟩
 exact h.o p hm
structure InM (m:Msg D L):Prop where
 f0:0≤m.frm
 ft:m.frm≠m.to
 h0:0≤m.height
 h1:m.height<1200
 r0:0≤m.round
 r1:m.round≤99
theorem receive_QI {s:NS D L} (h:QI s) {m:Msg D L} {ok:Bool} (hn:s.n≤7) (hm:ok=true→m.kind=3∨m.kind=4∨m.kind=6∨m.kind=5→InM m):QI (s.receive m ok):=by
 unfold NS.receive;split
 ·exact h
 rename_i q
 simp only [not_or,Bool.not_eq_false,Decidable.not_not,Int.not_le,Int.not_lt] at q;obtain ⟨q1,q2,q3,q4⟩:=q;split
 ·exact h
 rename_i hk
 simp only [Decidable.not_not] at hk;have hm:=hm q1 hk;split
 ·rename_i hd
  exact ask_QI h ⟨hm.f0,by omega⟩ ⟨q3,by rw [←q2];exact hm.ft⟩ ⟨hm.h0,hm.h1⟩ ⟨hm.r0,hm.r1⟩ hd
 split
 ·exact h
 split
 ·obtain ⟨hb,_⟩:=putVote_same s m;exact h.of hb.ques hb.n hb.id (fun k hk=>by unfold NS.isDec at hk ⊢;rw [hb.decs];exact hk)
 split
 ·exact h.of rfl rfl rfl (fun _ hk=>hk)
 split
 ·exact h
 exact h.of rfl rfl rfl (fun _ hk=>hk)
theorem tick_QI {sz:D→Prop} {s:NS D L} (hi:InvS sz s):QI s.tick.1:=QI.none (tick_keep hi).ques
theorem new_QI (id n:Int):QI (newS id n:NS D L):=QI.none rfl
theorem begin_QI {s:NS D L} (h:QI s) (k:Int) (ok:Bool) (d:D) (l:L):QI (s.begin k ok d l).1:=by
 unfold NS.begin;split
 ·exact h
 split
 ·exact h.of rfl rfl rfl (fun _ hk=>hk)
 split
 ·exact h.of rfl rfl rfl (fun _ hk=>hk)
 exact h
theorem accept_QI {s:NS D L} (h:QI s) (d:D):QI (s.accept d):=h.of rfl rfl rfl (fun _ hk=>hk)
theorem isDec_putA {s:NS D L} {k j:Int} {v:Val D L} (h:s.isDec j=true):(getA j (putA k v s.decs)).isSome=true:=by
 rw [getA_put];split
 ·rfl
 exact h
theorem learn_QI {s:NS D L} (h:QI s) (k:Int) (ok:Bool) (d:D) (l:L):QI (s.learn k ok d l).1:=by
 unfold NS.learn;split
 ·exact h
 split
 ·split
  ·exact h
  exact h.of rfl rfl rfl (fun _ hk=>isDec_putA hk)
 exact h.of rfl rfl rfl (fun _ hk=>isDec_putA hk)
structure OutM (sz:D→Prop) (G:D→L→Prop) (me n:Int) (m:Msg D L):Prop where
 frm:m.frm=me
 t0:0≤m.to
 t1:m.to<n
 tm:m.to≠me
 h0:0≤m.height
 h1:m.height<1200
 r0:0≤m.round
 r1:m.round≤99
 kind:m.kind=3∨m.kind=4∨m.kind=6∨m.kind=5
 prop:m.kind=3→G m.dig m.list∧-1≤m.valid∧m.valid<m.round
 vote:m.kind≠3→m.valid=0∧m.list=default∧sz m.dig
theorem mem_sortI {x:Int}:∀{l:List Int},x∈sortI l→x∈l
 | [],h=>by cases h
 | a :: l,h=>by
  have hins:∀(y:Int) (m:List Int),x∈insI y m→x=y∨x∈m:=by
   intro y m;induction m with
   | nil=>intro h;simp [insI] at h;exact .inl h
   | cons b m ih=>
    intro h;unfold insI at h;split at h
    ·rcases List.mem_cons.1 h with e | e
     ·exact .inl e
     exact .inr e
    rcases List.mem_cons.1 h with e | e
    ·exact .inr (by rw [e];simp)
    rcases ih e with e | e
    ·exact .inl e
    exact .inr (List.mem_cons_of_mem _ e)
  rcases hins a (sortI l) h with e | e
  ·rw [e];simp
  exact List.mem_cons_of_mem _ (mem_sortI e)
theorem claimRound_ok (s:NS D L) (h:Int) {r:Int} (h0:0≤r) (h1:r≤99):0≤s.claimRound h r∧s.claimRound h r≤99:=by
 unfold NS.claimRound;split
 ·exact ⟨h0,h1⟩
 split <;> omega
theorem decs_G {sz:D→Prop} {G:D→L→Prop} {s:NS D L} (hg:GI sz G s) {k:Int} (h:s.isDec k=true):G (s.decDig k) (s.decList k):=by
 unfold NS.isDec at h;unfold NS.decDig NS.decList;rcases e:getA k s.decs with _ | v
 ·rw [e] at h;cases h
 exact hg.dg _ (getA_mem e)
theorem answers_out {sz:D→Prop} {G:D→L→Prop} (hGz:∀d l,G d l→sz d) {s:NS D L} (hi:InvS sz s) (hg:GI sz G s) (hq:QI s):∀m∈s.answers,OutM sz G s.id s.n m:=by
 intro m hm;unfold NS.answers at hm;obtain ⟨site,hs,hm⟩:=List.mem_flatMap.1 hm;split at hm
 ·rename_i q e
  obtain ⟨a1,a2,a3,a4,a5,a6⟩:=hq.q.get e;obtain ⟨b1,b2,b3⟩:=hq.o _ (getA_mem e);have hG:=decs_G hg b3;have hz:=hGz _ _ hG;unfold NS.answer at hm;simp only [List.cons_append,List.nil_append,List.mem_cons,List.mem_append,List.mem_map,List.mem_range,List.not_mem_nil,or_false] at hm;have hc:=claimRound_ok s q.1 a5 a6;rcases hm with rfl | rfl | ⟨i,hi,rfl⟩ | rfl
  ·exact ⟨rfl,a1,b1,b2,a3,a4,hc.1,hc.2,.inl rfl,fun _=>⟨hG,Int.le_refl _,by show -1<s.claimRound q.1 q.2;omega⟩,fun h=>absurd rfl h⟩
  ·exact ⟨rfl,a1,b1,b2,a3,a4,a5,a6,.inr (.inl rfl),fun h=>absurd h (by show ¬((4:Int)=3);decide),fun _=>⟨rfl,rfl,hz⟩⟩
  ·exact ⟨rfl,a1,b1,b2,a3,a4,by show (0:Int)≤i;omega,by show (i:Int)≤99;omega,.inr (.inr (.inl rfl)),fun h=>absurd h (by show ¬((6:Int)=3);decide),fun _=>⟨rfl,rfl,hz⟩⟩
  exact ⟨rfl,a1,b1,b2,a3,a4,a5,a6,.inr (.inr (.inr rfl)),fun h=>absurd h (by show ¬((5:Int)=3);decide),fun _=>⟨rfl,rfl,hz⟩⟩
 cases hm
theorem mem_sends {s:NS D L} {ms:List (Msg D L)} {m:Msg D L} (h:m∈s.sends ms):∃a∈ms,∃t:Nat,(t:Int)<s.n∧(t:Int)≠s.id∧m=⟨a.kind,a.frm,(t:Int),a.height,a.round,a.valid,a.dig,a.list⟩:=by
 unfold NS.sends at h;obtain ⟨a,ha,h⟩:=List.mem_flatMap.1 h;obtain ⟨t,ht,h⟩:=List.mem_filterMap.1 h;split at h
 ·rename_i hne
  rw [List.mem_range] at ht;exact ⟨a,ha,t,by omega,hne,by simpa using h.symm⟩
 cases h
theorem sends_out {sz:D→Prop} {G:D→L→Prop} {s:NS D L} (hi:InvS sz s) (hg:GI sz G s) {ms:List (Msg D L)} (hms:∀m∈ms,m∈s.mine):∀m∈s.sends ms,OutM sz G s.id s.n m:=by
 intro m hm;obtain ⟨a,ha,t,h1,h2,rfl⟩:=mem_sends hm;have hmine:=hms a ha;obtain ⟨r1,r2,r3,r4⟩:=hi.min.rng a hmine;have ho:=hg.mg a hmine;exact ⟨ho.frm,by show (0:Int)≤t;omega,h1,h2,by show 0≤a.height;rw [ho.height];exact hi.num.h0,by show a.height<1200;rw [ho.height];exact hi.num.h1,r3,r4,by show a.kind=3∨a.kind=4∨a.kind=6∨a.kind=5;omega,fun h=>⟨(ho.prop h).1,(ho.prop h).2.1,(ho.prop h).2.2.1⟩,ho.vote⟩
theorem tick_sends {s:NS D L} (h:s.isDec s.height=false):∃t,s.tick.2=s.answers ++ s.tick.1.sends (s.tick.1.mine.drop t):=by
 unfold NS.tick;simp only;rw [if_neg (by show ¬s.isDec s.height=true;rw [h];simp)];exact ⟨_,rfl⟩
theorem tick_out {sz:D→Prop} {G:D→L→Prop} (hGz:∀d l,G d l→sz d) {s:NS D L} (hi:InvS sz s) (hg:GI sz G s) (hmk:MeekT G s) (hq:QI s):∀m∈s.tick.2,OutM sz G s.id s.n m:=by
 intro m hm;rcases hd:s.isDec s.height with _ | _
 ·obtain ⟨t,e⟩:=tick_sends hd;rw [e] at hm;rcases List.mem_append.1 hm with hm | hm
  ·exact answers_out hGz hi hg hq m hm
  have hk:=tick_keep hi;have:=sends_out (tick_inv hi) (tick_G hi hg hmk) (fun a ha=>List.mem_of_mem_drop ha) m hm;rw [hk.id,hk.n] at this;exact this
 have e:s.tick.2=s.answers:=by
  unfold NS.tick;simp only;rw [if_pos (show ({s with ques:=[]}:NS D L).isDec _=true from hd)]
 rw [e] at hm;exact answers_out hGz hi hg hq m hm
end
end Go.Proofs.YtifcdjmcoibblaaGreatDoor
