/- ConM ConI -/
import Init
set_option linter.unusedVariables false
set_option linter.unusedSimpArgs false
set_option linter.unusedSectionVars false
namespace Go.Proofs.YtifcdjmcoibblaaGreatDoor
class Dg (D:Type) where
 eq:DecidableEq D
 nil:D
 lt:D→D→Bool
instance {D:Type} [Dg D]:DecidableEq D:=Dg.eq
structure Msg (D L:Type) where
 kind:Int
 frm:Int
 to:Int
 height:Int
 round:Int
 valid:Int
 dig:D
 list:L
structure Val (D L:Type) where
 round:Int
 dig:D
 list:L
abbrev Bal:=Int×Int×Int×Int
structure NS (D L:Type) where
 height:Int
 round:Int
 step:Int
 clock:Int
 ticks:Int
 lock:Option (Val D L)
 valid:Option (Val D L)
 own:Option (Val D L)
 acc:List D
 props:List (Int×Msg D L)
 claims:List (Int×Msg D L)
 order:List Int
 votes:List (Bal×D)
 stand:List (Int×(Int×Int))
 mine:List (Msg D L)
 made:List (Int×Int)
 id:Int
 n:Int
 decs:List (Int×Val D L)
 ques:List (Int×(Int×Int))
 inf:List (Int×Int)
section
variable {κ β:Type} [DecidableEq κ]
def getA (k:κ):List (κ×β)→Option β
 | []=>none
 | p :: l=>if p.1=k then some p.2 else getA k l
def putA (k:κ) (v:β):List (κ×β)→List (κ×β)
 | []=>[(k,v)]
 | p :: l=>if p.1=k then (k,v) :: l else p :: putA k v l
def delA (k:κ):List (κ×β)→List (κ×β)
 | []=>[]
 | p :: l=>if p.1=k then l else p :: delA k l
def insA (k:κ) (l:List κ):List κ:=if k∈l then l else l ++ [k]
end
def firstR {α:Type} (f:Nat→Option α):Nat→Option α
 | 0=>none
 | n+1=>match firstR f n with
  | some a=>some a
  | none=>f n
theorem firstR_succ {α:Type} (f:Nat→Option α) (n:Nat):firstR f (n+1)=match firstR f n with | some a=>some a | none=>f n:=rfl
theorem firstR_none {α:Type} {f:Nat→Option α}:∀{n:Nat},(∀i,i<n→f i=none)→firstR f n=none
 | 0,_=>rfl
 | n+1,h=>by
  unfold firstR;rw [firstR_none (fun i hi=>h i (by omega))];exact h n (by omega)
theorem firstR_at {α:Type} {f:Nat→Option α} {k:Nat} {v:α} (h:∀i,i<k→f i=none) (hk:f k=some v):∀{n:Nat},k<n→firstR f n=some v
 | 0,q=>by omega
 | n+1,q=>by
  unfold firstR;rcases Nat.lt_or_ge k n with q1 | q1
  ·rw [firstR_at h hk q1]
  have:k=n:=by omega
  subst this;rw [firstR_none h];exact hk
theorem firstR_some {α:Type} {f:Nat→Option α} {v:α}:∀{n:Nat},firstR f n=some v→∃k,k<n∧f k=some v∧∀i,i<k→f i=none
 | 0,h=>by cases h
 | n+1,h=>by
  unfold firstR at h;rcases hf:firstR f n with _ | a
  ·rw [hf] at h;refine ⟨n,by omega,h,fun i hi=>?_⟩;rcases hi2:f i with _ | b
   ·rfl
   exfalso;have hl:∀{m:Nat},i<m→firstR f m≠none:=fun {m}=>by
    induction m with
    | zero=>intro q;omega
    | succ m ih=>
     intro q;unfold firstR;rcases hm:firstR f m with _ | c
     ·rcases Nat.lt_or_ge i m with q1 | q1
      ·exact absurd hm (ih q1)
      have:i=m:=by omega
      subst this;simp [hi2]
     simp
   exact hl hi hf
  rw [hf] at h;have e:a=v:=by simpa using h
  subst e;obtain ⟨k,h1,h2,h3⟩:=firstR_some (n:=n) hf;exact ⟨k,by omega,h2,h3⟩
section
variable {D L:Type} [Dg D] [Inhabited L]
def faultsN (n:Int):Int:=(n - 1) / 3
def quorumN (n:Int):Int:=n - faultsN n
def NS.moved (s:NS D L) (h r:Int):NS D L:=
 {s with height:=h,round:=r,step:=1,clock:=0,ticks:=0,lock:=none,valid:=none,own:=none,acc:=[],props:=[],claims:=[],order:=[],votes:=[],stand:=[],mine:=[],made:=[]}
def newS (id n:Int):NS D L:=
 {height:=0,round:=0,step:=1,clock:=0,ticks:=0,lock:=none,valid:=none,own:=none,acc:=[],props:=[],claims:=[],order:=[],votes:=[],stand:=[],mine:=[],made:=[],id:=id,n:=n,decs:=[],ques:=[],inf:=[]}
def NS.isDec (s:NS D L) (h:Int):Bool:=(getA h s.decs).isSome
def NS.proposer (s:NS D L) (site h r:Int):Bool:=decide ((h+r) % s.n=site)
def NS.putVote (s:NS D L) (m:Msg D L):NS D L:=
 match getA (m.frm,m.kind,m.height,m.round) s.votes with
 | some _=>s
 | none=>
  let st:=(getA m.frm s.stand).getD (-1,-1)
  {s with votes:=putA (m.frm,m.kind,m.height,m.round) m.dig s.votes,stand:=putA m.frm (max st.1 m.round,if m.kind=5 then max st.2 m.round else st.2) s.stand}
def keepA (l:List (Int×Msg D L)) (k:Int) (m:Msg D L):List (Int×Msg D L):=
 match getA k l with
 | some _=>l
 | none=>putA k m l
def NS.say (s:NS D L) (m0:Msg D L):NS D L:=
 let m:={m0 with frm:=s.id,height:=s.height}
 let s1:={s with mine:=s.mine ++ [m],made:=insA (m.kind,m.round) s.made}
 if m.kind=3 then {s1 with props:=keepA s1.props m.round m}
 else s1.putVote {m with to:=(s.id+1) % 7}
def vote (kind round:Int) (d:D):Msg D L:=⟨kind,0,0,0,round,0,d,default⟩
def NS.enter (s:NS D L) (step:Int):NS D L:={s with step:=step,clock:=0}
def NS.cast (s:NS D L) (kind:Int) (d:D) (step:Int):NS D L:=(s.say (vote kind s.round d)).enter step
def NS.late (s:NS D L):Bool:=decide (12 * (s.round+1)≤s.clock)
def voters (n:Nat) (votes:List (Bal×D)) (kind height round:Int):List D:=
 (List.range n).filterMap fun (i:Nat)=>getA ((i:Int),kind,height,round) votes
def mostL (l:List D):D×Int:=
 l.foldl (fun b d=>if b.2<(l.count d:Int)∨((l.count d:Int)=b.2∧Dg.lt d b.1=true) then (d,(l.count d:Int)) else b) (Dg.nil,0)
def NS.most (s:NS D L) (kind round:Int):D×Int:=mostL (voters s.n.toNat s.votes kind s.height round)
def NS.count (s:NS D L) (kind round:Int) (d:D):Int:=((voters s.n.toNat s.votes kind s.height round).count d:Int)
def NS.chosen (s:NS D L) (kind round:Int):Option D:=
 let b:=s.most kind round
 if b.1≠Dg.nil∧quorumN s.n≤b.2 then some b.1 else none
def listOf (d:D):List (Int×Msg D L)→Option L
 | []=>none
 | p :: l=>if p.2.dig=d then some p.2.list else listOf d l
def NS.known (s:NS D L) (d:D):Option L:=
 match listOf d s.props with
 | some l=>some l
 | none=>match listOf d s.claims with
  | some l=>some l
  | none=>match s.lock with
   | some v=>if v.dig=d then some v.list else none
   | none=>none
def NS.chosenList (s:NS D L) (kind round:Int):Option (Val D L):=
 match s.chosen kind round with
 | none=>none
 | some d=>match s.known d with
  | none=>none
  | some l=>some ⟨round,d,l⟩
def NS.reached (s:NS D L) (r:Int):Int:=((s.stand.filter fun p=>decide (r≤p.2.1)).length:Int)
def NS.passed (s:NS D L) (r:Int):Int:=((s.stand.filter fun p=>decide (r<p.2.1) || decide (r≤p.2.2)).length:Int)
def countD (d:D) (l:List (Int×Msg D L)):Int:=((l.filter fun p=>decide (p.2.dig=d)).length:Int)
def claimed (s:NS D L):List Int→Option (Msg D L)
 | []=>none
 | site :: l=>match getA site s.claims with
  | some m=>if faultsN s.n<countD m.dig s.claims then some m else claimed s l
  | none=>claimed s l
def NS.rDecide (s:NS D L):Option (NS D L):=
 match claimed s s.order with
 | some m=>some {s with decs:=putA s.height ⟨-1,m.dig,m.list⟩ s.decs}
 | none=>match firstR (fun r=>s.chosenList 5 r) 100 with
  | some v=>some {s with decs:=putA s.height v s.decs}
  | none=>none
def NS.rSpread (s:NS D L):Option (NS D L):=
 firstR (fun r=>let b:=s.most 6 r
  if ((6:Int),(r:Int))∉s.made∧b.1≠Dg.nil∧faultsN s.n<b.2 then some (s.say (vote 6 r b.1)) else none) (s.round+1).toNat
def NS.least (s:NS D L):Int:=match s.valid with | some v=>v.round | none=>-1
def NS.rValidate (s:NS D L):Option (NS D L):=
 firstR (fun i=>match s.chosenList 6 (s.round - i) with
  | some v=>some {s with valid:=some v}
  | none=>none) (s.round - s.least).toNat
def NS.rFollow (s:NS D L):Option (NS D L):=
 firstR (fun i=>if faultsN s.n<s.passed (99 - i) then some ({s with round:=99 - i}.cast 5 Dg.nil 4) else none) (99 - s.round).toNat
def NS.toPropose (s:NS D L):Option (Val D L):=
 match s.valid with
 | some v=>if v.round<s.round then some v else s.own
 | none=>s.own
def NS.rPropose (s:NS D L):Option (NS D L):=
 match s.toPropose with
 | none=>none
 | some v=>if s.step≠1∨s.proposer s.id s.height s.round=false∨((3:Int),s.round)∈s.made then none
  else some (s.say ⟨3,0,0,0,s.round,v.round,v.dig,v.list⟩)
def NS.rPrevote (s:NS D L):Option (NS D L):=
 match getA s.round s.props with
 | none=>none
 | some p=>if s.step≠1∨p.dig∉s.acc then none
  else if 0≤p.valid∧s.count 6 p.valid p.dig≤faultsN s.n then none
  else some (s.cast 4 (match s.lock with | some v=>if v.dig≠p.dig∧p.valid<v.round then Dg.nil else p.dig | none=>p.dig) 2)
def NS.rMiss (s:NS D L):Option (NS D L):=
 if s.step≠1∨s.late=false then none else some (s.cast 4 Dg.nil 2)
def NS.rKey (s:NS D L):Option (NS D L):=
 match s.chosen 4 s.round with
 | none=>none
 | some d=>if s.step=1∨((6:Int),s.round)∈s.made then none
  else
   let s1:=s.say (vote 6 s.round d)
   some (if s1.step=2 then s1.enter 3 else s1)
def NS.rWait (s:NS D L):Option (NS D L):=
 if s.step≠2 then none
 else if ((6:Int),s.round)∈s.made then some (s.enter 3)
 else if s.late=true∨quorumN s.n≤s.count 4 s.round Dg.nil then some (s.cast 5 Dg.nil 4)
 else none
def NS.rSeal (s:NS D L):Option (NS D L):=
 match s.chosenList 6 s.round with
 | none=>none
 | some v=>if s.step≠3 then none else some ({s with lock:=some v}.cast 5 v.dig 4)
def NS.rLeave (s:NS D L):Option (NS D L):=
 if s.step≠3∨s.late=false then none else some (s.cast 5 Dg.nil 4)
def NS.rNext (s:NS D L):Option (NS D L):=
 if s.step≠4∨s.late=false∨100≤s.round+1 then none else some ({s with round:=s.round+1}.enter 1)
def NS.rule (s:NS D L):Nat→Option (NS D L)
 | 0=>s.rDecide | 1=>s.rSpread | 2=>s.rValidate | 3=>s.rFollow | 4=>s.rPropose | 5=>s.rPrevote
 | 6=>s.rMiss | 7=>s.rKey | 8=>s.rWait | 9=>s.rSeal | 10=>s.rLeave | 11=>s.rNext | _=>none
def NS.stepS (s:NS D L):Option (NS D L):=firstR s.rule 12
def NS.runS:Nat→NS D L→NS D L
 | 0,s=>s
 | k+1,s=>if s.isDec s.height then s else match s.stepS with
  | none=>s
  | some s'=>NS.runS k s'
def openK (kind:Int) (made:List (Int×Int)):Nat→Nat
 | 0=>0
 | n+1=>openK kind made n+if (kind,(n:Int))∈made then 0 else 1
def NS.mu (s:NS D L):Nat:=5 * (100 - s.round).toNat+(4 - s.step).toNat+openK 6 s.made 100+openK 3 s.made 100+(100 - s.least).toNat
def NS.apply (s:NS D L):NS D L:=NS.runS (s.mu+2) s
def NS.begin (s:NS D L) (height:Int) (ok:Bool) (d:D) (l:L):NS D L×Bool:=
 if ok=false then (s,false)
 else if height=s.height∧s.isDec s.height=false∧s.own.isNone=true then ({s with own:=some ⟨-1,d,l⟩,acc:=insA d s.acc},true)
 else if s.isDec s.height=true∧height=s.height+1∧height<1200∧s.isDec height=false then ({s.moved height 0 with own:=some ⟨-1,d,l⟩,acc:=[d]},true)
 else (s,false)
def areKeys (round:Int) (size:D→Bool):Int→List (Int×D)→Bool
 | _,[]=>true
 | last,k :: l=>if k.1≤last∨round≤k.1∨size k.2=false then false else areKeys round size k.1 l
def NS.resume (s:NS D L) (height round locked:Int) (ok:Bool) (d:D) (l:L) (empty:Bool) (keys:List (Int×D)) (sound:Bool):NS D L×Bool:=
 if ok=false∨height<0∨1200≤height∨round<0∨100≤round∨locked < -1∨round≤locked∨(locked<0∧empty=false) then (s,false)
 else if sound=false∨s.isDec height=true∨height<s.height∨(height=s.height∧round≤s.round) then (s,false)
 else
  let s1:=s.moved height round
  let s2:=if 0≤locked then {s1 with lock:=some ⟨locked,d,l⟩,valid:=some ⟨locked,d,l⟩,acc:=[d]} else s1
  (keys.foldl (fun s k=>s.say (vote 6 k.1 k.2)) s2,true)
def NS.learn (s:NS D L) (height:Int) (ok:Bool) (d:D) (l:L):NS D L×Bool:=
 if ok=false∨height<0∨1200≤height then (s,false)
 else match getA height s.decs with
  | some v=>if v.dig≠d then (s,false) else ({s with decs:=putA height ⟨-1,d,l⟩ s.decs},true)
  | none=>({s with decs:=putA height ⟨-1,d,l⟩ s.decs},true)
def NS.accept (s:NS D L) (d:D):NS D L:={s with acc:=insA d s.acc}
def insI (x:Int):List Int→List Int
 | []=>[x]
 | y :: l=>if x≤y then x :: y :: l else y :: insI x l
def sortI (l:List Int):List Int:=l.foldr insI []
def askedL (props:List (Int×Msg D L)):List Int→List D→List L
 | [],_=>[]
 | r :: l,seen=>match getA r props with
  | some m=>if m.dig∈seen then askedL props l seen else m.list :: askedL props l (m.dig :: seen)
  | none=>askedL props l seen
def NS.asked (s:NS D L):List L:=if s.isDec s.height then [] else askedL s.props (sortI (s.props.map (·.1))) s.acc
def NS.decDig (s:NS D L) (h:Int):D:=match getA h s.decs with | some v=>v.dig | none=>Dg.nil
def NS.decList (s:NS D L) (h:Int):L:=match getA h s.decs with | some v=>v.list | none=>default
def NS.ask (s:NS D L) (m:Msg D L):NS D L:=
 if m.kind=3∧s.proposer m.frm m.height m.round=false∧m.dig=s.decDig m.height then
  {s with inf:=insA (m.height,m.frm) s.inf,ques:=match getA m.frm s.ques with
   | some q=>if q.1=m.height then delA m.frm s.ques else s.ques
   | none=>s.ques}
 else if (m.height,m.frm)∈s.inf then s
 else match getA m.frm s.ques with
  | some q=>if q.1<m.height∨(q.1=m.height∧q.2<m.round) then {s with ques:=putA m.frm (m.height,m.round) s.ques} else s
  | none=>{s with ques:=putA m.frm (m.height,m.round) s.ques}
def NS.receive (s:NS D L) (m:Msg D L) (ok:Bool):NS D L:=
 if ok=false∨m.to≠s.id∨s.n≤m.frm∨s.height<m.height then s
 else if ¬(m.kind=3∨m.kind=4∨m.kind=6∨m.kind=5) then s
 else if s.isDec m.height=true then s.ask m
 else if m.height<s.height then s
 else if m.kind≠3 then s.putVote m
 else if s.proposer m.frm m.height m.round=true then {s with props:=keepA s.props m.round m}
 else match getA m.frm s.claims with
  | some _=>s
  | none=>{s with claims:=putA m.frm m s.claims,order:=s.order ++ [m.frm]}
def NS.claimRound (s:NS D L) (height round:Int):Int:=
 if s.proposer s.id height round=false then round else if round<99 then round+1 else round - 1
def NS.answer (s:NS D L) (site:Int) (q:Int×Int):List (Msg D L):=
 let d:=s.decDig q.1
 let l:=s.decList q.1
 [⟨3,s.id,site,q.1,s.claimRound q.1 q.2,-1,d,l⟩,⟨4,s.id,site,q.1,q.2,0,d,default⟩] ++
 ((List.range (q.2+1).toNat).map fun (r:Nat)=>(⟨6,s.id,site,q.1,(r:Int),0,d,default⟩:Msg D L)) ++ [⟨5,s.id,site,q.1,q.2,0,d,default⟩]
def NS.answers (s:NS D L):List (Msg D L):=
 (sortI (s.ques.map (·.1))).flatMap fun site=>match getA site s.ques with
  | some q=>s.answer site q
  | none=>[]
def NS.waiting (s:NS D L):Bool:=
 (decide (s.step=2) && decide (s.reached s.round<quorumN s.n)) || (decide (s.step=4) && decide (s.passed s.round<quorumN s.n))
def NS.sends (s:NS D L) (ms:List (Msg D L)):List (Msg D L):=
 ms.flatMap fun m=>(List.range s.n.toNat).filterMap fun (to:Nat)=>if (to:Int)≠s.id then some {m with to:=(to:Int)} else none
def NS.ticked (s:NS D L):NS D L:=
 {s with ticks:=s.ticks+1,clock:=if s.waiting then s.clock else s.clock+1}
def NS.tick (s0:NS D L):NS D L×List (Msg D L):=
 let out:=s0.answers
 let s:={s0 with ques:=[]}
 if s.isDec s.height then (s,out)
 else
  let s1:=s.ticked
  let s2:=s1.apply
  (s2,out ++ s2.sends (s2.mine.drop (if s2.ticks % 4=0 then 0 else s1.mine.length)))
def insK (x:Int×D):List (Int×D)→List (Int×D)
 | []=>[x]
 | y :: l=>if x.1≤y.1 then x :: y :: l else y :: insK x l
def NS.keys (s:NS D L):List (Int×D):=
 (s.mine.filterMap fun m=>if m.kind=6 then some (m.round,m.dig) else none).foldr insK []
end
section
variable {κ β:Type} [DecidableEq κ]
theorem getA_mem {k:κ} {v:β}:∀{l:List (κ×β)},getA k l=some v→(k,v)∈l
 | [],h=>by cases h
 | p :: l,h=>by
  unfold getA at h;split at h
  ·rename_i e;cases h;subst e;simp
  exact List.mem_cons_of_mem _ (getA_mem h)
theorem getA_none {k:κ}:∀{l:List (κ×β)},getA k l=none↔k∉l.map (·.1)
 | []=>by simp [getA]
 | p :: l=>by
  unfold getA;split
  ·rename_i e;simp [e]
  rename_i e
  rw [getA_none,List.map_cons,List.mem_cons];constructor
  ·rintro h (q | q)
   ·exact e q.symm
   exact h q
  intro h q;exact h (.inr q)
theorem getA_of {k:κ} {v:β}:∀{l:List (κ×β)},(l.map (·.1)).Nodup→(k,v)∈l→getA k l=some v
 | [],_,h=>by cases h
 | p :: l,hn,h=>by
  rw [List.map_cons,List.nodup_cons] at hn;unfold getA;rcases List.mem_cons.1 h with e | e
  ·subst e;simp
  have:p.1≠k:=fun q=>hn.1 (by rw [q];exact List.mem_map.2 ⟨_,e,rfl⟩);rw [if_neg this];exact getA_of hn.2 e
theorem putA_new {k:κ} {v:β}:∀{l:List (κ×β)},getA k l=none→putA k v l=l ++ [(k,v)]
 | [],_=>rfl
 | p :: l,h=>by
  unfold getA at h;unfold putA;split at h
  ·cases h
  rename_i e;rw [if_neg e,putA_new h];rfl
theorem getA_put {k j:κ} {v:β}:∀(l:List (κ×β)),getA j (putA k v l)=if j=k then some v else getA j l
 | []=>by
  unfold putA getA;by_cases h:j=k
  ·subst h;simp
  ·have h2:¬k=j:=fun q=>h q.symm;simp [h,h2,getA]
 | p :: l=>by
  unfold putA;by_cases e:p.1=k
  ·rw [if_pos e];unfold getA;by_cases h:j=k
   ·subst h;simp
   have h2:¬k=j:=fun q=>h q.symm;have h3:¬p.1=j:=fun q=>h (by rw [←q,e]);rw [if_neg h2,if_neg h3,if_neg h]
  rw [if_neg e];unfold getA;by_cases h:p.1=j
  ·have:¬j=k:=fun q=>e (by rw [h,q]);rw [if_pos h,if_pos h,if_neg this]
  rw [if_neg h,if_neg h];exact getA_put l
theorem putA_keys {k:κ} {v:β}:∀(l:List (κ×β)),(putA k v l).map (·.1)=insA k (l.map (·.1))
 | []=>by simp [putA,insA]
 | p :: l=>by
  unfold putA;by_cases e:p.1=k
  ·rw [if_pos e];simp [insA,e]
  have ih:=putA_keys (v:=v) l (k:=k);have e2:¬k=p.1:=fun q=>e q.symm;rw [if_neg e,List.map_cons,ih];unfold insA;by_cases m:k∈l.map (·.1)
  ·rw [if_pos m,if_pos (by simp at m ⊢;exact .inr m)];rfl
  rw [if_neg m,if_neg (by simp at m ⊢;exact ⟨e2,m⟩)];rfl
theorem insA_nodup {k:κ} {l:List κ} (h:l.Nodup):(insA k l).Nodup:=by
 unfold insA;split
 ·exact h
 rename_i hk
 rw [List.nodup_append];exact ⟨h,by simp,fun a ha b hb=>by simp at hb;subst hb;exact fun e=>hk (e ▸ ha)⟩
theorem mem_insA {k x:κ} {l:List κ}:x∈insA k l↔x∈l∨x=k:=by
 unfold insA;split
 ·rename_i h
  constructor
  ·exact .inl
  rintro (q | q)
  ·exact q
  exact q ▸ h
 simp
theorem mem_putA {k:κ} {v:β} {p:κ×β}:∀{l:List (κ×β)},p∈putA k v l→p=(k,v)∨p∈l
 | [],h=>by simp [putA] at h;exact .inl h
 | q :: l,h=>by
  unfold putA at h;split at h
  ·rcases List.mem_cons.1 h with e | e
   ·exact .inl e
   exact .inr (List.mem_cons_of_mem _ e)
  rcases List.mem_cons.1 h with e | e
  ·exact .inr (by rw [e];simp)
  rcases mem_putA e with e | e
  ·exact .inl e
  exact .inr (List.mem_cons_of_mem _ e)
theorem nodup_putA {k:κ} {v:β} {l:List (κ×β)} (h:(l.map (·.1)).Nodup):((putA k v l).map (·.1)).Nodup:=by rw [putA_keys];exact insA_nodup h
end
section
variable {D L:Type} [Dg D] [Inhabited L]
structure NumI (s:NS D L):Prop where
 n1:1≤s.n
 n7:s.n≤7
 id0:0≤s.id
 idn:s.id<s.n
 h0:0≤s.height
 h1:s.height<1200
 r0:0≤s.round
 r1:s.round≤99
 st1:1≤s.step
 st4:s.step≤4
 c0:0≤s.clock
 c1:s.clock≤s.ticks
 vr:∀v,s.valid=some v→0≤v.round∧v.round≤99
 lr:∀v,s.lock=some v→0≤v.round∧v.round≤99
structure MineI (s:NS D L):Prop where
 made:s.made=s.mine.map fun m=>(m.kind,m.round)
 nodup:s.made.Nodup
 rng:∀m∈s.mine,3≤m.kind∧m.kind≤6∧0≤m.round∧m.round≤99
 no4:∀m∈s.mine,m.kind=4→m.round<s.round∨(m.round=s.round∧2≤s.step)
 no5:∀m∈s.mine,m.kind=5→m.round<s.round∨(m.round=s.round∧s.step=4)
structure BoxI (sz:D→Prop) (s:NS D L):Prop where
 vk:(s.votes.map (·.1)).Nodup
 sk:(s.stand.map (·.1)).Nodup
 sr:∀p∈s.stand,0≤p.1∧p.1<s.n∧-1≤p.2.1∧p.2.1≤99∧-1≤p.2.2∧p.2.2≤99
 vz:∀p∈s.votes,sz p.2
 pk:(s.props.map (·.1)).Nodup
 pr:∀p∈s.props,0≤p.1∧p.1≤99∧-1≤p.2.valid∧p.2.valid≤99∧sz p.2.dig
 ck:(s.claims.map (·.1)).Nodup
 cr:∀p∈s.claims,0≤p.1∧p.1<s.n∧sz p.2.dig
 ord:s.order=s.claims.map (·.1)
 vz2:∀v,s.valid=some v→sz v.dig
 lz:∀v,s.lock=some v→sz v.dig
 oz:∀v,s.own=some v→sz v.dig∧v.round = -1
structure InvS (sz:D→Prop) (s:NS D L):Prop where
 num:NumI s
 min:MineI s
 box:BoxI sz s
 nil:sz Dg.nil
structure SameBut (s s':NS D L):Prop where
 height:s'.height=s.height
 id:s'.id=s.id
 n:s'.n=s.n
 valid:s'.valid=s.valid
 lock:s'.lock=s.lock
 own:s'.own=s.own
 claims:s'.claims=s.claims
 order:s'.order=s.order
 acc:s'.acc=s.acc
 decs:s'.decs=s.decs
 ques:s'.ques=s.ques
 inf:s'.inf=s.inf
 ticks:s'.ticks=s.ticks
theorem putVote_same (s:NS D L) (m:Msg D L):SameBut s (s.putVote m)∧(s.putVote m).round=s.round∧(s.putVote m).step=s.step∧(s.putVote m).clock=s.clock∧(s.putVote m).mine=s.mine∧(s.putVote m).made=s.made∧(s.putVote m).props=s.props:=by
 unfold NS.putVote;split <;> exact ⟨⟨rfl,rfl,rfl,rfl,rfl,rfl,rfl,rfl,rfl,rfl,rfl,rfl,rfl⟩,rfl,rfl,rfl,rfl,rfl,rfl⟩
theorem getA_st {s:NS D L} {sz:D→Prop} (h:BoxI sz s) (k:Int):-1≤((getA k s.stand).getD (-1,-1)).1∧((getA k s.stand).getD (-1,-1)).1≤99∧-1≤((getA k s.stand).getD (-1,-1)).2∧((getA k s.stand).getD (-1,-1)).2≤99:=by
 rcases hg:getA k s.stand with _ | q
 ·simp
 have:=h.sr _ (getA_mem hg);simp at this ⊢;omega
theorem putVote_box {sz:D→Prop} {s:NS D L} (h:BoxI sz s) {m:Msg D L} (hf:0≤m.frm∧m.frm<s.n) (hr:0≤m.round∧m.round≤99) (hz:sz m.dig):BoxI sz (s.putVote m):=by
 have hst:=getA_st h m.frm;unfold NS.putVote;split
 ·exact h
 exact ⟨nodup_putA h.vk,nodup_putA h.sk,fun p hp=>by
  rcases mem_putA hp with rfl | hp
  ·refine ⟨hf.1,hf.2,?_⟩;simp only;split <;> omega
  ·exact h.sr p hp,fun p hp=>by
  rcases mem_putA hp with rfl | hp
  ·exact hz
  exact h.vz p hp,h.pk,h.pr,h.ck,h.cr,h.ord,h.vz2,h.lz,h.oz⟩
theorem keepA_keys {l:List (Int×Msg D L)} (h:(l.map (·.1)).Nodup) (k:Int) (m:Msg D L):((keepA l k m).map (·.1)).Nodup:=by
 unfold keepA;split
 ·exact h
 exact nodup_putA h
theorem mem_keepA {l:List (Int×Msg D L)} {k:Int} {m:Msg D L} {p:Int×Msg D L} (h:p∈keepA l k m):p=(k,m)∨p∈l:=by
 unfold keepA at h;split at h
 ·exact .inr h
 exact mem_putA h
theorem say_same (s:NS D L) (m:Msg D L):SameBut s (s.say m)∧(s.say m).round=s.round∧(s.say m).step=s.step∧(s.say m).clock=s.clock∧(s.say m).mine=s.mine ++ [{m with frm:=s.id,height:=s.height}]∧(s.say m).made=insA (m.kind,m.round) s.made:=by
 unfold NS.say;simp only;split
 ·exact ⟨⟨rfl,rfl,rfl,rfl,rfl,rfl,rfl,rfl,rfl,rfl,rfl,rfl,rfl⟩,rfl,rfl,rfl,rfl,rfl⟩
 obtain ⟨h,h1,h2,h3,h4,h5,_⟩:=putVote_same {s with mine:=s.mine ++ [{m with frm:=s.id,height:=s.height}],made:=insA (m.kind,m.round) s.made} {m with frm:=s.id,height:=s.height,to:=(s.id+1) % 7};exact ⟨⟨h.height,h.id,h.n,h.valid,h.lock,h.own,h.claims,h.order,h.acc,h.decs,h.ques,h.inf,h.ticks⟩,h1,h2,h3,h4,h5⟩
theorem say_box {sz:D→Prop} {s:NS D L} (h:BoxI sz s) (hn:NumI s) {m:Msg D L} (hr:0≤m.round∧m.round≤99) (hv:-1≤m.valid∧m.valid≤99) (hz:sz m.dig):BoxI sz (s.say m):=by
 unfold NS.say;simp only;split
 ·exact ⟨h.vk,h.sk,h.sr,h.vz,keepA_keys h.pk _ _,fun p hp=>by
   rcases mem_keepA hp with rfl | hp
   ·exact ⟨hr.1,hr.2,hv.1,hv.2,hz⟩
   exact h.pr p hp,h.ck,h.cr,h.ord,h.vz2,h.lz,h.oz⟩
 have hb:BoxI sz {s with mine:=s.mine ++ [{m with frm:=s.id,height:=s.height}],made:=insA (m.kind,m.round) s.made}:=⟨h.vk,h.sk,h.sr,h.vz,h.pk,h.pr,h.ck,h.cr,h.ord,h.vz2,h.lz,h.oz⟩;exact putVote_box hb (m:={m with frm:=s.id,height:=s.height,to:=(s.id+1) % 7}) ⟨hn.id0,hn.idn⟩ hr hz
theorem BoxI.of {sz:D→Prop} {s s':NS D L} (h:BoxI sz s) (hn:s'.n=s.n) (h1:s'.votes=s.votes) (h2:s'.stand=s.stand) (h3:s'.props=s.props) (h4:s'.claims=s.claims) (h5:s'.order=s.order) (h6:∀v,s'.valid=some v→sz v.dig) (h7:∀v,s'.lock=some v→sz v.dig) (h8:s'.own=s.own):BoxI sz s':=by
 refine ⟨by rw [h1];exact h.vk,by rw [h2];exact h.sk,by rw [h2,hn];exact h.sr,by rw [h1];exact h.vz,by rw [h3];exact h.pk,by rw [h3];exact h.pr,by rw [h4];exact h.ck,by rw [h4,hn];exact h.cr,by rw [h5,h4];exact h.ord,h6,h7,by rw [h8];exact h.oz⟩
theorem box_enter {sz:D→Prop} {s:NS D L} (h:BoxI sz s) (k:Int):BoxI sz (s.enter k):=h.of rfl rfl rfl rfl rfl rfl h.vz2 h.lz rfl
theorem mine_say {s:NS D L} (h:MineI s) {m:Msg D L} (hk:3≤m.kind∧m.kind≤6) (hr:0≤m.round∧m.round≤99) (hnew:(m.kind,m.round)∉s.made) {s':NS D L}
  (e1:s'.mine=s.mine ++ [{m with frm:=s.id,height:=s.height}]) (e2:s'.made=insA (m.kind,m.round) s.made)
  (h4:∀x∈s.mine ++ [m],x.kind=4→x.round<s'.round∨(x.round=s'.round∧2≤s'.step)) (h5:∀x∈s.mine ++ [m],x.kind=5→x.round<s'.round∨(x.round=s'.round∧s'.step=4)):MineI s':=by
 have e3:insA (m.kind,m.round) s.made=s.made ++ [(m.kind,m.round)]:=by unfold insA;rw [if_neg hnew]
 refine ⟨by rw [e1,e2,e3,h.made];simp,by rw [e2];exact insA_nodup h.nodup,?_,?_,?_⟩
 ·rw [e1];intro x hx;rcases List.mem_append.1 hx with q | q
  ·exact h.rng x q
  simp at q;subst q;exact ⟨hk.1,hk.2,hr.1,hr.2⟩
 ·rw [e1];intro x hx;rcases List.mem_append.1 hx with q | q
  ·exact h4 x (by simp [q])
  simp at q;subst q;exact h4 m (by simp)
 rw [e1];intro x hx;rcases List.mem_append.1 hx with q | q
 ·exact h5 x (by simp [q])
 simp at q;subst q;exact h5 m (by simp)
theorem not_made {s:NS D L} (h:MineI s) {k r:Int} (hn:∀m∈s.mine,m.kind=k→m.round≠r):(k,r)∉s.made:=by
 rw [h.made];intro hm;obtain ⟨m,hm1,hm2⟩:=List.mem_map.1 hm;injection hm2 with a b
 exact hn m hm1 a b
end
end Go.Proofs.YtifcdjmcoibblaaGreatDoor
