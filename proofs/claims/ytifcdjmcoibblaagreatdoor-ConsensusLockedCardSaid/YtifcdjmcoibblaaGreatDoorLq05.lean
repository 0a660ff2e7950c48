/- ConR San Raw -/
import Derived.Test.YtifcdjmcoibblaaGreatDoorLq04
import Derived.WalkKit
import Derived.LaidEqlPtr
import Derived.ChangeMaps4
import Derived.MapFrom
import Derived.Lib.Hide
import Derived.Below
import Derived.RangeFuncRecord
import Derived.Maps.RangeWalk
import Derived.Test.YtifcdjmcoibblaaGreatDoorLq01
set_option linter.unusedVariables false
set_option linter.unusedSimpArgs false
set_option linter.unusedSectionVars false
namespace Go.Proofs.YtifcdjmcoibblaaGreatDoor
section
variable {D L E M:Type} [Dg D] [Inhabited L] [Dg E] [Inhabited M]
def dlvN (ns:List (NS D L)) (m:Msg D L):List (NS D L):=ns.modify m.to.toNat fun s=>s.receive m true
def outsN (ns:List (NS D L)):List (Msg D L):=ns.flatMap fun s=>s.tick.2
def midN (ns:List (NS D L)):List (NS D L):=ns.map fun s=>s.tick.1
def rndN (ns:List (NS D L)):List (NS D L):=(outsN ns).foldl dlvN (midN ns)
def rndsN:Nat→List (NS D L)→List (NS D L)
 | 0,ns=>ns
 | k+1,ns=>rndN (rndsN k ns)
theorem rndsN_head:∀(k:Nat) (ns:List (NS D L)),rndsN (k+1) ns=rndsN k (rndN ns)
 | 0,_=>rfl
 | k+1,ns=>by
  show rndN (rndsN (k+1) ns)=rndN (rndsN k (rndN ns));rw [rndsN_head k ns]
def outsF (ns:List (NS D L)):List (Msg D L):=ns.flatMap fun s=>s.tickF.2
def rndF (ns:List (NS D L)):List (NS D L)×List (Msg D L):=
 let r:=ns.map NS.tickF
 let out:=r.flatMap (·.2)
 (out.foldl dlvN (r.map (·.1)),out)
theorem dlvN_len (ns:List (NS D L)) (m:Msg D L):(dlvN ns m).length=ns.length:=by unfold dlvN;simp
theorem foldl_dlv_len:∀(ms:List (Msg D L)) (ns:List (NS D L)),(ms.foldl dlvN ns).length=ns.length
 | [],_=>rfl
 | m :: ms,ns=>by rw [List.foldl_cons,foldl_dlv_len ms,dlvN_len]
theorem rndN_len (ns:List (NS D L)):(rndN ns).length=ns.length:=by unfold rndN;rw [foldl_dlv_len];simp [midN]
theorem rndsN_len:∀(k:Nat) (ns:List (NS D L)),(rndsN k ns).length=ns.length
 | 0,_=>rfl
 | k+1,ns=>by show (rndN (rndsN k ns)).length=_;rw [rndN_len,rndsN_len k]
theorem dlv_all {P:NS D L→Prop} {ns:List (NS D L)} {m:Msg D L} (h:∀s∈ns,P s) (hr:∀s,P s→P (s.receive m true)):∀s∈dlvN ns m,P s:=by
 intro s hs;unfold dlvN at hs;obtain ⟨i,hi,rfl⟩:=List.mem_iff_getElem.1 hs;rw [List.getElem_modify];split
 ·exact hr _ (h _ (List.getElem_mem _))
 exact h _ (List.getElem_mem _)
theorem foldl_dlv_all {P:NS D L→Prop} {Q:Msg D L→Prop} (hr:∀m,Q m→∀s,P s→P (s.receive m true)):∀(ms:List (Msg D L)) (ns:List (NS D L)),(∀m∈ms,Q m)→(∀s∈ns,P s)→∀s∈ms.foldl dlvN ns,P s
 | [],_,_,h=>h
 | m :: ms,ns,hm,h=>by
  rw [List.foldl_cons];exact foldl_dlv_all hr ms _ (fun a ha=>hm a (by simp [ha])) (dlv_all h (hr m (hm m (by simp))))
theorem rnd_all {P:NS D L→Prop} {Q:Msg D L→Prop} (ht:∀s,P s→P s.tick.1) (hr:∀m,Q m→∀s,P s→P (s.receive m true)) {ns:List (NS D L)} (hm:∀m∈outsN ns,Q m) (h:∀s∈ns,P s):∀s∈rndN ns,P s:=by
 refine foldl_dlv_all hr _ _ hm (fun s hs=>?_);obtain ⟨a,ha,rfl⟩:=List.mem_map.1 hs;exact ht a (h a ha)
theorem rndF_eq {sz:D→Prop} {ns:List (NS D L)} (h:∀s∈ns,InvS sz s):rndF ns=(rndN ns,outsN ns):=by
 have e:ns.map NS.tickF=ns.map NS.tick:=List.map_congr_left (fun s hs=>tickF_eq (h s hs));unfold rndF rndN outsN midN;rw [e];simp [List.flatMap_map,List.map_map,Function.comp_def]
theorem dlv_ren {f:D→E} {g:L→M} (r:Ren f g) (ns:List (NS D L)) (m:Msg D L):dlvN (ns.map (NS.ren f g)) (m.ren f g)=(dlvN ns m).map (NS.ren f g):=by
 unfold dlvN;apply List.ext_getElem?;intro i;show ((ns.map (NS.ren f g)).modify m.to.toNat _)[i]?=_;rw [List.getElem?_modify,List.getElem?_map,List.getElem?_map,List.getElem?_modify];rcases ns[i]? with _ | s
 ·rfl
 show some (if m.to.toNat=i then (s.ren f g).receive (m.ren f g) true else s.ren f g)=some (NS.ren f g (if m.to.toNat=i then s.receive m true else s));by_cases hi:m.to.toNat=i
 ·rw [if_pos hi,if_pos hi,receive_ren r]
 rw [if_neg hi,if_neg hi]
theorem foldl_dlv_ren {f:D→E} {g:L→M} (r:Ren f g):∀(ms:List (Msg D L)) (ns:List (NS D L)),(ms.map (Msg.ren f g)).foldl dlvN (ns.map (NS.ren f g))=(ms.foldl dlvN ns).map (NS.ren f g)
 | [],_=>rfl
 | m :: ms,ns=>by rw [List.map_cons,List.foldl_cons,List.foldl_cons,dlv_ren r,foldl_dlv_ren r ms]
theorem outs_ren {f:D→E} {g:L→M} (r:Ren f g) (ns:List (NS D L)):outsN (ns.map (NS.ren f g))=(outsN ns).map (Msg.ren f g):=by
 unfold outsN;rw [List.flatMap_map,List.map_flatMap];congr 1;funext s
 rw [tick_ren r]
theorem mid_ren {f:D→E} {g:L→M} (r:Ren f g) (ns:List (NS D L)):midN (ns.map (NS.ren f g))=(midN ns).map (NS.ren f g):=by
 unfold midN;rw [List.map_map,List.map_map];congr 1;funext s
 simp only [Function.comp];rw [tick_ren r]
theorem rnd_ren {f:D→E} {g:L→M} (r:Ren f g) (ns:List (NS D L)):rndN (ns.map (NS.ren f g))=(rndN ns).map (NS.ren f g):=by
 unfold rndN;rw [outs_ren r,mid_ren r,foldl_dlv_ren r]
theorem rnds_ren {f:D→E} {g:L→M} (r:Ren f g):∀(k:Nat) (ns:List (NS D L)),rndsN k (ns.map (NS.ren f g))=(rndsN k ns).map (NS.ren f g)
 | 0,_=>rfl
 | k+1,ns=>by show rndN (rndsN k _)=(rndN (rndsN k ns)).map _;rw [rnds_ren r k,rnd_ren r]
end
instance dgQ {z:Nat}:Dg (Fin (z+1)):=⟨inferInstance,0,fun a b=>decide (a.val<b.val)⟩
abbrev QZ (z:Nat):=Fin (z+1)
abbrev SZ (z:Nat):=NS (QZ z) (QZ z)
abbrev MZ (z:Nat):=Msg (QZ z) (QZ z)
abbrev Q5:=QZ 4
abbrev S5:=SZ 4
abbrev M5:=MZ 4
section
variable {z:Nat}
def okQ (n:Int) (m:MZ z):Bool:=
 decide (0≤m.frm) && decide (m.frm<n) && decide (0≤m.to) && decide (m.to<n) && !decide (m.frm=m.to) && decide (0≤m.height) && decide (m.height<1200) && decide (0≤m.round) && decide (m.round<100) &&
 (if m.kind=3 then decide (m.list=m.dig) && !decide (m.dig=0) && decide (-1≤m.valid) && decide (m.valid<m.round) else (decide (m.kind=4) || decide (m.kind=5) || decide (m.kind=6)) && decide (m.valid=0) && decide (m.list=0))
structure OkQ (n:Int) (m:MZ z):Prop where
 frm:0≤m.frm∧m.frm<n
 to_:0≤m.to∧m.to<n
 ne:m.frm≠m.to
 height:0≤m.height∧m.height<1200
 round:0≤m.round∧m.round<100
 kind:m.kind=3∨m.kind=4∨m.kind=5∨m.kind=6
 prop:m.kind=3→m.list=m.dig∧m.dig≠0∧-1≤m.valid∧m.valid<m.round
 vote:m.kind≠3→m.valid=0∧m.list=0
theorem okQ_ok {n:Int} {m:MZ z} (h:okQ n m=true):OkQ n m:=by
 unfold okQ at h;by_cases hk:m.kind=3
 ·rw [if_pos hk] at h;simp at h;obtain ⟨⟨⟨⟨⟨⟨⟨⟨⟨a1,a2⟩,a3⟩,a4⟩,a5⟩,a6⟩,a7⟩,a8⟩,a9⟩,⟨⟨⟨b1,b2⟩,b3⟩,b4⟩⟩:=h;exact ⟨⟨a1,a2⟩,⟨a3,a4⟩,a5,⟨a6,a7⟩,⟨a8,a9⟩,.inl hk,fun _=>⟨b1,b2,b3,b4⟩,fun q=>absurd hk q⟩
 rw [if_neg hk] at h;simp at h;obtain ⟨⟨⟨⟨⟨⟨⟨⟨⟨a1,a2⟩,a3⟩,a4⟩,a5⟩,a6⟩,a7⟩,a8⟩,a9⟩,⟨⟨b1,b2⟩,b3⟩⟩:=h;refine ⟨⟨a1,a2⟩,⟨a3,a4⟩,a5,⟨a6,a7⟩,⟨a8,a9⟩,?_,fun q=>absurd q hk,fun _=>⟨b2,b3⟩⟩;rcases b1 with (b1 | b1) | b1
 ·exact .inr (.inl b1)
 ·exact .inr (.inr (.inl b1))
 exact .inr (.inr (.inr b1))
theorem OkQ.okM {n:Int} {m:MZ z} (h:OkQ n m):OkM (fun _:QZ z=>True) m:=by
 have hr:=h.round;have hf:=h.frm;have hv:-1≤m.valid∧m.valid≤99:=by
  by_cases hk:m.kind=3
  ·have:=h.prop hk;omega
  have:=h.vote hk;omega
 exact ⟨hf.1,hr.1,by omega,hv.1,hv.2,trivial⟩
def goodRun (n:Int):Nat→List (SZ z)→Bool×List (SZ z)
 | 0,ns=>(true,ns)
 | t+1,ns=>let r:=rndF ns;if r.2.all (okQ n) then goodRun n t r.1 else (false,r.1)
theorem goodRun_ok (n:Int):∀(t:Nat) (ns:List (SZ z)),(∀s∈ns,InvS (fun _:QZ z=>True) s)→(goodRun n t ns).1=true →
  (goodRun n t ns).2=rndsN t ns∧(∀j,j<t→∀m∈outsN (rndsN j ns),OkQ n m)∧∀j,j≤t→∀s∈rndsN j ns,InvS (fun _:QZ z=>True) s
 | 0,ns,h,_=>by
  refine ⟨rfl,fun j hj=>by omega,fun j hj=>?_⟩;have:j=0:=by omega
  subst this;exact h
 | t+1,ns,h,hg=>by
  have e:=rndF_eq h;unfold goodRun at hg ⊢;rw [e] at hg ⊢;simp only at hg ⊢;by_cases ha:(outsN ns).all (okQ n)=true
  ·rw [if_pos ha] at hg ⊢;have hm:∀m∈outsN ns,OkQ n m:=fun m hm=>okQ_ok (List.all_eq_true.1 ha m hm);have h1:∀s∈rndN ns,InvS (fun _:QZ z=>True) s:=rnd_all (Q:=OkQ n) (fun s hs=>tick_inv hs) (fun m hm s hs=>receive_inv hs (fun _ _=>hm.okM)) hm h;obtain ⟨a,b,c⟩:=goodRun_ok n t (rndN ns) h1 hg;refine ⟨by rw [a,rndsN_head],fun j hj=>?_,fun j hj=>?_⟩
   ·rcases j with _ | j
    ·exact hm
    rw [rndsN_head];exact b j (by omega)
   rcases j with _ | j
   ·exact h
   rw [rndsN_head];exact c j (by omega)
  rw [if_neg ha] at hg;cases hg
end
def startQ (n:Nat) (k:Q5):List S5:=(List.range n).map fun (i:Nat)=>((newS (i:Int) (n:Int):S5).begin 0 true k k).1
def nextQ (k:Q5) (l:List S5):List S5:=l.map fun s=>(s.begin 1 true k k).1
def doneQ (h:Int) (k:Q5) (l:List S5):Bool:=l.all fun s=>(match getA h s.decs with | some v=>decide (v.dig=k) && decide (v.list=k) | none=>false) && decide (s.round=0)
def mayQ (k:Q5) (l:List S5):Bool:=l.all fun s=>(s.begin 1 true k k).2
def quickQ (n:Nat) (k k2:Q5):Bool:=
 let a:=goodRun n 8 (startQ n k)
 a.1 && doneQ 0 k a.2 && mayQ k2 a.2 && (let b:=goodRun n 8 (nextQ k2 a.2);b.1 && doneQ 1 k2 b.2)
abbrev S6:=SZ 5
abbrev M6:=MZ 5
def vq (kind frm:Int) (d:QZ 5):M6:=⟨kind,frm,0,0,0,0,d,0⟩
def o1:S6:=((newS 0 1:S6).begin 0 true 4 4).1
def o2:S6:=o1.tick.1
def q1:S6:=((newS 0 4:S6).begin 0 true 4 4).1
def q2:S6:=q1.tick.1
def q3:S6:=q2.receive (vq 4 1 4) true
def q4:S6:=q3.receive (vq 4 2 4) true
def q5:S6:=q4.tick.1
def q6:S6:=q5.receive (vq 6 1 4) true
def q7:S6:=q6.receive (vq 6 3 4) true
def q8:S6:=q7.tick.1
def q9:S6:=q8.receive (vq 5 2 4) true
def q10:S6:=q9.receive (vq 5 3 4) true
def q11:S6:=q10.tick.1
def q12:S6:=(q11.begin 0 true 4 4).1
def q13:S6:=(q12.begin 1 true 3 3).1
def isV (o:Option (Val (QZ 5) (QZ 5))) (r:Int) (l:QZ 5):Bool:=match o with | some v=>decide (v.round=r) && decide (v.list=l) | none=>false
theorem san_a:((newS 0 1:S6).begin 0 true 4 4).2=true∧o1.tick.2.length=0∧(match getA 0 o2.decs with | some v=>decide (v.list=4) | none=>false)=true:=by decide +kernel
theorem san_b:((newS 0 4:S6).begin 0 true 4 4).2=true∧q1.tick.2.length=6∧q4.tick.2.length=3∧q7.tick.2.length=3:=by decide +kernel
theorem san_c:isV q8.lock 0 4=true∧(getA 0 q9.decs).isNone=true∧(match getA 0 q11.decs with | some v=>decide (v.list=4) | none=>false)=true:=by decide +kernel
theorem san_d:(q11.begin 0 true 4 4).2=false∧(q12.begin 1 true 3 3).2=true∧q13.height=1:=by decide +kernel
theorem san_t:o1.ticks=0∧q1.ticks=0∧q4.ticks=1∧q7.ticks=2∧q10.ticks=3:=by decide +kernel
set_option maxRecDepth 100000
set_option maxHeartbeats 80000000
section
open Go.MapKept (bytes_beq)
open Classical in
noncomputable def findE (x:Value):List MapEntry→Nat→Option (Nat×Value)
 | [],_=>none
 | e :: es,i=>if e.key=x then some (i,e.val) else findE x es (i+1)
structure RawKey (P:Program) (K:TypeId) (good:World→Value→Prop):Prop where
 find:∀w x es,good w x→(∀e∈es,good w e.key)→(Instr.findKey K x es).run P w = .ok (findE x es 0) w
 check:∀w em x,good w x→(Instr.checkKey em 10000 K x).run P w = .ok () w
 stays:∀w x,good w x→(Instr.keyThatStays x x).run P w = .ok x w
def goodS (w:World) (x:Value):Prop:=∃s,x = .string s
def goodP (w:World) (x:Value):Prop:=∃b cs t,x = .pointer (some ⟨b,0,none⟩)∧w.heap[b]?=some (.cells cs t (0,0))
theorem findNow_string (x:ByteArray):∀(es:List MapEntry) (i:Nat),(∀e∈es,∃s,e.key = .string s)→Instr.findNow .string (.string x) es i=some (findE (.string x) es i)
 | [],i,_=>rfl
 | e :: es,i,h=>by
  obtain ⟨s,hs⟩:=h e (by simp);have ih:=findNow_string x es (i+1) (fun e he=>h e (by simp [he]));unfold Instr.findNow findE;rw [hs];by_cases hx:x=s
  ·subst hx;have hb:(x == x)=true:=(bytes_beq x x).2 rfl;simp [Instr.sameNow,hb]
  have hne:¬s=x:=fun h=>hx h.symm;have hb:(x == s)=false:=by rw [Bool.eq_false_iff];exact fun h=>hx ((bytes_beq x s).1 h)
  simp [Instr.sameNow,hb,hne,ih]
theorem rawString {P:Program} {K:TypeId} (hK:P.underlying K=some .string):RawKey P K goodS where
 find:=fun w x es ⟨s,hs⟩ h=>by
  subst hs;simp [Instr.findKey,run_underlying hK,findNow_string s es 0 h]
 check:=fun w em x ⟨s,hs⟩=>by
  subst hs;show (Instr.checkKey em (9999+1) K _).run P w=_;unfold Instr.checkKey;simp only [Sem.run_bind,run_underlying hK,Result.andThen];rfl
 stays:=fun w x ⟨s,hs⟩=>by
  subst hs;have hb:(s == s)=true:=(bytes_beq s s).2 rfl;simp [Instr.keyThatStays,Instr.sameBits,hb]
theorem findAsking_ptr {P:Program} {K te:TypeId} {j:TypeInfo} (hK:P.underlying K=some (.pointer te)) (hte:P.info? te=some j) (hsz:j.size≠0) (w:World) (b:Nat) (cs:Array Value) (t:TypeId) (hb:w.heap[b]?=some (.cells cs t (0,0))) :
  ∀(es:List MapEntry) (i:Nat),(∀e∈es,goodP w e.key)→(Instr.findAsking K (.pointer (some ⟨b,0,none⟩)) es i).run P w = .ok (findE (.pointer (some ⟨b,0,none⟩)) es i) w
 | [],i,_=>by simp [Instr.findAsking,findE]
 | e :: es,i,h=>by
  obtain ⟨b',cs',t',hk,hb'⟩:=h e (by simp);have ih:=findAsking_ptr hK hte hsz w b cs t hb es (i+1) (fun e he=>h e (by simp [he]));unfold Instr.findAsking findE;rw [hk];by_cases e1:b=b'
  ·subst e1;have he0:∀d:Nat,(Op.equalIn (d+1) K (.pointer (some ⟨b,0,none⟩)) (.pointer (some ⟨b,0,none⟩))).run P w = .ok true w:=fun d=>by
    simp [Op.equalIn,run_underlying hK,sizeOf,typeInfo,hte,run_sameAddr_same]
   have he:(Op.equal K (.pointer (some ⟨b,0,none⟩)) (.pointer (some ⟨b,0,none⟩))).run P w = .ok true w:=he0 9999;simp [he]
  have hne:(⟨b,0,none⟩:Addr)≠⟨b',0,none⟩:=fun h=>e1 (by injection h);have he0:∀d:Nat,(Op.equalIn (d+1) K (.pointer (some ⟨b,0,none⟩)) (.pointer (some ⟨b',0,none⟩))).run P w = .ok false w:=fun d=>by
   simp [Op.equalIn,run_underlying hK,sizeOf,typeInfo,hte,hsz,run_sameAddr_other w hne hb hb']
  have he:(Op.equal K (.pointer (some ⟨b,0,none⟩)) (.pointer (some ⟨b',0,none⟩))).run P w = .ok false w:=he0 9999;have e2:¬b'=b:=fun h=>e1 h.symm;simp [he,e2,ih]
theorem findNow_ptr (te:TypeId) (x:Option Addr) (e:MapEntry) (es:List MapEntry) (i:Nat):Instr.findNow (.pointer te) (.pointer x) (e :: es) i=none:=by
 unfold Instr.findNow;simp [Instr.sameNow]
theorem rawPtr {P:Program} {K te:TypeId} {j:TypeInfo} (hK:P.underlying K=some (.pointer te)) (hte:P.info? te=some j) (hsz:j.size≠0):RawKey P K goodP where
 find:=fun w x es ⟨b,cs,t,hx,hb⟩ h=>by
  subst hx;rcases es with _ | ⟨e,es⟩
  ·simp [Instr.findKey,run_underlying hK,Instr.findNow,findE]
  have:=findAsking_ptr hK hte hsz w b cs t hb (e :: es) 0 h;simp only [Instr.findKey,Sem.run_bind,run_underlying hK,Result.andThen_ok,findNow_ptr];exact this
 check:=fun w em x ⟨b,cs,t,hx,hb⟩=>by
  subst hx;show (Instr.checkKey em (9999+1) K _).run P w=_;unfold Instr.checkKey;simp only [Sem.run_bind,run_underlying hK,Result.andThen];rfl
 stays:=fun w x ⟨b,cs,t,hx,hb⟩=>by subst hx;simp [Instr.keyThatStays,Instr.sameBits]
def RawMap (w:World) (b:Nat) (L:List (Value×Value)):Prop:=
 ∃es clk,w.heap[b]?=some (.map es clk)∧es.toList.map (fun e=>(e.key,e.val))=L∧(es.toList.map (·.born)).Pairwise (· < ·)∧∀e∈es.toList,e.born<clk
open Classical in
noncomputable def getV (x:Value):List (Value×Value)→Option Value
 | []=>none
 | p :: l=>if p.1=x then some p.2 else getV x l
open Classical in
noncomputable def putV (x v:Value):List (Value×Value)→List (Value×Value)
 | []=>[(x,v)]
 | p :: l=>if p.1=x then (x,v) :: l else p :: putV x v l
open Classical in
noncomputable def delV (x:Value):List (Value×Value)→List (Value×Value)
 | []=>[]
 | p :: l=>if p.1=x then l else p :: delV x l
theorem findE_get (x:Value):∀(es:List MapEntry) (i:Nat),(findE x es i).map (·.2)=getV x (es.map fun e=>(e.key,e.val))
 | [],i=>rfl
 | e :: es,i=>by
  unfold findE;simp only [List.map_cons,getV];split
  ·rfl
  exact findE_get x es (i+1)
theorem findE_some (x:Value):∀(es:List MapEntry) (i j:Nat) (v:Value),findE x es i=some (j,v)→∃(k:Nat) (e:MapEntry),j=i+k∧es[k]?=some e∧e.key=x∧e.val=v∧getV x (es.map fun e=>(e.key,e.val))=some v∧(∀nv,putV x nv (es.map fun e=>(e.key,e.val))=(es.modify k (fun e=>{e with key:=x,val:=nv})).map fun e=>(e.key,e.val))∧delV x (es.map fun e=>(e.key,e.val))=(es.eraseIdx k).map fun e=>(e.key,e.val)
 | [],i,j,v,h=>by simp [findE] at h
 | e :: es,i,j,v,h=>by
  unfold findE at h;split at h
  ·rename_i hk
   simp only [Option.some.injEq,Prod.mk.injEq] at h;obtain ⟨rfl,rfl⟩:=h;exact ⟨0,e,rfl,rfl,hk,rfl,by simp [getV,hk],fun nv=>by simp [putV,hk],by simp [delV,hk]⟩
  rename_i hk
  obtain ⟨k,e',h1,h2,h3,h4,h5,h6,h7⟩:=findE_some x es (i+1) j v h;exact ⟨k+1,e',by omega,by simpa using h2,h3,h4,by simpa [getV,hk] using h5,fun nv=>by simpa [putV,hk] using h6 nv,by simpa [delV,hk] using h7⟩
theorem findE_none (x:Value):∀(es:List MapEntry) (i:Nat),findE x es i=none→getV x (es.map fun e=>(e.key,e.val))=none∧(∀nv,putV x nv (es.map fun e=>(e.key,e.val))=(es.map fun e=>(e.key,e.val)) ++ [(x,nv)])∧delV x (es.map fun e=>(e.key,e.val))=es.map fun e=>(e.key,e.val)
 | [],i,_=>⟨rfl,fun _=>rfl,rfl⟩
 | e :: es,i,h=>by
  unfold findE at h;split at h
  ·cases h
  rename_i hk
  obtain ⟨h1,h2,h3⟩:=findE_none x es (i+1) h;exact ⟨by simpa [getV,hk] using h1,fun nv=>by simpa [putV,hk] using h2 nv,by simpa [delV,hk] using h3⟩
def KeysGood (good:World→Value→Prop) (w:World) (L:List (Value×Value)):Prop:=∀p∈L,good w p.1
theorem KeysGood.es {good:World→Value→Prop} {w:World} {es:Array MapEntry} (h:KeysGood good w (es.toList.map fun e=>(e.key,e.val))):∀e∈es.toList,good w e.key:=fun e he=>h (e.key,e.val) (List.mem_map.2 ⟨e,he,rfl⟩)
theorem RawMap.lookup {P:Program} {T K E:TypeId} {good:World→Value→Prop} (R:RawKey P K good) (hT:P.underlying T=some (.map K E)) {w:World} {b:Nat} {L:List (Value×Value)} (h:RawMap w b L) (hg:KeysGood good w L) {x:Value} (hx:good w x) {z:Value} (hz:(zeroValue E).run P w = .ok z w) (ok:Bool) :
  (Instr.lookup T (.map (some b)) x ok).run P w = .ok (if ok then .tuple #[(getV x L).getD z,.bool (getV x L).isSome] else (getV x L).getD z) w:=by
 obtain ⟨es,clk,hb,rfl,_,_⟩:=h;have h1:=R.find w x es.toList hx hg.es;have h2:=findE_get x es.toList 0;rcases hf:findE x es.toList 0 with _ | ⟨j,v⟩
 ·rw [hf] at h1 h2;simp only [Option.map_none] at h2;simp [Instr.lookup,run_underlying hT,MapKept.run_getObj_map hb,R.check w _ x hx,h1,hz,←h2]
 rw [hf] at h1 h2;simp only [Option.map_some] at h2;simp [Instr.lookup,run_underlying hT,MapKept.run_getObj_map hb,R.check w _ x hx,h1,←h2]
theorem lookup_nil {P:Program} {T K E:TypeId} {good:World→Value→Prop} (R:RawKey P K good) (hT:P.underlying T=some (.map K E)) {w:World} {x:Value} (hx:good w x) {z:Value} (hz:(zeroValue E).run P w = .ok z w) (ok:Bool) :
  (Instr.lookup T (.map none) x ok).run P w = .ok (if ok then .tuple #[z,.bool false] else z) w:=by
 have h1:=R.find w x [] hx (by simp);simp only [findE] at h1;simp [Instr.lookup,run_underlying hT,R.check w _ x hx,h1,hz]
theorem pairwise_modify {es:List MapEntry} {k:Nat} {f:MapEntry→MapEntry} (hf:∀e,(f e).born=e.born):(es.modify k f).map (·.born)=es.map (·.born):=by
 induction es generalizing k with
 | nil=>simp
 | cons e es ih=>
  rcases k with _ | k
  ·simp [hf]
  simp [ih]
theorem RawMap.update {P:Program} {T K E:TypeId} {good:World→Value→Prop} (R:RawKey P K good) (hT:P.underlying T=some (.map K E)) {w:World} {b:Nat} {L:List (Value×Value)} (h:RawMap w b L) (hg:KeysGood good w L) {x:Value} (hx:good w x) (v:Value) :
  ∃o,(Instr.mapUpdate T (.map (some b)) x v).run P w = .ok () (w.putObj b o)∧∀W:World,W.heap[b]?=some o→RawMap W b (putV x v L):=by
 obtain ⟨es,clk,hb,rfl,hp,hc⟩:=h;have h1:=R.find w x es.toList hx hg.es;rcases hf:findE x es.toList 0 with _ | ⟨j,v0⟩
 ·rw [hf] at h1;obtain ⟨_,h3,_⟩:=findE_none x es.toList 0 hf;refine ⟨.map (es.push {key:=x,val:=v,born:=clk}) (clk+1),?_,fun W hW=>⟨_,_,hW,?_,?_,?_⟩⟩
  ·simp [Instr.mapUpdate,run_underlying hT,MapKept.run_getObj_map hb,R.check w _ x hx,h1,MapKept.run_setObj_map _ hb,World.putObj]
  ·rw [h3];simp
  ·simp only [Array.toList_push,List.map_append,List.map_cons,List.map_nil];rw [List.pairwise_append];refine ⟨hp,by simp,fun a ha c hc'=>?_⟩;obtain ⟨e,he,rfl⟩:=List.mem_map.1 ha;simp at hc';subst hc';exact hc e he
  intro e he;simp only [Array.toList_push,List.mem_append,List.mem_singleton] at he;rcases he with he | rfl
  ·have:=hc e he;omega
  show clk<clk+1;omega
 rw [hf] at h1;obtain ⟨k,e,hj,hk,h3,h4,_,h6,_⟩:=findE_some x es.toList 0 j v0 hf;rw [Nat.zero_add] at hj;subst hj;have hk':es[j]?=some e:=by simpa using hk
 refine ⟨.map (es.modify j fun e=>{e with key:=x,val:=v}) clk,?_,fun W hW=>⟨_,_,hW,?_,?_,?_⟩⟩
 ·simp [Instr.mapUpdate,run_underlying hT,MapKept.run_getObj_map hb,R.check w _ x hx,h1,hk',h3,R.stays w x hx,MapKept.run_setObj_map _ hb,World.putObj]
 ·rw [h6 v,Array.toList_modify]
 ·rw [Array.toList_modify,pairwise_modify (f:=fun e=>{e with key:=x,val:=v}) (fun _=>rfl)];exact hp
 intro e' he';rw [Array.toList_modify] at he';have:e'.born∈(es.toList.modify j fun e=>{e with key:=x,val:=v}).map (·.born):=List.mem_map.2 ⟨e',he',rfl⟩;rw [pairwise_modify (f:=fun e=>{e with key:=x,val:=v}) (fun _=>rfl)] at this;obtain ⟨e2,h2,h5⟩:=List.mem_map.1 this;rw [←h5];exact hc e2 h2
theorem RawMap.delete {P:Program} {T K E:TypeId} {good:World→Value→Prop} (R:RawKey P K good) (hT:P.underlying T=some (.map K E)) {w:World} {b:Nat} {L:List (Value×Value)} (h:RawMap w b L) (hg:KeysGood good w L) {x:Value} (hx:good w x) (t:TypeId) (ts:Array TypeId) (hts:ts[0]?=some T) :
  ∃o,(Builtin.delete_ ts t #[.map (some b),x]).run P w = .ok (.tuple #[]) (w.putObj b o)∧∀W:World,W.heap[b]?=some o→RawMap W b (delV x L):=by
 obtain ⟨es,clk,hb,rfl,hp,hc⟩:=h;have h1:=R.find w x es.toList hx hg.es;rcases hf:findE x es.toList 0 with _ | ⟨j,v0⟩
 ·rw [hf] at h1;obtain ⟨_,_,h3⟩:=findE_none x es.toList 0 hf;refine ⟨.map es clk,?_,fun W hW=>⟨es,clk,hW,h3.symm,hp,hc⟩⟩;simp [Builtin.delete_,hts,run_underlying hT,MapKept.run_getObj_map hb,R.check w _ x hx,h1,MapKept.run_setObj_map _ hb,World.putObj]
 rw [hf] at h1;obtain ⟨k,e,hj,hk,h3,h4,_,_,h7⟩:=findE_some x es.toList 0 j v0 hf;rw [Nat.zero_add] at hj;subst hj;have hlt:j<es.size:=by simpa using (List.getElem?_eq_some_iff.1 hk).1
 have he:(es.eraseIdxIfInBounds j).toList=es.toList.eraseIdx j:=by
  simp [Array.eraseIdxIfInBounds,hlt]
 refine ⟨.map (es.eraseIdxIfInBounds j) clk,?_,fun W hW=>⟨_,_,hW,?_,?_,?_⟩⟩
 ·simp [Builtin.delete_,hts,run_underlying hT,MapKept.run_getObj_map hb,R.check w _ x hx,h1,MapKept.run_setObj_map _ hb,World.putObj]
 ·rw [he,h7]
 ·rw [he];exact List.Pairwise.sublist ((List.eraseIdx_sublist _ _).map _) hp
 intro e' he';rw [he] at he';exact hc e' (List.mem_of_mem_eraseIdx he')
def RawRange (w:World) (b r:Nat) (L left:List (Value×Value)):Prop:=
 ∃es clk since seen c0,w.heap[b]?=some (.map es clk)∧es.toList.map (fun e=>(e.key,e.val))=L∧(es.toList.map (·.born)).Pairwise (· < ·)∧(∀e∈es.toList,e.born<clk) ∧
  w.heap[r]?=some (.mapIter (some b) since seen c0)∧(∀x∈es.toList,x.born<since)∧since≤c0∧since≤clk∧(es.toList.filter (fun e=>!seen.contains e.born)).map (fun e=>(e.key,e.val))=left
theorem RawRange.map {w:World} {b r:Nat} {L left:List (Value×Value)} (h:RawRange w b r L left):RawMap w b L:=by
 obtain ⟨es,clk,since,seen,c0,h1,h2,h3,h4,_⟩:=h;exact ⟨es,clk,h1,h2,h3,h4⟩
theorem RawRange.ne {w:World} {b r:Nat} {L left:List (Value×Value)} (h:RawRange w b r L left):r≠b:=by
 obtain ⟨es,clk,since,seen,c0,h1,_,_,_,h5,_⟩:=h;intro e;subst e;rw [h1] at h5;cases h5
theorem RawRange.kept {w w':World} {b r:Nat} {L left:List (Value×Value)} (h:RawRange w b r L left) (hb:w'.heap[b]?=w.heap[b]?) (hr:w'.heap[r]?=w.heap[r]?):RawRange w' b r L left:=by
 obtain ⟨es,clk,since,seen,c0,h1,h2,h3,h4,h5,h6⟩:=h;exact ⟨es,clk,since,seen,c0,hb.trans h1,h2,h3,h4,hr.trans h5,h6⟩
theorem RawMap.kept {w w':World} {b:Nat} {L:List (Value×Value)} (h:RawMap w b L) (hb:w'.heap[b]?=w.heap[b]?):RawMap w' b L:=by
 obtain ⟨es,clk,h1,h2⟩:=h;exact ⟨es,clk,hb.trans h1,h2⟩
theorem RawMap.lt {w:World} {b:Nat} {L:List (Value×Value)} (h:RawMap w b L):b<w.heap.size:=by
 obtain ⟨es,clk,h1,_⟩:=h;exact (gE h1).1
theorem RawMap.made (w:World):RawMap (w.alloc (.map #[] 0)) w.heap.size []:=⟨#[],0,World.alloc_heap_new w _,rfl,List.Pairwise.nil,by simp⟩
theorem RawMap.range {P:Program} {T K E:TypeId} (hT:P.underlying T=some (.map K E)) {w:World} {b:Nat} {L:List (Value×Value)} (h:RawMap w b L) :
  ∃o,(Instr.range T (.map (some b))).run P w = .ok (.pointer (some ⟨w.heap.size,0,none⟩)) (w.alloc o)∧RawRange (w.alloc o) b w.heap.size L L:=by
 have hlt:=h.lt;obtain ⟨es,clk,hb,rfl,hp,hc⟩:=h;refine ⟨.mapIter (some b) clk #[] clk,run_range_map w T K E b es clk hT hb,es,clk,clk,#[],clk,((MapKept.heap_alloc w _).2 b hlt).trans hb,rfl,hp,hc,World.alloc_heap_new w _,hc,Nat.le_refl _,Nat.le_refl _,?_⟩;congr 1
 exact List.filter_eq_self.2 (fun e _=>by simp)
theorem heap_setO {w:World} {r:Nat} {o o':Obj} (h:w.heap[r]?=some o):(ChangeMaps.setBlock w r o').heap[r]?=some o'∧∀i,i≠r→(ChangeMaps.setBlock w r o').heap[i]?=w.heap[i]?:=by
 have hlt:=(gE h).1;refine ⟨by simp [ChangeMaps.setBlock,hlt],fun i hi=>?_⟩;simp [ChangeMaps.setBlock,Array.getElem?_setIfInBounds_ne (Ne.symm hi)]
theorem nodup_of_lt {l:List Nat} (h:l.Pairwise (· < ·)):l.Nodup:=h.imp (fun h=>Nat.ne_of_lt h)
theorem filter_push {es:List MapEntry} (hn:(es.map (·.born)).Nodup) {seen:Array Nat} {e:MapEntry} (he:e∈es) (hs:seen.contains e.born=false) :
  ∃pre post,es.filter (fun x=>!seen.contains x.born)=pre ++ e :: post∧es.filter (fun x=>!(seen.push e.born).contains x.born)=pre ++ post:=by
 have hc:∀x:MapEntry,(!(seen.push e.born).contains x.born)=((!seen.contains x.born) && (x.born != e.born)):=fun x=>by
  rw [Bool.eq_iff_iff];simp [Array.mem_push,not_or]
 obtain ⟨l1,l2,rfl⟩:=List.append_of_mem he;have hn':=hn;rw [List.map_append,List.map_cons,List.nodup_append] at hn';obtain ⟨_,h2,h3⟩:=hn';rw [List.nodup_cons] at h2;refine ⟨l1.filter (fun x=>!seen.contains x.born),l2.filter (fun x=>!seen.contains x.born),?_,?_⟩
 ·rw [List.filter_append,List.filter_cons,hs];simp
 rw [List.filter_append,List.filter_cons];have e0:(!(seen.push e.born).contains e.born)=false:=by simp
 rw [e0];have f:∀l:List MapEntry,(∀x∈l,x.born≠e.born)→l.filter (fun x=>!(seen.push e.born).contains x.born)=l.filter (fun x=>!seen.contains x.born):=fun l hl=>by
  refine List.filter_congr fun x hx=>?_;rw [hc x];have:=hl x hx;simp [this]
 rw [f l1 (fun x hx h=>h3 x.born (List.mem_map.2 ⟨x,hx,rfl⟩) e.born (by simp) h),f l2 (fun x hx h=>h2.1 (h ▸ List.mem_map.2 ⟨x,hx,rfl⟩))];simp
theorem RawRange.next {P:Program} {w:World} {b r:Nat} {L left:List (Value×Value)} (h:RawRange w b r L left) (ty:TypeId) :
  (left = []∧(Instr.next (.pointer (some ⟨r,0,none⟩)) false ty).run P w = .ok (.tuple #[.bool false]) w) ∨
  ∃k v pre post w',left=pre ++ (k,v) :: post∧(k,v)∈L∧(Instr.next (.pointer (some ⟨r,0,none⟩)) false ty).run P w = .ok (.tuple #[.bool true,k,v]) w'∧RawRange w' b r L (pre ++ post)∧w.grownBy w' (some r)∧w'.heap.size=w.heap.size ∧
   (Instr.entry (.pointer (some ⟨r,0,none⟩))).run P w' = .ok (.tuple #[k,v]) w':=by
 have hne:=h.ne;obtain ⟨es,clk,since,seen,c0,hb,rfl,hp,hc,hr,hold,hsc,hsk,rfl⟩:=h;have hleft:(leftOf es seen).toList=es.toList.filter (fun e=>!seen.contains e.born):=by unfold leftOf;simp
 rcases run_next_at (P:=P) w ty r b since c0 seen es clk hr hb hold hsc with ⟨h0,hrun⟩ | ⟨e,he,w1,hal,hrun⟩
 ·refine .inl ⟨?_,hrun⟩;have h1:(leftOf es seen).toList = []:=List.eq_nil_of_length_eq_zero (by simpa using h0);rw [←hleft,h1];rfl
 rw [hleft] at he;obtain ⟨hem,hes⟩:=List.mem_filter.1 he;have hes':seen.contains e.born=false:=by simpa using hes
 obtain ⟨pre,post,f1,f2⟩:=filter_push (nodup_of_lt hp) hem hes';have hr1:w1.heap[r]?=some (.mapIter (some b) since seen c0):=by rcases hal with rfl | rfl <;> exact hr
 have hb1:w1.heap[b]?=some (.map es clk):=by rcases hal with rfl | rfl <;> exact hb
 have hset:=heap_setO (o':=.mapIter (some b) since (seen.push e.born) clk) hr1;have hb':(ChangeMaps.setBlock w1 r (.mapIter (some b) since (seen.push e.born) clk)).heap[b]?=some (.map es clk):=(hset.2 b (fun e1=>hne e1.symm)).trans hb1;refine .inr ⟨e.key,e.val,pre.map (fun e=>(e.key,e.val)),post.map (fun e=>(e.key,e.val)),_,by rw [f1];simp,List.mem_map.2 ⟨e,hem,rfl⟩,hrun,⟨es,clk,since,seen.push e.born,clk,hb',rfl,hp,hc,hset.1,hold,hsk,hsk,by rw [f2];simp⟩,?_,?_,
  run_entry_at _ r b since seen es clk e hset.1 hb' hem (nodup_of_lt hp)⟩
 ·rcases hal with rfl | rfl <;> exact ⟨rfl,rfl,rfl,by simp [ChangeMaps.setBlock],fun i _ hi=>hset.2 i (fun e1=>hi (by rw [e1]))⟩
 rcases hal with rfl | rfl <;> simp [ChangeMaps.setBlock]
theorem wpList_next_raw {P:Program} (w:World) {ops:Array Oper} {rest:List Oper} {o:Oper} {a:Act} {Q:Exit→Act→World→Prop} (hg:o.guard=none) (it:Operand) (hop:o.op=Op.next it false) (b r:Nat) (L left:List (Value×Value))
  (hit:a.eval it = .pointer (some ⟨r,0,none⟩)) (h:RawRange w b r L left)
  (hDone:left = []→wpList P ops Q rest (a.put o.dst (.tuple #[.bool false])) w)
  (hMore:∀k v pre post w',left=pre ++ (k,v) :: post→(k,v)∈L→RawRange w' b r L (pre ++ post)→w.grownBy w' (some r)→w'.heap.size=w.heap.size→(Instr.entry (.pointer (some ⟨r,0,none⟩))).run P w' = .ok (.tuple #[k,v]) w'→wpList P ops Q rest (a.put o.dst (.tuple #[.bool true,k,v])) w') :
  wpList P ops Q (o :: rest) a w:=by
 refine wpList_plain hg fun K' hK'=>?_;unfold Oper.wp;rcases h.next (P:=P) o.type with ⟨h0,hrun⟩ | ⟨k,v,pre,post,w',hl,hm,hrun,hrg,hgr,hsz,hen⟩
 ·simp [execOp,hop,hit,hrun,Result.andThen];exact hK' _ _ (hDone h0)
 simp [execOp,hop,hit,hrun,Result.andThen];exact hK' _ _ (hMore k v pre post w' hl hm hrg hgr hsz hen)
theorem len_map {P:Program} {w:World} {b:Nat} {L:List (Value×Value)} (h:RawMap w b L):∃es clk,w.heap[b]?=some (.map es clk)∧es.size=L.length:=by
 obtain ⟨es,clk,hb,rfl,_⟩:=h;exact ⟨es,clk,hb,by simp⟩
theorem RawMap.len {P:Program} {T K E:TypeId} (hT:P.underlying T=some (.map K E)) {w:World} {b:Nat} {L:List (Value×Value)} (h:RawMap w b L) (ty:TypeId):(Builtin.len_ #[T] ty #[.map (some b)]).run P w = .ok (.int .i64 L.length) w:=by
 obtain ⟨es,clk,hb,rfl,_⟩:=h;simp [Builtin.len_,run_underlying hT,MapKept.run_getObj_map hb,goInt]
section
variable {P:Program} (w:World) {ops:Array Oper} {rest:List Oper} {o:Oper} {a:Act} {Q:Exit→Act→World→Prop}
theorem wpList_len_raw (hg:o.guard=none) (m:Operand) (t:TypeId) (hop:o.op=Op.call {callee:=Callee.builtin Builtin.len,args:=#[m],argTypes:=#[t]}) (k e:TypeId) (ht:P.underlying t=some (.map k e)) (b:Nat) (L:List (Value×Value)) (hm:a.eval m = .map (some b)) (h:RawMap w b L)
  (hK:wpList P ops Q rest (a.put o.dst (.int .i64 L.length)) w):wpList P ops Q (o :: rest) a w:=by
 refine wpList_plain hg fun K' hK'=>?_;unfold Oper.wp;simp [execOp,hop,resolve,invoke,builtin,hm,h.len ht o.type,Result.andThen];exact hK' _ _ hK
theorem wpList_mapUpdate_raw (hg:o.guard=none) (m x v:Operand) (t:TypeId) (hop:o.op=Op.mapUpdate t m x v) (k e:TypeId) (ht:P.underlying t=some (.map k e)) {good:World→Value→Prop} (R:RawKey P k good) (b:Nat) (L:List (Value×Value)) (hm:a.eval m = .map (some b)) (h:RawMap w b L) (hgd:KeysGood good w L)
  (key val:Value) (hx:a.eval x=key) (hv:a.eval v=val) (hkey:good w key)
  (hK:∀ob,RawMap (w.putObj b ob) b (putV key val L)→wpList P ops Q rest (a.put o.dst undef) (w.putObj b ob)):wpList P ops Q (o :: rest) a w:=by
 refine wpList_plain hg fun K' hK'=>?_;obtain ⟨ob,hrun,hr⟩:=h.update R ht hgd hkey val;unfold Oper.wp;simp [execOp,hop,hm,hx,hv,hrun,Result.andThen];exact hK' _ _ (hK ob (hr _ (World.putObj_heap_same h.lt)))
theorem wpList_delete_raw (hg:o.guard=none) (m x:Operand) (t k e:TypeId) (hop:o.op=Op.call {callee:=Callee.builtin Builtin.delete,args:=#[m,x],argTypes:=#[t,k]}) (ht:P.underlying t=some (.map k e)) {good:World→Value→Prop} (R:RawKey P k good) (b:Nat) (L:List (Value×Value)) (hm:a.eval m = .map (some b)) (h:RawMap w b L) (hgd:KeysGood good w L)
  (key:Value) (hx:a.eval x=key) (hkey:good w key)
  (hK:∀ob,RawMap (w.putObj b ob) b (delV key L)→wpList P ops Q rest (a.put o.dst (.tuple #[])) (w.putObj b ob)):wpList P ops Q (o :: rest) a w:=by
 refine wpList_plain hg fun K' hK'=>?_;obtain ⟨ob,hrun,hr⟩:=h.delete R ht hgd hkey o.type #[t,k] rfl;unfold Oper.wp;simp [execOp,hop,resolve,invoke,builtin,hm,hx,hrun,Result.andThen];exact hK' _ _ (hK ob (hr _ (World.putObj_heap_same h.lt)))
theorem wpList_range_raw (hg:o.guard=none) (m:Operand) (t:TypeId) (hop:o.op=Op.range t m) (k e:TypeId) (ht:P.underlying t=some (.map k e)) (b:Nat) (L:List (Value×Value)) (hm:a.eval m = .map (some b)) (h:RawMap w b L)
  (hK:∀ob,RawRange (w.alloc ob) b w.heap.size L L→wpList P ops Q rest (a.put o.dst (.pointer (some ⟨w.heap.size,0,none⟩))) (w.alloc ob)):wpList P ops Q (o :: rest) a w:=by
 refine wpList_plain hg fun K' hK'=>?_;obtain ⟨ob,hrun,hr⟩:=h.range (P:=P) ht;unfold Oper.wp;simp [execOp,hop,hm,hrun,Result.andThen];exact hK' _ _ (hK ob hr)
end
end
end Go.Proofs.YtifcdjmcoibblaaGreatDoor
