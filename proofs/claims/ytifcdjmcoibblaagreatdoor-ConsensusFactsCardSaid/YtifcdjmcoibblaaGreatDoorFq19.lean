/- ConY Fcp Fcq -/
import Derived.Test.YtifcdjmcoibblaaGreatDoorFq18
set_option linter.unusedVariables false
set_option linter.unusedSimpArgs false
set_option linter.unusedSectionVars false
namespace Go.Proofs.YtifcdjmcoibblaaGreatDoor
section
variable {D L:Type} [Dg D] [Inhabited L]
def accAll (dg:L→D) (s:NS D L):NS D L:=s.asked.foldl (fun t l=>t.accept (dg l)) s
def sOut (dg:L→D) (sil:Nat→Bool):Nat→List (NS D L)→List (Msg D L)
 | _,[]=>[]
 | i,s :: l=>(if sil i then [] else (accAll dg s).tick.2) ++ sOut dg sil (i+1) l
def sMid (dg:L→D) (sil:Nat→Bool):Nat→List (NS D L)→List (NS D L)
 | _,[]=>[]
 | i,s :: l=>(if sil i then accAll dg s else (accAll dg s).tick.1) :: sMid dg sil (i+1) l
def sDlv (sil:Nat→Bool) (ns:List (NS D L)) (m:Msg D L):List (NS D L):=if sil m.to.toNat then ns else dlvN ns m
def sRnd (dg:L→D) (sil:Nat→Bool) (ns:List (NS D L)):List (NS D L):=(sOut dg sil 0 ns).foldl (sDlv sil) (sMid dg sil 0 ns)
def sRnds (dg:L→D) (sil:Nat→Bool):Nat→List (NS D L)→List (NS D L)
 | 0,ns=>ns
 | k+1,ns=>sRnd dg sil (sRnds dg sil k ns)
theorem sRnds_head (dg:L→D) (sil:Nat→Bool):∀(k:Nat) (ns:List (NS D L)),sRnds dg sil (k+1) ns=sRnds dg sil k (sRnd dg sil ns)
 | 0,_=>rfl
 | k+1,ns=>by
  show sRnd dg sil (sRnds dg sil (k+1) ns)=_;rw [sRnds_head dg sil k ns];rfl
def sGo (dg:L→D) (sil:Nat→Bool):Nat→List (NS D L)→List (NS D L)×List (Msg D L)
 | _,[]=>([],[])
 | i,s :: l=>
  let a:=accAll dg s
  let r:=sGo dg sil (i+1) l
  if sil i then (a :: r.1,r.2) else
   let t:=a.tickF
   (t.1 :: r.1,t.2 ++ r.2)
theorem accAll_inv {sz:D→Prop} {dg:L→D} (hz:∀l,sz (dg l)) {s:NS D L} (h:InvS sz s):InvS sz (accAll dg s):=by
 unfold accAll;induction s.asked generalizing s with
 | nil=>exact h
 | cons a l ih=>exact ih (accept_inv h (dg a))
theorem sGo_eq {sz:D→Prop} {dg:L→D} (hz:∀l,sz (dg l)) {sil:Nat→Bool}:∀(ns:List (NS D L)) (i:Nat),(∀s∈ns,InvS sz s)→sGo dg sil i ns=(sMid dg sil i ns,sOut dg sil i ns)
 | [],_,_=>rfl
 | s :: l,i,h=>by
  have ih:=sGo_eq hz (sil:=sil) l (i+1) (fun x hx=>h x (by simp [hx]));unfold sGo sMid sOut;simp only [ih];have ht:=tickF_eq (accAll_inv (dg:=dg) hz (h s (by simp)));split
  ·rfl
  rw [ht]
def quietS (sil:Nat→Bool):Nat→List (NS D L)→Bool
 | _,[]=>true
 | i,s :: l=>(if sil i then s.props.isEmpty else s.isDec s.height && s.ques.isEmpty) && quietS sil (i+1) l
theorem accAll_dec {dg:L→D} {s:NS D L} (h:s.isDec s.height=true):accAll dg s=s:=by
 unfold accAll NS.asked;rw [if_pos h];rfl
theorem accAll_none {dg:L→D} {s:NS D L} (h:s.props = []):accAll dg s=s:=by
 unfold accAll NS.asked;split
 ·rfl
 rw [h];rfl
theorem quiet_rnd {dg:L→D} {sil:Nat→Bool} {ns:List (NS D L)} (h:quietS sil 0 ns=true):sRnd dg sil ns=ns:=by
 have key:∀(ns:List (NS D L)) (i:Nat),quietS sil i ns=true→sMid dg sil i ns=ns∧sOut dg sil i ns = []:=by
  intro ns;induction ns with
  | nil=>intro i _;exact ⟨rfl,rfl⟩
  | cons s l ih=>
   intro i h;unfold quietS at h;rw [Bool.and_eq_true] at h;obtain ⟨h1,h2⟩:=h;obtain ⟨a,b⟩:=ih (i+1) h2;unfold sMid sOut;rw [a,b];by_cases hs:sil i=true
   ·rw [if_pos hs] at h1;simp only [hs,if_true];have e:s.props = []:=by simpa using h1
    rw [accAll_none e];exact ⟨rfl,rfl⟩
   rw [if_neg hs] at h1;rw [Bool.and_eq_true] at h1;obtain ⟨hd,hq⟩:=h1;have e:s.ques = []:=by simpa using hq
   have ht:s.tick=(s,[]):=by
    unfold NS.tick;simp only;rw [if_pos (show ({s with ques:=[]}:NS D L).isDec _=true from hd)];refine Prod.ext ?_ (by show s.answers = [];unfold NS.answers;rw [e];rfl);show ({s with ques:=[]}:NS D L)=s;rw [←e]
   simp only [hs,accAll_dec hd,ht];exact ⟨rfl,rfl⟩
 obtain ⟨a,b⟩:=key ns 0 h;unfold sRnd;rw [a,b];rfl
theorem quiet_rnds {dg:L→D} {sil:Nat→Bool} {ns:List (NS D L)} (h:quietS sil 0 ns=true):∀k,sRnds dg sil k ns=ns
 | 0=>rfl
 | k+1=>by
  show sRnd dg sil (sRnds dg sil k ns)=ns;rw [quiet_rnds h k,quiet_rnd h]
theorem sRnds_add (dg:L→D) (sil:Nat→Bool) (ns:List (NS D L)) (a:Nat):∀b,sRnds dg sil (a+b) ns=sRnds dg sil b (sRnds dg sil a ns)
 | 0=>rfl
 | b+1=>by
  show sRnd dg sil (sRnds dg sil (a+b) ns)=_;rw [sRnds_add dg sil ns a b];rfl
end
section
variable {z:Nat}
def silRun (n:Int) (sil:Nat→Bool):Nat→List (SZ z)→Option (List (SZ z))
 | 0,_=>none
 | t+1,ns=>if quietS sil 0 ns then some ns else
  let r:=sGo (fun l:QZ z=>l) sil 0 ns
  if r.2.all (okQ n) then silRun n sil t (r.2.foldl (sDlv sil) r.1) else none
theorem sil_ok (n:Int) (sil:Nat→Bool):∀(t:Nat) (ns fin:List (SZ z)),(∀s∈ns,InvS (fun _:QZ z=>True) s)→silRun n sil t ns=some fin →
  quietS sil 0 fin=true∧∃k,k<t∧sRnds (fun l:QZ z=>l) sil k ns=fin∧(∀j,∀m∈sOut (fun l:QZ z=>l) sil 0 (sRnds (fun l:QZ z=>l) sil j ns),OkQ n m)∧∀j,∀s∈sRnds (fun l:QZ z=>l) sil j ns,InvS (fun _:QZ z=>True) s
 | 0,ns,fin,_,h=>by cases h
 | t+1,ns,fin,h,hr=>by
  unfold silRun at hr;by_cases hq:quietS sil 0 ns=true
  ·rw [if_pos hq] at hr;cases hr;have e:=fun j=>quiet_rnds (dg:=fun l:QZ z=>l) hq j;refine ⟨hq,0,by omega,rfl,fun j m hm=>?_,fun j s hs=>h s (by rw [e j] at hs;exact hs)⟩;rw [e j] at hm;have e1:=quiet_rnd (dg:=fun l:QZ z=>l) hq;exfalso;have key:∀(l:List (SZ z)) (i:Nat),quietS sil i l=true→sOut (fun l:QZ z=>l) sil i l = []:=by
    intro l;induction l with
    | nil=>intro i _;rfl
    | cons s l ih=>
     intro i hh;unfold quietS at hh;rw [Bool.and_eq_true] at hh;obtain ⟨h1,h2⟩:=hh;unfold sOut;rw [ih (i+1) h2];by_cases hs:sil i=true
     ·simp only [hs,if_true];rfl
     rw [if_neg hs,Bool.and_eq_true] at h1;obtain ⟨hd,hq⟩:=h1;have e2:s.ques = []:=by simpa using hq
     have ht:s.tick.2 = []:=by
      unfold NS.tick;simp only;rw [if_pos (show ({s with ques:=[]}:SZ z).isDec _=true from hd)];show s.answers = [];unfold NS.answers;rw [e2];rfl
     simp only [hs,accAll_dec hd,ht];rfl
   rw [key ns 0 hq] at hm;cases hm
  rw [if_neg hq] at hr;have e:=sGo_eq (sz:=fun _:QZ z=>True) (dg:=fun l:QZ z=>l) (fun _=>trivial) (sil:=sil) ns 0 h;simp only [e] at hr;by_cases ha:(sOut (fun l:QZ z=>l) sil 0 ns).all (okQ n)=true
  ·rw [if_pos ha] at hr;have hm:∀m∈sOut (fun l:QZ z=>l) sil 0 ns,OkQ n m:=fun m hm=>okQ_ok (List.all_eq_true.1 ha m hm);have hmid:∀(l:List (SZ z)) (i:Nat),(∀s∈l,InvS (fun _:QZ z=>True) s)→∀s∈sMid (fun l:QZ z=>l) sil i l,InvS (fun _:QZ z=>True) s:=by
    intro l;induction l with
    | nil=>intro i _ s hs;cases hs
    | cons a l ih=>
     intro i hl s hs;unfold sMid at hs;rcases List.mem_cons.1 hs with rfl | hs
     ·have ha:=accAll_inv (sz:=fun _:QZ z=>True) (dg:=fun l:QZ z=>l) (fun _=>trivial) (hl a (by simp));split
      ·exact ha
      exact tick_inv ha
     exact ih (i+1) (fun x hx=>hl x (by simp [hx])) s hs
   have hfold:∀(ms:List (MZ z)) (l:List (SZ z)),(∀m∈ms,OkQ n m)→(∀s∈l,InvS (fun _:QZ z=>True) s)→∀s∈ms.foldl (sDlv sil) l,InvS (fun _:QZ z=>True) s:=by
    intro ms;induction ms with
    | nil=>intro l _ h;exact h
    | cons m ms ih=>
     intro l hms hl;refine ih _ (fun x hx=>hms x (by simp [hx])) ?_;unfold sDlv;split
     ·exact hl
     exact dlv_all hl (fun s hs=>receive_inv hs (fun _ _=>(hms m (by simp)).okM))
   have h1:∀s∈sRnd (fun l:QZ z=>l) sil ns,InvS (fun _:QZ z=>True) s:=hfold _ _ hm (hmid ns 0 h);obtain ⟨a,k,b1,b2,b3,b4⟩:=sil_ok n sil t (sRnd (fun l:QZ z=>l) sil ns) fin h1 hr;refine ⟨a,k+1,by omega,by rw [sRnds_head];exact b2,fun j=>?_,fun j=>?_⟩
   ·rcases j with _ | j
    ·exact hm
    rw [sRnds_head];exact b3 j
   rcases j with _ | j
   ·exact h
   rw [sRnds_head];exact b4 j
  rw [if_neg ha] at hr;cases hr
def startZ (n:Nat) (code:Nat→QZ z):List (SZ z):=(List.range n).map fun (i:Nat)=>((newS (i:Int) (n:Int):SZ z).begin 0 true (code i) (code i)).1
def silDone (n:Nat) (sil:Nat→Bool) (code:Nat→QZ z) (fin:List (SZ z)):Bool:=
 (List.range n).any fun who=>!sil who && (List.range n).all fun i=>sil i || match fin[i]? with
  | none=>false
  | some s=>match getA 0 s.decs with
   | none=>false
   | some v=>decide (v.dig=code who) && decide (v.list=code who)
def silNth (n f k:Nat) (i:Nat):Bool:=(List.range f).any fun j=>(k+j) % n == i
def silentQ (n f k:Nat) (code:Nat→QZ z):Bool:=
 match silRun (n:Int) (silNth n f k) 200 (startZ n code) with
 | none=>false
 | some fin=>silDone n (silNth n f k) code fin
end
abbrev Q4:=QZ 3
abbrev S4:=SZ 3
abbrev M4:=MZ 3
def startC (n:Nat) (i:Nat) (c l:Q4):S4:=((newS (i:Int) (n:Int):S4).begin 0 true c l).1
def sameM (a b:M4):Bool:=decide (a.kind=b.kind) && decide (a.frm=b.frm) && decide (a.to=b.to) && decide (a.height=b.height) && decide (a.round=b.round) && decide (a.valid=b.valid) && decide (a.dig=b.dig) && decide (a.list=b.list)
theorem sameM_eq {a b:M4} (h:sameM a b=true):a=b:=by
 obtain ⟨a1,a2,a3,a4,a5,a6,a7,a8⟩:=a;obtain ⟨b1,b2,b3,b4,b5,b6,b7,b8⟩:=b;unfold sameM at h;simp at h;obtain ⟨⟨⟨⟨⟨⟨⟨rfl,rfl⟩,rfl⟩,rfl⟩,rfl⟩,rfl⟩,rfl⟩,rfl⟩:=h;rfl
def sameL:List M4→List M4→Bool
 | [],[]=>true
 | a :: l,b :: m=>sameM a b && sameL l m
 | _,_=>false
theorem sameL_eq:∀{a b:List M4},sameL a b=true→a=b
 | [],[],_=>rfl
 | a :: l,b :: m,h=>by
  unfold sameL at h;rw [Bool.and_eq_true] at h;rw [sameM_eq h.1,sameL_eq h.2]
 | [],b :: m,h=>by unfold sameL at h;cases h
 | a :: l,[],h=>by unfold sameL at h;cases h
def tickA (s:S4):S4×List M4:=(accAll (fun l=>l) s).tickF
def rcvs (i:Nat) (ms:List M4) (s:S4):S4:=(ms.filter fun m=>decide (m.to.toNat=i)).foldl (fun s m=>s.receive m true) s
abbrev Tri:=S4×S4×S4
def outT (t:Tri):List M4:=(tickA t.2.1).2
def okM4 (n:Nat) (m:M4):Bool:=okQ (n:Int) m && (decide (m.dig=0) || decide (m.dig=2)) && (decide (m.list=0) || decide (m.list=2))
def sameT (t:Tri):Bool:=sameL (tickA t.1).2 (outT t) && sameL (tickA t.2.2).2 (outT t)
def zeroS (s:S4):Bool:=decide (s.height=0) && decide (s.round=0)
def zeroT (t:Tri):Bool:=zeroS (tickA t.1).1 && (zeroS (tickA t.2.1).1 && zeroS (tickA t.2.2).1)
def nextT (ms:List M4) (i:Nat) (t:Tri):Tri:=(rcvs i ms (tickA t.1).1,rcvs i ms (tickA t.2.1).1,rcvs i ms (tickA t.2.2).1)
def outsT (ts:List Tri):List M4:=ts.flatMap outT
def stepT (ts:List Tri):List Tri:=ts.mapIdx fun i t=>nextT (outsT ts) i t
def decT (s:S4):Bool:=match getA 0 s.decs with | some v=>decide (v.dig=2) && decide (v.list=2) | none=>false
def askT (s:S4):Bool:=s.asked.all fun l=>decide (l=2)
def goT (n:Nat):Nat→List Tri→Bool
 | 0,ts=>ts.all fun t=>decT t.1 && (decT t.2.1 && decT t.2.2)
 | k+1,ts=>ts.all sameT && (ts.all zeroT && ((outsT ts).all (okM4 n) && (ts.all (fun t=>askT t.1 && (askT t.2.1 && askT t.2.2)) && goT n k (stepT ts))))
def start0 (n:Nat):List Tri:=(List.range n).map fun i=>if i=0 then (startC n i 2 2,startC n i 2 2,startC n i 2 2) else (startC n i 1 1,startC n i 2 1,startC n i 3 1)
set_option maxRecDepth 100000 in
theorem goT_1:goT 1 8 (start0 1)=true:=by decide +kernel
set_option maxRecDepth 100000 in
theorem goT_2:goT 2 8 (start0 2)=true:=by decide +kernel
set_option maxRecDepth 100000 in
theorem goT_3:goT 3 8 (start0 3)=true:=by decide +kernel
set_option maxRecDepth 100000 in
theorem goT_4:goT 4 8 (start0 4)=true:=by decide +kernel
set_option maxRecDepth 100000 in
theorem goT_5:goT 5 8 (start0 5)=true:=by decide +kernel
set_option maxRecDepth 100000 in
theorem goT_6:goT 6 8 (start0 6)=true:=by decide +kernel
set_option maxRecDepth 100000 in
theorem goT_7:goT 7 8 (start0 7)=true:=by decide +kernel
def pk:Nat→Tri→S4
 | 0,t=>t.1
 | 1,t=>t.2.1
 | _,t=>t.2.2
def iterT:Nat→List Tri→List Tri
 | 0,ts=>ts
 | j+1,ts=>stepT (iterT j ts)
theorem iterT_head:∀(j:Nat) (ts:List Tri),iterT (j+1) ts=iterT j (stepT ts)
 | 0,_=>rfl
 | j+1,ts=>by
  show stepT (iterT (j+1) ts)=stepT (iterT j (stepT ts));rw [iterT_head j ts]
structure GoodT (n:Nat) (ts:List Tri):Prop where
 same:∀t∈ts,sameT t=true
 zero:∀t∈ts,zeroT t=true
 okm:∀m∈outsT ts,okM4 n m=true
 ask:∀t∈ts,askT t.1=true∧askT t.2.1=true∧askT t.2.2=true
theorem goT_good {n:Nat}:∀(k:Nat) (ts:List Tri),goT n k ts=true→(∀j,j<k→GoodT n (iterT j ts))∧∀t∈iterT k ts,decT t.1=true∧decT t.2.1=true∧decT t.2.2=true
 | 0,ts,h=>by
  unfold goT at h;refine ⟨fun j hj=>by omega,fun t ht=>?_⟩;have:=List.all_eq_true.1 h t ht;simp only [Bool.and_eq_true] at this;exact this
 | k+1,ts,h=>by
  unfold goT at h;simp only [Bool.and_eq_true] at h;obtain ⟨h1,h2,h3,h4,h5⟩:=h;obtain ⟨a,b⟩:=goT_good k (stepT ts) h5;refine ⟨fun j hj=>?_,fun t ht=>b t (by rw [←iterT_head];exact ht)⟩;rcases j with _ | j
  ·refine ⟨fun t ht=>List.all_eq_true.1 h1 t ht,fun t ht=>List.all_eq_true.1 h2 t ht,fun m hm=>List.all_eq_true.1 h3 m hm,fun t ht=>?_⟩;have:=List.all_eq_true.1 h4 t ht;simp only [Bool.and_eq_true] at this;exact this
  rw [iterT_head];exact a j (by omega)
theorem stepT_len (ts:List Tri):(stepT ts).length=ts.length:=by unfold stepT;simp
theorem iterT_len:∀(j:Nat) (ts:List Tri),(iterT j ts).length=ts.length
 | 0,_=>rfl
 | j+1,ts=>by show (stepT (iterT j ts)).length=_;rw [stepT_len,iterT_len j]
abbrev AnyQ:Q4→Prop:=fun _=>True
def InvT (t:Tri):Prop:=InvS AnyQ t.1∧InvS AnyQ t.2.1∧InvS AnyQ t.2.2
theorem InvT.pk {t:Tri} (h:InvT t) (c:Nat):InvS AnyQ (pk c t):=by
 match c with
 | 0=>exact h.1
 | 1=>exact h.2.1
 | c+2=>exact h.2.2
theorem start_invT {n:Nat} (h7:n≤7):∀t∈start0 n,InvT t:=by
 intro t ht;obtain ⟨i,hi,rfl⟩:=List.mem_map.1 ht;have hi:=List.mem_range.1 hi;have key:∀c l,InvS AnyQ (startC n i c l):=fun c l=>begin_inv (new_inv trivial (by omega) (by omega) (by omega)) 0 true l (fun _=>trivial);split
 ·exact ⟨key _ _,key _ _,key _ _⟩
 exact ⟨key _ _,key _ _,key _ _⟩
theorem tickA_eq {s:S4} (h:InvS AnyQ s):tickA s=(accAll (fun l=>l) s).tick:=tickF_eq (accAll_inv (fun _=>trivial) h)
theorem tickA_inv {s:S4} (h:InvS AnyQ s):InvS AnyQ (tickA s).1:=by rw [tickA_eq h];exact tick_inv (accAll_inv (fun _=>trivial) h)
theorem rcv_inv {n:Nat} {m:M4} (hm:okM4 n m=true) {s:S4} (h:InvS AnyQ s):InvS AnyQ (s.receive m true):=receive_inv h (fun _ _=>(okQ_ok (by unfold okM4 at hm;simp only [Bool.and_eq_true] at hm;exact hm.1.1)).okM)
theorem rcvs_inv {n i:Nat}:∀{ms:List M4},(∀m∈ms,okM4 n m=true)→∀{s:S4},InvS AnyQ s→InvS AnyQ (rcvs i ms s):=by
 intro ms;unfold rcvs;induction ms with
 | nil=>intro _ s h;exact h
 | cons m ms ih=>
  intro hm s h;rw [List.filter_cons];split
  ·rw [List.foldl_cons];exact ih (fun a ha=>hm a (by simp [ha])) (rcv_inv (hm m (by simp)) h)
  exact ih (fun a ha=>hm a (by simp [ha])) h
theorem step_invT {n:Nat} {ts:List Tri} (hg:GoodT n ts) (h:∀t∈ts,InvT t):∀t∈stepT ts,InvT t:=by
 intro t ht;unfold stepT at ht;obtain ⟨i,hi,rfl⟩:=List.mem_mapIdx.1 ht;have hi':=h _ (List.getElem_mem hi);exact ⟨rcvs_inv hg.okm (tickA_inv hi'.1),rcvs_inv hg.okm (tickA_inv hi'.2.1),rcvs_inv hg.okm (tickA_inv hi'.2.2)⟩
theorem iter_invT {n k:Nat} {ts:List Tri} (hg:∀j,j<k→GoodT n (iterT j ts)) (h:∀t∈ts,InvT t):∀j,j≤k→∀t∈iterT j ts,InvT t
 | 0,_=>h
 | j+1,hj=>step_invT (hg j (by omega)) (iter_invT hg h j (by omega))
section
variable {E M:Type} [Dg E] [Inhabited M] {n:Nat} {dg:M→E} {f:Nat→Q4→E} {g:Nat→Q4→M} {cs:Nat→Nat}
structure RenA (n:Nat) (dg:M→E) (f:Nat→Q4→E) (g:Nat→Q4→M):Prop where
 ren:∀i,i<n→Ren (f i) (g i)
 f2:∀i,f i 2=f 0 2
 g2:∀i,g i 2=g 0 2
 dg2:dg (g 0 2)=f 0 2
def realK (f:Nat→Q4→E) (g:Nat→Q4→M) (cs:Nat→Nat):Nat→List Tri→List (NS E M)
 | _,[]=>[]
 | k,t :: r=>(pk (cs k) t).ren (f k) (g k) :: realK f g cs (k+1) r
theorem realK_get:∀(ts:List Tri) (k i:Nat),(realK f g cs k ts)[i]?=(ts[i]?).map fun t=>(pk (cs (k+i)) t).ren (f (k+i)) (g (k+i))
 | [],k,i=>by simp [realK]
 | t :: r,k,0=>by simp [realK]
 | t :: r,k,i+1=>by
  show (realK f g cs (k+1) r)[i]?=(r[i]?).map _;rw [realK_get r (k+1) i,show k+1+i=k+(i+1) by omega]
theorem realK_len:∀(ts:List Tri) (k:Nat),(realK f g cs k ts).length=ts.length
 | [],_=>rfl
 | t :: r,k=>by show (realK f g cs (k+1) r).length+1=_;rw [realK_len r];rfl
theorem msg_same (R:RenA n dg f g) {i:Nat} (hi:i<n) (h0:0<n) {m:M4} (hm:okM4 n m=true):m.ren (f i) (g i)=m.ren (f 0) (g 0):=by
 unfold okM4 at hm;simp only [Bool.and_eq_true,Bool.or_eq_true,decide_eq_true_eq] at hm;unfold Msg.ren;have hz:f i 0=f 0 0:=(R.ren i hi).nil.trans (R.ren 0 h0).nil.symm;have hl:g i 0=g 0 0:=(R.ren i hi).def_.trans (R.ren 0 h0).def_.symm;have h1:f i m.dig=f 0 m.dig:=by
  rcases hm.1.2 with q | q
  ·rw [q];exact hz
  rw [q];exact R.f2 i
 have h2:g i m.list=g 0 m.list:=by
  rcases hm.2 with q | q
  ·rw [q];exact hl
  rw [q];exact R.g2 i
 rw [h1,h2]
theorem accAll_link (R:RenA n dg f g) {i:Nat} (hi:i<n) {s:S4} (ha:askT s=true):accAll dg (s.ren (f i) (g i))=(accAll (fun l=>l) s).ren (f i) (g i):=by
 unfold accAll;rw [asked_ren (R.ren i hi) s];have hok:∀l∈s.asked,l=2:=fun l hl=>of_decide_eq_true (List.all_eq_true.1 ha l hl);generalize s.asked=ls at hok;clear ha;induction ls generalizing s with
 | nil=>rfl
 | cons l ls ih=>
  rw [List.map_cons,List.foldl_cons,List.foldl_cons,hok l (by simp),R.g2 i,R.dg2,←R.f2 i,accept_ren (R.ren i hi)];exact ih (s:=s.accept 2) (fun x hx=>hok x (by simp [hx]))
theorem pk_ask {t:Tri} (h:askT t.1=true∧askT t.2.1=true∧askT t.2.2=true) (c:Nat):askT (pk c t)=true:=by
 match c with
 | 0=>exact h.1
 | 1=>exact h.2.1
 | c+2=>exact h.2.2
theorem pk_out {t:Tri} (h:sameT t=true) (c:Nat):(tickA (pk c t)).2=outT t:=by
 unfold sameT at h;rw [Bool.and_eq_true] at h;match c with
 | 0=>exact sameL_eq h.1
 | 1=>rfl
 | c+2=>exact sameL_eq h.2
def midT (t:Tri):Tri:=((tickA t.1).1,(tickA t.2.1).1,(tickA t.2.2).1)
theorem pk_mid (t:Tri) (c:Nat):(tickA (pk c t)).1=pk c (midT t):=by
 match c with
 | 0=>rfl
 | 1=>rfl
 | c+2=>rfl
abbrev noS:Nat→Bool:=fun _=>false
theorem tick_link (R:RenA n dg f g) {i:Nat} (hi:i<n) {t:Tri} (hv:InvT t) (hs:sameT t=true) (ha:askT t.1=true∧askT t.2.1=true∧askT t.2.2=true) (c:Nat) :
  (accAll dg ((pk c t).ren (f i) (g i))).tick=((pk c (midT t)).ren (f i) (g i),(outT t).map (Msg.ren (f i) (g i))):=by
 rw [accAll_link R hi (pk_ask ha c),tick_ren (R.ren i hi),←tickA_eq (hv.pk c),pk_out hs,pk_mid]
theorem go_link (R:RenA n dg f g):∀(ts:List Tri) (k:Nat),k+ts.length≤n→(∀t∈ts,InvT t)→(∀t∈ts,sameT t=true)→(∀t∈ts,askT t.1=true∧askT t.2.1=true∧askT t.2.2=true)→(∀m∈outsT ts,okM4 n m=true) →
  sOut dg noS k (realK f g cs k ts)=(outsT ts).map (Msg.ren (f 0) (g 0))∧sMid dg noS k (realK f g cs k ts)=realK f g cs k (ts.map midT)
 | [],k,_,_,_,_,_=>⟨rfl,rfl⟩
 | t :: r,k,hn,hv,hs,ha,hm=>by
  rw [List.length_cons] at hn;have ih:=go_link R r (k+1) (by omega) (fun x hx=>hv x (by simp [hx])) (fun x hx=>hs x (by simp [hx])) (fun x hx=>ha x (by simp [hx])) (fun m hm'=>hm m (by unfold outsT;rw [List.flatMap_cons];exact List.mem_append_right _ hm'));have ht:=tick_link R (i:=k) (by omega) (hv t (by simp)) (hs t (by simp)) (ha t (by simp)) (cs k);have e:(outT t).map (Msg.ren (f k) (g k))=(outT t).map (Msg.ren (f 0) (g 0)):=List.map_congr_left fun m hm'=>msg_same R (by omega) (by omega) (hm m (by unfold outsT;rw [List.flatMap_cons];exact List.mem_append_left _ hm'));constructor
  ·show (if noS k then [] else _) ++ sOut dg noS (k+1) (realK f g cs (k+1) r)=(outT t ++ outsT r).map _;rw [if_neg Bool.false_ne_true,ih.1,ht,List.map_append,e]
  show (if noS k then _ else (accAll dg ((pk (cs k) t).ren (f k) (g k))).tick.1) :: sMid dg noS (k+1) (realK f g cs (k+1) r)=_;rw [if_neg Bool.false_ne_true,ih.2,ht];rfl
def rec3 (m:M4) (t:Tri):Tri:=(t.1.receive m true,t.2.1.receive m true,t.2.2.receive m true)
theorem pk_rec (m:M4) (t:Tri) (c:Nat):pk c (rec3 m t)=(pk c t).receive m true:=by
 match c with
 | 0=>rfl
 | 1=>rfl
 | c+2=>rfl
theorem dlv_link (R:RenA n dg f g) (h0:0<n) {ts:List Tri} (hn:ts.length≤n) {m:M4} (hm:okM4 n m=true):sDlv noS (realK f g cs 0 ts) (m.ren (f 0) (g 0))=realK f g cs 0 (ts.modify m.to.toNat (rec3 m)):=by
 unfold sDlv;rw [if_neg Bool.false_ne_true];unfold dlvN;apply List.ext_getElem?;intro i;show ((realK f g cs 0 ts).modify m.to.toNat _)[i]?=_;rw [List.getElem?_modify,realK_get,realK_get,List.getElem?_modify,Nat.zero_add];rcases hx:ts[i]? with _ | t
 ·rfl
 have hi:i<n:=Nat.lt_of_lt_of_le (List.getElem?_eq_some_iff.1 hx).1 hn;show some (if m.to.toNat=i then ((pk (cs i) t).ren (f i) (g i)).receive (m.ren (f 0) (g 0)) true else (pk (cs i) t).ren (f i) (g i))=some ((pk (cs i) (if m.to.toNat=i then rec3 m t else t)).ren (f i) (g i));by_cases q:m.to.toNat=i
 ·rw [if_pos q,if_pos q,pk_rec,←msg_same R hi h0 hm,receive_ren (R.ren i hi)]
 rw [if_neg q,if_neg q]
theorem dlvs_link (R:RenA n dg f g) (h0:0<n):∀(ms:List M4) {ts:List Tri},ts.length≤n→(∀m∈ms,okM4 n m=true) →
  (ms.map (Msg.ren (f 0) (g 0))).foldl (sDlv noS) (realK f g cs 0 ts)=realK f g cs 0 (ms.foldl (fun ts m=>ts.modify m.to.toNat (rec3 m)) ts)
 | [],_,_,_=>rfl
 | m :: ms,ts,hn,hm=>by
  rw [List.map_cons,List.foldl_cons,List.foldl_cons,dlv_link R h0 hn (hm m (by simp))];exact dlvs_link R h0 ms (by rw [List.length_modify];exact hn) (fun a ha=>hm a (by simp [ha]))
theorem rcvs3 (ms:List M4):∀(ts:List Tri) (i:Nat),(ms.foldl (fun ts m=>ts.modify m.to.toNat (rec3 m)) ts)[i]?=(ts[i]?).map fun t=>(rcvs i ms t.1,rcvs i ms t.2.1,rcvs i ms t.2.2):=by
 induction ms with
 | nil=>intro ts i;rw [List.foldl_nil];rcases ts[i]? with _ | t <;> rfl
 | cons m ms ih=>
  intro ts i;rw [List.foldl_cons,ih,List.getElem?_modify];rcases ts[i]? with _ | t
  ·rfl
  by_cases q:m.to.toNat=i
  ·simp [q,rcvs,rec3]
  simp [q,rcvs]
theorem rnd_link (R:RenA n dg f g) (h0:0<n) {ts:List Tri} (hn:ts.length≤n) (hg:GoodT n ts) (hv:∀t∈ts,InvT t):sRnd dg noS (realK f g cs 0 ts)=realK f g cs 0 (stepT ts):=by
 obtain ⟨a,b⟩:=go_link (cs:=cs) R ts 0 (by omega) hv hg.same hg.ask hg.okm;unfold sRnd;rw [a,b,dlvs_link R h0 _ (by simpa using hn) hg.okm];congr 1
 apply List.ext_getElem?;intro i;rw [rcvs3];unfold stepT;rw [List.getElem?_mapIdx,List.getElem?_map];rcases ts[i]? with _ | t
 ·rfl
 rfl
theorem rnds_link4 (R:RenA n dg f g) (h0:0<n) {k:Nat} {ts:List Tri} (hn:ts.length≤n) (hg:∀j,j<k→GoodT n (iterT j ts)) (hv:∀t∈ts,InvT t):∀j,j≤k→sRnds dg noS j (realK f g cs 0 ts)=realK f g cs 0 (iterT j ts)
 | 0,_=>rfl
 | j+1,hj=>by
  show sRnd dg noS (sRnds dg noS j _)=realK f g cs 0 (stepT (iterT j ts));rw [rnds_link4 R h0 hn hg hv j (by omega),rnd_link R h0 (by rw [iterT_len];exact hn) (hg j (by omega)) (iter_invT hg hv j (by omega))]
end
def f4 {E:Type} [Dg E] (e1 e2 e3:E) (c:Q4):E:=if c.val=0 then Dg.nil else if c.val=1 then e1 else if c.val=2 then e2 else e3
theorem ren4 {E M:Type} [Dg E] [DgL E] [Inhabited M] {e1 e2 e3:E} (h01:Dg.lt (Dg.nil:E) e1=true) (h12:Dg.lt e1 e2=true) (h23:Dg.lt e2 e3=true) {g:Q4→M} (hg:g 0=default):Ren (f4 e1 e2 e3) g:=by
 have h02:=DgL.trans _ _ _ h01 h12;have h13:=DgL.trans _ _ _ h12 h23;have h03:=DgL.trans _ _ _ h01 h13;have as:∀a b:E,Dg.lt a b=true→Dg.lt b a=false:=fun a b h=>by
  cases q:Dg.lt b a with
  | false=>rfl
  | true=>have:=DgL.trans _ _ _ h q;rw [DgL.irr] at this;cases this
 have lt:∀a b:Q4,Dg.lt (f4 e1 e2 e3 a) (f4 e1 e2 e3 b)=decide (a.val<b.val):=fun a b=>by
  match a,b with
  | 0,0=>exact DgL.irr _
  | 0,1=>exact h01
  | 0,2=>exact h02
  | 0,3=>exact h03
  | 1,0=>exact as _ _ h01
  | 1,1=>exact DgL.irr _
  | 1,2=>exact h12
  | 1,3=>exact h13
  | 2,0=>exact as _ _ h02
  | 2,1=>exact as _ _ h12
  | 2,2=>exact DgL.irr _
  | 2,3=>exact h23
  | 3,0=>exact as _ _ h03
  | 3,1=>exact as _ _ h13
  | 3,2=>exact as _ _ h23
  | 3,3=>exact DgL.irr _
 refine ⟨fun a b e=>?_,rfl,fun a b=>lt a b,hg⟩;have a1:=lt a b;have a2:=lt b a;rw [e,DgL.irr] at a1;rw [e,DgL.irr] at a2;have b1:=of_decide_eq_false a1.symm;have b2:=of_decide_eq_false a2.symm;exact Fin.ext (by omega)
section
variable {E M:Type} [Dg E] [DgL E] [Inhabited M]
def casD (d0 d:E):Nat:=if d=d0 then 1 else if Dg.lt d d0=true then 0 else 2
def fS (lo d0 hi d:E):Q4→E:=f4 (if casD d0 d=0 then d else lo) d0 (if casD d0 d=2 then d else hi)
def gS (l0 l:M) (c:Q4):M:=if c.val=1 then l else if c.val=2 then l0 else default
theorem renS {lo d0 hi d:E} (h1:Dg.lt (Dg.nil:E) lo=true) (h2:Dg.lt lo d0=true) (h3:Dg.lt d0 hi=true) (hd:Dg.lt (Dg.nil:E) d=true) (l0 l:M):Ren (fS lo d0 hi d) (gS l0 l):=by
 unfold fS;refine ren4 ?_ ?_ ?_ rfl
 ·split
  ·exact hd
  exact h1
 ·split
  ·rename_i q
   unfold casD at q;split at q
   ·cases q
   split at q
   ·assumption
   cases q
  exact h2
 split
 ·rename_i q
  unfold casD at q;split at q
  ·cases q
  rename_i hne
  split at q
  ·cases q
  rename_i hl
  cases hg:Dg.lt d0 d with
  | true=>rfl
  | false=>exact absurd (DgL.tri _ _ (by simpa using hl) hg) hne
 exact h3
def codS (d0 d:E):Q4:=if casD d0 d=0 then 1 else if casD d0 d=1 then 2 else 3
theorem codS_name (lo d0 hi d:E):fS lo d0 hi d (codS d0 d)=d:=by
 unfold fS codS f4 casD;by_cases h:d=d0
 ·simp [h]
 by_cases h2:Dg.lt d d0=true
 ·simp [h,h2]
 simp [h,h2];rfl
def startE (n:Nat) (dg:M→E) (ls:Nat→M):List (NS E M):=(List.range n).map fun (i:Nat)=>((newS (i:Int) (n:Int):NS E M).begin 0 true (dg (ls i)) (ls i)).1
theorem startE_get {n:Nat} {dg:M→E} {ls:Nat→M} {i:Nat} (hi:i<n):(startE n dg ls)[i]?=some ((newS (i:Int) (n:Int):NS E M).begin 0 true (dg (ls i)) (ls i)).1:=by
 unfold startE;rw [List.getElem?_map,List.getElem?_range hi];rfl
def fA (lo hi:E) (dg:M→E) (ls:Nat→M) (i:Nat):Q4→E:=fS lo (dg (ls 0)) hi (dg (ls i))
def gA (ls:Nat→M) (i:Nat):Q4→M:=gS (ls 0) (ls i)
def csA (dg:M→E) (ls:Nat→M) (i:Nat):Nat:=casD (dg (ls 0)) (dg (ls i))
theorem renA {n:Nat} {lo hi:E} {dg:M→E} {ls:Nat→M} (h1:Dg.lt (Dg.nil:E) lo=true) (h2:Dg.lt lo (dg (ls 0))=true) (h3:Dg.lt (dg (ls 0)) hi=true) (hd:∀i,i<n→Dg.lt (Dg.nil:E) (dg (ls i))=true):RenA n dg (fA lo hi dg ls) (gA ls):=
 ⟨fun i hi'=>renS h1 h2 h3 (hd i hi') _ _,fun i=>rfl,fun i=>rfl,rfl⟩
theorem startE_eq {n:Nat} {lo hi:E} {dg:M→E} {ls:Nat→M} (R:RenA n dg (fA lo hi dg ls) (gA ls)):startE n dg ls=realK (fA lo hi dg ls) (gA ls) (csA dg ls) 0 (start0 n):=by
 apply List.ext_getElem?;intro i;by_cases hi':i<n
 ·rw [startE_get hi',realK_get];unfold start0;rw [List.getElem?_map,List.getElem?_range hi',Option.map_some,Option.map_some,Nat.zero_add];congr 1
  have hb:=fun c l=>begin_ren (R.ren i hi') (newS (i:Int) (n:Int):S4) 0 true c l;have hn:((newS (i:Int) (n:Int):S4).ren (fA lo hi dg ls i) (gA ls i))=newS (i:Int) (n:Int):=rfl;rw [hn] at hb;by_cases h0:i=0
  ·subst h0;rw [if_pos rfl];have hc:csA dg ls 0=1:=by unfold csA casD;rw [if_pos rfl]
   rw [hc];show _=(startC n 0 2 2).ren _ _;have:=congrArg Prod.fst (hb 2 2);rw [show fA lo hi dg ls 0 2=dg (ls 0) from rfl,show gA ls 0 2=ls 0 from rfl] at this;exact this
  rw [if_neg h0];have hk:pk (csA dg ls i) (startC n i 1 1,startC n i 2 1,startC n i 3 1)=startC n i (codS (dg (ls 0)) (dg (ls i))) 1:=by
   unfold csA codS;have hc:casD (dg (ls 0)) (dg (ls i))=0∨casD (dg (ls 0)) (dg (ls i))=1∨casD (dg (ls 0)) (dg (ls i))=2:=by
    unfold casD;split
    ·exact .inr (.inl rfl)
    split
    ·exact .inl rfl
    exact .inr (.inr rfl)
   rcases hc with q | q | q
   ·rw [q];rfl
   ·rw [q];rfl
   rw [q];rfl
  rw [hk];have:=congrArg Prod.fst (hb (codS (dg (ls 0)) (dg (ls i))) 1);rw [show fA lo hi dg ls i (codS (dg (ls 0)) (dg (ls i)))=dg (ls i) from codS_name _ _ _ _,show gA ls i 1=ls i from rfl] at this;exact this
 have e1:(startE n dg ls).length=n:=by unfold startE;simp
 have e2:(realK (fA lo hi dg ls) (gA ls) (csA dg ls) 0 (start0 n)).length=n:=by rw [realK_len];unfold start0;simp
 rw [List.getElem?_eq_none (by omega),List.getElem?_eq_none (by omega)]
theorem goT_all {n:Nat} (h1:1≤n) (h7:n≤7):goT n 8 (start0 n)=true:=by
 obtain rfl | rfl | rfl | rfl | rfl | rfl | rfl:n=1∨n=2∨n=3∨n=4∨n=5∨n=6∨n=7:=by omega
 ·exact goT_1
 ·exact goT_2
 ·exact goT_3
 ·exact goT_4
 ·exact goT_5
 ·exact goT_6
 exact goT_7
theorem run_facts {n:Nat} (h1:1≤n) (h7:n≤7) {lo hi:E} {dg:M→E} {ls:Nat→M} (hl1:Dg.lt (Dg.nil:E) lo=true) (hl2:Dg.lt lo (dg (ls 0))=true) (hl3:Dg.lt (dg (ls 0)) hi=true) (hd:∀i,i<n→Dg.lt (Dg.nil:E) (dg (ls i))=true) :
  (∀i,i<n→∃s v,(sRnds dg noS 8 (startE n dg ls))[i]?=some s∧getA 0 s.decs=some v∧v.dig=dg (ls 0)∧v.list=ls 0) ∧
  ∀j,j<8→∀(i:Nat) (s:NS E M),(sRnds dg noS j (startE n dg ls))[i]?=some s→(∀l∈s.asked,l=ls 0)∧((accAll dg s).tick.1.height=0∧(accAll dg s).tick.1.round=0):=by
 have R:=renA (n:=n) (lo:=lo) (hi:=hi) hl1 hl2 hl3 hd;have hlen:(start0 n).length=n:=by unfold start0;simp
 obtain ⟨hg,hdec⟩:=goT_good 8 (start0 n) (goT_all h1 h7);have hv:=start_invT h7;have hl:=fun j hj=>rnds_link4 (cs:=csA dg ls) R (by omega) (Nat.le_of_eq hlen) hg hv j hj;rw [startE_eq R];refine ⟨fun i hi'=>?_,fun j hj i s hs=>?_⟩
 ·rw [hl 8 (Nat.le_refl _),realK_get,Nat.zero_add];have hx:i<(iterT 8 (start0 n)).length:=by rw [iterT_len,hlen];exact hi'
  rw [List.getElem?_eq_getElem hx,Option.map_some];obtain ⟨d1,d2,d3⟩:=hdec _ (List.getElem_mem hx);have dk:decT (pk (csA dg ls i) (iterT 8 (start0 n))[i])=true:=by
   match csA dg ls i with
   | 0=>exact d1
   | 1=>exact d2
   | c+2=>exact d3
  obtain ⟨t,ht⟩:∃t,pk (csA dg ls i) (iterT 8 (start0 n))[i]=t:=⟨_,rfl⟩;rw [ht] at dk ⊢;unfold decT at dk;rcases hx2:getA 0 t.decs with _ | v
  ·rw [hx2] at dk;cases dk
  rw [hx2] at dk;simp only [Bool.and_eq_true,decide_eq_true_eq] at dk;refine ⟨_,v.ren (fA lo hi dg ls i) (gA ls i),rfl,?_,?_,?_⟩
  ·show getA 0 (mapV (Val.ren (fA lo hi dg ls i) (gA ls i)) t.decs)=_;rw [getA_ren,hx2];rfl
  ·show fA lo hi dg ls i v.dig=_;rw [dk.1];rfl
  show gA ls i v.list=_;rw [dk.2];rfl
 rw [hl j (by omega),realK_get,Nat.zero_add] at hs;rcases hx:(iterT j (start0 n))[i]? with _ | t
 ·rw [hx] at hs;cases hs
 rw [hx] at hs;cases hs;have hmem:=List.mem_of_getElem? hx;have hin:i<n:=by
  have:=(List.getElem?_eq_some_iff.1 hx).1;rw [iterT_len,hlen] at this;exact this
 have hG:=hg j hj;have hI:=iter_invT hg hv j (by omega) t hmem;refine ⟨fun l hl'=>?_,?_⟩
 ·rw [asked_ren (R.ren i hin)] at hl';obtain ⟨c,hc,rfl⟩:=List.mem_map.1 hl';have:=of_decide_eq_true (List.all_eq_true.1 (pk_ask (hG.ask t hmem) (csA dg ls i)) c hc);rw [this];rfl
 rw [tick_link R hin hI (hG.same t hmem) (hG.ask t hmem)];have hz:=hG.zero t hmem;unfold zeroT at hz;simp only [Bool.and_eq_true] at hz;have zk:zeroS (pk (csA dg ls i) (midT t))=true:=by
  match csA dg ls i with
  | 0=>exact hz.1
  | 1=>exact hz.2.1
  | c+2=>exact hz.2.2
 unfold zeroS at zk;simp only [Bool.and_eq_true,decide_eq_true_eq] at zk;exact zk
end
end Go.Proofs.YtifcdjmcoibblaaGreatDoor
