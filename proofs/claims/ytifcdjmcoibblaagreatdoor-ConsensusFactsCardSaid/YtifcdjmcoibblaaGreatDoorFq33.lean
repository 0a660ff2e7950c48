/- Fcr Ans1 Clm Out Psh -/
import Derived.Test.YtifcdjmcoibblaaGreatDoorFq19
import Derived.Test.YtifcdjmcoibblaaGreatDoorFq31
import Derived.Test.YtifcdjmcoibblaaGreatDoorFq32
import Derived.Test.YtifcdjmcoibblaaGreatDoorFq11
import Derived.Test.YtifcdjmcoibblaaGreatDoorFq01
import Derived.Test.YtifcdjmcoibblaaGreatDoorFq12
import Derived.Test.YtifcdjmcoibblaaGreatDoorFq24
set_option linter.unusedVariables false
set_option linter.unusedSimpArgs false
set_option linter.unusedSectionVars false
set_option maxRecDepth 100000
set_option maxHeartbeats 80000000
namespace Go.Proofs.YtifcdjmcoibblaaGreatDoor
theorem receive_ticks (s:StB) (m:MsgB) (ok:Bool):(s.receive m ok).ticks=s.ticks:=by
 unfold NS.receive;split
 ·rfl
 split
 ·rfl
 split
 ·obtain ⟨a,b,e⟩:=ask_same s m;rw [e]
 split
 ·rfl
 split
 ·exact (putVote_same s m).1.ticks
 split
 ·rfl
 split
 ·rfl
 rfl
section
variable {D L:Type} [Dg D] [Inhabited L]
theorem begin_zero (s:NS D L) (h0:s.height=0) (ok:Bool) (d:D) (l:L):∃o a,(s.begin 0 ok d l).1 = {s with own:=o,acc:=a}:=by
 unfold NS.begin;split
 ·exact ⟨s.own,s.acc,rfl⟩
 split
 ·exact ⟨_,_,rfl⟩
 split
 ·rename_i q;rw [h0] at q;exact absurd q.2.1 (by omega)
 exact ⟨s.own,s.acc,rfl⟩
theorem receive_kept (s:NS D L) (m:Msg D L) (ok:Bool):(s.receive m ok).height=s.height∧(s.receive m ok).id=s.id∧(s.receive m ok).n=s.n∧(s.receive m ok).decs=s.decs∧(s.receive m ok).mine=s.mine∧(s.receive m ok).round=s.round∧(s.receive m ok).lock=s.lock∧(s.isDec m.height=false→(s.receive m ok).ques=s.ques):=by
 unfold NS.receive;split
 ·exact ⟨rfl,rfl,rfl,rfl,rfl,rfl,rfl,fun _=>rfl⟩
 split
 ·exact ⟨rfl,rfl,rfl,rfl,rfl,rfl,rfl,fun _=>rfl⟩
 split
 ·rename_i hd
  obtain ⟨a,b,e⟩:=ask_same s m;rw [e];exact ⟨rfl,rfl,rfl,rfl,rfl,rfl,rfl,fun h=>by rw [h] at hd;cases hd⟩
 split
 ·exact ⟨rfl,rfl,rfl,rfl,rfl,rfl,rfl,fun _=>rfl⟩
 split
 ·obtain ⟨hb,e1,e2,e3,e4,e5,e6⟩:=putVote_same s m;exact ⟨hb.height,hb.id,hb.n,hb.decs,e4,e1,hb.lock,fun _=>hb.ques⟩
 split
 ·exact ⟨rfl,rfl,rfl,rfl,rfl,rfl,rfl,fun _=>rfl⟩
 split <;> exact ⟨rfl,rfl,rfl,rfl,rfl,rfl,rfl,fun _=>rfl⟩
end
section
variable {D L:Type} [Dg D] [Inhabited L]
theorem askedL_mem {props:List (Int×Msg D L)} {l:L}:∀{ks:List Int} {seen:List D},l∈askedL props ks seen→∃p∈props,p.2.list=l
 | [],_,h=>by cases h
 | r :: ks,seen,h=>by
  unfold askedL at h;rcases hg:getA r props with _ | m
  ·rw [hg] at h;exact askedL_mem h
  rw [hg] at h;simp only at h;split at h
  ·exact askedL_mem h
  rcases List.mem_cons.1 h with rfl | h
  ·exact ⟨(r,m),getA_mem hg,rfl⟩
  exact askedL_mem h
theorem asked_mem {s:NS D L} {l:L} (h:l∈s.asked):∃p∈s.props,p.2.list=l:=by
 unfold NS.asked at h;split at h
 ·cases h
 exact askedL_mem h
theorem sMid_app (dg:L→D) (sil:Nat→Bool):∀(a b:List (NS D L)) (k:Nat),sMid dg sil k (a ++ b)=sMid dg sil k a ++ sMid dg sil (k+a.length) b
 | [],b,k=>by simp [sMid]
 | s :: a,b,k=>by
  show _ :: sMid dg sil (k+1) (a ++ b)=_ :: sMid dg sil (k+1) a ++ _;rw [sMid_app dg sil a b (k+1),List.length_cons,show k+1+a.length=k+(a.length+1) from by omega];rfl
theorem sOut_app (dg:L→D) (sil:Nat→Bool):∀(a b:List (NS D L)) (k:Nat),sOut dg sil k (a ++ b)=sOut dg sil k a ++ sOut dg sil (k+a.length) b
 | [],b,k=>by simp [sOut]
 | s :: a,b,k=>by
  show _ ++ sOut dg sil (k+1) (a ++ b)=(_ ++ sOut dg sil (k+1) a) ++ _;rw [sOut_app dg sil a b (k+1),List.length_cons,show k+1+a.length=k+(a.length+1) from by omega,List.append_assoc]
theorem sMid_len (dg:L→D) (sil:Nat→Bool):∀(a:List (NS D L)) (k:Nat),(sMid dg sil k a).length=a.length
 | [],_=>rfl
 | s :: a,k=>by show (sMid dg sil (k+1) a).length+1=_;rw [sMid_len dg sil a (k+1)];rfl
theorem sDlv_len (sil:Nat→Bool) (ns:List (NS D L)) (m:Msg D L):(sDlv sil ns m).length=ns.length:=by
 unfold sDlv;split
 ·rfl
 unfold dlvN;simp
theorem sDlvs_len (sil:Nat→Bool):∀(ms:List (Msg D L)) (ns:List (NS D L)),(ms.foldl (sDlv sil) ns).length=ns.length
 | [],_=>rfl
 | m :: ms,ns=>by rw [List.foldl_cons,sDlvs_len sil ms,sDlv_len]
end
section
variable {G:ByteArray→List ByteArray→Prop}
theorem Fit.accs {s:StB} (h:Fit G s) (ls:List (List ByteArray)):Fit G (ls.foldl (fun t l=>t.accept (digV l)) s):=by
 induction ls generalizing s with
 | nil=>exact h
 | cons l ls ih=>exact ih (h.accept (digV l))
theorem Fit.accAll {s:StB} (h:Fit G s):Fit G (accAll digV s):=h.accs _
end
structure CrewF (G:ByteArray→List ByteArray→Prop) (N:Nat) (T:Int) (ss:List StB):Prop where
 len:ss.length=N
 each:∀(i:Nat) (s:StB),ss[i]?=some s→s.id=(i:Int)∧s.n=(N:Int)∧s.ticks≤T∧Fit G s
theorem CrewF.fit {G:ByteArray→List ByteArray→Prop} {N:Nat} {T:Int} {ss:List StB} (h:CrewF G N T ss):∀s∈ss,Fit G s:=fun s hs=>by
 obtain ⟨i,hi⟩:=List.getElem?_of_mem hs;exact (h.each i s hi).2.2.2
theorem CrewF.mono {G:ByteArray→List ByteArray→Prop} {N:Nat} {T U:Int} {ss:List StB} (h:CrewF G N T ss) (hu:T≤U):CrewF G N U ss:=⟨h.len,fun i s hs=>by
 obtain ⟨a,b,c,d⟩:=h.each i s hs;exact ⟨a,b,Int.le_trans c hu,d⟩⟩
theorem CrewF.set {G:ByteArray→List ByteArray→Prop} {N:Nat} {T:Int} {ss:List StB} (h:CrewF G N T ss) {i:Nat} {s:StB} (h1:s.id=(i:Int)) (h2:s.n=(N:Int)) (h3:s.ticks≤T) (h4:Fit G s):CrewF G N T (ss.set i s):=by
 refine ⟨by rw [List.length_set];exact h.len,fun j t ht=>?_⟩;rw [List.getElem?_set] at ht;split at ht
 ·rename_i e
  split at ht
  ·cases ht;subst e;exact ⟨h1,h2,h3,h4⟩
  cases ht
 exact h.each j t ht
theorem accs_keep (ls:List (List ByteArray)) (s:StB):(ls.foldl (fun t l=>t.accept (digV l)) s).id=s.id∧(ls.foldl (fun t l=>t.accept (digV l)) s).n=s.n∧(ls.foldl (fun t l=>t.accept (digV l)) s).ticks=s.ticks∧(ls.foldl (fun t l=>t.accept (digV l)) s).height=s.height∧(ls.foldl (fun t l=>t.accept (digV l)) s).decs=s.decs:=by
 induction ls generalizing s with
 | nil=>exact ⟨rfl,rfl,rfl,rfl,rfl⟩
 | cons l ls ih=>exact ih (s.accept (digV l))
section
variable {D L:Type} [Dg D] [Inhabited L]
theorem sMid_get (dg:L→D) (sil:Nat→Bool):∀(a:List (NS D L)) (k i:Nat),(sMid dg sil k a)[i]?=(a[i]?).map fun s=>if sil (k+i) then accAll dg s else (accAll dg s).tick.1
 | [],_,_=>by simp [sMid]
 | s :: a,k,0=>rfl
 | s :: a,k,i+1=>by
  show (sMid dg sil (k+1) a)[i]?=_;rw [sMid_get dg sil a (k+1) i,show k+1+i=k+(i+1) from by omega];rfl
theorem sOut_mem {dg:L→D} {sil:Nat→Bool} {m:Msg D L}:∀{a:List (NS D L)} {k:Nat},m∈sOut dg sil k a→∃i s,a[i]?=some s∧sil (k+i)=false∧m∈(accAll dg s).tick.2
 | [],_,h=>by cases h
 | s :: a,k,h=>by
  unfold sOut at h;rcases List.mem_append.1 h with h | h
  ·by_cases hs:sil k=true
   ·rw [if_pos hs] at h;cases h
   rw [if_neg hs] at h;exact ⟨0,s,rfl,by simpa using hs,h⟩
  obtain ⟨i,t,h1,h2,h3⟩:=sOut_mem h;exact ⟨i+1,t,h1,by rw [←h2];congr 1;omega,h3⟩
end
theorem CrewF.mid {G:ByteArray→List ByteArray→Prop} {N:Nat} {T:Int} {ns:List StB} (h:CrewF G N T ns) (hmk:∀s∈ns,MeekT G (accAll digV s)) (sil:Nat→Bool):CrewF G N (T+1) (sMid digV sil 0 ns):=by
 refine ⟨by rw [sMid_len];exact h.len,fun i s hs=>?_⟩;rw [sMid_get] at hs;rcases hn:ns[i]? with _ | t
 ·rw [hn] at hs;cases hs
 rw [hn] at hs;obtain ⟨a,b,c,d⟩:=h.each i t hn;obtain ⟨k1,k2,k3,_⟩:=accs_keep t.asked t;have hf:=d.accAll;simp only [Option.map_some,Option.some.injEq] at hs;split at hs
 ·subst hs;exact ⟨k1.trans a,k2.trans b,by show (accAll digV t).ticks≤_;unfold accAll;rw [k3];omega,hf⟩
 subst hs;have hk:=tick_keep hf.ok.inv;refine ⟨hk.id.trans (k1.trans a),hk.n.trans (k2.trans b),?_,hf.tick (hmk t (List.mem_of_getElem? hn))⟩;have:=hk.ticks;have e:(accAll digV t).ticks=t.ticks:=k3;omega
theorem sOut_ok {G:ByteArray→List ByteArray→Prop} (gf:GFam G) {N:Nat} {T:Int} {ns:List StB} (h:CrewF G N T ns) (hmk:∀s∈ns,MeekT G (accAll digV s)) {sil:Nat→Bool} {m:MsgB} (hm:m∈sOut digV sil 0 ns):validB m=true∧m.list.length≤60∧(m.kind=3→G m.dig m.list)∧0≤m.to∧m.to<N:=by
 obtain ⟨i,s,h1,_,h3⟩:=sOut_mem hm;obtain ⟨_,b,_,d⟩:=h.each i s h1;have hf:=d.accAll;have ho:=hf.out gf (hmk s (List.mem_of_getElem? h1)) m h3;obtain ⟨p,q,r⟩:=out_valid gf ho hf.ok.inv.num.id0 hf.ok.inv.num.idn hf.ok.inv.num.n7;have hn:(accAll digV s).n=(N:Int):=(accs_keep s.asked s).2.1.trans b;exact ⟨p,q,r,ho.t0,by have:=ho.t1;omega⟩
theorem sdlv_at {sil:Nat→Bool} {ns:List StB} {m:MsgB} {s:StB} (hs:ns[m.to.toNat]?=some s):sDlv sil ns m=if sil m.to.toNat then ns else ns.set m.to.toNat (s.receive m true):=by
 unfold sDlv;split
 ·rfl
 unfold dlvN;apply List.ext_getElem?;intro j;rw [List.getElem?_modify,List.getElem?_set];by_cases q:m.to.toNat=j
 ·subst q;have hl:=(List.getElem?_eq_some_iff.1 hs).1;rw [hs];simp [hl]
 simp [q]
theorem CrewF.dlv {G:ByteArray→List ByteArray→Prop} {N:Nat} {T:Int} {ns:List StB} (h:CrewF G N T ns) {sil:Nat→Bool} {m:MsgB} (hv:validB m=true) (hg:m.kind=3→G m.dig m.list) (h0:0≤m.to) (h1:m.to<N):CrewF G N T (sDlv sil ns m):=by
 have hl:m.to.toNat<ns.length:=by rw [h.len];omega
 rw [sdlv_at (List.getElem?_eq_getElem hl)];split
 ·exact h
 obtain ⟨a,b,c,d⟩:=h.each _ _ (List.getElem?_eq_getElem hl);obtain ⟨e1,e2,e3,_⟩:=receive_kept ns[m.to.toNat] m true;have hf:=d.receive (m:=m) (fun _=>hg);rw [hv] at hf;exact h.set (e2.trans a) (e3.trans b) (by rw [receive_ticks];exact c) hf
theorem CrewF.dlvs {G:ByteArray→List ByteArray→Prop} {N:Nat} {T:Int} {sil:Nat→Bool}:∀{ms:List MsgB} {ns:List StB},CrewF G N T ns→(∀m∈ms,validB m=true∧(m.kind=3→G m.dig m.list)∧0≤m.to∧m.to<N)→CrewF G N T (ms.foldl (sDlv sil) ns)
 | [],_,h,_=>h
 | m :: ms,ns,h,hm=>by
  obtain ⟨a,b,c,d⟩:=hm m (by simp);rw [List.foldl_cons];exact (h.dlv a b c d).dlvs (fun x hx=>hm x (by simp [hx]))
def gotS (sil:Nat→Bool) (k:Nat) (ns:List StB):List StB:=((sOut digV sil 0 ns).take k).foldl (sDlv sil) (sMid digV sil 0 ns)
theorem gotS_zero (sil:Nat→Bool) (ns:List StB):gotS sil 0 ns=sMid digV sil 0 ns:=rfl
theorem gotS_all {sil:Nat→Bool} {k:Nat} {ns:List StB} (h:(sOut digV sil 0 ns).length≤k):gotS sil k ns=sRnd digV sil ns:=by
 unfold gotS sRnd;rw [List.take_of_length_le h]
theorem gotS_next {sil:Nat→Bool} {k:Nat} {ns:List StB} {m:MsgB} (h:(sOut digV sil 0 ns)[k]?=some m):gotS sil (k+1) ns=sDlv sil (gotS sil k ns) m:=by
 unfold gotS;rw [List.take_add_one,h];simp [List.foldl_append]
theorem CrewF.got {G:ByteArray→List ByteArray→Prop} (gf:GFam G) {N:Nat} {T:Int} {ns:List StB} (h:CrewF G N T ns) (hmk:∀s∈ns,MeekT G (accAll digV s)) (sil:Nat→Bool) (k:Nat):CrewF G N (T+1) (gotS sil k ns):=
 (h.mid hmk sil).dlvs (fun m hm=>by
  obtain ⟨a,b,c,d⟩:=sOut_ok gf h hmk (List.mem_of_mem_take hm);exact ⟨a,c,d⟩)
theorem CrewF.rnd {G:ByteArray→List ByteArray→Prop} (gf:GFam G) {N:Nat} {T:Int} {ns:List StB} (h:CrewF G N T ns) (hmk:∀s∈ns,MeekT G (accAll digV s)) (sil:Nat→Bool):CrewF G N (T+1) (sRnd digV sil ns):=by
 rw [←gotS_all (Nat.le_refl _)];exact h.got gf hmk sil _
theorem begin_keeps (s:StB) (ok:Bool) (d:ByteArray) (l:List ByteArray) (h0:s.height=0):(s.begin 0 ok d l).1.id=s.id∧(s.begin 0 ok d l).1.n=s.n∧(s.begin 0 ok d l).1.ticks=s.ticks:=by
 obtain ⟨o,a,e⟩:=begin_zero s h0 ok d l;rw [e];exact ⟨rfl,rfl,rfl⟩
def GO (l0:List ByteArray):ByteArray→List ByteArray→Prop:=fun d l=>d=digV l0∧l=l0
theorem GO.gf {l0:List ByteArray} (ha:ascS l0=true) (hl:l0.length≤60):GFam (GO l0):=
 ⟨⟨fun d l l' h1 h2=>h1.2.trans h2.2.symm,fun d l h=>by rw [h.2];exact hl⟩,fun d l h=>by rw [h.2];exact ⟨ha,h.1⟩⟩
theorem GO.shy {l0:List ByteArray} {me:Int} (h:me≠0):Shy (GO l0) me:=⟨fun d l d' l' h1 h2=>h1.1.trans h2.1.symm,h⟩
theorem meekT_of {G:ByteArray→List ByteArray→Prop} {s:StB} (hi:InvS szB s) (h0:s.tick.1.height=0) (hr:s.tick.1.round=0):MeekT G s:=fun _=>by
 have hq:({s with ques:=[]}:StB).ticked.height=s.height:=rfl;have hk:=(tick_keep hi).height;refine ⟨by rw [hq];omega,?_⟩;by_cases hd:s.isDec s.height=true
 ·have e:s.tick.1=({s with ques:=[]}:StB):=by
   unfold NS.tick;simp only;have hd2:({s with ques:=[]}:StB).isDec ({s with ques:=[]}:StB).height=true:=hd;rw [if_pos hd2]
  rw [e] at hr;unfold NS.runS;have hd2:(({s with ques:=[]}:StB).ticked).isDec (({s with ques:=[]}:StB).ticked).height=true:=hd;rw [if_pos hd2];exact hr
 have e:s.tick.1=(({s with ques:=[]}:StB).ticked).apply:=by
  unfold NS.tick;simp only;have hd2:¬({s with ques:=[]}:StB).isDec ({s with ques:=[]}:StB).height=true:=hd;rw [if_neg hd2]
 rw [e] at hr;exact hr
def startR (N:Nat) (ls:Nat→List ByteArray):List StB:=startE N digV ls
theorem startR_crew {N:Nat} (h7:N≤7) {ls:Nat→List ByteArray}:CrewF (GO (ls 0)) N 0 (startR N ls):=by
 refine ⟨by unfold startR startE;simp,fun i s hs=>?_⟩;have hi:i<N:=by
  rcases Nat.lt_or_ge i N with q | q
  ·exact q
  rw [List.getElem?_eq_none (by unfold startR startE;simpa using q)] at hs;cases hs
 unfold startR at hs;rw [startE_get hi] at hs;cases hs;obtain ⟨a,b,c⟩:=begin_keeps (newS (i:Int) (N:Int)) true (digV (ls i)) (ls i) rfl;refine ⟨a,b,by rw [c];exact Int.le_refl _,(Fit.new (by omega) (by omega) (by omega)).begin' 0 (fun _=>.inr (digV_size _)) (fun _ hs=>?_)⟩;by_cases h0:i=0
 ·subst h0;exact ⟨rfl,rfl⟩
 exact absurd (GO.shy (by show ((i:Nat):Int)≠0;omega)) hs
section
open Go.RowKit
theorem set8 {w:World} {g:Nat} {t:TypeId} {a0 a1 a2 a3 a4 a5 a6 a7:Value} (h0:w.heap[g]?=some (.cells #[a0,a1,a2,a3,a4,a5,a6,a7] t (0,0))) (b0 b1 b2 b3 b4 b5 b6 b7:Value):((((((((w.setCell ⟨g,0,none⟩ b0).setCell ⟨g,1,none⟩ b1).setCell ⟨g,2,none⟩ b2).setCell ⟨g,3,none⟩ b3).setCell ⟨g,4,none⟩ b4).setCell ⟨g,5,none⟩ b5).setCell ⟨g,6,none⟩ b6).setCell ⟨g,7,none⟩ b7).heap[g]?=some (.cells #[b0,b1,b2,b3,b4,b5,b6,b7] t (0,0)):=by
 have h1:(w.setCell ⟨g,0,none⟩ b0).heap[g]?=some (.cells #[b0,a1,a2,a3,a4,a5,a6,a7] t (0,0)):=heap_setC h0 b0;have h2:((w.setCell ⟨g,0,none⟩ b0).setCell ⟨g,1,none⟩ b1).heap[g]?=some (.cells #[b0,b1,a2,a3,a4,a5,a6,a7] t (0,0)):=heap_setC h1 b1;have h3:(((w.setCell ⟨g,0,none⟩ b0).setCell ⟨g,1,none⟩ b1).setCell ⟨g,2,none⟩ b2).heap[g]?=some (.cells #[b0,b1,b2,a3,a4,a5,a6,a7] t (0,0)):=heap_setC h2 b2;have h4:((((w.setCell ⟨g,0,none⟩ b0).setCell ⟨g,1,none⟩ b1).setCell ⟨g,2,none⟩ b2).setCell ⟨g,3,none⟩ b3).heap[g]?=some (.cells #[b0,b1,b2,b3,a4,a5,a6,a7] t (0,0)):=heap_setC h3 b3;have h5:(((((w.setCell ⟨g,0,none⟩ b0).setCell ⟨g,1,none⟩ b1).setCell ⟨g,2,none⟩ b2).setCell ⟨g,3,none⟩ b3).setCell ⟨g,4,none⟩ b4).heap[g]?=some (.cells #[b0,b1,b2,b3,b4,a5,a6,a7] t (0,0)):=heap_setC h4 b4;have h6:((((((w.setCell ⟨g,0,none⟩ b0).setCell ⟨g,1,none⟩ b1).setCell ⟨g,2,none⟩ b2).setCell ⟨g,3,none⟩ b3).setCell ⟨g,4,none⟩ b4).setCell ⟨g,5,none⟩ b5).heap[g]?=some (.cells #[b0,b1,b2,b3,b4,b5,a6,a7] t (0,0)):=heap_setC h5 b5;have h7:(((((((w.setCell ⟨g,0,none⟩ b0).setCell ⟨g,1,none⟩ b1).setCell ⟨g,2,none⟩ b2).setCell ⟨g,3,none⟩ b3).setCell ⟨g,4,none⟩ b4).setCell ⟨g,5,none⟩ b5).setCell ⟨g,6,none⟩ b6).heap[g]?=some (.cells #[b0,b1,b2,b3,b4,b5,b6,a7] t (0,0)):=heap_setC h6 b6;have h8:((((((((w.setCell ⟨g,0,none⟩ b0).setCell ⟨g,1,none⟩ b1).setCell ⟨g,2,none⟩ b2).setCell ⟨g,3,none⟩ b3).setCell ⟨g,4,none⟩ b4).setCell ⟨g,5,none⟩ b5).setCell ⟨g,6,none⟩ b6).setCell ⟨g,7,none⟩ b7).heap[g]?=some (.cells #[b0,b1,b2,b3,b4,b5,b6,b7] t (0,0)):=heap_setC h7 b7;exact h8
theorem drew_at (w:World) (k:Nat):w.drew.heap[k]?=w.heap[k]?:=rfl
theorem below8 {B:Nat} {a w:World} (h:Below B a w) {g:Nat} (hg:B≤g) (b0 b1 b2 b3 b4 b5 b6 b7:Value):Below B a ((((((((w.setCell ⟨g,0,none⟩ b0).setCell ⟨g,1,none⟩ b1).setCell ⟨g,2,none⟩ b2).setCell ⟨g,3,none⟩ b3).setCell ⟨g,4,none⟩ b4).setCell ⟨g,5,none⟩ b5).setCell ⟨g,6,none⟩ b6).setCell ⟨g,7,none⟩ b7):=
 (((((((h.setCell hg b0).setCell hg b1).setCell hg b2).setCell hg b3).setCell hg b4).setCell hg b5).setCell hg b6).setCell hg b7
section
variable {R:Nat→Prop} {w:World} {x:Nat} {p:Ptr} {s:StB}
theorem ans1_any (h:NodeP R w x p s) (xb sb qb vb:Nat) (site qh qr vr kind round:Int) (d:ByteArray) (sl:Value)
  (hx:w.heap[xb]?=some (.cells #[pv x] 25 (0,0))) (hs:w.heap[sb]?=some (.cells #[.int .i64 site] 3 (0,0)))
  (hq:w.heap[qb]?=some (.cells #[.int .i64 qh,.int .i64 qr] 165 (0,0))) (hv:w.heap[vb]?=some (.cells #[.int .i64 vr,.string d,sl] 120 (0,0))) :
  Calls Tryz.prog 111 #[iv kind,iv round,pv xb,pv sb,pv qb,pv vb] w fun e w'=>e = .returned (.agg (encM ⟨kind,s.id,site,qh,round,0,d,[]⟩ (.slice none 0 0)))∧Below w.heap.size w w':=by
 have H:=Hd h;have b0:=cell_of_row w xb 0 _ _ _ hx;have b1:=cell_of_row w sb 0 _ _ _ hs;have b2:=cell_of_row w qb 0 _ _ _ hq;have b3:=cell_of_row w vb 1 _ _ _ hv;simp [pv] at b0 b1 b2 b3;have c16:=h.nc.c16;have HB:=Hd ((Below.refl _ w).alloc (Nat.le_refl _) (.cells #[.int .i64 0,.int .i64 0,.int .i64 0,.int .i64 0,.int .i64 0,.int .i64 0,.string (ByteArray.mk #[]),.slice none 0 0] 36));clear h hx hs hq hv;unfold pv iv encM;go_enter Tryz.func111,Tryz.ntmps111
 go_upto_region 1 with (fail)
 have hr0:=World.alloc_heap_new w (.cells #[.int .i64 0,.int .i64 0,.int .i64 0,.int .i64 0,.int .i64 0,.int .i64 0,.string (ByteArray.mk #[]),.slice none 0 0] 36);have HNA:=H.out.below HB.out;have b0:=cell_up b0 (.cells #[.int .i64 0,.int .i64 0,.int .i64 0,.int .i64 0,.int .i64 0,.int .i64 0,.string (ByteArray.mk #[]),.slice none 0 0] 36);have b1:=cell_up b1 (.cells #[.int .i64 0,.int .i64 0,.int .i64 0,.int .i64 0,.int .i64 0,.int .i64 0,.string (ByteArray.mk #[]),.slice none 0 0] 36);have b2:=cell_up b2 (.cells #[.int .i64 0,.int .i64 0,.int .i64 0,.int .i64 0,.int .i64 0,.int .i64 0,.string (ByteArray.mk #[]),.slice none 0 0] 36);have b3:=cell_up b3 (.cells #[.int .i64 0,.int .i64 0,.int .i64 0,.int .i64 0,.int .i64 0,.int .i64 0,.string (ByteArray.mk #[]),.slice none 0 0] 36);obtain ⟨wa,hwa⟩:∃wa,wa=w.alloc (.cells #[.int .i64 0,.int .i64 0,.int .i64 0,.int .i64 0,.int .i64 0,.int .i64 0,.string (ByteArray.mk #[]),.slice none 0 0] 36):=⟨_,rfl⟩;rw [←hwa] at HB hr0 HNA b0 b1 b2 b3 ⊢;obtain ⟨rb,hrb⟩:∃rb,rb=w.heap.size:=⟨_,rfl⟩;have HRB:=Hd hrb;rw [←hrb] at hr0 ⊢;have x16:=HNA.nc.c16;have e0:=cell_of_row wa rb 0 _ _ _ hr0;have e1:=cell_of_row wa rb 1 _ _ _ hr0;have e2:=cell_of_row wa rb 2 _ _ _ hr0;have e3:=cell_of_row wa rb 3 _ _ _ hr0;have e4:=cell_of_row wa rb 4 _ _ _ hr0;have e5:=cell_of_row wa rb 5 _ _ _ hr0;have e6:=cell_of_row wa rb 6 _ _ _ hr0;have e7:=cell_of_row wa rb 7 _ _ _ hr0;have ef:=fun o=>frozen_of_row wa rb o _ _ hr0;simp at e0 e1 e2 e3 e4 e5 e6 e7;have HR0:=Hd hr0;clear hwa hrb hr0 HNA c16;go_region
 all_goals (
  go_wp2
  have hrow:=set8 HR0.out (.int .i64 kind) (.int .i64 s.id) (.int .i64 site) (.int .i64 qh) (.int .i64 round) (.int .i64 0) (.string d) (.slice none 0 0);have hbel:=(below8 HB.out (show w.heap.size≤rb by rw [HRB.out];exact Nat.le_refl _) (.int .i64 kind) (.int .i64 s.id) (.int .i64 site) (.int .i64 qh) (.int .i64 round) (.int .i64 0) (.string d) (.slice none 0 0)).drew;obtain ⟨wf,hwf⟩:∃wf,wf=((((((((wa.setCell ⟨rb,0,none⟩ (.int .i64 kind)).setCell ⟨rb,1,none⟩ (.int .i64 s.id)).setCell ⟨rb,2,none⟩ (.int .i64 site)).setCell ⟨rb,3,none⟩ (.int .i64 qh)).setCell ⟨rb,4,none⟩ (.int .i64 round)).setCell ⟨rb,5,none⟩ (.int .i64 0)).setCell ⟨rb,6,none⟩ (.string d)).setCell ⟨rb,7,none⟩ (.slice none 0 0)).drew:=⟨_,rfl⟩;have hrow2:wf.heap[rb]?=some (.cells #[.int .i64 kind,.int .i64 s.id,.int .i64 site,.int .i64 qh,.int .i64 round,.int .i64 0,.string d,.slice none 0 0] 36 (0,0)):=by rw [hwf,drew_at];exact hrow
  rw [←hwf] at hbel ⊢;exact bodyPost_ret (results_cell_row rfl _ _ rb _ _ _ _ rfl hrow2 Tryz.underlying36 rfl (by kernel_rfl)) rfl ⟨rfl,hbel⟩)
end
end
section
open Go.RowKit
theorem oth8 {w:World} {g k:Nat} (b0 b1 b2 b3 b4 b5 b6 b7:Value) (h:k≠g):((((((((w.setCell ⟨g,0,none⟩ b0).setCell ⟨g,1,none⟩ b1).setCell ⟨g,2,none⟩ b2).setCell ⟨g,3,none⟩ b3).setCell ⟨g,4,none⟩ b4).setCell ⟨g,5,none⟩ b5).setCell ⟨g,6,none⟩ b6).setCell ⟨g,7,none⟩ b7).heap[k]?=w.heap[k]?:=by
 rw [Below.heap_setCell _ ⟨g,7,none⟩ _ k h,Below.heap_setCell _ ⟨g,6,none⟩ _ k h,Below.heap_setCell _ ⟨g,5,none⟩ _ k h,Below.heap_setCell _ ⟨g,4,none⟩ _ k h,Below.heap_setCell _ ⟨g,3,none⟩ _ k h,Below.heap_setCell _ ⟨g,2,none⟩ _ k h,Below.heap_setCell _ ⟨g,1,none⟩ _ k h,Below.heap_setCell _ ⟨g,0,none⟩ _ k h]
section
variable {R R0 R1:Nat→Prop} {w:World} {x:Nat} {p:Ptr} {s:StB}
theorem claim_any {v lv:Value} {m:MsgB} {l:List ByteArray} (h:NodeP R w x p s) (hm:MsgV R0 w v m) (hlr:LRow R1 w lv l) (h1:∀k,R1 k→k<w.heap.size) (hl:l.length≤1000) (hn:1≤s.n) (hh:0≤m.height∧m.height≤1000000) (hr:0≤m.round∧m.round≤1000000) :
  Calls Tryz.prog 112 #[pv x,v,lv] w fun e w'=>∃u,e = .returned (.agg (encM ⟨m.kind,m.frm,m.to,m.height,s.claimRound m.height m.round,-1,m.dig,l⟩ u))∧LRow (New w w') w' u l∧Below w.heap.size w w':=by
 obtain ⟨sl,rfl,ao,cap,rfl,hcap,hrow⟩:=hm;have H:=Hd h;have CL:=Hd (fun W (hW:Below w.heap.size w W)=>clone_any (hlr.below h1 hW) hl);have IP:=Hd (fun W (hW:Below w.heap.size w W)=>isProposer_any (h.below hW) s.id m.height m.round hn hh hr);have HLen:=Hd hl;obtain ⟨hr0,hr1⟩:=hr;clear hcap hrow h hlr hl h1;unfold encM iv pv at *;go_enter Tryz.func112,Tryz.ntmps112
 go_upto_region 1 with (fail)
 obtain ⟨wa,hwa⟩:∃wa,wa=((w.alloc (.cells #[.int .i64 m.kind,.int .i64 m.frm,.int .i64 m.to,.int .i64 m.height,.int .i64 m.round,.int .i64 m.valid,.string m.dig,.slice ao m.list.length cap] 36)).alloc (.cells #[.int .i64 0,.int .i64 0,.int .i64 0,.int .i64 0,.int .i64 0,.int .i64 0,.string (ByteArray.mk #[]),.slice none 0 0] 36)):=⟨_,rfl⟩;have HBA:=Hd (show Below w.heap.size w wa from by rw [hwa];exact ((Below.refl _ _).alloc (Nat.le_refl _) _).alloc (by simp) _);have HMR:=Hd (show wa.heap[w.heap.size]?=some (.cells #[.int .i64 m.kind,.int .i64 m.frm,.int .i64 m.to,.int .i64 m.height,.int .i64 m.round,.int .i64 m.valid,.string m.dig,.slice ao m.list.length cap] 36 (0,0)) from by rw [hwa,Below.heap_alloc _ _ _ (by simp)];exact World.alloc_heap_new w _);have HRR:=Hd (show wa.heap[w.heap.size+1]?=some (.cells #[.int .i64 0,.int .i64 0,.int .i64 0,.int .i64 0,.int .i64 0,.int .i64 0,.string (ByteArray.mk #[]),.slice none 0 0] 36 (0,0)) from by
  rw [hwa];have:=World.alloc_heap_new (w.alloc (.cells #[.int .i64 m.kind,.int .i64 m.frm,.int .i64 m.to,.int .i64 m.height,.int .i64 m.round,.int .i64 m.valid,.string m.dig,.slice ao m.list.length cap] 36)) (.cells #[.int .i64 0,.int .i64 0,.int .i64 0,.int .i64 0,.int .i64 0,.int .i64 0,.string (ByteArray.mk #[]),.slice none 0 0] 36);rwa [World.size_alloc] at this)
 rw [←hwa];clear hwa;obtain ⟨rb,hrb⟩:∃rb,rb=w.heap.size+1:=⟨_,rfl⟩;have HRBB:=Hd hrb;rw [←hrb] at HRR ⊢;clear hrb;obtain ⟨mb,hmb⟩:∃mb,mb=w.heap.size:=⟨_,rfl⟩;have HMB:=Hd hmb;rw [←hmb] at HMR ⊢;clear hmb;go_cut [] (fun wc=>∃ao2 cap2,wc.heap[mb]?=some (.cells #[.int .i64 m.kind,.int .i64 m.frm,.int .i64 m.to,.int .i64 m.height,.int .i64 m.round,.int .i64 (-1),.string m.dig,.slice ao2 l.length cap2] 36 (0,0))∧wc.heap[rb]?=some (.cells #[.int .i64 0,.int .i64 0,.int .i64 0,.int .i64 0,.int .i64 0,.int .i64 0,.string (ByteArray.mk #[]),.slice none 0 0] 36 (0,0))∧LRow (New w wc) wc (.slice ao2 l.length cap2) l∧Below w.heap.size w wc)
 case first=>
  go_wp2_with (go_at_call 67;refine (CL.out _ HBA.out).mono ?_;rintro e w2 ⟨u,rfl,hrow,hb⟩;obtain ⟨ao2,cap2,rfl,hcap2,hrw2⟩:=hrow;have HL2:=Hd (show LRow (New wa w2) w2 (.slice ao2 l.length cap2) l from ⟨ao2,cap2,rfl,hcap2,hrw2⟩);have HB2:=Hd hb;clear hb hcap2 hrw2;have HM2:=Hd ((HB2.out.block mb (gE HMR.out).1).trans HMR.out);have k5:=cell_of_row w2 mb 5 _ _ _ HM2.out;have k7:=cell_of_row w2 mb 7 _ _ _ HM2.out;have kf:=fun o=>frozen_of_row w2 mb o _ _ HM2.out;simp at k5 k7)
  go_meet;have hml:mb<wa.heap.size:=(gE HMR.out).1;have hs2:=HBA.out.size;refine ⟨ao2,cap2,heap_setC (heap_setC HM2.out _) _,?_,?_,?_⟩
  ·rw [Below.heap_setCell _ ⟨mb,7,none⟩ _ rb (show rb≠mb by have:=HRBB.out;have:=HMB.out;omega),Below.heap_setCell _ ⟨mb,5,none⟩ _ rb (show rb≠mb by have:=HRBB.out;have:=HMB.out;omega)];exact (HB2.out.block rb (gE HRR.out).1).trans HRR.out
  ·refine (HL2.out.kept (fun g cur fr hr hc=>?_)).mono (fun k hk=>⟨Nat.le_trans hs2 hk.1,by have:=hk.2;simpa [World.setCell] using this⟩);have hg:g≠mb:=by have:=hr.1;omega
   rw [Below.heap_setCell _ ⟨mb,7,none⟩ _ g hg,Below.heap_setCell _ ⟨mb,5,none⟩ _ g hg]
  exact ((HBA.out.trans (HB2.out.mono hs2)).setCell (by rw [HMB.out];exact Nat.le_refl _) _).setCell (by rw [HMB.out];exact Nat.le_refl _) _
 case rest=>
 obtain ⟨ao2,cap2,hmd,hrd,hld,hbd⟩:=hcut;obtain ⟨w3,rfl⟩:∃w3:World,w3=wc:=⟨_,rfl⟩;have HN3:=Hd (H.out.below hbd);have x16:=HN3.out.nc.c16;have y3:=cell_of_row w3 mb 3 _ _ _ hmd;have y4:=cell_of_row w3 mb 4 _ _ _ hmd;simp at y3 y4;obtain ⟨wd,hwd⟩:∃wd,wd=w3.drew:=⟨_,rfl⟩;have HMD:=Hd (show wd.heap[mb]?=some (.cells #[.int .i64 m.kind,.int .i64 m.frm,.int .i64 m.to,.int .i64 m.height,.int .i64 m.round,.int .i64 (-1),.string m.dig,.slice ao2 l.length cap2] 36 (0,0)) from by rw [hwd];exact hmd);have HRD:=Hd (show wd.heap[rb]?=some (.cells #[.int .i64 0,.int .i64 0,.int .i64 0,.int .i64 0,.int .i64 0,.int .i64 0,.string (ByteArray.mk #[]),.slice none 0 0] 36 (0,0)) from by rw [hwd];exact hrd);have HLD:=Hd (show LRow (New w wd) wd (.slice ao2 l.length cap2) l from by rw [hwd];exact hld.kept (fun g cur fr _ _=>rfl));have HBD:=Hd (show Below w.heap.size w wd from by rw [hwd];exact hbd.drew);have IP1:=Hd (IP.out wd HBD.out);clear hmd hrd hld hbd HBA HMR HRR CL IP;obtain ⟨pr,hpr⟩:∃pr,pr=s.proposer s.id m.height m.round:=⟨_,rfl⟩;have HCR:=Hd (show s.claimRound m.height m.round=if pr=false then m.round else if m.round<99 then m.round+1 else m.round - 1 from by rw [hpr];rfl);rw [←hpr] at IP1;clear hpr;go_upto_region 3 with (fail)
 go_cut [15] (fun t wc=>t = .bool (!pr)∧wc=wd)
 case first=>
  go_region_law (go_simp;go_at_call 76;rw [←hwd];(with_reducible refine IP1.out.mono ?_);rintro e wq ⟨rfl,hwq⟩;rw [hwq];clear hwq wq)
  all_goals (go_wp2_with fail;go_meet;exact ⟨rfl,hwd.symm⟩)
 case rest=>
 obtain ⟨rfl,rfl⟩:=hcut;obtain ⟨wd,rfl⟩:∃wd:World,wd=wc:=⟨_,rfl⟩;clear x16 y3 y4 hwd IP1;rcases pr with _ | _
 ·have HE:=Hd (show s.claimRound m.height m.round=m.round from by rw [HCR.out];rfl);go_upto_region 6 with (fail)
  have e0:=cell_of_row wd mb 0 _ _ _ HMD.out;have e1:=cell_of_row wd mb 1 _ _ _ HMD.out;have e2:=cell_of_row wd mb 2 _ _ _ HMD.out;have e3:=cell_of_row wd mb 3 _ _ _ HMD.out;have e4:=cell_of_row wd mb 4 _ _ _ HMD.out;have e5:=cell_of_row wd mb 5 _ _ _ HMD.out;have e6:=cell_of_row wd mb 6 _ _ _ HMD.out;have e7:=cell_of_row wd mb 7 _ _ _ HMD.out;have g0:=cell_of_row wd rb 0 _ _ _ HRD.out;have g1:=cell_of_row wd rb 1 _ _ _ HRD.out;have g2:=cell_of_row wd rb 2 _ _ _ HRD.out;have g3:=cell_of_row wd rb 3 _ _ _ HRD.out;have g4:=cell_of_row wd rb 4 _ _ _ HRD.out;have g5:=cell_of_row wd rb 5 _ _ _ HRD.out;have g6:=cell_of_row wd rb 6 _ _ _ HRD.out;have g7:=cell_of_row wd rb 7 _ _ _ HRD.out;have gf:=fun o=>frozen_of_row wd rb o _ _ HRD.out;simp at e0 e1 e2 e3 e4 e5 e6 e7 g0 g1 g2 g3 g4 g5 g6 g7;go_wp2
  have hrow:=set8 HRD.out (.int .i64 m.kind) (.int .i64 m.frm) (.int .i64 m.to) (.int .i64 m.height) (.int .i64 m.round) (.int .i64 (-1)) (.string m.dig) (.slice ao2 l.length cap2);have hbel:=below8 HBD.out (show w.heap.size≤rb by rw [HRBB.out];omega) (.int .i64 m.kind) (.int .i64 m.frm) (.int .i64 m.to) (.int .i64 m.height) (.int .i64 m.round) (.int .i64 (-1)) (.string m.dig) (.slice ao2 l.length cap2);obtain ⟨wf,hwf⟩:∃wf,wf=((((((((wd.setCell ⟨rb,0,none⟩ (.int .i64 m.kind)).setCell ⟨rb,1,none⟩ (.int .i64 m.frm)).setCell ⟨rb,2,none⟩ (.int .i64 m.to)).setCell ⟨rb,3,none⟩ (.int .i64 m.height)).setCell ⟨rb,4,none⟩ (.int .i64 m.round)).setCell ⟨rb,5,none⟩ (.int .i64 (-1))).setCell ⟨rb,6,none⟩ (.string m.dig)).setCell ⟨rb,7,none⟩ (.slice ao2 l.length cap2)):=⟨_,rfl⟩;rw [←hwf] at hrow hbel ⊢;have hoth:∀k,k≠rb→wf.heap[k]?=wd.heap[k]?:=fun k hk=>by rw [hwf];exact oth8 (.int .i64 m.kind) (.int .i64 m.frm) (.int .i64 m.to) (.int .i64 m.height) (.int .i64 m.round) (.int .i64 (-1)) (.string m.dig) (.slice ao2 l.length cap2) hk
  refine bodyPost_ret (results_cell_row rfl _ _ rb _ _ _ _ rfl hrow Tryz.underlying36 rfl (by kernel_rfl)) rfl ⟨.slice ao2 l.length cap2,by rw [HE.out],?_,hbel⟩;refine (HLD.out.kept (fun g cur fr hr hc=>hoth g (fun e=>by
   subst e;rw [HRD.out] at hc;injection hc with hc;injection hc with _ hc _;exact absurd hc (by decide)))).mono (fun k hk=>⟨hk.1,?_⟩)
  have:wf.heap.size=wd.heap.size:=by rw [hwf];simp [World.setCell]
  rw [this];exact hk.2
 have x4:=cell_of_row wd mb 4 _ _ _ HMD.out;simp at x4;by_cases h99:m.round<99
 ·have HE:=Hd (show s.claimRound m.height m.round=m.round+1 from by rw [HCR.out,if_neg (by simp),if_pos h99]);have x4:=cell_of_row wd mb 4 _ _ _ HMD.out;have xf:=fun o=>frozen_of_row wd mb o _ _ HMD.out;simp at x4;go_upto_region 6 with (fail)
  obtain ⟨we,hwe⟩:∃we,we=wd.setCell ⟨mb,4,none⟩ (.int .i64 (m.round+1)):=⟨_,rfl⟩;have hme:we.heap[mb]?=some (.cells #[.int .i64 m.kind,.int .i64 m.frm,.int .i64 m.to,.int .i64 m.height,.int .i64 (m.round+1),.int .i64 (-1),.string m.dig,.slice ao2 l.length cap2] 36 (0,0)):=by rw [hwe];exact heap_setC HMD.out _
  have hoe:∀k,k≠mb→we.heap[k]?=wd.heap[k]?:=fun k hk=>by rw [hwe];exact Below.heap_setCell wd ⟨mb,4,none⟩ _ k hk
  have hse:we.heap.size=wd.heap.size:=by rw [hwe];simp [World.setCell]
  have hbe:Below w.heap.size w we:=by rw [hwe];exact HBD.out.setCell (by rw [HMB.out];exact Nat.le_refl _) _
  have hle:LRow (New w we) we (.slice ao2 l.length cap2) l:=(HLD.out.kept (fun g cur fr hr hc=>hoe g (fun e=>by
   subst e;rw [HMD.out] at hc;injection hc with hc;injection hc with _ hc _;exact absurd hc (by decide)))).mono (fun k hk=>⟨hk.1,by rw [hse];exact hk.2⟩)
  have hre:we.heap[rb]?=some (.cells #[.int .i64 0,.int .i64 0,.int .i64 0,.int .i64 0,.int .i64 0,.int .i64 0,.string (ByteArray.mk #[]),.slice none 0 0] 36 (0,0)):=(hoe rb (by rw [HRBB.out,HMB.out];omega)).trans HRD.out;rw [←hwe];clear hwe hoe hse x4 xf HMD HRD HBD HLD;have HMD:=Hd hme;have HRD:=Hd hre;have HBD:=Hd hbe;have HLD:=Hd hle;clear hme hre hbe hle;have e0:=cell_of_row we mb 0 _ _ _ HMD.out;have e1:=cell_of_row we mb 1 _ _ _ HMD.out;have e2:=cell_of_row we mb 2 _ _ _ HMD.out;have e3:=cell_of_row we mb 3 _ _ _ HMD.out;have e4:=cell_of_row we mb 4 _ _ _ HMD.out;have e5:=cell_of_row we mb 5 _ _ _ HMD.out;have e6:=cell_of_row we mb 6 _ _ _ HMD.out;have e7:=cell_of_row we mb 7 _ _ _ HMD.out;have g0:=cell_of_row we rb 0 _ _ _ HRD.out;have g1:=cell_of_row we rb 1 _ _ _ HRD.out;have g2:=cell_of_row we rb 2 _ _ _ HRD.out;have g3:=cell_of_row we rb 3 _ _ _ HRD.out;have g4:=cell_of_row we rb 4 _ _ _ HRD.out;have g5:=cell_of_row we rb 5 _ _ _ HRD.out;have g6:=cell_of_row we rb 6 _ _ _ HRD.out;have g7:=cell_of_row we rb 7 _ _ _ HRD.out;have gf:=fun o=>frozen_of_row we rb o _ _ HRD.out;simp at e0 e1 e2 e3 e4 e5 e6 e7 g0 g1 g2 g3 g4 g5 g6 g7;go_wp2
  have hrow:=set8 HRD.out (.int .i64 m.kind) (.int .i64 m.frm) (.int .i64 m.to) (.int .i64 m.height) (.int .i64 (m.round+1)) (.int .i64 (-1)) (.string m.dig) (.slice ao2 l.length cap2);have hbel:=below8 HBD.out (show w.heap.size≤rb by rw [HRBB.out];omega) (.int .i64 m.kind) (.int .i64 m.frm) (.int .i64 m.to) (.int .i64 m.height) (.int .i64 (m.round+1)) (.int .i64 (-1)) (.string m.dig) (.slice ao2 l.length cap2);obtain ⟨wf,hwf⟩:∃wf,wf=((((((((we.setCell ⟨rb,0,none⟩ (.int .i64 m.kind)).setCell ⟨rb,1,none⟩ (.int .i64 m.frm)).setCell ⟨rb,2,none⟩ (.int .i64 m.to)).setCell ⟨rb,3,none⟩ (.int .i64 m.height)).setCell ⟨rb,4,none⟩ (.int .i64 (m.round+1))).setCell ⟨rb,5,none⟩ (.int .i64 (-1))).setCell ⟨rb,6,none⟩ (.string m.dig)).setCell ⟨rb,7,none⟩ (.slice ao2 l.length cap2)):=⟨_,rfl⟩;rw [←hwf] at hrow hbel ⊢;have hoth:∀k,k≠rb→wf.heap[k]?=we.heap[k]?:=fun k hk=>by rw [hwf];exact oth8 (.int .i64 m.kind) (.int .i64 m.frm) (.int .i64 m.to) (.int .i64 m.height) (.int .i64 (m.round+1)) (.int .i64 (-1)) (.string m.dig) (.slice ao2 l.length cap2) hk
  refine bodyPost_ret (results_cell_row rfl _ _ rb _ _ _ _ rfl hrow Tryz.underlying36 rfl (by kernel_rfl)) rfl ⟨.slice ao2 l.length cap2,by rw [HE.out],?_,hbel⟩;refine (HLD.out.kept (fun g cur fr hr hc=>hoth g (fun e=>by
   subst e;rw [HRD.out] at hc;injection hc with hc;injection hc with _ hc _;exact absurd hc (by decide)))).mono (fun k hk=>⟨hk.1,?_⟩)
  have:wf.heap.size=we.heap.size:=by rw [hwf];simp [World.setCell]
  rw [this];exact hk.2
 have HE:=Hd (show s.claimRound m.height m.round=m.round - 1 from by rw [HCR.out,if_neg (by simp),if_neg h99]);have x4:=cell_of_row wd mb 4 _ _ _ HMD.out;have xf:=fun o=>frozen_of_row wd mb o _ _ HMD.out;simp at x4;go_upto_region 6 with (fail)
 obtain ⟨we,hwe⟩:∃we,we=wd.setCell ⟨mb,4,none⟩ (.int .i64 (m.round - 1)):=⟨_,rfl⟩;have hme:we.heap[mb]?=some (.cells #[.int .i64 m.kind,.int .i64 m.frm,.int .i64 m.to,.int .i64 m.height,.int .i64 (m.round - 1),.int .i64 (-1),.string m.dig,.slice ao2 l.length cap2] 36 (0,0)):=by rw [hwe];exact heap_setC HMD.out _
 have hoe:∀k,k≠mb→we.heap[k]?=wd.heap[k]?:=fun k hk=>by rw [hwe];exact Below.heap_setCell wd ⟨mb,4,none⟩ _ k hk
 have hse:we.heap.size=wd.heap.size:=by rw [hwe];simp [World.setCell]
 have hbe:Below w.heap.size w we:=by rw [hwe];exact HBD.out.setCell (by rw [HMB.out];exact Nat.le_refl _) _
 have hle:LRow (New w we) we (.slice ao2 l.length cap2) l:=(HLD.out.kept (fun g cur fr hr hc=>hoe g (fun e=>by
  subst e;rw [HMD.out] at hc;injection hc with hc;injection hc with _ hc _;exact absurd hc (by decide)))).mono (fun k hk=>⟨hk.1,by rw [hse];exact hk.2⟩)
 have hre:we.heap[rb]?=some (.cells #[.int .i64 0,.int .i64 0,.int .i64 0,.int .i64 0,.int .i64 0,.int .i64 0,.string (ByteArray.mk #[]),.slice none 0 0] 36 (0,0)):=(hoe rb (by rw [HRBB.out,HMB.out];omega)).trans HRD.out;rw [←hwe];clear hwe hoe hse x4 xf HMD HRD HBD HLD;have HMD:=Hd hme;have HRD:=Hd hre;have HBD:=Hd hbe;have HLD:=Hd hle;clear hme hre hbe hle;have e0:=cell_of_row we mb 0 _ _ _ HMD.out;have e1:=cell_of_row we mb 1 _ _ _ HMD.out;have e2:=cell_of_row we mb 2 _ _ _ HMD.out;have e3:=cell_of_row we mb 3 _ _ _ HMD.out;have e4:=cell_of_row we mb 4 _ _ _ HMD.out;have e5:=cell_of_row we mb 5 _ _ _ HMD.out;have e6:=cell_of_row we mb 6 _ _ _ HMD.out;have e7:=cell_of_row we mb 7 _ _ _ HMD.out;have g0:=cell_of_row we rb 0 _ _ _ HRD.out;have g1:=cell_of_row we rb 1 _ _ _ HRD.out;have g2:=cell_of_row we rb 2 _ _ _ HRD.out;have g3:=cell_of_row we rb 3 _ _ _ HRD.out;have g4:=cell_of_row we rb 4 _ _ _ HRD.out;have g5:=cell_of_row we rb 5 _ _ _ HRD.out;have g6:=cell_of_row we rb 6 _ _ _ HRD.out;have g7:=cell_of_row we rb 7 _ _ _ HRD.out;have gf:=fun o=>frozen_of_row we rb o _ _ HRD.out;simp at e0 e1 e2 e3 e4 e5 e6 e7 g0 g1 g2 g3 g4 g5 g6 g7;go_wp2
 have hrow:=set8 HRD.out (.int .i64 m.kind) (.int .i64 m.frm) (.int .i64 m.to) (.int .i64 m.height) (.int .i64 (m.round - 1)) (.int .i64 (-1)) (.string m.dig) (.slice ao2 l.length cap2);have hbel:=below8 HBD.out (show w.heap.size≤rb by rw [HRBB.out];omega) (.int .i64 m.kind) (.int .i64 m.frm) (.int .i64 m.to) (.int .i64 m.height) (.int .i64 (m.round - 1)) (.int .i64 (-1)) (.string m.dig) (.slice ao2 l.length cap2);obtain ⟨wf,hwf⟩:∃wf,wf=((((((((we.setCell ⟨rb,0,none⟩ (.int .i64 m.kind)).setCell ⟨rb,1,none⟩ (.int .i64 m.frm)).setCell ⟨rb,2,none⟩ (.int .i64 m.to)).setCell ⟨rb,3,none⟩ (.int .i64 m.height)).setCell ⟨rb,4,none⟩ (.int .i64 (m.round - 1))).setCell ⟨rb,5,none⟩ (.int .i64 (-1))).setCell ⟨rb,6,none⟩ (.string m.dig)).setCell ⟨rb,7,none⟩ (.slice ao2 l.length cap2)):=⟨_,rfl⟩;rw [←hwf] at hrow hbel ⊢;have hoth:∀k,k≠rb→wf.heap[k]?=we.heap[k]?:=fun k hk=>by rw [hwf];exact oth8 (.int .i64 m.kind) (.int .i64 m.frm) (.int .i64 m.to) (.int .i64 m.height) (.int .i64 (m.round - 1)) (.int .i64 (-1)) (.string m.dig) (.slice ao2 l.length cap2) hk
 refine bodyPost_ret (results_cell_row rfl _ _ rb _ _ _ _ rfl hrow Tryz.underlying36 rfl (by kernel_rfl)) rfl ⟨.slice ao2 l.length cap2,by rw [HE.out],?_,hbel⟩;refine (HLD.out.kept (fun g cur fr hr hc=>hoth g (fun e=>by
  subst e;rw [HRD.out] at hc;injection hc with hc;injection hc with _ hc _;exact absurd hc (by decide)))).mono (fun k hk=>⟨hk.1,?_⟩)
 have:wf.heap.size=we.heap.size:=by rw [hwf];simp [World.setCell]
 rw [this];exact hk.2
end
end
section
open Go.RowKit
def flatM (sls:List Value) (ms:List MsgB):List Value:=(sls.zip ms).flatMap fun q=>(encM q.2 q.1).toList
def NewZ (Z:Nat→Prop) (w W:World) (k:Nat):Prop:=New w W k∧¬Z k
def OutR (Z:Nat→Prop) (w W:World) (v:Value) (ms:List MsgB):Prop:=
 ∃sls,All2 (fun sl m=>LRow (NewZ Z w W) W sl m.list) sls ms∧W.ownsRow w.heap.size 36 8 v ms.length (flatM sls ms)∧∀g,v.ownBlock=some g→¬Z g
structure Kp (W W':World):Prop where
 size:W.heap.size≤W'.heap.size
 block:∀(k:Nat) (o:Obj),W.heap[k]?=some o→(∀cur fr,o≠Obj.cells cur 36 fr)→W'.heap[k]?=some o
theorem Kp.refl (W:World):Kp W W:=⟨Nat.le_refl _,fun _ _ h _=>h⟩
theorem Kp.trans {X Y Z:World} (h:Kp X Y) (h2:Kp Y Z):Kp X Z:=⟨Nat.le_trans h.size h2.size,fun k o hk ho=>h2.block k o (h.block k o hk ho) ho⟩
theorem Kp.of_below {W W':World} (h:Below W.heap.size W W'):Kp W W':=⟨h.size,fun k o hk _=>(h.block k (gE hk).1).trans hk⟩
theorem flatM_app {a c:List Value} {b d:List MsgB} (h:a.length=b.length):flatM (a ++ c) (b ++ d)=flatM a b ++ flatM c d:=by
 unfold flatM;rw [List.zip_append h,List.flatMap_append]
theorem All2.app {α β:Type} {r:α→β→Prop} {l l2:List α} {m m2:List β} (h:All2 r l m) (h2:All2 r l2 m2):All2 r (l ++ l2) (m ++ m2):=by
 induction h with
 | nil=>exact h2
 | cons h1 _ ih=>exact .cons h1 ih
theorem OutR.nil (Z:Nat→Prop) (w W:World):OutR Z w W (.slice none 0 0) []:=⟨[],.nil,World.ownsRow_nil _ _ _ _,fun g hg=>by simp [Value.ownBlock] at hg⟩
theorem row_mem {W:World} {b:Nat} {v:Value} {n:Nat} {xs:List Value} (h:W.ownsRow b 36 8 v n xs) (g:Nat) (hg:v.ownBlock=some g):b≤g∧∃cur,W.heap[g]?=some (.cells cur 36 (0,0)):=by
 rcases h.2 with ⟨rfl,_⟩ | ⟨g0,cap,cur,rfl,h1,h2,_⟩
 ·simp [Value.ownBlock] at hg
 have:g0=g:=by simpa [Value.ownBlock] using hg
 subst this;exact ⟨h1,cur,h2⟩
theorem OutR.kept {Z:Nat→Prop} {w W W':World} {v:Value} {ms:List MsgB} (h:OutR Z w W v ms) (hs:W.heap.size≤W'.heap.size) (hk:∀k,w.heap.size≤k→k<W.heap.size→¬Z k→W'.heap[k]?=W.heap[k]?):OutR Z w W' v ms:=by
 obtain ⟨sls,h1,h2,h3⟩:=h;refine ⟨sls,h1.mono (fun a b q=>(q.kept (fun g cur fr hr hc=>hk g hr.1.1 hr.1.2 hr.2)).mono (fun k hk=>⟨⟨hk.1.1,Nat.lt_of_lt_of_le hk.1.2 hs⟩,hk.2⟩)),owns_blk h2 (fun g cur hg hc=>?_),h3⟩;exact hk g (row_mem h2 g hg).1 (gE hc).1 (h3 g hg)
theorem OutR.later {Z:Nat→Prop} {w W W':World} {v:Value} {ms:List MsgB} (h:OutR Z w W v ms) (hb:Below W.heap.size W W'):OutR Z w W' v ms:=h.kept hb.size (fun k _ hk _=>hb.block k hk)
theorem OutR.other {Z Z':Nat→Prop} {w W:World} {v:Value} {ms:List MsgB} (h:OutR Z w W v ms) (hz:∀k,Z' k→w.heap.size≤k→k<W.heap.size→Z k):OutR Z' w W v ms:=by
 obtain ⟨sls,h1,h2,h3⟩:=h;refine ⟨sls,h1.mono (fun a b q=>q.mono (fun k hk=>⟨hk.1,fun z=>hk.2 (hz k z hk.1.1 hk.1.2)⟩)),h2,fun g hg z=>?_⟩;obtain ⟨a,cur,b⟩:=row_mem h2 g hg;exact h3 g hg (hz g z a (gE b).1)
theorem out_push {Z:Nat→Prop} {w W W2 w7:World} {v v2:Value} {sls sl2 XS news:List Value} {ms nw:List MsgB} {n:Nat} (hA1:All2 (fun sl m=>LRow (NewZ Z w W) W sl m.list) sls ms)
  (ho:W.ownsRow w.heap.size 36 8 v ms.length XS) (hz:∀g,v.ownBlock=some g→¬Z g) (hb:Below W.heap.size W W2) (hw:Below w.heap.size w W) (hzW:∀k,Z k→k<W2.heap.size)
  (hA2:All2 (fun sl m=>LRow (NewZ Z w W2) W2 sl m.list) sl2 nw) (own:w7.ownsRow w.heap.size 36 8 v2 n (XS ++ news)) (hX:XS=flatM sls ms) (hN:news=flatM sl2 nw) (hn:n=ms.length+nw.length)
  (gr:W2.grownBy w7 v.ownBlock) (hloc:∀g,v2.ownBlock=some g→v.ownBlock=some g∨W2.heap.size≤g):OutR Z w w7 v2 (ms ++ nw)∧Kp W w7∧Below w.heap.size w w7:=by
 subst hX hN hn;have hm:=row_mem ho;have hs:=hb.size;have hs7:=gr.size;have hkeep:∀(k:Nat) (o:Obj),W2.heap[k]?=some o→(∀cur fr,o≠Obj.cells cur 36 fr)→w7.heap[k]?=some o:=fun k o hk hne=>by
  rw [←hk];refine gr.block k (gE hk).1 (fun e=>?_);obtain ⟨_,cur,hc⟩:=hm k e.symm;have h3:=(hb.block k (gE hc).1).trans hc;rw [hk] at h3;exact hne cur (0,0) (by injection h3)
 refine ⟨⟨sls ++ sl2,?_,?_,?_⟩,⟨Nat.le_trans hs hs7,fun k o hk hne=>hkeep k o ((hb.block k (gE hk).1).trans hk) hne⟩,?_⟩
 ·have k2:All2 (fun sl m=>LRow (NewZ Z w W2) W2 sl m.list) (sls ++ sl2) (ms ++ nw):=(hA1.mono (fun a b q=>(q.kept (fun g cur fr hr hc=>hb.block g hr.1.2)).mono (fun k hk=>⟨⟨hk.1.1,Nat.lt_of_lt_of_le hk.1.2 hs⟩,hk.2⟩))).app hA2;exact k2.mono (fun a b q=>(q.kept (fun g cur fr hr hc=>(hkeep g _ hc (fun c f e=>by injection e with _ e _;exact absurd e (by decide))).trans hc.symm)).mono (fun k hk=>⟨⟨hk.1.1,Nat.lt_of_lt_of_le hk.1.2 hs7⟩,hk.2⟩))
 ·rw [flatM_app hA1.len,List.length_append];exact own
 ·intro g hg z;rcases hloc g hg with q | q
  ·exact hz g q z
  have:=hzW g z;omega
 exact grown_own (hw.trans (hb.mono hw.size)) (Nat.le_refl _) (ownsRow_blk ho (fun g hg hl=>hb.block g hl)) gr
theorem LRow.newer {w W W2:World} {v:Value} {l:List ByteArray} (h:LRow (New w W) W v l) (hb:Below W.heap.size W W2):LRow (New w W2) W2 v l:=
 (h.kept (fun g cur fr hr _=>hb.block g hr.2)).mono (fun k hk=>⟨hk.1,Nat.lt_of_lt_of_le hk.2 hb.size⟩)
theorem RawMap.clear {P:Program} {T K E:TypeId} (hT:P.underlying T=some (.map K E)) {w:World} {b:Nat} {L:List (Value×Value)} (h:RawMap w b L) (ty:TypeId) :
  ∃o,(Builtin.clear_ #[T] ty #[.map (some b)]).run P w = .ok (.tuple #[]) (w.putObj b o)∧∀W:World,W.heap[b]?=some o→RawMap W b []:=by
 obtain ⟨es,clk,hb,_,hp,hc⟩:=h;refine ⟨.map #[] clk,?_,fun W hW=>⟨#[],clk,hW,rfl,List.Pairwise.nil,by simp⟩⟩;simp [Builtin.clear_,run_underlying hT,MapKept.run_getObj_map hb,MapKept.run_setObj_map _ hb,World.putObj]
theorem NodeP.clear_ques {R:Nat→Prop} {w:World} {x:Nat} {p:Ptr} {s:StB} (h:NodeP R w x p s) (ty:TypeId) :
  ∃o,(Builtin.clear_ #[106] ty #[.map (some p.ques)]).run Tryz.prog w = .ok (.tuple #[]) (w.putObj p.ques o)∧NodeP R (w.putObj p.ques o) x p {s with ques:=[]}∧Chg R w (w.putObj p.ques o):=by
 obtain ⟨o,h1,h2⟩:=h.maps.ques.clear (P:=Tryz.prog) Tryz.underlying106 ty;have h3:=h2 _ (World.putObj_heap_same (o:=o) h.maps.ques.lt);refine ⟨o,h1,h.put_ques (fun k _ hk=>World.putObj_heap_other hk) (by simp [World.putObj]) (by simpa using h3),Chg.put _ _ _ (h.maps.own _ (by simp [Ptr.maps]))⟩
theorem OutR.opened {Z:Nat→Prop} {w W:World} {v:Value} {ms:List MsgB} (h:OutR Z w W v ms) (hw:Below w.heap.size w W):∃XS:List Value,
  (∀W2,Below W.heap.size W W2→W2.ownsRow w.heap.size 36 8 v ms.length XS) ∧
  (∀(W2 w7:World) (v2:Value) (n:Nat) (news sl2:List Value) (nw:List MsgB),Below W.heap.size W W2→(∀k,Z k→k<W2.heap.size)→All2 (fun sl m=>LRow (NewZ Z w W2) W2 sl m.list) sl2 nw →
   w7.ownsRow w.heap.size 36 8 v2 n (XS ++ news)→news=flatM sl2 nw→n=ms.length+nw.length→W2.grownBy w7 v.ownBlock→(∀g,v2.ownBlock=some g→v.ownBlock=some g∨W2.heap.size≤g)→OutR Z w w7 v2 (ms ++ nw)∧Kp W w7∧Below w.heap.size w w7):=by
 obtain ⟨sls,h1,h2,h3⟩:=h;refine ⟨flatM sls ms,fun W2 hb=>ownsRow_blk h2 (fun g _ hl=>hb.block g hl),fun W2 w7 v2 n news sl2 nw hb hz hA own hN hn gr hloc=>?_⟩;exact out_push h1 h2 h3 hb hw hz hA own rfl hN hn gr hloc
theorem flatM_one (sl:Value) (m:MsgB):(encM m sl).toList=flatM [sl] [m]:=by simp [flatM]
end
section
open Go.RowKit
theorem encM_size (m:MsgB) (v:Value):(encM m v).toList.length=8:=rfl
theorem flatM_len:∀{sls:List Value} {ms:List MsgB},sls.length=ms.length→(flatM sls ms).length=ms.length * 8
 | [],[],_=>rfl
 | a :: sls,m :: ms,h=>by
  have:=flatM_len (sls:=sls) (ms:=ms) (by simpa using h);unfold flatM at this ⊢;rw [List.zip_cons_cons,List.flatMap_cons,List.length_append,this,encM_size,List.length_cons];omega
theorem flatM_ones {r:Nat→Prop} {W:World}:∀{sls:List Value} {ms:List MsgB},All2 (fun sl m=>LRow r W sl m.list) sls ms→∀u∈flatM sls ms,u.oneCell'=true
 | _,_,.nil=>by intro u hu;simp [flatM] at hu
 | _,_,.cons h1 h2=>by
  intro u hu;unfold flatM at hu;rw [List.zip_cons_cons,List.flatMap_cons,List.mem_append] at hu;rcases hu with hu | hu
  ·obtain ⟨ao,cap,e,_⟩:=h1;simp only at hu;rw [e] at hu;exact encM_one _ _ _ _ u hu
  exact flatM_ones h2 u hu
def cutW (n:Nat) (W:World):World:={W with heap:=W.heap.extract 0 n}
theorem cutW_size {n:Nat} {W:World} (h:n≤W.heap.size):(cutW n W).heap.size=n:=by simp [cutW,Nat.min_eq_left h]
theorem cutW_below {n:Nat} {W:World} (h:n≤W.heap.size):Below n (cutW n W) W:=
 ⟨rfl,rfl,rfl,by rw [cutW_size h];exact h,fun k hk=>by simp [cutW,Array.getElem?_extract,hk];omega⟩
theorem OutR.rebase {Z:Nat→Prop} {w w2 W:World} {v:Value} {ms:List MsgB} (h:OutR Z w W v ms) (hs:w2.heap.size=w.heap.size):OutR Z w2 W v ms:=by
 obtain ⟨sls,h1,h2,h3⟩:=h;exact ⟨sls,h1.mono (fun a b q=>q.mono (fun k hk=>⟨⟨by rw [hs];exact hk.1.1,hk.1.2⟩,hk.2⟩)),by rw [hs];exact h2,h3⟩
section
variable {Z:Nat→Prop} {w wr W2:World} {v:Value} {ms nw:List MsgB} {sl2:List Value} {o:Oper} {a:Act} {Q:Exit→Act→World→Prop}
theorem wp_push {K:Act→World→Prop} (s x:Operand) (ho:o.op = .call {callee:=.builtin .append,args:=#[s,x],argTypes:=#[33,33]})
  (hs:a.eval s=v) (hO:OutR Z w wr v ms) (hB:Below w.heap.size w wr) (hE:Below wr.heap.size wr W2) (hz:∀k,Z k→k<W2.heap.size)
  (ad:Addr) (c:Nat) (hx:a.eval x = .slice (some ad) nw.length c) (hA:All2 (fun sl m=>LRow (NewZ Z w W2) W2 sl m.list) sl2 nw) (hn:∀j u,(flatM sl2 nw)[j]?=some u→W2.cell? (ad.add j)=some u)
  (hlen:ms.length+nw.length≤100000000) (h:∀v' w',OutR Z w w' v' (ms ++ nw)→Kp wr w'→Below w.heap.size w w'→(∀k,Z k→w'.heap[k]?=W2.heap[k]?)→K (a.put o.dst v') w'):o.wp Tryz.prog a W2 K Q:=by
 obtain ⟨XS,own,fin⟩:=hO.opened hB;obtain ⟨_,_,_,hzz⟩:=id hO;obtain ⟨ti,hi,hz0,hz1,hz2⟩:=info_parts Tryz.infoMsg;refine wp_append_new s x 33 ho w.heap.size 36 ti zM 8 88 Tryz.underlying33 hi hz0 hz1 hz2 (by rfl) (by decide) v ms.length XS hs (own W2 hE) ad nw.length c (flatM sl2 nw) hx (flatM_len hA.len) hn (flatM_ones hA) (by unfold maxLen;omega) (by omega) (Nat.le_trans hB.size hE.size) ?_;intro v' w' o2 gr hl;obtain ⟨r1,r2,r3⟩:=fin W2 w' v' _ _ sl2 nw hE hz hA o2 rfl rfl gr hl;exact h v' w' r1 r2 r3 (fun k hk=>gr.block k (hz k hk) (fun e=>hzz k e.symm hk))
theorem step_push {ops:Array Oper} {K:Act→World→Prop} {F:Prop} (hw:Region.wanted o (yielded ops a.tmps)=true) (s x:Operand) (ho:o.op = .call {callee:=.builtin .append,args:=#[s,x],argTypes:=#[33,33]})
  (hs:a.eval s=v) (hO:OutR Z w wr v ms) (hB:Below w.heap.size w wr) (hE:Below wr.heap.size wr W2) (hz:∀k,Z k→k<W2.heap.size)
  (ad:Addr) (c:Nat) (hx:a.eval x = .slice (some ad) nw.length c) (hA:All2 (fun sl m=>LRow (NewZ Z w W2) W2 sl m.list) sl2 nw) (hn:∀j u,(flatM sl2 nw)[j]?=some u→W2.cell? (ad.add j)=some u)
  (hlen:ms.length+nw.length≤100000000) (h:∀v' w',OutR Z w w' v' (ms ++ nw)→Kp wr w'→Below w.heap.size w w'→(∀k,Z k→w'.heap[k]?=W2.heap[k]?)→K (a.put o.dst v') w') :
  if Region.wanted o (yielded ops a.tmps)=true then Oper.wp Tryz.prog o a W2 K Q else F:=by
 rw [if_pos hw];exact wp_push s x ho hs hO hB hE hz ad c hx hA hn hlen h
theorem wpList_push {ops:Array Oper} {rest:List Oper} (hgd:o.guard=none) (s x:Operand) (ho:o.op = .call {callee:=.builtin .append,args:=#[s,x],argTypes:=#[33,33]})
  (hs:a.eval s=v) (hO:OutR Z w wr v ms) (hB:Below w.heap.size w wr) (hE:Below wr.heap.size wr W2) (hz:∀k,Z k→k<W2.heap.size)
  (ad:Addr) (c:Nat) (hx:a.eval x = .slice (some ad) nw.length c) (hA:All2 (fun sl m=>LRow (NewZ Z w W2) W2 sl m.list) sl2 nw) (hn:∀j u,(flatM sl2 nw)[j]?=some u→W2.cell? (ad.add j)=some u)
  (hlen:ms.length+nw.length≤100000000) (h:∀v' w',OutR Z w w' v' (ms ++ nw)→Kp wr w'→Below w.heap.size w w'→(∀k,Z k→w'.heap[k]?=W2.heap[k]?)→wpList Tryz.prog ops Q rest (a.put o.dst v') w'):wpList Tryz.prog ops Q (o :: rest) a W2:=
 wpList_plain hgd fun _ hK=>wp_push s x ho hs hO hB hE hz ad c hx hA hn hlen fun v' w' h2 h3 h4 h5=>hK _ _ (h v' w' h2 h3 h4 h5)
theorem wpList_push_row {Z3:Nat→Prop} {w3:World} {v3:Value} {ops:Array Oper} {rest:List Oper} (hgd:o.guard=none) (s x:Operand) (ho:o.op = .call {callee:=.builtin .append,args:=#[s,x],argTypes:=#[33,33]})
  (hs:a.eval s=v) (hO:OutR Z w W2 v ms) (hB:Below w.heap.size w W2) (hz:∀k,Z k→k<W2.heap.size) (hx:a.eval x=v3) (hO3:OutR Z3 w3 W2 v3 nw) (h3:∀k,NewZ Z3 w3 W2 k→NewZ Z w W2 k)
  (hlen:ms.length+nw.length≤100000000) (h:∀v' w',OutR Z w w' v' (ms ++ nw)→Kp W2 w'→Below w.heap.size w w'→(∀k,Z k→w'.heap[k]?=W2.heap[k]?)→wpList Tryz.prog ops Q rest (a.put o.dst v') w'):wpList Tryz.prog ops Q (o :: rest) a W2:=by
 obtain ⟨sl3,k1,k2,k3⟩:=hO3;rcases k2.2 with ⟨rfl,h0⟩ | ⟨g,cap,cur,rfl,hb,hg,hr⟩
 ·obtain ⟨ti,hi,hz0,hz1,hz2⟩:=info_parts Tryz.infoMsg;obtain rfl:nw = []:=List.eq_nil_of_length_eq_zero h0;obtain ⟨XS,own,fin⟩:=hO.opened hB;refine wpList_append_own_none hgd s x 33 ho w.heap.size 36 ti 8 Tryz.underlying33 hi v ms.length XS hs (own W2 (Below.refl _ _)) hx ?_;exact h v W2 (by simpa using hO) (Kp.refl W2) hB (fun _ _=>rfl)
 refine wpList_push hgd s x ho hs hO hB (Below.refl _ _) hz ⟨g,0,none⟩ cap hx (k1.mono (fun a b q=>q.mono h3)) (fun j u hu=>k2.cells (g:=g) rfl j u hu) hlen h
end
end
end Go.Proofs.YtifcdjmcoibblaaGreatDoor
