/- Rbx Rvd Rad Rct -/
import Derived.Test.YtifcdjmcoibblaaGreatDoorLq09
import Derived.Test.YtifcdjmcoibblaaGreatDoorLq08
import Derived.Test.YtifcdjmcoibblaaGreatDoorLq10
import Derived.Test.YtifcdjmcoibblaaGreatDoorLq14
import Derived.Test.YtifcdjmcoibblaaGreatDoorLq40
import Derived.Test.YtifcdjmcoibblaaGreatDoorLq18
import Derived.Test.YtifcdjmcoibblaaGreatDoorLq20
import Derived.Test.YtifcdjmcoibblaaGreatDoorLq22
import Derived.StillTailTactics
import Derived.Deep.RegionHeld3
import Derived.BigQuiet
import Derived.Test.YtifcdjmcoibblaaGreatDoorLq01
import Derived.Test.YtifcdjmcoibblaaGreatDoorLq23
set_option linter.unusedVariables false
set_option linter.unusedSimpArgs false
set_option linter.unusedSectionVars false
set_option maxRecDepth 100000
set_option maxHeartbeats 80000000
namespace Go.Proofs.YtifcdjmcoibblaaGreatDoor
section
open Go.RowKit
structure BoxE where
 ao:Option Addr
 lc:Nat
 m:MsgB
def encE (p:BoxE):List Value:=(encM p.m (.slice p.ao p.m.list.length p.lc)).toList
theorem encE_len (p:BoxE):(encE p).length=8:=rfl
def RowB (W:World) (v:Value) (L:(List BoxE)):Prop:=W.ownsRow 0 36 8 v L.length (L.flatMap encE)
theorem RowB.nil (W:World):RowB W (.slice none 0 0) []:=World.ownsRow_nil _ _ _ _
theorem box_get:∀(cs:(List BoxE)) (j:Nat) (c:BoxE),cs[j]?=some c→∀(k:Nat) (u:Value),(encE c)[k]?=some u→(cs.flatMap encE)[j * 8+k]?=some u
 | [],j,c,h,_,_,_=>by cases h
 | a :: cs,0,c,h,k,u,hu=>by
  have e:a=c:=by simpa using h
  subst e;rw [List.flatMap_cons,Nat.zero_mul,Nat.zero_add,List.getElem?_append_left (List.getElem?_eq_some_iff.1 hu).1];exact hu
 | a :: cs,j+1,c,h,k,u,hu=>by
  rw [List.flatMap_cons,List.getElem?_append_right (by rw [encE_len];omega)];have e:(j+1) * 8+k - (encE a).length=j * 8+k:=by rw [encE_len];omega
  rw [e];exact box_get cs j c (by simpa using h) k u hu
theorem RowB.slice {W:World} {v:Value} {L:(List BoxE)} (h:RowB W v L):∃ao cap,v = .slice ao L.length cap:=by
 rcases h.2 with ⟨e,h0⟩ | ⟨g,c,_,e,_⟩
 ·exact ⟨none,0,by rw [e,h0]⟩
 exact ⟨_,_,e⟩
theorem RowB.cells {W:World} {ao:Option Addr} {n cap:Nat} {L:(List BoxE)} (h:RowB W (.slice ao n cap) L) {j:Nat} {c:BoxE} (hj:L[j]?=some c):∃g,ao=some ⟨g,0,none⟩∧(∃cur,W.heap[g]?=some (.cells cur 36 (0,0)))∧∀(k:Nat) (u:Value),(encE c)[k]?=some u→W.cell? ⟨g,j * 8+k,none⟩=some u:=by
 have hl:=(List.getElem?_eq_some_iff.1 hj).1;rcases h.2 with ⟨e,h0⟩ | ⟨g,c2,cur,e,hb,hg,_,_,_,ht⟩
 ·omega
 injection e with e1 e2 e3
 refine ⟨g,e1,⟨cur,hg⟩,fun k u hu=>?_⟩;have h2:=box_get L j c hj k u hu;rw [←ht] at h2;have hk:=(List.getElem?_eq_some_iff.1 hu).1;have hk8:k<8:=by rw [encE_len] at hk;exact hk
 rw [List.getElem?_take_of_lt (by omega),Array.getElem?_toList] at h2;rw [cell_of_row W g _ cur _ _ hg];exact h2
theorem RowB.kept {W W':World} {v:Value} {L:(List BoxE)} (h:RowB W v L) (hk:∀g cur,W.heap[g]?=some (.cells cur 36 (0,0))→v.ownBlock=some g→W'.heap[g]?=W.heap[g]?):RowB W' v L:=
 owns_blk h (fun g cur hg hc=>hk g cur hc hg)
structure RBox (W:World) (bb:Nat) (n:Int) (lv:Value) (L:(List BoxE)):Prop where
 row:W.heap[bb]?=some (.cells #[.int .i64 n,lv] 134 (0,0))
 l:RowB W lv L
def keyM (m:MsgB):Bal×ByteArray:=((m.frm,m.kind,m.height,m.round),m.dig)
def plainL (L:(List BoxE)):List (Bal×ByteArray):=L.map fun p=>keyM p.m
theorem plainL_add {L:List BoxE} {x:BoxE} {m:MsgB} (he:x.m=m) (h:∀(j:Nat) (c:BoxE),L[j]?=some c→¬(c.m.frm=m.frm∧c.m.kind=m.kind∧c.m.height=m.height∧c.m.round=m.round)):plainL (L ++ [x])=addB (plainL L) m:=by
 have e:getA (m.frm,m.kind,m.height,m.round) (plainL L)=none:=by
  rcases hg:getA (m.frm,m.kind,m.height,m.round) (plainL L) with _ | d
  ·rfl
  obtain ⟨c,hc,e⟩:=List.mem_map.1 (getA_mem hg);obtain ⟨j,hj⟩:=List.getElem?_of_mem hc;unfold keyM at e;injection e with e _
  injection e with e1 e2
  injection e2 with e2 e3
  injection e3 with e3 e4
  exact absurd ⟨e1,e2,e3,e4⟩ (h j c hj)
 unfold addB;rw [e];unfold plainL;rw [List.map_append,←he];rfl
theorem plainL_has {L:(List BoxE)} {m:MsgB} {j:Nat} {c:BoxE} (hj:L[j]?=some c) (h:c.m.frm=m.frm∧c.m.kind=m.kind∧c.m.height=m.height∧c.m.round=m.round):addB (plainL L) m=plainL L:=by
 unfold addB;rcases hg:getA (m.frm,m.kind,m.height,m.round) (plainL L) with _ | d
 ·exfalso;have hm:keyM c.m∈plainL L:=List.mem_map.2 ⟨c,List.mem_of_getElem? hj,rfl⟩;have e:keyM c.m=((m.frm,m.kind,m.height,m.round),c.m.dig):=by unfold keyM;rw [h.1,h.2.1,h.2.2.1,h.2.2.2]
  rw [e] at hm;exact getA_none.1 hg (List.mem_map.2 ⟨_,hm,rfl⟩)
 rfl
end
section
open Go.RowKit
structure GivM (m:MsgB):Prop where
 kind:m.kind=3∨m.kind=4∨m.kind=5∨m.kind=6
 f0:0≤m.frm
 f7:m.frm<7
 t0:0≤m.to
 t7:m.to<7
 h0:0≤m.height
 h1:m.height<1200
 r0:0≤m.round
 r1:m.round<100
 prop:m.kind=3→ascS m.list=true∧-1≤m.valid∧m.valid<m.round
 vote:m.kind≠3→m.valid=0∧m.list = []∧(m.dig.toList.isEmpty=true∨m.dig.size=32)
 l60:m.list.length≤60
def RvE (m:MsgB) (e:Ending):Prop:=∃b,e = .returned (.bool b)∧(m.kind≠3→b = !(m.frm == m.to))
def BoolE (e:Ending):Prop:=∃b,e = .returned (.bool b)
theorem rvalid_any {R:Nat→Prop} {w:World} {v:Value} {m:MsgB} (h:MsgV R w v m) (hlt:∀k,R k→k<w.heap.size) (hm:GivM m) :
  Calls Tryz.prog 81 #[v] w fun e w'=>RvE m e∧Below w.heap.size w w':=by
 obtain ⟨sl,rfl,ao,cap,rfl,hcap,hrow⟩:=h;obtain ⟨mb,hmb⟩:∃mb,mb=w.heap.size:=⟨_,rfl⟩;have HMB:=Hd hmb;have HB0:=Hd ((Below.refl _ w).alloc (Nat.le_refl _) (.cells (encM m (.slice ao m.list.length cap)) 36));have HR0:=Hd (World.alloc_heap_new w (.cells (encM m (.slice ao m.list.length cap)) 36));have HL:=Hd (show LRow R w (.slice ao m.list.length cap) m.list from ⟨ao,cap,rfl,hcap,hrow⟩);have HLT:=Hd hlt;have HM:=Hd hm;have f0:¬m.frm<0:=by have:=hm.f0;omega
 have f7:¬(7:Int)≤m.frm:=by have:=hm.f7;omega
 have t0:¬m.to<0:=by have:=hm.t0;omega
 have t7:¬(7:Int)≤m.to:=by have:=hm.t7;omega
 have h0:=hm.h0;have h1:=hm.h1;have r0:=hm.r0;have r1:=hm.r1;clear hrow hcap hmb hlt hm;unfold encM iv at *;go_enter Tryz.func81,Tryz.ntmps81
 go_upto_region 1 with (fail)
 obtain ⟨wa,hwa⟩:∃wa,wa=w.alloc (.cells #[.int .i64 m.kind,.int .i64 m.frm,.int .i64 m.to,.int .i64 m.height,.int .i64 m.round,.int .i64 m.valid,.string m.dig,.slice ao m.list.length cap] 36):=⟨_,rfl⟩;rw [←HMB.out] at HR0 ⊢;rw [←hwa] at HB0 HR0 ⊢;clear hwa;have MR:=MRow.of HR0.out;have HRK:=Hd (show RowK 1 encT wa ao m.list from by
  obtain ⟨ao',cap',e,_,q⟩:=(HL.out.below HLT.out HB0.out).row;cases e;exact q)
 by_cases hft:m.frm=m.to
 ·have y1:(m.frm == m.to)=true:=by simpa using hft
  obtain ⟨c0,c1,c2,c3,c4,c5,c6,c7,fz⟩:=MR;clear hft;go_wp2_with fail
  go_ret;exact ⟨⟨false,rfl,fun _=>by rw [y1];rfl⟩,HB0.out⟩
 have y1:(m.frm == m.to)=false:=by simpa using hft
 have HFT:=Hd y1;clear hft;go_cut [33] (fun t wc=>t = .bool false∧wc=wa)
 case first=>
  obtain ⟨c0,c1,c2,c3,c4,c5,c6,c7,fz⟩:=MR;go_wp2_with fail
  go_meet;exact ⟨rfl,rfl⟩
 case rest=>
 obtain ⟨rfl,hw⟩:=hcut;rw [hw];clear hw;go_upto_region 3 with (fail)
 go_cut [3] (fun t wc=>t = .bool true∧wc=wa)
 case first=>
  obtain ⟨c0,c1,c2,c3,c4,c5,c6,c7,fz⟩:=MR;go_wp2_with fail
  go_meet;exact ⟨by simp [r1],rfl⟩
 case rest=>
 obtain ⟨rfl,hw⟩:=hcut;rw [hw];clear hw f0 f7 t0 t7 h0 h1 r0 r1 y1;go_upto_region 4 with (fail)
 go_cut [4] (fun t wc=>(∃b,t = .bool b)∧wc=wa)
 case first=>
  obtain ⟨c0,c1,c2,c3,c4,c5,c6,c7,fz⟩:=MR;rcases n1:(m.height == 0) with _ | _
  case' true=>
   rcases n2:(m.round == 0) with _ | _
   case' true=>
    rcases n3:(m.valid == 0) with _ | _
  all_goals (go_wp2_with fail;go_meet;exact ⟨⟨_,rfl⟩,rfl⟩)
 case rest=>
 obtain ⟨⟨bp,rfl⟩,hw⟩:=hcut;rw [hw];clear hw;have ID:=Hd (rids_any ao _ cap m.list wa rfl HM.out.l60 HRK.out);obtain ⟨c0,c1,c2,c3,c4,c5,c6,c7,fz⟩:=MR;go_upto_region 6 with (go_at_call 133;refine ID.out.mono ?_;rintro _ wi ⟨rfl,hb⟩;have HBI:=Hd hb;clear hb)
 have HB1:=Hd (HB0.out.trans (HBI.out.mono HB0.out.size));have HR1:=Hd ((HBI.out.block mb (gE HR0.out).1).trans HR0.out);clear c0 c1 c2 c3 c4 c5 c6 c7 fz ID;obtain ⟨c0,c1,c2,c3,c4,c5,c6,c7,fz⟩:=MRow.of HR1.out;by_cases k3:m.kind=3
 ·obtain ⟨p1,p2,p3⟩:=HM.out.prop k3;have e1:(m.kind == 1)=false:=by rw [k3];rfl
  have e2:(m.kind == 2)=false:=by rw [k3];rfl
  have e3:(m.kind == 3)=true:=by rw [k3];rfl
  have n1:decide (-1≤m.valid)=true:=by simpa using p2
  have n2:decide (m.valid<m.round)=true:=by simpa using p3
  have hsz:=Nat.le_trans (valS_size p1 HM.out.l60) (show 6001≤1000000 by decide);have VA:=Hd (rvalue_any ao _ cap m.list wi rfl HM.out.l60 (HRK.out.later HBI.out) p1);have HNK:=Hd (show ¬m.kind≠3 from fun q=>q k3);rw [p1];clear k3;go_upto_region 18 with (go_at_call 78;refine VA.out.mono ?_;rintro _ w1 ⟨rfl,hb⟩;have HBV:=Hd hb;clear hb)
  have HBW:=Hd (HB1.out.trans (HBV.out.mono HB1.out.size));have HR2:=Hd ((HBV.out.block mb (gE HR1.out).1).trans HR1.out);clear c0 c1 c2 c3 c4 c5 c6 c7 fz VA;obtain ⟨c0,c1,c2,c3,c4,c5,c6,c7,fz⟩:=MRow.of HR2.out;have hmb1:mb<w1.heap.size:=(gE HR2.out).1;have KEEP:=Hd (show ∀W,Below w1.heap.size w1 W→W.cell? ⟨mb,4,none⟩=some (.int .i64 m.round)∧W.cell? ⟨mb,5,none⟩=some (.int .i64 m.valid)∧W.cell? ⟨mb,6,none⟩=some (.string m.dig)∧Below w1.heap.size w1 W from fun W h=>⟨by rw [h.cell (p:=⟨mb,4,none⟩) hmb1];exact c4,by rw [h.cell (p:=⟨mb,5,none⟩) hmb1];exact c5,by rw [h.cell (p:=⟨mb,6,none⟩) hmb1];exact c6,h⟩);have SUM:=Hd (show ∀W,Below w1.heap.size w1 W→Calls Tryz.prog 79 #[.string (valS m.list)] W fun e w'=>e = .returned (.string (digS m.list))∧Below w1.heap.size w1 w' from fun W h=>(rsum_any (valS m.list) W hsz).mono (fun e w' q=>⟨q.1,h.trans (q.2.mono h.size)⟩));clear hsz hmb1 p1 p2 p3 HBI HBV;go_region_held3 (fun w'=>w'.cell? ⟨mb,4,none⟩=some (.int .i64 m.round)∧w'.cell? ⟨mb,5,none⟩=some (.int .i64 m.valid)∧w'.cell? ⟨mb,6,none⟩=some (.string m.dig)∧Below w1.heap.size w1 w')
   (first | (exact KEEP.out _ E1) | (exact KEEP.out _ ((Below.refl _ w1).drew)) | (go_split_ands;exact ⟨by assumption,by assumption,by assumption,by assumption⟩))
   (first | (go_at_call 79;refine (SUM.out _ ?_).mono ?_;(go_split_ands;assumption);rintro e w2 ⟨rfl,hb⟩;have E1:=hb;clear hb))
  go_wp2
  go_ret;exact ⟨⟨_,rfl,fun q=>absurd q HNK.out⟩,HBW.out.trans (E1.mono HBW.out.size)⟩
 obtain ⟨v1,v2,v3⟩:=HM.out.vote k3;have e1:(m.kind == 1)=false:=by have:=HM.out.kind;rw [beq_eq_false_iff_ne];omega
 have e2:(m.kind == 2)=false:=by have:=HM.out.kind;rw [beq_eq_false_iff_ne];omega
 have e3:(m.kind == 3)=false:=by simpa using k3
 have hk:=HM.out.kind;rw [v2] at c7;rw [show ([]:List ByteArray).length=0 from rfl] at c7;have n1:(m.valid == 0)=true:=by rw [v1];rfl
 clear v2;rcases h4:(m.kind == 4) with _ | _
 case' false=>
  rcases h5:(m.kind == 5) with _ | _
  case' false=>
   have h6:(m.kind == 6)=true:=by
    rw [beq_eq_false_iff_ne] at h4 h5;rw [beq_iff_eq];omega
 all_goals (
  clear hk k3 v1;rcases h7:m.dig.toList.isEmpty with _ | _
  ·have h8:((m.dig.size:Int) == 32)=true:=by
    rcases v3 with q | q
    ·rw [q] at h7;cases h7
    rw [q];rfl
   clear v3;go_wp2_with fail
   go_ret;exact ⟨⟨true,by simp [h8],fun _=>by rw [HFT.out];rfl⟩,HB1.out⟩
  clear v3;go_wp2_with fail
  go_ret;exact ⟨⟨true,by simp,fun _=>by rw [HFT.out];rfl⟩,HB1.out⟩)
end
section
open Go.RowKit
structure RAdded (W:World) (bb:Nat) (n:Int) (lv:Value) (L:List BoxE) (m:MsgB) (w':World):Prop where
 row:∃lv' L',RBox w' bb n lv' L'∧plainL L'=(if m.frm≠m.to∧m.kind≠3∧m.frm<n then addB (plainL L) m else plainL L)∧L'.length≤L.length+1∧∀g,lv'.ownBlock=some g→lv.ownBlock=some g∨W.heap.size≤g
 chg:Chg (fun k=>k=bb∨lv.ownBlock=some k) W w'
theorem RAdded.same {W w':World} {bb:Nat} {n:Int} {lv:Value} {L:List BoxE} {m:MsgB} (hB:RBox W bb n lv L) (hb:Below W.heap.size W w') (h:plainL L=(if m.frm≠m.to∧m.kind≠3∧m.frm<n then addB (plainL L) m else plainL L)):RAdded W bb n lv L m w':=
 ⟨⟨lv,L,⟨(hb.block bb (gE hB.row).1).trans hB.row,hB.l.kept (fun g cur hg _=>hb.block g (gE hg).1)⟩,h,by omega,fun g hg=>.inl hg⟩,Chg.of_below hb (fun k q1 q2=>absurd q2 (by omega))⟩
section
variable {R:Nat→Prop} {W:World} {bb:Nat} {n:Int} {lv:Value} {L:List BoxE} {m:MsgB} {ao:Option Addr} {cap:Nat}
theorem radd_any (hB:RBox W bb n lv L) (hlen:L.length≤1000000000) (hl:LRow R W (.slice ao m.list.length cap) m.list) (hlt:∀k,R k→k<W.heap.size) (hm:GivM m) :
  Calls Tryz.prog 30 #[pv bb,.agg (encM m (.slice ao m.list.length cap))] W fun e w'=>BoolE e∧RAdded W bb n lv L m w':=by
 obtain ⟨lao,lcap,rfl⟩:=hB.l.slice;obtain ⟨mb,hmb⟩:∃mb,mb=W.heap.size:=⟨_,rfl⟩;have HMB:=Hd hmb;obtain ⟨nl,hnl⟩:∃nl,nl=L.length:=⟨_,rfl⟩;have HNL:=Hd hnl;have l0:(0:Int)≤(nl:Int):=by omega
 have l1:(nl:Int)≤1000000000:=by rw [←hnl] at hlen;omega
 rw [←hnl] at hB ⊢;have HBX:=Hd hB;have HM:=Hd hm;have HB0:=Hd ((Below.refl _ W).alloc (Nat.le_refl _) (.cells (encM m (.slice ao m.list.length cap)) 36));have HR0:=Hd (World.alloc_heap_new W (.cells (encM m (.slice ao m.list.length cap)) 36));have VL:=Hd (show ∀wa,Below W.heap.size W wa→Calls Tryz.prog 81 #[.agg (encM m (.slice ao m.list.length cap))] wa fun e w'=>RvE m e∧Below wa.heap.size wa w' from fun wa hw=>rvalid_any (R:=R) ⟨_,rfl,hl.below hlt hw⟩ (fun k hk=>Nat.lt_of_lt_of_le (hlt k hk) hw.size) hm);have HSAME:=Hd (fun w' (hb:Below W.heap.size W w') h=>RAdded.same (m:=m) hB hb h);clear hlen hl hlt hm hB hmb hnl;unfold encM iv pv at *;go_enter Tryz.func30,Tryz.ntmps30
 go_upto_region 1 with (fail)
 obtain ⟨wa,hwa⟩:∃wa,wa=W.alloc (.cells #[.int .i64 m.kind,.int .i64 m.frm,.int .i64 m.to,.int .i64 m.height,.int .i64 m.round,.int .i64 m.valid,.string m.dig,.slice ao m.list.length cap] 36):=⟨_,rfl⟩;rw [←HMB.out] at HR0 ⊢;rw [←hwa] at HB0 HR0 ⊢;clear hwa;obtain ⟨c0,c1,c2,c3,c4,c5,c6,c7,fz⟩:=MRow.of HR0.out;have VW:=Hd (VL.out wa HB0.out);go_upto_region 2 with (go_at_call 81;(with_reducible refine VW.out.mono ?_);rintro _ w1 ⟨⟨b,rfl,hbk⟩,hb1⟩;have HBK:=Hd hbk;have HBV:=Hd hb1;clear hbk hb1)
 have HB1:=Hd (HB0.out.trans (HBV.out.mono HB0.out.size));have HR1:=Hd ((HBV.out.block mb (gE HR0.out).1).trans HR0.out);have HX1:=Hd ((HB1.out.block bb (gE HBX.out.row).1).trans HBX.out.row);clear c0 c1 c2 c3 c4 c5 c6 c7 fz VW VL;obtain ⟨c0,c1,c2,c3,c4,c5,c6,c7,fz⟩:=MRow.of HR1.out;have b0:=cell_of_row w1 bb 0 _ _ _ HX1.out;simp at b0;obtain ⟨tb,htb⟩:∃tb,tb=(!b || decide (m.kind=3) || decide (n≤m.frm)):=⟨_,rfl⟩;have HTB:=Hd htb;clear htb;go_cut [35] (fun t wc=>t = .bool tb∧Below w1.heap.size w1 wc)
 case first=>
  rcases b with _ | _
  ·have HE:=Hd (show tb=true from by rw [HTB.out];rfl);go_quiet (fail)
   go_wp2
   go_meet;exact ⟨by rw [HE.out],below_drewN (Below.refl _ _) _⟩
  rcases h4:(m.kind != 4) with _ | _
  case' true=>
   rcases h5:(m.kind != 5) with _ | _
   case' true=>
    rcases h6:(m.kind != 6) with _ | _
  case true.true.true=>
   have HE:=Hd (show tb=true from by
    have hk:m.kind=3:=by
     have:=HM.out.kind;simp at h4 h5 h6;omega
    rw [HTB.out,decide_eq_true hk];rfl)
   go_quiet (fail)
   go_wp2
   go_meet;exact ⟨by rw [HE.out],below_drewN (Below.refl _ _) _⟩
  all_goals (
   have HE:=Hd (show tb=decide (n≤m.frm) from by
    have hk:¬m.kind=3:=by
     first
      | (simp at h4 h5 h6;omega)
      | (simp at h4 h5;omega)
      | (simp at h4;omega)
    rw [HTB.out,decide_eq_false hk];rfl)
   go_quiet (fail)
   go_wp2
   go_meet;exact ⟨by rw [HE.out],below_drewN (Below.refl _ _) _⟩)
 case rest=>
 obtain ⟨rfl,hb2⟩:=hcut;obtain ⟨w2,rfl⟩:∃w2:World,w2=wc:=⟨_,rfl⟩;have HB2:=Hd (HB1.out.trans (hb2.mono HB1.out.size));have HR2:=Hd ((hb2.block mb (gE HR1.out).1).trans HR1.out);clear hb2 c0 c1 c2 c3 c4 c5 c6 c7 fz b0 HX1;rcases tb with _ | _
 ·have HYES:=Hd (show m.frm≠m.to∧m.kind≠3∧m.frm<n from by
   have h:=HTB.out.symm;simp only [Bool.or_eq_false_iff,Bool.not_eq_false',decide_eq_false_iff_not] at h;obtain ⟨⟨h1,h2⟩,h3⟩:=h;refine ⟨fun e=>?_,h2,by omega⟩;have:=HBK.out h2;rw [h1] at this;simp [e] at this)
  go_wp2_with fail
  go_loopw [6] (fun iv wr=>∃j:Nat,j≤nl∧iv = .int .i64 (j:Int)∧Below w2.heap.size w2 wr∧∀t c,t<j→L[t]?=some c→¬(c.m.frm=m.frm∧c.m.kind=m.kind∧c.m.height=m.height∧c.m.round=m.round)) (fun iv _=>nl - (intOf iv).toNat)
  case atStart=>exact ⟨0,Nat.zero_le _,rfl,Below.refl _ _,fun t c ht=>absurd ht (Nat.not_lt_zero _)⟩
  case round=>
   obtain ⟨j,hj,rfl,hbw,hno⟩:=hrel;have HBL:=Hd hbw;have HNO:=Hd hno;have HBR:=Hd (HB2.out.trans (hbw.mono HB2.out.size));clear hbw hno;have HMR:=Hd ((HBL.out.block mb (gE HR2.out).1).trans HR2.out);have HXR:=Hd ((HBR.out.block bb (gE HBX.out.row).1).trans HBX.out.row);have HCR:=Hd (HBX.out.l.kept (W':=wr) (fun g cur hg _=>HBR.out.block g (gE hg).1));have j0:(0:Int)≤(j:Int):=by omega
   have b1:=cell_of_row wr bb 1 _ _ _ HXR.out;simp at b1;by_cases hjn:j<nl
   ·have j1:(j:Int)<(nl:Int):=by omega
    obtain ⟨c,hcj⟩:∃c,L[j]?=some c:=⟨L[j]'(by rw [←HNL.out];exact hjn),List.getElem?_eq_getElem _⟩;have HCJ:=Hd hcj;obtain ⟨g,rfl,⟨cur,hgc⟩,hce⟩:=HCR.out.cells hcj;have k0:=hce 0 _ rfl;have k1:=hce 1 _ rfl;have k2:=hce 2 _ rfl;have k3:=hce 3 _ rfl;have k4:=hce 4 _ rfl;have k5:=hce 5 _ rfl;have k6:=hce 6 _ rfl;have k7:=hce 7 _ rfl;simp only [Nat.add_zero] at k0;unfold iv at k0 k1 k2 k3 k4 k5;clear hcj hgc hce;go_upto_region 8 with (fail)
    obtain ⟨wx,hwx⟩:∃wx,wx=wr.alloc (.cells #[.int .i64 c.m.kind,.int .i64 c.m.frm,.int .i64 c.m.to,.int .i64 c.m.height,.int .i64 c.m.round,.int .i64 c.m.valid,.string c.m.dig,.slice c.ao c.m.list.length c.lc] 36):=⟨_,rfl⟩;obtain ⟨cb,hcb⟩:∃cb,cb=wr.heap.size:=⟨_,rfl⟩;have HBA:=Hd (show Below wr.heap.size wr wx from by rw [hwx];exact (Below.refl _ _).alloc (Nat.le_refl _) _);have HCB:=Hd (show wx.heap[cb]?=some (.cells #[.int .i64 c.m.kind,.int .i64 c.m.frm,.int .i64 c.m.to,.int .i64 c.m.height,.int .i64 c.m.round,.int .i64 c.m.valid,.string c.m.dig,.slice c.ao c.m.list.length c.lc] 36 (0,0)) from by rw [hwx,hcb];exact World.alloc_heap_new wr _);rw [←hcb,←hwx];clear hwx hcb k0 k1 k2 k3 k4 k5 k6 k7 b1;have HMA:=Hd ((HBA.out.block mb (gE HMR.out).1).trans HMR.out);obtain ⟨k0,k1,k2,k3,k4,k5,k6,k7,fk⟩:=MRow.of HCB.out;obtain ⟨c0,c1,c2,c3,c4,c5,c6,c7,fz⟩:=MRow.of HMA.out;obtain ⟨t8,ht8⟩:∃t8,t8=decide (c.m.frm=m.frm∧c.m.kind=m.kind∧c.m.height=m.height∧c.m.round=m.round):=⟨_,rfl⟩;have HT8:=Hd ht8;clear ht8;go_cut [77] (fun t wc=>t = .bool t8∧wc=wx)
    case first=>
     by_cases z1:c.m.frm=m.frm
     ·have y1:(c.m.frm == m.frm)=true:=by simpa using z1
      by_cases z2:c.m.kind=m.kind
      ·have y2:(c.m.kind == m.kind)=true:=by simpa using z2
       by_cases z3:c.m.height=m.height
       ·have y3:(c.m.height == m.height)=true:=by simpa using z3
        by_cases z4:c.m.round=m.round
        ·have y4:(c.m.round == m.round)=true:=by simpa using z4
         have HE:=Hd (show t8=true from by rw [HT8.out];exact decide_eq_true ⟨z1,z2,z3,z4⟩);clear z1 z2 z3 z4;go_wp2_with fail
         go_meet;exact ⟨by rw [HE.out],rfl⟩
        have y4:(c.m.round == m.round)=false:=by simpa using z4
        have HE:=Hd (show t8=false from by rw [HT8.out];exact decide_eq_false (fun q=>z4 q.2.2.2));clear z1 z2 z3 z4;go_wp2_with fail
        go_meet;exact ⟨by rw [HE.out],rfl⟩
       have y3:(c.m.height == m.height)=false:=by simpa using z3
       have HE:=Hd (show t8=false from by rw [HT8.out];exact decide_eq_false (fun q=>z3 q.2.2.1));clear z1 z2 z3;go_wp2_with fail
       go_meet;exact ⟨by rw [HE.out],rfl⟩
      have y2:(c.m.kind == m.kind)=false:=by simpa using z2
      have HE:=Hd (show t8=false from by rw [HT8.out];exact decide_eq_false (fun q=>z2 q.2.1));clear z1 z2;go_wp2_with fail
      go_meet;exact ⟨by rw [HE.out],rfl⟩
     have y1:(c.m.frm == m.frm)=false:=by simpa using z1
     have HE:=Hd (show t8=false from by rw [HT8.out];exact decide_eq_false (fun q=>z1 q.1));clear z1;go_wp2_with fail
     go_meet;exact ⟨by rw [HE.out],rfl⟩
    case rest=>
    obtain ⟨rfl,hw⟩:=hcut;rw [hw];clear hw c0 c1 c2 c3 c4 c5 c6 c7 fz k0 k1 k2 k3 k4 k5 k6 k7 fk;rcases t8 with _ | _
    ·have HX:=Hd (show ∀t c',t<j+1→L[t]?=some c'→¬(c'.m.frm=m.frm∧c'.m.kind=m.kind∧c'.m.height=m.height∧c'.m.round=m.round) from fun t c' ht hc'=>by
      by_cases e:t=j
      ·rw [e,HCJ.out] at hc';cases hc';exact of_decide_eq_false HT8.out.symm
      exact HNO.out t c' (by omega) hc')
     go_wp2_with fail
     go_roundw
     case rel=>exact ⟨j+1,by omega,by go_num,HBL.out.trans (HBA.out.mono HBL.out.size),HX.out⟩
     case measure=>simp [intOf];omega
    have HX:=Hd (show plainL L=(if m.frm≠m.to∧m.kind≠3∧m.frm<n then addB (plainL L) m else plainL L) from by
     rw [if_pos HYES.out];exact (plainL_has HCJ.out (of_decide_eq_true HT8.out.symm)).symm)
    go_wp2_with fail
    go_ret;exact ⟨⟨_,rfl⟩,HSAME.out _ (HBR.out.trans (HBA.out.mono HBR.out.size)) HX.out⟩
   have hjn':j=nl:=by omega
   have j1:¬(j:Int)<(nl:Int):=by omega
   obtain ⟨ti,hi,hz0,hz1,hz2⟩:=info_parts Tryz.infoMsg;obtain ⟨XS,hXS⟩:∃XS,XS=L.flatMap encE:=⟨_,rfl⟩;have HXS:=Hd hXS;obtain ⟨me,hme⟩:∃me:BoxE,me=⟨ao,cap,m⟩:=⟨_,rfl⟩;have HME:=Hd hme;have HPL:=Hd (show plainL (L ++ [me])=(if m.frm≠m.to∧m.kind≠3∧m.frm<n then addB (plainL L) m else plainL L) from by
    rw [if_pos HYES.out];refine plainL_add (by rw [hme]) (fun t c hc=>HNO.out t c ?_ hc);have:=(List.getElem?_eq_some_iff.1 hc).1;rw [←HNL.out] at this;omega)
   have HOWN:=Hd (show ∀X,Below wr.heap.size wr X→X.ownsRow 0 36 8 (.slice lao nl lcap) nl XS from fun X hX=>by
    have:=HCR.out;unfold RowB at this;rw [←hXS,←HNL.out] at this;exact ownsRow_blk this (fun g _ hl=>hX.block g hl))
   have hen:encE me = [.int .i64 m.kind,.int .i64 m.frm,.int .i64 m.to,.int .i64 m.height,.int .i64 m.round,.int .i64 m.valid,.string m.dig,.slice ao m.list.length cap]:=by rw [hme];rfl
   have HEN:=Hd hen;obtain ⟨wz,hwz⟩:∃wz,wz=(wr.alloc (.cells #[.int .i64 m.kind,.int .i64 m.frm,.int .i64 m.to,.int .i64 m.height,.int .i64 m.round,.int .i64 m.valid,.string m.dig,.slice ao m.list.length cap] 36)).drew:=⟨_,rfl⟩;have HBZ:=Hd (show Below wr.heap.size wr wz from by rw [hwz];exact ((Below.refl _ _).alloc (Nat.le_refl _) _).drew);have HOD:=HOWN.out wz HBZ.out;have NEW:=show ∀j u,(encE me)[j]?=some u→wz.cell? ((⟨wr.heap.size,0,none⟩:Addr).add j)=some u from by
    rw [hwz,hen];exact cells_at wr _ 36 wr.heap.size rfl
   have HMZ:=Hd ((HBZ.out.block mb (gE HMR.out).1).trans HMR.out);have HXZ:=Hd ((HBZ.out.block bb (gE HXR.out).1).trans HXR.out);have HGB:=Hd (show ∀g,(Value.slice lao nl lcap).ownBlock=some g→g<W.heap.size∧g≠bb from fun g hg=>by
    rcases HBX.out.l.2 with ⟨e,_⟩ | ⟨g2,c2,cur,e,_,hg2,_⟩
    ·rw [e] at hg;simp [Value.ownBlock] at hg
    rw [e] at hg;have:g2=g:=by simpa [Value.ownBlock] using hg
    subst this;refine ⟨(gE hg2).1,fun e=>?_⟩;rw [e,HBX.out.row] at hg2;injection hg2 with hg2
    injection hg2 with _ hg2 _
    exact absurd hg2 (by decide))
   have FIN:=Hd (show ∀(v2:Value) (w7:World),w7.ownsRow 0 36 8 v2 (nl+1) (XS ++ encE me)→wz.grownBy w7 (Value.slice lao nl lcap).ownBlock→(∀g,v2.ownBlock=some g→(Value.slice lao nl lcap).ownBlock=some g∨wz.heap.size≤g) →
     RAdded W bb n (.slice lao nl lcap) L m (w7.setCell ⟨bb,1,none⟩ v2)∧(∃g c,v2 = .slice (some ⟨g,0,none⟩) (nl+1) c)∧w7.cell? ⟨bb,1,none⟩=some (.slice lao nl lcap)∧(∀o,w7.frozen? ⟨bb,o,none⟩=false)∧w7.heap[mb]?=some (.cells #[.int .i64 m.kind,.int .i64 m.frm,.int .i64 m.to,.int .i64 m.height,.int .i64 m.round,.int .i64 m.valid,.string m.dig,.slice ao m.list.length cap] 36 (0,0)) from by
    intro v2 w7 own gr hn;have hz:=HBZ.out.size;have hsr:=HBR.out.size;have hbz:=(gE HXZ.out).1;have hx7:w7.heap[bb]?=some (.cells #[.int .i64 n,.slice lao nl lcap] 134 (0,0)):=(gr.block bb hbz (fun e=>(HGB.out bb e.symm).2 rfl)).trans HXZ.out;have hmz:=HMZ.out;have hm7:=(gr.block mb (gE hmz).1 (fun e=>by have:=(HGB.out mb e.symm).1;rw [←HMB.out] at this;omega)).trans hmz;refine ⟨⟨⟨v2,L ++ [me],⟨heap_setC hx7 _,?_⟩,HPL.out,by simp,fun g hg=>?_⟩,?_⟩,?_,?_,fun o=>frozen_of_row w7 bb o _ _ hx7,hm7⟩
    ·have h2:RowB w7 v2 (L ++ [me]):=by
      unfold RowB;rw [List.flatMap_append,←HXS.out,List.length_append,←HNL.out];simpa using own
     refine h2.kept (fun g cur hg _=>Below.heap_setCell _ ⟨bb,1,none⟩ _ g (fun e=>?_));have e:g=bb:=e;rw [e,hx7] at hg;injection hg with hg
     injection hg with _ hg _
     exact absurd hg (by decide)
    ·rcases hn g hg with q | q
     ·exact .inl q
     exact .inr (by omega)
    ·exact (Chg.of_below (C:=fun k=>k=bb∨(Value.slice lao nl lcap).ownBlock=some k) (HBR.out.trans (HBZ.out.mono HBR.out.size)) (fun k q1 q2=>absurd q2 (by omega))).trans ((Chg.grown gr (fun k e=>.inl (.inr e))).trans (Chg.set _ bb 1 v2 (.inl (.inl (.inl rfl)))))
    ·rcases own.2 with ⟨_,h0⟩ | ⟨g,c,_,hv,_⟩
     ·omega
     exact ⟨g,c,hv⟩
    rw [cell_of_row w7 bb 1 _ _ _ hx7];rfl)
   have b1a:=cell_up b1 (.cells #[.int .i64 m.kind,.int .i64 m.frm,.int .i64 m.to,.int .i64 m.height,.int .i64 m.round,.int .i64 m.valid,.string m.dig,.slice ao m.list.length cap] 36);have KP:=Hd (show ∀X:World,X.heap[mb]?=some (.cells #[.int .i64 m.kind,.int .i64 m.frm,.int .i64 m.to,.int .i64 m.height,.int .i64 m.round,.int .i64 m.valid,.string m.dig,.slice ao m.list.length cap] 36 (0,0))→X.cell? ⟨mb,0,none⟩=some (.int .i64 m.kind)∧X.cell? ⟨mb,1,none⟩=some (.int .i64 m.frm)∧X.cell? ⟨mb,2,none⟩=some (.int .i64 m.to)∧X.cell? ⟨mb,3,none⟩=some (.int .i64 m.height)∧X.cell? ⟨mb,4,none⟩=some (.int .i64 m.round)∧X.cell? ⟨mb,5,none⟩=some (.int .i64 m.valid)∧X.cell? ⟨mb,6,none⟩=some (.string m.dig)∧X.cell? ⟨mb,7,none⟩=some (.slice ao m.list.length cap) from fun X h=>by
    obtain ⟨c0,c1,c2,c3,c4,c5,c6,c7,fz⟩:=MRow.of h;exact ⟨c0,c1,c2,c3,c4,c5,c6,c7⟩)
   have HNE:=Hd (show mb≠bb from fun e=>by
    have:=(gE HBX.out.row).1;rw [←e,HMB.out] at this;omega)
   rw [hen] at NEW;rw [hen] at FIN;clear HOWN HCR hXS hme hen;go_upto_region 10 with (fail)
   refine wp_region_held_drew (S:=(fun X=>X.cell? ⟨mb,0,none⟩=some (.int .i64 m.kind)∧X.cell? ⟨mb,1,none⟩=some (.int .i64 m.frm)∧X.cell? ⟨mb,2,none⟩=some (.int .i64 m.to)∧X.cell? ⟨mb,3,none⟩=some (.int .i64 m.height)∧X.cell? ⟨mb,4,none⟩=some (.int .i64 m.round)∧X.cell? ⟨mb,5,none⟩=some (.int .i64 m.valid)∧X.cell? ⟨mb,6,none⟩=some (.string m.dig)∧X.cell? ⟨mb,7,none⟩=some (.slice ao m.list.length cap))) (by kernel_rfl) (KP.out _ HMR.out) (fun hHeld=>?_);refine hyw (i:=0) (by assumption) ?_;try simp only [Act.put,zz]
   refine hyw (i:=1) (by assumption) ?_;try simp only [Act.put,zz]
   refine hyw (i:=2) (by assumption) ?_;try simp only [Act.put,zz]
   refine hyw (i:=3) (by assumption) ?_;try simp only [Act.put,zz]
   refine hyw (i:=5) (by assumption) ?_;try simp only [Act.put,zz]
   refine wpAnyH_ready (rs:=[4,6]) (by kernel_rfl) (by simp) ?_;refine AllReadyH.cons (o:=_) rfl (fun K hK=>?_) (AllReadyH.cons (o:=_) rfl (fun K hK=>?_) AllReadyH.nil)
   ·go_simp;clear hHeld;go_wp2_with fail
    refine hK.out _ _ (KP.out _ HMR.out) (fun hHeld=>?_);clear hK K;try simp only [Act.put,zz]
    refine wpAnyH_ready (rs:=[6]) (by kernel_rfl) (by simp) ?_;refine AllReadyH.cons (o:=_) rfl (fun K hK=>?_) AllReadyH.nil;go_simp;clear hHeld;go_wp2_with fail
    refine hK.out _ _ (by rw [←hwz];exact KP.out _ HMZ.out) (fun hHeld=>?_);clear hK K;try simp only [Act.put,zz]
    refine wpAnyH_ready (rs:=[7]) (by kernel_rfl) (by simp) ?_;refine AllReadyH.cons (o:=_) rfl (fun K hK=>?_) AllReadyH.nil;clear hHeld;refine step_new (by rfl) (.tmp 82) (.tmp 84) 33 (by rfl) 0 36 ti zM 8 88 Tryz.underlying33 hi hz0 hz1 hz2 (by rfl) (by decide) (.slice lao nl lcap) nl XS ?_ ?_ ⟨wr.heap.size,0,none⟩ 1 1 [.int .i64 m.kind,.int .i64 m.frm,.int .i64 m.to,.int .i64 m.height,.int .i64 m.round,.int .i64 m.valid,.string m.dig,.slice ao m.list.length cap] ?_ (by rfl) ?_ (by intro u hu;simp at hu;rcases hu with rfl | rfl | rfl | rfl | rfl | rfl | rfl | rfl <;> rfl) ?_ ?_ ?_ ?_;(simp [Act.eval,Act.put]);(rw [←hwz];with_reducible exact HOD);(simp [Act.eval,Act.put]);(rw [←hwz];with_reducible exact NEW);(unfold maxLen;omega);omega;omega;rw [←hwz];intro v2 w7 own2 gr2 hn2;obtain ⟨hfin,⟨g2,cp2,rfl⟩,hx7,hf7,hm7⟩:=FIN.out v2 w7 own2 gr2 hn2;have HF:=Hd hfin;clear hfin own2 gr2 hn2
    refine hK.out _ _ (KP.out _ hm7) (fun hHeld=>?_);clear hK K;try simp only [Act.put,zz]
    refine hyw (i:=8) (by assumption) ?_;try simp only [Act.put,zz]
    refine hyw (i:=9) (by assumption) ?_;try simp only [Act.put,zz]
    refine wpAnyH_ready (rs:=[10]) (by kernel_rfl) (by simp) ?_;refine AllReadyH.cons (o:=_) rfl (fun K hK=>?_) AllReadyH.nil;go_simp;clear hHeld;go_wp2_with fail
    refine hK.out _ _ (KP.out _ ((Below.heap_setCell _ ⟨bb,1,none⟩ _ mb (fun e=>HNE.out e)).trans hm7)) (fun hHeld=>?_);clear hK K;try simp only [Act.put,zz]
    refine wpAnyH_done (by kernel_rfl) ?_ _;go_wp2
    go_ret;exact ⟨⟨_,rfl⟩,HF.out⟩
   go_simp;clear hHeld;go_wp2_with fail
   refine hK.out _ _ (by rw [←hwz];exact KP.out _ HMZ.out) (fun hHeld=>?_);clear hK K;try simp only [Act.put,zz]
   refine wpAnyH_ready (rs:=[4]) (by kernel_rfl) (by simp) ?_;refine AllReadyH.cons (o:=_) rfl (fun K hK=>?_) AllReadyH.nil;go_simp;clear hHeld;go_wp2_with fail
   refine hK.out _ _ (by rw [←hwz];exact KP.out _ HMZ.out) (fun hHeld=>?_);clear hK K;try simp only [Act.put,zz]
   refine wpAnyH_ready (rs:=[7]) (by kernel_rfl) (by simp) ?_;refine AllReadyH.cons (o:=_) rfl (fun K hK=>?_) AllReadyH.nil;clear hHeld;refine step_new (by rfl) (.tmp 82) (.tmp 84) 33 (by rfl) 0 36 ti zM 8 88 Tryz.underlying33 hi hz0 hz1 hz2 (by rfl) (by decide) (.slice lao nl lcap) nl XS ?_ ?_ ⟨wr.heap.size,0,none⟩ 1 1 [.int .i64 m.kind,.int .i64 m.frm,.int .i64 m.to,.int .i64 m.height,.int .i64 m.round,.int .i64 m.valid,.string m.dig,.slice ao m.list.length cap] ?_ (by rfl) ?_ (by intro u hu;simp at hu;rcases hu with rfl | rfl | rfl | rfl | rfl | rfl | rfl | rfl <;> rfl) ?_ ?_ ?_ ?_;(simp [Act.eval,Act.put]);(rw [←hwz];with_reducible exact HOD);(simp [Act.eval,Act.put]);(rw [←hwz];with_reducible exact NEW);(unfold maxLen;omega);omega;omega;rw [←hwz];intro v2 w7 own2 gr2 hn2;obtain ⟨hfin,⟨g2,cp2,rfl⟩,hx7,hf7,hm7⟩:=FIN.out v2 w7 own2 gr2 hn2;have HF:=Hd hfin;clear hfin own2 gr2 hn2
   refine hK.out _ _ (KP.out _ hm7) (fun hHeld=>?_);clear hK K;try simp only [Act.put,zz]
   refine hyw (i:=8) (by assumption) ?_;try simp only [Act.put,zz]
   refine hyw (i:=9) (by assumption) ?_;try simp only [Act.put,zz]
   refine wpAnyH_ready (rs:=[10]) (by kernel_rfl) (by simp) ?_;refine AllReadyH.cons (o:=_) rfl (fun K hK=>?_) AllReadyH.nil;go_simp;clear hHeld;go_wp2_with fail
   refine hK.out _ _ (KP.out _ ((Below.heap_setCell _ ⟨bb,1,none⟩ _ mb (fun e=>HNE.out e)).trans hm7)) (fun hHeld=>?_);clear hK K;try simp only [Act.put,zz]
   refine wpAnyH_done (by kernel_rfl) ?_ _;go_wp2
   go_ret;exact ⟨⟨_,rfl⟩,HF.out⟩
 have HX:=Hd (show plainL L=(if m.frm≠m.to∧m.kind≠3∧m.frm<n then addB (plainL L) m else plainL L) from by
  rw [if_neg];rintro ⟨h1,h2,h3⟩;have h:=HTB.out.symm;have hb:=HBK.out h2;have e1:(m.frm == m.to)=false:=by simpa using h1
  rw [hb,e1,decide_eq_false h2,decide_eq_false (show ¬n≤m.frm by omega)] at h;exact absurd h (by decide))
 go_wp2_with fail
 go_ret;exact ⟨⟨_,rfl⟩,HSAME.out _ HB2.out HX.out⟩
end
end
section
open Go.RowKit
theorem countB_app (l:List (Bal×ByteArray)) (p:Bal×ByteArray) (k h r:Int) (d:ByteArray):countB (l ++ [p]) k h r d=countB l k h r d+if p.1.2=(k,h,r)∧p.2=d then 1 else 0:=by
 unfold countB;rw [List.filter_append,List.length_append];by_cases h1:p.1.2=(k,h,r)∧p.2=d
 ·rw [if_pos h1];simp [h1.1,h1.2]
 rw [if_neg h1];have:([p].filter fun p=>decide (p.1.2=(k,h,r)) && decide (p.2=d)) = []:=by
  rw [List.filter_eq_nil_iff];intro x hx;have e:x=p:=by simpa using hx
  subst e;simpa using fun a b=>h1 ⟨a,b⟩
 rw [this];simp
theorem countB_nil (k h r:Int) (d:ByteArray):countB [] k h r d=0:=rfl
theorem countB_nonneg (l:List (Bal×ByteArray)) (k h r:Int) (d:ByteArray):0≤countB l k h r d:=by unfold countB;omega
theorem countB_le (l:List (Bal×ByteArray)) (k h r:Int) (d:ByteArray):countB l k h r d≤l.length:=by
 unfold countB;have:=List.length_filter_le (fun p:Bal×ByteArray=>decide (p.1.2=(k,h,r)) && decide (p.2=d)) l;omega
theorem plainL_len (L:List BoxE):(plainL L).length=L.length:=by unfold plainL;rw [List.length_map]
theorem rnewBox_any (n:Int) (w:World) (h1:1≤n) (h7:n≤7) :
  Calls Tryz.prog 29 #[.int .i64 n] w fun e w'=>e = .returned (pv w.heap.size)∧w'=w.alloc (.cells #[.int .i64 n,.slice none 0 0] 134):=by
 have n1:¬n<1:=by omega
 have n2:¬(7:Int)<n:=by omega
 unfold pv;go_enter Tryz.func29,Tryz.ntmps29
 go_wp2
 go_ret;exact ⟨rfl,rfl⟩
section
variable {W:World} {bb:Nat} {n:Int} {lv:Value} {L:List BoxE}
theorem count_ref (hB:RBox W bb n lv L) (hlen:L.length≤1000000000) (k h r:Int) (d:ByteArray) :
  Calls Tryz.prog 34 #[pv bb,.int .i64 k,.int .i64 h,.int .i64 r,.string d] W fun e w'=>e = .returned (.int .i64 (countB (plainL L) k h r d))∧Below W.heap.size W w':=by
 obtain ⟨lao,lcap,rfl⟩:=hB.l.slice;obtain ⟨nl,hnl⟩:∃nl,nl=L.length:=⟨_,rfl⟩;have HNL:=Hd hnl;have HN:=Hd hB.row;have HC:=Hd hB.l;have l0:(0:Int)≤(nl:Int):=by omega
 have l1:(nl:Int)≤1000000000:=by rw [←hnl] at hlen;omega
 rw [←hnl] at HN HC;clear hB hlen hnl;unfold pv;go_enter Tryz.func34,Tryz.ntmps34
 go_wp2_with fail
 go_loopw [12,11] (fun iv nv wr=>∃j:Nat,j≤nl∧iv = .int .i64 (j:Int)∧nv = .int .i64 (countB (plainL (L.take j)) k h r d)∧Below W.heap.size W wr) (fun iv _ _=>nl - (intOf iv).toNat)
 case atStart=>exact ⟨0,Nat.zero_le _,rfl,rfl,Below.refl _ _⟩
 case round=>
  obtain ⟨j,hj,rfl,rfl,hbw⟩:=hrel;have HB:=Hd hbw;have HNR:=Hd ((hbw.block bb (gE HN.out).1).trans HN.out);have HCR:=Hd (HC.out.kept (W':=wr) (fun g cur hg _=>hbw.block g (gE hg).1));have n1:=cell_of_row wr bb 1 _ _ _ HNR.out;simp at n1;have j0:(0:Int)≤(j:Int):=by omega
  obtain ⟨cn,hcn⟩:∃cn,cn=countB (plainL (L.take j)) k h r d:=⟨_,rfl⟩;have cn0:0≤cn:=by rw [hcn];exact countB_nonneg _ _ _ _ _
  have cn1:cn≤1000000000:=by
   rw [hcn];have a:=countB_le (plainL (L.take j)) k h r d;rw [plainL_len,List.length_take] at a;omega
  have HCN:=Hd hcn;rw [←hcn];clear hbw hcn;by_cases hjn:j<nl
  ·have j1:(j:Int)<(nl:Int):=by omega
   obtain ⟨c,hcj⟩:∃c,L[j]?=some c:=⟨L[j]'(by rw [←HNL.out];exact hjn),List.getElem?_eq_getElem _⟩;obtain ⟨g,rfl,⟨cur,hgc⟩,hce⟩:=HCR.out.cells hcj;have HST:=Hd (show countB (plainL (L.take (j+1))) k h r d=cn+if (c.m.kind,c.m.height,c.m.round)=(k,h,r)∧c.m.dig=d then 1 else 0 from by
    obtain ⟨hl,he⟩:=List.getElem?_eq_some_iff.1 hcj;rw [List.take_succ_eq_append_getElem hl,he,HCN.out];have e:plainL (L.take j ++ [c])=plainL (L.take j) ++ [keyM c.m]:=by unfold plainL;rw [List.map_append];rfl
    rw [e,countB_app];rfl)
   have k0:=hce 0 _ rfl;have k1:=hce 1 _ rfl;have k2:=hce 2 _ rfl;have k3:=hce 3 _ rfl;have k4:=hce 4 _ rfl;have k5:=hce 5 _ rfl;have k6:=hce 6 _ rfl;have k7:=hce 7 _ rfl;simp only [Nat.add_zero] at k0;unfold iv at k0 k1 k2 k3 k4 k5;clear hcj hgc hce;go_upto_region 6 with (fail)
   obtain ⟨wa,hwa⟩:∃wa,wa=wr.alloc (.cells #[.int .i64 c.m.kind,.int .i64 c.m.frm,.int .i64 c.m.to,.int .i64 c.m.height,.int .i64 c.m.round,.int .i64 c.m.valid,.string c.m.dig,.slice c.ao c.m.list.length c.lc] 36):=⟨_,rfl⟩;obtain ⟨cb,hcb⟩:∃cb,cb=wr.heap.size:=⟨_,rfl⟩;have HBA:=Hd (show Below wr.heap.size wr wa from by rw [hwa];exact (Below.refl _ _).alloc (Nat.le_refl _) _);have HCB:=Hd (show wa.heap[cb]?=some (.cells #[.int .i64 c.m.kind,.int .i64 c.m.frm,.int .i64 c.m.to,.int .i64 c.m.height,.int .i64 c.m.round,.int .i64 c.m.valid,.string c.m.dig,.slice c.ao c.m.list.length c.lc] 36 (0,0)) from by rw [hwa,hcb];exact World.alloc_heap_new wr _);have HBW:=Hd (HB.out.trans (HBA.out.mono HB.out.size));rw [←hcb,←hwa];clear hwa hcb k0 k1 k2 k3 k4 k5 k6 k7 n1;obtain ⟨k0,k1,k2,k3,k4,k5,k6,k7,fz⟩:=MRow.of HCB.out;obtain ⟨tb,htb⟩:∃tb,tb=decide ((c.m.kind,c.m.height,c.m.round)=(k,h,r)∧c.m.dig=d):=⟨_,rfl⟩;have HTB:=Hd htb;clear htb;go_cut [51] (fun t wc=>t = .bool tb∧wc=wa)
   case first=>
    by_cases z1:c.m.kind=k
    ·have y1:(c.m.kind == k)=true:=by simpa using z1
     by_cases z2:c.m.height=h
     ·have y2:(c.m.height == h)=true:=by simpa using z2
      by_cases z3:c.m.round=r
      ·have y3:(c.m.round == r)=true:=by simpa using z3
       by_cases z4:c.m.dig=d
       ·have y4:(c.m.dig.toList == d.toList)=true:=by rw [z4];exact beq_self_eq_true _
        have HE:=Hd (show tb=true from by rw [HTB.out];exact decide_eq_true ⟨by rw [z1,z2,z3],z4⟩);clear z1 z2 z3 z4;go_wp2_with fail
        go_meet;exact ⟨by rw [HE.out],rfl⟩
       have y4:(c.m.dig.toList == d.toList)=false:=beq_ne z4;have HE:=Hd (show tb=false from by rw [HTB.out];exact decide_eq_false (fun q=>z4 q.2));clear z1 z2 z3 z4;go_wp2_with fail
       go_meet;exact ⟨by rw [HE.out],rfl⟩
      have y3:(c.m.round == r)=false:=by simpa using z3
      have HE:=Hd (show tb=false from by rw [HTB.out];exact decide_eq_false (fun q=>z3 (by injection q.1 with _ q;injection q)));clear z1 z2 z3;go_wp2_with fail
      go_meet;exact ⟨by rw [HE.out],rfl⟩
     have y2:(c.m.height == h)=false:=by simpa using z2
     have HE:=Hd (show tb=false from by rw [HTB.out];exact decide_eq_false (fun q=>z2 (by injection q.1 with _ q;injection q)));clear z1 z2;go_wp2_with fail
     go_meet;exact ⟨by rw [HE.out],rfl⟩
    have y1:(c.m.kind == k)=false:=by simpa using z1
    have HE:=Hd (show tb=false from by rw [HTB.out];exact decide_eq_false (fun q=>z1 (by injection q.1)));clear z1;go_wp2_with fail
    go_meet;exact ⟨by rw [HE.out],rfl⟩
   case rest=>
   obtain ⟨rfl,hw⟩:=hcut;rw [hw];clear hw k0 k1 k2 k3 k4 k5 k6 k7 fz;rcases tb with _ | _
   ·have HE:=Hd (show countB (plainL (L.take (j+1))) k h r d=cn from by rw [HST.out,if_neg (of_decide_eq_false HTB.out.symm)];omega);go_wp2_with fail
    go_roundw
    case rel=>exact ⟨j+1,by omega,by go_num,by rw [HE.out],HBW.out⟩
    case measure=>simp [intOf];omega
   have HE:=Hd (show countB (plainL (L.take (j+1))) k h r d=cn+1 from by rw [HST.out,if_pos (of_decide_eq_true HTB.out.symm)]);go_wp2_with fail
   go_roundw
   case rel=>exact ⟨j+1,by omega,by go_num,by rw [HE.out],HBW.out⟩
   case measure=>simp [intOf];omega
  have j1:¬(j:Int)<(nl:Int):=by omega
  have HE:=Hd (show countB (plainL L) k h r d=cn from by
   rw [HCN.out,List.take_of_length_le (by rw [←HNL.out];omega)])
  go_wp2_with fail
  go_ret;exact ⟨by rw [HE.out];rfl,HB.out⟩
theorem keys_any (hB:RBox W bb n lv L) (hlen:L.length≤1000000000) (r:Int) (d:ByteArray) (h0:0≤r) (h1:r<100) :
  Calls Tryz.prog 32 #[pv bb,.int .i64 r,.string d] W fun e w'=>(∃q:Int,e = .returned (.int .i64 q)∧∀k:Int,r≤k→k≤99→countB (plainL L) 6 0 k d≤q)∧Below W.heap.size W w':=by
 have HB:=Hd hB;have HLE:=Hd hlen;clear hB hlen;unfold pv;go_enter Tryz.func32,Tryz.ntmps32
 go_wp2_with fail
 go_loopw [8,7] (fun rv mv wr=>∃(i q:Int),r≤i∧i≤100∧rv = .int .i64 i∧mv = .int .i64 q∧(∀k:Int,r≤k→k<i→countB (plainL L) 6 0 k d≤q)∧Below W.heap.size W wr) (fun rv _ _=>(100 - intOf rv).toNat)
 case atStart=>exact ⟨r,0,Int.le_refl _,by omega,rfl,rfl,fun k k1 k2=>by omega,Below.refl _ _⟩
 case round=>
  obtain ⟨i,q,hi,hi2,rfl,rfl,hq,hbw⟩:=hrel;have HBW:=Hd hbw;have HQ:=Hd hq;clear hbw hq;by_cases hin:i<100
  ·have hx:RBox wr bb n lv L:=⟨(HBW.out.block bb (gE HB.out.row).1).trans HB.out.row,HB.out.l.kept (fun g cur hg _=>HBW.out.block g (gE hg).1)⟩;have CT:=Hd (count_ref hx HLE.out 6 0 i d);obtain ⟨cn,hcn⟩:∃cn,cn=countB (plainL L) 6 0 i d:=⟨_,rfl⟩;have HCN:=Hd hcn;rw [←hcn] at CT;unfold pv at CT;clear hx hcn;go_wp2_with (go_at_call 34;(with_reducible refine CT.out.mono ?_);rintro e w2 ⟨rfl,hb2⟩;have HB2:=Hd hb2;clear hb2)
   go_roundw
   case rel=>
    refine ⟨i+1,max q cn,by omega,by omega,by go_num,by first | rfl | (congr 1),fun k k1 k2=>?_,HBW.out.trans (HB2.out.mono HBW.out.size)⟩;by_cases e:k=i
    ·subst e;rw [←HCN.out];omega
    have:=HQ.out k k1 (by omega);omega
   case measure=>simp [intOf];omega
  go_wp2_with fail
  go_ret;exact ⟨⟨q,rfl,fun k k1 k2=>HQ.out k k1 (by omega)⟩,HBW.out⟩
end
end
end Go.Proofs.YtifcdjmcoibblaaGreatDoor
