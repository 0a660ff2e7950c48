/- Ask PutN Ord -/
import Derived.Test.YtifcdjmcoibblaaGreatDoorFq20
import Derived.Test.YtifcdjmcoibblaaGreatDoorFq24
import Derived.Test.YtifcdjmcoibblaaGreatDoorFq01
import Derived.Test.YtifcdjmcoibblaaGreatDoorFq11
set_option linter.unusedVariables false
set_option linter.unusedSimpArgs false
set_option linter.unusedSectionVars false
set_option maxRecDepth 100000
set_option maxHeartbeats 80000000
namespace Go.Proofs.YtifcdjmcoibblaaGreatDoor
section
open Go.RowKit
theorem field_dig (a b c:Value) (w:World):(Instr.field 120 (.agg #[a,b,c]) 1).run Tryz.prog w = .ok b w:=by kernel_rfl
section
variable {R R0:Nat→Prop} {w:World} {x:Nat} {p:Ptr} {s:StB}
theorem ask_any {v:Value} {m:MsgB} (h:NodeP R w x p s) (hm:MsgV R0 w v m) (hn:1≤s.n) (hh:0≤m.height∧m.height≤1000000) (hr:0≤m.round∧m.round≤1000000) :
  Calls Tryz.prog 74 #[pv x,v] w fun e w'=>e = .returned (.tuple #[])∧Turned R w x (s.ask m) w':=by
 obtain ⟨sl,rfl,ao,cap,rfl,hcap,hrow⟩:=hm;obtain ⟨mb,hmb⟩:∃mb,mb=w.heap.size:=⟨_,rfl⟩;have HMB:=Hd hmb;have H:=Hd h;have HB0:=Hd ((Below.refl _ w).alloc (Nat.le_refl _) (.cells (encM m (.slice ao m.list.length cap)) 36));have HR0:=Hd (World.alloc_heap_new w (.cells (encM m (.slice ao m.list.length cap)) 36));have HHR:=Hd (And.intro hh hr);clear hrow hcap hmb h hh hr;unfold encM iv pv at *;go_enter Tryz.func74,Tryz.ntmps74
 go_upto_region 1 with (fail)
 obtain ⟨wa,hwa⟩:∃wa,wa=w.alloc (.cells #[.int .i64 m.kind,.int .i64 m.frm,.int .i64 m.to,.int .i64 m.height,.int .i64 m.round,.int .i64 m.valid,.string m.dig,.slice ao m.list.length cap] 36):=⟨_,rfl⟩;rw [←HMB.out] at HR0 ⊢;rw [←hwa] at HB0 HR0 ⊢;clear hwa;have HN0:=Hd (H.out.below HB0.out);obtain ⟨c0,c1,c2,c3,c4,c5,c6,c7,fz⟩:=MRow.of HR0.out;have d19:=HN0.out.nc.c19;have HN2:=Hd (HN0.out.up (.cells #[.int .i64 0,.int .i64 0] 165));have d19a:=HN2.out.nc.c19;have c1a:=cell_up c1 (.cells #[.int .i64 0,.int .i64 0] 165);have hlk:=HN2.out.drew.maps.look_ques m.frm true;have hlkb:=HN0.out.drew.maps.look_ques m.frm true;simp only [if_true] at hlk hlkb;obtain ⟨⟨q0,q1⟩,hq⟩:∃q,(getA m.frm s.ques).getD (0,0)=q:=⟨_,rfl⟩;obtain ⟨io,hio⟩:∃q,(getA m.frm s.ques).isSome=q:=⟨_,rfl⟩;rw [hq,hio] at hlk hlkb;have HQ:=Hd (show (io=true→getA m.frm s.ques=some (q0,q1))∧(io=false→getA m.frm s.ques=none) from by
  rcases hgs:getA m.frm s.ques with _ | q
  ·rw [hgs] at hq hio;simp at hio;subst hio;exact ⟨fun e=>(by cases e),fun _=>rfl⟩
  rw [hgs] at hq hio;simp at hio hq;subst hio;subst hq;exact ⟨fun _=>rfl,fun e=>(by cases e)⟩)
 unfold plv iv at hlk hlkb;clear hq hio;obtain ⟨qb,hqb⟩:∃qb,qb=wa.heap.size:=⟨_,rfl⟩;have HQB:=Hd hqb;clear hqb;go_cut [4,5] (fun t4 t5 wc=>t4 = .pointer (some ⟨qb,0,none⟩)∧t5 = .bool io∧wc.heap[qb]?=some (.cells #[.int .i64 q0,.int .i64 q1] 165 (0,0))∧Below wa.heap.size wa wc)
 case first=>
  go_region
  all_goals (go_wp2_with fail;go_meet;rw [HQB.out];exact ⟨rfl,rfl,World.alloc_heap_new wa _,((Below.refl _ wa).alloc (Nat.le_refl _) _).drew⟩)
 case rest=>
 obtain ⟨rfl,rfl,hrow2,hb2⟩:=hcut;obtain ⟨w2,rfl⟩:∃w2:World,w2=wc:=⟨_,rfl⟩;have HRQ:=Hd hrow2;have HB2:=Hd (HB0.out.trans (hb2.mono HB0.out.size));have HRM:=Hd ((hb2.block mb (gE HR0.out).1).trans HR0.out);clear hrow2 hb2 hlk hlkb c0 c1 c2 c3 c4 c5 c6 c7 fz d19 d19a c1a HN2 HN0 HQB HR0;obtain ⟨c0,c1,c2,c3,c4,c5,c6,c7,fz⟩:=MRow.of HRM.out;go_upto_region 3 with (fail)
 obtain ⟨w3,hw3⟩:∃w3,w3=w2.alloc (.cells #[.int .i64 m.height,.int .i64 m.frm] 165):=⟨_,rfl⟩;have HB23:=Hd (show Below w2.heap.size w2 w3 from by rw [hw3];exact (Below.refl _ _).alloc (Nat.le_refl _) _);have HRT:=Hd (show w3.heap[w2.heap.size]?=some (.cells #[.int .i64 m.height,.int .i64 m.frm] 165 (0,0)) from by rw [hw3];exact World.alloc_heap_new w2 _);rw [←hw3];obtain ⟨tb,htb⟩:∃tb,tb=w2.heap.size:=⟨_,rfl⟩;rw [←htb] at HRT ⊢;clear hw3 htb;have HB3:=Hd (HB2.out.trans (HB23.out.mono HB2.out.size));have HRM3:=Hd ((HB23.out.block mb (gE HRM.out).1).trans HRM.out);have HRQ3:=Hd ((HB23.out.block qb (gE HRQ.out).1).trans HRQ.out);have HN3:=Hd (H.out.below HB3.out);clear c0 c1 c2 c3 c4 c5 c6 c7 fz HRM HRQ HB23;obtain ⟨da,dsl,DL⟩:=decs_look H.out m.height;have HDL:=Hd DL;have IP:=Hd (fun W (hW:Below w.heap.size w W)=>isProposer_any (H.out.below hW) m.frm m.height m.round hn HHR.out.1 HHR.out.2);unfold pv iv at IP;obtain ⟨tl,htl⟩:∃tl,tl=tellB s m:=⟨_,rfl⟩;have HTL:=Hd htl;obtain ⟨dd,hdd⟩:∃dd,dd=s.decDig m.height:=⟨_,rfl⟩;rw [←hdd] at HDL;have HTE:=Hd (show tl=((m.kind == 3) && !(s.proposer m.frm m.height m.round) && (m.dig.toList == dd.toList)) from by rw [htl,hdd];rfl);clear DL htl hdd;go_cut [48] (fun t wc=>t = .bool tl∧Below w3.heap.size w3 wc)
 case first=>
  obtain ⟨c0,c1,c2,c3,c4,c5,c6,c7,fz⟩:=MRow.of HRM3.out;by_cases k3:m.kind=3
  ·have e3:(m.kind == 3)=true:=by simpa using k3
   rcases hp:s.proposer m.frm m.height m.round with _ | _
   ·rw [hp] at IP;have d18:=HN3.out.nc.c18;have KEEP:=Hd (show ∀W,Below w3.heap.size w3 W→W.cell? ⟨mb,0,none⟩=some (.int .i64 m.kind)∧W.cell? ⟨mb,1,none⟩=some (.int .i64 m.frm)∧W.cell? ⟨mb,3,none⟩=some (.int .i64 m.height)∧W.cell? ⟨mb,4,none⟩=some (.int .i64 m.round)∧W.cell? ⟨mb,6,none⟩=some (.string m.dig)∧W.cell? ⟨x,18,none⟩=some (.map (some p.decs))∧(Instr.lookup 105 (.map (some p.decs)) (.int .i64 m.height) false).run Tryz.prog W = .ok (.agg #[.int .i64 da,.string dd,dsl]) W∧(Instr.field 120 (.agg #[.int .i64 da,.string dd,dsl]) 1).run Tryz.prog W = .ok (.string dd) W∧Below w3.heap.size w3 W from fun W hW=>by
     have hr:=MRow.of ((hW.block mb (gE HRM3.out).1).trans HRM3.out);exact ⟨hr.c0,hr.c1,hr.c3,hr.c4,hr.c6,(HN3.out.below hW).nc.c18,HDL.out W (HB3.out.trans (hW.mono HB3.out.size)),field_dig _ _ _ W,hW⟩)
    have e5:tl=(m.dig.toList == dd.toList):=by rw [HTE.out,e3,hp];rfl
    have HE5:=Hd e5;have IP2:=Hd (fun W (hW:Below w3.heap.size w3 W)=>IP.out W (HB3.out.trans (hW.mono HB3.out.size)));clear k3 hp e5;go_region_held3 (fun W=>W.cell? ⟨mb,0,none⟩=some (.int .i64 m.kind)∧W.cell? ⟨mb,1,none⟩=some (.int .i64 m.frm)∧W.cell? ⟨mb,3,none⟩=some (.int .i64 m.height)∧W.cell? ⟨mb,4,none⟩=some (.int .i64 m.round)∧W.cell? ⟨mb,6,none⟩=some (.string m.dig)∧W.cell? ⟨x,18,none⟩=some (.map (some p.decs))∧(Instr.lookup 105 (.map (some p.decs)) (.int .i64 m.height) false).run Tryz.prog W = .ok (.agg #[.int .i64 da,.string dd,dsl]) W∧(Instr.field 120 (.agg #[.int .i64 da,.string dd,dsl]) 1).run Tryz.prog W = .ok (.string dd) W∧Below w3.heap.size w3 W)
     (first | (exact KEEP.out _ (Below.refl _ w3).drew) | (go_split_ands;exact ⟨by assumption,by assumption,by assumption,by assumption,by assumption,by assumption,by assumption,by assumption,by assumption⟩))
     (first | (go_at_call 76;refine (IP2.out _ ?_).mono ?_;(go_split_ands;assumption);rintro _ _ ⟨rfl,rfl⟩))
    go_wp2_with fail
    go_meet;exact ⟨by rw [HE5.out],(Below.refl _ _).drew⟩
   rw [hp] at IP;have e4:tl=false:=by rw [HTE.out,hp];simp
   go_quiet ((go_at_call 76;exact Calls.quiet_of_same (IP.out _ (below_drewN HB3.out _))))
   go_wp2_with fail
   go_meet;exact ⟨by rw [e4],below_drewN (Below.refl _ _) _⟩
  have e3:(m.kind == 3)=false:=by simpa using k3
  have e4:tl=false:=by rw [HTE.out,e3];rfl
  go_region
  go_wp2_with fail
  go_meet;exact ⟨by rw [e4],(Below.refl _ _).drew⟩
 case rest=>
 obtain ⟨rfl,hb4⟩:=hcut;obtain ⟨w4,rfl⟩:∃w4:World,w4=wc:=⟨_,rfl⟩;have HB4:=Hd (HB3.out.trans (hb4.mono HB3.out.size));have HN4:=Hd (H.out.below HB4.out);have HRM4:=Hd ((hb4.block mb (gE HRM3.out).1).trans HRM3.out);have HRQ4:=Hd ((hb4.block qb (gE HRQ3.out).1).trans HRQ3.out);have HRT4:=Hd ((hb4.block tb (gE HRT.out).1).trans HRT.out);clear hb4 HRM3 HRQ3 HRT HN3 HB3 HB2 IP HDL;have t0:=cell_of_row w4 tb 0 _ _ _ HRT4.out;have t1:=cell_of_row w4 tb 1 _ _ _ HRT4.out;simp at t0 t1;have d20:=HN4.out.nc.c20;rcases tl with _ | _
 ·have li:=HN4.out.maps.look_inf m.height m.frm;have lid:=HN4.out.drew.maps.look_inf m.height m.frm;rcases hk:memD (m.height,m.frm) s.inf with _ | _
  ·rw [hk] at li lid;have HE:=Hd (ask_new HTL.out.symm (memD_false.1 hk));clear hk;go_upto_region 7 with (fail)
   go_region
   clear t0 t1 li lid d20;have HN5:=Hd HN4.out.drew;obtain ⟨w5,hw5⟩:∃w5,w5=w4.drew:=⟨_,rfl⟩;have HB5:=Hd (show Below w.heap.size w w5 from by rw [hw5];exact HB4.out.drew);have HRM5:=Hd (show w5.heap[mb]?=some (.cells (encM m (.slice ao m.list.length cap)) 36 (0,0)) from by rw [hw5];exact HRM4.out);have HRQ5:=Hd (show w5.heap[qb]?=some (.cells #[.int .i64 q0,.int .i64 q1] 165 (0,0)) from by rw [hw5];exact HRQ4.out);rw [←hw5] at HN5 ⊢;clear hw5 HN4 HRM4 HRQ4 HRT4 HB4;obtain ⟨c0,c1,c2,c3,c4,c5,c6,c7,fz⟩:=MRow.of HRM5.out;have g0:=cell_of_row w5 qb 0 _ _ _ HRQ5.out;have g1:=cell_of_row w5 qb 1 _ _ _ HRQ5.out;simp at g0 g1;have d19:=HN5.out.nc.c19;obtain ⟨ab,hab⟩:∃ab,ab=askB s m:=⟨_,rfl⟩;have HAB:=Hd (show (io=true→ab=(decide (q0<m.height) || (decide (q0=m.height) && decide (q1<m.round))))∧(io=false→ab=true) from by
    rw [hab];unfold askB;exact ⟨fun e=>by rw [HQ.out.1 e],fun e=>by rw [HQ.out.2 e]⟩)
   rw [←hab] at HE;clear hab;obtain ⟨ob,hup,hnf⟩:=HN5.out.drew.lay_ques m.frm m.height m.round;have HNF:=Hd hnf;have HOW:=Hd (HN5.out.maps.own p.ques (by simp [Ptr.maps]));clear hnf;have YES:=Hd (fun (e:ab=true)=>show Turned R w x (s.ask m) (w5.drew.putObj p.ques ob) from by
    rw [HE.out,if_pos e];exact Turned.after HB5.out.drew (Turned.of HNF.out (Chg.put _ p.ques ob HOW.out)))
   have NO:=Hd (fun (e:ab=false)=>show Turned R w x (s.ask m) w5 from by
    rw [HE.out,e];exact Turned.of HN5.out (Chg.of_below HB5.out (fun k q1 q2=>by omega)))
   rcases io with _ | _
   ·have HY:=Hd (YES.out (HAB.out.2 rfl));clear YES NO;go_upto_region 9 with (fail)
    go_region
    go_wp2
    exact bodyPost_end (results_none rfl _ _ _) rfl ⟨rfl,HY.out⟩
   by_cases h1:q0<m.height
   ·have HY:=Hd (YES.out (by rw [HAB.out.1 rfl];simp [h1]));clear YES NO;go_upto_region 9 with (fail)
    go_region
    go_wp2
    exact bodyPost_end (results_none rfl _ _ _) rfl ⟨rfl,HY.out⟩
   have h1b:decide (q0<m.height)=false:=by simpa using h1
   by_cases h2:q0=m.height
   ·have h2b:(q0 == m.height)=true:=by simpa using h2
    by_cases h3:q1<m.round
    ·have HY:=Hd (YES.out (by rw [HAB.out.1 rfl];simp [h2,h3]));clear YES NO h2;go_upto_region 9 with (fail)
     go_region
     go_wp2
     exact bodyPost_end (results_none rfl _ _ _) rfl ⟨rfl,HY.out⟩
    have HY:=Hd (NO.out (by rw [HAB.out.1 rfl];simp [h1,h3]));have h3b:decide (q1<m.round)=false:=by simpa using h3
    clear YES NO h2;go_wp2
    exact bodyPost_end (results_none rfl _ _ _) rfl ⟨rfl,HY.out⟩
   have h2b:(q0 == m.height)=false:=by simpa using h2
   have HY:=Hd (NO.out (by rw [HAB.out.1 rfl];simp [h1,h2]));clear YES NO;go_wp2
   exact bodyPost_end (results_none rfl _ _ _) rfl ⟨rfl,HY.out⟩
  rw [hk] at li lid;have HE:=Hd (ask_known HTL.out.symm (memD_true.1 hk));clear hk;go_upto_region 7 with (fail)
  go_region
  go_wp2
  refine bodyPost_ret (results_none rfl _ _ _) rfl ⟨rfl,?_⟩;rw [HE.out];exact Turned.of HN4.out.drew (Chg.of_below HB4.out.drew (fun k q1 q2=>by omega))
 have HE:=Hd (ask_tell HTL.out.symm);obtain ⟨ob,hup,hnf⟩:=HN4.out.drew.lay_inf m.height m.frm;have HN5:=Hd hnf;have HOI:=Hd (HN4.out.maps.own p.inf (by simp [Ptr.maps]));clear hnf;have hil:p.inf<w.heap.size:=H.out.lt _ (H.out.maps.own p.inf (by simp [Ptr.maps]));have HMBL:=Hd (show p.inf<mb from by rw [HMB.out];exact hil);have KPI:=Hd (show ∀(k:Nat) (o:Obj),w4.heap[k]?=some o→(∀es c,o≠.map es c)→(w4.drew.putObj p.inf ob).heap[k]?=some o from fun k o hk hne=>by
  have e:k≠p.inf:=fun e=>by
   obtain ⟨es,c,q⟩:=HN4.out.maps.isMap p.inf (by simp [Ptr.maps]);rw [e,q] at hk;injection hk with hk;exact hne es c hk.symm
  exact (World.putObj_heap_other e).trans hk)
 have HRM5:=Hd (KPI.out mb _ HRM4.out (fun es c=>by simp));have HRQ5:=Hd (KPI.out qb _ HRQ4.out (fun es c=>by simp));have HC5:=Hd (show Chg R w (w4.drew.putObj p.inf ob) from (Chg.of_below HB4.out.drew (fun k q1 q2=>by omega)).trans ((Chg.put _ p.inf ob HOI.out).mono (fun k _ hk=>.inl hk)));clear hil KPI;go_upto_region 4 with (fail)
 go_region
 obtain ⟨w5,hw5⟩:∃w5,w5=w4.drew.putObj p.inf ob:=⟨_,rfl⟩;rw [←hw5] at HN5 HRM5 HRQ5 HC5 ⊢;clear hw5 hup t0 t1 d20 HRM4 HRQ4 HRT4 HN4 HB4;obtain ⟨c0,c1,c2,c3,c4,c5,c6,c7,fz⟩:=MRow.of HRM5.out;have g0:=cell_of_row w5 qb 0 _ _ _ HRQ5.out;simp at g0;have d19:=HN5.out.nc.c19;obtain ⟨db,hdb⟩:∃db,db=dropB s m:=⟨_,rfl⟩;have HDB:=Hd (show (io=true→db=decide (q0=m.height))∧(io=false→db=false) from by
  rw [hdb];unfold dropB;exact ⟨fun e=>by rw [HQ.out.1 e],fun e=>by rw [HQ.out.2 e]⟩)
 rw [←hdb] at HE;clear hdb;obtain ⟨oc,hud,hnd⟩:=HN5.out.drew.lay_del m.frm 0;have HND:=Hd hnd;have HOW:=Hd (HN5.out.maps.own p.ques (by simp [Ptr.maps]));clear hnd;have YES:=Hd (fun (e:db=true)=>show Turned R w x (s.ask m) (w5.drew.putObj p.ques oc) from by
  rw [HE.out,if_pos e];exact ⟨p,R,HND.out,HC5.out.trans (((Chg.drew R w5).trans ((Chg.put _ p.ques oc HOW.out).mono (fun k _ hk=>.inl hk))).mono (fun k _ hk=>.inl hk)),Grows.refl R w⟩)
 have NO:=Hd (fun (e:db=false)=>show Turned R w x (s.ask m) w5 from by
  rw [HE.out,e];exact ⟨p,R,HN5.out,HC5.out,Grows.refl R w⟩)
 rcases io with _ | _
 ·have HY:=Hd (NO.out (HDB.out.2 rfl));clear YES NO;go_wp2
  exact bodyPost_ret (results_none rfl _ _ _) rfl ⟨rfl,HY.out⟩
 by_cases h2:q0=m.height
 ·have h2b:(q0 == m.height)=true:=by simpa using h2
  have HY:=Hd (YES.out (by rw [HDB.out.1 rfl];simp [h2]));clear YES NO h2;go_upto_region 6 with (fail)
  go_region
  go_wp2
  exact bodyPost_ret (results_none rfl _ _ _) rfl ⟨rfl,HY.out⟩
 have h2b:(q0 == m.height)=false:=by simpa using h2
 have HY:=Hd (NO.out (by rw [HDB.out.1 rfl];simp [h2]));clear YES NO;go_wp2
 exact bodyPost_ret (results_none rfl _ _ _) rfl ⟨rfl,HY.out⟩
end
end
section
open Go.RowKit
theorem NodeP.props_new {R R':Nat→Prop} {w w':World} {x:Nat} {p:Ptr} {s:StB} (h:NodeP R w x p s) (hk:∀k,k<w.heap.size→k≠p.props→w'.heap[k]?=w.heap[k]?) (hR:∀k,R k→R' k) (hlt:∀k,R' k→k<w'.heap.size) (ml:List (Int×MsgB)) (hm:∃L,RawMap w' p.props L∧All2 (RMsg R' w') L ml):NodeP R' w' x p {s with props:=ml}:=by
 have hb:=h.but (b:=p.props) (by simp [Ptr.maps]) hk;have hs:∀g cur fr,R g→w.heap[g]?=some (.cells cur 9 fr)→w'.heap[g]?=w.heap[g]?:=fun g cur fr _ hg=>hb g cur _ fr hg;have nd:=h.maps.nd;simp only [Ptr.maps,List.nodup_cons,List.mem_cons,List.not_mem_nil,or_false,not_or] at nd;have hrest:=(h.rest.kept (w':=w') (fun g cur t fr _ hg _=>hb g cur t fr hg)).mono hR;refine ⟨(hb _ _ _ _ h.node).trans h.node,hR _ h.mem,?_,⟨hrest.box,hrest.lock,hrest.valid,hrest.own,hrest.order,hrest.mine⟩,hlt⟩;refine ⟨?_,?_,?_,?_,?_,?_,?_,?_,?_,h.maps.nd,fun b q=>hR b (h.maps.own b q)⟩
 ·exact h.maps.acc.kept (hk _ h.maps.acc.lt (fun e=>by simp_all))
 ·exact hm
 ·obtain ⟨L,l1,l2⟩:=h.maps.claims;exact ⟨L,l1.kept (hk _ l1.lt (fun e=>by simp_all)),l2.mono (fun a b q=>⟨q.1,(q.2.kept hs).mono hR⟩)⟩
 ·exact h.maps.votes.kept (hk _ h.maps.votes.lt (fun e=>by simp_all))
 ·exact h.maps.stand.kept (hk _ h.maps.stand.lt (fun e=>by simp_all))
 ·exact h.maps.made.kept (hk _ h.maps.made.lt (fun e=>by simp_all))
 ·obtain ⟨L,l1,l2⟩:=h.maps.decs;exact ⟨L,l1.kept (hk _ l1.lt (fun e=>by simp_all)),l2.mono (fun a b q=>⟨q.1,(q.2.kept hs).mono hR⟩)⟩
 ·exact h.maps.ques.kept (hk _ h.maps.ques.lt (fun e=>by simp_all))
 exact h.maps.inf.kept (hk _ h.maps.inf.lt (fun e=>by simp_all))
theorem NodeP.claims_new {R R':Nat→Prop} {w w':World} {x:Nat} {p:Ptr} {s:StB} (h:NodeP R w x p s) (hk:∀k,k<w.heap.size→k≠p.claims→w'.heap[k]?=w.heap[k]?) (hR:∀k,R k→R' k) (hlt:∀k,R' k→k<w'.heap.size) (ml:List (Int×MsgB)) (hm:∃L,RawMap w' p.claims L∧All2 (RMsg R' w') L ml):NodeP R' w' x p {s with claims:=ml}:=by
 have hb:=h.but (b:=p.claims) (by simp [Ptr.maps]) hk;have hs:∀g cur fr,R g→w.heap[g]?=some (.cells cur 9 fr)→w'.heap[g]?=w.heap[g]?:=fun g cur fr _ hg=>hb g cur _ fr hg;have nd:=h.maps.nd;simp only [Ptr.maps,List.nodup_cons,List.mem_cons,List.not_mem_nil,or_false,not_or] at nd;have hrest:=(h.rest.kept (w':=w') (fun g cur t fr _ hg _=>hb g cur t fr hg)).mono hR;refine ⟨(hb _ _ _ _ h.node).trans h.node,hR _ h.mem,?_,⟨hrest.box,hrest.lock,hrest.valid,hrest.own,hrest.order,hrest.mine⟩,hlt⟩;refine ⟨?_,?_,?_,?_,?_,?_,?_,?_,?_,h.maps.nd,fun b q=>hR b (h.maps.own b q)⟩
 ·exact h.maps.acc.kept (hk _ h.maps.acc.lt (fun e=>by simp_all))
 ·obtain ⟨L,l1,l2⟩:=h.maps.props;exact ⟨L,l1.kept (hk _ l1.lt (fun e=>by simp_all)),l2.mono (fun a b q=>⟨q.1,(q.2.kept hs).mono hR⟩)⟩
 ·exact hm
 ·exact h.maps.votes.kept (hk _ h.maps.votes.lt (fun e=>by simp_all))
 ·exact h.maps.stand.kept (hk _ h.maps.stand.lt (fun e=>by simp_all))
 ·exact h.maps.made.kept (hk _ h.maps.made.lt (fun e=>by simp_all))
 ·obtain ⟨L,l1,l2⟩:=h.maps.decs;exact ⟨L,l1.kept (hk _ l1.lt (fun e=>by simp_all)),l2.mono (fun a b q=>⟨q.1,(q.2.kept hs).mono hR⟩)⟩
 ·exact h.maps.ques.kept (hk _ h.maps.ques.lt (fun e=>by simp_all))
 exact h.maps.inf.kept (hk _ h.maps.inf.lt (fun e=>by simp_all))
end
section
open Go.RowKit
theorem NodeP.order_grown {R:Nat→Prop} {w w':World} {x:Nat} {p:Ptr} {s:StB} (h:NodeP R w x p s) (hg:w.grownBy w' p.order.ownBlock):∀g cur t fr,R g→w.heap[g]?=some (Obj.cells cur t fr)→t≠3→w'.heap[g]?=w.heap[g]?:=by
 intro g cur t fr hr hc ht;have hlt:g<w.heap.size:=(gE hc).1;refine hg.block g hlt (fun e=>?_);obtain ⟨_,h2 | ⟨g2,cap,c2,hv,_,h3,_⟩⟩:=h.rest.order.1
 ·rw [h2.1] at e;cases e
 rw [hv] at e;simp [Value.ownBlock] at e;subst e;rw [h3] at hc;cases hc;exact ht rfl
theorem NodeP.omaps_grown {R:Nat→Prop} {w w':World} {x:Nat} {p:Ptr} {s:StB} (h:NodeP R w x p s) (hg:w.grownBy w' p.order.ownBlock):∀b∈p.maps,w'.heap[b]?=w.heap[b]?:=by
 intro b hb;obtain ⟨es,c,hm⟩:=h.maps.isMap b hb;have hlt:b<w.heap.size:=(gE hm).1;refine hg.block b hlt (fun e=>?_);obtain ⟨_,h2 | ⟨g2,cap,c2,hv,_,h3,_⟩⟩:=h.rest.order.1
 ·rw [h2.1] at e;cases e
 rw [hv] at e;simp [Value.ownBlock] at e;subst e;rw [h3] at hm;cases hm
theorem NodeP.order_put {R:Nat→Prop} {w w':World} {x:Nat} {p:Ptr} {s:StB} (h:NodeP R w x p s) {z:Int} {v':Value} (hg:w.grownBy w' p.order.ownBlock)
  (hown:w'.ownsRow 0 3 1 v' (s.order.length+1) (s.order.map iv ++ [iv z])) (hv:∀g,v'.ownBlock=some g→p.order.ownBlock=some g∨w.heap.size≤g) :
  NodeP (fun k=>R k∨v'.ownBlock=some k) (w'.setCell ⟨x,11,none⟩ v') x {p with order:=v'} {s with order:=s.order ++ [z]}:=by
 have hk:=h.order_grown hg;have hstr:∀g cur fr,R g→w.heap[g]?=some (Obj.cells cur 9 fr)→w'.heap[g]?=w.heap[g]?:=fun g cur fr hr hc=>hk g cur _ fr hr hc (by decide);have hx:w'.heap[x]?=some (.cells (nodeRow s p) 117 (0,0)):=(hk x _ _ _ h.mem h.node (by decide)).trans h.node;have hother:∀k,k≠x→(w'.setCell ⟨x,11,none⟩ v').heap[k]?=w'.heap[k]?:=fun k hk=>Below.heap_setCell w' ⟨x,11,none⟩ _ k hk;have hm2:Maps R w' p s:=h.maps.kept (h.omaps_grown hg) (fun g cur fr hr hc=>hstr g cur fr hr hc);have hne:∀{g:Nat} {cur:Array Value} {t:TypeId} {fr:Nat×Nat},w'.heap[g]?=some (Obj.cells cur t fr)→t≠117→g≠x:=fun {g cur t fr} hc ht e=>by
  subst e;rw [hx] at hc;cases hc;exact ht rfl
 have hstr2:∀g cur fr,R g→w'.heap[g]?=some (Obj.cells cur 9 fr)→(w'.setCell ⟨x,11,none⟩ v').heap[g]?=w'.heap[g]?:=fun g cur fr _ hc=>hother g (hne hc (by decide));have hval2:∀g cur fr,R g→w'.heap[g]?=some (Obj.cells cur 120 fr)→(w'.setCell ⟨x,11,none⟩ v').heap[g]?=w'.heap[g]?:=fun g cur fr _ hc=>hother g (hne hc (by decide));have hval1:∀g cur fr,R g→w.heap[g]?=some (Obj.cells cur 120 fr)→w'.heap[g]?=w.heap[g]?:=fun g cur fr hr hc=>hk g cur _ fr hr hc (by decide);have hm3:Maps R (w'.setCell ⟨x,11,none⟩ v') p s:=hm2.kept (fun b hb=>hother b (fun e=>by
  obtain ⟨es,c,q⟩:=hm2.isMap b hb;subst e;rw [hx] at q;cases q)) hstr2
 refine ⟨heap_setC hx v',.inl h.mem,(hm3.mono (fun k hk=>.inl hk)).same,?_,fun k hk=>?_⟩
 ·have hb:=(hk p.box _ _ _ h.rest.box.1 h.rest.box.2 (by decide)).trans h.rest.box.2;obtain ⟨sls,a1,a2⟩:=h.rest.mine.1;refine ⟨⟨.inl h.rest.box.1,(hother _ (hne hb (by decide))).trans hb⟩,((h.rest.lock.kept hstr hval1).kept hstr2 hval2).mono (fun k hk=>.inl hk),((h.rest.valid.kept hstr hval1).kept hstr2 hval2).mono (fun k hk=>.inl hk),((h.rest.own.kept hstr hval1).kept hstr2 hval2).mono (fun k hk=>.inl hk),⟨?_,fun g hg2=>.inr hg2⟩,⟨sls,a1.mono (fun a b q=>((q.kept hstr).kept hstr2).mono (fun k hk=>.inl hk)),?_⟩,fun g hg2=>.inl (h.rest.mine.2 g hg2)⟩
  ·show World.ownsRow _ 0 _ 1 v' (s.order ++ [z]).length ((s.order ++ [z]).map iv);rw [List.length_append,List.map_append];exact owns_blk hown (fun g cur _ hc=>hother g (hne hc (by decide)))
  exact owns_blk (owns_blk a2 (fun g cur hg2 hc=>hk g cur _ _ (h.rest.mine.2 g hg2) hc (by decide))) (fun g cur hg2 hc=>hother g (hne hc (by decide)))
 have hsz:(w'.setCell ⟨x,11,none⟩ v').heap.size=w'.heap.size:=by simp [World.setCell]
 rw [hsz];rcases hk with hk | hk
 ·exact Nat.lt_of_lt_of_le (h.lt k hk) hg.size
 obtain ⟨_,h2 | ⟨g2,cap,c2,hv2,_,h3,_⟩⟩:=hown
 ·rw [h2.1] at hk;cases hk
 rw [hv2] at hk;simp [Value.ownBlock] at hk;subst hk;exact (gE h3).1
end
end Go.Proofs.YtifcdjmcoibblaaGreatDoor
