/- R4 -/
import Derived.Test.YtifcdjmcoibblaaGreatDoorFq35
import Derived.Test.YtifcdjmcoibblaaGreatDoorFq01
set_option linter.unusedVariables false
set_option linter.unusedSimpArgs false
set_option linter.unusedSectionVars false
set_option maxRecDepth 100000
set_option maxHeartbeats 80000000
namespace Go.Proofs.YtifcdjmcoibblaaGreatDoor
section
open Go.RowKit
section
variable {R:Nat→Prop} {w:World} {x:Nat} {p:Ptr} {s:StB} {G:ByteArray→List ByteArray→Prop}
def PtV (R:Nat→Prop) (w:World) (t:Value):Option ValB→Prop
 | none=>t = .pointer none
 | some v=>∃g sl,t = .pointer (some ⟨g,0,none⟩)∧R g∧w.heap[g]?=some (.cells #[iv v.round,.string v.dig,sl] 120 (0,0))∧LRow R w sl v.list
theorem PtV.of {q:Option Nat} {o:Option ValB} (h:ValP R w q o):PtV R w (po q) o:=by
 match q,o,h with
 | none,none,_=>rfl
 | some g,some v,⟨h0,sl,h1,h2⟩=>exact ⟨g,sl,rfl,h0,h1,h2⟩
theorem propose_none (h:s.toPropose=none):s.rPropose=none:=by unfold NS.rPropose;rw [h]
theorem propose_bad (h:s.step≠1∨s.proposer s.id s.height s.round=false∨((3:Int),s.round)∈s.made):s.rPropose=none:=by
 unfold NS.rPropose;rcases s.toPropose with _ | v
 ·rfl
 simp only;rw [if_pos h]
theorem propose_ok {v:ValB} (h:s.toPropose=some v) (h1:s.step=1) (h2:s.proposer s.id s.height s.round=true) (h3:((3:Int),s.round)∉s.made):s.rPropose=some (s.say ⟨3,0,0,0,s.round,v.round,v.dig,v.list⟩):=by
 unfold NS.rPropose;rw [h];simp only;rw [if_neg (by simp [h1,h2,h3])]
def useV (s:StB):Bool:=match s.valid with | some v=>decide (v.round<s.round) | none=>false
theorem toPropose_eq (s:StB):s.toPropose=if useV s=true then s.valid else s.own:=by
 unfold NS.toPropose useV;rcases s.valid with _ | v
 ·simp
 by_cases q:v.round<s.round <;> simp [q]
theorem propose_any (h:NodeP R w x p s) (ok:Ok G s) (gl:GLaw G) (hx:Shy G s.id→s.proposer s.id s.height s.round=false):Calls Tryz.prog 120 #[pv x] w (RuleE R w x s.rPropose):=by
 have hI:=ok.inv.num;have H:=Hd h;have HOK:=Hd ok;have HX:=Hd hx;clear hx;have HI:=Hd hI;have VV:=PtV.of h.rest.valid;have VO:=PtV.of h.rest.own;have c1:=h.nc.c1;have c6:=h.nc.c6;have c7:=h.nc.c7;have hfz:=h.nc.fz;obtain ⟨tv,htv⟩:∃tv,tv=po p.valid:=⟨_,rfl⟩;obtain ⟨tw,htw⟩:∃tw,tw=po p.own:=⟨_,rfl⟩;rw [←htv] at c6 VV;rw [←htw] at c7 VO;have HVV:=Hd VV;have HVO:=Hd VO;obtain ⟨ub,hub⟩:∃ub,ub=useV s:=⟨_,rfl⟩;have HUB:=Hd hub;have LV:(tv = .pointer none∧ub=false)∨∃g r,tv = .pointer (some ⟨g,0,none⟩)∧w.cell? ⟨g,0,none⟩=some (.int .i64 r)∧ub=decide (r<s.round):=by
  rw [hub];unfold useV;rcases hv:s.valid with _ | v
  ·rw [hv] at VV;exact .inl ⟨VV,rfl⟩
  rw [hv] at VV;obtain ⟨g,sl,e,_,hc,_⟩:=VV;exact .inr ⟨g,v.round,e,by rw [cell_of_row w g 0 _ _ _ hc];rfl,rfl⟩
 clear h hI ok htv htw VV VO hub;unfold pv at *;try unfold iv at *
 go_enter Tryz.func120,Tryz.ntmps120
 go_upto_region 2 with (fail)
 go_cut [30] (fun t wc=>t = .bool ub∧wc=w.drew)
 case first=>
  rcases LV with ⟨rfl,e2⟩ | ⟨g,r,rfl,cg,e2⟩
  ·go_region
   go_wp2_with fail
   go_meet;exact ⟨by rw [e2],rfl⟩
  by_cases hr:r<s.round
  ·have e3:decide (r<s.round)=true:=by simpa using hr
   go_region
   go_wp2_with fail
   go_meet;exact ⟨by rw [e2,e3],rfl⟩
  have e3:decide (r<s.round)=false:=by simpa using hr
  go_region
  go_wp2_with fail
  go_meet;exact ⟨by rw [e2,e3],rfl⟩
 case rest=>
 obtain ⟨rfl,rfl⟩:=hcut;obtain ⟨tp,htp⟩:∃tp,tp=if ub=true then tv else tw:=⟨_,rfl⟩
 have HPT:=Hd (show PtV R w tp s.toPropose from by
  rw [htp,toPropose_eq,←HUB.out];rcases ub with _ | _
  ·exact HVO.out
  exact HVV.out)
 clear LV;go_upto_if 30 with (fail)
 go_cut [3] (fun t wc=>t=tp∧wc=w.drew)
 case first=>
  rcases ub with _ | _
  ·go_wp2_with fail
   go_meet;exact ⟨by rw [htp];rfl,rfl⟩
  go_wp2_with fail
  go_meet;exact ⟨by rw [htp];rfl,rfl⟩
 case rest=>
 obtain ⟨rfl,rfl⟩:=hcut;obtain ⟨wy,hwy⟩:∃wy,wy=w.drew:=⟨_,rfl⟩;have HBY:=Hd (show Below w.heap.size w wy from by rw [hwy];exact (Below.refl _ _).drew);rw [←hwy];have HNY:=Hd (H.out.below HBY.out);clear c1 c6 c7 hfz htp hwy HVV HVO HUB;have KEEP:=Hd (show ∀W,Below w.heap.size w W→W.cell? ⟨x,0,none⟩=some (.int .i64 s.height)∧W.cell? ⟨x,1,none⟩=some (.int .i64 s.round)∧W.cell? ⟨x,2,none⟩=some (.int .i64 s.step)∧W.cell? ⟨x,15,none⟩=some (.map (some p.made))∧W.cell? ⟨x,16,none⟩=some (.int .i64 s.id)∧(Instr.lookup 113 (.map (some p.made)) (.agg #[.int .i64 3,.int .i64 s.round]) false).run Tryz.prog W = .ok (.bool (memD ((3:Int),s.round) s.made)) W∧Below w.heap.size w W from fun W hW=>⟨(H.out.below hW).nc.c0,(H.out.below hW).nc.c1,(H.out.below hW).nc.c2,(H.out.below hW).nc.c15,(H.out.below hW).nc.c16,(H.out.below hW).maps.look_made 3 s.round,hW⟩);have IP:=Hd (fun W (hW:Below w.heap.size w W)=>isProposer_any (H.out.below hW) s.id s.height s.round HI.out.n1 ⟨HI.out.h0,by have:=HI.out.h1;omega⟩ ⟨HI.out.r0,by have:=HI.out.r1;omega⟩);have d0:=HNY.out.nc.c0;have d1:=HNY.out.nc.c1;have d2:=HNY.out.nc.c2;have d15:=HNY.out.nc.c15;have d16:=HNY.out.nc.c16;have hlk:=(H.out.below HBY.out).maps.look_made 3 s.round;have hlkd:=(H.out.below HBY.out.drew).maps.look_made 3 s.round;unfold pv iv at IP;by_cases h1:s.step=1
 ·rw [h1] at d2 KEEP;rcases htp:s.toPropose with _ | v
  ·have HE:=Hd (propose_none htp);rw [htp] at HPT;have e:=HPT.out;unfold PtV at e;subst e;clear htp h1 KEEP;go_upto_region 4 with (fail)
   go_region
   all_goals (
    go_wp2
    go_ret;rw [HE.out];exact ⟨rfl,HBY.out.drew⟩)
  rw [htp] at HPT;obtain ⟨g,sl,e,hRg,hcell,hrow⟩:=HPT.out;subst e;have HCL:=Hd hcell;have HLR:=Hd hrow;have HTP:=Hd htp;have HH1:=Hd h1;clear htp hcell hrow h1;rcases hp:s.proposer s.id s.height s.round with _ | _
  ·have HE:=Hd (propose_bad (.inr (.inl hp)));rw [hp] at IP;clear hp;go_upto_region 4 with (fail)
   go_quiet ((go_at_call 76;exact Calls.quiet_of_same (IP.out _ (below_drewN HBY.out _))))
   go_wp2
   go_ret;rw [HE.out];exact ⟨rfl,below_drewN HBY.out _⟩
  rw [hp] at IP;have HPP:=Hd hp;clear hp;rcases hm:memD ((3:Int),s.round) s.made with _ | _
  ·rw [hm] at KEEP hlk hlkd;have HE:=Hd (propose_ok HTP.out HH1.out HPP.out (memD_false.1 hm));clear hm;go_upto_region 4 with (fail)
   go_region_held3 (fun W=>W.cell? ⟨x,0,none⟩=some (.int .i64 s.height)∧W.cell? ⟨x,1,none⟩=some (.int .i64 s.round)∧W.cell? ⟨x,2,none⟩=some (.int .i64 1)∧W.cell? ⟨x,15,none⟩=some (.map (some p.made))∧W.cell? ⟨x,16,none⟩=some (.int .i64 s.id)∧(Instr.lookup 113 (.map (some p.made)) (.agg #[.int .i64 3,.int .i64 s.round]) false).run Tryz.prog W = .ok (.bool false) W∧Below w.heap.size w W)
    (first | (exact KEEP.out _ HBY.out.drew) | (go_split_ands;exact ⟨by assumption,by assumption,by assumption,by assumption,by assumption,by assumption,by assumption⟩))
    (first | (go_at_call 76;refine (IP.out _ ?_).mono ?_;(go_split_ands;assumption);rintro _ _ ⟨rfl,rfl⟩))
   clear d0 d1 d2 d15 d16 hlk hlkd;obtain ⟨wq,hwq⟩:∃wq,wq=wy.drew:=⟨_,rfl⟩;have HBQ:=Hd (show Below w.heap.size w wq from by rw [hwq];exact HBY.out.drew);rw [←hwq];clear hwq;have HNQ:=Hd (H.out.below HBQ.out);have d1:=HNQ.out.nc.c1;have hcell:=(HBQ.out.block g (H.out.lt g hRg)).trans HCL.out;have v0:=cell_of_row wq g 0 _ _ _ hcell;have v1:=cell_of_row wq g 1 _ _ _ hcell;have v2:=cell_of_row wq g 2 _ _ _ hcell;simp [iv] at v0 v1 v2;have HLV:=Hd (HLR.out.below H.out.lt HBQ.out);clear hcell;have HVL:=Hd (show v.list.length≤60 from by
    have e:=toPropose_eq s;rw [HTP.out] at e;split at e
    ·exact gl.len _ _ (HOK.out.gi.vg v e.symm)
    exact gl.len _ _ (HOK.out.gi.og v e.symm (fun q=>absurd (HPP.out.symm.trans (HX.out q)) (by simp))))
   obtain ⟨ao,cap,hsl,hcap2,hrow2⟩:=HLV.out;subst hsl;have S:=Hd (say_any HNQ.out.drew (m:=⟨3,0,0,0,s.round,v.round,v.dig,v.list⟩) ⟨_,rfl,(show LRow R wq (.slice ao v.list.length cap) v.list from ⟨ao,cap,rfl,hcap2,hrow2⟩).below HNQ.out.lt ((Below.refl _ wq).drew)⟩ HVL.out HI.out HOK.out.mine (fun q=>absurd rfl q));obtain ⟨s2,hs2⟩:∃s2,s2=s.say ⟨3,0,0,0,s.round,v.round,v.dig,v.list⟩:=⟨_,rfl⟩;rw [←hs2] at S HE;clear hs2 hcap2 hrow2 HTP HLV HLR HCL;unfold encM pv iv at S;go_upto_region 6 with (fail)
   go_region_law (go_simp;go_at_call 108;(with_reducible refine S.out.mono ?_);rintro e w3 ⟨rfl,ht⟩;have HT:=Hd ht;clear ht)
   all_goals (
    go_wp2
    go_ret;rw [HE.out];exact ⟨rfl,Turned.after HBQ.out.drew HT.out⟩)
  rw [hm] at KEEP hlk hlkd;have HE:=Hd (propose_bad (.inr (.inr (memD_true.1 hm))));clear hm;go_upto_region 4 with (fail)
  go_region_held3 (fun W=>W.cell? ⟨x,0,none⟩=some (.int .i64 s.height)∧W.cell? ⟨x,1,none⟩=some (.int .i64 s.round)∧W.cell? ⟨x,2,none⟩=some (.int .i64 1)∧W.cell? ⟨x,15,none⟩=some (.map (some p.made))∧W.cell? ⟨x,16,none⟩=some (.int .i64 s.id)∧(Instr.lookup 113 (.map (some p.made)) (.agg #[.int .i64 3,.int .i64 s.round]) false).run Tryz.prog W = .ok (.bool true) W∧Below w.heap.size w W)
   (first | (exact KEEP.out _ HBY.out.drew) | (go_split_ands;exact ⟨by assumption,by assumption,by assumption,by assumption,by assumption,by assumption,by assumption⟩))
   (first | (go_at_call 76;refine (IP.out _ ?_).mono ?_;(go_split_ands;assumption);rintro _ _ ⟨rfl,rfl⟩))
  go_wp2
  go_ret;rw [HE.out];exact ⟨rfl,HBY.out.drew⟩
 have e1:(s.step == 1)=false:=by simpa using h1
 have e2:(s.step != 1)=true:=by simpa using h1
 have HE:=Hd (propose_bad (.inl h1));clear h1 KEEP HPT;go_upto_region 4 with (fail)
 go_region
 all_goals (
  go_wp2
  go_ret;rw [HE.out];exact ⟨rfl,HBY.out.drew⟩)
end
end
end Go.Proofs.YtifcdjmcoibblaaGreatDoor
