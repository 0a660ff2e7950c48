/- Vld -/
import Derived.Test.YtifcdjmcoibblaaGreatDoorFq22
import Derived.Test.YtifcdjmcoibblaaGreatDoorFq11
import Derived.Deep.QuietTactic
import Derived.Deep.RegionLaw
import Derived.Deep.RegionHeld3
import Derived.BigQuiet
import Derived.Deep.DeepCutAuto
import Derived.Test.YtifcdjmcoibblaaGreatDoorFq01
set_option linter.unusedVariables false
set_option linter.unusedSimpArgs false
set_option linter.unusedSectionVars false
set_option maxRecDepth 100000
set_option maxHeartbeats 80000000
namespace Go.Proofs.YtifcdjmcoibblaaGreatDoor
section
open Go.RowKit
def siteB (n:Int):Bool:=decide (0≤n) && decide (n<7)
def voteB (k:Int):Bool:=(k == 4) || (k == 5) || (k == 6)
theorem isSite_any (n:Int) (w:World):Calls Tryz.prog 68 #[.int .i64 n] w fun e w'=>e = .returned (.bool (siteB n))∧w'=w:=by
 by_cases h:0≤n
 ·have HE:=Hd (show siteB n=decide (n<7) from by unfold siteB;simp [h]);go_enter Tryz.func68,Tryz.ntmps68
  go_wp2
  go_ret;rw [HE.out];exact ⟨rfl,rfl⟩
 have HE:=Hd (show siteB n=false from by unfold siteB;simp [h]);go_enter Tryz.func68,Tryz.ntmps68
 go_wp2
 go_ret;rw [HE.out];exact ⟨rfl,rfl⟩
theorem isVote_any (k:Int) (w:World):Calls Tryz.prog 73 #[.int .i64 k] w fun e w'=>e = .returned (.bool (voteB k))∧w'=w:=by
 by_cases h4:k=4
 ·subst h4;go_enter Tryz.func73,Tryz.ntmps73
  go_wp2
  go_ret;exact ⟨rfl,rfl⟩
 have e4:(k == 4)=false:=by simpa using h4
 by_cases h5:k=5
 ·subst h5;go_enter Tryz.func73,Tryz.ntmps73
  go_wp2
  go_ret;exact ⟨rfl,rfl⟩
 have e5:(k == 5)=false:=by simpa using h5
 have HE:=Hd (show voteB k=(k == 6) from by unfold voteB;rw [e4,e5];rfl);go_enter Tryz.func73,Tryz.ntmps73
 go_wp2
 go_ret;rw [HE.out];exact ⟨rfl,rfl⟩
def placedB (m:MsgB):Bool:=decide (0≤m.height) && decide (m.height<1200) && decide (0≤m.round) && decide (m.round<100)
def plainB (m:MsgB):Bool:=(m.height == 0) && (m.round == 0) && (m.valid == 0) && m.dig.toList.isEmpty
def sitesB (m:MsgB):Bool:=siteB m.frm && siteB m.to && !(m.frm == m.to)
def voteOk (m:MsgB):Bool:=placedB m && (m.valid == 0) && (m.list.length == 0) && (m.dig.toList.isEmpty || (m.dig.size == 32))
def propOk (m:MsgB):Bool:=placedB m && ascS m.list && decide (-1≤m.valid) && decide (m.valid<m.round) && (m.dig.toList == (digS m.list).toList)
def factsOk (m:MsgB):Bool:=plainB m && m.list.all (fun s=>decide (1≤s.size) && decide (s.size≤4000)) && decide (1≤m.list.length) && decide (m.list.length≤100)
def wantOk (m:MsgB):Bool:=plainB m && decide (1≤m.list.length) && ascS m.list
def validB (m:MsgB):Bool:=sitesB m && (if m.kind=1 then factsOk m else if m.kind=2 then wantOk m else if m.kind=3 then propOk m else voteB m.kind && voteOk m)
theorem all_bad (l:List ByteArray):l.all (fun s=>decide (1≤s.size) && decide (s.size≤4000)) = !(l.any badB):=by
 induction l with
 | nil=>rfl
 | cons a l ih=>
  rw [List.all_cons,List.any_cons,ih,Bool.not_or];congr 1
  unfold badB;rw [Bool.not_or,←decide_not,←decide_not];congr 1 <;> (rw [decide_eq_decide];omega)
theorem valid_any {R:Nat→Prop} {w:World} {v:Value} {m:MsgB} (h:MsgV R w v m) (hlt:∀k,R k→k<w.heap.size) (hl:m.list.length≤60) (hG:m.kind=3→Glob w) :
  Calls Tryz.prog 19 #[v] w fun e w'=>e = .returned (.bool (validB m))∧Below w.heap.size w w':=by
 obtain ⟨sl,rfl,ao,cap,rfl,hcap,hrow⟩:=h;obtain ⟨mb,hmb⟩:∃mb,mb=w.heap.size:=⟨_,rfl⟩;have HMB:=Hd hmb;have HB0:=Hd ((Below.refl _ w).alloc (Nat.le_refl _) (.cells (encM m (.slice ao m.list.length cap)) 36));have HR0:=Hd (World.alloc_heap_new w (.cells (encM m (.slice ao m.list.length cap)) 36));have HL:=Hd (show LRow R w (.slice ao m.list.length cap) m.list from ⟨ao,cap,rfl,hcap,hrow⟩);have HG:=Hd hG;have HLT:=Hd hlt;have SI:=Hd isSite_any;have VO:=Hd isVote_any;have HCP:=Hd hcap;clear hrow hcap hmb hG hlt;unfold encM iv at *;go_enter Tryz.func19,Tryz.ntmps19
 go_upto_region 1 with (fail)
 obtain ⟨wa,hwa⟩:∃wa,wa=w.alloc (.cells #[.int .i64 m.kind,.int .i64 m.frm,.int .i64 m.to,.int .i64 m.height,.int .i64 m.round,.int .i64 m.valid,.string m.dig,.slice ao m.list.length cap] 36):=⟨_,rfl⟩;rw [←HMB.out] at HR0 ⊢;rw [←hwa] at HB0 HR0 ⊢;clear hwa;have MR:=MRow.of HR0.out;go_cut [24] (fun t wc=>t = .bool (!(sitesB m))∧wc=wa)
 case first=>
  obtain ⟨c0,c1,c2,c3,c4,c5,c6,c7,fz⟩:=MR;have S1:=Hd (isSite_any m.frm wa);have S2:=Hd (isSite_any m.to wa);clear SI VO;rcases ha:siteB m.frm with _ | _
  ·have HE:=Hd (show sitesB m=false from by unfold sitesB;rw [ha];rfl);rw [ha] at S1;clear ha;go_wp2_with (go_at_call 68;refine (S1.out).mono ?_;rintro _ _ ⟨rfl,rfl⟩)
   go_meet;rw [HE.out];exact ⟨rfl,rfl⟩
  rw [ha] at S1;rcases hb:siteB m.to with _ | _
  ·have HE:=Hd (show sitesB m=false from by unfold sitesB;rw [ha,hb];rfl);rw [hb] at S2;clear ha hb;go_wp2_with (go_at_call 68;first | (refine (S1.out).mono ?_;rintro _ _ ⟨rfl,rfl⟩) | (refine (S2.out).mono ?_;rintro _ _ ⟨rfl,rfl⟩))
   go_meet;rw [HE.out];exact ⟨rfl,rfl⟩
  have HE:=Hd (show sitesB m = !(m.frm == m.to) from by unfold sitesB;rw [ha,hb];rfl);rw [hb] at S2;clear ha hb;go_wp2_with (go_at_call 68;first | (refine (S1.out).mono ?_;rintro _ _ ⟨rfl,rfl⟩) | (refine (S2.out).mono ?_;rintro _ _ ⟨rfl,rfl⟩))
  go_meet;rw [HE.out];exact ⟨by simp,rfl⟩
 case rest=>
  obtain ⟨rfl,hw⟩:=hcut;rw [hw];clear hw;rcases hs:sitesB m with _ | _
  ·have HE:=Hd (show validB m=false from by unfold validB;rw [hs];rfl);clear hs;go_wp2
   go_ret;rw [HE.out];exact ⟨rfl,HB0.out⟩
  have HSB:=Hd hs;clear hs;go_upto_region 3 with (fail)
  go_cut [3] (fun t wc=>t = .bool (placedB m)∧wc=wa)
  case first=>
   obtain ⟨c0,c1,c2,c3,c4,c5,c6,c7,fz⟩:=MR;clear SI VO;by_cases g1:0≤m.height
   case' neg=>have HE:=Hd (show placedB m=false from by unfold placedB;simp [g1])
   case' pos=>
    by_cases g2:m.height<1200
    case' neg=>have HE:=Hd (show placedB m=false from by unfold placedB;simp [g2])
    case' pos=>
     by_cases g3:0≤m.round
     case' neg=>have HE:=Hd (show placedB m=false from by unfold placedB;simp [g3])
     case' pos=>have HE:=Hd (show placedB m=decide (m.round<100) from by unfold placedB;simp [g1,g2,g3])
   all_goals (go_wp2;go_meet;rw [HE.out];exact ⟨rfl,rfl⟩)
  case rest=>
   obtain ⟨rfl,hw⟩:=hcut;rw [hw];clear hw;go_upto_region 4 with (fail)
   go_cut [4] (fun t wc=>t = .bool (plainB m)∧wc=wa)
   case first=>
    obtain ⟨c0,c1,c2,c3,c4,c5,c6,c7,fz⟩:=MR;clear SI VO;by_cases g1:m.height=0
    case' neg=>
     have n1:(m.height == 0)=false:=by simpa using g1
     have HE:=Hd (show plainB m=false from by unfold plainB;rw [n1];rfl)
    case' pos=>
     have n1:(m.height == 0)=true:=by simpa using g1
     by_cases g2:m.round=0
     case' neg=>
      have n2:(m.round == 0)=false:=by simpa using g2
      have HE:=Hd (show plainB m=false from by unfold plainB;rw [n1,n2];rfl)
     case' pos=>
      have n2:(m.round == 0)=true:=by simpa using g2
      by_cases g3:m.valid=0
      case' neg=>
       have n3:(m.valid == 0)=false:=by simpa using g3
       have HE:=Hd (show plainB m=false from by unfold plainB;rw [n1,n2,n3];rfl)
      case' pos=>
       have n3:(m.valid == 0)=true:=by simpa using g3
       have HE:=Hd (show plainB m=m.dig.toList.isEmpty from by unfold plainB;rw [n1,n2,n3];rfl)
    all_goals (go_wp2;go_meet;rw [HE.out];exact ⟨by simp,rfl⟩)
   case rest=>
    obtain ⟨rfl,hw⟩:=hcut;rw [hw];clear hw;have HRK:=Hd (show RowK 1 encT wa ao m.list from by
     obtain ⟨ao',cap',e,_,q⟩:=(HL.out.below HLT.out HB0.out).row;cases e;exact q)
    by_cases k1:m.kind=1
    ·have e1:(m.kind == 1)=true:=by simpa using k1
     have HV:=Hd (show validB m=factsOk m from by unfold validB;rw [HSB.out,if_pos k1];rfl);have CT:=Hd (containsBad_any ao _ cap m.list wa rfl (by omega) HRK.out);obtain ⟨c0,c1,c2,c3,c4,c5,c6,c7,fz⟩:=MR;clear k1 SI VO;unfold badV at CT;rcases hp:plainB m with _ | _
     case' false=>have HE:=Hd (show validB m=false from by rw [HV.out];unfold factsOk;rw [hp];rfl)
     case' true=>
      rcases hb:m.list.any badB with _ | _
      case' true=>have HE:=Hd (show validB m=false from by rw [HV.out];unfold factsOk;rw [all_bad,hb];simp)
      case' false=>
       by_cases h1:(1:Int)≤(m.list.length:Int)
       case' neg=>have HE:=Hd (show validB m=false from by rw [HV.out];unfold factsOk;rw [decide_eq_false (p:=1≤m.list.length) (by omega)];simp)
       case' pos=>have HE:=Hd (show validB m=decide ((m.list.length:Int)≤100) from by
        rw [HV.out];unfold factsOk;rw [hp,all_bad,hb,decide_eq_true (p:=1≤m.list.length) (by omega)];simp only [Bool.not_false,Bool.true_and,decide_eq_decide];omega)
     all_goals (
      try rw [hb] at CT
      clear hp;go_wp2_with (go_at_call 69;refine CT.out.mono ?_;rintro _ _ ⟨rfl,rfl⟩)
      go_ret;rw [HE.out];exact ⟨rfl,HB0.out⟩)
    have e1:(m.kind == 1)=false:=by simpa using k1
    by_cases k2:m.kind=2
    ·have e2:(m.kind == 2)=true:=by simpa using k2
     have HV:=Hd (show validB m=wantOk m from by unfold validB;rw [HSB.out,if_neg k1,if_pos k2];rfl);have AS:=Hd (ascending_any ao _ cap m.list wa rfl hl HRK.out);obtain ⟨c0,c1,c2,c3,c4,c5,c6,c7,fz⟩:=MR;clear k1 k2 SI VO;rcases hp:plainB m with _ | _
     case' false=>have HE:=Hd (show validB m=false from by rw [HV.out];unfold wantOk;rw [hp];rfl)
     case' true=>
      by_cases h1:(1:Int)≤(m.list.length:Int)
      case' neg=>have HE:=Hd (show validB m=false from by rw [HV.out];unfold wantOk;rw [decide_eq_false (p:=1≤m.list.length) (by omega)];simp)
      case' pos=>have HE:=Hd (show validB m=ascS m.list from by rw [HV.out];unfold wantOk;rw [hp,decide_eq_true (p:=1≤m.list.length) (by omega)];rfl)
     all_goals (
      clear hp;go_wp2_with (go_at_call 71;refine AS.out.mono ?_;rintro _ _ ⟨rfl,rfl⟩)
      go_ret;rw [HE.out];exact ⟨rfl,HB0.out⟩)
    have e2:(m.kind == 2)=false:=by simpa using k2
    by_cases k3:m.kind=3
    ·have e3:(m.kind == 3)=true:=by simpa using k3
     have HV:=Hd (show validB m=propOk m from by unfold validB;rw [HSB.out,if_neg k1,if_neg k2,if_pos k3];rfl);have HGL:=Hd (HG.out k3);have VA:=Hd (value_any ao _ cap m.list wa rfl hl HCP.out HRK.out);obtain ⟨sv,hsv⟩:∃sv,sv=(if ascS m.list=true then valS m.list else ByteArray.empty):=⟨_,rfl⟩;obtain ⟨er,her⟩:∃er,er=errS (ascS m.list):=⟨_,rfl⟩;rw [←hsv,←her] at VA;have HSV:=Hd hsv;have HER:=Hd her;clear hsv her;obtain ⟨c0,c1,c2,c3,c4,c5,c6,c7,fz⟩:=MR;clear k1 k2 k3 SI VO;go_upto_region 12 with (go_at_call 57;refine VA.out.mono ?_;rintro _ w1 ⟨rfl,hb⟩;have HB1:=Hd hb;clear hb)
     have HBW:=Hd (HB0.out.trans (HB1.out.mono HB0.out.size));have HR1:=Hd ((HB1.out.block mb (gE HR0.out).1).trans HR0.out);have SU:=Hd (fun (h:ascS m.list=true)=>sum_any (valS m.list) w1.drew (Nat.le_trans (valS_size h hl) (by decide)) ((HGL.out.later HBW.out).later ((Below.refl _ w1).drew)));clear c0 c1 c2 c3 c4 c5 c6 c7 fz;obtain ⟨c0,c1,c2,c3,c4,c5,c6,c7,fz⟩:=MRow.of HR1.out;rcases hp:placedB m with _ | _
     case' false=>have HE:=Hd (show validB m=false from by rw [HV.out];unfold propOk;rw [hp];rfl)
     case' true=>
      rcases ha:ascS m.list with _ | _
      case' false=>
       have HE:=Hd (show validB m=false from by rw [HV.out];unfold propOk;rw [ha];simp);have her:=HER.out;rw [ha] at her;subst her;rw [show errS false=250 from rfl]
      case' true=>
       have her:=HER.out;have hsv:=HSV.out;rw [ha] at her hsv;rw [if_pos rfl] at hsv;subst her;subst hsv;rw [show errS true=0 from rfl];by_cases h1:-1≤m.valid
       case' neg=>
        have n1:decide (-1≤m.valid)=false:=by simpa using h1
        have HE:=Hd (show validB m=false from by rw [HV.out];unfold propOk;rw [n1];simp)
       case' pos=>
        have n1:decide (-1≤m.valid)=true:=by simpa using h1
        by_cases h2:m.valid<m.round
        case' neg=>
         have n2:decide (m.valid<m.round)=false:=by simpa using h2
         have HE:=Hd (show validB m=false from by rw [HV.out];unfold propOk;rw [n2];simp)
        case' pos=>
         have n2:decide (m.valid<m.round)=true:=by simpa using h2
         have HE:=Hd (show validB m=(m.dig.toList == (digS m.list).toList) from by rw [HV.out];unfold propOk;rw [hp,ha,n1,n2];rfl);have hmb1:mb<w1.heap.size:=(gE HR1.out).1;have hsz:=Nat.le_trans (valS_size ha hl) (show 6001≤1000000 by decide);have hglb:=HGL.out.later HBW.out;have KEEP:=Hd (show ∀W,Below w1.heap.size w1 W→W.cell? ⟨mb,4,none⟩=some (.int .i64 m.round)∧W.cell? ⟨mb,5,none⟩=some (.int .i64 m.valid)∧W.cell? ⟨mb,6,none⟩=some (.string m.dig)∧Below w1.heap.size w1 W from fun W h=>⟨by rw [h.cell (p:=⟨mb,4,none⟩) hmb1];exact c4,by rw [h.cell (p:=⟨mb,5,none⟩) hmb1];exact c5,by rw [h.cell (p:=⟨mb,6,none⟩) hmb1];exact c6,h⟩);have SUM:=Hd (show ∀W,Below w1.heap.size w1 W→Calls Tryz.prog 72 #[.string (valS m.list)] W fun e w'=>e = .returned (.string (digS m.list))∧Below w1.heap.size w1 w' from fun W h=>(sum_any (valS m.list) W hsz (hglb.later h)).mono (fun e w' q=>⟨q.1,h.trans (q.2.mono h.size)⟩));clear hsz hglb hmb1 h1 h2 ha hp HB1 SU;go_region_held3 (fun w'=>w'.cell? ⟨mb,4,none⟩=some (.int .i64 m.round)∧w'.cell? ⟨mb,5,none⟩=some (.int .i64 m.valid)∧w'.cell? ⟨mb,6,none⟩=some (.string m.dig)∧Below w1.heap.size w1 w')
          (first | (exact KEEP.out _ E1) | (exact KEEP.out _ ((Below.refl _ w1).drew)) | (go_split_ands;exact ⟨by assumption,by assumption,by assumption,by assumption⟩))
          (first | (go_at_call 72;refine (SUM.out _ ?_).mono ?_;(go_split_ands;assumption);rintro e w2 ⟨rfl,hb⟩;have E1:=hb;clear hb))
         go_wp2
         go_ret;rw [HE.out];exact ⟨rfl,HBW.out.trans (E1.mono HBW.out.size)⟩
     all_goals (
      go_quiet (fail)
      go_wp2
      go_ret;rw [HE.out];exact ⟨rfl,below_drewN HBW.out _⟩)
    have e3:(m.kind == 3)=false:=by simpa using k3
    have HV:=Hd (show validB m=(voteB m.kind && voteOk m) from by unfold validB;rw [HSB.out,if_neg k1,if_neg k2,if_neg k3];rfl);have V1:=Hd (isVote_any m.kind wa);obtain ⟨c0,c1,c2,c3,c4,c5,c6,c7,fz⟩:=MR;clear k1 k2 k3 SI VO;rcases hv:voteB m.kind with _ | _
    case' false=>have HE:=Hd (show validB m=false from by rw [HV.out,hv];rfl)
    case' true=>
     rcases hp:placedB m with _ | _
     case' false=>have HE:=Hd (show validB m=false from by rw [HV.out];unfold voteOk;rw [hp];simp)
     case' true=>
      by_cases h1:m.valid=0
      case' neg=>
       have n1:(m.valid == 0)=false:=by simpa using h1
       have HE:=Hd (show validB m=false from by rw [HV.out];unfold voteOk;rw [n1];simp)
      case' pos=>
       have n1:(m.valid == 0)=true:=by simpa using h1
       by_cases h2:m.list.length=0
       case' neg=>
        have n2:((m.list.length:Int) == 0)=false:=by rw [beq_eq_false_iff_ne];omega
        have HE:=Hd (show validB m=false from by rw [HV.out];unfold voteOk;rw [beq_eq_false_iff_ne.2 h2];simp)
       case' pos=>
        have n2:((m.list.length:Int) == 0)=true:=by rw [beq_iff_eq];omega
        rcases h3:m.dig.toList.isEmpty with _ | _
        case' true=>have HE:=Hd (show validB m=true from by rw [HV.out,hv];unfold voteOk;rw [hp,n1,h3,h2];rfl)
        case' false=>have HE:=Hd (show validB m=((m.dig.size:Int) == 32) from by
         rw [HV.out,hv];unfold voteOk;rw [hp,n1,h3,h2];simp only [Bool.true_and,Bool.false_or,beq_self_eq_true];rw [Bool.eq_iff_iff,beq_iff_eq,beq_iff_eq];omega)
    all_goals (
     rw [hv] at V1;clear hv;go_wp2_with (go_at_call 73;refine V1.out.mono ?_;rintro _ _ ⟨rfl,rfl⟩)
     go_ret;rw [HE.out];exact ⟨rfl,HB0.out⟩)
end
end Go.Proofs.YtifcdjmcoibblaaGreatDoor
