/- Vld -/
import Derived.Test.YtifcdjmcoibblaaGreatDoorAq18
import Derived.Test.YtifcdjmcoibblaaGreatDoorAq19
set_option linter.unusedVariables false
set_option linter.unusedSimpArgs false
set_option linter.unusedSectionVars false
set_option maxRecDepth 100000
set_option maxHeartbeats 80000000
namespace Go.Proofs.YtifcdjmcoibblaaGreatDoor
section
open Go.RowKit
def Z6e (n:Int):Bool:=decide (0<=n) && decide (n<7)
def Z7a (k:Int):Bool:=(k == 4) || (k == 5) || (k == 6)
theorem Z7x (n:Int) (w:World):Calls Tryz.prog 68 #[.int .i64 n] w λe w'=>e = .returned (.bool (Z6e n))∧w'=w:=by
 by_cases h:0<=n
 ·have HE:=Hd (show Z6e n=decide (n<7) from by unfold Z6e;simp [h]);go_enter Tryz.func68,Tryz.ntmps68
  go_wp2
  go_ret;rw [HE.out];exact ⟨rfl,rfl⟩
 have HE:=Hd (show Z6e n=false from by unfold Z6e;simp [h]);go_enter Tryz.func68,Tryz.ntmps68
 go_wp2
 go_ret;rw [HE.out];exact ⟨rfl,rfl⟩
theorem Z7y (k:Int) (w:World):Calls Tryz.prog 73 #[.int .i64 k] w λe w'=>e = .returned (.bool (Z7a k))∧w'=w:=by
 by_cases h4:k=4
 ·subst h4;go_enter Tryz.func73,Tryz.ntmps73
  go_wp2
  go_ret;exact ⟨rfl,rfl⟩
 have e4:(k == 4)=false:=by simpa using h4
 by_cases h5:k=5
 ·subst h5;go_enter Tryz.func73,Tryz.ntmps73
  go_wp2
  go_ret;exact ⟨rfl,rfl⟩
 have e5:(k == 5)=false:=by simpa using h5
 have HE:=Hd (show Z7a k=(k == 6) from by unfold Z7a;rw [e4,e5];rfl);go_enter Tryz.func73,Tryz.ntmps73
 go_wp2
 go_ret;rw [HE.out];exact ⟨rfl,rfl⟩
def Z1d (m:Z0k):Bool:=decide (0<=m.height) && decide (m.height<1200) && decide (0<=m.round) && decide (m.round<100)
def Z4a (m:Z0k):Bool:=(m.height == 0) && (m.round == 0) && (m.valid == 0) && m.dig.toList.isEmpty
def Z2k (m:Z0k):Bool:=Z6e m.frm && Z6e m.to && !(m.frm == m.to)
def Z3o (m:Z0k):Bool:=Z1d m && (m.valid == 0) && (m.list.length == 0) && (m.dig.toList.isEmpty || (m.dig.size == 32))
def Z55 (m:Z0k):Bool:=Z1d m && Z1f m.list && decide (-1<=m.valid) && decide (m.valid<m.round) && (m.dig.toList == (Zo8 m.list).toList)
def Z7z (m:Z0k):Bool:=Z4a m && m.list.all (λs=>decide (1<=s.size) && decide (s.size<=4000)) && decide (1<=m.list.length) && decide (m.list.length<=100)
def Zed (m:Z0k):Bool:=Z4a m && decide (1<=m.list.length) && Z1f m.list
def Z04 (m:Z0k):Bool:=Z2k m && (if m.kind=1 then Z7z m else if m.kind=2 then Zed m else if m.kind=3 then Z55 m else Z7a m.kind && Z3o m)
theorem Zli (l:List ByteArray):l.all (λs=>decide (1<=s.size) && decide (s.size<=4000)) = !(l.any Zj3):=by
 induction l with
 | nil=>rfl
 | cons a l ih=>
  rw [List.all_cons,List.any_cons,ih,Bool.not_or];congr 1
  unfold Zj3;rw [Bool.not_or,<-decide_not,<-decide_not];congr 1 <;> (rw [decide_eq_decide];omega)
theorem Zee {R:Nat->Prop} {w:World} {v:Value} {m:Z0k} (h:Z8d R w v m) (hlt:∀k,R k->k<w.heap.size) (hl:m.list.length<=60) (hG:m.kind=3->Glob w) :
  Calls Tryz.prog 19 #[v] w λe w'=>e = .returned (.bool (Z04 m))∧Below w.heap.size w w':=by
 obtain ⟨sl,rfl,ao,cap,rfl,hcap,hrow⟩:=h;obtain ⟨mb,hmb⟩:∃mb,mb=w.heap.size:=⟨_,rfl⟩;have HMB:=Hd hmb;have HB0:=Hd ((Below.refl _ w).alloc (Nat.le_refl _) (.cells (Z0l m (.slice ao m.list.length cap)) 36));have HR0:=Hd (World.alloc_heap_new w (.cells (Z0l m (.slice ao m.list.length cap)) 36));have HL:=Hd (show Z0a R w (.slice ao m.list.length cap) m.list from ⟨ao,cap,rfl,hcap,hrow⟩);have HG:=Hd hG;have HLT:=Hd hlt;have SI:=Hd Z7x;have VO:=Hd Z7y;have HCP:=Hd hcap;clear hrow hcap hmb hG hlt;unfold Z0l iv at *;go_enter Tryz.func19,Tryz.ntmps19
 go_upto_region 1 with (fail)
 obtain ⟨wa,hwa⟩:∃wa,wa=w.alloc (.cells #[.int .i64 m.kind,.int .i64 m.frm,.int .i64 m.to,.int .i64 m.height,.int .i64 m.round,.int .i64 m.valid,.string m.dig,.slice ao m.list.length cap] 36):=⟨_,rfl⟩;rw [<-HMB.out] at HR0 ⊢;rw [<-hwa] at HB0 HR0 ⊢;clear hwa;have MR:=Z1y.of HR0.out;go_cut [24] (λt wc=>t = .bool (!(Z2k m))∧wc=wa)
 case first=>
  obtain ⟨c0,c1,c2,c3,c4,c5,c6,c7,fz⟩:=MR;have S1:=Hd (Z7x m.frm wa);have S2:=Hd (Z7x m.to wa);clear SI VO;rcases ha:Z6e m.frm with _ | _
  ·have HE:=Hd (show Z2k m=false from by unfold Z2k;rw [ha];rfl);rw [ha] at S1;clear ha;go_wp2_with (go_at_call 68;refine (S1.out).mono ?_;rintro _ _ ⟨rfl,rfl⟩)
   go_meet;rw [HE.out];exact ⟨rfl,rfl⟩
  rw [ha] at S1;rcases hb:Z6e m.to with _ | _
  ·have HE:=Hd (show Z2k m=false from by unfold Z2k;rw [ha,hb];rfl);rw [hb] at S2;clear ha hb;go_wp2_with (go_at_call 68;first | (refine (S1.out).mono ?_;rintro _ _ ⟨rfl,rfl⟩) | (refine (S2.out).mono ?_;rintro _ _ ⟨rfl,rfl⟩))
   go_meet;rw [HE.out];exact ⟨rfl,rfl⟩
  have HE:=Hd (show Z2k m = !(m.frm == m.to) from by unfold Z2k;rw [ha,hb];rfl);rw [hb] at S2;clear ha hb;go_wp2_with (go_at_call 68;first | (refine (S1.out).mono ?_;rintro _ _ ⟨rfl,rfl⟩) | (refine (S2.out).mono ?_;rintro _ _ ⟨rfl,rfl⟩))
  go_meet;rw [HE.out];exact ⟨by simp,rfl⟩
 case rest=>
  obtain ⟨rfl,hw⟩:=hcut;rw [hw];clear hw;rcases hs:Z2k m with _ | _
  ·have HE:=Hd (show Z04 m=false from by unfold Z04;rw [hs];rfl);clear hs;go_wp2
   go_ret;rw [HE.out];exact ⟨rfl,HB0.out⟩
  have HSB:=Hd hs;clear hs;go_upto_region 3 with (fail)
  go_cut [3] (λt wc=>t = .bool (Z1d m)∧wc=wa)
  case first=>
   obtain ⟨c0,c1,c2,c3,c4,c5,c6,c7,fz⟩:=MR;clear SI VO;by_cases g1:0<=m.height
   case' neg=>have HE:=Hd (show Z1d m=false from by unfold Z1d;simp [g1])
   case' pos=>
    by_cases g2:m.height<1200
    case' neg=>have HE:=Hd (show Z1d m=false from by unfold Z1d;simp [g2])
    case' pos=>
     by_cases g3:0<=m.round
     case' neg=>have HE:=Hd (show Z1d m=false from by unfold Z1d;simp [g3])
     case' pos=>have HE:=Hd (show Z1d m=decide (m.round<100) from by unfold Z1d;simp [g1,g2,g3])
   all_goals (go_wp2;go_meet;rw [HE.out];exact ⟨rfl,rfl⟩)
  case rest=>
   obtain ⟨rfl,hw⟩:=hcut;rw [hw];clear hw;go_upto_region 4 with (fail)
   go_cut [4] (λt wc=>t = .bool (Z4a m)∧wc=wa)
   case first=>
    obtain ⟨c0,c1,c2,c3,c4,c5,c6,c7,fz⟩:=MR;clear SI VO;by_cases g1:m.height=0
    case' neg=>
     have n1:(m.height == 0)=false:=by simpa using g1
     have HE:=Hd (show Z4a m=false from by unfold Z4a;rw [n1];rfl)
    case' pos=>
     have n1:(m.height == 0)=true:=by simpa using g1
     by_cases g2:m.round=0
     case' neg=>
      have n2:(m.round == 0)=false:=by simpa using g2
      have HE:=Hd (show Z4a m=false from by unfold Z4a;rw [n1,n2];rfl)
     case' pos=>
      have n2:(m.round == 0)=true:=by simpa using g2
      by_cases g3:m.valid=0
      case' neg=>
       have n3:(m.valid == 0)=false:=by simpa using g3
       have HE:=Hd (show Z4a m=false from by unfold Z4a;rw [n1,n2,n3];rfl)
      case' pos=>
       have n3:(m.valid == 0)=true:=by simpa using g3
       have HE:=Hd (show Z4a m=m.dig.toList.isEmpty from by unfold Z4a;rw [n1,n2,n3];rfl)
    all_goals (go_wp2;go_meet;rw [HE.out];exact ⟨by simp,rfl⟩)
   case rest=>
    obtain ⟨rfl,hw⟩:=hcut;rw [hw];clear hw;have HRK:=Hd (show Z1l 1 Zhe wa ao m.list from by
     obtain ⟨ao',cap',e,_,q⟩:=(HL.out.below HLT.out HB0.out).row;cases e;exact q)
    by_cases k1:m.kind=1
    ·have e1:(m.kind == 1)=true:=by simpa using k1
     have HV:=Hd (show Z04 m=Z7z m from by unfold Z04;rw [HSB.out,if_pos k1];rfl);have CT:=Hd (Z9h ao _ cap m.list wa rfl (by omega) HRK.out);obtain ⟨c0,c1,c2,c3,c4,c5,c6,c7,fz⟩:=MR;clear k1 SI VO;unfold Zs5 at CT;rcases hp:Z4a m with _ | _
     case' false=>have HE:=Hd (show Z04 m=false from by rw [HV.out];unfold Z7z;rw [hp];rfl)
     case' true=>
      rcases hb:m.list.any Zj3 with _ | _
      case' true=>have HE:=Hd (show Z04 m=false from by rw [HV.out];unfold Z7z;rw [Zli,hb];simp)
      case' false=>
       by_cases h1:(1:Int)<=(m.list.length:Int)
       case' neg=>have HE:=Hd (show Z04 m=false from by rw [HV.out];unfold Z7z;rw [decide_eq_false (p:=1<=m.list.length) (by omega)];simp)
       case' pos=>have HE:=Hd (show Z04 m=decide ((m.list.length:Int)<=100) from by
        rw [HV.out];unfold Z7z;rw [hp,Zli,hb,decide_eq_true (p:=1<=m.list.length) (by omega)];simp only [Bool.not_false,Bool.true_and,decide_eq_decide];omega)
     all_goals (
      try rw [hb] at CT
      clear hp;go_wp2_with (go_at_call 69;refine CT.out.mono ?_;rintro _ _ ⟨rfl,rfl⟩)
      go_ret;rw [HE.out];exact ⟨rfl,HB0.out⟩)
    have e1:(m.kind == 1)=false:=by simpa using k1
    by_cases k2:m.kind=2
    ·have e2:(m.kind == 2)=true:=by simpa using k2
     have HV:=Hd (show Z04 m=Zed m from by unfold Z04;rw [HSB.out,if_neg k1,if_pos k2];rfl);have AS:=Hd (Z77 ao _ cap m.list wa rfl hl HRK.out);obtain ⟨c0,c1,c2,c3,c4,c5,c6,c7,fz⟩:=MR;clear k1 k2 SI VO;rcases hp:Z4a m with _ | _
     case' false=>have HE:=Hd (show Z04 m=false from by rw [HV.out];unfold Zed;rw [hp];rfl)
     case' true=>
      by_cases h1:(1:Int)<=(m.list.length:Int)
      case' neg=>have HE:=Hd (show Z04 m=false from by rw [HV.out];unfold Zed;rw [decide_eq_false (p:=1<=m.list.length) (by omega)];simp)
      case' pos=>have HE:=Hd (show Z04 m=Z1f m.list from by rw [HV.out];unfold Zed;rw [hp,decide_eq_true (p:=1<=m.list.length) (by omega)];rfl)
     all_goals (
      clear hp;go_wp2_with (go_at_call 71;refine AS.out.mono ?_;rintro _ _ ⟨rfl,rfl⟩)
      go_ret;rw [HE.out];exact ⟨rfl,HB0.out⟩)
    have e2:(m.kind == 2)=false:=by simpa using k2
    by_cases k3:m.kind=3
    ·have e3:(m.kind == 3)=true:=by simpa using k3
     have HV:=Hd (show Z04 m=Z55 m from by unfold Z04;rw [HSB.out,if_neg k1,if_neg k2,if_pos k3];rfl);have HGL:=Hd (HG.out k3);have VA:=Hd (Zea ao _ cap m.list wa rfl hl HCP.out HRK.out);obtain ⟨sv,hsv⟩:∃sv,sv=(if Z1f m.list=true then Zd5 m.list else ByteArray.empty):=⟨_,rfl⟩;obtain ⟨er,her⟩:∃er,er=Zrn (Z1f m.list):=⟨_,rfl⟩;rw [<-hsv,<-her] at VA;have HSV:=Hd hsv;have HER:=Hd her;clear hsv her;obtain ⟨c0,c1,c2,c3,c4,c5,c6,c7,fz⟩:=MR;clear k1 k2 k3 SI VO;go_upto_region 12 with (go_at_call 57;refine VA.out.mono ?_;rintro _ w1 ⟨rfl,hb⟩;have HB1:=Hd hb;clear hb)
     have HBW:=Hd (HB0.out.trans (HB1.out.mono HB0.out.size));have HR1:=Hd ((HB1.out.block mb (gE HR0.out).1).trans HR0.out);have SU:=Hd (λ(h:Z1f m.list=true)=>Zg3 (Zd5 m.list) w1.drew (Nat.le_trans (Z79 h hl) (by decide)) ((HGL.out.later HBW.out).later ((Below.refl _ w1).drew)));clear c0 c1 c2 c3 c4 c5 c6 c7 fz;obtain ⟨c0,c1,c2,c3,c4,c5,c6,c7,fz⟩:=Z1y.of HR1.out;rcases hp:Z1d m with _ | _
     case' false=>have HE:=Hd (show Z04 m=false from by rw [HV.out];unfold Z55;rw [hp];rfl)
     case' true=>
      rcases ha:Z1f m.list with _ | _
      case' false=>
       have HE:=Hd (show Z04 m=false from by rw [HV.out];unfold Z55;rw [ha];simp);have her:=HER.out;rw [ha] at her;subst her;rw [show Zrn false=250 from rfl]
      case' true=>
       have her:=HER.out;have hsv:=HSV.out;rw [ha] at her hsv;rw [if_pos rfl] at hsv;subst her;subst hsv;rw [show Zrn true=0 from rfl];by_cases h1:-1<=m.valid
       case' neg=>
        have n1:decide (-1<=m.valid)=false:=by simpa using h1
        have HE:=Hd (show Z04 m=false from by rw [HV.out];unfold Z55;rw [n1];simp)
       case' pos=>
        have n1:decide (-1<=m.valid)=true:=by simpa using h1
        by_cases h2:m.valid<m.round
        case' neg=>
         have n2:decide (m.valid<m.round)=false:=by simpa using h2
         have HE:=Hd (show Z04 m=false from by rw [HV.out];unfold Z55;rw [n2];simp)
        case' pos=>
         have n2:decide (m.valid<m.round)=true:=by simpa using h2
         have HE:=Hd (show Z04 m=(m.dig.toList == (Zo8 m.list).toList) from by rw [HV.out];unfold Z55;rw [hp,ha,n1,n2];rfl);have hmb1:mb<w1.heap.size:=(gE HR1.out).1;have hsz:=Nat.le_trans (Z79 ha hl) (show 6001<=1000000 by decide);have hglb:=HGL.out.later HBW.out;have KEEP:=Hd (show ∀W,Below w1.heap.size w1 W->W.cell? ⟨mb,4,none⟩=some (.int .i64 m.round)∧W.cell? ⟨mb,5,none⟩=some (.int .i64 m.valid)∧W.cell? ⟨mb,6,none⟩=some (.string m.dig)∧Below w1.heap.size w1 W from λW h=>⟨by rw [h.cell (p:=⟨mb,4,none⟩) hmb1];exact c4,by rw [h.cell (p:=⟨mb,5,none⟩) hmb1];exact c5,by rw [h.cell (p:=⟨mb,6,none⟩) hmb1];exact c6,h⟩);have SUM:=Hd (show ∀W,Below w1.heap.size w1 W->Calls Tryz.prog 72 #[.string (Zd5 m.list)] W λe w'=>e = .returned (.string (Zo8 m.list))∧Below w1.heap.size w1 w' from λW h=>(Zg3 (Zd5 m.list) W hsz (hglb.later h)).mono (λe w' q=>⟨q.1,h.trans (q.2.mono h.size)⟩));clear hsz hglb hmb1 h1 h2 ha hp HB1 SU;go_region_held3 (λw'=>w'.cell? ⟨mb,4,none⟩=some (.int .i64 m.round)∧w'.cell? ⟨mb,5,none⟩=some (.int .i64 m.valid)∧w'.cell? ⟨mb,6,none⟩=some (.string m.dig)∧Below w1.heap.size w1 w')
          (first | (exact KEEP.out _ E1) | (exact KEEP.out _ ((Below.refl _ w1).drew)) | (go_split_ands;exact ⟨by assumption,by assumption,by assumption,by assumption⟩))
          (first | (go_at_call 72;refine (SUM.out _ ?_).mono ?_;(go_split_ands;assumption);rintro e w2 ⟨rfl,hb⟩;have E1:=hb;clear hb))
         go_wp2
         go_ret;rw [HE.out];exact ⟨rfl,HBW.out.trans (E1.mono HBW.out.size)⟩
     all_goals (
      go_quiet (fail)
      go_wp2
      go_ret;rw [HE.out];exact ⟨rfl,below_drewN HBW.out _⟩)
    have e3:(m.kind == 3)=false:=by simpa using k3
    have HV:=Hd (show Z04 m=(Z7a m.kind && Z3o m) from by unfold Z04;rw [HSB.out,if_neg k1,if_neg k2,if_neg k3];rfl);have V1:=Hd (Z7y m.kind wa);obtain ⟨c0,c1,c2,c3,c4,c5,c6,c7,fz⟩:=MR;clear k1 k2 k3 SI VO;rcases hv:Z7a m.kind with _ | _
    case' false=>have HE:=Hd (show Z04 m=false from by rw [HV.out,hv];rfl)
    case' true=>
     rcases hp:Z1d m with _ | _
     case' false=>have HE:=Hd (show Z04 m=false from by rw [HV.out];unfold Z3o;rw [hp];simp)
     case' true=>
      by_cases h1:m.valid=0
      case' neg=>
       have n1:(m.valid == 0)=false:=by simpa using h1
       have HE:=Hd (show Z04 m=false from by rw [HV.out];unfold Z3o;rw [n1];simp)
      case' pos=>
       have n1:(m.valid == 0)=true:=by simpa using h1
       by_cases h2:m.list.length=0
       case' neg=>
        have n2:((m.list.length:Int) == 0)=false:=by rw [beq_eq_false_iff_ne];omega
        have HE:=Hd (show Z04 m=false from by rw [HV.out];unfold Z3o;rw [beq_eq_false_iff_ne.2 h2];simp)
       case' pos=>
        have n2:((m.list.length:Int) == 0)=true:=by rw [beq_iff_eq];omega
        rcases h3:m.dig.toList.isEmpty with _ | _
        case' true=>have HE:=Hd (show Z04 m=true from by rw [HV.out,hv];unfold Z3o;rw [hp,n1,h3,h2];rfl)
        case' false=>have HE:=Hd (show Z04 m=((m.dig.size:Int) == 32) from by
         rw [HV.out,hv];unfold Z3o;rw [hp,n1,h3,h2];simp only [Bool.true_and,Bool.false_or,beq_self_eq_true];rw [Bool.eq_iff_iff,beq_iff_eq,beq_iff_eq];omega)
    all_goals (
     rw [hv] at V1;clear hv;go_wp2_with (go_at_call 73;refine V1.out.mono ?_;rintro _ _ ⟨rfl,rfl⟩)
     go_ret;rw [HE.out];exact ⟨rfl,HB0.out⟩)
end
end Go.Proofs.YtifcdjmcoibblaaGreatDoor
