/- R3 -/
import Derived.Test.YtifcdjmcoibblaaGreatDoorFq34
import Derived.Test.YtifcdjmcoibblaaGreatDoorFq01
set_option linter.unusedVariables false
set_option linter.unusedSimpArgs false
set_option linter.unusedSectionVars false
set_option maxRecDepth 100000
set_option maxHeartbeats 80000000
namespace Go.Proofs.YtifcdjmcoibblaaGreatDoor
section
open Go.RowKit
section
variable {R:Nat→Prop} {w:World} {x:Nat} {p:Ptr} {s:StB} {G:ByteArray→List ByteArray→Prop}
theorem follow_none (h:∀j:Nat,(j:Int)<99 - s.round→s.passed (99 - (j:Int))≤faultsN s.n):s.rFollow=none:=by
 unfold NS.rFollow;refine firstR_none (fun i hi=>?_);rw [if_neg (Int.not_lt.2 (h i (by omega)))]
theorem follow_at {r:Int} (hr:s.round<r) (h99:r≤99) (h:∀j:Nat,(j:Int)<99 - r→s.passed (99 - (j:Int))≤faultsN s.n) (hp:faultsN s.n<s.passed r):s.rFollow=some (({s with round:=r}:StB).cast 5 Dg.nil 4):=by
 unfold NS.rFollow;have e:99 - (((99 - r).toNat:Nat):Int)=r:=by omega
 refine firstR_at (k:=(99 - r).toNat) (fun i hi=>?_) ?_ (by omega)
 ·rw [if_neg (Int.not_lt.2 (h i (by omega)))]
 rw [e,if_pos hp]
theorem follow_any (h:NodeP R w x p s) (ok:Ok G s):Calls Tryz.prog 119 #[pv x] w (RuleE R w x s.rFollow):=by
 have hI:=ok.inv.num;have H:=Hd h;have r0:=hI.r0;have r1:=hI.r1;have FA:=Hd (fun W=>faults_any s.n W hI.n1 hI.n7);have PA:=Hd (fun (r:Int) W (hW:Below w.heap.size w W)=>(passed_any (h.below hW) ok.stand r).mono (fun e w' q=>show _∧Below w.heap.size w w' from ⟨q.1,hW.trans (q.2.mono hW.size)⟩));have HML:=Hd ok.mine;have HI:=Hd hI;have KEEP:=Hd (show ∀W,Below w.heap.size w W→W.cell? ⟨x,17,none⟩=some (.int .i64 s.n)∧Below w.heap.size w W from fun W hW=>⟨(h.below hW).nc.c17,hW⟩);obtain ⟨fn,hfn⟩:∃fn,fn=faultsN s.n:=⟨_,rfl⟩;have HFN:=Hd hfn;rw [←hfn] at FA;obtain ⟨rd,hrd⟩:∃rd,rd=s.round:=⟨_,rfl⟩;have HRD:=Hd hrd;rw [←hrd] at r0 r1;clear h hI hfn hrd ok;unfold pv at *;try unfold iv at *
 go_enter Tryz.func119,Tryz.ntmps119
 go_wp2_with fail
 go_loopw [3] (fun i wr=>∃r:Int,i = .int .i64 r∧rd≤r∧r≤99∧Below w.heap.size w wr∧∀j:Nat,(j:Int)<99 - r→s.passed (99 - (j:Int))≤faultsN s.n) (fun i _=>(intOf i - rd).toNat)
 case atStart=>exact ⟨99,rfl,by omega,by omega,Below.refl _ _,fun j hj=>by omega⟩
 case round=>
  obtain ⟨r,rfl,hr0,hr99,hb,hno⟩:=hrel;have HB:=Hd hb;have HNO:=Hd hno;have HN:=Hd (H.out.below hb);have d1:=HN.out.nc.c1;rw [←HRD.out] at d1;clear hb hno;obtain ⟨wk,rfl⟩:∃wk:World,wk=wr:=⟨_,rfl⟩;by_cases hlt:rd<r
  ·have d17:=HN.out.nc.c17;have PR:=Hd (PA.out r);obtain ⟨ps,hps⟩:∃ps,ps=s.passed r:=⟨_,rfl⟩;have HPS:=Hd hps;rw [←hps] at PR;clear hps;go_upto_region 4 with (fail)
   go_region_held3 (fun W=>W.cell? ⟨x,17,none⟩=some (.int .i64 s.n)∧Below w.heap.size w W)
    (first | (exact KEEP.out _ E1) | (exact KEEP.out _ HB.out.drew) | (go_split_ands;exact ⟨by assumption,by assumption⟩))
    (first
     | (go_at_call 115;refine (PR.out _ ?_).mono ?_;(go_split_ands;assumption);rintro e w2 ⟨rfl,hb⟩;have E1:=hb;clear hb)
     | (go_at_call 167;refine (FA.out _).mono ?_;rintro _ _ ⟨rfl,rfl⟩))
   have HE1:=Hd E1;clear E1 d1 d17;by_cases hp:fn<ps
   ·have HE:=Hd (show s.rFollow=some (({s with round:=r}:StB).cast 5 Dg.nil 4) from follow_at (by rw [←HRD.out];exact hlt) hr99 HNO.out (by rw [←HFN.out,←HPS.out];exact hp));have HN2:=Hd (H.out.below HE1.out);have f1:=HN2.out.nc.c1;have ffz:=HN2.out.nc.fz;have HNL:=Hd (fun W (hW:W=_)=>show NodeP R W x p {s with round:=r} from by rw [hW];exact HN2.out.set (s':={s with round:=r}) (p':=p) 1 (.int .i64 r) rfl (fun _ h=>h.same) (fun _ h=>h.same));go_wp2_with (go_at_call 173;refine (cast_any (HNL.out _ rfl) (show NumI ({s with round:=r}:StB) from ⟨HI.out.n1,HI.out.n7,HI.out.id0,HI.out.idn,HI.out.h0,HI.out.h1,by show 0≤r;omega,hr99,HI.out.st1,HI.out.st4,HI.out.c0,HI.out.c1,HI.out.vr,HI.out.lr⟩) HML.out 5 (.inr rfl) (ByteArray.mk #[]) szB_nil 4).mono ?_;rintro e w3 ⟨rfl,ht⟩;have HT:=Hd ht;clear ht)
    go_ret;rw [HE.out];exact ⟨rfl,Turned.after HE1.out (Turned.trans (Chg.set _ x 1 _ H.out.mem) (Grows.refl R _) HT.out)⟩
   have HNP:=Hd (show s.passed r≤faultsN s.n from by rw [←HFN.out,←HPS.out];exact Int.not_lt.1 hp);go_wp2
   go_roundw
   case rel=>
    refine ⟨r - 1,by go_num,by omega,by omega,HE1.out,fun j hj=>?_⟩;by_cases q:(j:Int)<99 - r
    ·exact HNO.out j q
    have:99 - (j:Int)=r:=by omega
    rw [this];exact HNP.out
   case measure=>simp [intOf];omega
  have hre:r=rd:=by omega
  subst hre;have HE:=Hd (show s.rFollow=none from follow_none (by rw [←HRD.out];exact HNO.out));go_wp2
  go_ret;rw [HE.out];exact ⟨rfl,HB.out⟩
def spr (s:StB) (r:Nat):Bool:=!(memD ((6:Int),(r:Int)) s.made) && !((s.most 6 (r:Int)).1.toList.isEmpty) && decide (faultsN s.n<(s.most 6 (r:Int)).2)
theorem spr_iff (s:StB) (r:Nat):spr s r=true↔(((6:Int),(r:Int))∉s.made∧(s.most 6 (r:Int)).1≠Dg.nil∧faultsN s.n<(s.most 6 (r:Int)).2):=by
 unfold spr;simp only [Bool.and_eq_true,Bool.not_eq_true',decide_eq_true_eq,memD_false,and_assoc];have e:(s.most 6 (r:Int)).1.toList.isEmpty=false↔(s.most 6 (r:Int)).1≠Dg.nil:=by
  constructor
  ·intro h q;rw [q] at h;exact absurd (h.symm.trans (show (ByteArray.mk #[]).toList.isEmpty=true from by simp)) (by decide)
  exact isEmpty_ne
 rw [e]
theorem spread_none (h:∀j:Nat,(j:Int)<s.round+1→spr s j=false):s.rSpread=none:=by
 unfold NS.rSpread;refine firstR_none (fun i hi=>?_);have:=h i (by omega);simp only;rw [if_neg (fun q=>by rw [(spr_iff s i).2 q] at this;cases this)]
theorem spread_at {k:Nat} (hk:(k:Int)<s.round+1) (h:∀j:Nat,j<k→spr s j=false) (hp:spr s k=true):s.rSpread=some (s.say (vote 6 (k:Int) (s.most 6 (k:Int)).1)):=by
 unfold NS.rSpread;refine firstR_at (k:=k) (fun i hi=>?_) ?_ (by omega)
 ·have:=h i hi;simp only;rw [if_neg (fun q=>by rw [(spr_iff s i).2 q] at this;cases this)]
 simp only;rw [if_pos ((spr_iff s k).1 hp)]
theorem spread_any (h:NodeP R w x p s) (ok:Ok G s):Calls Tryz.prog 117 #[pv x] w (RuleE R w x s.rSpread):=by
 have hI:=ok.inv.num;have H:=Hd h;have r0:=hI.r0;have r1:=hI.r1;have c1:=h.nc.c1;have FA:=Hd (fun W=>faults_any s.n W hI.n1 hI.n7);have MO:=Hd (fun (r:Int) W (hW:Below w.heap.size w W)=>(mostB_any (h.below hW).boxAt (by have:=hI.n1;omega) hI.n7 6 s.height r).mono (fun e w' q=>show e = .returned (.tuple #[.string (s.most 6 r).1,.int .i64 (s.most 6 r).2])∧Below w.heap.size w w' from ⟨q.1,hW.trans (q.2.mono hW.size)⟩));have HOK:=Hd ok;have HI:=Hd hI;have KEEP:=Hd (show ∀W,Below w.heap.size w W→W.cell? ⟨x,0,none⟩=some (.int .i64 s.height)∧W.cell? ⟨x,12,none⟩=some (.pointer (some ⟨p.box,0,none⟩))∧Below w.heap.size w W from fun W hW=>⟨(h.below hW).nc.c0,(h.below hW).nc.c12,hW⟩);obtain ⟨fn,hfn⟩:∃fn,fn=faultsN s.n:=⟨_,rfl⟩;have HFN:=Hd hfn;rw [←hfn] at FA;obtain ⟨rd,hrd⟩:∃rd,rd=s.round:=⟨_,rfl⟩;have HRD:=Hd hrd;rw [←hrd] at r0 r1 c1;clear h hI hfn hrd ok;unfold pv at *;try unfold iv at *
 go_enter Tryz.func117,Tryz.ntmps117
 go_wp2_with fail
 clear c1;go_loopw [12] (fun i wr=>∃k:Nat,i = .int .i64 (k:Int)∧(k:Int)≤rd+1∧Below w.heap.size w wr∧∀j:Nat,j<k→spr s j=false) (fun i _=>(rd+1 - intOf i).toNat)
 case atStart=>exact ⟨0,rfl,by omega,Below.refl _ _,fun j hj=>absurd hj (Nat.not_lt_zero _)⟩
 case round=>
  obtain ⟨k,rfl,hk,hb,hno⟩:=hrel;have HB:=Hd hb;have HNO:=Hd hno;have HN:=Hd (H.out.below hb);clear hb hno;obtain ⟨wk,rfl⟩:∃wk:World,wk=wr:=⟨_,rfl⟩;by_cases hlt:(k:Int)<rd+1
  ·have d0:=HN.out.nc.c0;have d12:=HN.out.nc.c12;have MK:=Hd (MO.out (k:Int));obtain ⟨md,hmd⟩:∃md,md=(s.most 6 (k:Int)).1:=⟨_,rfl⟩;obtain ⟨mc,hmc⟩:∃mc,mc=(s.most 6 (k:Int)).2:=⟨_,rfl⟩;have HSZ:=Hd (show szB md from by rw [hmd];exact most_sz HOK.out.inv 6 (k:Int));have HSP:=Hd (show spr s k=(!(memD ((6:Int),(k:Int)) s.made) && !(md.toList.isEmpty) && decide (fn<mc)) from by rw [hmd,hmc,HFN.out];rfl);have HMD:=Hd hmd;rw [←hmd,←hmc] at MK;clear hmd hmc;go_upto_region 4 with (fail)
   go_region_held3 (fun W=>W.cell? ⟨x,0,none⟩=some (.int .i64 s.height)∧W.cell? ⟨x,12,none⟩=some (.pointer (some ⟨p.box,0,none⟩))∧Below w.heap.size w W)
    (first | (exact KEEP.out _ E1) | (exact KEEP.out _ HB.out.drew) | (go_split_ands;exact ⟨by assumption,by assumption,by assumption⟩))
    (first
     | (go_at_call 172;refine (MK.out _ ?_).mono ?_;(go_split_ands;assumption);rintro e w2 ⟨rfl,hb⟩;have E1:=hb;clear hb))
   have HE1:=Hd E1;have HN1:=Hd (H.out.below E1);clear E1 d0 d12;have f15:=HN1.out.nc.c15;have f17:=HN1.out.nc.c17;have hlk:=HN1.out.maps.look_made 6 (k:Int);obtain ⟨wm,rfl⟩:∃wm:World,wm=w2:=⟨_,rfl⟩;rcases hm:memD ((6:Int),(k:Int)) s.made with _ | _
   ·rw [hm] at hlk HSP;rcases hem:md.toList.isEmpty with _ | _
    ·rw [hem] at HSP;by_cases hf:fn<mc
     ·have HSPT:=Hd (show spr s k=true from by rw [HSP.out];simp [hf]);have HE:=Hd (spread_at (by rw [←HRD.out];exact hlt) HNO.out HSPT.out);rw [←HMD.out] at HE;obtain ⟨s2,hs2⟩:∃s2,s2=s.say (vote 6 (k:Int) md):=⟨_,rfl⟩;have S:=Hd (say_any HN1.out (m:=vote 6 (k:Int) md) ⟨.slice none 0 0,rfl,LRow.nil R wm⟩ (Nat.zero_le _) HI.out HOK.out.mine (fun _=>say_okv HI.out (by simp [vote]) (by simp only [vote];omega) rfl rfl HSZ.out));rw [←hs2] at S HE;clear hs2 hm HSP HMD;unfold encM vote at S;unfold pv iv at S;go_wp2_with (first
       | (go_at_call 167;refine (FA.out _).mono ?_;rintro _ _ ⟨rfl,rfl⟩)
       | (go_at_call 108;refine S.out.mono ?_;rintro e w3 ⟨rfl,ht⟩;have HT:=Hd ht;clear ht))
      go_ret;rw [HE.out];exact ⟨rfl,Turned.after HE1.out HT.out⟩
     have HSPT:=Hd (show spr s k=false from by rw [HSP.out];simp [hf]);clear hm HSP HMD;go_wp2_with (first
      | (go_at_call 167;refine (FA.out _).mono ?_;rintro _ _ ⟨rfl,rfl⟩))
     go_roundw
     case rel=>
      refine ⟨k+1,by go_num,by omega,HE1.out,fun j hj=>?_⟩;rcases Nat.lt_succ_iff_lt_or_eq.1 hj with q | q
      ·exact HNO.out j q
      subst q;exact HSPT.out
     case measure=>simp [intOf];omega
    rw [hem] at HSP;have hmd:md=ByteArray.mk #[]:=toList_inj (by rw [List.isEmpty_iff.1 hem];simp);have HSPT:=Hd (show spr s k=false from by rw [HSP.out];simp);subst hmd;clear hm HSP HMD hem;go_wp2
    go_roundw
    case rel=>
     refine ⟨k+1,by go_num,by omega,HE1.out,fun j hj=>?_⟩;rcases Nat.lt_succ_iff_lt_or_eq.1 hj with q | q
     ·exact HNO.out j q
     subst q;exact HSPT.out
    case measure=>simp [intOf];omega
   rw [hm] at hlk HSP;have HSPT:=Hd (show spr s k=false from by rw [HSP.out];simp);clear hm HSP HMD;go_wp2
   go_roundw
   case rel=>
    refine ⟨k+1,by go_num,by omega,HE1.out,fun j hj=>?_⟩;rcases Nat.lt_succ_iff_lt_or_eq.1 hj with q | q
    ·exact HNO.out j q
    subst q;exact HSPT.out
   case measure=>simp [intOf];omega
  have hre:(k:Int)=rd+1:=by omega
  have HE:=Hd (show s.rSpread=none from spread_none (fun j hj=>HNO.out j (by rw [←HRD.out] at hj;omega)));go_wp2
  go_ret;rw [HE.out];exact ⟨rfl,HB.out⟩
theorem valid_none (h:∀j:Nat,(j:Int)<s.round - s.least→(s.chosenList 6 (s.round - (j:Int))).isNone=true):s.rValidate=none:=by
 unfold NS.rValidate;refine firstR_none (fun i hi=>?_);have:=h i (by omega);rw [Option.isNone_iff_eq_none.1 this]
theorem valid_at {r:Int} {v:ValB} (hr:s.least<r) (h99:r≤s.round) (h:∀j:Nat,(j:Int)<s.round - r→(s.chosenList 6 (s.round - (j:Int))).isNone=true) (hp:s.chosenList 6 r=some v):s.rValidate=some {s with valid:=some v}:=by
 unfold NS.rValidate;have e:s.round - (((s.round - r).toNat:Nat):Int)=r:=by omega
 refine firstR_at (k:=(s.round - r).toNat) (fun i hi=>?_) ?_ (by omega)
 ·have:=h i (by omega);rw [Option.isNone_iff_eq_none.1 this]
 rw [e,hp]
theorem validate_any (h:NodeP R w x p s) (ok:Ok G s) (gl:GLaw G):Calls Tryz.prog 118 #[pv x] w (RuleE R w x s.rValidate):=by
 have hI:=ok.inv.num;have H:=Hd h;have r0:=hI.r0;have r1:=hI.r1;have c1:=h.nc.c1;have c6:=h.nc.c6;have CL:=Hd (fun (r:Int) W (hW:Below w.heap.size w W)=>chosenList_any (h.below hW) hI.n1 hI.n7 (ok.coh gl) 6 r);have VP:=h.rest.valid;obtain ⟨le,hle⟩:∃le,le=s.least:=⟨_,rfl⟩;have HLE:=Hd hle;have hle0:-1≤le∧le≤99:=by
  rw [hle];unfold NS.least;rcases hv:s.valid with _ | v
  ·simp
  have:=hI.vr v hv;simp only;omega
 obtain ⟨le0,le1⟩:=hle0;have LV:(p.valid=none∧le = -1)∨∃g,p.valid=some g∧w.cell? ⟨g,0,none⟩=some (.int .i64 le):=by
  rw [hle];unfold NS.least;rcases hp:p.valid with _ | g
  ·rcases hv:s.valid with _ | v
   ·exact .inl ⟨rfl,rfl⟩
   rw [hp,hv] at VP;exact VP.elim
  rcases hv:s.valid with _ | v
  ·rw [hp,hv] at VP;exact VP.elim
  rw [hp,hv] at VP;obtain ⟨_,sl,hc,_⟩:=VP;exact .inr ⟨g,rfl,by rw [cell_of_row w g 0 _ _ _ hc];rfl⟩
 obtain ⟨rd,hrd⟩:∃rd,rd=s.round:=⟨_,rfl⟩;have HRD:=Hd hrd;rw [←hrd] at r0 r1 c1;clear h hI hle hrd ok VP;unfold pv at *;try unfold iv at *
 go_enter Tryz.func118,Tryz.ntmps118
 obtain ⟨vp,hvp⟩:∃vp,vp=po p.valid:=⟨_,rfl⟩;rw [←hvp] at c6;have LW:(vp = .pointer none∧le = -1)∨∃g,vp = .pointer (some ⟨g,0,none⟩)∧w.cell? ⟨g,0,none⟩=some (.int .i64 le):=by
  rw [hvp];rcases LV with ⟨e1,e2⟩ | ⟨g,e1,e2⟩
  ·exact .inl ⟨by rw [e1];rfl,e2⟩
  exact .inr ⟨g,by rw [e1];rfl,e2⟩
 clear LV hvp;have LB:∃b:Bool,(b=true↔vp≠.pointer none):=by
  rcases LW with ⟨rfl,_⟩ | ⟨g,rfl,_⟩
  ·exact ⟨false,by simp⟩
  exact ⟨true,by simp⟩
 obtain ⟨b,hb⟩:=LB;go_upto_region 2 with (fail)
 go_cut [12] (fun t wc=>t = .bool b∧wc=w)
 case first=>
  rcases LW with ⟨rfl,e2⟩ | ⟨g,rfl,e2⟩
  ·have:b=false:=by rcases b with _ | _;rfl;exact absurd rfl (hb.1 rfl)
   go_wp2_with fail
   go_meet;exact ⟨by rw [this],rfl⟩
  have:b=true:=hb.2 (by simp);go_wp2_with fail
  go_meet;exact ⟨by rw [this],rfl⟩
 case rest=>
 obtain ⟨rfl,rfl⟩:=hcut;obtain ⟨wv,rfl⟩:∃wv:World,wv=wc:=⟨_,rfl⟩;go_upto_if 12 with (fail)
 go_cut [3] (fun t wc=>t = .int .i64 le∧wc=wv)
 case first=>
  rcases LW with ⟨rfl,e2⟩ | ⟨g,rfl,e2⟩
  ·have hb0:b=false:=by rcases b with _ | _;rfl;exact absurd rfl (hb.1 rfl)
   subst hb0;go_wp2_with fail
   go_meet;exact ⟨by rw [e2],rfl⟩
  have hb0:b=true:=hb.2 (by simp);subst hb0;go_wp2_with fail
  go_meet;exact ⟨rfl,rfl⟩
 case rest=>
  obtain ⟨rfl,rfl⟩:=hcut;obtain ⟨w,rfl⟩:∃w:World,w=wc:=⟨_,rfl⟩;clear c6 LW hb;go_wp2_with fail
  go_loopw [4] (fun i wr=>∃r:Int,i = .int .i64 r∧-1≤r∧r≤rd∧(rd<le∨le≤r)∧Below w.heap.size w wr∧∀j:Nat,(j:Int)<rd - r→(s.chosenList 6 (rd - (j:Int))).isNone=true) (fun i _=>(intOf i - le).toNat)
  case atStart=>exact ⟨rd,rfl,by omega,by omega,by omega,Below.refl _ _,fun j hj=>by omega⟩
  case round=>
   obtain ⟨r,rfl,hr0,hr99,hrl,hb,hno⟩:=hrel;have HB:=Hd hb;have HNO:=Hd hno;clear hb hno;obtain ⟨wk,rfl⟩:∃wk:World,wk=wr:=⟨_,rfl⟩;by_cases hlt:le<r
   ·have CR:=Hd (CL.out r wk HB.out);rcases hcl:s.chosenList 6 r with _ | v
    ·have HCL:=Hd hcl;go_upto_region 7 with (fail)
     go_wp2_with (go_at_call 171;refine CR.out.mono ?_;rintro e w3 ⟨he,hb3⟩;unfold ChosenLE at he;rw [HCL.out] at he;obtain ⟨a,b,ao,n,cap,rfl⟩:=he;have HB3:=Hd hb3;clear hb3)
     go_roundw
     case rel=>
      refine ⟨r - 1,by go_num,by omega,by omega,by omega,(HB.out.trans (HB3.out.mono HB.out.size)).alloc (Nat.le_trans HB.out.size HB3.out.size) _,fun j hj=>?_⟩;by_cases q:(j:Int)<rd - r
      ·exact HNO.out j q
      have:rd - (j:Int)=r:=by omega
      rw [this,HCL.out];rfl
     case measure=>simp [intOf];omega
    have HCL:=Hd hcl;have HE:=Hd (show s.rValidate=some {s with valid:=some v} from valid_at (by rw [←HLE.out];exact hlt) (by rw [←HRD.out];exact hr99) (by rw [←HRD.out];exact HNO.out) hcl);clear hcl;go_upto_region 7 with (fail)
    go_upto_region 9 with (go_at_call 171;refine CR.out.mono ?_;rintro e w3 ⟨he,hb3⟩;unfold ChosenLE at he;rw [HCL.out] at he;obtain ⟨u,rfl,sl,rfl,ao,cap2,rfl,hcap2,hrow2⟩:=he;have HLV:=Hd (show LRow R w3 (.slice ao v.list.length cap2) v.list from ⟨ao,cap2,rfl,hcap2,hrow2⟩);clear hcap2 hrow2;unfold iv;have HB3:=Hd hb3;clear hb3)
    have HB4:=Hd (HB.out.trans (HB3.out.mono HB.out.size));have HB1:=Hd (HB4.out.alloc HB4.out.size (.cells #[.int .i64 v.round,.string v.dig,.slice ao v.list.length cap2] 120));have HR1:=Hd (World.alloc_heap_new w3 (.cells #[.int .i64 v.round,.string v.dig,.slice ao v.list.length cap2] 120));have HLV1:=Hd (HLV.out.below (fun k hk=>Nat.lt_of_lt_of_le (H.out.lt k hk) HB4.out.size) ((Below.refl w3.heap.size w3).alloc (Nat.le_refl _) (.cells #[.int .i64 v.round,.string v.dig,.slice ao v.list.length cap2] 120)));obtain ⟨wm,hwm⟩:∃wm,wm=w3.alloc (.cells #[.int .i64 v.round,.string v.dig,.slice ao v.list.length cap2] 120):=⟨_,rfl⟩;rw [←hwm] at HB1 HR1 HLV1 ⊢;clear hwm;have d6:=(H.out.below HB1.out).nc.c6;have dfz:=(H.out.below HB1.out).nc.fz;obtain ⟨g,hg⟩:∃g,g=w3.heap.size:=⟨_,rfl⟩;rw [←hg] at HR1 ⊢;have HGG:=Hd hg;clear hg;have hgl:g<wm.heap.size:=(gE HR1.out).1;have hm1:NodeP (fun k=>R k∨k=g) wm x p s:=(H.out.below HB1.out).mono (fun k hk=>.inl hk) (fun k hk=>by
     rcases hk with hk | hk
     ·exact (H.out.below HB1.out).lt k hk
     subst hk;exact hgl)
    have HNL:=Hd (hm1.put_valid (g:=g) (v:=v) (.inr rfl) HR1.out (HLV1.out.mono (fun k hk=>.inl hk)));have HCG:=Hd (show Chg R w (wm.setCell ⟨x,6,none⟩ (pv g)) from (Chg.of_below HB1.out (fun k q1 q2=>by omega)).trans (Chg.set wm x 6 _ (.inl H.out.mem)));have HGR:=Hd (show Grows R (fun k=>R k∨k=g) w from ⟨fun k hk=>.inl hk,fun k hk=>by
     rcases hk with hk | hk
     ·exact .inl hk
     exact .inr (by rw [hk,HGG.out];exact HB4.out.size)⟩)
    clear hm1 hgl;unfold pv at HNL HCG;go_wp2
    go_ret;rw [HE.out];exact ⟨rfl,_,_,HNL.out,HCG.out,HGR.out⟩
   have HE:=Hd (show s.rValidate=none from valid_none (fun j hj=>by
    rw [←HRD.out];rw [←HRD.out,←HLE.out] at hj;exact HNO.out j (by omega)))
   go_wp2
   go_ret;rw [HE.out];exact ⟨rfl,HB.out⟩
end
end
end Go.Proofs.YtifcdjmcoibblaaGreatDoor
