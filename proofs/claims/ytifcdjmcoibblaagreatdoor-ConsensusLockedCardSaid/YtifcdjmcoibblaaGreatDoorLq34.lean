/- Dcd App ConT -/
import Derived.Test.YtifcdjmcoibblaaGreatDoorLq33
import Derived.Test.YtifcdjmcoibblaaGreatDoorLq10
import Derived.Test.YtifcdjmcoibblaaGreatDoorLq01
import Derived.Test.YtifcdjmcoibblaaGreatDoorLq32
import Derived.WalkMore
import Derived.Test.YtifcdjmcoibblaaGreatDoorLq27
set_option linter.unusedVariables false
set_option linter.unusedSimpArgs false
set_option linter.unusedSectionVars false
set_option maxRecDepth 100000
set_option maxHeartbeats 80000000
namespace Go.Proofs.YtifcdjmcoibblaaGreatDoor
section
open Go.RowKit
section
variable {R:Nat→Prop} {w:World} {x:Nat} {p:Ptr} {s:StB} {G:ByteArray→List ByteArray→Prop}
theorem decide_c {m:MsgB} (h:claimed s s.order=some m):s.rDecide=some {s with decs:=putA s.height ⟨-1,m.dig,m.list⟩ s.decs}:=by unfold NS.rDecide;rw [h]
theorem decide_p {v:ValB} (h:claimed s s.order=none) (h2:firstR (fun r=>s.chosenList 5 r) 100=some v):s.rDecide=some {s with decs:=putA s.height v s.decs}:=by unfold NS.rDecide;rw [h];simp only;rw [h2]
theorem decide_n (h:claimed s s.order=none) (h2:firstR (fun r=>s.chosenList 5 r) 100=none):s.rDecide=none:=by unfold NS.rDecide;rw [h];simp only;rw [h2]
theorem decide_any (h:NodeP R w x p s) (ok:Ok G s) (gl:GLaw G):Calls Tryz.prog 116 #[pv x] w (RuleE R w x s.rDecide):=by
 have hmm:=@run_makeMap Tryz.prog;have hI:=ok.inv.num;have H:=Hd h;have HOK:=Hd ok;have HCO:=Hd (ok.coh gl);have HMK:=Hd (RawMap.made w);obtain ⟨LC,hLC,hAC⟩:=h.maps.claims;have HLC:=Hd hLC;have HAC:=Hd hAC;have c10:=(h.up (.map #[] 0)).nc.c10;have hfz:=(h.up (.map #[] 0)).nc.fz;have n1:=hI.n1;have n7:=hI.n7;have HLN:=Hd ok.inv.order_len;have HPC:=Hd (show p.claims<w.heap.size from hLC.lt);clear h hLC hAC ok;unfold pv;go_enter Tryz.func116,Tryz.ntmps116
 go_wp2_with (at_range;refine wpList_range_raw _ rfl (.tmp 17) 110 (by rfl) 3 36 Tryz.underlying110 p.claims LC (by rfl) (HLC.out.kept (Below.heap_alloc _ _ _ HLC.out.lt)) ?_;intro ob hob;have S0:=Hd (show CntI R w p s w.heap.size (w.heap.size+1) LC LC s.claims [] ((w.alloc (.map #[] 0)).alloc ob) from ⟨by simpa using hob,HAC.out,⟨[],List.Perm.refl _,fun d=>rfl⟩,HMK.out.kept (Below.heap_alloc _ _ _ (by simp)),((Below.refl _ _).alloc (Nat.le_refl _) _).alloc (by simp) _,by omega,Nat.le_refl _,by omega,by simp;omega⟩);clear hob)
 obtain ⟨cb,hcb⟩:∃cb,w.heap.size=cb:=⟨_,rfl⟩;obtain ⟨it,hit⟩:∃it,cb+1=it:=⟨_,rfl⟩;simp only [World.size_alloc] at S0 ⊢;rw [hcb,hit] at S0 ⊢;have HCB:=Hd hcb;clear hcb hit c10 hfz;go_frame
 go_loopw [5] (fun _ wr=>∃left lf cl,CntI R w p s cb it LC left lf cl wr) (fun _ wr=>wr.rangeLeft p.claims it)
 case atStart=>exact ⟨_,_,_,S0.out⟩
 case round=>
  obtain ⟨left,lf,cl,hr⟩:=hrel;have RR:=Hd hr;have RNG:=Hd hr.rng;have LEN:=Hd hr.rng.left_len;clear hr;go_wp2_with (at_next;refine wpList_next_raw _ rfl (.tmp 18) (by rfl) p.claims it LC left (by rfl) RNG.out ?_ ?_)
  ·intro hl;subst hl;have HCT:=Hd (show ∀d,(getA d cl).getD 0=countD d s.claims from by
    obtain ⟨dn,h1,h2⟩:=RR.out.dn;cases RR.out.all;rw [List.append_nil] at h1;exact fun d=>(h2 d).trans (countD_perm h1))
   have HB1:=Hd RR.out.bel;have HN1:=Hd (H.out.below RR.out.bel);have HCM:=Hd RR.out.cnt;have c10:=HN1.out.nc.c10;have c11:=HN1.out.nc.c11;have hfz:=HN1.out.nc.fz;obtain ⟨ao,cap,hor,hoc⟩:=HN1.out.order_row;rw [hor] at c11;have HOC:=Hd hoc;have HOR:=Hd hor;clear RR RNG LEN hor hoc S0;obtain ⟨w1,rfl⟩:∃w1:World,w1=wr:=⟨_,rfl⟩;obtain ⟨ln,hln⟩:∃ln,ln=s.order.length:=⟨_,rfl⟩;rw [←hln] at c11;have HLN2:=Hd hln;have hln7:ln≤7:=by have:=HLN.out.1;omega
   clear hln;go_wp2_with fail
   go_loopw [34] (fun i wr=>∃k:Nat,k≤ln∧i = .int .i64 (k:Int)∧Below w1.heap.size w1 wr∧claimed s s.order=claimed s (s.order.drop k)) (fun i _=>ln - (intOf i).toNat)
   case atStart=>exact ⟨0,by omega,rfl,Below.refl _ _,by simp⟩
   case round=>
    obtain ⟨k,hk,rfl,hb,hcd⟩:=hrel;have HBR:=Hd hb;have HNR:=Hd (HN1.out.below hb);have HCR:=Hd (HCM.out.kept (hb.block cb HCM.out.lt));have HCD:=Hd hcd;clear hb hcd c10 c11 hfz;have c10:=HNR.out.nc.c10;have c0:=HNR.out.nc.c0;have hfz:=HNR.out.nc.fz;obtain ⟨wr2,rfl⟩:∃w2:World,w2=wr:=⟨_,rfl⟩;by_cases hlt:k<ln
    ·have hkl:k<s.order.length:=by rw [←HLN2.out];exact hlt
     obtain ⟨site,hst⟩:∃z,s.order[k]?=some z:=⟨_,List.getElem?_eq_getElem hkl⟩;obtain ⟨g,rfl,hRg,hcell⟩:=HOC.out k site hst;have hcell2:wr2.cell? ⟨g,k,none⟩=some (.int .i64 site):=by rw [HBR.out.cell (World.block_lt_of_cell? _ _ hcell)];exact hcell
     have hdr:s.order.drop k=site :: s.order.drop (k+1):=by
      rw [List.drop_eq_getElem_cons hkl];congr 1;rw [List.getElem?_eq_getElem hkl] at hst;injection hst
     have hmem:site∈s.claims.map (·.1):=by rw [←HOK.out.inv.box.ord];exact List.mem_of_getElem? hst
     rcases HNR.out.maps.look_claims site false with ⟨e,_⟩ | ⟨m,u,hg,hu,hlk⟩
     ·exact absurd hmem (getA_none.1 e)
     obtain ⟨sl,rfl,ao2,cap2,rfl,hcap2,hrow2⟩:=hu;have HG:=Hd hg;have HLM:=Hd (show LRow R wr2 (.slice ao2 m.list.length cap2) m.list from ⟨ao2,cap2,rfl,hcap2,hrow2⟩);have HDR:=Hd hdr;unfold encM iv at hlk;simp only [Bool.false_eq_true,if_false] at hlk;obtain ⟨wm,hwm⟩:∃wm,wm=wr2.alloc (.cells #[.int .i64 m.kind,.int .i64 m.frm,.int .i64 m.to,.int .i64 m.height,.int .i64 m.round,.int .i64 m.valid,.string m.dig,.slice ao2 m.list.length cap2] 36):=⟨_,rfl⟩;have HRM:=Hd (show wm.heap[wr2.heap.size]?=some (.cells (encM m (.slice ao2 m.list.length cap2)) 36 (0,0)) from by rw [hwm];exact World.alloc_heap_new wr2 _);have HBM:=Hd (show Below wr2.heap.size wr2 wm from by rw [hwm];exact (Below.refl _ _).alloc (Nat.le_refl _) _);clear hg hdr hmem hst hkl hcap2 hrow2 hRg hcell;go_upto_region 10 with (fail)
     rw [←hwm];clear hwm hlk hcell2 c10 c0 hfz;have HNM:=Hd (HNR.out.below HBM.out);obtain ⟨m0,m1,m2,m3,m4,m5,m6,m7,mfz⟩:=MRow.of HRM.out;have c17:=HNM.out.nc.c17;have hfz:=HNM.out.nc.fz;have hlc:=look_ct (HCR.out.kept (HBM.out.block cb HCR.out.lt)) m.dig;rw [HCT.out] at hlc;have FA:=Hd (fun W=>faults_any s.n W n1 n7);have hcl:=countD_le m.dig s.claims;have hcl7:=HLN.out.2;obtain ⟨cm,hcm⟩:∃cm,cm=countD m.dig s.claims:=⟨_,rfl⟩;have HCMM:=Hd hcm;rw [←hcm] at hlc;clear hcl hcl7 hcm;obtain ⟨fn,hfn⟩:∃fn,fn=faultsN s.n:=⟨_,rfl⟩;have HFN:=Hd hfn;rw [←hfn] at FA;clear hfn;have hlcd:=look_ct (HCR.out.kept (HBM.out.drew.block cb HCR.out.lt)) m.dig;rw [HCT.out,←HCMM.out] at hlcd;go_cut [54] (fun t wc=>t = .bool (decide (fn<cm))∧Below wm.heap.size wm wc)
     case first=>
      go_region_law (go_simp;go_at_call 167;(with_reducible refine (FA.out _).mono ?_);rintro e w9 ⟨rfl,rfl⟩)
      all_goals (go_wp2_with fail;go_meet;exact ⟨by simp,(Below.refl _ _).drew⟩)
     case rest=>
      obtain ⟨rfl,hbw⟩:=hcut;obtain ⟨w4,rfl⟩:∃w4:World,w4=wc:=⟨_,rfl⟩;have HN4:=Hd (HNM.out.below hbw);have HB4:=Hd (HBM.out.trans (hbw.mono HBM.out.size));have HR4:=Hd ((hbw.block _ (gE HRM.out).1).trans HRM.out);clear hbw m0 m1 m2 m3 m4 m5 m6 m7 mfz c17 hfz hlc hlcd;have HLM4:=Hd (HLM.out.below HNR.out.lt HB4.out);have c0:=HN4.out.nc.c0;have c18:=HN4.out.nc.c18;have hfz:=HN4.out.nc.fz;by_cases hgt:fn<cm
      ·have HE:=Hd (show s.rDecide=some {s with decs:=putA s.height ⟨-1,m.dig,m.list⟩ s.decs} from decide_c (HCD.out.trans (by rw [HDR.out];exact claimed_here HG.out (by rw [←HFN.out,←HCMM.out];exact hgt))));obtain ⟨m0,m1,m2,m3,m4,m5,m6,m7,mfz⟩:=MRow.of HR4.out;obtain ⟨ob2,hup,hnf⟩:=HN4.out.drew.lay_decs s.height ⟨-1,m.dig,m.list⟩ (sl:=.slice ao2 m.list.length cap2) (HLM4.out.below HN4.out.lt ((Below.refl _ w4).drew));have HNF:=Hd hnf;unfold iv at hup;simp only at hup;clear hnf;go_upto_region 11 with (fail)
       go_region
       all_goals (
        go_wp2
        go_ret;rw [HE.out];exact ⟨rfl,Turned.after (HB1.out.trans ((HBR.out.trans (HB4.out.mono HBR.out.size)).mono HB1.out.size)).drew (Turned.of HNF.out (Chg.put _ p.decs ob2 (HN4.out.maps.own _ (by simp [Ptr.maps]))))⟩)
      have HCN:=Hd (show claimed s s.order=claimed s (s.order.drop (k+1)) from HCD.out.trans (by rw [HDR.out];exact claimed_step HG.out (by rw [←HFN.out,←HCMM.out];exact hgt)));go_wp2
      go_roundw
      case rel=>exact ⟨k+1,by omega,by go_num,HBR.out.trans (HB4.out.mono HBR.out.size),HCN.out⟩
      case measure=>simp [intOf];omega
    have hkn:k=ln:=by omega
    subst hkn;have HCN:=Hd (show claimed s s.order=none from by rw [HCD.out,HLN2.out];simp;rfl);have HBW:=Hd (HB1.out.trans (HBR.out.mono HB1.out.size));clear HCD HCR HCM HCT HOC HOR HN1 HBR c10 c0 hfz HB1;obtain ⟨w1,rfl⟩:∃w1:World,w1=wr2:=⟨_,rfl⟩;go_wp2_with fail
    go_loopw [70] (fun i wr=>∃k:Nat,k≤100∧i = .int .i64 (k:Int)∧Below w1.heap.size w1 wr∧∀j,j<k→s.chosenList 5 (j:Int)=none) (fun i _=>100 - (intOf i).toNat)
    case atStart=>exact ⟨0,by omega,rfl,Below.refl _ _,fun j hj=>absurd hj (Nat.not_lt_zero _)⟩
    case round=>
     obtain ⟨k,hk,rfl,hb,hno⟩:=hrel;have HBR:=Hd hb;have HN:=Hd (HNR.out.below hb);have HNO:=Hd hno;clear hb hno;obtain ⟨wk,rfl⟩:∃wk:World,wk=wr:=⟨_,rfl⟩;by_cases hlt:k<100
     ·have CL:=Hd (chosenList_any HN.out n1 n7 HCO.out 5 (k:Int));unfold pv iv at CL;rcases hcl:s.chosenList 5 (k:Int) with _ | v
      ·have HCL:=Hd hcl;go_upto_region 17 with (fail)
       go_wp2_with (go_at_call 171;refine CL.out.mono ?_;rintro e w3 ⟨he,hb3⟩;unfold ChosenLE at he;rw [HCL.out] at he;obtain ⟨a,b,ao,n,cap,rfl⟩:=he;have HB3:=Hd hb3;clear hb3)
       go_roundw
       case rel=>
        refine ⟨k+1,by omega,by go_num,?_,fun j hj=>?_⟩
        ·exact (HBR.out.trans (HB3.out.mono HBR.out.size)).alloc (Nat.le_trans HBR.out.size HB3.out.size) _
        rcases Nat.lt_succ_iff_lt_or_eq.1 hj with q | q
        ·exact HNO.out j q
        subst q;exact HCL.out
       case measure=>simp [intOf];omega
      have HCL:=Hd hcl;have HE:=Hd (show s.rDecide=some {s with decs:=putA s.height v s.decs} from decide_p HCN.out (firstR_at (fun i hi=>HNO.out i hi) hcl hlt));clear hcl;go_upto_region 17 with (fail)
      go_upto_region 19 with (go_at_call 171;refine CL.out.mono ?_;rintro e w3 ⟨he,hb3⟩;unfold ChosenLE at he;rw [HCL.out] at he;obtain ⟨u,rfl,sl,rfl,ao,cap2,rfl,hcap2,hrow2⟩:=he;have HLV:=Hd (show LRow R w3 (.slice ao v.list.length cap2) v.list from ⟨ao,cap2,rfl,hcap2,hrow2⟩);clear hcap2 hrow2;unfold iv;have HB3:=Hd hb3;clear hb3)
      obtain ⟨wm,hwm⟩:∃wm,wm=w3.alloc (.cells #[.int .i64 v.round,.string v.dig,.slice ao v.list.length cap2] 120):=⟨_,rfl⟩;have HRM:=Hd (show wm.heap[w3.heap.size]?=some (.cells #[.int .i64 v.round,.string v.dig,.slice ao v.list.length cap2] 120 (0,0)) from by rw [hwm];exact World.alloc_heap_new w3 _);have HBM:=Hd (show Below w3.heap.size w3 wm from by rw [hwm];exact (Below.refl _ _).alloc (Nat.le_refl _) _);rw [←hwm];clear hwm;have HBT:=Hd (show Below w.heap.size w wm from HBW.out.trans ((HBR.out.trans ((HB3.out.trans (HBM.out.mono HB3.out.size)).mono HBR.out.size)).mono HBW.out.size));have HNM:=Hd (H.out.below HBT.out);have HLM:=Hd ((HLV.out.below (fun k hk=>Nat.lt_of_lt_of_le (HN.out.lt k hk) HB3.out.size) HBM.out.drew));obtain ⟨ob2,hup,hnf⟩:=HNM.out.drew.lay_decs s.height v HLM.out;have HNF:=Hd hnf;unfold iv at hup;clear hnf;have c0:=HNM.out.nc.c0;have c18:=HNM.out.nc.c18;have hfz:=HNM.out.nc.fz;have v0:=cell_of_row wm w3.heap.size 0 _ _ _ HRM.out;have v1:=cell_of_row wm w3.heap.size 1 _ _ _ HRM.out;have v2:=cell_of_row wm w3.heap.size 2 _ _ _ HRM.out;simp at v0 v1 v2;go_region
      all_goals (
       go_wp2
       go_ret;rw [HE.out];exact ⟨rfl,Turned.after HBT.out.drew (Turned.of HNF.out (Chg.put _ p.decs ob2 (HNM.out.maps.own _ (by simp [Ptr.maps]))))⟩)
     have hk2:k=100:=by omega
     subst hk2;have HE:=Hd (show s.rDecide=none from decide_n HCN.out (firstR_none (fun i hi=>HNO.out i hi)));go_wp2
     go_ret;rw [HE.out];exact ⟨rfl,HBW.out.trans (HBR.out.mono HBW.out.size)⟩
  intro ke v pre post w2 hl hm hr2 hg2 hs2 hen2;obtain ⟨i,m,sl,lf',rfl,rfl,hrow,hll,hcm,hb2,hnx⟩:=RR.out.next HPC.out hl hr2 hg2;obtain ⟨ao,cap,rfl,hcap,hrw⟩:=hrow;have HNX:=Hd hnx;have HLL:=Hd hll;have HCM:=Hd hcm;have hle:=RR.out.le m.dig;have HBA:=Hd ((Below.refl _ w2).alloc (Nat.le_refl _) (.cells (encM m (.slice ao m.list.length cap)) 36));have HR3:=Hd (World.alloc_heap_new w2 (.cells (encM m (.slice ao m.list.length cap)) 36));have HCM3:=Hd (HCM.out.kept (Below.heap_alloc w2 (.cells (encM m (.slice ao m.list.length cap)) 36) _ HCM.out.lt));have hlk:=look_ct HCM3.out m.dig;obtain ⟨c,hc⟩:∃c,c=(getA m.dig cl).getD 0:=⟨_,rfl⟩;rw [←hc] at hlk hle HNX;have HC:=Hd hc;have hcl:=HLN.out.2;obtain ⟨hl0,hl1⟩:=hle;have hl7:c≤7:=by omega
  obtain ⟨c0,c1,c2,c3,c4,c5,c6,c7,fz⟩:=MRow.of HR3.out;unfold encM iv at *;clear hl hm hr2 hg2 hs2 hcm hb2 hnx hll hcap hrw hc hl1 hcl;go_wp2_with (refine wpList_mapUpdate_raw _ rfl (.tmp 23) (.tmp 25) (.tmp 27) 224 (by rfl) 9 3 Tryz.underlying224 keyS cb _ (by rfl) HCM3.out (good_ct _ _) (.string m.dig) (.int .i64 (c+1)) (by rfl) (by rfl) ⟨m.dig,rfl⟩ ?_;intro ob hob;have HO:=Hd hob;clear hob)
  have W3:=HNX.out (.cells #[.int .i64 m.kind,.int .i64 m.frm,.int .i64 m.to,.int .i64 m.height,.int .i64 m.round,.int .i64 m.valid,.string m.dig,.slice ao m.list.length cap] 36) ob (by
   have:=HO.out;rwa [show (Value.int .i64 (c+1))=iv (c+1) from rfl,putV_enc (ek:=.string) (ev:=fun _=>iv) encCt_eq str_inj] at this)
  have HW3:=Hd W3;clear W3;simp only [Act.put];go_roundw
  case rel=>exact ⟨_,_,_,HW3.out⟩
  case measure=>rw [HW3.out.rng.left_len,LEN.out,HLL.out];omega
end
end
section
open Go.RowKit
theorem least_one {P:Nat→Prop}:∀k,P k→∃m,P m∧∀j,P j→m≤j:=by
 intro k;induction k using Nat.strongRecOn with
 | _ k ih=>
  intro hk;by_cases h:∃j,j<k∧P j
  ·obtain ⟨j,hj,hp⟩:=h;exact ih j hj hp
  exact ⟨k,hk,fun j hj=>Nat.le_of_not_lt (fun q=>h ⟨j,q,hj⟩)⟩
noncomputable def leastN (P:Nat→Prop):Nat:=open Classical in if h:∃m,P m∧∀j,P j→m≤j then h.choose else 0
theorem leastN_spec {P:Nat→Prop} {k:Nat} (h:P k):P (leastN P)∧∀j,P j→leastN P≤j:=by
 have e:=least_one k h;unfold leastN;rw [dif_pos e];exact e.choose_spec
def fidOf (k:Nat):FuncId:=[116,117,118,119,120,121,122,123,124,125,126,127].getD k 0
theorem fid_enter:∀k,k<12→∀args w,(callFunc (fidOf k) args).run Tryz.prog w = .ok (.enter (fidOf k) args) w
 | 0,_=>enters_of Tryz.func116 (by kernel_rfl) rfl
 | 1,_=>enters_of Tryz.func117 (by kernel_rfl) rfl
 | 2,_=>enters_of Tryz.func118 (by kernel_rfl) rfl
 | 3,_=>enters_of Tryz.func119 (by kernel_rfl) rfl
 | 4,_=>enters_of Tryz.func120 (by kernel_rfl) rfl
 | 5,_=>enters_of Tryz.func121 (by kernel_rfl) rfl
 | 6,_=>enters_of Tryz.func122 (by kernel_rfl) rfl
 | 7,_=>enters_of Tryz.func123 (by kernel_rfl) rfl
 | 8,_=>enters_of Tryz.func124 (by kernel_rfl) rfl
 | 9,_=>enters_of Tryz.func125 (by kernel_rfl) rfl
 | 10,_=>enters_of Tryz.func126 (by kernel_rfl) rfl
 | 11,_=>enters_of Tryz.func127 (by kernel_rfl) rfl
 | n+12,h=>absurd h (by omega)
section
variable {R:Nat→Prop} {w:World} {x:Nat} {p:Ptr} {s:StB} {G:ByteArray→List ByteArray→Prop}
theorem rules_any (h:NodeP R w x p s) (ok:Ok G s) (gl:GLaw G):∀k,k<12→Calls Tryz.prog (fidOf k) #[pv x] w (RuleE R w x (s.rule k))
 | 0,_=>decide_any h ok gl
 | 1,_=>spread_any h ok
 | 2,_=>validate_any h ok gl
 | 3,_=>follow_any h ok
 | 4,_=>propose_any h ok gl
 | 5,_=>prevote_any h ok
 | 6,_=>miss_any h ok
 | 7,_=>key_any h ok
 | 8,_=>wait_any h ok
 | 9,_=>seal_any h ok gl
 | 10,_=>leave_any h ok
 | 11,_=>next_any h ok
 | n+12,h=>absurd h (by omega)
def farS (s:StB):Nat:=if s.isDec s.height=true then 0 else s.mu+1
theorem far_less {s s':StB} (h:Ok G s) {k:Nat} (he:s.rule k=some s') (hd:s.isDec s.height=false):farS s'<farS s:=by
 have e:farS s=s.mu+1:=by unfold farS;rw [if_neg (by simp [hd])]
 rw [e];unfold farS;rcases (rule_inv h.inv he).2 with q | q
 ·rw [if_pos q];omega
 split <;> omega
def rb12 (x:Nat):Array Value:=#[.func (.func (fidOf 0)) #[pv x] #[],.func (.func (fidOf 1)) #[pv x] #[],.func (.func (fidOf 2)) #[pv x] #[],.func (.func (fidOf 3)) #[pv x] #[],.func (.func (fidOf 4)) #[pv x] #[],.func (.func (fidOf 5)) #[pv x] #[],.func (.func (fidOf 6)) #[pv x] #[],.func (.func (fidOf 7)) #[pv x] #[],.func (.func (fidOf 8)) #[pv x] #[],.func (.func (fidOf 9)) #[pv x] #[],.func (.func (fidOf 10)) #[pv x] #[],.func (.func (fidOf 11)) #[pv x] #[]]
def ApI (G:ByteArray→List ByteArray→Prop) (R:Nat→Prop) (w:World) (x:Nat) (s:StB) (rb:Nat) (row:Array Value) (T:TypeId) (k:Nat) (wr:World):Prop:=
 ∃p1 R1 s1,NodeP R1 wr x p1 s1∧Ok G s1∧s1.apply=s.apply∧Chg R w wr∧Grows R R1 w∧¬R1 rb∧wr.heap[rb]?=some (.cells row T (0,0))∧k=farS s1
theorem apply_any (h:NodeP R w x p s) (ok:Ok G s) (gl:GLaw G):Calls Tryz.prog 66 #[pv x] w fun e w'=>e = .returned (.tuple #[])∧Turned R w x s.apply w':=by
 have H:=Hd h;have HOK:=Hd ok;clear h ok;unfold pv;go_enter Tryz.func66,Tryz.ntmps66
 apply wp_scope_straight;go_wp2_with fail
 go_step3
 go_wp2_with fail
 obtain ⟨rb,hrb⟩:∃rb,rb=w.heap.size:=⟨_,rfl⟩;have ST:=Hd (show ApI G R w x s w.heap.size (rb12 x) 22 (farS s) (w.alloc (.cells (rb12 x) 22)) from
  ⟨p,R,s,H.out.up _,HOK.out,rfl,Chg.alloc _ _ _,Grows.refl R w,fun q=>by have:=H.out.lt _ q;omega,World.alloc_heap_new w _,rfl⟩)
 have ROW:=Hd (show ∀(j:Nat),j<12→(rb12 x)[j]?=some (.func (.func (fidOf j)) #[pv x] #[]) from fun j hj=>by
  match j,hj with
  | 0,_=>rfl
  | 1,_=>rfl
  | 2,_=>rfl
  | 3,_=>rfl
  | 4,_=>rfl
  | 5,_=>rfl
  | 6,_=>rfl
  | 7,_=>rfl
  | 8,_=>rfl
  | 9,_=>rfl
  | 10,_=>rfl
  | 11,_=>rfl
  | n+12,h=>exact absurd h (by omega))
 rw [←hrb] at ST ⊢;obtain ⟨row,hrow⟩:∃row,row=rb12 x:=⟨_,rfl⟩;rw [←hrow] at ST ROW;rw [show (Obj.cells #[Value.func (Fn.func 116) #[Value.pointer (some {block:=x,off:=0})] #[],Value.func (Fn.func 117) #[Value.pointer (some {block:=x,off:=0})] #[],Value.func (Fn.func 118) #[Value.pointer (some {block:=x,off:=0})] #[],Value.func (Fn.func 119) #[Value.pointer (some {block:=x,off:=0})] #[],Value.func (Fn.func 120) #[Value.pointer (some {block:=x,off:=0})] #[],Value.func (Fn.func 121) #[Value.pointer (some {block:=x,off:=0})] #[],Value.func (Fn.func 122) #[Value.pointer (some {block:=x,off:=0})] #[],Value.func (Fn.func 123) #[Value.pointer (some {block:=x,off:=0})] #[],Value.func (Fn.func 124) #[Value.pointer (some {block:=x,off:=0})] #[],Value.func (Fn.func 125) #[Value.pointer (some {block:=x,off:=0})] #[],Value.func (Fn.func 126) #[Value.pointer (some {block:=x,off:=0})] #[],Value.func (Fn.func 127) #[Value.pointer (some {block:=x,off:=0})] #[]] 22) = .cells row 22 from by rw [hrow];rfl];clear hrb hrow;go_loopw [] (fun wr=>∃k,ApI G R w x s rb row 22 k wr) (fun wr=>leastN (fun k=>ApI G R w x s rb row 22 k wr))
 case atStart=>exact ⟨_,ST.out⟩
 case round=>
  obtain ⟨k,hk⟩:=hrel;have hmin:=(leastN_spec (P:=fun k=>ApI G R w x s rb row 22 k wr) hk).1;obtain ⟨μ,hμ⟩:∃μ,μ=leastN (fun k=>ApI G R w x s rb row 22 k wr):=⟨_,rfl⟩;rw [←hμ] at hmin;have HMU:=Hd hμ;obtain ⟨p1,R1,s1,hn,ho,ha,hc,hg,hnr,hrow,hfar⟩:=hmin;have HN:=Hd hn;have HO:=Hd ho;have HA:=Hd ha;have HC:=Hd hc;have HG:=Hd hg;have HNR:=Hd hnr;have HROW:=Hd hrow;have HFAR:=Hd hfar;have d0:=hn.nc.c0;have ID:=Hd (isDecided_any hn s1.height);clear hk hμ hn ho ha hc hg hnr hrow hfar;obtain ⟨w1,rfl⟩:∃w1:World,w1=wr:=⟨_,rfl⟩;unfold pv iv at ID;rcases hd:s1.isDec s1.height with _ | _
  ·have HD:=Hd hd;rw [hd] at ID;clear hd;go_wp2_with (go_at_call 63;refine ID.out.mono ?_;rintro e w2 ⟨rfl,hb⟩;have HB:=Hd hb;clear hb)
   have HN2:=Hd (HN.out.below HB.out);have HROW2:=Hd ((HB.out.block rb (gE HROW.out).1).trans HROW.out);have NXT:=Hd (show ∀(j:Nat) (s2:StB) (w4:World),j<12→(∀l,l<j→(s1.rule l).isNone=true)→s1.rule j=some s2→Turned R1 w1 x s2 w4→ApI G R w x s rb row 22 (farS s2) w4 from fun j s2 w4 hj hno hr ht=>by
    obtain ⟨p2,R2,n2,c2,g2⟩:=ht;refine ⟨p2,R2,s2,n2,HO.out.rule hr,?_,HC.out.trans (c2.mono (fun k _ hk=>HG.out.2 k hk)),HG.out.trans g2 HC.out.size,fun q=>?_,?_,rfl⟩
    ·rw [←HA.out];exact (apply_step HO.out.inv HD.out (firstR_at (fun i hi=>Option.isNone_iff_eq_none.1 (hno i hi)) hr hj)).symm
    ·rcases g2.2 rb q with q | q
     ·exact HNR.out q
     have:=(gE HROW.out).1;omega
    exact (c2.block rb (gE HROW.out).1 HNR.out).trans HROW.out)
   obtain ⟨wz,rfl⟩:∃wz:World,wz=w2:=⟨_,rfl⟩;go_loopw [40] (fun i wi=>∃j:Nat,j≤12∧i = .int .i64 (j:Int)∧Below wz.heap.size wz wi∧∀l,l<j→(s1.rule l).isNone=true) (fun i _=>12 - (intOf i).toNat)
   case atStart=>exact ⟨0,by omega,rfl,Below.refl _ _,fun l hl=>absurd hl (Nat.not_lt_zero _)⟩
   case round=>
    obtain ⟨j,hj,rfl,hb,hno⟩:=hrel;have HBI:=Hd hb;have HNO:=Hd hno;clear hb hno;obtain ⟨wi,rfl⟩:∃wi:World,wi=wr:=⟨_,rfl⟩;by_cases hlt:j<12
    ·have hcell:wi.cell? ⟨rb,j,none⟩=some (.func (.func (fidOf j)) #[pv x] #[]):=by
      rw [cell_of_row wi rb j _ _ _ ((HBI.out.block rb (gE HROW2.out).1).trans HROW2.out)];exact ROW.out j hlt
     have HNI:=Hd (HN2.out.below HBI.out);have RU:=Hd (rules_any HNI.out HO.out gl j hlt);have eg:=fid_enter j hlt;obtain ⟨fid,hfid⟩:∃fid,fid=fidOf j:=⟨_,rfl⟩;rw [←hfid] at hcell RU eg;unfold pv at hcell RU;clear hfid;rcases hr:s1.rule j with _ | s2
     ·rw [hr] at RU;have HR:=Hd hr;clear hr;go_wp2_with (refine RU.out.mono ?_;rintro e w4 ⟨rfl,hb⟩;have HB4:=Hd hb;clear hb)
      go_roundw
      case rel=>
       refine ⟨j+1,by omega,by go_num,HBI.out.trans (HB4.out.mono HBI.out.size),fun l hl=>?_⟩;rcases Nat.lt_succ_iff_lt_or_eq.1 hl with q | q
       ·exact HNO.out l q
       subst q;rw [HR.out];rfl
      case measure=>simp [intOf];omega
     rw [hr] at RU;have HR:=Hd hr;clear hr;go_wp2_with (refine RU.out.mono ?_;rintro e w4 ⟨rfl,ht⟩;have HT:=Hd ht;clear ht)
     have NEW:=Hd (NXT.out j s2 w4 hlt HNO.out HR.out (Turned.after (HB.out.trans (HBI.out.mono HB.out.size)) HT.out));go_roundw
     case rel=>exact ⟨_,NEW.out⟩
     case measure=>
      rw [←HMU.out];refine Nat.lt_of_le_of_lt ((leastN_spec (P:=fun k=>ApI G R w x s rb row 22 k w4) NEW.out).2 _ NEW.out) ?_;rw [HFAR.out];exact far_less HO.out HR.out HD.out
    have hj12:j=12:=by omega
    subst hj12;have HE:=Hd (show s.apply=s1 from by
     rw [←HA.out];exact apply_end (.inr (firstR_none (fun i hi=>Option.isNone_iff_eq_none.1 (HNO.out i hi)))))
    go_wp2
    rw [Exit.noGoto_ret];refine bodyPost_ret (results_none rfl _ _ _) rfl ⟨rfl,?_⟩;rw [HE.out];exact Turned.then ⟨p1,R1,HN.out,HC.out,HG.out⟩ (HB.out.trans (HBI.out.mono HB.out.size))
  have HE:=Hd (show s.apply=s1 from by rw [←HA.out];exact apply_end (.inl hd));rw [hd] at ID;clear hd;go_wp2_with (go_at_call 63;refine ID.out.mono ?_;rintro e w2 ⟨rfl,hb⟩;have HB:=Hd hb;clear hb)
  rw [Exit.noGoto_normal];refine bodyPost_end (results_none rfl _ _ _) rfl ⟨rfl,?_⟩;rw [HE.out];exact Turned.then ⟨p1,R1,HN.out,HC.out,HG.out⟩ HB.out
end
end
section
variable {D L:Type} [Dg D] [Inhabited L]
theorem tick_done {s:NS D L} (h:s.isDec s.height=true):s.tick=({s with ques:=[]},s.answers):=by
 unfold NS.tick;simp only;exact if_pos h
def toldS (id n:Int) (d:D) (l:L):NS D L:={(newS id n:NS D L) with decs:=[(0,⟨-1,d,l⟩)]}
theorem told_learn (id n:Int) (d:D) (l:L):(newS id n:NS D L).learn 0 true d l=(toldS id n d l,true):=by
 unfold NS.learn;simp only [Bool.true_eq_false,false_or];rw [if_neg (by omega)];rfl
def quesS (id n:Int) (d:D) (l:L) (q:List (Int×(Int×Int))):NS D L:={(toldS id n d l) with ques:=q}
theorem told_dec (id n:Int) (d:D) (l:L) (q:List (Int×(Int×Int))):(quesS id n d l q).isDec 0=true:=rfl
theorem told_tick (id n:Int) (d:D) (l:L):(toldS id n d l).tick=(toldS id n d l,[]):=tick_done rfl
def lateV (n i r:Int):Msg D L:=⟨4,n - 1,i,0,r,0,Dg.nil,default⟩
def quesOf (n:Int):Option Int→List (Int×(Int×Int))
 | none=>[]
 | some r=>[(n - 1,(0,r))]
def maxO (o:Option Int) (r:Int):Option Int:=match o with | none=>some r | some a=>some (max a r)
theorem told_ask {id n:Int} {d:D} {l:L} (o:Option Int) {r:Int} (hn:1≤n):(quesS id n d l (quesOf n o)).receive (lateV n id r) true=quesS id n d l (quesOf n (maxO o r)):=by
 unfold NS.receive;rw [if_neg (by
  simp only [Bool.true_eq_false,false_or,not_or];exact ⟨fun h=>h rfl,by show ¬(n≤n - 1);omega,by show ¬((0:Int)<0);omega⟩)]
 rw [if_neg (by intro h;exact h (.inr (.inl rfl)))];rw [if_pos (show (quesS id n d l (quesOf n o)).isDec (lateV n id r:Msg D L).height=true from rfl)];unfold NS.ask;rw [if_neg (by rintro ⟨h,_⟩;exact absurd h (by show ¬(4:Int)=3;omega))];rw [if_neg (by show ¬_∈([]:List (Int×Int));simp)];rcases o with _ | a
 ·rfl
 show (match getA (n - 1) [(n - 1,((0:Int),a))] with | some q=>_ | none=>_)=_;unfold getA;rw [if_pos rfl];show (if (0:Int)<0∨((0:Int)=0∧a<r) then _ else _)=_;by_cases h:a<r
 ·rw [if_pos (.inr ⟨rfl,h⟩)];have e:max a r=r:=by omega
  unfold maxO;simp only [e];show quesS id n d l (putA (n - 1) (0,r) [(n - 1,((0:Int),a))])=_;unfold putA;rw [if_pos rfl];rfl
 rw [if_neg (by rintro (q | ⟨_,q⟩) <;> omega)];have e:max a r=a:=by omega
 unfold maxO;simp only [e]
theorem told_asks {id n:Int} {d:D} {l:L} (hn:1≤n):∀(rs:List Int) (o:Option Int),rs.foldl (fun s r=>s.receive (lateV n id r) true) (quesS id n d l (quesOf n o))=quesS id n d l (quesOf n (rs.foldl maxO o))
 | [],o=>rfl
 | r :: rs,o=>by rw [List.foldl_cons,told_ask o hn,told_asks hn rs,List.foldl_cons]
theorem told_answers {id n:Int} {d:D} {l:L} (o:Option Int):(quesS id n d l (quesOf n o)).tick=(toldS id n d l,match o with | none=>[] | some r=>(toldS id n d l).answer (n - 1) (0,r)):=by
 rw [tick_done rfl];refine Prod.ext rfl ?_;rcases o with _ | r
 ·rfl
 show NS.answers _=_;unfold NS.answers;show (sortI [n - 1]).flatMap (fun site=>match getA site [(n - 1,((0:Int),r))] with | some q=>_ | none=>[])=_;show ([n - 1]:List Int).flatMap _=_;rw [List.flatMap_cons,List.flatMap_nil,List.append_nil];unfold getA;rw [if_pos rfl];rfl
theorem answer_eq {id n:Int} {d:D} {l:L} (site r:Int):(toldS id n d l).answer site (0,r) =
  [⟨3,id,site,0,(toldS id n d l).claimRound 0 r,-1,d,l⟩,⟨4,id,site,0,r,0,d,default⟩] ++ ((List.range (r+1).toNat).map fun (k:Nat)=>(⟨6,id,site,0,(k:Int),0,d,default⟩:Msg D L)) ++ [⟨5,id,site,0,r,0,d,default⟩]:=rfl
theorem answer_len {id n:Int} {d:D} {l:L} (site:Int) {r:Int} (hr:0≤r):(((toldS id n d l).answer site (0,r)).length:Int)=r+4:=by
 rw [answer_eq];simp;omega
structure LateI (n:Int) (d:D) (l:L) (k:Nat) (s:NS D L):Prop where
 nn:s.n=n
 id:s.id=n - 1
 height:s.height=0
 decs:s.decs = []
 ques:s.ques = []
 mine:s.mine = []
 order:s.order=(List.range k).map fun (i:Nat)=>(i:Int)
 claims:∃mm:Nat→Msg D L,s.claims=((List.range k).map fun (i:Nat)=>((i:Int),mm i))∧∀i,i<k→(mm i).dig=d∧(mm i).list=l
theorem late_new (n:Int) (d:D) (l:L):LateI n d l 0 (newS (n - 1) n:NS D L):=⟨rfl,rfl,rfl,rfl,rfl,rfl,rfl,fun _=>default_msg,rfl,fun i hi=>absurd hi (by omega)⟩
 where default_msg:Msg D L:=⟨0,0,0,0,0,0,Dg.nil,default⟩
theorem LateI.isDec {n:Int} {d:D} {l:L} {k:Nat} {s:NS D L} (h:LateI n d l k s) (j:Int):s.isDec j=false:=by
 unfold NS.isDec;rw [h.decs];rfl
theorem LateI.vote {n:Int} {d:D} {l:L} {k:Nat} {s:NS D L} (h:LateI n d l k s) {m:Msg D L} (hk:m.kind≠3) (hh:m.height=0):LateI n d l k (s.receive m true):=by
 unfold NS.receive;split
 ·exact h
 split
 ·exact h
 rw [h.isDec];simp only [Bool.false_eq_true,if_false];rw [if_neg (by rw [hh,h.height];omega)];first | rw [if_pos hk] | skip
 obtain ⟨hb,e1,e2,e3,e4,e5,e6⟩:=putVote_same s m;exact ⟨by rw [hb.n];exact h.nn,by rw [hb.id];exact h.id,by rw [hb.height];exact h.height,by rw [hb.decs];exact h.decs,by rw [hb.ques];exact h.ques,by rw [e4];exact h.mine,by rw [hb.order];exact h.order,by rw [hb.claims];exact h.claims⟩
theorem LateI.claim {n:Int} {d:D} {l:L} {k:Nat} {s:NS D L} (h:LateI n d l k s) {m:Msg D L} (hk:m.kind=3) (hf:m.frm=k) (ht:m.to=n - 1) (hh:m.height=0) (hkn:(k:Int)<n)
  (hd:m.dig=d) (hl:m.list=l) (hp:m.round % n≠k):LateI n d l (k+1) (s.receive m true):=by
 obtain ⟨mm,hc,hm⟩:=h.claims;have hprop:s.proposer m.frm m.height m.round=false:=by
  unfold NS.proposer;rw [h.nn,hf,hh,Int.zero_add];exact decide_eq_false hp
 have hg:getA m.frm s.claims=none:=by
  rw [getA_none,hc,hf];simp only [List.map_map,List.mem_map,List.mem_range,Function.comp];rintro ⟨i,hi,e⟩;have:i=k:=by omega
  omega
 unfold NS.receive;rw [if_neg (by
  simp only [Bool.true_eq_false,false_or,not_or];refine ⟨?_,?_,?_⟩
  ·rw [ht,h.id];simp
  ·rw [h.nn,hf];omega
  rw [h.height,hh];omega)]
 rw [if_neg (by intro q;exact q (.inl hk))];rw [h.isDec];simp only [Bool.false_eq_true,if_false];rw [if_neg (by rw [hh,h.height];omega),if_neg (by intro q;exact q hk),hprop];simp only [Bool.false_eq_true,if_false,hg];refine ⟨h.nn,h.id,h.height,h.decs,h.ques,h.mine,?_,fun i=>if i=k then m else mm i,?_,fun i hi=>?_⟩
 ·show s.order ++ [m.frm]=_;rw [h.order,hf,List.range_succ,List.map_append];rfl
 ·show putA m.frm m s.claims=_;rw [putA_new hg,hc,List.range_succ,List.map_append];congr 1
  ·refine List.map_congr_left fun i hi=>?_;rw [List.mem_range] at hi;show ((i:Int),mm i)=((i:Int),if i=k then m else mm i);rw [if_neg (by omega)]
  simp [hf]
 by_cases e:i=k
 ·simp only [e,if_true];exact ⟨hd,hl⟩
 simp only [e,if_false];exact hm i (by omega)
theorem claim_round {id n:Int} {d:D} {l:L} {r:Int} (hn:2≤n) (h0:0≤id) (h1:id<n) (hr:0≤r) (hr2:r<99):(toldS id n d l).claimRound 0 r % n≠id∧(toldS id n d l).claimRound 0 r=if r % n=id then r+1 else r:=by
 unfold NS.claimRound NS.proposer;show (if decide ((0+r) % n=id)=false then r else if r<99 then r+1 else r - 1) % n≠id∧(if decide ((0+r) % n=id)=false then r else if r<99 then r+1 else r - 1)=_;rw [Int.zero_add];by_cases h:r % n=id
 ·have e:decide (r % n=id)=true:=decide_eq_true h;rw [e];simp only [Bool.true_eq_false,if_false];rw [if_pos hr2,if_pos h];refine ⟨fun q=>?_,rfl⟩;have h2:=Int.emod_add_emod r n 1;rw [h,q] at h2;rcases (by omega:id+1<n∨n≤id+1) with q1 | q1
  ·rw [Int.emod_eq_of_lt (by omega) q1] at h2;omega
  have e2:id+1=n:=by omega
  rw [e2,Int.emod_self] at h2;omega
 have e:decide (r % n=id)=false:=decide_eq_false h;rw [e];simp only [if_true];rw [if_neg h];exact ⟨h,rfl⟩
theorem LateI.answer {n:Int} {d:D} {l:L} {k:Nat} {s:NS D L} (h:LateI n d l k s) (hn:2≤n) (hkn:(k:Int)<n) {r:Int} (hr:0≤r) (hr2:r<99):LateI n d l (k+1) (((toldS (k:Int) n d l).answer (n - 1) (0,r)).foldl (fun s m=>s.receive m true) s):=by
 have hfold:∀(ms:List (Msg D L)) (j:Nat) (t:NS D L),LateI n d l j t→(∀m∈ms,m.kind≠3∧m.height=0)→LateI n d l j (ms.foldl (fun s m=>s.receive m true) t):=by
  intro ms;induction ms with
  | nil=>intro j t ht _;exact ht
  | cons m ms ih=>intro j t ht hm;exact ih j _ (ht.vote (hm m (by simp)).1 (hm m (by simp)).2) (fun x hx=>hm x (by simp [hx]))
 rw [answer_eq,List.append_assoc,List.cons_append,List.foldl_cons];refine hfold _ _ _ (h.claim rfl rfl rfl rfl hkn rfl rfl (claim_round hn (by omega) hkn hr hr2).1) ?_;intro m hm;simp only [List.cons_append,List.nil_append,List.mem_cons,List.mem_append,List.mem_map,List.mem_range,List.not_mem_nil,or_false] at hm;rcases hm with rfl | ⟨i,hi,rfl⟩ | rfl
 ·exact ⟨by show ¬((4:Int)=3);decide,rfl⟩
 ·exact ⟨by show ¬((6:Int)=3);decide,rfl⟩
 exact ⟨by show ¬((5:Int)=3);decide,rfl⟩
theorem LateI.tick {n:Int} {d:D} {l:L} {k:Nat} {s:NS D L} (h:LateI n d l k s) (hn:1≤n) (hk:faultsN n<k):s.tick.2 = []∧s.tick.1.ques = []∧∃v,getA 0 s.tick.1.decs=some v∧v.dig=d∧v.list=l:=by
 obtain ⟨mm,hc,hm⟩:=h.claims;have hf:0≤faultsN n∨faultsN n<0:=by omega
 have hans:s.answers = []:=by unfold NS.answers;rw [h.ques];rfl
 unfold NS.tick;simp only;rw [if_neg (by show ¬s.isDec s.height=true;rw [h.isDec];simp)];rw [hans];obtain ⟨t,ht⟩:∃t,t=({s with ques:=[]}:NS D L).ticked:=⟨_,rfl⟩;have hk0:0<k∨k=0:=by omega
 have ht_n:t.n=n:=by rw [ht];exact h.nn
 have ht_h:t.height=0:=by rw [ht];exact h.height
 have ht_d:t.decs = []:=by rw [ht];exact h.decs
 have ht_q:t.ques = []:=by rw [ht];rfl
 have ht_m:t.mine = []:=by rw [ht];exact h.mine
 have ht_o:t.order=(List.range k).map fun (i:Nat)=>(i:Int):=by rw [ht];exact h.order
 have ht_c:t.claims=(List.range k).map fun (i:Nat)=>((i:Int),mm i):=by rw [ht];exact hc
 rw [←ht];have hkk:k≠0∨k=0:=by omega
 have hdec:t.isDec t.height=false:=by unfold NS.isDec;rw [ht_d];rfl
 have hcnt:∀dd:D,dd=d→countD dd t.claims=k:=by
  rintro _ rfl;unfold countD;rw [ht_c,List.filter_eq_self.2 (by
   intro p hp;simp only [List.mem_map,List.mem_range] at hp;obtain ⟨i,hi,rfl⟩:=hp;exact decide_eq_true (hm i hi).1)]
  simp
 rcases Nat.eq_zero_or_pos k with hz | hz
 ·subst hz;exfalso;have hfn:faultsN n=(n - 1) / 3:=rfl;omega
 obtain ⟨k',rfl⟩:∃k',k=k'+1:=⟨k - 1,by omega⟩;have hg0:getA (0:Int) t.claims=some (mm 0):=by
  rw [ht_c,List.range_succ_eq_map,List.map_cons];unfold getA;rw [if_pos (by simp)]
 have hcl:claimed t t.order=some (mm 0):=by
  rw [ht_o,List.range_succ_eq_map,List.map_cons];unfold claimed;show (match getA (0:Int) t.claims with | some m=>_ | none=>_)=_;rw [hg0];show (if faultsN t.n<countD (mm 0).dig t.claims then some (mm 0) else _)=_;rw [if_pos (by rw [ht_n,hcnt _ (hm 0 (by omega)).1];exact hk)]
 have hrule:t.rDecide=some {t with decs:=putA t.height ⟨-1,(mm 0).dig,(mm 0).list⟩ t.decs}:=by
  unfold NS.rDecide;rw [hcl]
 have hstep:t.stepS=some {t with decs:=putA t.height ⟨-1,(mm 0).dig,(mm 0).list⟩ t.decs}:=by
  unfold NS.stepS;exact firstR_at (k:=0) (fun i hi=>absurd hi (by omega)) hrule (by omega)
 have happ:t.apply = {t with decs:=putA t.height ⟨-1,(mm 0).dig,(mm 0).list⟩ t.decs}:=by
  unfold NS.apply;show NS.runS (t.mu+1+1) t=_;unfold NS.runS;rw [hdec];simp only [Bool.false_eq_true,if_false,hstep];unfold NS.runS;rw [if_pos (by unfold NS.isDec;rw [getA_put,if_pos rfl];rfl)]
 rw [happ];refine ⟨?_,ht_q,⟨-1,(mm 0).dig,(mm 0).list⟩,?_,(hm 0 (by omega)).1,(hm 0 (by omega)).2⟩
 ·show [] ++ NS.sends _ (List.drop _ t.mine) = [];rw [ht_m,List.drop_nil];rfl
 show getA 0 (putA t.height _ t.decs)=_;rw [getA_put,if_pos ht_h.symm]
end
end Go.Proofs.YtifcdjmcoibblaaGreatDoor
