/- Dcd App ConT -/
import Derived.Test.YtifcdjmcoibblaaGreatDoorAq33
import Derived.Test.YtifcdjmcoibblaaGreatDoorAq32
set_option linter.unusedVariables false
set_option linter.unusedSimpArgs false
set_option linter.unusedSectionVars false
set_option maxRecDepth 100000
set_option maxHeartbeats 80000000
namespace Go.Proofs.YtifcdjmcoibblaaGreatDoor
section
open Go.RowKit
section
variable {R:Nat->Prop} {w:World} {x:Nat} {p:Ptr} {s:StB} {G:ByteArray->List ByteArray->Prop}
theorem Zov {m:Z0k} (h:Z0v s s.order=some m):s.rDecide=some {s with decs:=Z18 s.height ⟨-1,m.dig,m.list⟩ s.decs}:=by unfold NS.rDecide;rw [h]
theorem Zow {v:Z4x} (h:Z0v s s.order=none) (h2:Z1m (λr=>s.chosenList 5 r) 100=some v):s.rDecide=some {s with decs:=Z18 s.height v s.decs}:=by unfold NS.rDecide;rw [h];simp only;rw [h2]
theorem Zox (h:Z0v s s.order=none) (h2:Z1m (λr=>s.chosenList 5 r) 100=none):s.rDecide=none:=by unfold NS.rDecide;rw [h];simp only;rw [h2]
theorem Zjl (h:Z00 R w x p s) (ok:Ok G s) (gl:Zin G):Calls Tryz.prog 116 #[pv x] w (Z7t R w x s.rDecide):=by
 have hmm:=@run_makeMap Tryz.prog;have hI:=ok.inv.num;have H:=Hd h;have HOK:=Hd ok;have HCO:=Hd (ok.coh gl);have HMK:=Hd (Z01.made w);obtain ⟨LC,hLC,hAC⟩:=h.maps.claims;have HLC:=Hd hLC;have HAC:=Hd hAC;have c10:=(h.up (.map #[] 0)).nc.c10;have hfz:=(h.up (.map #[] 0)).nc.fz;have n1:=hI.n1;have n7:=hI.n7;have HLN:=Hd ok.inv.order_len;have HPC:=Hd (show p.claims<w.heap.size from hLC.lt);clear h hLC hAC ok;unfold pv;go_enter Tryz.func116,Tryz.ntmps116
 go_wp2_with (at_range;refine Z26 _ rfl (.tmp 17) 110 (by rfl) 3 36 Tryz.underlying110 p.claims LC (by rfl) (HLC.out.kept (Below.heap_alloc _ _ _ HLC.out.lt)) ?_;intro ob hob;have S0:=Hd (show Zr1 R w p s w.heap.size (w.heap.size+1) LC LC s.claims [] ((w.alloc (.map #[] 0)).alloc ob) from ⟨by simpa using hob,HAC.out,⟨[],List.Perm.refl _,λd=>rfl⟩,HMK.out.kept (Below.heap_alloc _ _ _ (by simp)),((Below.refl _ _).alloc (Nat.le_refl _) _).alloc (by simp) _,by omega,Nat.le_refl _,by omega,by simp;omega⟩);clear hob)
 obtain ⟨cb,hcb⟩:∃cb,w.heap.size=cb:=⟨_,rfl⟩;obtain ⟨it,hit⟩:∃it,cb+1=it:=⟨_,rfl⟩;simp only [World.size_alloc] at S0 ⊢;rw [hcb,hit] at S0 ⊢;have HCB:=Hd hcb;clear hcb hit c10 hfz;go_frame
 go_loopw [5] (λ_ wr=>∃left lf cl,Zr1 R w p s cb it LC left lf cl wr) (λ_ wr=>wr.rangeLeft p.claims it)
 case atStart=>exact ⟨_,_,_,S0.out⟩
 case round=>
  obtain ⟨left,lf,cl,hr⟩:=hrel;have RR:=Hd hr;have RNG:=Hd hr.rng;have LEN:=Hd hr.rng.left_len;clear hr;go_wp2_with (at_next;refine Z2a _ rfl (.tmp 18) (by rfl) p.claims it LC left (by rfl) RNG.out ?_ ?_)
  ·intro hl;subst hl;have HCT:=Hd (show ∀d,(Z02 d cl).getD 0=Z19 d s.claims from by
    obtain ⟨dn,h1,h2⟩:=RR.out.dn;cases RR.out.all;rw [List.append_nil] at h1;exact λd=>(h2 d).trans (Zgk h1))
   have HB1:=Hd RR.out.bel;have HN1:=Hd (H.out.below RR.out.bel);have HCM:=Hd RR.out.cnt;have c10:=HN1.out.nc.c10;have c11:=HN1.out.nc.c11;have hfz:=HN1.out.nc.fz;obtain ⟨ao,cap,hor,hoc⟩:=HN1.out.order_row;rw [hor] at c11;have HOC:=Hd hoc;have HOR:=Hd hor;clear RR RNG LEN hor hoc S0;obtain ⟨w1,rfl⟩:∃w1:World,w1=wr:=⟨_,rfl⟩;obtain ⟨ln,hln⟩:∃ln,ln=s.order.length:=⟨_,rfl⟩;rw [<-hln] at c11;have HLN2:=Hd hln;have hln7:ln<=7:=by have:=HLN.out.1;omega
   clear hln;go_wp2_with fail
   go_loopw [34] (λi wr=>∃k:Nat,k<=ln∧i = .int .i64 (k:Int)∧Below w1.heap.size w1 wr∧Z0v s s.order=Z0v s (s.order.drop k)) (λi _=>ln - (intOf i).toNat)
   case atStart=>exact ⟨0,by omega,rfl,Below.refl _ _,by simp⟩
   case round=>
    obtain ⟨k,hk,rfl,hb,hcd⟩:=hrel;have HBR:=Hd hb;have HNR:=Hd (HN1.out.below hb);have HCR:=Hd (HCM.out.kept (hb.block cb HCM.out.lt));have HCD:=Hd hcd;clear hb hcd c10 c11 hfz;have c10:=HNR.out.nc.c10;have c0:=HNR.out.nc.c0;have hfz:=HNR.out.nc.fz;obtain ⟨wr2,rfl⟩:∃w2:World,w2=wr:=⟨_,rfl⟩;by_cases hlt:k<ln
    ·have hkl:k<s.order.length:=by rw [<-HLN2.out];exact hlt
     obtain ⟨site,hst⟩:∃z,s.order[k]?=some z:=⟨_,List.getElem?_eq_getElem hkl⟩;obtain ⟨g,rfl,hRg,hcell⟩:=HOC.out k site hst;have hcell2:wr2.cell? ⟨g,k,none⟩=some (.int .i64 site):=by rw [HBR.out.cell (World.block_lt_of_cell? _ _ hcell)];exact hcell
     have hdr:s.order.drop k=site :: s.order.drop (k+1):=by
      rw [List.drop_eq_getElem_cons hkl];congr 1;rw [List.getElem?_eq_getElem hkl] at hst;injection hst
     have hmem:site∈s.claims.map (·.1):=by rw [<-HOK.out.inv.box.ord];exact List.mem_of_getElem? hst
     rcases HNR.out.maps.look_claims site false with ⟨e,_⟩ | ⟨m,u,hg,hu,hlk⟩
     ·exact absurd hmem (Z6p.1 e)
     obtain ⟨sl,rfl,ao2,cap2,rfl,hcap2,hrow2⟩:=hu;have HG:=Hd hg;have HLM:=Hd (show Z0a R wr2 (.slice ao2 m.list.length cap2) m.list from ⟨ao2,cap2,rfl,hcap2,hrow2⟩);have HDR:=Hd hdr;unfold Z0l iv at hlk;simp only [Bool.false_eq_true,if_false] at hlk;obtain ⟨wm,hwm⟩:∃wm,wm=wr2.alloc (.cells #[.int .i64 m.kind,.int .i64 m.frm,.int .i64 m.to,.int .i64 m.height,.int .i64 m.round,.int .i64 m.valid,.string m.dig,.slice ao2 m.list.length cap2] 36):=⟨_,rfl⟩;have HRM:=Hd (show wm.heap[wr2.heap.size]?=some (.cells (Z0l m (.slice ao2 m.list.length cap2)) 36 (0,0)) from by rw [hwm];exact World.alloc_heap_new wr2 _);have HBM:=Hd (show Below wr2.heap.size wr2 wm from by rw [hwm];exact (Below.refl _ _).alloc (Nat.le_refl _) _);clear hg hdr hmem hst hkl hcap2 hrow2 hRg hcell;go_upto_region 10 with (fail)
     rw [<-hwm];clear hwm hlk hcell2 c10 c0 hfz;have HNM:=Hd (HNR.out.below HBM.out);obtain ⟨m0,m1,m2,m3,m4,m5,m6,m7,mfz⟩:=Z1y.of HRM.out;have c17:=HNM.out.nc.c17;have hfz:=HNM.out.nc.fz;have hlc:=Z94 (HCR.out.kept (HBM.out.block cb HCR.out.lt)) m.dig;rw [HCT.out] at hlc;have FA:=Hd (λW=>Z47 s.n W n1 n7);have hcl:=Zeq m.dig s.claims;have hcl7:=HLN.out.2;obtain ⟨cm,hcm⟩:∃cm,cm=Z19 m.dig s.claims:=⟨_,rfl⟩;have HCMM:=Hd hcm;rw [<-hcm] at hlc;clear hcl hcl7 hcm;obtain ⟨fn,hfn⟩:∃fn,fn=Z03 s.n:=⟨_,rfl⟩;have HFN:=Hd hfn;rw [<-hfn] at FA;clear hfn;have hlcd:=Z94 (HCR.out.kept (HBM.out.drew.block cb HCR.out.lt)) m.dig;rw [HCT.out,<-HCMM.out] at hlcd;go_cut [54] (λt wc=>t = .bool (decide (fn<cm))∧Below wm.heap.size wm wc)
     case first=>
      go_region_law (go_simp;go_at_call 167;(with_reducible refine (FA.out _).mono ?_);rintro e w9 ⟨rfl,rfl⟩)
      all_goals (go_wp2_with fail;go_meet;exact ⟨by simp,(Below.refl _ _).drew⟩)
     case rest=>
      obtain ⟨rfl,hbw⟩:=hcut;obtain ⟨w4,rfl⟩:∃w4:World,w4=wc:=⟨_,rfl⟩;have HN4:=Hd (HNM.out.below hbw);have HB4:=Hd (HBM.out.trans (hbw.mono HBM.out.size));have HR4:=Hd ((hbw.block _ (gE HRM.out).1).trans HRM.out);clear hbw m0 m1 m2 m3 m4 m5 m6 m7 mfz c17 hfz hlc hlcd;have HLM4:=Hd (HLM.out.below HNR.out.lt HB4.out);have c0:=HN4.out.nc.c0;have c18:=HN4.out.nc.c18;have hfz:=HN4.out.nc.fz;by_cases hgt:fn<cm
      ·have HE:=Hd (show s.rDecide=some {s with decs:=Z18 s.height ⟨-1,m.dig,m.list⟩ s.decs} from Zov (HCD.out.trans (by rw [HDR.out];exact Zes HG.out (by rw [<-HFN.out,<-HCMM.out];exact hgt))));obtain ⟨m0,m1,m2,m3,m4,m5,m6,m7,mfz⟩:=Z1y.of HR4.out;obtain ⟨ob2,hup,hnf⟩:=HN4.out.drew.lay_decs s.height ⟨-1,m.dig,m.list⟩ (sl:=.slice ao2 m.list.length cap2) (HLM4.out.below HN4.out.lt ((Below.refl _ w4).drew));have HNF:=Hd hnf;unfold iv at hup;simp only at hup;clear hnf;go_upto_region 11 with (fail)
       go_region
       all_goals (
        go_wp2
        go_ret;rw [HE.out];exact ⟨rfl,Z06.after (HB1.out.trans ((HBR.out.trans (HB4.out.mono HBR.out.size)).mono HB1.out.size)).drew (Z06.of HNF.out (Chg.put _ p.decs ob2 (HN4.out.maps.own _ (by simp [Ptr.maps]))))⟩)
      have HCN:=Hd (show Z0v s s.order=Z0v s (s.order.drop (k+1)) from HCD.out.trans (by rw [HDR.out];exact Zer HG.out (by rw [<-HFN.out,<-HCMM.out];exact hgt)));go_wp2
      go_roundw
      case rel=>exact ⟨k+1,by omega,by go_num,HBR.out.trans (HB4.out.mono HBR.out.size),HCN.out⟩
      case measure=>simp [intOf];omega
    have hkn:k=ln:=by omega
    subst hkn;have HCN:=Hd (show Z0v s s.order=none from by rw [HCD.out,HLN2.out];simp;rfl);have HBW:=Hd (HB1.out.trans (HBR.out.mono HB1.out.size));clear HCD HCR HCM HCT HOC HOR HN1 HBR c10 c0 hfz HB1;obtain ⟨w1,rfl⟩:∃w1:World,w1=wr2:=⟨_,rfl⟩;go_wp2_with fail
    go_loopw [70] (λi wr=>∃k:Nat,k<=100∧i = .int .i64 (k:Int)∧Below w1.heap.size w1 wr∧∀j,j<k->s.chosenList 5 (j:Int)=none) (λi _=>100 - (intOf i).toNat)
    case atStart=>exact ⟨0,by omega,rfl,Below.refl _ _,λj hj=>absurd hj (Nat.not_lt_zero _)⟩
    case round=>
     obtain ⟨k,hk,rfl,hb,hno⟩:=hrel;have HBR:=Hd hb;have HN:=Hd (HNR.out.below hb);have HNO:=Hd hno;clear hb hno;obtain ⟨wk,rfl⟩:∃wk:World,wk=wr:=⟨_,rfl⟩;by_cases hlt:k<100
     ·have CL:=Hd (Z3x HN.out n1 n7 HCO.out 5 (k:Int));unfold pv iv at CL;rcases hcl:s.chosenList 5 (k:Int) with _ | v
      ·have HCL:=Hd hcl;go_upto_region 17 with (fail)
       go_wp2_with (go_at_call 171;refine CL.out.mono ?_;rintro e w3 ⟨he,hb3⟩;unfold Z2q at he;rw [HCL.out] at he;obtain ⟨a,b,ao,n,cap,rfl⟩:=he;have HB3:=Hd hb3;clear hb3)
       go_roundw
       case rel=>
        refine ⟨k+1,by omega,by go_num,?_,λj hj=>?_⟩
        ·exact (HBR.out.trans (HB3.out.mono HBR.out.size)).alloc (Nat.le_trans HBR.out.size HB3.out.size) _
        rcases Nat.lt_succ_iff_lt_or_eq.1 hj with q | q
        ·exact HNO.out j q
        subst q;exact HCL.out
       case measure=>simp [intOf];omega
      have HCL:=Hd hcl;have HE:=Hd (show s.rDecide=some {s with decs:=Z18 s.height v s.decs} from Zow HCN.out (Z41 (λi hi=>HNO.out i hi) hcl hlt));clear hcl;go_upto_region 17 with (fail)
      go_upto_region 19 with (go_at_call 171;refine CL.out.mono ?_;rintro e w3 ⟨he,hb3⟩;unfold Z2q at he;rw [HCL.out] at he;obtain ⟨u,rfl,sl,rfl,ao,cap2,rfl,hcap2,hrow2⟩:=he;have HLV:=Hd (show Z0a R w3 (.slice ao v.list.length cap2) v.list from ⟨ao,cap2,rfl,hcap2,hrow2⟩);clear hcap2 hrow2;unfold iv;have HB3:=Hd hb3;clear hb3)
      obtain ⟨wm,hwm⟩:∃wm,wm=w3.alloc (.cells #[.int .i64 v.round,.string v.dig,.slice ao v.list.length cap2] 120):=⟨_,rfl⟩;have HRM:=Hd (show wm.heap[w3.heap.size]?=some (.cells #[.int .i64 v.round,.string v.dig,.slice ao v.list.length cap2] 120 (0,0)) from by rw [hwm];exact World.alloc_heap_new w3 _);have HBM:=Hd (show Below w3.heap.size w3 wm from by rw [hwm];exact (Below.refl _ _).alloc (Nat.le_refl _) _);rw [<-hwm];clear hwm;have HBT:=Hd (show Below w.heap.size w wm from HBW.out.trans ((HBR.out.trans ((HB3.out.trans (HBM.out.mono HB3.out.size)).mono HBR.out.size)).mono HBW.out.size));have HNM:=Hd (H.out.below HBT.out);have HLM:=Hd ((HLV.out.below (λk hk=>Nat.lt_of_lt_of_le (HN.out.lt k hk) HB3.out.size) HBM.out.drew));obtain ⟨ob2,hup,hnf⟩:=HNM.out.drew.lay_decs s.height v HLM.out;have HNF:=Hd hnf;unfold iv at hup;clear hnf;have c0:=HNM.out.nc.c0;have c18:=HNM.out.nc.c18;have hfz:=HNM.out.nc.fz;have v0:=cell_of_row wm w3.heap.size 0 _ _ _ HRM.out;have v1:=cell_of_row wm w3.heap.size 1 _ _ _ HRM.out;have v2:=cell_of_row wm w3.heap.size 2 _ _ _ HRM.out;simp at v0 v1 v2;go_region
      all_goals (
       go_wp2
       go_ret;rw [HE.out];exact ⟨rfl,Z06.after HBT.out.drew (Z06.of HNF.out (Chg.put _ p.decs ob2 (HNM.out.maps.own _ (by simp [Ptr.maps]))))⟩)
     have hk2:k=100:=by omega
     subst hk2;have HE:=Hd (show s.rDecide=none from Zox HCN.out (Z27 (λi hi=>HNO.out i hi)));go_wp2
     go_ret;rw [HE.out];exact ⟨rfl,HBW.out.trans (HBR.out.mono HBW.out.size)⟩
  intro ke v pre post w2 hl hm hr2 hg2 hs2 hen2;obtain ⟨i,m,sl,lf',rfl,rfl,hrow,hll,hcm,hb2,hnx⟩:=RR.out.next HPC.out hl hr2 hg2;obtain ⟨ao,cap,rfl,hcap,hrw⟩:=hrow;have HNX:=Hd hnx;have HLL:=Hd hll;have HCM:=Hd hcm;have hle:=RR.out.le m.dig;have HBA:=Hd ((Below.refl _ w2).alloc (Nat.le_refl _) (.cells (Z0l m (.slice ao m.list.length cap)) 36));have HR3:=Hd (World.alloc_heap_new w2 (.cells (Z0l m (.slice ao m.list.length cap)) 36));have HCM3:=Hd (HCM.out.kept (Below.heap_alloc w2 (.cells (Z0l m (.slice ao m.list.length cap)) 36) _ HCM.out.lt));have hlk:=Z94 HCM3.out m.dig;obtain ⟨c,hc⟩:∃c,c=(Z02 m.dig cl).getD 0:=⟨_,rfl⟩;rw [<-hc] at hlk hle HNX;have HC:=Hd hc;have hcl:=HLN.out.2;obtain ⟨hl0,hl1⟩:=hle;have hl7:c<=7:=by omega
  obtain ⟨c0,c1,c2,c3,c4,c5,c6,c7,fz⟩:=Z1y.of HR3.out;unfold Z0l iv at *;clear hl hm hr2 hg2 hs2 hcm hb2 hnx hll hcap hrw hc hl1 hcl;go_wp2_with (refine Z14 _ rfl (.tmp 23) (.tmp 25) (.tmp 27) 224 (by rfl) 9 3 Tryz.underlying224 Zpn cb _ (by rfl) HCM3.out (Zfw _ _) (.string m.dig) (.int .i64 (c+1)) (by rfl) (by rfl) ⟨m.dig,rfl⟩ ?_;intro ob hob;have HO:=Hd hob;clear hob)
  have W3:=HNX.out (.cells #[.int .i64 m.kind,.int .i64 m.frm,.int .i64 m.to,.int .i64 m.height,.int .i64 m.round,.int .i64 m.valid,.string m.dig,.slice ao m.list.length cap] 36) ob (by
   have:=HO.out;rwa [show (Value.int .i64 (c+1))=iv (c+1) from rfl,Z5g (ek:=.string) (ev:=λ_=>iv) Zc0 Z4y] at this)
  have HW3:=Hd W3;clear W3;simp only [Act.put];go_roundw
  case rel=>exact ⟨_,_,_,HW3.out⟩
  case measure=>rw [HW3.out.rng.left_len,LEN.out,HLL.out];omega
end
end
section
open Go.RowKit
theorem Zma {P:Nat->Prop}:∀k,P k->∃m,P m∧∀j,P j->m<=j:=by
 intro k;induction k using Nat.strongRecOn with
 | _ k ih=>
  intro hk;by_cases h:∃j,j<k∧P j
  ·obtain ⟨j,hj,hp⟩:=h;exact ih j hj hp
  exact ⟨k,hk,λj hj=>Nat.le_of_not_lt (λq=>h ⟨j,q,hj⟩)⟩
noncomputable def Zet (P:Nat->Prop):Nat:=open Classical in if h:∃m,P m∧∀j,P j->m<=j then h.choose else 0
theorem Z9q {P:Nat->Prop} {k:Nat} (h:P k):P (Zet P)∧∀j,P j->Zet P<=j:=by
 have e:=Zma k h;unfold Zet;rw [dif_pos e];exact e.choose_spec
def Z4u (k:Nat):FuncId:=[116,117,118,119,120,121,122,123,124,125,126,127].getD k 0
theorem Zmb:∀k,k<12->∀args w,(callFunc (Z4u k) args).run Tryz.prog w = .ok (.enter (Z4u k) args) w
 | 0,_=>enters_of Tryz.func116 (by kernel_rfl) rfl
 | 1,_=>enters_of Tryz.func117 (by kernel_rfl) rfl
 | 2,_=>enters_of Tryz.func118 (by kernel_rfl) rfl
 | 3,_=>enters_of Tryz.func119 (by kernel_rfl) rfl
 | 4,_=>enters_of Tryz.func120 (by kernel_rfl) rfl
 | 5,_=>enters_of Tryz.func121 (by kernel_rfl) rfl
 | 6,_=>enters_of Tryz.func122 (by kernel_rfl) rfl
 | 7,_=>enters_of Tryz.func123 (by kernel_rfl) rfl
 | 8,_=>enters_of Tryz.func124 (by kernel_rfl) rfl
 | 9,_=>enters_of Tryz.func125 (by kernel_rfl) rfl
 | 10,_=>enters_of Tryz.func126 (by kernel_rfl) rfl
 | 11,_=>enters_of Tryz.func127 (by kernel_rfl) rfl
 | n+12,h=>absurd h (by omega)
section
variable {R:Nat->Prop} {w:World} {x:Nat} {p:Ptr} {s:StB} {G:ByteArray->List ByteArray->Prop}
theorem Zmc (h:Z00 R w x p s) (ok:Ok G s) (gl:Zin G):∀k,k<12->Calls Tryz.prog (Z4u k) #[pv x] w (Z7t R w x (s.rule k))
 | 0,_=>Zjl h ok gl
 | 1,_=>Zjg h ok
 | 2,_=>Zem h ok gl
 | 3,_=>Zjf h ok
 | 4,_=>Zgf h ok gl
 | 5,_=>Zgi h ok
 | 6,_=>Zoo h ok
 | 7,_=>Zqy h ok
 | 8,_=>Zoq h ok
 | 9,_=>Zos h ok gl
 | 10,_=>Zm4 h ok
 | 11,_=>Zop h ok
 | n+12,h=>absurd h (by omega)
def Zpv (s:StB):Nat:=if s.isDec s.height=true then 0 else s.mu+1
theorem Zoy {s s':StB} (h:Ok G s) {k:Nat} (he:s.rule k=some s') (hd:s.isDec s.height=false):Zpv s'<Zpv s:=by
 have e:Zpv s=s.mu+1:=by unfold Zpv;rw [if_neg (by simp [hd])]
 rw [e];unfold Zpv;rcases (Zbs h.inv he).2 with q | q
 ·rw [if_pos q];omega
 split <;> omega
def Zt2 (x:Nat):Array Value:=#[.func (.func (Z4u 0)) #[pv x] #[],.func (.func (Z4u 1)) #[pv x] #[],.func (.func (Z4u 2)) #[pv x] #[],.func (.func (Z4u 3)) #[pv x] #[],.func (.func (Z4u 4)) #[pv x] #[],.func (.func (Z4u 5)) #[pv x] #[],.func (.func (Z4u 6)) #[pv x] #[],.func (.func (Z4u 7)) #[pv x] #[],.func (.func (Z4u 8)) #[pv x] #[],.func (.func (Z4u 9)) #[pv x] #[],.func (.func (Z4u 10)) #[pv x] #[],.func (.func (Z4u 11)) #[pv x] #[]]
def ApI (G:ByteArray->List ByteArray->Prop) (R:Nat->Prop) (w:World) (x:Nat) (s:StB) (rb:Nat) (row:Array Value) (T:TypeId) (k:Nat) (wr:World):Prop:=
 ∃p1 R1 s1,Z00 R1 wr x p1 s1∧Ok G s1∧s1.apply=s.apply∧Chg R w wr∧Z2b R R1 w∧¬R1 rb∧wr.heap[rb]?=some (.cells row T (0,0))∧k=Zpv s1
theorem Zmd (h:Z00 R w x p s) (ok:Ok G s) (gl:Zin G):Calls Tryz.prog 66 #[pv x] w λe w'=>e = .returned (.tuple #[])∧Z06 R w x s.apply w':=by
 have H:=Hd h;have HOK:=Hd ok;clear h ok;unfold pv;go_enter Tryz.func66,Tryz.ntmps66
 apply wp_scope_straight;go_wp2_with fail
 go_step3
 go_wp2_with fail
 obtain ⟨rb,hrb⟩:∃rb,rb=w.heap.size:=⟨_,rfl⟩;have ST:=Hd (show ApI G R w x s w.heap.size (Zt2 x) 22 (Zpv s) (w.alloc (.cells (Zt2 x) 22)) from
  ⟨p,R,s,H.out.up _,HOK.out,rfl,Chg.alloc _ _ _,Z2b.refl R w,λq=>by have:=H.out.lt _ q;omega,World.alloc_heap_new w _,rfl⟩)
 have ROW:=Hd (show ∀(j:Nat),j<12->(Zt2 x)[j]?=some (.func (.func (Z4u j)) #[pv x] #[]) from λj hj=>by
  match j,hj with
  | 0,_=>rfl
  | 1,_=>rfl
  | 2,_=>rfl
  | 3,_=>rfl
  | 4,_=>rfl
  | 5,_=>rfl
  | 6,_=>rfl
  | 7,_=>rfl
  | 8,_=>rfl
  | 9,_=>rfl
  | 10,_=>rfl
  | 11,_=>rfl
  | n+12,h=>exact absurd h (by omega))
 rw [<-hrb] at ST ⊢;obtain ⟨row,hrow⟩:∃row,row=Zt2 x:=⟨_,rfl⟩;rw [<-hrow] at ST ROW;rw [show (Obj.cells #[Value.func (Fn.func 116) #[Value.pointer (some {block:=x,off:=0})] #[],Value.func (Fn.func 117) #[Value.pointer (some {block:=x,off:=0})] #[],Value.func (Fn.func 118) #[Value.pointer (some {block:=x,off:=0})] #[],Value.func (Fn.func 119) #[Value.pointer (some {block:=x,off:=0})] #[],Value.func (Fn.func 120) #[Value.pointer (some {block:=x,off:=0})] #[],Value.func (Fn.func 121) #[Value.pointer (some {block:=x,off:=0})] #[],Value.func (Fn.func 122) #[Value.pointer (some {block:=x,off:=0})] #[],Value.func (Fn.func 123) #[Value.pointer (some {block:=x,off:=0})] #[],Value.func (Fn.func 124) #[Value.pointer (some {block:=x,off:=0})] #[],Value.func (Fn.func 125) #[Value.pointer (some {block:=x,off:=0})] #[],Value.func (Fn.func 126) #[Value.pointer (some {block:=x,off:=0})] #[],Value.func (Fn.func 127) #[Value.pointer (some {block:=x,off:=0})] #[]] 22) = .cells row 22 from by rw [hrow];rfl];clear hrb hrow;go_loopw [] (λwr=>∃k,ApI G R w x s rb row 22 k wr) (λwr=>Zet (λk=>ApI G R w x s rb row 22 k wr))
 case atStart=>exact ⟨_,ST.out⟩
 case round=>
  obtain ⟨k,hk⟩:=hrel;have hmin:=(Z9q (P:=λk=>ApI G R w x s rb row 22 k wr) hk).1;obtain ⟨μ,hμ⟩:∃μ,μ=Zet (λk=>ApI G R w x s rb row 22 k wr):=⟨_,rfl⟩;rw [<-hμ] at hmin;have HMU:=Hd hμ;obtain ⟨p1,R1,s1,hn,ho,ha,hc,hg,hnr,hrow,hfar⟩:=hmin;have HN:=Hd hn;have HO:=Hd ho;have HA:=Hd ha;have HC:=Hd hc;have HG:=Hd hg;have HNR:=Hd hnr;have HROW:=Hd hrow;have HFAR:=Hd hfar;have d0:=hn.nc.c0;have ID:=Hd (Z1a hn s1.height);clear hk hμ hn ho ha hc hg hnr hrow hfar;obtain ⟨w1,rfl⟩:∃w1:World,w1=wr:=⟨_,rfl⟩;unfold pv iv at ID;rcases hd:s1.isDec s1.height with _ | _
  ·have HD:=Hd hd;rw [hd] at ID;clear hd;go_wp2_with (go_at_call 63;refine ID.out.mono ?_;rintro e w2 ⟨rfl,hb⟩;have HB:=Hd hb;clear hb)
   have HN2:=Hd (HN.out.below HB.out);have HROW2:=Hd ((HB.out.block rb (gE HROW.out).1).trans HROW.out);have NXT:=Hd (show ∀(j:Nat) (s2:StB) (w4:World),j<12->(∀l,l<j->(s1.rule l).isNone=true)->s1.rule j=some s2->Z06 R1 w1 x s2 w4->ApI G R w x s rb row 22 (Zpv s2) w4 from λj s2 w4 hj hno hr ht=>by
    obtain ⟨p2,R2,n2,c2,g2⟩:=ht;refine ⟨p2,R2,s2,n2,HO.out.rule hr,?_,HC.out.trans (c2.mono (λk _ hk=>HG.out.2 k hk)),HG.out.trans g2 HC.out.size,λq=>?_,?_,rfl⟩
    ·rw [<-HA.out];exact (Zig HO.out.inv HD.out (Z41 (λi hi=>Option.isNone_iff_eq_none.1 (hno i hi)) hr hj)).symm
    ·rcases g2.2 rb q with q | q
     ·exact HNR.out q
     have:=(gE HROW.out).1;omega
    exact (c2.block rb (gE HROW.out).1 HNR.out).trans HROW.out)
   obtain ⟨wz,rfl⟩:∃wz:World,wz=w2:=⟨_,rfl⟩;go_loopw [40] (λi wi=>∃j:Nat,j<=12∧i = .int .i64 (j:Int)∧Below wz.heap.size wz wi∧∀l,l<j->(s1.rule l).isNone=true) (λi _=>12 - (intOf i).toNat)
   case atStart=>exact ⟨0,by omega,rfl,Below.refl _ _,λl hl=>absurd hl (Nat.not_lt_zero _)⟩
   case round=>
    obtain ⟨j,hj,rfl,hb,hno⟩:=hrel;have HBI:=Hd hb;have HNO:=Hd hno;clear hb hno;obtain ⟨wi,rfl⟩:∃wi:World,wi=wr:=⟨_,rfl⟩;by_cases hlt:j<12
    ·have hcell:wi.cell? ⟨rb,j,none⟩=some (.func (.func (Z4u j)) #[pv x] #[]):=by
      rw [cell_of_row wi rb j _ _ _ ((HBI.out.block rb (gE HROW2.out).1).trans HROW2.out)];exact ROW.out j hlt
     have HNI:=Hd (HN2.out.below HBI.out);have RU:=Hd (Zmc HNI.out HO.out gl j hlt);have eg:=Zmb j hlt;obtain ⟨fid,hfid⟩:∃fid,fid=Z4u j:=⟨_,rfl⟩;rw [<-hfid] at hcell RU eg;unfold pv at hcell RU;clear hfid;rcases hr:s1.rule j with _ | s2
     ·rw [hr] at RU;have HR:=Hd hr;clear hr;go_wp2_with (refine RU.out.mono ?_;rintro e w4 ⟨rfl,hb⟩;have HB4:=Hd hb;clear hb)
      go_roundw
      case rel=>
       refine ⟨j+1,by omega,by go_num,HBI.out.trans (HB4.out.mono HBI.out.size),λl hl=>?_⟩;rcases Nat.lt_succ_iff_lt_or_eq.1 hl with q | q
       ·exact HNO.out l q
       subst q;rw [HR.out];rfl
      case measure=>simp [intOf];omega
     rw [hr] at RU;have HR:=Hd hr;clear hr;go_wp2_with (refine RU.out.mono ?_;rintro e w4 ⟨rfl,ht⟩;have HT:=Hd ht;clear ht)
     have NEW:=Hd (NXT.out j s2 w4 hlt HNO.out HR.out (Z06.after (HB.out.trans (HBI.out.mono HB.out.size)) HT.out));go_roundw
     case rel=>exact ⟨_,NEW.out⟩
     case measure=>
      rw [<-HMU.out];refine Nat.lt_of_le_of_lt ((Z9q (P:=λk=>ApI G R w x s rb row 22 k w4) NEW.out).2 _ NEW.out) ?_;rw [HFAR.out];exact Zoy HO.out HR.out HD.out
    have hj12:j=12:=by omega
    subst hj12;have HE:=Hd (show s.apply=s1 from by
     rw [<-HA.out];exact Zdf (.inr (Z27 (λi hi=>Option.isNone_iff_eq_none.1 (HNO.out i hi)))))
    go_wp2
    rw [Exit.noGoto_ret];refine bodyPost_ret (results_none rfl _ _ _) rfl ⟨rfl,?_⟩;rw [HE.out];exact Z06.then ⟨p1,R1,HN.out,HC.out,HG.out⟩ (HB.out.trans (HBI.out.mono HB.out.size))
  have HE:=Hd (show s.apply=s1 from by rw [<-HA.out];exact Zdf (.inl hd));rw [hd] at ID;clear hd;go_wp2_with (go_at_call 63;refine ID.out.mono ?_;rintro e w2 ⟨rfl,hb⟩;have HB:=Hd hb;clear hb)
  rw [Exit.noGoto_normal];refine bodyPost_end (results_none rfl _ _ _) rfl ⟨rfl,?_⟩;rw [HE.out];exact Z06.then ⟨p1,R1,HN.out,HC.out,HG.out⟩ HB.out
end
end
section
variable {D L:Type} [Dg D] [Inhabited L]
theorem Zeu {s:NS D L} (h:s.isDec s.height=true):s.tick=({s with ques:=[]},s.answers):=by
 unfold NS.tick;simp only;exact if_pos h
structure LateI (n:Int) (d:D) (l:L) (k:Nat) (s:NS D L):Prop where
 nn:s.n=n
 id:s.id=n - 1
 height:s.height=0
 decs:s.decs = []
 ques:s.ques = []
 mine:s.mine = []
 order:s.order=(List.range k).map λ(i:Nat)=>(i:Int)
 claims:∃mm:Nat->Msg D L,s.claims=((List.range k).map λ(i:Nat)=>((i:Int),mm i))∧∀i,i<k->(mm i).dig=d∧(mm i).list=l
end
end Go.Proofs.YtifcdjmcoibblaaGreatDoor
