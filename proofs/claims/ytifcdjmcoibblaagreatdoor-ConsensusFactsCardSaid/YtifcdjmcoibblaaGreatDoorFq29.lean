/- Say Cst Beg -/
import Derived.Test.YtifcdjmcoibblaaGreatDoorFq11
import Derived.Test.YtifcdjmcoibblaaGreatDoorFq20
import Derived.Test.YtifcdjmcoibblaaGreatDoorFq28
import Derived.Test.YtifcdjmcoibblaaGreatDoorFq25
import Derived.Test.YtifcdjmcoibblaaGreatDoorFq01
import Derived.Test.YtifcdjmcoibblaaGreatDoorFq27
import Derived.Test.YtifcdjmcoibblaaGreatDoorFq24
set_option linter.unusedVariables false
set_option linter.unusedSimpArgs false
set_option linter.unusedSectionVars false
set_option maxRecDepth 100000
set_option maxHeartbeats 80000000
namespace Go.Proofs.YtifcdjmcoibblaaGreatDoor
section
open Go.RowKit
theorem say_okv {s:StB} (hI:NumI s) {m:MsgB} (hk:m.kind=4∨m.kind=5∨m.kind=6) (hr:0≤m.round∧m.round≤99) (hv:m.valid=0) (hl:m.list = []) (hz:szB m.dig) :
  voteB m.kind=true∧validB (sayM s m)=true:=by
 have h1:=hI.id0;have h2:=hI.idn;have h3:=hI.n7;have h4:=hI.h0;have h5:=hI.h1;have e1:voteB m.kind=true:=by unfold voteB;rcases hk with e | e | e <;> rw [e] <;> rfl
 refine ⟨e1,?_⟩;have k1:¬m.kind=1:=by omega
 have k2:¬m.kind=2:=by omega
 have k3:¬m.kind=3:=by omega
 have e2:=sayM_eq s m;obtain ⟨m2,hm2⟩:∃m2,m2=sayM s m:=⟨_,rfl⟩;rw [←hm2] at e2 ⊢;subst e2;clear hm2;have a1:sitesB (⟨m.kind,s.id,(s.id+1) % 7,s.height,m.round,m.valid,m.dig,m.list⟩:MsgB)=true:=by
  unfold sitesB siteB;simp;omega
 have a2:voteOk (⟨m.kind,s.id,(s.id+1) % 7,s.height,m.round,m.valid,m.dig,m.list⟩:MsgB)=true:=by
  unfold voteOk placedB;unfold szB at hz;simp [hv,hl];exact ⟨⟨⟨⟨h4,h5⟩,hr.1⟩,by omega⟩,by simpa using hz⟩
 unfold validB;simp only [k1,k2,k3,if_false,e1,Bool.true_and];rw [a1,a2];rfl
theorem NodeP.lay_made {R:Nat→Prop} {w:World} {x:Nat} {p:Ptr} {s:StB} (h:NodeP R w x p s) (a b:Int) :
  ∃o,(Instr.mapUpdate 113 (.map (some p.made)) (.agg #[.int .i64 a,.int .i64 b]) (.bool true)).run Tryz.prog w = .ok () (w.putObj p.made o)∧NodeP R (w.putObj p.made o) x p {s with made:=insA (a,b) s.made}:=by
 obtain ⟨o,h1,h2⟩:=h.maps.made.update (P:=Tryz.prog) keyPlace Tryz.underlying113 (good_pl w _) (x:=plv (a,b)) ⟨a,b,rfl⟩ (.bool true);refine ⟨o,h1,?_⟩;have h3:=h2 _ (World.putObj_heap_same (o:=o) h.maps.made.lt);rw [putV_set (ek:=plv) encPl_eq plv_inj] at h3;exact h.put_made (fun k _ hk=>World.putObj_heap_other hk) (by simp [World.putObj]) h3
theorem say_any {R:Nat→Prop} {w:World} {x:Nat} {p:Ptr} {s:StB} {v:Value} {m:MsgB} (h:NodeP R w x p s) (hm:MsgV R w v m) (hl:m.list.length≤60) (hI:NumI s) (hml:s.mine.length≤1000)
  (hk:m.kind≠3→voteB m.kind=true∧validB (sayM s m)=true) :
  Calls Tryz.prog 108 #[pv x,v] w fun e w'=>e = .returned (.tuple #[])∧Turned R w x (s.say m) w':=by
 obtain ⟨sl,rfl,ao,cap,rfl,hcap,hrow⟩:=hm;obtain ⟨mb,hmb⟩:∃mb,mb=w.heap.size:=⟨_,rfl⟩;have HMB:=Hd hmb;have H:=Hd h;have HK:=Hd hk;have HB0:=Hd ((Below.refl _ w).alloc (Nat.le_refl _) (.cells (encM m (.slice ao m.list.length cap)) 36));have HR0:=Hd (World.alloc_heap_new w (.cells (encM m (.slice ao m.list.length cap)) 36));have HN0:=Hd (h.below HB0.out);have HL:=Hd (show LRow R w (.slice ao m.list.length cap) m.list from ⟨ao,cap,rfl,hcap,hrow⟩);have i0:=hI.id0;have i1:=hI.idn;have i2:=hI.n7;obtain ⟨m1,hm1⟩:∃m1:MsgB,m1=sayO s m:=⟨_,rfl⟩;have HM1:=Hd hm1;have HML:=Hd (show m1.list=m.list from by rw [hm1];rfl);have HMK:=Hd (show m1.kind=m.kind∧m1.round=m.round from by rw [hm1];exact ⟨rfl,rfl⟩);clear hrow hcap hmb h hk hm1 hI;unfold encM iv pv at *;go_enter Tryz.func108,Tryz.ntmps108
 go_upto_region 1 with (fail)
 obtain ⟨wa,hwa⟩:∃wa,wa=w.alloc (.cells #[.int .i64 m.kind,.int .i64 m.frm,.int .i64 m.to,.int .i64 m.height,.int .i64 m.round,.int .i64 m.valid,.string m.dig,.slice ao m.list.length cap] 36):=⟨_,rfl⟩;rw [←HMB.out] at HR0 ⊢;rw [←hwa] at HB0 HR0 HN0 ⊢;clear hwa;obtain ⟨c0,c1,c2,c3,c4,c5,c6,c7,fz⟩:=MRow.of HR0.out;have x0:=HN0.out.nc.c0;have x16:=HN0.out.nc.c16;have xfz:=HN0.out.nc.fz;go_cut [] (fun wc=>wc.heap[mb]?=some (.cells (encM m1 (.slice ao m1.list.length cap)) 36 (0,0))∧Below w.heap.size w wc)
 case first=>
  go_region
  all_goals (
   go_wp2_with fail
   go_meet;rw [HM1.out];refine ⟨?_,?_⟩
   ·first | exact heap_setC (heap_setC HR0.out _) _ | (rw [heap_setC (heap_setC HR0.out _) _];rfl)
   exact ((HB0.out.drew.setCell (by rw [HMB.out];exact Nat.le_refl _) _).setCell (by rw [HMB.out];exact Nat.le_refl _) _))
 case rest=>
  obtain ⟨hrw,hbw⟩:=hcut;obtain ⟨w1,rfl⟩:∃w1:World,w1=wc:=⟨_,rfl⟩;have HRW:=Hd hrw;have HBW:=Hd hbw;have HN1:=Hd (H.out.below hbw);have HL1:=Hd (HL.out.below H.out.lt hbw);clear hrw hbw c0 c1 c2 c3 c4 c5 c6 c7 fz x0 x16 xfz HB0 HR0 HN0;obtain ⟨c0,c1,c2,c3,c4,c5,c6,c7,fz⟩:=MRow.of HRW.out;obtain ⟨mv,hmv⟩:∃mv,mv=p.mine:=⟨_,rfl⟩;have x14:=HN1.out.nc.c14;have xfz:=HN1.out.nc.fz;rw [←hmv] at x14;obtain ⟨sls,hA,hown⟩:=HN1.out.rest.mine.1;rw [←hmv] at hown;have HMV:=Hd hmv;obtain ⟨ti,hi,hz0,hz1,hz2⟩:=info_parts Tryz.infoMsg;obtain ⟨XS,hXS⟩:∃XS,XS=((sls.zip s.mine).flatMap fun q=>(encM q.2 q.1).toList):=⟨_,rfl⟩;rw [←hXS] at hown;have HXS:=Hd hXS;have HA:=Hd hA;have HOWN:=Hd (show ∀W,Below w1.heap.size w1 W→W.ownsRow 0 36 8 mv s.mine.length XS from fun W hW=>ownsRow_blk hown (fun g _ hl=>hW.block g hl));clear hmv hXS hA hown;obtain ⟨wz,hwz⟩:∃wz,wz=(w1.alloc (.cells #[.int .i64 m1.kind,.int .i64 m1.frm,.int .i64 m1.to,.int .i64 m1.height,.int .i64 m1.round,.int .i64 m1.valid,.string m1.dig,.slice ao m1.list.length cap] 36)).drew:=⟨_,rfl⟩;have HBZ:=Hd (show Below w1.heap.size w1 wz from by rw [hwz];exact ((Below.refl _ _).alloc (Nat.le_refl _) _).drew);have HNZ:=Hd (HN1.out.below HBZ.out);have HOD:=HOWN.out wz HBZ.out;have NEW:=show ∀j u,(encM m1 (.slice ao m1.list.length cap)).toList[j]?=some u→wz.cell? ((⟨w1.heap.size,0,none⟩:Addr).add j)=some u from by
   rw [hwz];exact cells_at w1 (encM m1 (.slice ao m1.list.length cap)).toList 36 w1.heap.size rfl
  have FIN:=Hd (show ∀(v2:Value) (w7:World),w7.ownsRow 0 36 8 v2 (s.mine.length+1) (XS ++ (encM m1 (.slice ao m1.list.length cap)).toList)→wz.grownBy w7 mv.ownBlock→(∀g,v2.ownBlock=some g→mv.ownBlock=some g∨wz.heap.size≤g) →
    (∃R1 p1,NodeP R1 (w7.setCell ⟨x,14,none⟩ v2) x p1 {s with mine:=s.mine ++ [m1]}∧Chg R w (w7.setCell ⟨x,14,none⟩ v2)∧Grows R R1 w∧¬R1 mb∧LRow R (w7.setCell ⟨x,14,none⟩ v2) (.slice ao m1.list.length cap) m1.list∧(w7.setCell ⟨x,14,none⟩ v2).heap[mb]?=some (.cells (encM m1 (.slice ao m1.list.length cap)) 36 (0,0)))∧(∃g c,v2 = .slice (some ⟨g,0,none⟩) (s.mine.length+1) c)∧w7.cell? ⟨x,14,none⟩=some mv∧∀o,w7.frozen? ⟨x,o,none⟩=false from by
   intro v2 w7 own gr hn;rw [HMV.out] at gr hn ⊢;have hz:=HBZ.out.size;have hw1:=HBW.out.size;have hmr:∀g,p.mine.ownBlock=some g→R g:=HNZ.out.rest.mine.2;have hx7:w7.heap[x]?=some (.cells (nodeRow s p) 117 (0,0)):=(HNZ.out.mine_grown gr (fun g e=>.inl e) x _ _ _ HNZ.out.mem HNZ.out.node (by decide)).trans HNZ.out.node;refine ⟨⟨fun k=>R k∨v2.ownBlock=some k,{p with mine:=v2},HNZ.out.mine_put gr (fun g e=>.inl e) (HA.out.mono (fun a b q=>q.below HN1.out.lt HBZ.out)) (sl:=.slice ao m1.list.length cap) ?_ (by rw [←HXS.out];exact own) hn,?_,⟨fun k hk=>.inl hk,fun k hk=>?_⟩,?_,?_,?_⟩,?_,?_,fun o=>frozen_of_row w7 x o _ _ hx7⟩
   ·rw [HML.out];exact HL1.out.below HN1.out.lt HBZ.out
   ·exact (Chg.of_below HBW.out (fun k q1 q2=>by omega)).trans ((Chg.of_below HBZ.out (fun k q1 q2=>by omega)).trans ((Chg.grown gr (fun k e=>.inl (.inl (hmr k e)))).trans (Chg.set _ x 14 v2 (.inl (.inl (.inl H.out.mem))))))
   ·rcases hk with hk | hk
    ·exact .inl hk
    rcases hn k hk with q | q
    ·exact .inl (hmr k q)
    exact .inr (by omega)
   ·intro hk;have hml1:mb<w1.heap.size:=(gE HRW.out).1;have e0:=HMB.out;rcases hk with hk | hk
    ·have:=H.out.lt mb hk;omega
    rcases hn mb hk with q | q
    ·have:=H.out.lt mb (hmr mb q);omega
    omega
   ·rw [HML.out];refine (HL1.out.below HN1.out.lt HBZ.out).kept (fun g cur fr hr hc=>?_);rw [Below.heap_setCell w7 ⟨x,14,none⟩ _ g (fun e=>by
     subst e;rw [HNZ.out.node] at hc;injection hc with hc;injection hc with _ hc _;exact absurd hc (by decide))]
    exact HNZ.out.mine_grown gr (fun g e=>.inl e) g cur _ fr hr hc (by decide)
   ·have hml1:mb<w1.heap.size:=(gE HRW.out).1;have hxl:=H.out.lt x H.out.mem;have e0:=HMB.out;rw [Below.heap_setCell w7 ⟨x,14,none⟩ _ mb (fun e=>by subst e;omega),gr.block mb (by omega) (fun e=>by have:=H.out.lt mb (hmr mb e.symm);omega),HBZ.out.block mb hml1];exact HRW.out
   ·rcases own.2 with ⟨_,h0⟩ | ⟨g,c,_,hv,_⟩
    ·omega
    exact ⟨g,c,hv⟩
   rw [cell_of_row w7 x 14 _ _ _ hx7];rfl)
  have x14a:=cell_up x14 (.cells #[.int .i64 m1.kind,.int .i64 m1.frm,.int .i64 m1.to,.int .i64 m1.height,.int .i64 m1.round,.int .i64 m1.valid,.string m1.dig,.slice ao m1.list.length cap] 36);clear HOWN HXS HA;go_upto_region 2 with (fail)
  go_cut [] (fun wc=>∃R1 p1,NodeP R1 wc x p1 {s with mine:=s.mine ++ [m1]}∧Chg R w wc∧Grows R R1 w∧¬R1 mb∧LRow R wc (.slice ao m1.list.length cap) m1.list∧wc.heap[mb]?=some (.cells (encM m1 (.slice ao m1.list.length cap)) 36 (0,0)))
  case first=>
   go_region_law (first
    | (refine step_new (by rfl) (.tmp 20) (.tmp 22) 33 (by rfl) 0 36 ti zM 8 88 Tryz.underlying33 hi hz0 hz1 hz2 (by rfl) (by decide) mv s.mine.length XS ?_ ?_ ⟨w1.heap.size,0,none⟩ 1 1 (encM m1 (.slice ao m1.list.length cap)).toList ?_ (by rfl) ?_ (encM_one m1 ao m1.list.length cap) ?_ ?_ ?_ ?_;(simp [Act.eval,Act.put]);(rw [←hwz];with_reducible exact HOD);(simp [Act.eval,Act.put]);(rw [←hwz];with_reducible exact NEW);(unfold maxLen;omega);omega;omega;rw [←hwz];intro v2 w7 own2 gr2 hn2;obtain ⟨hfin,⟨g2,cp2,rfl⟩,hx7,hf7⟩:=FIN.out v2 w7 own2 gr2 hn2;have HF:=Hd hfin;clear hfin own2 gr2 hn2))
   all_goals (go_wp2_with fail;go_meet;exact HF.out)
  case rest=>
   obtain ⟨R1,p1,hn1,hc1,hg1,hmn,hl1,hr1⟩:=hcut;have HMN:=Hd hmn;have HLB:=Hd hl1;obtain ⟨w2,rfl⟩:∃w2:World,w2=wc:=⟨_,rfl⟩;have HN2:=Hd hn1;have HC2:=Hd hc1;have HG2:=Hd hg1;have HR2:=Hd hr1;clear hn1 hc1 hg1 hmn hl1 hr1 c0 c1 c2 c3 c4 c5 c6 c7 fz x14 x14a xfz HOD NEW FIN HN1 HNZ HBZ HL1 HMV hwz hi hz0 hz1 hz2;obtain ⟨c0,c1,c2,c3,c4,c5,c6,c7,fz⟩:=MRow.of HR2.out;have x15:=HN2.out.nc.c15;have xfz:=HN2.out.nc.fz;obtain ⟨ob,hup,hnf⟩:=HN2.out.drew.lay_made m1.kind m1.round;have HSD:=Hd (show ({s with mine:=s.mine ++ [m1],made:=insA (m1.kind,m1.round) s.made}:StB)=s.said m from by rw [HMK.out.1,HMK.out.2,HM1.out];rfl);simp only at hnf;rw [HSD.out] at hnf;have HNF:=Hd hnf;have hne:mb≠p1.made:=fun e=>by
    obtain ⟨es,c,q⟩:=HN2.out.maps.isMap p1.made (by simp [Ptr.maps]);have q2:=HR2.out;rw [e,q] at q2;cases q2
   have HR3:=Hd (show (w2.drew.putObj p1.made ob).heap[mb]?=some (.cells (encM m1 (.slice ao m1.list.length cap)) 36 (0,0)) from (World.putObj_heap_other hne).trans HR2.out);have HC3:=Hd (show Chg R w (w2.drew.putObj p1.made ob) from HC2.out.trans (((Chg.drew R1 w2).trans ((Chg.put w2.drew p1.made ob (HN2.out.maps.own _ (by simp [Ptr.maps]))).mono (fun k _ hk=>.inl hk))).mono (fun k _ hk=>HG2.out.2 k hk)));have HLB3:=Hd (show LRow R (w2.drew.putObj p1.made ob) (.slice ao m1.list.length cap) m1.list from HLB.out.kept (fun g cur fr hr hc=>World.putObj_heap_other (fun e=>by
    obtain ⟨es,c,q⟩:=HN2.out.maps.isMap p1.made (by simp [Ptr.maps]);rw [e,q] at hc;cases hc)))
   clear hnf hne;go_upto_region 3 with (fail)
   go_region
   obtain ⟨w3,hw3⟩:∃w3,w3=w2.drew.putObj p1.made ob:=⟨_,rfl⟩;rw [←hw3] at HNF HR3 HC3 HLB3 ⊢;clear hw3 hup c0 c1 c2 c3 c4 c5 c6 c7 fz x15 xfz;obtain ⟨c0,c1,c2,c3,c4,c5,c6,c7,fz⟩:=MRow.of HR3.out;have x9:=HNF.out.nc.c9;have x16:w3.cell? ⟨x,16,none⟩=some (.int .i64 s.id):=HNF.out.nc.c16;have xfz:=HNF.out.nc.fz;by_cases h3:m1.kind=3
   ·have e3:(m1.kind == 3)=true:=by simpa using h3
    have HL3:=Hd (show LRow R1 w3 (.slice ao m1.list.length cap) m1.list from HLB3.out.mono HG2.out.1);have HS3:=Hd HC3.out.size;obtain ⟨L,hL,hA⟩:=HNF.out.drew.maps.props;have KP:=Hd (keep_any (R:=R1) (R0:=R1) (m:=m1) hL hA ⟨_,rfl,HL3.out.below HNF.out.lt ((Below.refl _ w3).drew)⟩ HNF.out.lt (by rw [HML.out];omega) m1.round);have HPW:=Hd (HNF.out.maps.own p1.props (by simp [Ptr.maps]));have HE:=Hd (say_3 s m (by rw [←HMK.out.1];exact h3));clear hL hA h3;unfold encM iv at KP;go_upto_region 5 with (fail)
    go_region_law (go_simp;go_at_call 77;(with_reducible refine (KP.out).mono ?_);rintro e w4 ⟨rfl,hkl,hch⟩;have HKL:=Hd hkl;have HCH:=Hd hch;clear hkl hch)
    all_goals (
     go_wp2
     refine bodyPost_ret (results_none rfl _ _ _) rfl ⟨rfl,p1,fun k=>R1 k∨New w3.drew w4 k,?_,?_,?_⟩
     ·rw [HE.out,←HM1.out,←HMK.out.2];exact HNF.out.drew.props_new (fun k hk hn=>HCH.out.block k hk hn) (fun k hk=>.inl hk) (fun k hk=>by
       rcases hk with hk | hk
       ·exact Nat.lt_of_lt_of_le (HNF.out.lt k hk) HCH.out.size
       exact hk.2) _ HKL.out
     ·exact HC3.out.trans (((Chg.drew R1 w3).trans (HCH.out.mono (fun k _ hk=>by subst hk;exact .inl HPW.out))).mono (fun k _ hk=>HG2.out.2 k hk))
     refine ⟨fun k hk=>.inl (HG2.out.1 k hk),fun k hk=>?_⟩;rcases hk with hk | hk
     ·exact HG2.out.2 k hk
     have:=hk.1;exact .inr (Nat.le_trans HS3.out this))
   have e3:(m1.kind == 3)=false:=by simpa using h3
   have hk3:m.kind≠3:=by rw [←HMK.out.1];exact h3
   have HE:=Hd (say_v s m hk3);have HK2:=Hd (HK.out hk3);have q7:(s.id+1).tmod 7=(s.id+1) % 7:=Int.tmod_eq_emod_of_nonneg (by omega);obtain ⟨m2,hm2⟩:∃m2,m2=sayM s m:=⟨_,rfl⟩;have HM2:=Hd hm2;clear h3 hk3 hm2;go_upto_region 6 with (fail)
   go_cut [] (fun wc=>wc.heap[mb]?=some (.cells (encM m2 (.slice ao m2.list.length cap)) 36 (0,0))∧Chg (fun k=>k=mb) w3 wc)
   case first=>
    go_wp2_with fail
    go_meet;refine ⟨?_,Chg.set w3 mb 2 _ rfl⟩;rw [heap_setC HR3.out _,HM2.out,HM1.out];rfl
   case rest=>
    obtain ⟨hrw,hch⟩:=hcut;obtain ⟨w4,rfl⟩:∃w4:World,w4=wc:=⟨_,rfl⟩;have hmb3:mb<w3.heap.size:=(gE HR3.out).1;have HN4:=Hd (show NodeP R1 w4 x p1 (s.said m) from HNF.out.later (fun k hk=>hch.block k (HNF.out.lt k hk) (fun e=>HMN.out (e ▸ hk))) hch.size);have HC4:=Hd (show Chg R w w4 from HC3.out.trans (hch.mono (fun k _ hk=>by subst hk;exact .inr (by rw [HMB.out];exact Nat.le_refl _))));have hl4:LRow R w4 (.slice ao m2.list.length cap) m2.list:=by
     have e:m2.list=m1.list:=by rw [HM2.out,HM1.out];rfl
     rw [e];exact HLB3.out.kept (fun g cur fr hr hc=>hch.block g (gE hc).1 (fun e2=>by
      subst e2;rw [HR3.out] at hc;injection hc with hc;injection hc with _ hc _;exact absurd hc (by decide)))
    have PU:=Hd (put_any (R:=R1) (R0:=R) (m:=m2) HN4.out ⟨_,rfl,hl4⟩ (fun k hk=>HN4.out.lt k (HG2.out.1 k hk)) (by rw [HM2.out];exact hl) (by rw [HM2.out];exact HK2.out.1) (by rw [HM2.out];exact HK2.out.2) (by rw [HM2.out];exact i1));have HRW4:=Hd hrw;clear hrw hch hmb3 hl4 c0 c1 c2 c3 c4 c5 c6 c7 fz x9 x16 xfz;obtain ⟨c0,c1,c2,c3,c4,c5,c6,c7,fz⟩:=MRow.of HRW4.out;unfold encM iv pv at PU;go_wp2_with (go_at_call 75;refine PU.out.mono ?_;rintro e w5 ⟨rfl,ht⟩;have HT:=Hd ht;clear ht)
    refine bodyPost_end (results_none rfl _ _ _) rfl ⟨rfl,?_⟩;rw [HE.out,←HM2.out];exact Turned.trans HC4.out HG2.out HT.out
end
section
open Go.RowKit
section
variable {R:Nat→Prop} {w:World} {x:Nat} {p:Ptr} {s:StB}
theorem cast_any (h:NodeP R w x p s) (hI:NumI s) (hml:s.mine.length≤1000) (kind:Int) (hk:kind=4∨kind=5) (d:ByteArray) (hd:szB d) (step:Int) :
  Calls Tryz.prog 173 #[pv x,iv kind,.string d,iv step] w fun e w'=>e = .returned (.tuple #[])∧Turned R w x (s.cast kind d step) w':=by
 have c1:=h.nc.c1;have hfz:=h.nc.fz;have S:=Hd (fun W (hW:Below w.heap.size w W)=>say_any (h.below hW) (m:=vote kind s.round d) ⟨.slice none 0 0,rfl,LRow.nil R W⟩ (Nat.zero_le _) hI hml (fun _=>say_okv hI (by rcases hk with e | e <;> simp [vote,e]) ⟨hI.r0,hI.r1⟩ rfl rfl hd));clear h;unfold pv iv at *;unfold encM iv vote at S;go_enter Tryz.func173,Tryz.ntmps173
 go_wp2_with fail
 refine (S.out _ (by repeat (first | exact Below.refl _ _ | refine below_drewN ?_ _ | refine Below.alloc ?_ (by simp) _ | refine Below.drew ?_))).mono ?_;rintro e w1 ⟨rfl,ht⟩;obtain ⟨p1,R1,hn,hup⟩:=(Turned.after (by repeat (first | exact Below.refl _ _ | refine below_drewN ?_ _ | refine Below.alloc ?_ (by simp) _ | refine Below.drew ?_)) ht).node;have E:=Hd (enter_any hn step);have HUP:=Hd hup;clear ht hn hup c1 hfz;unfold pv iv at E;go_wp2_with fail
 refine E.out.mono ?_;rintro e w2 ⟨rfl,ht⟩;have HT:=Hd (HUP.out _ _ ht);clear ht;go_wp2
 exact bodyPost_end (results_none rfl _ _ _) rfl ⟨rfl,HT.out⟩
end
end
section
open Go.RowKit
theorem NodeP.lay_acc {R:Nat→Prop} {w:World} {x:Nat} {p:Ptr} {s:StB} (h:NodeP R w x p s) (d:ByteArray) :
  ∃o,(Instr.mapUpdate 109 (.map (some p.acc)) (.string d) (.bool true)).run Tryz.prog w = .ok () (w.putObj p.acc o)∧NodeP R (w.putObj p.acc o) x p {s with acc:=insA d s.acc}:=by
 obtain ⟨o,h1,h2⟩:=h.maps.acc.update (P:=Tryz.prog) keyS Tryz.underlying109 (good_acc w _) (x:=.string d) ⟨d,rfl⟩ (.bool true);refine ⟨o,h1,?_⟩;have h3:=h2 _ (World.putObj_heap_same (o:=o) h.maps.acc.lt);rw [putV_set (ek:=.string) encAcc_eq str_inj] at h3;exact h.put_acc (fun k _ hk=>World.putObj_heap_other hk) (by simp [World.putObj]) h3
def errE (b:Bool):Value:=.int .i64 (if b=true then 0 else 260)
section
variable {R R0:Nat→Prop} {w:World} {x:Nat} {p:Ptr} {s:StB}
theorem begin_bad {h:Int} {d:ByteArray} {l:List ByteArray}:s.begin h false d l=(s,false):=by unfold NS.begin;simp
theorem begin_b {h:Int} {d:ByteArray} {l:List ByteArray} (h1:h=s.height) (h2:s.isDec s.height=false) (h3:s.own.isNone=true):s.begin h true d l=({s with own:=some ⟨-1,d,l⟩,acc:=insA d s.acc},true):=by
 unfold NS.begin;simp [h1,h2,h3]
theorem begin_c {h:Int} {d:ByteArray} {l:List ByteArray} (h1:s.isDec s.height=true) (h2:h=s.height+1) (h3:h<1200) (h4:s.isDec h=false):s.begin h true d l=({s.moved h 0 with own:=some ⟨-1,d,l⟩,acc:=[d]},true):=by
 subst h2;unfold NS.begin;simp [h1,h3,h4]
theorem begin_d {h:Int} {d:ByteArray} {l:List ByteArray} (h1:¬(h=s.height∧s.isDec s.height=false∧s.own.isNone=true)) (h2:¬(s.isDec s.height=true∧h=s.height+1∧h<1200∧s.isDec h=false)):s.begin h true d l=(s,false):=by
 unfold NS.begin;rw [if_neg (by simp),if_neg h1,if_neg h2]
theorem begin_any {v:Value} {l:List ByteArray} (h:NodeP R w x p s) (hv:LRow R0 w v l) (h0:∀k,R0 k→k<w.heap.size) (hl:l.length≤60) (hG:Glob w) (hI:NumI s) (height:Int) :
  Calls Tryz.prog 16 #[pv x,iv height,v] w fun e w'=>e = .returned (errE (s.begin height (ascS l) (digV l) l).2)∧Turned R w x (s.begin height (ascS l) (digV l) l).1 w':=by
 have H:=Hd h;have NV:=Hd (newValue_any hv h0 hl hG (-1));have HI:=Hd hI;have i0:=hI.h0;have i1:=hI.h1;clear h hv hG hI;obtain ⟨dv,hdv⟩:∃dv,dv=digV l:=⟨_,rfl⟩;obtain ⟨av,hav⟩:∃av,av=ascS l:=⟨_,rfl⟩;rw [←hdv,←hav] at NV ⊢;clear hdv hav;unfold pv iv at *;go_enter Tryz.func16,Tryz.ntmps16
 go_upto_region 4 with (go_at_call 62;refine NV.out.mono ?_;rintro e w1 ⟨u,rfl,hrow,hb⟩;obtain ⟨ao,cap,rfl,hcap,hrw⟩:=hrow;have HLV:=Hd (show LRow (New w w1) w1 (.slice ao l.length cap) l from ⟨ao,cap,rfl,hcap,hrw⟩);have HB1:=Hd hb;clear hb hcap hrw)
 obtain ⟨w3,hw3⟩:∃w3,w3=w1.alloc (.cells #[.int .i64 (-1),.string dv,.slice ao l.length cap] 120):=⟨_,rfl⟩;have HB3:=Hd (show Below w.heap.size w w3 from by rw [hw3];exact HB1.out.alloc HB1.out.size _);have HB13:=Hd (show Below w1.heap.size w1 w3 from by rw [hw3];exact (Below.refl _ _).alloc (Nat.le_refl _) _);have HVR:=Hd (show w3.heap[w1.heap.size]?=some (.cells #[.int .i64 (-1),.string dv,.slice ao l.length cap] 120 (0,0)) from by rw [hw3];exact World.alloc_heap_new w1 _);have HS3:=Hd (show w3.heap.size=w1.heap.size+1 from by rw [hw3];simp);rw [←hw3];clear hw3;obtain ⟨vb,hvb⟩:∃vb,vb=w1.heap.size:=⟨_,rfl⟩;have HVB:=Hd hvb;rw [←hvb] at HVR ⊢;clear hvb;have HL3:=Hd (show LRow (New w w3) w3 (.slice ao l.length cap) l from (HLV.out.kept (fun g cur fr hr _=>HB13.out.block g hr.2)).mono (fun k hk=>⟨hk.1,by have:=hk.2;have:=HS3.out;omega⟩));have HN3:=Hd (H.out.below HB3.out);have HNM:=Hd (show NodeP (fun k=>R k∨New w w3 k) w3 x p s from HN3.out.mono (fun k hk=>.inl hk) (fun k hk=>by
  rcases hk with hk | hk
  ·exact HN3.out.lt k hk
  exact hk.2))
 have HVN:=Hd (show New w w3 vb from ⟨by rw [HVB.out];exact HB1.out.size,by rw [HVB.out,HS3.out];omega⟩);have ID:=Hd (fun (k:Int) W (hW:Below w3.heap.size w3 W)=>isDecided_any (HN3.out.below hW) k);have d0:=HN3.out.nc.c0;unfold pv iv at ID;have HGN:=Hd (show Grows R (fun k=>R k∨New w w3 k) w from ⟨fun k hk=>.inl hk,fun k hk=>by
  rcases hk with hk | hk
  ·exact .inl hk
  exact .inr hk.1⟩)
 have LO:(p.own=none∧s.own=none)∨∃(g:Nat) (v:ValB),p.own=some g∧s.own=some v:=by
  have hl:=H.out.rest.own;rcases hp:p.own with _ | g
  ·rcases hv:s.own with _ | v
   ·exact .inl ⟨rfl,rfl⟩
   rw [hp,hv] at hl;exact hl.elim
  rcases hv:s.own with _ | v
  ·rw [hp,hv] at hl;exact hl.elim
  exact .inr ⟨g,v,rfl,rfl⟩
 rcases hdc:s.isDec s.height with _ | _
 ·have HDC:=Hd hdc;have ID1:=Hd (ID.out s.height w3 (Below.refl _ _));rw [hdc] at ID1;clear hdc;go_upto_region 6 with (go_at_call 63;refine ID1.out.mono ?_;rintro e w4 ⟨rfl,hb⟩;have HB4:=Hd hb;clear hb)
  have HN4:=Hd (HN3.out.below HB4.out);have d0:=HN4.out.nc.c0;have d7:=HN4.out.nc.c7;rcases av with _ | _
  ·have HE:=Hd (begin_bad (s:=s) (h:=height) (d:=dv) (l:=l));go_wp2
   go_ret;rw [HE.out];exact ⟨rfl,Turned.of (H.out.below (HB3.out.trans (HB4.out.mono HB3.out.size))) (Chg.of_below (HB3.out.trans (HB4.out.mono HB3.out.size)) (fun k q1 q2=>by omega))⟩
  skip
  by_cases hh:height=s.height
  ·subst hh;rcases LO with ⟨hp,ho⟩ | ⟨g,v2,hp,ho⟩
   ·rw [hp] at d7;unfold po at d7;have HE:=Hd (begin_b (s:=s) (h:=s.height) (d:=dv) (l:=l) rfl HDC.out (by rw [ho];rfl));have HNW:=Hd (HNM.out.below HB4.out);have HRV:=Hd (show (R vb∨New w w3 vb) from .inr HVN.out);have HVW:=Hd ((HB4.out.block vb HVN.out.2).trans HVR.out);have HLW:=Hd (show LRow (fun k=>R k∨New w w3 k) w4 (.slice ao l.length cap) l from (HL3.out.mono (fun k hk=>.inr hk)).below HNM.out.lt HB4.out);have HCR:=Hd (show Chg R w w4 from Chg.of_below (HB3.out.trans (HB4.out.mono HB3.out.size)) (fun k q1 q2=>by omega));have HGW:=HGN;have HNE:=Hd (show vb≠x from fun e=>by
     have q1:=H.out.lt x H.out.mem;have q2:=HVN.out.1;omega)
    have HNL:=Hd (HNW.out.put_own (g:=vb) (v:=⟨-1,dv,l⟩) HRV.out HVW.out HLW.out);unfold pv at HNL;obtain ⟨wl,hwl⟩:∃wl,wl=w4.setCell ⟨x,7,none⟩ (.pointer (some ⟨vb,0,none⟩)):=⟨_,rfl⟩;have HVL:=Hd (show wl.heap[vb]?=some (.cells #[.int .i64 (-1),.string dv,.slice ao l.length cap] 120 (0,0)) from by rw [hwl,Below.heap_setCell w4 ⟨x,7,none⟩ _ vb HNE.out];exact HVW.out);have HCW:=Hd (show Chg (fun k=>R k∨New w w3 k) w4 wl from by rw [hwl];exact Chg.set w4 x 7 _ HNW.out.mem);rw [←hwl] at HNL;have f7:=HNW.out.nc.c7;have ffz:=HNW.out.nc.fz;go_upto_region 12 with (fail)
    rw [←hwl];clear hwl f7 ffz;obtain ⟨ob,hup,hnf⟩:=HNL.out.drew.lay_acc dv;have HNF:=Hd hnf;have f8:=HNL.out.nc.c8;have v1:=cell_of_row wl vb 1 _ _ _ HVL.out;have HAM:=Hd (HNL.out.maps.own p.acc (by simp [Ptr.maps]));simp at v1;clear hnf;go_region
    all_goals (
     go_wp2
     go_ret;rw [HE.out];refine ⟨rfl,_,(fun k=>R k∨New w w3 k),HNF.out,?_,HGW.out⟩;exact HCR.out.trans ((HCW.out.trans (((Chg.drew (fun k=>R k∨New w w3 k) wl).trans ((Chg.put wl.drew p.acc ob HAM.out).mono (fun k _ hk=>.inl hk))).mono (fun k _ hk=>.inl hk))).mono (fun k _ hk=>HGW.out.2 k hk)))
   rw [hp] at d7;unfold po pv at d7;have HE:=Hd (begin_d (d:=dv) (l:=l) (by rw [ho];simp) (by rw [HDC.out];simp));go_wp2_with (go_at_call 63;refine (ID.out _ _ (HB4.out)).mono ?_;rintro e w5 ⟨rfl,hb⟩;have HB5:=Hd hb;clear hb)
   go_ret;rw [HE.out];exact ⟨rfl,Turned.of (H.out.below (HB3.out.trans (HB4.out.mono HB3.out.size))) (Chg.of_below (HB3.out.trans (HB4.out.mono HB3.out.size)) (fun k q1 q2=>by omega))⟩
  have e1:(height == s.height)=false:=by simpa using hh
  have HE:=Hd (begin_d (d:=dv) (l:=l) (fun q=>hh q.1) (by rw [HDC.out];simp));go_wp2_with (go_at_call 63;refine (ID.out _ _ (HB4.out)).mono ?_;rintro e w5 ⟨rfl,hb⟩;have HB5:=Hd hb;clear hb)
  go_ret;rw [HE.out];exact ⟨rfl,Turned.of (H.out.below (HB3.out.trans (HB4.out.mono HB3.out.size))) (Chg.of_below (HB3.out.trans (HB4.out.mono HB3.out.size)) (fun k q1 q2=>by omega))⟩
 have HDC:=Hd hdc;have ID1:=Hd (ID.out s.height w3 (Below.refl _ _));rw [hdc] at ID1;clear hdc;go_upto_region 6 with (go_at_call 63;refine ID1.out.mono ?_;rintro e w4 ⟨rfl,hb⟩;have HB4:=Hd hb;clear hb)
 have HN4:=Hd (HN3.out.below HB4.out);have d0:=HN4.out.nc.c0;have d7:=HN4.out.nc.c7;rcases av with _ | _
 ·have HE:=Hd (begin_bad (s:=s) (h:=height) (d:=dv) (l:=l));go_wp2
  go_ret;rw [HE.out];exact ⟨rfl,Turned.of (H.out.below (HB3.out.trans (HB4.out.mono HB3.out.size))) (Chg.of_below (HB3.out.trans (HB4.out.mono HB3.out.size)) (fun k q1 q2=>by omega))⟩
 skip
 have ID2:=Hd (ID.out height w4 HB4.out);by_cases hh:height=s.height+1
 ·subst hh;have ew:IntKind.wrap .i64 (s.height+1)=s.height+1:=by rw [IntKind.wrap_i64];omega
  have ex:(s.height+1 == s.height)=false:=by simp;omega
  by_cases h12:s.height+1<1200
  ·rcases hd2:s.isDec (s.height+1) with _ | _
   ·rw [hd2] at ID2;have HE0:=begin_c (s:=s) (h:=s.height+1) (d:=dv) (l:=l) HDC.out rfl h12 hd2;have HE:=Hd (show s.begin (s.height+1) true dv l=({s.moved (s.height+1) 0 with own:=some ⟨-1,dv,l⟩,acc:=insA dv (s.moved (s.height+1) 0).acc},true) from by
     rw [HE0];unfold NS.moved insA;simp)
    clear HE0 hd2;go_upto_region 10 with (go_at_call 63;refine ID2.out.mono ?_;rintro e w5 ⟨rfl,hb⟩;have HB5:=Hd (HB4.out.trans (hb.mono HB4.out.size));clear hb)
    obtain ⟨st,hpre⟩:=(HN3.out.below HB5.out).pre;have MV:=Hd (move_any hpre HI.out.n1 HI.out.n7 (s.height+1) 0 s ⟨rfl,rfl,rfl,rfl,rfl⟩);unfold pv iv at MV;clear hpre;go_upto_region 11 with (go_at_call 61;refine MV.out.mono ?_;rintro e w6 ⟨rfl,p2,R2,hn2,hc2,hg2⟩;have HN6:=Hd hn2;have HC6:=Hd hc2;have HG6:=Hd hg2;clear hn2 hc2 hg2)
    have hvR:¬R vb:=fun q=>by have:=H.out.lt vb q;have:=HVN.out.1;omega
    have hs35:=HB5.out.size;have hs56:=HC6.out.size;have hs03:=HB3.out.size;have HNW:=Hd (show NodeP (fun k=>R2 k∨New w w3 k) w6 x p2 (s.moved (s.height+1) 0) from HN6.out.mono (fun k hk=>.inl hk) (fun k hk=>by
     rcases hk with hk | hk
     ·exact HN6.out.lt k hk
     have:=hk.2;omega))
    have HRV:=Hd (show (R2 vb∨New w w3 vb) from .inr HVN.out);have HVW:=Hd (show w6.heap[vb]?=some (.cells #[.int .i64 (-1),.string dv,.slice ao l.length cap] 120 (0,0)) from (HC6.out.block vb (Nat.lt_of_lt_of_le HVN.out.2 hs35) hvR).trans ((HB5.out.block vb HVN.out.2).trans HVR.out));have HLW:=Hd (show LRow (fun k=>R2 k∨New w w3 k) w6 (.slice ao l.length cap) l from ((HL3.out.below (fun k hk=>hk.2) HB5.out).kept (fun g cur fr hr _=>HC6.out.block g (Nat.lt_of_lt_of_le hr.2 hs35) (fun q=>by have:=H.out.lt g q;have:=hr.1;omega))).mono (fun k hk=>.inr hk));have HCR:=Hd (show Chg R w w6 from (Chg.of_below (HB3.out.trans (HB5.out.mono HB3.out.size)) (fun k q1 q2=>by omega)).trans (HC6.out.mono (fun k _ hk=>.inl hk)));have HGW:=Hd (show Grows R (fun k=>R2 k∨New w w3 k) w from ⟨fun k hk=>.inl (HG6.out.1 k hk),fun k hk=>by
     rcases hk with hk | hk
     ·rcases HG6.out.2 k hk with q | q
      ·exact .inl q
      exact .inr (by omega)
     exact .inr hk.1⟩)
    clear hvR hs35 hs56 hs03 d0 d7;have HNE:=Hd (show vb≠x from fun e=>by
     have q1:=H.out.lt x H.out.mem;have q2:=HVN.out.1;omega)
    have HNL:=Hd (HNW.out.put_own (g:=vb) (v:=⟨-1,dv,l⟩) HRV.out HVW.out HLW.out);unfold pv at HNL;obtain ⟨wl,hwl⟩:∃wl,wl=w6.setCell ⟨x,7,none⟩ (.pointer (some ⟨vb,0,none⟩)):=⟨_,rfl⟩;have HVL:=Hd (show wl.heap[vb]?=some (.cells #[.int .i64 (-1),.string dv,.slice ao l.length cap] 120 (0,0)) from by rw [hwl,Below.heap_setCell w6 ⟨x,7,none⟩ _ vb HNE.out];exact HVW.out);have HCW:=Hd (show Chg (fun k=>R2 k∨New w w3 k) w6 wl from by rw [hwl];exact Chg.set w6 x 7 _ HNW.out.mem);rw [←hwl] at HNL;have f7:=HNW.out.nc.c7;have ffz:=HNW.out.nc.fz;go_upto_region 12 with (fail)
    rw [←hwl];clear hwl f7 ffz;obtain ⟨ob,hup,hnf⟩:=HNL.out.drew.lay_acc dv;have HNF:=Hd hnf;have f8:=HNL.out.nc.c8;have v1:=cell_of_row wl vb 1 _ _ _ HVL.out;have HAM:=Hd (HNL.out.maps.own p2.acc (by simp [Ptr.maps]));simp at v1;clear hnf;go_region
    all_goals (
     go_wp2
     go_ret;rw [HE.out];refine ⟨rfl,_,(fun k=>R2 k∨New w w3 k),HNF.out,?_,HGW.out⟩;exact HCR.out.trans ((HCW.out.trans (((Chg.drew (fun k=>R2 k∨New w w3 k) wl).trans ((Chg.put wl.drew p2.acc ob HAM.out).mono (fun k _ hk=>.inl hk))).mono (fun k _ hk=>.inl hk))).mono (fun k _ hk=>HGW.out.2 k hk)))
   rw [hd2] at ID2;have HE:=Hd (begin_d (d:=dv) (l:=l) (by rw [HDC.out];simp) (by rw [hd2];simp));go_wp2_with (go_at_call 63;refine ID2.out.mono ?_;rintro e w5 ⟨rfl,hb⟩;have HB5:=Hd hb;clear hb)
   go_ret;rw [HE.out];exact ⟨rfl,Turned.of (H.out.below (HB3.out.trans ((HB4.out.trans (HB5.out.mono HB4.out.size)).mono HB3.out.size))) (Chg.of_below (HB3.out.trans ((HB4.out.trans (HB5.out.mono HB4.out.size)).mono HB3.out.size)) (fun k q1 q2=>by omega))⟩
  have e12:decide (s.height+1<1200)=false:=by simpa using h12
  have HE:=Hd (begin_d (d:=dv) (l:=l) (by rw [HDC.out];simp) (fun q=>h12 q.2.2.1));go_wp2_with (go_at_call 63;refine (ID.out _ _ (HB4.out)).mono ?_;rintro e w5 ⟨rfl,hb⟩;have HB5:=Hd hb;clear hb)
  go_ret;rw [HE.out];exact ⟨rfl,Turned.of (H.out.below (HB3.out.trans (HB4.out.mono HB3.out.size))) (Chg.of_below (HB3.out.trans (HB4.out.mono HB3.out.size)) (fun k q1 q2=>by omega))⟩
 have e1:(height == s.height+1)=false:=by simpa using hh
 have ew:IntKind.wrap .i64 (s.height+1)=s.height+1:=by rw [IntKind.wrap_i64];omega
 rcases e0:(height == s.height) with _ | _
 ·have hne:¬height=s.height:=by simpa using e0
  have HE:=Hd (begin_d (d:=dv) (l:=l) (by rw [HDC.out];simp) (fun q=>hh q.2.1));go_wp2_with (go_at_call 63;refine (ID.out _ _ (HB4.out)).mono ?_;rintro e w5 ⟨rfl,hb⟩;have HB5:=Hd hb;clear hb)
  go_ret;rw [HE.out];exact ⟨rfl,Turned.of (H.out.below (HB3.out.trans (HB4.out.mono HB3.out.size))) (Chg.of_below (HB3.out.trans (HB4.out.mono HB3.out.size)) (fun k q1 q2=>by omega))⟩
 have hne:height=s.height:=by simpa using e0
 have HE:=Hd (begin_d (d:=dv) (l:=l) (by rw [HDC.out];simp) (fun q=>hh q.2.1));go_wp2_with (go_at_call 63;refine (ID.out _ _ (HB4.out)).mono ?_;rintro e w5 ⟨rfl,hb⟩;have HB5:=Hd hb;clear hb)
 go_ret;rw [HE.out];exact ⟨rfl,Turned.of (H.out.below (HB3.out.trans (HB4.out.mono HB3.out.size))) (Chg.of_below (HB3.out.trans (HB4.out.mono HB3.out.size)) (fun k q1 q2=>by omega))⟩
end
end
end Go.Proofs.YtifcdjmcoibblaaGreatDoor
