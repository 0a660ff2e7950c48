/- Nte Nm -/
import Derived.Test.YtifcdjmcoibblaaGreatDoorAq38
set_option linter.unusedVariables false
set_option linter.unusedSimpArgs false
set_option linter.unusedSectionVars false
set_option maxRecDepth 100000
set_option maxHeartbeats 80000000
namespace Go.Proofs.YtifcdjmcoibblaaGreatDoor
section
open Go.RowKit
abbrev Z7f:=Zrr ByteArray
def Z60 (c:Z7f):List Value:=[iv c.frm,iv c.kind,iv c.height,iv c.round,.string c.dig]
def zC:Value:=.agg #[iv 0,iv 0,iv 0,iv 0,.string (ByteArray.mk #[])]
theorem Tryz.infoCast:(Tryz.prog.info? 132).map (λi=>(i.zero,i.size,i.bytes))=some (some zC,5,48):=by kernel_rfl
def Z1k (W:World) (v:Value) (cs:List Z7f):Prop:=W.ownsRow 0 132 5 v cs.length (cs.flatMap Z60)
theorem Z1k.nil (W:World):Z1k W (.slice none 0 0) []:=World.ownsRow_nil _ _ _ _
theorem Zf2:∀(cs:List Z7f) (j:Nat) (c:Z7f),cs[j]?=some c->∀(k:Nat) (u:Value),(Z60 c)[k]?=some u->(cs.flatMap Z60)[j * 5+k]?=some u
 | [],j,c,h,_,_,_=>by cases h
 | a :: cs,0,c,h,k,u,hu=>by
  have e:a=c:=by simpa using h
  subst e;rw [List.flatMap_cons,Nat.zero_mul,Nat.zero_add,List.getElem?_append_left (List.getElem?_eq_some_iff.1 hu).1];exact hu
 | a :: cs,j+1,c,h,k,u,hu=>by
  rw [List.flatMap_cons,List.getElem?_append_right (by simp [Z60];omega)];have e:(j+1) * 5+k - (Z60 a).length=j * 5+k:=by simp [Z60];omega
  rw [e];exact Zf2 cs j c (by simpa using h) k u hu
theorem Z1k.slice {W:World} {v:Value} {cs:List Z7f} (h:Z1k W v cs):∃ao cap,v = .slice ao cs.length cap:=by
 rcases h.2 with ⟨e,h0⟩ | ⟨g,c,_,e,_⟩
 ·exact ⟨none,0,by rw [e,h0]⟩
 exact ⟨_,_,e⟩
theorem Z1k.cells {W:World} {ao:Option Addr} {n cap:Nat} {cs:List Z7f} (h:Z1k W (.slice ao n cap) cs) {j:Nat} {c:Z7f} (hj:cs[j]?=some c):∃g,ao=some ⟨g,0,none⟩∧(∃cur,W.heap[g]?=some (.cells cur 132 (0,0)))∧∀(k:Nat) (u:Value),(Z60 c)[k]?=some u->W.cell? ⟨g,j * 5+k,none⟩=some u:=by
 have hl:=(List.getElem?_eq_some_iff.1 hj).1;rcases h.2 with ⟨e,h0⟩ | ⟨g,c2,cur,e,hb,hg,_,_,_,ht⟩
 ·omega
 injection e with e1 e2 e3
 refine ⟨g,e1,⟨cur,hg⟩,λk u hu=>?_⟩;have h2:=Zf2 cs j c hj k u hu;rw [<-ht] at h2;have hk:=(List.getElem?_eq_some_iff.1 hu).1;have hk5:k<5:=by simpa [Z60] using hk
 rw [List.getElem?_take_of_lt (by omega),Array.getElem?_toList] at h2;rw [cell_of_row W g _ cur _ _ hg];exact h2
theorem Z1k.kept {W W':World} {v:Value} {cs:List Z7f} (h:Z1k W v cs) (hk:∀g cur,W.heap[g]?=some (.cells cur 132 (0,0))->v.ownBlock=some g->W'.heap[g]?=W.heap[g]?):Z1k W' v cs:=
 Z09 h (λg cur hg hc=>hk g cur hc hg)
def Z1b (n li la nw:Int) (nv qv fv cv:Value) (br:Bool):Array Value:=#[iv n,iv li,nv,iv la,iv nw,qv,fv,cv,.bool br]
section
variable {W:World} {nb:Nat} {n li la nw:Int} {nv qv fv cv:Value} {br over:Bool} {cs:List Z7f} {m:Z0k} {ao:Option Addr} {cap:Nat}
structure Zsi (W:World) (nb:Nat) (n li la nw:Int) (nv qv fv cv:Value) (r:Bool×List Z7f) (w':World):Prop where
 row:∃cv',w'.heap[nb]?=some (.cells (Z1b n li la nw nv qv fv cv' r.1) 50 (0,0))∧Z1k w' cv' r.2∧∀g,cv'.ownBlock=some g->cv.ownBlock=some g∨W.heap.size<=g
 chg:Chg (λk=>k=nb∨cv.ownBlock=some k) W w'
theorem Zp9 (hn:W.heap[nb]?=some (.cells (Z1b n li la nw nv qv fv cv br) 50 (0,0))) (hc:Z1k W cv cs) (hl:cs.length<=1000000000)
  (DC:∀W',Below W.heap.size W W'->Calls Tryz.prog 80 #[pv nb,.int .i64 m.height] W' λe w'=>e = .returned (.bool over)∧Below W'.heap.size W' w') :
  Calls Tryz.prog 28 #[pv nb,.agg (Z0l m (.slice ao m.list.length cap))] W λe w'=>e = .returned (.tuple #[])∧Zsi W nb n li la nw nv qv fv cv (Z5z over br cs m) w':=by
 obtain ⟨mb,hmb⟩:∃mb,mb=W.heap.size:=⟨_,rfl⟩;have HMB:=Hd hmb;have HN:=Hd hn;have HC:=Hd hc;have HDC:=Hd DC;have HML:=Hd hl;obtain ⟨cao,ccap,rfl⟩:=hc.slice;obtain ⟨nl,hnl⟩:∃nl,nl=cs.length:=⟨_,rfl⟩;have HNL:=Hd hnl;have l0:(0:Int)<=(nl:Int):=by omega
 have l1:(nl:Int)<=1000000000:=by rw [<-hnl] at hl;omega
 rw [<-hnl] at HN HC ⊢;clear hn hc DC hmb hl hnl;have HB1:=Hd ((Below.refl _ W).alloc (Nat.le_refl _) (.cells (Z0l m (.slice ao m.list.length cap)) 36));have HR1:=Hd (World.alloc_heap_new W (.cells (Z0l m (.slice ao m.list.length cap)) 36));unfold Z0l iv pv at *;go_enter Tryz.func28,Tryz.ntmps28
 go_upto_region 1 with (fail)
 obtain ⟨w1,hw1⟩:∃w1,w1=W.alloc (.cells #[.int .i64 m.kind,.int .i64 m.frm,.int .i64 m.to,.int .i64 m.height,.int .i64 m.round,.int .i64 m.valid,.string m.dig,.slice ao m.list.length cap] 36):=⟨_,rfl⟩;rw [<-HMB.out] at HR1 ⊢;rw [<-hw1] at HB1 HR1 ⊢;clear hw1;obtain ⟨c0,c1,c2,c3,c4,c5,c6,c7,fz⟩:=Z1y.of HR1.out;by_cases h3:m.kind=3
 ·have e3:(m.kind == 3)=true:=by simpa using h3
  have HE:=Hd (show Z5z over br cs m=(br,cs) from by unfold Z5z;rw [if_pos h3]);clear h3;go_wp2
  refine bodyPost_ret (results_none rfl _ _ _) rfl ?_;rw [HE.out];exact ⟨rfl,⟨_,(HB1.out.block nb (gE HN.out).1).trans HN.out,HC.out.kept (λg cur hg _=>HB1.out.block g (gE hg).1),λg hg=>.inl hg⟩,Chg.of_below HB1.out (λk q1 q2=>absurd q2 (by omega))⟩
 have e3:(m.kind == 3)=false:=by simpa using h3
 have HK3:=Hd h3;have D1:=Hd (HDC.out w1 HB1.out);clear h3;go_upto_region 3 with (go_at_call 80;(with_reducible refine D1.out.mono ?_);rintro e w2 ⟨rfl,hb2⟩;have HB2:=Hd hb2;clear hb2)
 have HR2:=Hd ((HB2.out.block mb (gE HR1.out).1).trans HR1.out);have HBW:=Hd (HB1.out.trans (HB2.out.mono HB1.out.size));have HN2:=Hd ((HBW.out.block nb (gE HN.out).1).trans HN.out);have HC2:=Hd (HC.out.kept (W':=w2) (λg cur hg _=>HBW.out.block g (gE hg).1));have HMW:=Hd (show mb<w2.heap.size from (gE HR2.out).1);have HNE:=Hd (show nb≠mb from λe=>by
  have:=(gE HN.out).1;rw [e,HMB.out] at this;omega)
 clear c0 c1 c2 c3 c4 c5 c6 c7 fz D1 HR1 HB1;go_wp2_with fail
 go_loopw [5] (λi wr=>∃(j:Nat) (b:Bool),j<=nl∧i = .int .i64 (j:Int)∧wr.heap[nb]?=some (.cells (Z1b n li la nw nv qv fv (.slice cao nl ccap) b) 50 (0,0))∧Chg (λk=>k=nb) w2 wr∧Z4d over m br cs=Z4d over m b (cs.drop j)) (λi _=>nl - (intOf i).toNat)
 case atStart=>exact ⟨0,br,Nat.zero_le _,rfl,HN2.out,Chg.refl _ _,rfl⟩
 case round=>
  obtain ⟨j,b,hj,rfl,hnr,hch,hgo⟩:=hrel;have HNR:=Hd hnr;have HCH:=Hd hch;have HGO:=Hd hgo;have j0:(0:Int)<=(j:Int):=by omega
  have n7:=cell_of_row wr nb 7 _ _ _ hnr;simp [Z1b] at n7;have HMR:=Hd ((hch.block mb HMW.out (λe=>HNE.out e.symm)).trans HR2.out);have HCR:=Hd (HC2.out.kept (W':=wr) (λg cur hg _=>hch.block g (gE hg).1 (λe=>by
   rw [e,HN2.out] at hg;injection hg with hg
   injection hg with _ hg _
   exact absurd hg (by decide))))
  clear hnr hch hgo;by_cases hjn:j<nl
  ·have j1:(j:Int)<(nl:Int):=by omega
   obtain ⟨c,hcj⟩:∃c,cs[j]?=some c:=⟨cs[j]'(by rw [<-HNL.out];exact hjn),List.getElem?_eq_getElem _⟩;have HDR:=Hd (show cs.drop j=c :: cs.drop (j+1) from by
    obtain ⟨h1,h2⟩:=List.getElem?_eq_some_iff.1 hcj;rw [List.drop_eq_getElem_cons h1,h2])
   obtain ⟨g,rfl,⟨cur,hgc⟩,hce⟩:=HCR.out.cells hcj;have k0:=hce 0 _ rfl;have k1:=hce 1 _ rfl;have k2:=hce 2 _ rfl;have k3:=hce 3 _ rfl;have k4:=hce 4 _ rfl;simp only [Nat.add_zero] at k0;unfold iv at k0 k1 k2 k3;clear hcj hgc hce;obtain ⟨t7,ht7⟩:∃t7,t7=decide (c.kind≠m.kind∨c.height≠m.height∨c.round≠m.round):=⟨_,rfl⟩;obtain ⟨t8,ht8⟩:∃t8,t8=(decide (c.dig≠m.dig) && (decide (c.frm=m.frm) || (decide (m.kind=6) && !over))):=⟨_,rfl⟩;have HT7:=Hd ht7;have HT8:=Hd ht8;have HMRL:=Hd (gE HMR.out).1;have HNL2:=Hd (gE HNR.out).1;clear ht7 ht8;go_upto_region 7 with (fail)
   obtain ⟨wa,hwa⟩:∃wa,wa=wr.alloc (.cells #[.int .i64 c.frm,.int .i64 c.kind,.int .i64 c.height,.int .i64 c.round,.string c.dig] 132):=⟨_,rfl⟩;obtain ⟨cb,hcb⟩:∃cb,cb=wr.heap.size:=⟨_,rfl⟩;have HBA:=Hd (show Below wr.heap.size wr wa from by rw [hwa];exact (Below.refl _ _).alloc (Nat.le_refl _) _);have HCB:=Hd (show wa.heap[cb]?=some (.cells #[.int .i64 c.frm,.int .i64 c.kind,.int .i64 c.height,.int .i64 c.round,.string c.dig] 132 (0,0)) from by rw [hwa,hcb];exact World.alloc_heap_new wr _);have HCBE:=Hd hcb;rw [<-hcb,<-hwa];clear hwa hcb k0 k1 k2 k3 k4 n7;have HNA:=Hd ((HBA.out.block nb HNL2.out).trans HNR.out);have HMA:=Hd ((HBA.out.block mb HMRL.out).trans HMR.out);have HCA:=Hd (HCH.out.trans ((Chg.of_below (C:=λk=>k=nb) HBA.out (λk h1 h2=>absurd h1 (by omega))).mono (λk _ h=>.inl h)));have k0:=cell_of_row wa cb 0 _ _ _ HCB.out;have k1:=cell_of_row wa cb 1 _ _ _ HCB.out;have k2:=cell_of_row wa cb 2 _ _ _ HCB.out;have k3:=cell_of_row wa cb 3 _ _ _ HCB.out;have k4:=cell_of_row wa cb 4 _ _ _ HCB.out;simp at k0 k1 k2 k3 k4;obtain ⟨c0,c1,c2,c3,c4,c5,c6,c7,fz⟩:=Z1y.of HMA.out;go_cut [48] (λt wc=>t = .bool t7∧wc=wa)
   case first=>
    by_cases z1:c.kind=m.kind
    ·have y1:(c.kind != m.kind)=false:=by simpa using z1
     by_cases z2:c.height=m.height
     ·have y2:(c.height != m.height)=false:=by simpa using z2
      by_cases z3:c.round=m.round
      ·have y3:(c.round != m.round)=false:=by simpa using z3
       have HE:=Hd (show t7=false from by rw [HT7.out];exact decide_eq_false (by simp [z1,z2,z3]));clear z1 z2 z3;go_wp2_with fail
       go_meet;exact ⟨by rw [HE.out],rfl⟩
      have y3:(c.round != m.round)=true:=by simpa using z3
      have HE:=Hd (show t7=true from by rw [HT7.out];exact decide_eq_true (.inr (.inr z3)));clear z1 z2 z3;go_wp2_with fail
      go_meet;exact ⟨by rw [HE.out],rfl⟩
     have y2:(c.height != m.height)=true:=by simpa using z2
     have HE:=Hd (show t7=true from by rw [HT7.out];exact decide_eq_true (.inr (.inl z2)));clear z1 z2;go_wp2_with fail
     go_meet;exact ⟨by rw [HE.out],rfl⟩
    have y1:(c.kind != m.kind)=true:=by simpa using z1
    have HE:=Hd (show t7=true from by rw [HT7.out];exact decide_eq_true (.inl z1));clear z1;go_wp2_with fail
    go_meet;exact ⟨by rw [HE.out],rfl⟩
   case rest=>
   obtain ⟨rfl,hw⟩:=hcut;rw [hw];clear hw;rcases t7 with _ | _
   ·skip
    go_upto_region 8 with (fail)
    go_cut [69] (λt wc=>t = .bool t8∧wc=wa)
    case first=>
     by_cases z1:c.dig=m.dig
     ·have y1:(c.dig.toList == m.dig.toList)=true:=by rw [z1];exact beq_self_eq_true _
      have HE:=Hd (show t8=false from by rw [HT8.out,decide_eq_false (by simp [z1])];rfl);clear z1;go_wp2_with fail
      go_meet;exact ⟨by rw [HE.out],rfl⟩
     have y1:(c.dig.toList == m.dig.toList)=false:=Zdx z1;have HD:=Hd (decide_eq_true (p:=c.dig≠m.dig) z1);clear z1;by_cases z2:c.frm=m.frm
     ·have y2:(c.frm == m.frm)=true:=by simpa using z2
      have HE:=Hd (show t8=true from by rw [HT8.out,HD.out,decide_eq_true z2];rfl);clear z2;go_wp2_with fail
      go_meet;exact ⟨by rw [HE.out],rfl⟩
     have y2:(c.frm == m.frm)=false:=by simpa using z2
     have HF:=Hd (decide_eq_false z2);clear z2;by_cases z3:m.kind=6
     ·have y3:(m.kind == 6)=true:=by simpa using z3
      have HE:=Hd (show t8 = !over from by rw [HT8.out,HD.out,HF.out,decide_eq_true z3];rfl);clear z3;go_wp2_with fail
      go_meet;exact ⟨by rw [HE.out],rfl⟩
     have y3:(m.kind == 6)=false:=by simpa using z3
     have HE:=Hd (show t8=false from by rw [HT8.out,HD.out,HF.out,decide_eq_false z3];rfl);clear z3;go_wp2_with fail
     go_meet;exact ⟨by rw [HE.out],rfl⟩
    case rest=>
    obtain ⟨rfl,hw⟩:=hcut;rw [hw];clear hw;go_upto_if 69 with (fail)
    go_cut [] (λwc=>wc.heap[nb]?=some (.cells (Z1b n li la nw nv qv fv (.slice (some ⟨g,0,none⟩) nl ccap) (b || t8)) 50 (0,0))∧Chg (λk=>k=nb) w2 wc∧wc.heap[mb]?=wa.heap[mb]?∧wc.heap[cb]?=wa.heap[cb]?)
    case first=>
     rcases t8 with _ | _
     ·go_wp2_with fail
      go_meet;rw [Bool.or_false];exact ⟨HNA.out,HCA.out,rfl,rfl⟩
     have n8:=cell_of_row wa nb 8 _ _ _ HNA.out;have nf:=λo=>frozen_of_row wa nb o _ _ HNA.out;simp [Z1b] at n8;go_wp2_with fail
     go_meet;rw [Bool.or_true];refine ⟨Z05 HNA.out _,HCA.out.trans ((Chg.set (C:=λk=>k=nb) wa nb 8 _ rfl).mono (λ_ _ h=>.inl h)),Below.heap_setCell _ ⟨nb,8,none⟩ _ mb (λe=>HNE.out e.symm),Below.heap_setCell _ ⟨nb,8,none⟩ _ cb (λe=>?_)⟩;have e:cb=nb:=e;have:=HNL2.out;rw [<-e,HCBE.out] at this;exact absurd this (Nat.lt_irrefl _)
    case rest=>
    obtain ⟨hn3,hc3,hm3,hk3⟩:=hcut;obtain ⟨w3,rfl⟩:∃w3:World,w3=wc:=⟨_,rfl⟩;have HN3:=Hd hn3;have HC3:=Hd hc3;have HM3:=Hd (hm3.trans HMA.out);have HK3':=Hd (hk3.trans HCB.out);clear hn3 hc3 hm3 hk3 c0 c1 c2 c3 c4 c5 c6 c7 fz k0 k1 k2 k3 k4;have k0:=cell_of_row w3 cb 0 _ _ _ HK3'.out;simp at k0;have c1:=(Z1y.of HM3.out).c1;have HG:=Hd (show Z4d over m b (cs.drop j)=if c.frm=m.frm then (b || t8,false) else Z4d over m (b || t8) (cs.drop (j+1)) from by
     rw [HDR.out];show (if c.kind≠m.kind∨c.height≠m.height∨c.round≠m.round then _ else _)=_;rw [if_neg (of_decide_eq_false HT7.out.symm),HT8.out])
    have HCR3:=Hd (HC2.out.kept (W':=w3) (λg cur hg _=>HC3.out.block g (gE hg).1 (λe=>by
     rw [e,HN2.out] at hg;injection hg with hg
     injection hg with _ hg _
     exact absurd hg (by decide))))
    by_cases z2:c.frm=m.frm
    ·have y2:(c.frm == m.frm)=true:=by simpa using z2
     have HR:=Hd (show Z5z over br cs m=(b || t8,cs) from by
      unfold Z5z;rw [if_neg HK3.out,HGO.out,HG.out,if_pos z2];rfl)
     clear z2;go_wp2
     refine bodyPost_ret (results_none rfl _ _ _) rfl ?_;rw [HR.out];exact ⟨rfl,⟨_,HN3.out,HCR3.out,λg hg=>.inl hg⟩,(Chg.of_below (C:=λk=>k=nb∨(Value.slice (some ⟨g,0,none⟩) nl ccap).ownBlock=some k) HBW.out (λk q1 q2=>absurd q2 (by omega))).trans (HC3.out.mono (λk _ h=>.inl (.inl h)))⟩
    have y2:(c.frm == m.frm)=false:=by simpa using z2
    have HR:=Hd (show Z4d over m br cs=Z4d over m (b || t8) (cs.drop (j+1)) from by rw [HGO.out,HG.out,if_neg z2]);clear z2;go_wp2_with fail
    go_roundw
    case rel=>exact ⟨j+1,b || t8,by omega,by go_num,HN3.out,HC3.out,HR.out⟩
    case measure=>simp [intOf];omega
   have HG:=Hd (show Z4d over m b (cs.drop j)=Z4d over m b (cs.drop (j+1)) from by
    rw [HDR.out];show (if c.kind≠m.kind∨c.height≠m.height∨c.round≠m.round then _ else _)=_;exact if_pos (of_decide_eq_true HT7.out.symm))
   go_wp2_with fail
   go_roundw
   case rel=>exact ⟨j+1,b,by omega,by go_num,HNA.out,HCA.out,by rw [HGO.out,HG.out]⟩
   case measure=>simp [intOf];omega
  have hjn':j=nl:=by omega
  have j1:¬(j:Int)<(nl:Int):=by omega
  have HR:=Hd (show Z5z over br cs m=(b,cs ++ [Z4t m]) from by
   unfold Z5z;rw [if_neg HK3.out,HGO.out,hjn',HNL.out,List.drop_length];rfl)
  obtain ⟨ti,hi,hz0,hz1,hz2⟩:=info_parts Tryz.infoCast;obtain ⟨XS,hXS⟩:∃XS,XS=cs.flatMap Z60:=⟨_,rfl⟩;have HXS:=Hd hXS;have HOWN:=Hd (show ∀X,Below wr.heap.size wr X->X.ownsRow 0 132 5 (.slice cao nl ccap) nl XS from λX hX=>by
   have:=HCR.out;unfold Z1k at this;rw [<-hXS,<-HNL.out] at this;exact Z07 this (λg _ hl=>hX.block g hl))
  obtain ⟨wz,hwz⟩:∃wz,wz=(wr.alloc (.cells #[.int .i64 m.frm,.int .i64 m.kind,.int .i64 m.height,.int .i64 m.round,.string m.dig] 132)).drew:=⟨_,rfl⟩;have HBZ:=Hd (show Below wr.heap.size wr wz from by rw [hwz];exact ((Below.refl _ _).alloc (Nat.le_refl _) _).drew);have HOD:=HOWN.out wz HBZ.out;have NEW:=show ∀j u,(Z60 (Z4t m))[j]?=some u->wz.cell? ((⟨wr.heap.size,0,none⟩:Addr).add j)=some u from by
   rw [hwz];exact Z0w wr (Z60 (Z4t m)) 132 wr.heap.size rfl
  have HMZ:=Hd ((HBZ.out.block mb (gE HMR.out).1).trans HMR.out);have HNZ:=Hd ((HBZ.out.block nb (gE HNR.out).1).trans HNR.out);have FIN:=Hd (show ∀(v2:Value) (w7:World),w7.ownsRow 0 132 5 v2 (nl+1) (XS ++ Z60 (Z4t m))->wz.grownBy w7 (Value.slice cao nl ccap).ownBlock->(∀g,v2.ownBlock=some g->(Value.slice cao nl ccap).ownBlock=some g∨wz.heap.size<=g) ->
    Zsi W nb n li la nw nv qv fv (.slice cao nl ccap) (b,cs ++ [Z4t m]) (w7.setCell ⟨nb,7,none⟩ v2)∧(∃g c,v2 = .slice (some ⟨g,0,none⟩) (nl+1) c)∧w7.cell? ⟨nb,7,none⟩=some (.slice cao nl ccap)∧(∀o,w7.frozen? ⟨nb,o,none⟩=false)∧w7.heap[mb]?=some (.cells #[.int .i64 m.kind,.int .i64 m.frm,.int .i64 m.to,.int .i64 m.height,.int .i64 m.round,.int .i64 m.valid,.string m.dig,.slice ao m.list.length cap] 36 (0,0)) from by
   intro v2 w7 own gr hn;have hz:=HBZ.out.size;have hs2:=HCH.out.size;have hsw:=HBW.out.size;have hnbz:=(gE HNZ.out).1;have hrow:∀g,(Value.slice cao nl ccap).ownBlock=some g->∃cur,wr.heap[g]?=some (.cells cur 132 (0,0)):=λg hg=>by
    rcases HCR.out.2 with ⟨e,_⟩ | ⟨g2,c2,cur,e,_,hg2,_⟩
    ·rw [e] at hg;simp [Value.ownBlock] at hg
    rw [e] at hg;have:g2=g:=by simpa [Value.ownBlock] using hg
    exact ⟨cur,this ▸ hg2⟩
   have hne:(Value.slice cao nl ccap).ownBlock≠some nb:=λe=>by
    obtain ⟨cur,hc⟩:=hrow nb e;rw [HNR.out] at hc;injection hc with hc
    injection hc with _ hc _
    exact absurd hc (by decide)
   have hx7:w7.heap[nb]?=some (.cells (Z1b n li la nw nv qv fv (.slice cao nl ccap) b) 50 (0,0)):=(gr.block nb hnbz (λe=>hne e.symm)).trans HNZ.out;have hmz:=HMZ.out;have hnm:(Value.slice cao nl ccap).ownBlock≠some mb:=λe=>by
    obtain ⟨cur,hc⟩:=hrow mb e;rw [HMR.out] at hc;injection hc with hc
    injection hc with _ hc _
    exact absurd hc (by decide)
   have hm7:=(gr.block mb (gE hmz).1 (λe=>hnm e.symm)).trans hmz;refine ⟨⟨⟨v2,Z05 hx7 _,?_,λg hg=>?_⟩,?_⟩,?_,?_,λo=>frozen_of_row w7 nb o _ _ hx7,hm7⟩
   ·have h2:Z1k w7 v2 (cs ++ [Z4t m]):=by
     unfold Z1k;rw [List.flatMap_append,<-HXS.out,List.length_append,<-HNL.out];simpa using own
    refine h2.kept (λg cur hg _=>Below.heap_setCell _ ⟨nb,7,none⟩ _ g (λe=>?_));have e:g=nb:=e;rw [e,hx7] at hg;injection hg with hg
    injection hg with _ hg _
    exact absurd hg (by decide)
   ·rcases hn g hg with q | q
    ·exact .inl q
    exact .inr (by omega)
   ·exact (Chg.of_below (C:=λk=>k=nb∨(Value.slice cao nl ccap).ownBlock=some k) HBW.out (λk q1 q2=>absurd q2 (by omega))).trans ((HCH.out.mono (λk _ h=>.inl (.inl h))).trans ((Chg.of_below HBZ.out (λk q1 q2=>absurd q2 (by omega))).trans ((Chg.grown gr (λk e=>.inl (.inl (.inl (.inr e))))).trans (Chg.set _ nb 7 v2 (.inl (.inl (.inl (.inl (.inl rfl)))))))))
   ·rcases own.2 with ⟨_,h0⟩ | ⟨g,c,_,hv,_⟩
    ·omega
    exact ⟨g,c,hv⟩
   rw [cell_of_row w7 nb 7 _ _ _ hx7];rfl)
  have n7a:=Z0h n7 (.cells #[.int .i64 m.frm,.int .i64 m.kind,.int .i64 m.height,.int .i64 m.round,.string m.dig] 132);have KP:=Hd (show ∀W:World,W.heap[mb]?=some (.cells #[.int .i64 m.kind,.int .i64 m.frm,.int .i64 m.to,.int .i64 m.height,.int .i64 m.round,.int .i64 m.valid,.string m.dig,.slice ao m.list.length cap] 36 (0,0))->W.cell? ⟨mb,0,none⟩=some (.int .i64 m.kind)∧W.cell? ⟨mb,1,none⟩=some (.int .i64 m.frm)∧W.cell? ⟨mb,3,none⟩=some (.int .i64 m.height)∧W.cell? ⟨mb,4,none⟩=some (.int .i64 m.round)∧W.cell? ⟨mb,6,none⟩=some (.string m.dig) from λW h=>by
   obtain ⟨c0,c1,c2,c3,c4,c5,c6,c7,fz⟩:=Z1y.of h;exact ⟨c0,c1,c3,c4,c6⟩)
  clear HOWN HCR hXS;go_upto_region 11 with (fail)
  refine wp_region_held_drew (S:=(λW=>W.cell? ⟨mb,0,none⟩=some (.int .i64 m.kind)∧W.cell? ⟨mb,1,none⟩=some (.int .i64 m.frm)∧W.cell? ⟨mb,3,none⟩=some (.int .i64 m.height)∧W.cell? ⟨mb,4,none⟩=some (.int .i64 m.round)∧W.cell? ⟨mb,6,none⟩=some (.string m.dig))) (by kernel_rfl) (KP.out _ HMR.out) (λhHeld=>?_);refine hyw (i:=0) (by assumption) ?_;try simp only [Act.put,zz]
  refine hyw (i:=1) (by assumption) ?_;try simp only [Act.put,zz]
  refine hyw (i:=2) (by assumption) ?_;try simp only [Act.put,zz]
  refine hyw (i:=3) (by assumption) ?_;try simp only [Act.put,zz]
  refine hyw (i:=5) (by assumption) ?_;try simp only [Act.put,zz]
  refine hyw (i:=6) (by assumption) ?_;try simp only [Act.put,zz]
  refine hyw (i:=7) (by assumption) ?_;try simp only [Act.put,zz]
  refine hyw (i:=8) (by assumption) ?_;try simp only [Act.put,zz]
  refine hyw (i:=9) (by assumption) ?_;try simp only [Act.put,zz]
  refine hyw (i:=10) (by assumption) ?_;try simp only [Act.put,zz]
  refine hyw (i:=11) (by assumption) ?_;try simp only [Act.put,zz]
  refine hyw (i:=12) (by assumption) ?_;try simp only [Act.put,zz]
  refine hyw (i:=13) (by assumption) ?_;try simp only [Act.put,zz]
  refine hyw (i:=14) (by assumption) ?_;try simp only [Act.put,zz]
  refine hyw (i:=15) (by assumption) ?_;try simp only [Act.put,zz]
  refine wpAnyH_ready (rs:=[4,16]) (by kernel_rfl) (by simp) ?_;refine AllReadyH.cons (o:=_) rfl (λK hK=>?_) (AllReadyH.cons (o:=_) rfl (λK hK=>?_) AllReadyH.nil)
  ·go_simp;clear hHeld;go_wp2_with fail
   refine hK.out _ _ (KP.out _ HMR.out) (λhHeld=>?_);clear hK K;try simp only [Act.put,zz]
   refine wpAnyH_ready (rs:=[16]) (by kernel_rfl) (by simp) ?_;refine AllReadyH.cons (o:=_) rfl (λK hK=>?_) AllReadyH.nil;go_simp;clear hHeld;go_wp2_with fail
   refine hK.out _ _ (by rw [<-hwz];exact KP.out _ HMZ.out) (λhHeld=>?_);clear hK K;try simp only [Act.put,zz]
   refine wpAnyH_ready (rs:=[17]) (by kernel_rfl) (by simp) ?_;refine AllReadyH.cons (o:=_) rfl (λK hK=>?_) AllReadyH.nil;clear hHeld;refine Z2d (by rfl) (.tmp 82) (.tmp 94) 48 (by rfl) 0 132 ti zC 5 48 Tryz.underlying48 hi hz0 hz1 hz2 (by rfl) (by decide) (.slice cao nl ccap) nl XS ?_ ?_ ⟨wr.heap.size,0,none⟩ 1 1 (Z60 (Z4t m)) ?_ (by rfl) ?_ (by intro u hu;simp [Z60,Z4t,iv] at hu;rcases hu with rfl | rfl | rfl | rfl | rfl <;> rfl) ?_ ?_ ?_ ?_;(simp [Act.eval,Act.put]);(rw [<-hwz];with_reducible exact HOD);(simp [Act.eval,Act.put]);(rw [<-hwz];with_reducible exact NEW);(unfold maxLen;omega);omega;omega;rw [<-hwz];intro v2 w7 own2 gr2 hn2;obtain ⟨hfin,⟨g2,cp2,rfl⟩,hx7,hf7,hm7⟩:=FIN.out v2 w7 own2 gr2 hn2;have HF:=Hd hfin;clear hfin own2 gr2 hn2
   refine hK.out _ _ (KP.out _ hm7) (λhHeld=>?_);clear hK K;try simp only [Act.put,zz]
   refine hyw (i:=18) (by assumption) ?_;try simp only [Act.put,zz]
   refine hyw (i:=19) (by assumption) ?_;try simp only [Act.put,zz]
   refine wpAnyH_ready (rs:=[20]) (by kernel_rfl) (by simp) ?_;refine AllReadyH.cons (o:=_) rfl (λK hK=>?_) AllReadyH.nil;go_simp;clear hHeld;go_wp2_with fail
   refine hK.out _ _ (KP.out _ ((Below.heap_setCell _ ⟨nb,7,none⟩ _ mb (λe=>HNE.out e.symm)).trans hm7)) (λhHeld=>?_);clear hK K;try simp only [Act.put,zz]
   refine wpAnyH_done (by kernel_rfl) ?_ _;go_wp2
   refine bodyPost_end (results_none rfl _ _ _) rfl ?_;rw [HR.out];exact ⟨rfl,HF.out⟩
  go_simp;clear hHeld;go_wp2_with fail
  refine hK.out _ _ (by rw [<-hwz];exact KP.out _ HMZ.out) (λhHeld=>?_);clear hK K;try simp only [Act.put,zz]
  refine wpAnyH_ready (rs:=[4]) (by kernel_rfl) (by simp) ?_;refine AllReadyH.cons (o:=_) rfl (λK hK=>?_) AllReadyH.nil;go_simp;clear hHeld;go_wp2_with fail
  refine hK.out _ _ (by rw [<-hwz];exact KP.out _ HMZ.out) (λhHeld=>?_);clear hK K;try simp only [Act.put,zz]
  refine wpAnyH_ready (rs:=[17]) (by kernel_rfl) (by simp) ?_;refine AllReadyH.cons (o:=_) rfl (λK hK=>?_) AllReadyH.nil;clear hHeld;refine Z2d (by rfl) (.tmp 82) (.tmp 94) 48 (by rfl) 0 132 ti zC 5 48 Tryz.underlying48 hi hz0 hz1 hz2 (by rfl) (by decide) (.slice cao nl ccap) nl XS ?_ ?_ ⟨wr.heap.size,0,none⟩ 1 1 (Z60 (Z4t m)) ?_ (by rfl) ?_ (by intro u hu;simp [Z60,Z4t,iv] at hu;rcases hu with rfl | rfl | rfl | rfl | rfl <;> rfl) ?_ ?_ ?_ ?_;(simp [Act.eval,Act.put]);(rw [<-hwz];with_reducible exact HOD);(simp [Act.eval,Act.put]);(rw [<-hwz];with_reducible exact NEW);(unfold maxLen;omega);omega;omega;rw [<-hwz];intro v2 w7 own2 gr2 hn2;obtain ⟨hfin,⟨g2,cp2,rfl⟩,hx7,hf7,hm7⟩:=FIN.out v2 w7 own2 gr2 hn2;have HF:=Hd hfin;clear hfin own2 gr2 hn2
  refine hK.out _ _ (KP.out _ hm7) (λhHeld=>?_);clear hK K;try simp only [Act.put,zz]
  refine hyw (i:=18) (by assumption) ?_;try simp only [Act.put,zz]
  refine hyw (i:=19) (by assumption) ?_;try simp only [Act.put,zz]
  refine wpAnyH_ready (rs:=[20]) (by kernel_rfl) (by simp) ?_;refine AllReadyH.cons (o:=_) rfl (λK hK=>?_) AllReadyH.nil;go_simp;clear hHeld;go_wp2_with fail
  refine hK.out _ _ (KP.out _ ((Below.heap_setCell _ ⟨nb,7,none⟩ _ mb (λe=>HNE.out e.symm)).trans hm7)) (λhHeld=>?_);clear hK K;try simp only [Act.put,zz]
  refine wpAnyH_done (by kernel_rfl) ?_ _;go_wp2
  refine bodyPost_end (results_none rfl _ _ _) rfl ?_;rw [HR.out];exact ⟨rfl,HF.out⟩
end
end
def GB (d:ByteArray) (l:List ByteArray):Prop:=∃j,j<4∧l=fam j∧d=Z0z (fam j)
theorem GB.law:Zin GB:=⟨λd l l' ⟨i,hi,e1,e2⟩ ⟨j,hj,e3,e4⟩=>by
 have:=Z9m (show i<10 by omega) (show j<10 by omega) (e2.symm.trans e4);rw [e1,e3,this],λd l ⟨i,hi,e1,_⟩=>by rw [e1];exact Z2x⟩
theorem GB.gf:Zhz GB:=⟨GB.law,λd l ⟨i,hi,e1,e2⟩=>by rw [e1,e2];exact ⟨Z3z (by omega),rfl⟩⟩
theorem GB.fam {j:Nat} (h:j<4):GB (Z0z (fam j)) (fam j):=⟨j,h,rfl,rfl⟩
def AB (d:ByteArray):Prop:=∃j,j<3∧d=Z0z (fam j)
structure Z0g where
 n:Nat
 last:Int
 now:Int
 ss:List StB
 q:List (Z0k×Int)
 fates:List Int
 cs:List Z7f
 br:Bool
def Z0g.send (w:Z0g) (m:Z0k):Z0g:=
 if w.fates.headD 0=1 then {w with fates:=w.fates.drop 1 ++ w.fates.take 1}
 else {w with fates:=w.fates.drop 1 ++ w.fates.take 1,q:=w.q ++ (m,w.now+1+(if 3<=w.fates.headD 0∧w.fates.headD 0<=12 then 3 * (w.fates.headD 0 - 2) else 0)) :: (if w.fates.headD 0=2 then [(m,w.now+3)] else [])}
def Z0g.decided (w:Z0g) (h:Int):Bool:=w.ss.any λs=>s.isDec h
def Z0g.note (w:Z0g) (m:Z0k):Z0g:={w with cs:=(Z5z (w.decided m.height) w.br w.cs m).2,br:=(Z5z (w.decided m.height) w.br w.cs m).1}
def Z2n (s:StB):List (List ByteArray)->StB
 | []=>s
 | l :: ls=>Z2n (if l=fam 3 then s else s.accept (Z0z l)) ls
def Z40 (i:Nat) (h:Int):List ByteArray:=fam (((i:Int)+h) % 3).toNat
def Zbe (last:Int) (i:Nat) (s:StB):StB:=
 if s.isDec s.height=true∧s.height<last then (s.begin (s.height+1) (Z1f (Z40 i (s.height+1))) (Z0z (Z40 i (s.height+1))) (Z40 i (s.height+1))).1 else s
def Z0g.put (dec:Bool) (h:Int) (i:Nat) (w:Z0g) (m:Z0k):Z0g:=
 let w1:=if dec=false∧m.height=h∧m.to=1 - min (i:Int) 1 then w.note m else w
 if 0<=m.to∧m.to<(w.ss.length:Int) then w1.send m else w1
def Z0g.set (w:Z0g) (i:Nat) (s:StB):Z0g:={w with ss:=w.ss.set i s}
def Z1s (last:Int) (i:Nat) (s:StB):StB:=Zbe last i (Z2n s s.asked)
def Z0g.tickS (w:Z0g) (i:Nat) (s:StB):Z0g:=
 (Z1s w.last i s).tick.2.foldl (Z0g.put ((Z1s w.last i s).isDec (Z1s w.last i s).height) (Z1s w.last i s).tick.1.height i) (w.set i (Z1s w.last i s).tick.1)
def Z0g.tick (w:Z0g) (i:Nat):Z0g:=
 match w.ss[i]? with
 | none=>w
 | some s=>w.tickS i s
def Z9v (ss:List StB) (m:Z0k):List StB:=
 match ss[m.to.toNat]? with
 | some s=>ss.set m.to.toNat (s.receive m (Z04 m))
 | none=>ss
def Z0g.due (w:Z0g) (p:Z0k×Int):Bool:=decide (p.2<=w.now)
def Z0g.deliver (w:Z0g):Z0g:={w with ss:=(w.q.filter w.due).foldl (λss p=>Z9v ss p.1) w.ss,q:=w.q.filter λp=>!w.due p}
def Z0g.ticks (w:Z0g):Nat->Z0g
 | 0=>w
 | k+1=>(w.ticks k).tick k
def Z0g.all (w:Z0g):Z0g:=let w1:={w with now:=w.now+1}.deliver;w1.ticks w1.ss.length
def Z20 (s:StB):List ByteArray:=match s.lock with | some v=>v.list | none=>[]
def Z4e (old x:StB) (k:Int):StB:=match Z02 k old.decs with | some v=>(x.learn k (Z1f v.list) (Z0z v.list) v.list).1 | none=>x
def Z3e (old x:StB):Nat->StB
 | 0=>x
 | k+1=>Z4e old (Z3e old x k) (k:Int)
def Zcv (d:ByteArray):Bool:=d.size == 32
def Z12 (x:StB) (height round locked:Int) (l:List ByteArray) (keys:List (Int×ByteArray)):StB×Bool:=
 x.resume height round locked (Z1f l) (Z0z l) l l.isEmpty keys (Z0t round Zcv (-1) keys)
def Z24 (n i:Nat) (old:StB):StB:=Z3e old (Z42 (i:Int) (n:Int)) (old.height+1).toNat
def Z2s (n i:Nat) (old:StB):Option StB:=
 if old.isDec old.height=true then some (Z12 (Z24 n i old) (old.height+1) 0 (-1) [] []).1
 else if old.round<4 then some ((Z12 (Z24 n i old) old.height (old.round+1) (Z1w old) (Z20 old) old.keys).1.begin old.height (Z1f (Z40 i old.height)) (Z0z (Z40 i old.height)) (Z40 i old.height)).1
 else none
def Z0g.restart (w:Z0g) (i:Nat):Z0g:=
 match w.ss[i]? with
 | none=>w
 | some old=>match Z2s w.n i old with
  | none=>w
  | some x=>w.set i x
section
variable (H F N:Nat)
def sgm (ss:List StB):Nat->StB:=λi=>(ss[i]?).getD (Z42 0 1)
structure Zrs (V:Zez ByteArray) (E:Zf0 ByteArray) (m:Z0k):Prop where
 src:Src H N V E m
 t0:0<=m.to
 t1:m.to<(H:Int)
 len:m.list.length<=60
 g:Z04 m=true->m.kind=3->GB m.dig m.list
structure Z4v (s:StB):Prop where
 fit:Fit GB s
 dz:∀k v,Z02 k s.decs=some v->0<=k
 kr:∀m∈s.mine,m.kind=6->m.round<=s.round
structure AgN (V:Zez ByteArray) (E:Zf0 ByteArray) (w:Z0g):Prop where
 n:w.n=N
 len:w.ss.length=H
 agr:Agr H F AB V E (sgm w.ss) N
 node:∀s∈w.ss,Z4v s
 q:∀p∈w.q,Zrs H N V E p.1
 cs:∀c∈w.cs,∃i:Nat,i<H∧c.frm=(i:Int)∧V i c.kind c.height c.round c.dig
 br:w.br=false
variable {H F N}
variable {V V':Zez ByteArray} {E E':Zf0 ByteArray} {w:Z0g}
theorem Z2z {ss:List StB} {i:Nat} {s:StB} (h:ss[i]?=some s):sgm ss i=s:=by unfold sgm;rw [h];rfl
theorem Zrg {ss:List StB} {i:Nat} {s:StB} (h:i<ss.length):sgm (ss.set i s)=upd (sgm ss) i s:=by
 funext j
 unfold upd sgm;split
 ·rename_i e;subst e;rw [List.getElem?_set_self h];rfl
 rename_i e;rw [List.getElem?_set_ne (λq=>e q.symm)]
theorem Zrs.mono {m:Z0k} (h:Zrs H N V E m) (hV:∀i k h r d,V i k h r d->V' i k h r d) (hE:∀i h d,E i h d->E' i h d):Zrs H N V' E' m:=⟨h.src.mono hV hE,h.t0,h.t1,h.len,h.g⟩
theorem AgN.send (a:AgN H F N V E w) {m:Z0k} (hm:Zrs H N V E m):AgN H F N V E (w.send m):=by
 unfold Z0g.send;split
 ·exact ⟨a.n,a.len,a.agr,a.node,a.q,a.cs,a.br⟩
 refine ⟨a.n,a.len,a.agr,a.node,λp hp=>?_,a.cs,a.br⟩;have hp:p∈w.q ++ (m,_) :: (if w.fates.headD 0=2 then [(m,w.now+3)] else []):=hp;rcases List.mem_append.1 hp with hp | hp
 ·exact a.q p hp
 rcases List.mem_cons.1 hp with rfl | hp
 ·exact hm
 split at hp
 ·obtain rfl:p=(m,w.now+3):=by simpa using hp
  exact hm
 cases hp
theorem Zf3 {over:Bool} {m:Z0k}:∀cs:List Z7f,(∀c∈cs,c.kind=m.kind->c.height=m.height->c.round=m.round->c.frm=m.frm∨(m.kind=6∧over=false)->c.dig=m.dig)->(Z4d over m false cs).1=false
 | [],_=>rfl
 | c :: cs,h=>by
  have ih:=Zf3 cs (λx hx=>h x (List.mem_cons_of_mem _ hx));unfold Z4d;split
  ·exact ih
  rename_i q
  simp only [not_or,Decidable.not_not] at q;have hd:=h c (List.mem_cons_self ..) q.1 q.2.1 q.2.2;have e:(false || (decide (c.dig≠m.dig) && (decide (c.frm=m.frm) || (decide (m.kind=6) && !over))))=false:=by
   by_cases e:c.dig=m.dig
   ·simp [e]
   have h1:¬c.frm=m.frm:=λq=>e (hd (.inl q));have h2:¬(m.kind=6∧over=false):=λq=>e (hd (.inr q));rcases over with _ | _
   ·have:¬m.kind=6:=λq=>h2 ⟨q,rfl⟩;simp [h1,this]
   simp [h1]
  rw [e];split
  ·rfl
  exact ih
theorem AgN.dec (a:AgN H F N V E w) {h:Int} (hd:w.decided h=false):∀j,j<H->∀d,¬E j h d:=by
 intro j hj d he;obtain ⟨s,hs⟩:∃s,w.ss[j]?=some s:=⟨_,List.getElem?_eq_getElem (by rw [a.len];exact hj)⟩;obtain ⟨v,hv,_⟩:=(a.agr.loc j hj).ced h d he;rw [Z2z hs] at hv;have:=List.any_eq_false.1 hd s (List.mem_of_getElem? hs);unfold NS.isDec at this;rw [hv] at this;exact this rfl
theorem AgN.note (a:AgN H F N V E w) (h3:2 * F<H) {m:Z0k} {i:Nat} (hi:i<H) (hf:m.frm=(i:Int)) (hk:m.kind≠3) (hv:V i m.kind m.height m.round m.dig):AgN H F N V E (w.note m):=by
 have hb:(Z5z (w.decided m.height) w.br w.cs m).1=false:=by
  unfold Z5z;rw [if_neg hk,a.br];refine Zf3 w.cs (λc hc k1 k2 k3 q=>?_);obtain ⟨j,hj,e,hvj⟩:=a.cs c hc;rw [k1,k2,k3] at hvj;rcases q with q | ⟨q1,q2⟩
  ·obtain rfl:j=i:=by omega
   exact a.agr.one _ _ _ _ _ _ hvj hv
  rw [q1] at hvj hv;exact a.agr.key_one h3 (a.dec q2) hvj hv
 refine ⟨a.n,a.len,a.agr,a.node,a.q,λc hc=>?_,hb⟩;have hc:c∈(Z5z (w.decided m.height) w.br w.cs m).2:=hc;unfold Z5z at hc;rw [if_neg hk] at hc;simp only at hc;split at hc
 ·rcases List.mem_append.1 hc with hc | hc
  ·exact a.cs c hc
  obtain rfl:c=Z4t m:=by simpa using hc
  exact ⟨i,hi,hf,hv⟩
 exact a.cs c hc
theorem Z0g.put_ss (dec:Bool) (h:Int) (i:Nat) (w:Z0g) (m:Z0k):(w.put dec h i m).ss=w.ss∧(w.put dec h i m).n=w.n∧(w.put dec h i m).last=w.last∧(w.put dec h i m).now=w.now:=by
 unfold Z0g.put Z0g.send Z0g.note;simp only;refine ⟨?_,?_,?_,?_⟩ <;> (repeat' split) <;> rfl
theorem AgN.puts (h3:2 * F<H) {dec:Bool} {h:Int} {i:Nat} (hi:i<H):∀(ms:List Z0k) {w:Z0g},AgN H F N V E w->(∀m∈ms,Src H N V E m∧m.list.length<=60∧(Z04 m=true->m.kind=3->GB m.dig m.list)) ->
  (dec=false->∀m∈ms,m.height=h->m.kind≠3->m.frm=(i:Int)∧V i m.kind m.height m.round m.dig)->AgN H F N V E (ms.foldl (Z0g.put dec h i) w)
 | [],w,a,_,_=>a
 | m :: ms,w,a,hs,hd=>by
  rw [List.foldl_cons];refine AgN.puts h3 hi ms ?_ (λx hx=>hs x (List.mem_cons_of_mem _ hx)) (λq x hx=>hd q x (List.mem_cons_of_mem _ hx));obtain ⟨s1,s2,s4⟩:=hs m (List.mem_cons_self ..);have a1:AgN H F N V E (if dec=false∧m.height=h∧m.to=1 - min (i:Int) 1 then w.note m else w):=by
   split
   ·rename_i q
    by_cases hk:m.kind=3
    ·have e:w.note m=w:=by
      unfold Z0g.note Z5z;rw [if_pos hk]
     rw [e];exact a
    obtain ⟨q1,q2⟩:=hd q.1 m (List.mem_cons_self ..) q.2.1 hk;exact a.note h3 hi q1 hk q2
   exact a
  unfold Z0g.put;simp only;split
  ·rename_i q
   rw [a.len] at q;exact a1.send ⟨s1,q.1,q.2,s2,s4⟩
  exact a1
end
end Go.Proofs.YtifcdjmcoibblaaGreatDoor
