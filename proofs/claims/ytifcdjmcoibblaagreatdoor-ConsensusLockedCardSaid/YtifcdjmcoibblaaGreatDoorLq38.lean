/- Nte -/
import Derived.Test.YtifcdjmcoibblaaGreatDoorLq37
import Derived.Deep.RegionLaw
import Derived.Test.YtifcdjmcoibblaaGreatDoorLq01
set_option linter.unusedVariables false
set_option linter.unusedSimpArgs false
set_option linter.unusedSectionVars false
set_option maxRecDepth 100000
set_option maxHeartbeats 80000000
namespace Go.Proofs.YtifcdjmcoibblaaGreatDoor
section
open Go.RowKit
abbrev CastB:=Cast ByteArray
def encK2 (c:CastB):List Value:=[iv c.frm,iv c.kind,iv c.height,iv c.round,.string c.dig]
def zC:Value:=.agg #[iv 0,iv 0,iv 0,iv 0,.string (ByteArray.mk #[])]
theorem Tryz.infoCast:(Tryz.prog.info? 132).map (fun i=>(i.zero,i.size,i.bytes))=some (some zC,5,48):=by kernel_rfl
def CastsAt (W:World) (v:Value) (cs:List CastB):Prop:=W.ownsRow 0 132 5 v cs.length (cs.flatMap encK2)
theorem CastsAt.nil (W:World):CastsAt W (.slice none 0 0) []:=World.ownsRow_nil _ _ _ _
theorem casts_len:∀cs:List CastB,(cs.flatMap encK2).length=cs.length * 5
 | []=>rfl
 | c :: cs=>by rw [List.flatMap_cons,List.length_append,casts_len cs,List.length_cons];simp [encK2];omega
theorem casts_get:∀(cs:List CastB) (j:Nat) (c:CastB),cs[j]?=some c→∀(k:Nat) (u:Value),(encK2 c)[k]?=some u→(cs.flatMap encK2)[j * 5+k]?=some u
 | [],j,c,h,_,_,_=>by cases h
 | a :: cs,0,c,h,k,u,hu=>by
  have e:a=c:=by simpa using h
  subst e;rw [List.flatMap_cons,Nat.zero_mul,Nat.zero_add,List.getElem?_append_left (List.getElem?_eq_some_iff.1 hu).1];exact hu
 | a :: cs,j+1,c,h,k,u,hu=>by
  rw [List.flatMap_cons,List.getElem?_append_right (by simp [encK2];omega)];have e:(j+1) * 5+k - (encK2 a).length=j * 5+k:=by simp [encK2];omega
  rw [e];exact casts_get cs j c (by simpa using h) k u hu
theorem CastsAt.slice {W:World} {v:Value} {cs:List CastB} (h:CastsAt W v cs):∃ao cap,v = .slice ao cs.length cap:=by
 rcases h.2 with ⟨e,h0⟩ | ⟨g,c,_,e,_⟩
 ·exact ⟨none,0,by rw [e,h0]⟩
 exact ⟨_,_,e⟩
theorem CastsAt.cells {W:World} {ao:Option Addr} {n cap:Nat} {cs:List CastB} (h:CastsAt W (.slice ao n cap) cs) {j:Nat} {c:CastB} (hj:cs[j]?=some c):∃g,ao=some ⟨g,0,none⟩∧(∃cur,W.heap[g]?=some (.cells cur 132 (0,0)))∧∀(k:Nat) (u:Value),(encK2 c)[k]?=some u→W.cell? ⟨g,j * 5+k,none⟩=some u:=by
 have hl:=(List.getElem?_eq_some_iff.1 hj).1;rcases h.2 with ⟨e,h0⟩ | ⟨g,c2,cur,e,hb,hg,_,_,_,ht⟩
 ·omega
 injection e with e1 e2 e3
 refine ⟨g,e1,⟨cur,hg⟩,fun k u hu=>?_⟩;have h2:=casts_get cs j c hj k u hu;rw [←ht] at h2;have hk:=(List.getElem?_eq_some_iff.1 hu).1;have hk5:k<5:=by simpa [encK2] using hk
 rw [List.getElem?_take_of_lt (by omega),Array.getElem?_toList] at h2;rw [cell_of_row W g _ cur _ _ hg];exact h2
theorem CastsAt.kept {W W':World} {v:Value} {cs:List CastB} (h:CastsAt W v cs) (hk:∀g cur,W.heap[g]?=some (.cells cur 132 (0,0))→v.ownBlock=some g→W'.heap[g]?=W.heap[g]?):CastsAt W' v cs:=
 owns_blk h (fun g cur hg hc=>hk g cur hc hg)
def netRow (n li la nw:Int) (nv qv fv cv:Value) (br:Bool):Array Value:=#[iv n,iv li,nv,iv la,iv nw,qv,fv,cv,.bool br]
theorem decided_none {W:World} {nb:Nat} {n li la nw:Int} {qv fv cv:Value} {br:Bool} (hn:W.heap[nb]?=some (.cells (netRow n li la nw (.slice none 0 0) qv fv cv br) 50 (0,0))) (h:Int) :
  Calls Tryz.prog 80 #[pv nb,.int .i64 h] W fun e w'=>e = .returned (.bool false)∧Below W.heap.size W w':=by
 have c2:=cell_of_row W nb 2 _ _ _ hn;simp [netRow] at c2;unfold pv;go_enter Tryz.func80,Tryz.ntmps80
 go_wp2_with fail
 go_loopw [5] (fun i wr=>i = .int .i64 0∧wr=W) (fun _ _=>0)
 case atStart=>exact ⟨rfl,rfl⟩
 case round=>
  obtain ⟨rfl,rfl⟩:=hrel;go_wp2
  go_ret;exact ⟨rfl,Below.refl _ _⟩
section
variable {W:World} {nb:Nat} {n li la nw:Int} {nv qv fv cv:Value} {br over:Bool} {cs:List CastB} {m:MsgB} {ao:Option Addr} {cap:Nat}
structure Noted (W:World) (nb:Nat) (n li la nw:Int) (nv qv fv cv:Value) (r:Bool×List CastB) (w':World):Prop where
 row:∃cv',w'.heap[nb]?=some (.cells (netRow n li la nw nv qv fv cv' r.1) 50 (0,0))∧CastsAt w' cv' r.2∧∀g,cv'.ownBlock=some g→cv.ownBlock=some g∨W.heap.size≤g
 chg:Chg (fun k=>k=nb∨cv.ownBlock=some k) W w'
theorem note_any (hn:W.heap[nb]?=some (.cells (netRow n li la nw nv qv fv cv br) 50 (0,0))) (hc:CastsAt W cv cs) (hl:cs.length≤1000000000)
  (DC:∀W',Below W.heap.size W W'→Calls Tryz.prog 80 #[pv nb,.int .i64 m.height] W' fun e w'=>e = .returned (.bool over)∧Below W'.heap.size W' w') :
  Calls Tryz.prog 28 #[pv nb,.agg (encM m (.slice ao m.list.length cap))] W fun e w'=>e = .returned (.tuple #[])∧Noted W nb n li la nw nv qv fv cv (noteC over br cs m) w':=by
 obtain ⟨mb,hmb⟩:∃mb,mb=W.heap.size:=⟨_,rfl⟩;have HMB:=Hd hmb;have HN:=Hd hn;have HC:=Hd hc;have HDC:=Hd DC;have HML:=Hd hl;obtain ⟨cao,ccap,rfl⟩:=hc.slice;obtain ⟨nl,hnl⟩:∃nl,nl=cs.length:=⟨_,rfl⟩;have HNL:=Hd hnl;have l0:(0:Int)≤(nl:Int):=by omega
 have l1:(nl:Int)≤1000000000:=by rw [←hnl] at hl;omega
 rw [←hnl] at HN HC ⊢;clear hn hc DC hmb hl hnl;have HB1:=Hd ((Below.refl _ W).alloc (Nat.le_refl _) (.cells (encM m (.slice ao m.list.length cap)) 36));have HR1:=Hd (World.alloc_heap_new W (.cells (encM m (.slice ao m.list.length cap)) 36));unfold encM iv pv at *;go_enter Tryz.func28,Tryz.ntmps28
 go_upto_region 1 with (fail)
 obtain ⟨w1,hw1⟩:∃w1,w1=W.alloc (.cells #[.int .i64 m.kind,.int .i64 m.frm,.int .i64 m.to,.int .i64 m.height,.int .i64 m.round,.int .i64 m.valid,.string m.dig,.slice ao m.list.length cap] 36):=⟨_,rfl⟩;rw [←HMB.out] at HR1 ⊢;rw [←hw1] at HB1 HR1 ⊢;clear hw1;obtain ⟨c0,c1,c2,c3,c4,c5,c6,c7,fz⟩:=MRow.of HR1.out;by_cases h3:m.kind=3
 ·have e3:(m.kind == 3)=true:=by simpa using h3
  have HE:=Hd (show noteC over br cs m=(br,cs) from by unfold noteC;rw [if_pos h3]);clear h3;go_wp2
  refine bodyPost_ret (results_none rfl _ _ _) rfl ?_;rw [HE.out];exact ⟨rfl,⟨_,(HB1.out.block nb (gE HN.out).1).trans HN.out,HC.out.kept (fun g cur hg _=>HB1.out.block g (gE hg).1),fun g hg=>.inl hg⟩,Chg.of_below HB1.out (fun k q1 q2=>absurd q2 (by omega))⟩
 have e3:(m.kind == 3)=false:=by simpa using h3
 have HK3:=Hd h3;have D1:=Hd (HDC.out w1 HB1.out);clear h3;go_upto_region 3 with (go_at_call 80;(with_reducible refine D1.out.mono ?_);rintro e w2 ⟨rfl,hb2⟩;have HB2:=Hd hb2;clear hb2)
 have HR2:=Hd ((HB2.out.block mb (gE HR1.out).1).trans HR1.out);have HBW:=Hd (HB1.out.trans (HB2.out.mono HB1.out.size));have HN2:=Hd ((HBW.out.block nb (gE HN.out).1).trans HN.out);have HC2:=Hd (HC.out.kept (W':=w2) (fun g cur hg _=>HBW.out.block g (gE hg).1));have HMW:=Hd (show mb<w2.heap.size from (gE HR2.out).1);have HNE:=Hd (show nb≠mb from fun e=>by
  have:=(gE HN.out).1;rw [e,HMB.out] at this;omega)
 clear c0 c1 c2 c3 c4 c5 c6 c7 fz D1 HR1 HB1;go_wp2_with fail
 go_loopw [5] (fun i wr=>∃(j:Nat) (b:Bool),j≤nl∧i = .int .i64 (j:Int)∧wr.heap[nb]?=some (.cells (netRow n li la nw nv qv fv (.slice cao nl ccap) b) 50 (0,0))∧Chg (fun k=>k=nb) w2 wr∧noteGo over m br cs=noteGo over m b (cs.drop j)) (fun i _=>nl - (intOf i).toNat)
 case atStart=>exact ⟨0,br,Nat.zero_le _,rfl,HN2.out,Chg.refl _ _,rfl⟩
 case round=>
  obtain ⟨j,b,hj,rfl,hnr,hch,hgo⟩:=hrel;have HNR:=Hd hnr;have HCH:=Hd hch;have HGO:=Hd hgo;have j0:(0:Int)≤(j:Int):=by omega
  have n7:=cell_of_row wr nb 7 _ _ _ hnr;simp [netRow] at n7;have HMR:=Hd ((hch.block mb HMW.out (fun e=>HNE.out e.symm)).trans HR2.out);have HCR:=Hd (HC2.out.kept (W':=wr) (fun g cur hg _=>hch.block g (gE hg).1 (fun e=>by
   rw [e,HN2.out] at hg;injection hg with hg
   injection hg with _ hg _
   exact absurd hg (by decide))))
  clear hnr hch hgo;by_cases hjn:j<nl
  ·have j1:(j:Int)<(nl:Int):=by omega
   obtain ⟨c,hcj⟩:∃c,cs[j]?=some c:=⟨cs[j]'(by rw [←HNL.out];exact hjn),List.getElem?_eq_getElem _⟩;have HDR:=Hd (show cs.drop j=c :: cs.drop (j+1) from by
    obtain ⟨h1,h2⟩:=List.getElem?_eq_some_iff.1 hcj;rw [List.drop_eq_getElem_cons h1,h2])
   obtain ⟨g,rfl,⟨cur,hgc⟩,hce⟩:=HCR.out.cells hcj;have k0:=hce 0 _ rfl;have k1:=hce 1 _ rfl;have k2:=hce 2 _ rfl;have k3:=hce 3 _ rfl;have k4:=hce 4 _ rfl;simp only [Nat.add_zero] at k0;unfold iv at k0 k1 k2 k3;clear hcj hgc hce;obtain ⟨t7,ht7⟩:∃t7,t7=decide (c.kind≠m.kind∨c.height≠m.height∨c.round≠m.round):=⟨_,rfl⟩;obtain ⟨t8,ht8⟩:∃t8,t8=(decide (c.dig≠m.dig) && (decide (c.frm=m.frm) || (decide (m.kind=6) && !over))):=⟨_,rfl⟩;have HT7:=Hd ht7;have HT8:=Hd ht8;have HMRL:=Hd (gE HMR.out).1;have HNL2:=Hd (gE HNR.out).1;clear ht7 ht8;go_upto_region 7 with (fail)
   obtain ⟨wa,hwa⟩:∃wa,wa=wr.alloc (.cells #[.int .i64 c.frm,.int .i64 c.kind,.int .i64 c.height,.int .i64 c.round,.string c.dig] 132):=⟨_,rfl⟩;obtain ⟨cb,hcb⟩:∃cb,cb=wr.heap.size:=⟨_,rfl⟩;have HBA:=Hd (show Below wr.heap.size wr wa from by rw [hwa];exact (Below.refl _ _).alloc (Nat.le_refl _) _);have HCB:=Hd (show wa.heap[cb]?=some (.cells #[.int .i64 c.frm,.int .i64 c.kind,.int .i64 c.height,.int .i64 c.round,.string c.dig] 132 (0,0)) from by rw [hwa,hcb];exact World.alloc_heap_new wr _);have HCBE:=Hd hcb;rw [←hcb,←hwa];clear hwa hcb k0 k1 k2 k3 k4 n7;have HNA:=Hd ((HBA.out.block nb HNL2.out).trans HNR.out);have HMA:=Hd ((HBA.out.block mb HMRL.out).trans HMR.out);have HCA:=Hd (HCH.out.trans ((Chg.of_below (C:=fun k=>k=nb) HBA.out (fun k h1 h2=>absurd h1 (by omega))).mono (fun k _ h=>.inl h)));have k0:=cell_of_row wa cb 0 _ _ _ HCB.out;have k1:=cell_of_row wa cb 1 _ _ _ HCB.out;have k2:=cell_of_row wa cb 2 _ _ _ HCB.out;have k3:=cell_of_row wa cb 3 _ _ _ HCB.out;have k4:=cell_of_row wa cb 4 _ _ _ HCB.out;simp at k0 k1 k2 k3 k4;obtain ⟨c0,c1,c2,c3,c4,c5,c6,c7,fz⟩:=MRow.of HMA.out;go_cut [48] (fun t wc=>t = .bool t7∧wc=wa)
   case first=>
    by_cases z1:c.kind=m.kind
    ·have y1:(c.kind != m.kind)=false:=by simpa using z1
     by_cases z2:c.height=m.height
     ·have y2:(c.height != m.height)=false:=by simpa using z2
      by_cases z3:c.round=m.round
      ·have y3:(c.round != m.round)=false:=by simpa using z3
       have HE:=Hd (show t7=false from by rw [HT7.out];exact decide_eq_false (by simp [z1,z2,z3]));clear z1 z2 z3;go_wp2_with fail
       go_meet;exact ⟨by rw [HE.out],rfl⟩
      have y3:(c.round != m.round)=true:=by simpa using z3
      have HE:=Hd (show t7=true from by rw [HT7.out];exact decide_eq_true (.inr (.inr z3)));clear z1 z2 z3;go_wp2_with fail
      go_meet;exact ⟨by rw [HE.out],rfl⟩
     have y2:(c.height != m.height)=true:=by simpa using z2
     have HE:=Hd (show t7=true from by rw [HT7.out];exact decide_eq_true (.inr (.inl z2)));clear z1 z2;go_wp2_with fail
     go_meet;exact ⟨by rw [HE.out],rfl⟩
    have y1:(c.kind != m.kind)=true:=by simpa using z1
    have HE:=Hd (show t7=true from by rw [HT7.out];exact decide_eq_true (.inl z1));clear z1;go_wp2_with fail
    go_meet;exact ⟨by rw [HE.out],rfl⟩
   case rest=>
   obtain ⟨rfl,hw⟩:=hcut;rw [hw];clear hw;rcases t7 with _ | _
   ·skip
    go_upto_region 8 with (fail)
    go_cut [69] (fun t wc=>t = .bool t8∧wc=wa)
    case first=>
     by_cases z1:c.dig=m.dig
     ·have y1:(c.dig.toList == m.dig.toList)=true:=by rw [z1];exact beq_self_eq_true _
      have HE:=Hd (show t8=false from by rw [HT8.out,decide_eq_false (by simp [z1])];rfl);clear z1;go_wp2_with fail
      go_meet;exact ⟨by rw [HE.out],rfl⟩
     have y1:(c.dig.toList == m.dig.toList)=false:=beq_ne z1;have HD:=Hd (decide_eq_true (p:=c.dig≠m.dig) z1);clear z1;by_cases z2:c.frm=m.frm
     ·have y2:(c.frm == m.frm)=true:=by simpa using z2
      have HE:=Hd (show t8=true from by rw [HT8.out,HD.out,decide_eq_true z2];rfl);clear z2;go_wp2_with fail
      go_meet;exact ⟨by rw [HE.out],rfl⟩
     have y2:(c.frm == m.frm)=false:=by simpa using z2
     have HF:=Hd (decide_eq_false z2);clear z2;by_cases z3:m.kind=6
     ·have y3:(m.kind == 6)=true:=by simpa using z3
      have HE:=Hd (show t8 = !over from by rw [HT8.out,HD.out,HF.out,decide_eq_true z3];rfl);clear z3;go_wp2_with fail
      go_meet;exact ⟨by rw [HE.out],rfl⟩
     have y3:(m.kind == 6)=false:=by simpa using z3
     have HE:=Hd (show t8=false from by rw [HT8.out,HD.out,HF.out,decide_eq_false z3];rfl);clear z3;go_wp2_with fail
     go_meet;exact ⟨by rw [HE.out],rfl⟩
    case rest=>
    obtain ⟨rfl,hw⟩:=hcut;rw [hw];clear hw;go_upto_if 69 with (fail)
    go_cut [] (fun wc=>wc.heap[nb]?=some (.cells (netRow n li la nw nv qv fv (.slice (some ⟨g,0,none⟩) nl ccap) (b || t8)) 50 (0,0))∧Chg (fun k=>k=nb) w2 wc∧wc.heap[mb]?=wa.heap[mb]?∧wc.heap[cb]?=wa.heap[cb]?)
    case first=>
     rcases t8 with _ | _
     ·go_wp2_with fail
      go_meet;rw [Bool.or_false];exact ⟨HNA.out,HCA.out,rfl,rfl⟩
     have n8:=cell_of_row wa nb 8 _ _ _ HNA.out;have nf:=fun o=>frozen_of_row wa nb o _ _ HNA.out;simp [netRow] at n8;go_wp2_with fail
     go_meet;rw [Bool.or_true];refine ⟨heap_setC HNA.out _,HCA.out.trans ((Chg.set (C:=fun k=>k=nb) wa nb 8 _ rfl).mono (fun _ _ h=>.inl h)),Below.heap_setCell _ ⟨nb,8,none⟩ _ mb (fun e=>HNE.out e.symm),Below.heap_setCell _ ⟨nb,8,none⟩ _ cb (fun e=>?_)⟩;have e:cb=nb:=e;have:=HNL2.out;rw [←e,HCBE.out] at this;exact absurd this (Nat.lt_irrefl _)
    case rest=>
    obtain ⟨hn3,hc3,hm3,hk3⟩:=hcut;obtain ⟨w3,rfl⟩:∃w3:World,w3=wc:=⟨_,rfl⟩;have HN3:=Hd hn3;have HC3:=Hd hc3;have HM3:=Hd (hm3.trans HMA.out);have HK3':=Hd (hk3.trans HCB.out);clear hn3 hc3 hm3 hk3 c0 c1 c2 c3 c4 c5 c6 c7 fz k0 k1 k2 k3 k4;have k0:=cell_of_row w3 cb 0 _ _ _ HK3'.out;simp at k0;have c1:=(MRow.of HM3.out).c1;have HG:=Hd (show noteGo over m b (cs.drop j)=if c.frm=m.frm then (b || t8,false) else noteGo over m (b || t8) (cs.drop (j+1)) from by
     rw [HDR.out];show (if c.kind≠m.kind∨c.height≠m.height∨c.round≠m.round then _ else _)=_;rw [if_neg (of_decide_eq_false HT7.out.symm),HT8.out])
    have HCR3:=Hd (HC2.out.kept (W':=w3) (fun g cur hg _=>HC3.out.block g (gE hg).1 (fun e=>by
     rw [e,HN2.out] at hg;injection hg with hg
     injection hg with _ hg _
     exact absurd hg (by decide))))
    by_cases z2:c.frm=m.frm
    ·have y2:(c.frm == m.frm)=true:=by simpa using z2
     have HR:=Hd (show noteC over br cs m=(b || t8,cs) from by
      unfold noteC;rw [if_neg HK3.out,HGO.out,HG.out,if_pos z2];rfl)
     clear z2;go_wp2
     refine bodyPost_ret (results_none rfl _ _ _) rfl ?_;rw [HR.out];exact ⟨rfl,⟨_,HN3.out,HCR3.out,fun g hg=>.inl hg⟩,(Chg.of_below (C:=fun k=>k=nb∨(Value.slice (some ⟨g,0,none⟩) nl ccap).ownBlock=some k) HBW.out (fun k q1 q2=>absurd q2 (by omega))).trans (HC3.out.mono (fun k _ h=>.inl (.inl h)))⟩
    have y2:(c.frm == m.frm)=false:=by simpa using z2
    have HR:=Hd (show noteGo over m br cs=noteGo over m (b || t8) (cs.drop (j+1)) from by rw [HGO.out,HG.out,if_neg z2]);clear z2;go_wp2_with fail
    go_roundw
    case rel=>exact ⟨j+1,b || t8,by omega,by go_num,HN3.out,HC3.out,HR.out⟩
    case measure=>simp [intOf];omega
   have HG:=Hd (show noteGo over m b (cs.drop j)=noteGo over m b (cs.drop (j+1)) from by
    rw [HDR.out];show (if c.kind≠m.kind∨c.height≠m.height∨c.round≠m.round then _ else _)=_;exact if_pos (of_decide_eq_true HT7.out.symm))
   go_wp2_with fail
   go_roundw
   case rel=>exact ⟨j+1,b,by omega,by go_num,HNA.out,HCA.out,by rw [HGO.out,HG.out]⟩
   case measure=>simp [intOf];omega
  have hjn':j=nl:=by omega
  have j1:¬(j:Int)<(nl:Int):=by omega
  have HR:=Hd (show noteC over br cs m=(b,cs ++ [castOf m]) from by
   unfold noteC;rw [if_neg HK3.out,HGO.out,hjn',HNL.out,List.drop_length];rfl)
  obtain ⟨ti,hi,hz0,hz1,hz2⟩:=info_parts Tryz.infoCast;obtain ⟨XS,hXS⟩:∃XS,XS=cs.flatMap encK2:=⟨_,rfl⟩;have HXS:=Hd hXS;have HOWN:=Hd (show ∀X,Below wr.heap.size wr X→X.ownsRow 0 132 5 (.slice cao nl ccap) nl XS from fun X hX=>by
   have:=HCR.out;unfold CastsAt at this;rw [←hXS,←HNL.out] at this;exact ownsRow_blk this (fun g _ hl=>hX.block g hl))
  obtain ⟨wz,hwz⟩:∃wz,wz=(wr.alloc (.cells #[.int .i64 m.frm,.int .i64 m.kind,.int .i64 m.height,.int .i64 m.round,.string m.dig] 132)).drew:=⟨_,rfl⟩;have HBZ:=Hd (show Below wr.heap.size wr wz from by rw [hwz];exact ((Below.refl _ _).alloc (Nat.le_refl _) _).drew);have HOD:=HOWN.out wz HBZ.out;have NEW:=show ∀j u,(encK2 (castOf m))[j]?=some u→wz.cell? ((⟨wr.heap.size,0,none⟩:Addr).add j)=some u from by
   rw [hwz];exact cells_at wr (encK2 (castOf m)) 132 wr.heap.size rfl
  have HMZ:=Hd ((HBZ.out.block mb (gE HMR.out).1).trans HMR.out);have HNZ:=Hd ((HBZ.out.block nb (gE HNR.out).1).trans HNR.out);have FIN:=Hd (show ∀(v2:Value) (w7:World),w7.ownsRow 0 132 5 v2 (nl+1) (XS ++ encK2 (castOf m))→wz.grownBy w7 (Value.slice cao nl ccap).ownBlock→(∀g,v2.ownBlock=some g→(Value.slice cao nl ccap).ownBlock=some g∨wz.heap.size≤g) →
    Noted W nb n li la nw nv qv fv (.slice cao nl ccap) (b,cs ++ [castOf m]) (w7.setCell ⟨nb,7,none⟩ v2)∧(∃g c,v2 = .slice (some ⟨g,0,none⟩) (nl+1) c)∧w7.cell? ⟨nb,7,none⟩=some (.slice cao nl ccap)∧(∀o,w7.frozen? ⟨nb,o,none⟩=false)∧w7.heap[mb]?=some (.cells #[.int .i64 m.kind,.int .i64 m.frm,.int .i64 m.to,.int .i64 m.height,.int .i64 m.round,.int .i64 m.valid,.string m.dig,.slice ao m.list.length cap] 36 (0,0)) from by
   intro v2 w7 own gr hn;have hz:=HBZ.out.size;have hs2:=HCH.out.size;have hsw:=HBW.out.size;have hnbz:=(gE HNZ.out).1;have hrow:∀g,(Value.slice cao nl ccap).ownBlock=some g→∃cur,wr.heap[g]?=some (.cells cur 132 (0,0)):=fun g hg=>by
    rcases HCR.out.2 with ⟨e,_⟩ | ⟨g2,c2,cur,e,_,hg2,_⟩
    ·rw [e] at hg;simp [Value.ownBlock] at hg
    rw [e] at hg;have:g2=g:=by simpa [Value.ownBlock] using hg
    exact ⟨cur,this ▸ hg2⟩
   have hne:(Value.slice cao nl ccap).ownBlock≠some nb:=fun e=>by
    obtain ⟨cur,hc⟩:=hrow nb e;rw [HNR.out] at hc;injection hc with hc
    injection hc with _ hc _
    exact absurd hc (by decide)
   have hx7:w7.heap[nb]?=some (.cells (netRow n li la nw nv qv fv (.slice cao nl ccap) b) 50 (0,0)):=(gr.block nb hnbz (fun e=>hne e.symm)).trans HNZ.out;have hmz:=HMZ.out;have hnm:(Value.slice cao nl ccap).ownBlock≠some mb:=fun e=>by
    obtain ⟨cur,hc⟩:=hrow mb e;rw [HMR.out] at hc;injection hc with hc
    injection hc with _ hc _
    exact absurd hc (by decide)
   have hm7:=(gr.block mb (gE hmz).1 (fun e=>hnm e.symm)).trans hmz;refine ⟨⟨⟨v2,heap_setC hx7 _,?_,fun g hg=>?_⟩,?_⟩,?_,?_,fun o=>frozen_of_row w7 nb o _ _ hx7,hm7⟩
   ·have h2:CastsAt w7 v2 (cs ++ [castOf m]):=by
     unfold CastsAt;rw [List.flatMap_append,←HXS.out,List.length_append,←HNL.out];simpa using own
    refine h2.kept (fun g cur hg _=>Below.heap_setCell _ ⟨nb,7,none⟩ _ g (fun e=>?_));have e:g=nb:=e;rw [e,hx7] at hg;injection hg with hg
    injection hg with _ hg _
    exact absurd hg (by decide)
   ·rcases hn g hg with q | q
    ·exact .inl q
    exact .inr (by omega)
   ·exact (Chg.of_below (C:=fun k=>k=nb∨(Value.slice cao nl ccap).ownBlock=some k) HBW.out (fun k q1 q2=>absurd q2 (by omega))).trans ((HCH.out.mono (fun k _ h=>.inl (.inl h))).trans ((Chg.of_below HBZ.out (fun k q1 q2=>absurd q2 (by omega))).trans ((Chg.grown gr (fun k e=>.inl (.inl (.inl (.inr e))))).trans (Chg.set _ nb 7 v2 (.inl (.inl (.inl (.inl (.inl rfl)))))))))
   ·rcases own.2 with ⟨_,h0⟩ | ⟨g,c,_,hv,_⟩
    ·omega
    exact ⟨g,c,hv⟩
   rw [cell_of_row w7 nb 7 _ _ _ hx7];rfl)
  have n7a:=cell_up n7 (.cells #[.int .i64 m.frm,.int .i64 m.kind,.int .i64 m.height,.int .i64 m.round,.string m.dig] 132);have KP:=Hd (show ∀W:World,W.heap[mb]?=some (.cells #[.int .i64 m.kind,.int .i64 m.frm,.int .i64 m.to,.int .i64 m.height,.int .i64 m.round,.int .i64 m.valid,.string m.dig,.slice ao m.list.length cap] 36 (0,0))→W.cell? ⟨mb,0,none⟩=some (.int .i64 m.kind)∧W.cell? ⟨mb,1,none⟩=some (.int .i64 m.frm)∧W.cell? ⟨mb,3,none⟩=some (.int .i64 m.height)∧W.cell? ⟨mb,4,none⟩=some (.int .i64 m.round)∧W.cell? ⟨mb,6,none⟩=some (.string m.dig) from fun W h=>by
   obtain ⟨c0,c1,c2,c3,c4,c5,c6,c7,fz⟩:=MRow.of h;exact ⟨c0,c1,c3,c4,c6⟩)
  clear HOWN HCR hXS;go_upto_region 11 with (fail)
  refine wp_region_held_drew (S:=(fun W=>W.cell? ⟨mb,0,none⟩=some (.int .i64 m.kind)∧W.cell? ⟨mb,1,none⟩=some (.int .i64 m.frm)∧W.cell? ⟨mb,3,none⟩=some (.int .i64 m.height)∧W.cell? ⟨mb,4,none⟩=some (.int .i64 m.round)∧W.cell? ⟨mb,6,none⟩=some (.string m.dig))) (by kernel_rfl) (KP.out _ HMR.out) (fun hHeld=>?_);refine hyw (i:=0) (by assumption) ?_;try simp only [Act.put,zz]
  refine hyw (i:=1) (by assumption) ?_;try simp only [Act.put,zz]
  refine hyw (i:=2) (by assumption) ?_;try simp only [Act.put,zz]
  refine hyw (i:=3) (by assumption) ?_;try simp only [Act.put,zz]
  refine hyw (i:=5) (by assumption) ?_;try simp only [Act.put,zz]
  refine hyw (i:=6) (by assumption) ?_;try simp only [Act.put,zz]
  refine hyw (i:=7) (by assumption) ?_;try simp only [Act.put,zz]
  refine hyw (i:=8) (by assumption) ?_;try simp only [Act.put,zz]
  refine hyw (i:=9) (by assumption) ?_;try simp only [Act.put,zz]
  refine hyw (i:=10) (by assumption) ?_;try simp only [Act.put,zz]
  refine hyw (i:=11) (by assumption) ?_;try simp only [Act.put,zz]
  refine hyw (i:=12) (by assumption) ?_;try simp only [Act.put,zz]
  refine hyw (i:=13) (by assumption) ?_;try simp only [Act.put,zz]
  refine hyw (i:=14) (by assumption) ?_;try simp only [Act.put,zz]
  refine hyw (i:=15) (by assumption) ?_;try simp only [Act.put,zz]
  refine wpAnyH_ready (rs:=[4,16]) (by kernel_rfl) (by simp) ?_;refine AllReadyH.cons (o:=_) rfl (fun K hK=>?_) (AllReadyH.cons (o:=_) rfl (fun K hK=>?_) AllReadyH.nil)
  ·go_simp;clear hHeld;go_wp2_with fail
   refine hK.out _ _ (KP.out _ HMR.out) (fun hHeld=>?_);clear hK K;try simp only [Act.put,zz]
   refine wpAnyH_ready (rs:=[16]) (by kernel_rfl) (by simp) ?_;refine AllReadyH.cons (o:=_) rfl (fun K hK=>?_) AllReadyH.nil;go_simp;clear hHeld;go_wp2_with fail
   refine hK.out _ _ (by rw [←hwz];exact KP.out _ HMZ.out) (fun hHeld=>?_);clear hK K;try simp only [Act.put,zz]
   refine wpAnyH_ready (rs:=[17]) (by kernel_rfl) (by simp) ?_;refine AllReadyH.cons (o:=_) rfl (fun K hK=>?_) AllReadyH.nil;clear hHeld;refine step_new (by rfl) (.tmp 82) (.tmp 94) 48 (by rfl) 0 132 ti zC 5 48 Tryz.underlying48 hi hz0 hz1 hz2 (by rfl) (by decide) (.slice cao nl ccap) nl XS ?_ ?_ ⟨wr.heap.size,0,none⟩ 1 1 (encK2 (castOf m)) ?_ (by rfl) ?_ (by intro u hu;simp [encK2,castOf,iv] at hu;rcases hu with rfl | rfl | rfl | rfl | rfl <;> rfl) ?_ ?_ ?_ ?_;(simp [Act.eval,Act.put]);(rw [←hwz];with_reducible exact HOD);(simp [Act.eval,Act.put]);(rw [←hwz];with_reducible exact NEW);(unfold maxLen;omega);omega;omega;rw [←hwz];intro v2 w7 own2 gr2 hn2;obtain ⟨hfin,⟨g2,cp2,rfl⟩,hx7,hf7,hm7⟩:=FIN.out v2 w7 own2 gr2 hn2;have HF:=Hd hfin;clear hfin own2 gr2 hn2
   refine hK.out _ _ (KP.out _ hm7) (fun hHeld=>?_);clear hK K;try simp only [Act.put,zz]
   refine hyw (i:=18) (by assumption) ?_;try simp only [Act.put,zz]
   refine hyw (i:=19) (by assumption) ?_;try simp only [Act.put,zz]
   refine wpAnyH_ready (rs:=[20]) (by kernel_rfl) (by simp) ?_;refine AllReadyH.cons (o:=_) rfl (fun K hK=>?_) AllReadyH.nil;go_simp;clear hHeld;go_wp2_with fail
   refine hK.out _ _ (KP.out _ ((Below.heap_setCell _ ⟨nb,7,none⟩ _ mb (fun e=>HNE.out e.symm)).trans hm7)) (fun hHeld=>?_);clear hK K;try simp only [Act.put,zz]
   refine wpAnyH_done (by kernel_rfl) ?_ _;go_wp2
   refine bodyPost_end (results_none rfl _ _ _) rfl ?_;rw [HR.out];exact ⟨rfl,HF.out⟩
  go_simp;clear hHeld;go_wp2_with fail
  refine hK.out _ _ (by rw [←hwz];exact KP.out _ HMZ.out) (fun hHeld=>?_);clear hK K;try simp only [Act.put,zz]
  refine wpAnyH_ready (rs:=[4]) (by kernel_rfl) (by simp) ?_;refine AllReadyH.cons (o:=_) rfl (fun K hK=>?_) AllReadyH.nil;go_simp;clear hHeld;go_wp2_with fail
  refine hK.out _ _ (by rw [←hwz];exact KP.out _ HMZ.out) (fun hHeld=>?_);clear hK K;try simp only [Act.put,zz]
  refine wpAnyH_ready (rs:=[17]) (by kernel_rfl) (by simp) ?_;refine AllReadyH.cons (o:=_) rfl (fun K hK=>?_) AllReadyH.nil;clear hHeld;refine step_new (by rfl) (.tmp 82) (.tmp 94) 48 (by rfl) 0 132 ti zC 5 48 Tryz.underlying48 hi hz0 hz1 hz2 (by rfl) (by decide) (.slice cao nl ccap) nl XS ?_ ?_ ⟨wr.heap.size,0,none⟩ 1 1 (encK2 (castOf m)) ?_ (by rfl) ?_ (by intro u hu;simp [encK2,castOf,iv] at hu;rcases hu with rfl | rfl | rfl | rfl | rfl <;> rfl) ?_ ?_ ?_ ?_;(simp [Act.eval,Act.put]);(rw [←hwz];with_reducible exact HOD);(simp [Act.eval,Act.put]);(rw [←hwz];with_reducible exact NEW);(unfold maxLen;omega);omega;omega;rw [←hwz];intro v2 w7 own2 gr2 hn2;obtain ⟨hfin,⟨g2,cp2,rfl⟩,hx7,hf7,hm7⟩:=FIN.out v2 w7 own2 gr2 hn2;have HF:=Hd hfin;clear hfin own2 gr2 hn2
  refine hK.out _ _ (KP.out _ hm7) (fun hHeld=>?_);clear hK K;try simp only [Act.put,zz]
  refine hyw (i:=18) (by assumption) ?_;try simp only [Act.put,zz]
  refine hyw (i:=19) (by assumption) ?_;try simp only [Act.put,zz]
  refine wpAnyH_ready (rs:=[20]) (by kernel_rfl) (by simp) ?_;refine AllReadyH.cons (o:=_) rfl (fun K hK=>?_) AllReadyH.nil;go_simp;clear hHeld;go_wp2_with fail
  refine hK.out _ _ (KP.out _ ((Below.heap_setCell _ ⟨nb,7,none⟩ _ mb (fun e=>HNE.out e.symm)).trans hm7)) (fun hHeld=>?_);clear hK K;try simp only [Act.put,zz]
  refine wpAnyH_done (by kernel_rfl) ?_ _;go_wp2
  refine bodyPost_end (results_none rfl _ _ _) rfl ?_;rw [HR.out];exact ⟨rfl,HF.out⟩
end
end
end Go.Proofs.YtifcdjmcoibblaaGreatDoor
