/- R5 DcA -/
import Derived.Test.YtifcdjmcoibblaaGreatDoorLq31
import Derived.Test.YtifcdjmcoibblaaGreatDoorLq01
import Derived.Test.YtifcdjmcoibblaaGreatDoorLq09
import Derived.Test.YtifcdjmcoibblaaGreatDoorLq10
set_option linter.unusedVariables false
set_option linter.unusedSimpArgs false
set_option linter.unusedSectionVars false
set_option maxRecDepth 100000
set_option maxHeartbeats 80000000
namespace Go.Proofs.YtifcdjmcoibblaaGreatDoor
section
open Go.RowKit
section
variable {R:Nat→Prop} {w:World} {x:Nat} {p:Ptr} {s:StB} {G:ByteArray→List ByteArray→Prop}
theorem prevote_none (h:getA s.round s.props=none):s.rPrevote=none:=by unfold NS.rPrevote;rw [h]
theorem prevote_step (h:¬s.step=1):s.rPrevote=none:=by
 unfold NS.rPrevote;rcases getA s.round s.props with _ | m
 ·rfl
 simp only;rw [if_pos (.inl h)]
theorem prevote_acc {m:MsgB} (h:getA s.round s.props=some m) (h2:m.dig∉s.acc):s.rPrevote=none:=by unfold NS.rPrevote;rw [h];simp only;rw [if_pos (.inr h2)]
theorem prevote_few {m:MsgB} (h:getA s.round s.props=some m) (h2:0≤m.valid∧s.count 6 m.valid m.dig≤faultsN s.n):s.rPrevote=none:=by
 unfold NS.rPrevote;rw [h];simp only;split
 ·rfl
 first | rfl | rw [if_pos h2]
def lockB (s:StB) (m:MsgB):Bool:=match s.lock with | some v=>!(v.dig.toList == m.dig.toList) && decide (m.valid<v.round) | none=>false
def prevD (s:StB) (m:MsgB):ByteArray:=if lockB s m=true then ByteArray.mk #[] else m.dig
theorem prevote_ok {m:MsgB} (h:getA s.round s.props=some m) (h1:s.step=1) (h2:m.dig∈s.acc) (h3:¬(0≤m.valid∧s.count 6 m.valid m.dig≤faultsN s.n)):s.rPrevote=some (s.cast 4 (prevD s m) 2):=by
 unfold NS.rPrevote;rw [h];simp only;rw [if_neg (by simp [h1,h2]),if_neg h3];congr 2
 unfold prevD lockB;rcases hl:s.lock with _ | v
 ·simp
 simp only;by_cases q:v.dig=m.dig
 ·simp [q]
 have e:=beq_ne q;by_cases q2:m.valid<v.round
 ·rw [if_pos ⟨q,q2⟩];simp [e,q2];rfl
 rw [if_neg (fun k=>q2 k.2)];simp [e,q2]
theorem props_look (h:NodeP R w x p s) {k:Int} {m:MsgB} (hg:getA k s.props=some m) (ok:Bool):∃u,MsgV R w u m∧∀W,Below w.heap.size w W→(Instr.lookup 110 (.map (some p.props)) (.int .i64 k) ok).run Tryz.prog W = .ok (if ok then .tuple #[u,.bool true] else u) W:=by
 obtain ⟨L,h1,h2⟩:=h.maps.props;rcases getV_rel k h2 with ⟨e1,e2⟩ | ⟨v,y,e1,e2,e3⟩
 ·rw [hg] at e2;cases e2
 have:y=m:=by rw [hg] at e2;injection e2 with e2;exact e2.symm
 subst this;refine ⟨v,e3,fun W hW=>?_⟩;have q:=(h1.kept (hW.block _ h1.lt)).lookup (P:=Tryz.prog) keyI Tryz.underlying110 (good_rel W h2) (x:=iv k) ⟨k,rfl⟩ (zMsg W) ok;rw [e1] at q;exact q
def fewB (s:StB) (m:MsgB):Bool:=decide (0≤m.valid) && decide (s.count 6 m.valid m.dig≤faultsN s.n)
theorem prevote_any (h:NodeP R w x p s) (ok:Ok G s):Calls Tryz.prog 121 #[pv x] w (RuleE R w x s.rPrevote):=by
 have hI:=ok.inv.num;have H:=Hd h;have HOK:=Hd ok;have HI:=Hd hI;have c1:=h.nc.c1;have c9:=h.nc.c9;clear hI ok h;obtain ⟨zc,hzc⟩:∃zc,zc=Obj.cells #[.int .i64 0,.int .i64 0,.int .i64 0,.int .i64 0,.int .i64 0,.int .i64 0,.string (ByteArray.mk #[]),.slice none 0 0] 36:=⟨_,rfl⟩;have HBZ:=Hd (show Below w.heap.size w ((w.alloc zc).drew) from ((Below.refl _ _).alloc (Nat.le_refl _) _).drew);have x1:=(H.out.below HBZ.out).nc.c1;have x9:=(H.out.below HBZ.out).nc.c9;rcases hg:getA s.round s.props with _ | m
 ·have LK:=Hd (show ∀W,Below w.heap.size w W→(Instr.lookup 110 (.map (some p.props)) (.int .i64 s.round) true).run Tryz.prog W = .ok (.tuple #[zM,.bool false]) W from fun W hW=>by
   rcases (H.out.below hW).maps.look_props s.round true with ⟨_,q⟩ | ⟨m,u,hg2,_,_⟩
   ·exact q
   rw [hg] at hg2;cases hg2)
  have HE:=Hd (prevote_none hg);have l1:=LK.out w.drew ((Below.refl _ _).drew);have l2:=LK.out _ HBZ.out;have l3:=LK.out w (Below.refl _ _);rw [hzc] at HBZ l2 x1 x9;unfold zM iv at l1 l2 l3;clear hzc hg LK;unfold pv;go_enter Tryz.func121,Tryz.ntmps121
  go_upto_region 1 with (fail)
  go_cut [3,4] (fun t3 t4 wc=>t4 = .bool false∧Below w.heap.size w wc)
  case first=>
   go_region
   all_goals (
    go_wp2_with fail
    go_meet;exact ⟨rfl,by first | exact HBZ.out | exact ((Below.refl _ _).alloc (Nat.le_refl _) _).drew⟩)
  case rest=>
   obtain ⟨rfl,hb⟩:=hcut;obtain ⟨w1,rfl⟩:∃w1:World,w1=wc:=⟨_,rfl⟩;have HB:=Hd hb;have d2:=(H.out.below hb).nc.c2;clear hb l1 l2 l3 x1 x9 c1 c9;by_cases h1:s.step=1
   ·rw [h1] at d2;go_upto_region 2 with (fail)
    go_region
    all_goals (
     go_wp2
     go_ret;rw [HE.out];exact ⟨rfl,HB.out.drew⟩)
   have e1:(s.step == 1)=false:=by simpa using h1
   have e2:(s.step != 1)=true:=by simpa using h1
   clear h1;go_upto_region 2 with (fail)
   go_region
   all_goals (
    go_wp2
    go_ret;rw [HE.out];exact ⟨rfl,HB.out.drew⟩)
 obtain ⟨u,⟨sl,rfl,ao,cap,rfl,hcap,hrow⟩,LK⟩:=props_look H.out hg true;simp only [if_true] at LK;have l1:=LK w.drew ((Below.refl _ _).drew);have l2:=LK _ HBZ.out;have l3:=LK w (Below.refl _ _);have HG:=Hd hg;obtain ⟨mb,hmb⟩:∃mb,mb=w.heap.size:=⟨_,rfl⟩;have HMB:=Hd hmb;have HBE:=Hd (show ∀o,Below w.heap.size w ((w.alloc o).drew) from fun o=>((Below.refl _ _).alloc (Nat.le_refl _) _).drew);rw [hzc] at HBZ l2 x1 x9;unfold encM iv at l1 l2 l3;clear hzc hg LK hmb hcap hrow;unfold pv;go_enter Tryz.func121,Tryz.ntmps121
 go_upto_region 1 with (fail)
 go_cut [3,4] (fun t3 t4 wc=>t3 = .pointer (some ⟨mb,0,none⟩)∧t4 = .bool true∧wc.heap[mb]?=some (.cells (encM m (.slice ao m.list.length cap)) 36 (0,0))∧Below w.heap.size w wc)
 case first=>
  go_region
  all_goals (
   go_wp2_with fail
   go_meet;rw [HMB.out];exact ⟨rfl,rfl,World.alloc_heap_new w _,HBE.out _⟩)
 case rest=>
  obtain ⟨rfl,rfl,hrw,hb⟩:=hcut;obtain ⟨w1,rfl⟩:∃w1:World,w1=wc:=⟨_,rfl⟩;have HB:=Hd hb;have HRW:=Hd hrw;have HN1:=Hd (H.out.below hb);have d2:=HN1.out.nc.c2;have d8:=HN1.out.nc.c8;obtain ⟨m0,m1,m2,m3,m4,m5,m6,m7,mfz⟩:=MRow.of hrw;clear hb hrw l1 l2 l3 x1 x9 c1 c9 HBZ HBE;by_cases h1:s.step=1
  ·rw [h1] at d2;have la:=HN1.out.maps.look_acc m.dig;have lad:=HN1.out.drew.maps.look_acc m.dig;rcases hac:memD m.dig s.acc with _ | _
   ·have HE:=Hd (prevote_acc HG.out (memD_false.1 hac));rw [hac] at la lad;clear hac h1;go_upto_region 2 with (fail)
    go_region
    all_goals (
     go_wp2
     go_ret;rw [HE.out];exact ⟨rfl,HB.out.drew⟩)
   have HAC:=Hd (memD_true.1 hac);have HH1:=Hd h1;rw [hac] at la lad;clear hac h1;go_upto_region 2 with (fail)
   go_region
   obtain ⟨wq,hwq⟩:∃wq,wq=w1.drew:=⟨_,rfl⟩;have HBQ:=Hd (show Below w.heap.size w wq from by rw [hwq];exact HB.out.drew);have HRQ:=Hd (show wq.heap[mb]?=some (.cells (encM m (.slice ao m.list.length cap)) 36 (0,0)) from by rw [hwq];exact HRW.out);rw [←hwq];clear hwq la lad d2 d8 m0 m1 m2 m3 m4 m5 m6 m7 mfz HRW HN1 HB;have hmq:mb<wq.heap.size:=(gE HRQ.out).1;have HNQ:=Hd (H.out.below HBQ.out);have KEEP:=Hd (show ∀W,Below wq.heap.size wq W→W.cell? ⟨x,0,none⟩=some (.int .i64 s.height)∧W.cell? ⟨x,12,none⟩=some (.pointer (some ⟨p.box,0,none⟩))∧W.cell? ⟨x,17,none⟩=some (.int .i64 s.n)∧W.cell? ⟨mb,5,none⟩=some (.int .i64 m.valid)∧W.cell? ⟨mb,6,none⟩=some (.string m.dig)∧Below wq.heap.size wq W from fun W hW=>by
    have hr:=(hW.block mb hmq).trans HRQ.out;exact ⟨(HNQ.out.below hW).nc.c0,(HNQ.out.below hW).nc.c12,(HNQ.out.below hW).nc.c17,(MRow.of hr).c5,(MRow.of hr).c6,hW⟩)
   obtain ⟨cn,hcn⟩:∃cn,cn=s.count 6 m.valid m.dig:=⟨_,rfl⟩;obtain ⟨fn,hfn⟩:∃fn,fn=faultsN s.n:=⟨_,rfl⟩;have CN:=Hd (fun W (hW:Below wq.heap.size wq W)=>(count_any (HNQ.out.below hW).boxAt (by have:=HI.out.n1;omega) HI.out.n7 6 s.height m.valid m.dig).mono (fun e w' q=>show e = .returned (.int .i64 cn)∧Below wq.heap.size wq w' from ⟨by rw [hcn];exact q.1,hW.trans (q.2.mono hW.size)⟩));have FA:=Hd (fun W=>(faults_any s.n W HI.out.n1 HI.out.n7).mono (fun e w' q=>show e = .returned (.int .i64 fn)∧w'=W from ⟨by rw [hfn];exact q.1,q.2⟩));have HFW:=Hd (show fewB s m=(decide (0≤m.valid) && decide (cn≤fn)) from by rw [hcn,hfn];rfl);have HCN:=Hd hcn;have HFN:=Hd hfn;unfold pv iv at CN;obtain ⟨fb,hfb⟩:∃fb,fb=fewB s m:=⟨_,rfl⟩;have HFB:=Hd hfb;rw [←hfb] at HFW;clear hcn hfn hfb;go_upto_region 4 with (fail)
   go_cut [66] (fun t wc=>t = .bool fb∧Below wq.heap.size wq wc)
   case first=>
    have d0:=HNQ.out.nc.c0;have d12:=HNQ.out.nc.c12;have d17:=HNQ.out.nc.c17;obtain ⟨m0,m1,m2,m3,m4,m5,m6,m7,mfz⟩:=MRow.of HRQ.out;by_cases hv:0≤m.valid
    ·go_region_held3 (fun W=>W.cell? ⟨x,0,none⟩=some (.int .i64 s.height)∧W.cell? ⟨x,12,none⟩=some (.pointer (some ⟨p.box,0,none⟩))∧W.cell? ⟨x,17,none⟩=some (.int .i64 s.n)∧W.cell? ⟨mb,5,none⟩=some (.int .i64 m.valid)∧W.cell? ⟨mb,6,none⟩=some (.string m.dig)∧Below wq.heap.size wq W)
      (first | (exact KEEP.out _ E1) | (exact KEEP.out _ (Below.refl _ wq).drew) | (go_split_ands;exact ⟨by assumption,by assumption,by assumption,by assumption,by assumption,by assumption⟩))
      (first
       | (go_at_call 174;refine (CN.out _ ?_).mono ?_;(go_split_ands;assumption);rintro e w2 ⟨rfl,hb⟩;have E1:=hb;clear hb)
       | (go_at_call 167;refine (FA.out _).mono ?_;rintro _ _ ⟨rfl,rfl⟩))
     have HE1:=Hd E1;go_wp2_with fail
     go_meet;exact ⟨by rw [HFW.out];simp [hv],HE1.out⟩
    have hv2:decide (0≤m.valid)=false:=by simpa using hv
    go_region
    go_wp2_with fail
    go_meet;exact ⟨by rw [HFW.out,hv2];rfl,(Below.refl _ _).drew⟩
   case rest=>
   obtain ⟨rfl,hb⟩:=hcut;obtain ⟨w2,rfl⟩:∃w2:World,w2=wc:=⟨_,rfl⟩;have HBS:=Hd (HBQ.out.trans (hb.mono HBQ.out.size));have HR2:=Hd ((hb.block mb hmq).trans HRQ.out);have HN2:=Hd (H.out.below HBS.out);clear hb CN FA KEEP hmq;rcases fb with _ | _
   ·have HNF:=Hd (show ¬(0≤m.valid∧s.count 6 m.valid m.dig≤faultsN s.n) from by
     have e:=HFW.out;rintro ⟨q1,q2⟩;rw [←HCN.out,←HFN.out] at q2;simp [q1,q2] at e)
    have HE:=Hd (prevote_ok HG.out HH1.out HAC.out HNF.out);obtain ⟨m0,m1,m2,m3,m4,m5,m6,m7,mfz⟩:=MRow.of HR2.out;obtain ⟨lb,hlb⟩:∃lb,lb=lockB s m:=⟨_,rfl⟩;have HLB:=Hd hlb;have LV:(p.lock=none∧lb=false)∨∃(g:Nat) (v:ValB),p.lock=some g∧w2.cell? ⟨g,0,none⟩=some (.int .i64 v.round)∧w2.cell? ⟨g,1,none⟩=some (.string v.dig)∧lb=(!(v.dig.toList == m.dig.toList) && decide (m.valid<v.round)):=by
     have hl:=HN2.out.rest.lock;rw [hlb];unfold lockB;rcases hp:p.lock with _ | g
     ·rcases hv:s.lock with _ | v
      ·exact .inl ⟨rfl,rfl⟩
      rw [hp,hv] at hl;exact hl.elim
     rcases hv:s.lock with _ | v
     ·rw [hp,hv] at hl;exact hl.elim
     rw [hp,hv] at hl;obtain ⟨_,sl,hc,_⟩:=hl;exact .inr ⟨g,v,rfl,by rw [cell_of_row w2 g 0 _ _ _ hc];rfl,by rw [cell_of_row w2 g 1 _ _ _ hc];rfl,rfl⟩
    have d5:=HN2.out.nc.c5;clear hlb;go_upto_region 7 with (fail)
    go_cut [99] (fun t wc=>t = .bool lb∧wc=w2.drew)
    case first=>
     rcases LV with ⟨e1,e2⟩ | ⟨g,v,e1,v0,v1,e2⟩
     ·rw [e1] at d5;unfold po at d5;go_region
      go_wp2_with fail
      go_meet;exact ⟨by rw [e2],rfl⟩
     rw [e1] at d5;unfold po pv at d5;rcases q1:(v.dig.toList == m.dig.toList) with _ | _
     ·by_cases q2:m.valid<v.round
      ·have q3:decide (m.valid<v.round)=true:=by simpa using q2
       go_region
       go_wp2_with fail
       go_meet;exact ⟨by rw [e2,q1,q3];rfl,rfl⟩
      have q3:decide (m.valid<v.round)=false:=by simpa using q2
      go_region
      go_wp2_with fail
      go_meet;exact ⟨by rw [e2,q1,q3];rfl,rfl⟩
     go_region
     go_wp2_with fail
     go_meet;exact ⟨by rw [e2,q1];rfl,rfl⟩
    case rest=>
    obtain ⟨rfl,rfl⟩:=hcut;obtain ⟨pd,hpd⟩:∃pd,pd=prevD s m:=⟨_,rfl⟩;have HPD:=Hd (show pd=if lb=true then ByteArray.mk #[] else m.dig from by rw [hpd,HLB.out];rfl);rw [←hpd] at HE;have HSZ:=Hd (show szB pd from by
     rw [HPD.out];split
     ·exact szB_nil
     exact (HOK.out.inv.box.pr _ (getA_mem HG.out)).2.2.2.2)
    obtain ⟨w3,hw3⟩:∃w3,w3=w2.drew:=⟨_,rfl⟩;have HBT:=Hd (show Below w.heap.size w w3 from by rw [hw3];exact HBS.out.drew);rw [←hw3];clear hpd hw3 LV d5 m0 m1 m2 m3 m4 m5 m6 m7 mfz;have C:=Hd (cast_any (H.out.below HBT.out) HI.out HOK.out.mine 4 (.inl rfl) pd HSZ.out 2);unfold pv iv at C;go_upto_if 99 with (fail)
    go_cut [5] (fun t wc=>t = .string pd∧wc=w3)
    case first=>
     rcases lb with _ | _
     ·go_wp2_with fail
      go_meet;exact ⟨by rw [HPD.out];rfl,rfl⟩
     go_wp2_with fail
     go_meet;exact ⟨by rw [HPD.out];rfl,rfl⟩
    case rest=>
    obtain ⟨rfl,rfl⟩:=hcut;go_wp2_with (go_at_call 173;refine C.out.mono ?_;rintro e w4 ⟨rfl,ht⟩;have HT:=Hd ht;clear ht)
    go_ret;rw [HE.out];exact ⟨rfl,Turned.after HBT.out HT.out⟩
   have HE:=Hd (prevote_few HG.out (by
    have e:=HFW.out;rw [←HCN.out,←HFN.out];simpa using e))
   go_wp2
   go_ret;rw [HE.out];exact ⟨rfl,HBS.out⟩
  have e1:(s.step == 1)=false:=by simpa using h1
  have e2:(s.step != 1)=true:=by simpa using h1
  have HE:=Hd (prevote_step h1);clear h1;go_upto_region 2 with (fail)
  go_region
  all_goals (
   go_wp2
   go_ret;rw [HE.out];exact ⟨rfl,HB.out.drew⟩)
end
end
section
open Go.RowKit
theorem All2.join {α β:Type} {r:α→β→Prop} {l:List α} {m:List β} (h:All2 r l m) {l2:List α} {m2:List β} (h2:All2 r l2 m2):All2 r (l ++ l2) (m ++ m2):=by
 induction h with
 | nil=>exact h2
 | cons h1 _ ih=>exact .cons h1 ih
theorem All2.split {α β:Type} {r:α→β→Prop}:∀{l:List α} {b:α} {l2:List α} {m:List β},All2 r (l ++ b :: l2) m→∃m1 y m2,m=m1 ++ y :: m2∧All2 r l m1∧r b y∧All2 r l2 m2
 | [],b,l2,m,h=>by
  cases h with
  | cons h1 h2=>exact ⟨[],_,_,rfl,.nil,h1,h2⟩
 | a :: l,b,l2,m,h=>by
  cases h with
  | cons h1 h2=>
   obtain ⟨m1,y,m2,rfl,q1,q2,q3⟩:=All2.split h2;exact ⟨_ :: m1,y,m2,rfl,.cons h1 q1,q2,q3⟩
section
variable {D L:Type} [Dg D] [Inhabited L]
theorem countD_snoc (d:D) (l:List (Int×Msg D L)) (i:Int) (m:Msg D L):countD d (l ++ [(i,m)])=if m.dig=d then countD d l+1 else countD d l:=by
 unfold countD;rw [List.filter_append,List.length_append];by_cases q:m.dig=d <;> simp [q]
theorem countD_perm {d:D} {l l2:List (Int×Msg D L)} (h:l.Perm l2):countD d l=countD d l2:=by
 unfold countD;rw [(h.filter _).length_eq]
theorem countD_le (d:D) (l:List (Int×Msg D L)):0≤countD d l∧countD d l≤l.length:=by
 unfold countD;have:=List.length_filter_le (fun p:Int×Msg D L=>decide (p.2.dig=d)) l;omega
theorem count_put {cl:List (D×Int)} {dn:List (Int×Msg D L)} (h:∀d,(getA d cl).getD 0=countD d dn) (i:Int) (m:Msg D L) (d:D):(getA d (putA m.dig (countD m.dig dn+1) cl)).getD 0=countD d (dn ++ [(i,m)]):=by
 rw [getA_put,countD_snoc];by_cases q:d=m.dig
 ·subst q;simp
 rw [if_neg q,if_neg (fun e=>q e.symm)];exact h d
theorem claimed_none:∀{s:NS D L} {l:List Int},(∀k m,k∈l→getA k s.claims=some m→¬faultsN s.n<countD m.dig s.claims)→claimed s l=none
 | s,[],_=>rfl
 | s,a :: l,h=>by
  unfold claimed;rcases hg:getA a s.claims with _ | m
  ·exact claimed_none (fun k m q=>h k m (by simp [q]))
  simp only;rw [if_neg (h a m (by simp) hg)];exact claimed_none (fun k m q=>h k m (by simp [q]))
theorem claimed_step {s:NS D L} {a:Int} {l:List Int} {m:Msg D L} (hg:getA a s.claims=some m) (h:¬faultsN s.n<countD m.dig s.claims):claimed s (a :: l)=claimed s l:=by
 show (match getA a s.claims with | some m=>if faultsN s.n<countD m.dig s.claims then some m else claimed s l | none=>claimed s l)=_;rw [hg];simp only;rw [if_neg h]
theorem claimed_here {s:NS D L} {a:Int} {l:List Int} {m:Msg D L} (hg:getA a s.claims=some m) (h:faultsN s.n<countD m.dig s.claims):claimed s (a :: l)=some m:=by
 show (match getA a s.claims with | some m=>if faultsN s.n<countD m.dig s.claims then some m else claimed s l | none=>claimed s l)=_;rw [hg];simp only;rw [if_pos h]
end
structure CntI (R:Nat→Prop) (w:World) (p:Ptr) (s:StB) (cb it:Nat) (LC left:List (Value×Value)) (lf:List (Int×MsgB)) (cl:List (ByteArray×Int)) (wr:World):Prop where
 rng:RawRange wr p.claims it LC left
 all:All2 (RMsg R w) left lf
 dn:∃dn,(dn ++ lf).Perm s.claims∧∀d,(getA d cl).getD 0=countD d dn
 cnt:RawMap wr cb (cl.map encCt)
 bel:Below w.heap.size w wr
 itg:w.heap.size≤it
 cbg:w.heap.size≤cb
 ne:cb≠it
 cbl:cb<wr.heap.size
theorem CntI.le {R:Nat→Prop} {w wr:World} {p:Ptr} {s:StB} {cb it:Nat} {LC left:List (Value×Value)} {lf:List (Int×MsgB)} {cl:List (ByteArray×Int)} (h:CntI R w p s cb it LC left lf cl wr) (d:ByteArray):0≤(getA d cl).getD 0∧(getA d cl).getD 0≤s.claims.length:=by
 obtain ⟨dn,h1,h2⟩:=h.dn;rw [h2];have h3:=countD_le d dn;have:=h1.length_eq;simp at this;omega
theorem CntI.next {R:Nat→Prop} {w wr w2:World} {p:Ptr} {s:StB} {cb it:Nat} {LC left:List (Value×Value)} {lf:List (Int×MsgB)} {cl:List (ByteArray×Int)} (h:CntI R w p s cb it LC left lf cl wr) (hpc:p.claims<w.heap.size) {k v:Value} {pre post:List (Value×Value)} (hl:left=pre ++ (k,v) :: post) (hr:RawRange w2 p.claims it LC (pre ++ post)) (hg:wr.grownBy w2 (some it)) :
  ∃(i:Int) (m:MsgB) (sl:Value) (lf':List (Int×MsgB)),k=iv i∧v = .agg (encM m sl)∧LRow R w sl m.list∧left.length=(pre ++ post).length+1∧RawMap w2 cb (cl.map encCt)∧Below w.heap.size w w2 ∧
   ∀(o:Obj) (ob:Obj),RawMap ((w2.alloc o).putObj cb ob) cb ((putA m.dig ((getA m.dig cl).getD 0+1) cl).map encCt)→CntI R w p s cb it LC (pre ++ post) lf' (putA m.dig ((getA m.dig cl).getD 0+1) cl) ((w2.alloc o).putObj cb ob):=by
 subst hl;obtain ⟨m1,⟨i,m⟩,m2,rfl,a1,⟨e1,sl,e2,hrow⟩,a2⟩:=h.all.split;obtain ⟨dn,h1,h2⟩:=h.dn;have hlt:it<w2.heap.size:=by obtain ⟨es,clk,since,seen,c0,_,_,_,_,q5,_⟩:=hr;exact (gE q5).1
 have hs:=h.bel.size;have hb2:=h.bel.grown hg hs (fun k e=>by cases e;exact h.itg);have hcl:cb<w2.heap.size:=Nat.lt_of_lt_of_le h.cbl hg.size;refine ⟨i,m,sl,m1 ++ m2,e1,e2,hrow,by simp;omega,h.cnt.kept (hg.block cb h.cbl (fun e=>h.ne (by cases e;rfl))),hb2,fun o ob hob=>?_⟩;have kk:∀k,k<w2.heap.size→k≠cb→((w2.alloc o).putObj cb ob).heap[k]?=w2.heap[k]?:=fun k h1 h2=>(World.putObj_heap_other h2).trans (Below.heap_alloc w2 o k h1);refine ⟨hr.kept (kk _ hr.map.lt (by have:=h.cbg;omega)) (kk _ hlt (fun e=>h.ne e.symm)),a1.join a2,⟨dn ++ [(i,m)],?_,fun d=>?_⟩,hob,below_put (hb2.alloc hb2.size o) h.cbg ob,h.itg,h.cbg,h.ne,by simp [World.putObj];omega⟩
 ·refine List.Perm.trans ?_ h1;rw [List.append_assoc];exact List.Perm.append_left dn (by simpa using (List.perm_middle (a:=(i,m)) (l₁:=m1) (l₂:=m2)).symm)
 rw [h2 m.dig];exact count_put h2 i m d
theorem NodeP.lay_decs {R:Nat→Prop} {w:World} {x:Nat} {p:Ptr} {s:StB} (h:NodeP R w x p s) (k:Int) (v:ValB) {sl:Value} (hl:LRow R w sl v.list) :
  ∃o,(Instr.mapUpdate 105 (.map (some p.decs)) (.int .i64 k) (.agg #[iv v.round,.string v.dig,sl])).run Tryz.prog w = .ok () (w.putObj p.decs o)∧NodeP R (w.putObj p.decs o) x p {s with decs:=putA k v s.decs}:=by
 obtain ⟨L,hL,hA⟩:=h.maps.decs;obtain ⟨o,h1,h2⟩:=hL.update (P:=Tryz.prog) keyI Tryz.underlying105 (good_rel (r:=ValV R w) _ hA) (x:=iv k) ⟨k,rfl⟩ (.agg #[iv v.round,.string v.dig,sl]);refine ⟨o,h1,?_⟩;have hlt:=hL.lt;have h3:=h2 _ (World.putObj_heap_same (o:=o) hlt);have hk:∀k,k≠p.decs→(w.putObj p.decs o).heap[k]?=w.heap[k]?:=fun k hk=>World.putObj_heap_other hk;have hstr:∀(g:Nat) cur fr,w.heap[g]?=some (Obj.cells cur 9 fr)→(w.putObj p.decs o).heap[g]?=w.heap[g]?:=fun g cur fr hg=>hk g (fun e=>by
  obtain ⟨es,c,q1,_⟩:=hL;rw [e,q1] at hg;cases hg)
 exact h.put_decs (fun k _ hn=>hk k hn) (by simp [World.putObj]) ⟨_,h3,putV_rel (r:=ValV R _) k ⟨sl,rfl,hl.kept (fun g cur fr _ hg=>hstr g cur fr hg)⟩ (hA.mono (fun a b q=>⟨q.1,q.2.kept (fun g cur fr _ hg=>hstr g cur fr hg)⟩))⟩
theorem NodeP.order_row {R:Nat→Prop} {w:World} {x:Nat} {p:Ptr} {s:StB} (h:NodeP R w x p s):∃ao cap,p.order = .slice ao s.order.length cap∧∀i z,s.order[i]?=some z→∃g,ao=some ⟨g,0,none⟩∧R g∧w.cell? ⟨g,i,none⟩=some (.int .i64 z):=by
 obtain ⟨hlen,h1 | ⟨g,cap,cur,hv,hb,hg,hn,hm,hs,ht⟩⟩:=h.rest.order.1
 ·obtain ⟨hv,h0⟩:=h1;refine ⟨none,0,by rw [hv,h0],fun i z hz=>?_⟩;have:=(List.getElem?_eq_some_iff.1 hz).1;omega
 refine ⟨some ⟨g,0,none⟩,cap,hv,fun i z hz=>⟨g,rfl,h.rest.order.2 g (by rw [hv];rfl),?_⟩⟩;have hi:=(List.getElem?_eq_some_iff.1 hz).1;have e:(s.order.map iv)[i]?=some (iv z):=by rw [List.getElem?_map,hz];rfl
 rw [←ht,List.getElem?_take_of_lt (by omega),Array.getElem?_toList] at e;rw [cell_of_row w g i cur _ _ hg];exact e
end
end Go.Proofs.YtifcdjmcoibblaaGreatDoor
