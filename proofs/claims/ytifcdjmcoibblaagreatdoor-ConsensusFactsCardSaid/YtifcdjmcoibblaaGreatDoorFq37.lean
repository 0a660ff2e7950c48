/- R5 DcA Dcd App -/
import Derived.Test.YtifcdjmcoibblaaGreatDoorFq35
import Derived.Test.YtifcdjmcoibblaaGreatDoorFq01
import Derived.Test.YtifcdjmcoibblaaGreatDoorFq11
import Derived.Test.YtifcdjmcoibblaaGreatDoorFq20
import Derived.Test.YtifcdjmcoibblaaGreatDoorFq36
import Derived.WalkMore
set_option linter.unusedVariables false
set_option linter.unusedSimpArgs false
set_option linter.unusedSectionVars false
set_option maxRecDepth 100000
set_option maxHeartbeats 80000000
namespace Go.Proofs.YtifcdjmcoibblaaGreatDoor
section
open Go.RowKit
section
variable {R:Nat→Prop} {w:World} {x:Nat} {p:Ptr} {s:StB} {G:ByteArray→List ByteArray→Prop}
theorem prevote_none (h:getA s.round s.props=none):s.rPrevote=none:=by unfold NS.rPrevote;rw [h]
theorem prevote_step (h:¬s.step=1):s.rPrevote=none:=by
 unfold NS.rPrevote;rcases getA s.round s.props with _ | m
 ·rfl
 simp only;rw [if_pos (.inl h)]
theorem prevote_acc {m:MsgB} (h:getA s.round s.props=some m) (h2:m.dig∉s.acc):s.rPrevote=none:=by unfold NS.rPrevote;rw [h];simp only;rw [if_pos (.inr h2)]
theorem prevote_few {m:MsgB} (h:getA s.round s.props=some m) (h2:0≤m.valid∧s.count 6 m.valid m.dig≤faultsN s.n):s.rPrevote=none:=by
 unfold NS.rPrevote;rw [h];simp only;split
 ·rfl
 first | rfl | rw [if_pos h2]
def lockB (s:StB) (m:MsgB):Bool:=match s.lock with | some v=>!(v.dig.toList == m.dig.toList) && decide (m.valid<v.round) | none=>false
def prevD (s:StB) (m:MsgB):ByteArray:=if lockB s m=true then ByteArray.mk #[] else m.dig
theorem prevote_ok {m:MsgB} (h:getA s.round s.props=some m) (h1:s.step=1) (h2:m.dig∈s.acc) (h3:¬(0≤m.valid∧s.count 6 m.valid m.dig≤faultsN s.n)):s.rPrevote=some (s.cast 4 (prevD s m) 2):=by
 unfold NS.rPrevote;rw [h];simp only;rw [if_neg (by simp [h1,h2]),if_neg h3];congr 2
 unfold prevD lockB;rcases hl:s.lock with _ | v
 ·simp
 simp only;by_cases q:v.dig=m.dig
 ·simp [q]
 have e:=beq_ne q;by_cases q2:m.valid<v.round
 ·rw [if_pos ⟨q,q2⟩];simp [e,q2];rfl
 rw [if_neg (fun k=>q2 k.2)];simp [e,q2]
theorem props_look (h:NodeP R w x p s) {k:Int} {m:MsgB} (hg:getA k s.props=some m) (ok:Bool):∃u,MsgV R w u m∧∀W,Below w.heap.size w W→(Instr.lookup 110 (.map (some p.props)) (.int .i64 k) ok).run Tryz.prog W = .ok (if ok then .tuple #[u,.bool true] else u) W:=by
 obtain ⟨L,h1,h2⟩:=h.maps.props;rcases getV_rel k h2 with ⟨e1,e2⟩ | ⟨v,y,e1,e2,e3⟩
 ·rw [hg] at e2;cases e2
 have:y=m:=by rw [hg] at e2;injection e2 with e2;exact e2.symm
 subst this;refine ⟨v,e3,fun W hW=>?_⟩;have q:=(h1.kept (hW.block _ h1.lt)).lookup (P:=Tryz.prog) keyI Tryz.underlying110 (good_rel W h2) (x:=iv k) ⟨k,rfl⟩ (zMsg W) ok;rw [e1] at q;exact q
def fewB (s:StB) (m:MsgB):Bool:=decide (0≤m.valid) && decide (s.count 6 m.valid m.dig≤faultsN s.n)
theorem prevote_any (h:NodeP R w x p s) (ok:Ok G s):Calls Tryz.prog 121 #[pv x] w (RuleE R w x s.rPrevote):=by
 have hI:=ok.inv.num;have H:=Hd h;have HOK:=Hd ok;have HI:=Hd hI;have c1:=h.nc.c1;have c9:=h.nc.c9;clear hI ok h;obtain ⟨zc,hzc⟩:∃zc,zc=Obj.cells #[.int .i64 0,.int .i64 0,.int .i64 0,.int .i64 0,.int .i64 0,.int .i64 0,.string (ByteArray.mk #[]),.slice none 0 0] 36:=⟨_,rfl⟩;have HBZ:=Hd (show Below w.heap.size w ((w.alloc zc).drew) from ((Below.refl _ _).alloc (Nat.le_refl _) _).drew);have x1:=(H.out.below HBZ.out).nc.c1;have x9:=(H.out.below HBZ.out).nc.c9;rcases hg:getA s.round s.props with _ | m
 ·have LK:=Hd (show ∀W,Below w.heap.size w W→(Instr.lookup 110 (.map (some p.props)) (.int .i64 s.round) true).run Tryz.prog W = .ok (.tuple #[zM,.bool false]) W from fun W hW=>by
   rcases (H.out.below hW).maps.look_props s.round true with ⟨_,q⟩ | ⟨m,u,hg2,_,_⟩
   ·exact q
   rw [hg] at hg2;cases hg2)
  have HE:=Hd (prevote_none hg);have l1:=LK.out w.drew ((Below.refl _ _).drew);have l2:=LK.out _ HBZ.out;have l3:=LK.out w (Below.refl _ _);rw [hzc] at HBZ l2 x1 x9;unfold zM iv at l1 l2 l3;clear hzc hg LK;unfold pv;go_enter Tryz.func121,Tryz.ntmps121
  go_upto_region 1 with (fail)
  go_cut [3,4] (fun t3 t4 wc=>t4 = .bool false∧Below w.heap.size w wc)
  case first=>
   go_region
   all_goals (
    go_wp2_with fail
    go_meet;exact ⟨rfl,by first | exact HBZ.out | exact ((Below.refl _ _).alloc (Nat.le_refl _) _).drew⟩)
  case rest=>
   obtain ⟨rfl,hb⟩:=hcut;obtain ⟨w1,rfl⟩:∃w1:World,w1=wc:=⟨_,rfl⟩;have HB:=Hd hb;have d2:=(H.out.below hb).nc.c2;clear hb l1 l2 l3 x1 x9 c1 c9;by_cases h1:s.step=1
   ·rw [h1] at d2;go_upto_region 2 with (fail)
    go_region
    all_goals (
     go_wp2
     go_ret;rw [HE.out];exact ⟨rfl,HB.out.drew⟩)
   have e1:(s.step == 1)=false:=by simpa using h1
   have e2:(s.step != 1)=true:=by simpa using h1
   clear h1;go_upto_region 2 with (fail)
   go_region
   all_goals (
    go_wp2
    go_ret;rw [HE.out];exact ⟨rfl,HB.out.drew⟩)
 obtain ⟨u,⟨sl,rfl,ao,cap,rfl,hcap,hrow⟩,LK⟩:=props_look H.out hg true;simp only [if_true] at LK;have l1:=LK w.drew ((Below.refl _ _).drew);have l2:=LK _ HBZ.out;have l3:=LK w (Below.refl _ _);have HG:=Hd hg;obtain ⟨mb,hmb⟩:∃mb,mb=w.heap.size:=⟨_,rfl⟩;have HMB:=Hd hmb;have HBE:=Hd (show ∀o,Below w.heap.size w ((w.alloc o).drew) from fun o=>((Below.refl _ _).alloc (Nat.le_refl _) _).drew);rw [hzc] at HBZ l2 x1 x9;unfold encM iv at l1 l2 l3;clear hzc hg LK hmb hcap hrow;unfold pv;go_enter Tryz.func121,Tryz.ntmps121
 go_upto_region 1 with (fail)
 go_cut [3,4] (fun t3 t4 wc=>t3 = .pointer (some ⟨mb,0,none⟩)∧t4 = .bool true∧wc.heap[mb]?=some (.cells (encM m (.slice ao m.list.length cap)) 36 (0,0))∧Below w.heap.size w wc)
 case first=>
  go_region
  all_goals (
   go_wp2_with fail
   go_meet;rw [HMB.out];exact ⟨rfl,rfl,World.alloc_heap_new w _,HBE.out _⟩)
 case rest=>
  obtain ⟨rfl,rfl,hrw,hb⟩:=hcut;obtain ⟨w1,rfl⟩:∃w1:World,w1=wc:=⟨_,rfl⟩;have HB:=Hd hb;have HRW:=Hd hrw;have HN1:=Hd (H.out.below hb);have d2:=HN1.out.nc.c2;have d8:=HN1.out.nc.c8;obtain ⟨m0,m1,m2,m3,m4,m5,m6,m7,mfz⟩:=MRow.of hrw;clear hb hrw l1 l2 l3 x1 x9 c1 c9 HBZ HBE;by_cases h1:s.step=1
  ·rw [h1] at d2;have la:=HN1.out.maps.look_acc m.dig;have lad:=HN1.out.drew.maps.look_acc m.dig;rcases hac:memD m.dig s.acc with _ | _
   ·have HE:=Hd (prevote_acc HG.out (memD_false.1 hac));rw [hac] at la lad;clear hac h1;go_upto_region 2 with (fail)
    go_region
    all_goals (
     go_wp2
     go_ret;rw [HE.out];exact ⟨rfl,HB.out.drew⟩)
   have HAC:=Hd (memD_true.1 hac);have HH1:=Hd h1;rw [hac] at la lad;clear hac h1;go_upto_region 2 with (fail)
   go_region
   obtain ⟨wq,hwq⟩:∃wq,wq=w1.drew:=⟨_,rfl⟩;have HBQ:=Hd (show Below w.heap.size w wq from by rw [hwq];exact HB.out.drew);have HRQ:=Hd (show wq.heap[mb]?=some (.cells (encM m (.slice ao m.list.length cap)) 36 (0,0)) from by rw [hwq];exact HRW.out);rw [←hwq];clear hwq la lad d2 d8 m0 m1 m2 m3 m4 m5 m6 m7 mfz HRW HN1 HB;have hmq:mb<wq.heap.size:=(gE HRQ.out).1;have HNQ:=Hd (H.out.below HBQ.out);have KEEP:=Hd (show ∀W,Below wq.heap.size wq W→W.cell? ⟨x,0,none⟩=some (.int .i64 s.height)∧W.cell? ⟨x,12,none⟩=some (.pointer (some ⟨p.box,0,none⟩))∧W.cell? ⟨x,17,none⟩=some (.int .i64 s.n)∧W.cell? ⟨mb,5,none⟩=some (.int .i64 m.valid)∧W.cell? ⟨mb,6,none⟩=some (.string m.dig)∧Below wq.heap.size wq W from fun W hW=>by
    have hr:=(hW.block mb hmq).trans HRQ.out;exact ⟨(HNQ.out.below hW).nc.c0,(HNQ.out.below hW).nc.c12,(HNQ.out.below hW).nc.c17,(MRow.of hr).c5,(MRow.of hr).c6,hW⟩)
   obtain ⟨cn,hcn⟩:∃cn,cn=s.count 6 m.valid m.dig:=⟨_,rfl⟩;obtain ⟨fn,hfn⟩:∃fn,fn=faultsN s.n:=⟨_,rfl⟩;have CN:=Hd (fun W (hW:Below wq.heap.size wq W)=>(count_any (HNQ.out.below hW).boxAt (by have:=HI.out.n1;omega) HI.out.n7 6 s.height m.valid m.dig).mono (fun e w' q=>show e = .returned (.int .i64 cn)∧Below wq.heap.size wq w' from ⟨by rw [hcn];exact q.1,hW.trans (q.2.mono hW.size)⟩));have FA:=Hd (fun W=>(faults_any s.n W HI.out.n1 HI.out.n7).mono (fun e w' q=>show e = .returned (.int .i64 fn)∧w'=W from ⟨by rw [hfn];exact q.1,q.2⟩));have HFW:=Hd (show fewB s m=(decide (0≤m.valid) && decide (cn≤fn)) from by rw [hcn,hfn];rfl);have HCN:=Hd hcn;have HFN:=Hd hfn;unfold pv iv at CN;obtain ⟨fb,hfb⟩:∃fb,fb=fewB s m:=⟨_,rfl⟩;have HFB:=Hd hfb;rw [←hfb] at HFW;clear hcn hfn hfb;go_upto_region 4 with (fail)
   go_cut [66] (fun t wc=>t = .bool fb∧Below wq.heap.size wq wc)
   case first=>
    have d0:=HNQ.out.nc.c0;have d12:=HNQ.out.nc.c12;have d17:=HNQ.out.nc.c17;obtain ⟨m0,m1,m2,m3,m4,m5,m6,m7,mfz⟩:=MRow.of HRQ.out;by_cases hv:0≤m.valid
    ·go_region_held3 (fun W=>W.cell? ⟨x,0,none⟩=some (.int .i64 s.height)∧W.cell? ⟨x,12,none⟩=some (.pointer (some ⟨p.box,0,none⟩))∧W.cell? ⟨x,17,none⟩=some (.int .i64 s.n)∧W.cell? ⟨mb,5,none⟩=some (.int .i64 m.valid)∧W.cell? ⟨mb,6,none⟩=some (.string m.dig)∧Below wq.heap.size wq W)
      (first | (exact KEEP.out _ E1) | (exact KEEP.out _ (Below.refl _ wq).drew) | (go_split_ands;exact ⟨by assumption,by assumption,by assumption,by assumption,by assumption,by assumption⟩))
      (first
       | (go_at_call 174;refine (CN.out _ ?_).mono ?_;(go_split_ands;assumption);rintro e w2 ⟨rfl,hb⟩;have E1:=hb;clear hb)
       | (go_at_call 167;refine (FA.out _).mono ?_;rintro _ _ ⟨rfl,rfl⟩))
     have HE1:=Hd E1;go_wp2_with fail
     go_meet;exact ⟨by rw [HFW.out];simp [hv],HE1.out⟩
    have hv2:decide (0≤m.valid)=false:=by simpa using hv
    go_region
    go_wp2_with fail
    go_meet;exact ⟨by rw [HFW.out,hv2];rfl,(Below.refl _ _).drew⟩
   case rest=>
   obtain ⟨rfl,hb⟩:=hcut;obtain ⟨w2,rfl⟩:∃w2:World,w2=wc:=⟨_,rfl⟩;have HBS:=Hd (HBQ.out.trans (hb.mono HBQ.out.size));have HR2:=Hd ((hb.block mb hmq).trans HRQ.out);have HN2:=Hd (H.out.below HBS.out);clear hb CN FA KEEP hmq;rcases fb with _ | _
   ·have HNF:=Hd (show ¬(0≤m.valid∧s.count 6 m.valid m.dig≤faultsN s.n) from by
     have e:=HFW.out;rintro ⟨q1,q2⟩;rw [←HCN.out,←HFN.out] at q2;simp [q1,q2] at e)
    have HE:=Hd (prevote_ok HG.out HH1.out HAC.out HNF.out);obtain ⟨m0,m1,m2,m3,m4,m5,m6,m7,mfz⟩:=MRow.of HR2.out;obtain ⟨lb,hlb⟩:∃lb,lb=lockB s m:=⟨_,rfl⟩;have HLB:=Hd hlb;have LV:(p.lock=none∧lb=false)∨∃(g:Nat) (v:ValB),p.lock=some g∧w2.cell? ⟨g,0,none⟩=some (.int .i64 v.round)∧w2.cell? ⟨g,1,none⟩=some (.string v.dig)∧lb=(!(v.dig.toList == m.dig.toList) && decide (m.valid<v.round)):=by
     have hl:=HN2.out.rest.lock;rw [hlb];unfold lockB;rcases hp:p.lock with _ | g
     ·rcases hv:s.lock with _ | v
      ·exact .inl ⟨rfl,rfl⟩
      rw [hp,hv] at hl;exact hl.elim
     rcases hv:s.lock with _ | v
     ·rw [hp,hv] at hl;exact hl.elim
     rw [hp,hv] at hl;obtain ⟨_,sl,hc,_⟩:=hl;exact .inr ⟨g,v,rfl,by rw [cell_of_row w2 g 0 _ _ _ hc];rfl,by rw [cell_of_row w2 g 1 _ _ _ hc];rfl,rfl⟩
    have d5:=HN2.out.nc.c5;clear hlb;go_upto_region 7 with (fail)
    go_cut [99] (fun t wc=>t = .bool lb∧wc=w2.drew)
    case first=>
     rcases LV with ⟨e1,e2⟩ | ⟨g,v,e1,v0,v1,e2⟩
     ·rw [e1] at d5;unfold po at d5;go_region
      go_wp2_with fail
      go_meet;exact ⟨by rw [e2],rfl⟩
     rw [e1] at d5;unfold po pv at d5;rcases q1:(v.dig.toList == m.dig.toList) with _ | _
     ·by_cases q2:m.valid<v.round
      ·have q3:decide (m.valid<v.round)=true:=by simpa using q2
       go_region
       go_wp2_with fail
       go_meet;exact ⟨by rw [e2,q1,q3];rfl,rfl⟩
      have q3:decide (m.valid<v.round)=false:=by simpa using q2
      go_region
      go_wp2_with fail
      go_meet;exact ⟨by rw [e2,q1,q3];rfl,rfl⟩
     go_region
     go_wp2_with fail
     go_meet;exact ⟨by rw [e2,q1];rfl,rfl⟩
    case rest=>
    obtain ⟨rfl,rfl⟩:=hcut;obtain ⟨pd,hpd⟩:∃pd,pd=prevD s m:=⟨_,rfl⟩;have HPD:=Hd (show pd=if lb=true then ByteArray.mk #[] else m.dig from by rw [hpd,HLB.out];rfl);rw [←hpd] at HE;have HSZ:=Hd (show szB pd from by
     rw [HPD.out];split
     ·exact szB_nil
     exact (HOK.out.inv.box.pr _ (getA_mem HG.out)).2.2.2.2)
    obtain ⟨w3,hw3⟩:∃w3,w3=w2.drew:=⟨_,rfl⟩;have HBT:=Hd (show Below w.heap.size w w3 from by rw [hw3];exact HBS.out.drew);rw [←hw3];clear hpd hw3 LV d5 m0 m1 m2 m3 m4 m5 m6 m7 mfz;have C:=Hd (cast_any (H.out.below HBT.out) HI.out HOK.out.mine 4 (.inl rfl) pd HSZ.out 2);unfold pv iv at C;go_upto_if 99 with (fail)
    go_cut [5] (fun t wc=>t = .string pd∧wc=w3)
    case first=>
     rcases lb with _ | _
     ·go_wp2_with fail
      go_meet;exact ⟨by rw [HPD.out];rfl,rfl⟩
     go_wp2_with fail
     go_meet;exact ⟨by rw [HPD.out];rfl,rfl⟩
    case rest=>
    obtain ⟨rfl,rfl⟩:=hcut;go_wp2_with (go_at_call 173;refine C.out.mono ?_;rintro e w4 ⟨rfl,ht⟩;have HT:=Hd ht;clear ht)
    go_ret;rw [HE.out];exact ⟨rfl,Turned.after HBT.out HT.out⟩
   have HE:=Hd (prevote_few HG.out (by
    have e:=HFW.out;rw [←HCN.out,←HFN.out];simpa using e))
   go_wp2
   go_ret;rw [HE.out];exact ⟨rfl,HBS.out⟩
  have e1:(s.step == 1)=false:=by simpa using h1
  have e2:(s.step != 1)=true:=by simpa using h1
  have HE:=Hd (prevote_step h1);clear h1;go_upto_region 2 with (fail)
  go_region
  all_goals (
   go_wp2
   go_ret;rw [HE.out];exact ⟨rfl,HB.out.drew⟩)
end
end
section
open Go.RowKit
theorem All2.join {α β:Type} {r:α→β→Prop} {l:List α} {m:List β} (h:All2 r l m) {l2:List α} {m2:List β} (h2:All2 r l2 m2):All2 r (l ++ l2) (m ++ m2):=by
 induction h with
 | nil=>exact h2
 | cons h1 _ ih=>exact .cons h1 ih
theorem All2.split {α β:Type} {r:α→β→Prop}:∀{l:List α} {b:α} {l2:List α} {m:List β},All2 r (l ++ b :: l2) m→∃m1 y m2,m=m1 ++ y :: m2∧All2 r l m1∧r b y∧All2 r l2 m2
 | [],b,l2,m,h=>by
  cases h with
  | cons h1 h2=>exact ⟨[],_,_,rfl,.nil,h1,h2⟩
 | a :: l,b,l2,m,h=>by
  cases h with
  | cons h1 h2=>
   obtain ⟨m1,y,m2,rfl,q1,q2,q3⟩:=All2.split h2;exact ⟨_ :: m1,y,m2,rfl,.cons h1 q1,q2,q3⟩
section
variable {D L:Type} [Dg D] [Inhabited L]
theorem countD_snoc (d:D) (l:List (Int×Msg D L)) (i:Int) (m:Msg D L):countD d (l ++ [(i,m)])=if m.dig=d then countD d l+1 else countD d l:=by
 unfold countD;rw [List.filter_append,List.length_append];by_cases q:m.dig=d <;> simp [q]
theorem countD_perm {d:D} {l l2:List (Int×Msg D L)} (h:l.Perm l2):countD d l=countD d l2:=by
 unfold countD;rw [(h.filter _).length_eq]
theorem countD_le (d:D) (l:List (Int×Msg D L)):0≤countD d l∧countD d l≤l.length:=by
 unfold countD;have:=List.length_filter_le (fun p:Int×Msg D L=>decide (p.2.dig=d)) l;omega
theorem count_put {cl:List (D×Int)} {dn:List (Int×Msg D L)} (h:∀d,(getA d cl).getD 0=countD d dn) (i:Int) (m:Msg D L) (d:D):(getA d (putA m.dig (countD m.dig dn+1) cl)).getD 0=countD d (dn ++ [(i,m)]):=by
 rw [getA_put,countD_snoc];by_cases q:d=m.dig
 ·subst q;simp
 rw [if_neg q,if_neg (fun e=>q e.symm)];exact h d
theorem claimed_none:∀{s:NS D L} {l:List Int},(∀k m,k∈l→getA k s.claims=some m→¬faultsN s.n<countD m.dig s.claims)→claimed s l=none
 | s,[],_=>rfl
 | s,a :: l,h=>by
  unfold claimed;rcases hg:getA a s.claims with _ | m
  ·exact claimed_none (fun k m q=>h k m (by simp [q]))
  simp only;rw [if_neg (h a m (by simp) hg)];exact claimed_none (fun k m q=>h k m (by simp [q]))
theorem claimed_step {s:NS D L} {a:Int} {l:List Int} {m:Msg D L} (hg:getA a s.claims=some m) (h:¬faultsN s.n<countD m.dig s.claims):claimed s (a :: l)=claimed s l:=by
 show (match getA a s.claims with | some m=>if faultsN s.n<countD m.dig s.claims then some m else claimed s l | none=>claimed s l)=_;rw [hg];simp only;rw [if_neg h]
theorem claimed_here {s:NS D L} {a:Int} {l:List Int} {m:Msg D L} (hg:getA a s.claims=some m) (h:faultsN s.n<countD m.dig s.claims):claimed s (a :: l)=some m:=by
 show (match getA a s.claims with | some m=>if faultsN s.n<countD m.dig s.claims then some m else claimed s l | none=>claimed s l)=_;rw [hg];simp only;rw [if_pos h]
end
structure CntI (R:Nat→Prop) (w:World) (p:Ptr) (s:StB) (cb it:Nat) (LC left:List (Value×Value)) (lf:List (Int×MsgB)) (cl:List (ByteArray×Int)) (wr:World):Prop where
 rng:RawRange wr p.claims it LC left
 all:All2 (RMsg R w) left lf
 dn:∃dn,(dn ++ lf).Perm s.claims∧∀d,(getA d cl).getD 0=countD d dn
 cnt:RawMap wr cb (cl.map encCt)
 bel:Below w.heap.size w wr
 itg:w.heap.size≤it
 cbg:w.heap.size≤cb
 ne:cb≠it
 cbl:cb<wr.heap.size
theorem CntI.le {R:Nat→Prop} {w wr:World} {p:Ptr} {s:StB} {cb it:Nat} {LC left:List (Value×Value)} {lf:List (Int×MsgB)} {cl:List (ByteArray×Int)} (h:CntI R w p s cb it LC left lf cl wr) (d:ByteArray):0≤(getA d cl).getD 0∧(getA d cl).getD 0≤s.claims.length:=by
 obtain ⟨dn,h1,h2⟩:=h.dn;rw [h2];have h3:=countD_le d dn;have:=h1.length_eq;simp at this;omega
theorem CntI.next {R:Nat→Prop} {w wr w2:World} {p:Ptr} {s:StB} {cb it:Nat} {LC left:List (Value×Value)} {lf:List (Int×MsgB)} {cl:List (ByteArray×Int)} (h:CntI R w p s cb it LC left lf cl wr) (hpc:p.claims<w.heap.size) {k v:Value} {pre post:List (Value×Value)} (hl:left=pre ++ (k,v) :: post) (hr:RawRange w2 p.claims it LC (pre ++ post)) (hg:wr.grownBy w2 (some it)) :
  ∃(i:Int) (m:MsgB) (sl:Value) (lf':List (Int×MsgB)),k=iv i∧v = .agg (encM m sl)∧LRow R w sl m.list∧left.length=(pre ++ post).length+1∧RawMap w2 cb (cl.map encCt)∧Below w.heap.size w w2 ∧
   ∀(o:Obj) (ob:Obj),RawMap ((w2.alloc o).putObj cb ob) cb ((putA m.dig ((getA m.dig cl).getD 0+1) cl).map encCt)→CntI R w p s cb it LC (pre ++ post) lf' (putA m.dig ((getA m.dig cl).getD 0+1) cl) ((w2.alloc o).putObj cb ob):=by
 subst hl;obtain ⟨m1,⟨i,m⟩,m2,rfl,a1,⟨e1,sl,e2,hrow⟩,a2⟩:=h.all.split;obtain ⟨dn,h1,h2⟩:=h.dn;have hlt:it<w2.heap.size:=by obtain ⟨es,clk,since,seen,c0,_,_,_,_,q5,_⟩:=hr;exact (gE q5).1
 have hs:=h.bel.size;have hb2:=h.bel.grown hg hs (fun k e=>by cases e;exact h.itg);have hcl:cb<w2.heap.size:=Nat.lt_of_lt_of_le h.cbl hg.size;refine ⟨i,m,sl,m1 ++ m2,e1,e2,hrow,by simp;omega,h.cnt.kept (hg.block cb h.cbl (fun e=>h.ne (by cases e;rfl))),hb2,fun o ob hob=>?_⟩;have kk:∀k,k<w2.heap.size→k≠cb→((w2.alloc o).putObj cb ob).heap[k]?=w2.heap[k]?:=fun k h1 h2=>(World.putObj_heap_other h2).trans (Below.heap_alloc w2 o k h1);refine ⟨hr.kept (kk _ hr.map.lt (by have:=h.cbg;omega)) (kk _ hlt (fun e=>h.ne e.symm)),a1.join a2,⟨dn ++ [(i,m)],?_,fun d=>?_⟩,hob,below_put (hb2.alloc hb2.size o) h.cbg ob,h.itg,h.cbg,h.ne,by simp [World.putObj];omega⟩
 ·refine List.Perm.trans ?_ h1;rw [List.append_assoc];exact List.Perm.append_left dn (by simpa using (List.perm_middle (a:=(i,m)) (l₁:=m1) (l₂:=m2)).symm)
 rw [h2 m.dig];exact count_put h2 i m d
theorem NodeP.lay_decs {R:Nat→Prop} {w:World} {x:Nat} {p:Ptr} {s:StB} (h:NodeP R w x p s) (k:Int) (v:ValB) {sl:Value} (hl:LRow R w sl v.list) :
  ∃o,(Instr.mapUpdate 105 (.map (some p.decs)) (.int .i64 k) (.agg #[iv v.round,.string v.dig,sl])).run Tryz.prog w = .ok () (w.putObj p.decs o)∧NodeP R (w.putObj p.decs o) x p {s with decs:=putA k v s.decs}:=by
 obtain ⟨L,hL,hA⟩:=h.maps.decs;obtain ⟨o,h1,h2⟩:=hL.update (P:=Tryz.prog) keyI Tryz.underlying105 (good_rel (r:=ValV R w) _ hA) (x:=iv k) ⟨k,rfl⟩ (.agg #[iv v.round,.string v.dig,sl]);refine ⟨o,h1,?_⟩;have hlt:=hL.lt;have h3:=h2 _ (World.putObj_heap_same (o:=o) hlt);have hk:∀k,k≠p.decs→(w.putObj p.decs o).heap[k]?=w.heap[k]?:=fun k hk=>World.putObj_heap_other hk;have hstr:∀(g:Nat) cur fr,w.heap[g]?=some (Obj.cells cur 9 fr)→(w.putObj p.decs o).heap[g]?=w.heap[g]?:=fun g cur fr hg=>hk g (fun e=>by
  obtain ⟨es,c,q1,_⟩:=hL;rw [e,q1] at hg;cases hg)
 exact h.put_decs (fun k _ hn=>hk k hn) (by simp [World.putObj]) ⟨_,h3,putV_rel (r:=ValV R _) k ⟨sl,rfl,hl.kept (fun g cur fr _ hg=>hstr g cur fr hg)⟩ (hA.mono (fun a b q=>⟨q.1,q.2.kept (fun g cur fr _ hg=>hstr g cur fr hg)⟩))⟩
theorem NodeP.order_row {R:Nat→Prop} {w:World} {x:Nat} {p:Ptr} {s:StB} (h:NodeP R w x p s):∃ao cap,p.order = .slice ao s.order.length cap∧∀i z,s.order[i]?=some z→∃g,ao=some ⟨g,0,none⟩∧R g∧w.cell? ⟨g,i,none⟩=some (.int .i64 z):=by
 obtain ⟨hlen,h1 | ⟨g,cap,cur,hv,hb,hg,hn,hm,hs,ht⟩⟩:=h.rest.order.1
 ·obtain ⟨hv,h0⟩:=h1;refine ⟨none,0,by rw [hv,h0],fun i z hz=>?_⟩;have:=(List.getElem?_eq_some_iff.1 hz).1;omega
 refine ⟨some ⟨g,0,none⟩,cap,hv,fun i z hz=>⟨g,rfl,h.rest.order.2 g (by rw [hv];rfl),?_⟩⟩;have hi:=(List.getElem?_eq_some_iff.1 hz).1;have e:(s.order.map iv)[i]?=some (iv z):=by rw [List.getElem?_map,hz];rfl
 rw [←ht,List.getElem?_take_of_lt (by omega),Array.getElem?_toList] at e;rw [cell_of_row w g i cur _ _ hg];exact e
end
section
open Go.RowKit
section
variable {R:Nat→Prop} {w:World} {x:Nat} {p:Ptr} {s:StB} {G:ByteArray→List ByteArray→Prop}
theorem decide_c {m:MsgB} (h:claimed s s.order=some m):s.rDecide=some {s with decs:=putA s.height ⟨-1,m.dig,m.list⟩ s.decs}:=by unfold NS.rDecide;rw [h]
theorem decide_p {v:ValB} (h:claimed s s.order=none) (h2:firstR (fun r=>s.chosenList 5 r) 100=some v):s.rDecide=some {s with decs:=putA s.height v s.decs}:=by unfold NS.rDecide;rw [h];simp only;rw [h2]
theorem decide_n (h:claimed s s.order=none) (h2:firstR (fun r=>s.chosenList 5 r) 100=none):s.rDecide=none:=by unfold NS.rDecide;rw [h];simp only;rw [h2]
theorem decide_any (h:NodeP R w x p s) (ok:Ok G s) (gl:GLaw G):Calls Tryz.prog 116 #[pv x] w (RuleE R w x s.rDecide):=by
 have hmm:=@run_makeMap Tryz.prog;have hI:=ok.inv.num;have H:=Hd h;have HOK:=Hd ok;have HCO:=Hd (ok.coh gl);have HMK:=Hd (RawMap.made w);obtain ⟨LC,hLC,hAC⟩:=h.maps.claims;have HLC:=Hd hLC;have HAC:=Hd hAC;have c10:=(h.up (.map #[] 0)).nc.c10;have hfz:=(h.up (.map #[] 0)).nc.fz;have n1:=hI.n1;have n7:=hI.n7;have HLN:=Hd ok.inv.order_len;have HPC:=Hd (show p.claims<w.heap.size from hLC.lt);clear h hLC hAC ok;unfold pv;go_enter Tryz.func116,Tryz.ntmps116
 go_wp2_with (at_range;refine wpList_range_raw _ rfl (.tmp 17) 110 (by rfl) 3 36 Tryz.underlying110 p.claims LC (by rfl) (HLC.out.kept (Below.heap_alloc _ _ _ HLC.out.lt)) ?_;intro ob hob;have S0:=Hd (show CntI R w p s w.heap.size (w.heap.size+1) LC LC s.claims [] ((w.alloc (.map #[] 0)).alloc ob) from ⟨by simpa using hob,HAC.out,⟨[],List.Perm.refl _,fun d=>rfl⟩,HMK.out.kept (Below.heap_alloc _ _ _ (by simp)),((Below.refl _ _).alloc (Nat.le_refl _) _).alloc (by simp) _,by omega,Nat.le_refl _,by omega,by simp;omega⟩);clear hob)
 obtain ⟨cb,hcb⟩:∃cb,w.heap.size=cb:=⟨_,rfl⟩;obtain ⟨it,hit⟩:∃it,cb+1=it:=⟨_,rfl⟩;simp only [World.size_alloc] at S0 ⊢;rw [hcb,hit] at S0 ⊢;have HCB:=Hd hcb;clear hcb hit c10 hfz;go_frame
 go_loopw [5] (fun _ wr=>∃left lf cl,CntI R w p s cb it LC left lf cl wr) (fun _ wr=>wr.rangeLeft p.claims it)
 case atStart=>exact ⟨_,_,_,S0.out⟩
 case round=>
  obtain ⟨left,lf,cl,hr⟩:=hrel;have RR:=Hd hr;have RNG:=Hd hr.rng;have LEN:=Hd hr.rng.left_len;clear hr;go_wp2_with (at_next;refine wpList_next_raw _ rfl (.tmp 18) (by rfl) p.claims it LC left (by rfl) RNG.out ?_ ?_)
  ·intro hl;subst hl;have HCT:=Hd (show ∀d,(getA d cl).getD 0=countD d s.claims from by
    obtain ⟨dn,h1,h2⟩:=RR.out.dn;cases RR.out.all;rw [List.append_nil] at h1;exact fun d=>(h2 d).trans (countD_perm h1))
   have HB1:=Hd RR.out.bel;have HN1:=Hd (H.out.below RR.out.bel);have HCM:=Hd RR.out.cnt;have c10:=HN1.out.nc.c10;have c11:=HN1.out.nc.c11;have hfz:=HN1.out.nc.fz;obtain ⟨ao,cap,hor,hoc⟩:=HN1.out.order_row;rw [hor] at c11;have HOC:=Hd hoc;have HOR:=Hd hor;clear RR RNG LEN hor hoc S0;obtain ⟨w1,rfl⟩:∃w1:World,w1=wr:=⟨_,rfl⟩;obtain ⟨ln,hln⟩:∃ln,ln=s.order.length:=⟨_,rfl⟩;rw [←hln] at c11;have HLN2:=Hd hln;have hln7:ln≤7:=by have:=HLN.out.1;omega
   clear hln;go_wp2_with fail
   go_loopw [34] (fun i wr=>∃k:Nat,k≤ln∧i = .int .i64 (k:Int)∧Below w1.heap.size w1 wr∧claimed s s.order=claimed s (s.order.drop k)) (fun i _=>ln - (intOf i).toNat)
   case atStart=>exact ⟨0,by omega,rfl,Below.refl _ _,by simp⟩
   case round=>
    obtain ⟨k,hk,rfl,hb,hcd⟩:=hrel;have HBR:=Hd hb;have HNR:=Hd (HN1.out.below hb);have HCR:=Hd (HCM.out.kept (hb.block cb HCM.out.lt));have HCD:=Hd hcd;clear hb hcd c10 c11 hfz;have c10:=HNR.out.nc.c10;have c0:=HNR.out.nc.c0;have hfz:=HNR.out.nc.fz;obtain ⟨wr2,rfl⟩:∃w2:World,w2=wr:=⟨_,rfl⟩;by_cases hlt:k<ln
    ·have hkl:k<s.order.length:=by rw [←HLN2.out];exact hlt
     obtain ⟨site,hst⟩:∃z,s.order[k]?=some z:=⟨_,List.getElem?_eq_getElem hkl⟩;obtain ⟨g,rfl,hRg,hcell⟩:=HOC.out k site hst;have hcell2:wr2.cell? ⟨g,k,none⟩=some (.int .i64 site):=by rw [HBR.out.cell (World.block_lt_of_cell? _ _ hcell)];exact hcell
     have hdr:s.order.drop k=site :: s.order.drop (k+1):=by
      rw [List.drop_eq_getElem_cons hkl];congr 1;rw [List.getElem?_eq_getElem hkl] at hst;injection hst
     have hmem:site∈s.claims.map (·.1):=by rw [←HOK.out.inv.box.ord];exact List.mem_of_getElem? hst
     rcases HNR.out.maps.look_claims site false with ⟨e,_⟩ | ⟨m,u,hg,hu,hlk⟩
     ·exact absurd hmem (getA_none.1 e)
     obtain ⟨sl,rfl,ao2,cap2,rfl,hcap2,hrow2⟩:=hu;have HG:=Hd hg;have HLM:=Hd (show LRow R wr2 (.slice ao2 m.list.length cap2) m.list from ⟨ao2,cap2,rfl,hcap2,hrow2⟩);have HDR:=Hd hdr;unfold encM iv at hlk;simp only [Bool.false_eq_true,if_false] at hlk;obtain ⟨wm,hwm⟩:∃wm,wm=wr2.alloc (.cells #[.int .i64 m.kind,.int .i64 m.frm,.int .i64 m.to,.int .i64 m.height,.int .i64 m.round,.int .i64 m.valid,.string m.dig,.slice ao2 m.list.length cap2] 36):=⟨_,rfl⟩;have HRM:=Hd (show wm.heap[wr2.heap.size]?=some (.cells (encM m (.slice ao2 m.list.length cap2)) 36 (0,0)) from by rw [hwm];exact World.alloc_heap_new wr2 _);have HBM:=Hd (show Below wr2.heap.size wr2 wm from by rw [hwm];exact (Below.refl _ _).alloc (Nat.le_refl _) _);clear hg hdr hmem hst hkl hcap2 hrow2 hRg hcell;go_upto_region 10 with (fail)
     rw [←hwm];clear hwm hlk hcell2 c10 c0 hfz;have HNM:=Hd (HNR.out.below HBM.out);obtain ⟨m0,m1,m2,m3,m4,m5,m6,m7,mfz⟩:=MRow.of HRM.out;have c17:=HNM.out.nc.c17;have hfz:=HNM.out.nc.fz;have hlc:=look_ct (HCR.out.kept (HBM.out.block cb HCR.out.lt)) m.dig;rw [HCT.out] at hlc;have FA:=Hd (fun W=>faults_any s.n W n1 n7);have hcl:=countD_le m.dig s.claims;have hcl7:=HLN.out.2;obtain ⟨cm,hcm⟩:∃cm,cm=countD m.dig s.claims:=⟨_,rfl⟩;have HCMM:=Hd hcm;rw [←hcm] at hlc;clear hcl hcl7 hcm;obtain ⟨fn,hfn⟩:∃fn,fn=faultsN s.n:=⟨_,rfl⟩;have HFN:=Hd hfn;rw [←hfn] at FA;clear hfn;have hlcd:=look_ct (HCR.out.kept (HBM.out.drew.block cb HCR.out.lt)) m.dig;rw [HCT.out,←HCMM.out] at hlcd;go_cut [54] (fun t wc=>t = .bool (decide (fn<cm))∧Below wm.heap.size wm wc)
     case first=>
      go_region_law (go_simp;go_at_call 167;(with_reducible refine (FA.out _).mono ?_);rintro e w9 ⟨rfl,rfl⟩)
      all_goals (go_wp2_with fail;go_meet;exact ⟨by simp,(Below.refl _ _).drew⟩)
     case rest=>
      obtain ⟨rfl,hbw⟩:=hcut;obtain ⟨w4,rfl⟩:∃w4:World,w4=wc:=⟨_,rfl⟩;have HN4:=Hd (HNM.out.below hbw);have HB4:=Hd (HBM.out.trans (hbw.mono HBM.out.size));have HR4:=Hd ((hbw.block _ (gE HRM.out).1).trans HRM.out);clear hbw m0 m1 m2 m3 m4 m5 m6 m7 mfz c17 hfz hlc hlcd;have HLM4:=Hd (HLM.out.below HNR.out.lt HB4.out);have c0:=HN4.out.nc.c0;have c18:=HN4.out.nc.c18;have hfz:=HN4.out.nc.fz;by_cases hgt:fn<cm
      ·have HE:=Hd (show s.rDecide=some {s with decs:=putA s.height ⟨-1,m.dig,m.list⟩ s.decs} from decide_c (HCD.out.trans (by rw [HDR.out];exact claimed_here HG.out (by rw [←HFN.out,←HCMM.out];exact hgt))));obtain ⟨m0,m1,m2,m3,m4,m5,m6,m7,mfz⟩:=MRow.of HR4.out;obtain ⟨ob2,hup,hnf⟩:=HN4.out.drew.lay_decs s.height ⟨-1,m.dig,m.list⟩ (sl:=.slice ao2 m.list.length cap2) (HLM4.out.below HN4.out.lt ((Below.refl _ w4).drew));have HNF:=Hd hnf;unfold iv at hup;simp only at hup;clear hnf;go_upto_region 11 with (fail)
       go_region
       all_goals (
        go_wp2
        go_ret;rw [HE.out];exact ⟨rfl,Turned.after (HB1.out.trans ((HBR.out.trans (HB4.out.mono HBR.out.size)).mono HB1.out.size)).drew (Turned.of HNF.out (Chg.put _ p.decs ob2 (HN4.out.maps.own _ (by simp [Ptr.maps]))))⟩)
      have HCN:=Hd (show claimed s s.order=claimed s (s.order.drop (k+1)) from HCD.out.trans (by rw [HDR.out];exact claimed_step HG.out (by rw [←HFN.out,←HCMM.out];exact hgt)));go_wp2
      go_roundw
      case rel=>exact ⟨k+1,by omega,by go_num,HBR.out.trans (HB4.out.mono HBR.out.size),HCN.out⟩
      case measure=>simp [intOf];omega
    have hkn:k=ln:=by omega
    subst hkn;have HCN:=Hd (show claimed s s.order=none from by rw [HCD.out,HLN2.out];simp;rfl);have HBW:=Hd (HB1.out.trans (HBR.out.mono HB1.out.size));clear HCD HCR HCM HCT HOC HOR HN1 HBR c10 c0 hfz HB1;obtain ⟨w1,rfl⟩:∃w1:World,w1=wr2:=⟨_,rfl⟩;go_wp2_with fail
    go_loopw [70] (fun i wr=>∃k:Nat,k≤100∧i = .int .i64 (k:Int)∧Below w1.heap.size w1 wr∧∀j,j<k→s.chosenList 5 (j:Int)=none) (fun i _=>100 - (intOf i).toNat)
    case atStart=>exact ⟨0,by omega,rfl,Below.refl _ _,fun j hj=>absurd hj (Nat.not_lt_zero _)⟩
    case round=>
     obtain ⟨k,hk,rfl,hb,hno⟩:=hrel;have HBR:=Hd hb;have HN:=Hd (HNR.out.below hb);have HNO:=Hd hno;clear hb hno;obtain ⟨wk,rfl⟩:∃wk:World,wk=wr:=⟨_,rfl⟩;by_cases hlt:k<100
     ·have CL:=Hd (chosenList_any HN.out n1 n7 HCO.out 5 (k:Int));unfold pv iv at CL;rcases hcl:s.chosenList 5 (k:Int) with _ | v
      ·have HCL:=Hd hcl;go_upto_region 17 with (fail)
       go_wp2_with (go_at_call 171;refine CL.out.mono ?_;rintro e w3 ⟨he,hb3⟩;unfold ChosenLE at he;rw [HCL.out] at he;obtain ⟨a,b,ao,n,cap,rfl⟩:=he;have HB3:=Hd hb3;clear hb3)
       go_roundw
       case rel=>
        refine ⟨k+1,by omega,by go_num,?_,fun j hj=>?_⟩
        ·exact (HBR.out.trans (HB3.out.mono HBR.out.size)).alloc (Nat.le_trans HBR.out.size HB3.out.size) _
        rcases Nat.lt_succ_iff_lt_or_eq.1 hj with q | q
        ·exact HNO.out j q
        subst q;exact HCL.out
       case measure=>simp [intOf];omega
      have HCL:=Hd hcl;have HE:=Hd (show s.rDecide=some {s with decs:=putA s.height v s.decs} from decide_p HCN.out (firstR_at (fun i hi=>HNO.out i hi) hcl hlt));clear hcl;go_upto_region 17 with (fail)
      go_upto_region 19 with (go_at_call 171;refine CL.out.mono ?_;rintro e w3 ⟨he,hb3⟩;unfold ChosenLE at he;rw [HCL.out] at he;obtain ⟨u,rfl,sl,rfl,ao,cap2,rfl,hcap2,hrow2⟩:=he;have HLV:=Hd (show LRow R w3 (.slice ao v.list.length cap2) v.list from ⟨ao,cap2,rfl,hcap2,hrow2⟩);clear hcap2 hrow2;unfold iv;have HB3:=Hd hb3;clear hb3)
      obtain ⟨wm,hwm⟩:∃wm,wm=w3.alloc (.cells #[.int .i64 v.round,.string v.dig,.slice ao v.list.length cap2] 120):=⟨_,rfl⟩;have HRM:=Hd (show wm.heap[w3.heap.size]?=some (.cells #[.int .i64 v.round,.string v.dig,.slice ao v.list.length cap2] 120 (0,0)) from by rw [hwm];exact World.alloc_heap_new w3 _);have HBM:=Hd (show Below w3.heap.size w3 wm from by rw [hwm];exact (Below.refl _ _).alloc (Nat.le_refl _) _);rw [←hwm];clear hwm;have HBT:=Hd (show Below w.heap.size w wm from HBW.out.trans ((HBR.out.trans ((HB3.out.trans (HBM.out.mono HB3.out.size)).mono HBR.out.size)).mono HBW.out.size));have HNM:=Hd (H.out.below HBT.out);have HLM:=Hd ((HLV.out.below (fun k hk=>Nat.lt_of_lt_of_le (HN.out.lt k hk) HB3.out.size) HBM.out.drew));obtain ⟨ob2,hup,hnf⟩:=HNM.out.drew.lay_decs s.height v HLM.out;have HNF:=Hd hnf;unfold iv at hup;clear hnf;have c0:=HNM.out.nc.c0;have c18:=HNM.out.nc.c18;have hfz:=HNM.out.nc.fz;have v0:=cell_of_row wm w3.heap.size 0 _ _ _ HRM.out;have v1:=cell_of_row wm w3.heap.size 1 _ _ _ HRM.out;have v2:=cell_of_row wm w3.heap.size 2 _ _ _ HRM.out;simp at v0 v1 v2;go_region
      all_goals (
       go_wp2
       go_ret;rw [HE.out];exact ⟨rfl,Turned.after HBT.out.drew (Turned.of HNF.out (Chg.put _ p.decs ob2 (HNM.out.maps.own _ (by simp [Ptr.maps]))))⟩)
     have hk2:k=100:=by omega
     subst hk2;have HE:=Hd (show s.rDecide=none from decide_n HCN.out (firstR_none (fun i hi=>HNO.out i hi)));go_wp2
     go_ret;rw [HE.out];exact ⟨rfl,HBW.out.trans (HBR.out.mono HBW.out.size)⟩
  intro ke v pre post w2 hl hm hr2 hg2 hs2 hen2;obtain ⟨i,m,sl,lf',rfl,rfl,hrow,hll,hcm,hb2,hnx⟩:=RR.out.next HPC.out hl hr2 hg2;obtain ⟨ao,cap,rfl,hcap,hrw⟩:=hrow;have HNX:=Hd hnx;have HLL:=Hd hll;have HCM:=Hd hcm;have hle:=RR.out.le m.dig;have HBA:=Hd ((Below.refl _ w2).alloc (Nat.le_refl _) (.cells (encM m (.slice ao m.list.length cap)) 36));have HR3:=Hd (World.alloc_heap_new w2 (.cells (encM m (.slice ao m.list.length cap)) 36));have HCM3:=Hd (HCM.out.kept (Below.heap_alloc w2 (.cells (encM m (.slice ao m.list.length cap)) 36) _ HCM.out.lt));have hlk:=look_ct HCM3.out m.dig;obtain ⟨c,hc⟩:∃c,c=(getA m.dig cl).getD 0:=⟨_,rfl⟩;rw [←hc] at hlk hle HNX;have HC:=Hd hc;have hcl:=HLN.out.2;obtain ⟨hl0,hl1⟩:=hle;have hl7:c≤7:=by omega
  obtain ⟨c0,c1,c2,c3,c4,c5,c6,c7,fz⟩:=MRow.of HR3.out;unfold encM iv at *;clear hl hm hr2 hg2 hs2 hcm hb2 hnx hll hcap hrw hc hl1 hcl;go_wp2_with (refine wpList_mapUpdate_raw _ rfl (.tmp 23) (.tmp 25) (.tmp 27) 224 (by rfl) 9 3 Tryz.underlying224 keyS cb _ (by rfl) HCM3.out (good_ct _ _) (.string m.dig) (.int .i64 (c+1)) (by rfl) (by rfl) ⟨m.dig,rfl⟩ ?_;intro ob hob;have HO:=Hd hob;clear hob)
  have W3:=HNX.out (.cells #[.int .i64 m.kind,.int .i64 m.frm,.int .i64 m.to,.int .i64 m.height,.int .i64 m.round,.int .i64 m.valid,.string m.dig,.slice ao m.list.length cap] 36) ob (by
   have:=HO.out;rwa [show (Value.int .i64 (c+1))=iv (c+1) from rfl,putV_enc (ek:=.string) (ev:=fun _=>iv) encCt_eq str_inj] at this)
  have HW3:=Hd W3;clear W3;simp only [Act.put];go_roundw
  case rel=>exact ⟨_,_,_,HW3.out⟩
  case measure=>rw [HW3.out.rng.left_len,LEN.out,HLL.out];omega
end
end
section
open Go.RowKit
theorem least_one {P:Nat→Prop}:∀k,P k→∃m,P m∧∀j,P j→m≤j:=by
 intro k;induction k using Nat.strongRecOn with
 | _ k ih=>
  intro hk;by_cases h:∃j,j<k∧P j
  ·obtain ⟨j,hj,hp⟩:=h;exact ih j hj hp
  exact ⟨k,hk,fun j hj=>Nat.le_of_not_lt (fun q=>h ⟨j,q,hj⟩)⟩
noncomputable def leastN (P:Nat→Prop):Nat:=open Classical in if h:∃m,P m∧∀j,P j→m≤j then h.choose else 0
theorem leastN_spec {P:Nat→Prop} {k:Nat} (h:P k):P (leastN P)∧∀j,P j→leastN P≤j:=by
 have e:=least_one k h;unfold leastN;rw [dif_pos e];exact e.choose_spec
def fidOf (k:Nat):FuncId:=[116,117,118,119,120,121,122,123,124,125,126,127].getD k 0
theorem fid_enter:∀k,k<12→∀args w,(callFunc (fidOf k) args).run Tryz.prog w = .ok (.enter (fidOf k) args) w
 | 0,_=>enters_of Tryz.func116 (by kernel_rfl) rfl
 | 1,_=>enters_of Tryz.func117 (by kernel_rfl) rfl
 | 2,_=>enters_of Tryz.func118 (by kernel_rfl) rfl
 | 3,_=>enters_of Tryz.func119 (by kernel_rfl) rfl
 | 4,_=>enters_of Tryz.func120 (by kernel_rfl) rfl
 | 5,_=>enters_of Tryz.func121 (by kernel_rfl) rfl
 | 6,_=>enters_of Tryz.func122 (by kernel_rfl) rfl
 | 7,_=>enters_of Tryz.func123 (by kernel_rfl) rfl
 | 8,_=>enters_of Tryz.func124 (by kernel_rfl) rfl
 | 9,_=>enters_of Tryz.func125 (by kernel_rfl) rfl
 | 10,_=>enters_of Tryz.func126 (by kernel_rfl) rfl
 | 11,_=>enters_of Tryz.func127 (by kernel_rfl) rfl
 | n+12,h=>absurd h (by omega)
section
variable {R:Nat→Prop} {w:World} {x:Nat} {p:Ptr} {s:StB} {G:ByteArray→List ByteArray→Prop}
theorem rules_any (h:NodeP R w x p s) (ok:Ok G s) (gl:GLaw G) (hx:Shy G s.id→s.proposer s.id s.height s.round=false):∀k,k<12→Calls Tryz.prog (fidOf k) #[pv x] w (RuleE R w x (s.rule k))
 | 0,_=>decide_any h ok gl
 | 1,_=>spread_any h ok
 | 2,_=>validate_any h ok gl
 | 3,_=>follow_any h ok
 | 4,_=>propose_any h ok gl hx
 | 5,_=>prevote_any h ok
 | 6,_=>miss_any h ok
 | 7,_=>key_any h ok
 | 8,_=>wait_any h ok
 | 9,_=>seal_any h ok gl
 | 10,_=>leave_any h ok
 | 11,_=>next_any h ok
 | n+12,h=>absurd h (by omega)
def farS (s:StB):Nat:=if s.isDec s.height=true then 0 else s.mu+1
theorem far_less {s s':StB} (h:Ok G s) {k:Nat} (he:s.rule k=some s') (hd:s.isDec s.height=false):farS s'<farS s:=by
 have e:farS s=s.mu+1:=by unfold farS;rw [if_neg (by simp [hd])]
 rw [e];unfold farS;rcases (rule_inv h.inv he).2 with q | q
 ·rw [if_pos q];omega
 split <;> omega
def rb12 (x:Nat):Array Value:=#[.func (.func (fidOf 0)) #[pv x] #[],.func (.func (fidOf 1)) #[pv x] #[],.func (.func (fidOf 2)) #[pv x] #[],.func (.func (fidOf 3)) #[pv x] #[],.func (.func (fidOf 4)) #[pv x] #[],.func (.func (fidOf 5)) #[pv x] #[],.func (.func (fidOf 6)) #[pv x] #[],.func (.func (fidOf 7)) #[pv x] #[],.func (.func (fidOf 8)) #[pv x] #[],.func (.func (fidOf 9)) #[pv x] #[],.func (.func (fidOf 10)) #[pv x] #[],.func (.func (fidOf 11)) #[pv x] #[]]
theorem Meek.at {s s1:StB} (hm:Meek G (s.mu+2) s) (hi:InvS szB s) (h1:InvS szB s1) (ha:s1.apply=s.apply):Meek G (s1.mu+2) s1:=fun q=>by
 obtain ⟨a1,a2,a3,a4⟩:=run_kp (s1.mu+2) h1;obtain ⟨b1,b2,b3,b4⟩:=run_kp (s.mu+2) hi;have e:NS.runS (s1.mu+2) s1=NS.runS (s.mu+2) s:=ha;rw [e] at a1 a3;have hid:s1.id=s.id:=a1.symm.trans b1;rw [hid] at q;obtain ⟨h2,h3⟩:=hm q;exact ⟨(a3.symm.trans b3).trans h2,by rw [e];exact h3⟩
def ApI (G:ByteArray→List ByteArray→Prop) (R:Nat→Prop) (w:World) (x:Nat) (s:StB) (rb:Nat) (row:Array Value) (T:TypeId) (k:Nat) (wr:World):Prop:=
 ∃p1 R1 s1,NodeP R1 wr x p1 s1∧Ok G s1∧s1.apply=s.apply∧Chg R w wr∧Grows R R1 w∧¬R1 rb∧wr.heap[rb]?=some (.cells row T (0,0))∧k=farS s1
theorem apply_any (h:NodeP R w x p s) (ok:Ok G s) (gl:GLaw G) (hm:Meek G (s.mu+2) s):Calls Tryz.prog 66 #[pv x] w fun e w'=>e = .returned (.tuple #[])∧Turned R w x s.apply w':=by
 have H:=Hd h;have HOK:=Hd ok;have HM:=Hd hm;clear h ok hm;unfold pv;go_enter Tryz.func66,Tryz.ntmps66
 apply wp_scope_straight;go_wp2_with fail
 go_step3
 go_wp2_with fail
 obtain ⟨rb,hrb⟩:∃rb,rb=w.heap.size:=⟨_,rfl⟩;have ST:=Hd (show ApI G R w x s w.heap.size (rb12 x) 22 (farS s) (w.alloc (.cells (rb12 x) 22)) from
  ⟨p,R,s,H.out.up _,HOK.out,rfl,Chg.alloc _ _ _,Grows.refl R w,fun q=>by have:=H.out.lt _ q;omega,World.alloc_heap_new w _,rfl⟩)
 have ROW:=Hd (show ∀(j:Nat),j<12→(rb12 x)[j]?=some (.func (.func (fidOf j)) #[pv x] #[]) from fun j hj=>by
  match j,hj with
  | 0,_=>rfl
  | 1,_=>rfl
  | 2,_=>rfl
  | 3,_=>rfl
  | 4,_=>rfl
  | 5,_=>rfl
  | 6,_=>rfl
  | 7,_=>rfl
  | 8,_=>rfl
  | 9,_=>rfl
  | 10,_=>rfl
  | 11,_=>rfl
  | n+12,h=>exact absurd h (by omega))
 rw [←hrb] at ST ⊢;obtain ⟨row,hrow⟩:∃row,row=rb12 x:=⟨_,rfl⟩;rw [←hrow] at ST ROW;rw [show (Obj.cells #[Value.func (Fn.func 116) #[Value.pointer (some {block:=x,off:=0})] #[],Value.func (Fn.func 117) #[Value.pointer (some {block:=x,off:=0})] #[],Value.func (Fn.func 118) #[Value.pointer (some {block:=x,off:=0})] #[],Value.func (Fn.func 119) #[Value.pointer (some {block:=x,off:=0})] #[],Value.func (Fn.func 120) #[Value.pointer (some {block:=x,off:=0})] #[],Value.func (Fn.func 121) #[Value.pointer (some {block:=x,off:=0})] #[],Value.func (Fn.func 122) #[Value.pointer (some {block:=x,off:=0})] #[],Value.func (Fn.func 123) #[Value.pointer (some {block:=x,off:=0})] #[],Value.func (Fn.func 124) #[Value.pointer (some {block:=x,off:=0})] #[],Value.func (Fn.func 125) #[Value.pointer (some {block:=x,off:=0})] #[],Value.func (Fn.func 126) #[Value.pointer (some {block:=x,off:=0})] #[],Value.func (Fn.func 127) #[Value.pointer (some {block:=x,off:=0})] #[]] 22) = .cells row 22 from by rw [hrow];rfl];clear hrb hrow;go_loopw [] (fun wr=>∃k,ApI G R w x s rb row 22 k wr) (fun wr=>leastN (fun k=>ApI G R w x s rb row 22 k wr))
 case atStart=>exact ⟨_,ST.out⟩
 case round=>
  obtain ⟨k,hk⟩:=hrel;have hmin:=(leastN_spec (P:=fun k=>ApI G R w x s rb row 22 k wr) hk).1;obtain ⟨μ,hμ⟩:∃μ,μ=leastN (fun k=>ApI G R w x s rb row 22 k wr):=⟨_,rfl⟩;rw [←hμ] at hmin;have HMU:=Hd hμ;obtain ⟨p1,R1,s1,hn,ho,ha,hc,hg,hnr,hrow,hfar⟩:=hmin;have HN:=Hd hn;have HO:=Hd ho;have HA:=Hd ha;have HC:=Hd hc;have HG:=Hd hg;have HNR:=Hd hnr;have HROW:=Hd hrow;have HFAR:=Hd hfar;have HX1:=Hd ((Meek.at HM.out HOK.out.inv ho.inv ha).not ho.inv);have d0:=hn.nc.c0;have ID:=Hd (isDecided_any hn s1.height);clear hk hμ hn ho ha hc hg hnr hrow hfar;obtain ⟨w1,rfl⟩:∃w1:World,w1=wr:=⟨_,rfl⟩;unfold pv iv at ID;rcases hd:s1.isDec s1.height with _ | _
  ·have HD:=Hd hd;rw [hd] at ID;clear hd;go_wp2_with (go_at_call 63;refine ID.out.mono ?_;rintro e w2 ⟨rfl,hb⟩;have HB:=Hd hb;clear hb)
   have HN2:=Hd (HN.out.below HB.out);have HROW2:=Hd ((HB.out.block rb (gE HROW.out).1).trans HROW.out);have NXT:=Hd (show ∀(j:Nat) (s2:StB) (w4:World),j<12→(∀l,l<j→(s1.rule l).isNone=true)→s1.rule j=some s2→Turned R1 w1 x s2 w4→ApI G R w x s rb row 22 (farS s2) w4 from fun j s2 w4 hj hno hr ht=>by
    obtain ⟨p2,R2,n2,c2,g2⟩:=ht;refine ⟨p2,R2,s2,n2,HO.out.rule HX1.out hr,?_,HC.out.trans (c2.mono (fun k _ hk=>HG.out.2 k hk)),HG.out.trans g2 HC.out.size,fun q=>?_,?_,rfl⟩
    ·rw [←HA.out];exact (apply_step HO.out.inv HD.out (firstR_at (fun i hi=>Option.isNone_iff_eq_none.1 (hno i hi)) hr hj)).symm
    ·rcases g2.2 rb q with q | q
     ·exact HNR.out q
     have:=(gE HROW.out).1;omega
    exact (c2.block rb (gE HROW.out).1 HNR.out).trans HROW.out)
   obtain ⟨wz,rfl⟩:∃wz:World,wz=w2:=⟨_,rfl⟩;go_loopw [40] (fun i wi=>∃j:Nat,j≤12∧i = .int .i64 (j:Int)∧Below wz.heap.size wz wi∧∀l,l<j→(s1.rule l).isNone=true) (fun i _=>12 - (intOf i).toNat)
   case atStart=>exact ⟨0,by omega,rfl,Below.refl _ _,fun l hl=>absurd hl (Nat.not_lt_zero _)⟩
   case round=>
    obtain ⟨j,hj,rfl,hb,hno⟩:=hrel;have HBI:=Hd hb;have HNO:=Hd hno;clear hb hno;obtain ⟨wi,rfl⟩:∃wi:World,wi=wr:=⟨_,rfl⟩;by_cases hlt:j<12
    ·have hcell:wi.cell? ⟨rb,j,none⟩=some (.func (.func (fidOf j)) #[pv x] #[]):=by
      rw [cell_of_row wi rb j _ _ _ ((HBI.out.block rb (gE HROW2.out).1).trans HROW2.out)];exact ROW.out j hlt
     have HNI:=Hd (HN2.out.below HBI.out);have RU:=Hd (rules_any HNI.out HO.out gl HX1.out j hlt);have eg:=fid_enter j hlt;obtain ⟨fid,hfid⟩:∃fid,fid=fidOf j:=⟨_,rfl⟩;rw [←hfid] at hcell RU eg;unfold pv at hcell RU;clear hfid;rcases hr:s1.rule j with _ | s2
     ·rw [hr] at RU;have HR:=Hd hr;clear hr;go_wp2_with (refine RU.out.mono ?_;rintro e w4 ⟨rfl,hb⟩;have HB4:=Hd hb;clear hb)
      go_roundw
      case rel=>
       refine ⟨j+1,by omega,by go_num,HBI.out.trans (HB4.out.mono HBI.out.size),fun l hl=>?_⟩;rcases Nat.lt_succ_iff_lt_or_eq.1 hl with q | q
       ·exact HNO.out l q
       subst q;rw [HR.out];rfl
      case measure=>simp [intOf];omega
     rw [hr] at RU;have HR:=Hd hr;clear hr;go_wp2_with (refine RU.out.mono ?_;rintro e w4 ⟨rfl,ht⟩;have HT:=Hd ht;clear ht)
     have NEW:=Hd (NXT.out j s2 w4 hlt HNO.out HR.out (Turned.after (HB.out.trans (HBI.out.mono HB.out.size)) HT.out));go_roundw
     case rel=>exact ⟨_,NEW.out⟩
     case measure=>
      rw [←HMU.out];refine Nat.lt_of_le_of_lt ((leastN_spec (P:=fun k=>ApI G R w x s rb row 22 k w4) NEW.out).2 _ NEW.out) ?_;rw [HFAR.out];exact far_less HO.out HR.out HD.out
    have hj12:j=12:=by omega
    subst hj12;have HE:=Hd (show s.apply=s1 from by
     rw [←HA.out];exact apply_end (.inr (firstR_none (fun i hi=>Option.isNone_iff_eq_none.1 (HNO.out i hi)))))
    go_wp2
    rw [Exit.noGoto_ret];refine bodyPost_ret (results_none rfl _ _ _) rfl ⟨rfl,?_⟩;rw [HE.out];exact Turned.then ⟨p1,R1,HN.out,HC.out,HG.out⟩ (HB.out.trans (HBI.out.mono HB.out.size))
  have HE:=Hd (show s.apply=s1 from by rw [←HA.out];exact apply_end (.inl hd));rw [hd] at ID;clear hd;go_wp2_with (go_at_call 63;refine ID.out.mono ?_;rintro e w2 ⟨rfl,hb⟩;have HB:=Hd hb;clear hb)
  rw [Exit.noGoto_normal];refine bodyPost_end (results_none rfl _ _ _) rfl ⟨rfl,?_⟩;rw [HE.out];exact Turned.then ⟨p1,R1,HN.out,HC.out,HG.out⟩ HB.out
end
end
end Go.Proofs.YtifcdjmcoibblaaGreatDoor
