/- R2 R3 -/
import Derived.Test.YtifcdjmcoibblaaGreatDoorLq30
import Derived.Test.YtifcdjmcoibblaaGreatDoorLq22
import Derived.Test.YtifcdjmcoibblaaGreatDoorLq01
set_option linter.unusedVariables false
set_option linter.unusedSimpArgs false
set_option linter.unusedSectionVars false
set_option maxRecDepth 100000
set_option maxHeartbeats 80000000
namespace Go.Proofs.YtifcdjmcoibblaaGreatDoor
section
open Go.RowKit
section
variable {R:Nat→Prop} {w:World} {x:Nat} {p:Ptr} {s:StB} {G:ByteArray→List ByteArray→Prop}
theorem cntD_count (s:StB) (k r:Int) (d:ByteArray):cntD (voters s.n.toNat s.votes k s.height r) d=s.count k r d:=rfl
theorem wait_any (h:NodeP R w x p s) (ok:Ok G s):Calls Tryz.prog 124 #[pv x] w (RuleE R w x s.rWait):=by
 have hI:=ok.inv.num;have H:=Hd h;have c0:=h.nc.c0;have c1:=h.nc.c1;have c2:=h.nc.c2;have c12:=h.nc.c12;have c15:=h.nc.c15;have c17:=h.nc.c17;have hfz:=h.nc.fz;have hlk:=h.maps.look_made 6 s.round;have hlk2:=h.drew.maps.look_made 6 s.round;have L:=Hd (fun W (hW:Below w.heap.size w W)=>(isLate_any (h.below hW) ⟨hI.r0,by have:=hI.r1;omega⟩).mono (fun e w' q=>show _∧Below w.heap.size w w' from ⟨q.1,hW.trans (q.2.mono hW.size)⟩));have CN:=Hd (fun W (hW:Below w.heap.size w W)=>(count_any (h.below hW).boxAt (by have:=hI.n1;omega) hI.n7 4 s.height s.round (ByteArray.mk #[])).mono (fun e w' q=>show _∧Below w.heap.size w w' from ⟨q.1,hW.trans (q.2.mono hW.size)⟩));have KEEP:=Hd (show ∀W,Below w.heap.size w W→W.cell? ⟨x,0,none⟩=some (.int .i64 s.height)∧W.cell? ⟨x,1,none⟩=some (.int .i64 s.round)∧W.cell? ⟨x,12,none⟩=some (.pointer (some ⟨p.box,0,none⟩))∧W.cell? ⟨x,17,none⟩=some (.int .i64 s.n)∧Below w.heap.size w W from fun W hW=>⟨(h.below hW).nc.c0,(h.below hW).nc.c1,(h.below hW).nc.c12,(h.below hW).nc.c17,hW⟩);have Q:=Hd (fun W=>quorum_any s.n W hI.n1 hI.n7);have C:=Hd (fun W (hW:Below w.heap.size w W)=>cast_any (h.below hW) hI ok.mine 5 (.inr rfl) (ByteArray.mk #[]) szB_nil 4);have E:=Hd (fun W (hW:Below w.heap.size w W)=>enter_any (h.below hW) 3);simp only [cntD_count] at CN;clear h;by_cases h1:s.step=2
 ·rw [h1] at c2;rcases hm:memD ((6:Int),s.round) s.made with _ | _
  ·have hm2:=memD_false.1 hm;rw [hm] at hlk hlk2;rcases hl:s.late with _ | _
   ·have HE:=Hd (show s.rWait=if quorumN s.n≤s.count 4 s.round Dg.nil then some (s.cast 5 Dg.nil 4) else none from by unfold NS.rWait;simp [h1,hm2,hl]);rw [hl] at L;obtain ⟨cn,hcn⟩:∃cn,cn=s.count 4 s.round (ByteArray.mk #[]):=⟨_,rfl⟩;have HCN:=Hd (show s.count 4 s.round Dg.nil=cn from hcn.symm);rw [←hcn] at CN;obtain ⟨qn,hqn⟩:∃qn,qn=quorumN s.n:=⟨_,rfl⟩;rw [HCN.out,←hqn] at HE;rw [←hqn] at Q;clear h1 hm hm2 hl hcn hqn;unfold pv at *;try unfold iv at *
    go_enter Tryz.func124,Tryz.ntmps124
    go_upto_region 4 with (fail)
    go_region
    go_wp2_with (go_at_call 175;refine (L.out _ (by repeat (first | exact Below.refl _ _ | refine Below.drew ?_))).mono ?_;rintro e w1 ⟨rfl,hb⟩;have HB:=Hd hb;clear hb)
    have d0:=(H.out.below HB.out).nc.c0;have d1:=(H.out.below HB.out).nc.c1;have d12:=(H.out.below HB.out).nc.c12;have d17:=(H.out.below HB.out).nc.c17;clear c0 c1 c2 c12 c15 c17 hfz hlk hlk2;go_region_held3 (fun W=>W.cell? ⟨x,0,none⟩=some (.int .i64 s.height)∧W.cell? ⟨x,1,none⟩=some (.int .i64 s.round)∧W.cell? ⟨x,12,none⟩=some (.pointer (some ⟨p.box,0,none⟩))∧W.cell? ⟨x,17,none⟩=some (.int .i64 s.n)∧Below w.heap.size w W)
     (first | (exact KEEP.out _ E1) | (exact KEEP.out _ HB.out.drew) | (go_split_ands;exact ⟨by assumption,by assumption,by assumption,by assumption,by assumption⟩))
     (first
      | (go_at_call 174;refine (CN.out _ ?_).mono ?_;(go_split_ands;assumption);rintro e w2 ⟨rfl,hb⟩;have E1:=hb;clear hb)
      | (go_at_call 113;refine (Q.out _).mono ?_;rintro _ _ ⟨rfl,rfl⟩))
    have HE1:=Hd E1;clear E1;by_cases hq:qn≤cn
    ·rw [if_pos hq] at HE;go_wp2_with (go_at_call 173;refine (C.out _ HE1.out).mono ?_;rintro e w3 ⟨rfl,ht⟩;have HT:=Hd ht;clear ht)
     go_ret;rw [HE.out];exact ⟨rfl,Turned.after HE1.out HT.out⟩
    rw [if_neg hq] at HE;go_wp2
    go_ret;rw [HE.out];exact ⟨rfl,HE1.out⟩
   have HE:=Hd (show s.rWait=some (s.cast 5 Dg.nil 4) from by unfold NS.rWait;simp [h1,hm2,hl]);rw [hl] at L;clear h1 hm hm2 hl CN Q E KEEP;unfold pv at *;try unfold iv at *
   go_enter Tryz.func124,Tryz.ntmps124
   go_upto_region 4 with (fail)
   go_region
   go_wp2_with (first
    | (go_at_call 175;refine (L.out _ (by repeat (first | exact Below.refl _ _ | refine Below.drew ?_))).mono ?_;rintro e w1 ⟨rfl,hb⟩;have HB:=Hd hb;clear hb)
    | (go_at_call 173;refine (C.out _ HB.out).mono ?_;rintro e w2 ⟨rfl,ht⟩;have HT:=Hd ht;clear ht))
   go_ret;rw [HE.out];exact ⟨rfl,Turned.after HB.out HT.out⟩
  have hm2:=memD_true.1 hm;rw [hm] at hlk hlk2;have HE:=Hd (show s.rWait=some (s.enter 3) from by unfold NS.rWait;simp [h1,hm2]);clear h1 hm hm2 CN Q L C KEEP;unfold pv at *;try unfold iv at *
  go_enter Tryz.func124,Tryz.ntmps124
  go_upto_region 4 with (fail)
  go_region
  go_wp2_with (go_at_call 177;refine (E.out _ (by repeat (first | exact Below.refl _ _ | refine Below.drew ?_))).mono ?_;rintro e w2 ⟨rfl,ht⟩;have HT:=Hd ht;clear ht)
  go_ret;rw [HE.out];exact ⟨rfl,Turned.after (Below.refl _ w).drew HT.out⟩
 have e1:(s.step == 2)=false:=by simpa using h1
 have e2:(s.step != 2)=true:=by simpa using h1
 have HE:=Hd (show s.rWait=none from by unfold NS.rWait;rw [if_pos h1]);clear h1;unfold pv at *;try unfold iv at *
 go_enter Tryz.func124,Tryz.ntmps124
 go_wp2
 go_ret;rw [HE.out];exact ⟨rfl,Below.refl _ _⟩
theorem key_none (h:s.chosen 4 s.round=none):s.rKey=none:=by unfold NS.rKey;rw [h]
theorem key_bad {d:ByteArray} (h:s.chosen 4 s.round=some d) (h2:s.step=1∨((6:Int),s.round)∈s.made):s.rKey=none:=by unfold NS.rKey;rw [h];simp only;rw [if_pos h2]
theorem key_no1 (h2:s.step=1):s.rKey=none:=by
 rcases h:s.chosen 4 s.round with _ | d
 ·exact key_none h
 exact key_bad h (.inl h2)
theorem key_ok {d:ByteArray} (h:s.chosen 4 s.round=some d) (h1:¬s.step=1) (h2:((6:Int),s.round)∉s.made):s.rKey=some (if s.step=2 then (s.say (vote 6 s.round d)).enter 3 else s.say (vote 6 s.round d)):=by
 unfold NS.rKey;rw [h];simp only;rw [if_neg (by simp only [not_or];exact ⟨h1,h2⟩),(say_same s _).2.2.1]
theorem key_any (h:NodeP R w x p s) (ok:Ok G s):Calls Tryz.prog 123 #[pv x] w (RuleE R w x s.rKey):=by
 have hI:=ok.inv.num;have H:=Hd h;have c1:=h.nc.c1;have hfz:=h.nc.fz;have CH:=Hd (chosen_any h hI.n1 hI.n7 4 s.round);obtain ⟨md,hmd⟩:∃md,md=(s.most 4 s.round).1:=⟨_,rfl⟩;unfold chosenE at CH;rw [←hmd] at CH;by_cases h1:s.step=1
 ·have HE:=Hd (key_no1 h1);obtain ⟨io,hio⟩:∃io,io=(s.chosen 4 s.round).isSome:=⟨_,rfl⟩;rw [←hio] at CH;have C2:=Hd (fun W (hW:Below w.heap.size w W)=>show W.cell? ⟨x,2,none⟩=some (.int .i64 1) from by rw [←h1];exact (h.below hW).nc.c2);clear h1 hio hmd h;unfold pv iv at *;go_enter Tryz.func123,Tryz.ntmps123
  go_upto_region 2 with (go_at_call 176;refine CH.out.mono ?_;rintro e w1 ⟨rfl,hb⟩;have HB:=Hd hb;have d2:=C2.out _ hb;clear hb)
  go_region
  all_goals (
   go_wp2
   go_ret;rw [HE.out];exact ⟨rfl,by first | exact HB.out | exact HB.out.drew⟩)
 have e1:(s.step == 1)=false:=by simpa using h1
 rcases hch:s.chosen 4 s.round with _ | d
 ·have HE:=Hd (key_none hch);rw [hch] at CH;clear hch hmd h1 h;unfold pv iv at *;go_enter Tryz.func123,Tryz.ntmps123
  go_upto_region 2 with (go_at_call 176;refine CH.out.mono ?_;rintro e w1 ⟨rfl,hb⟩;have HB:=Hd hb;have d2:=(H.out.below hb).nc.c2;clear hb)
  go_region
  all_goals (
   go_wp2
   go_ret;rw [HE.out];exact ⟨rfl,by first | exact HB.out | exact HB.out.drew⟩)
 have hdd:md=d:=hmd.trans (chosen_most hch);subst hdd;rw [hch] at CH;have HSZ:=Hd (chosen_sz ok.inv hch).1;have HLK:=Hd (fun W (hW:Below w.heap.size w W)=>(h.below hW).maps.look_made 6 s.round);rcases hm:memD ((6:Int),s.round) s.made with _ | _
 ·have HK:=Hd (key_ok hch h1 (memD_false.1 hm));have S:=Hd (fun W (hW:Below w.heap.size w W)=>say_any (h.below hW) (m:=vote 6 s.round md) ⟨.slice none 0 0,rfl,LRow.nil R W⟩ (Nat.zero_le _) hI ok.mine (fun _=>say_okv hI (by simp [vote]) ⟨hI.r0,hI.r1⟩ rfl rfl HSZ.out));obtain ⟨s2,hs2⟩:∃s2,s2=s.say (vote 6 s.round md):=⟨_,rfl⟩;have HST:=Hd (show s2.step=s.step from by rw [hs2];exact (say_same s _).2.2.1);rw [←hs2] at S HK;rw [hm] at HLK;clear hch hmd h1 h hm hs2;unfold encM vote at S;unfold pv iv at *;go_enter Tryz.func123,Tryz.ntmps123
  go_upto_region 2 with (go_at_call 176;refine CH.out.mono ?_;rintro e w1 ⟨rfl,hb⟩;have HB:=Hd hb;have d1:=(H.out.below hb).nc.c1;have d2:=(H.out.below hb).nc.c2;have d15:=(H.out.below hb).nc.c15;have hlk:=HLK.out _ hb;have hlk2:=HLK.out _ hb.drew;clear hb)
  go_region
  go_upto_region 5 with (go_at_call 108;refine (S.out _ HB.out.drew).mono ?_;rintro e w2 ⟨rfl,ht⟩;obtain ⟨p2,R2,hn,hup⟩:=(Turned.after HB.out.drew ht).node;have f2:=hn.nc.c2;rw [HST.out] at f2;have HN2:=Hd hn;have HUP:=Hd hup;have HT:=Hd (Turned.after HB.out.drew ht);clear ht hn hup)
  clear d1 d2 d15 hlk hlk2 c1 hfz;by_cases h2:s.step=2
  ·have HE:=HK.out;rw [if_pos h2] at HE;rw [h2] at f2;have EN:=Hd (enter_any HN2.out 3);have HE2:=Hd HE;clear h2 HE e1;unfold pv iv at EN;go_wp2_with (go_at_call 177;refine EN.out.mono ?_;rintro e w3 ⟨rfl,ht⟩;have HT2:=Hd (HUP.out _ _ ht);clear ht)
   go_ret;rw [HE2.out];exact ⟨rfl,HT2.out⟩
  have HE:=HK.out;rw [if_neg h2] at HE;have e2:(s.step == 2)=false:=by simpa using h2
  have HE2:=Hd HE;clear h2 HE;go_wp2
  go_ret;rw [HE2.out];exact ⟨rfl,HT.out⟩
 have HE:=Hd (key_bad hch (.inr (memD_true.1 hm)));rw [hm] at HLK;clear hch hmd h1 h hm;unfold pv iv at *;go_enter Tryz.func123,Tryz.ntmps123
 go_upto_region 2 with (go_at_call 176;refine CH.out.mono ?_;rintro e w1 ⟨rfl,hb⟩;have HB:=Hd hb;have d1:=(H.out.below hb).nc.c1;have d2:=(H.out.below hb).nc.c2;have d15:=(H.out.below hb).nc.c15;have hlk:=HLK.out _ hb;have hlk2:=HLK.out _ hb.drew;clear hb)
 go_region
 all_goals (
  go_wp2
  go_ret;rw [HE.out];exact ⟨rfl,by first | exact HB.out | exact HB.out.drew⟩)
theorem seal_none (h:s.chosenList 6 s.round=none):s.rSeal=none:=by unfold NS.rSeal;rw [h]
theorem seal_bad (h2:¬s.step=3):s.rSeal=none:=by
 unfold NS.rSeal;rcases s.chosenList 6 s.round with _ | v
 ·rfl
 simp only;rw [if_pos h2]
theorem seal_ok {v:ValB} (h:s.chosenList 6 s.round=some v) (h2:s.step=3):s.rSeal=some (({s with lock:=some v}:StB).cast 5 v.dig 4):=by
 unfold NS.rSeal;rw [h];simp only;rw [if_neg (fun q=>q h2)]
theorem seal_any (h:NodeP R w x p s) (ok:Ok G s) (gl:GLaw G):Calls Tryz.prog 125 #[pv x] w (RuleE R w x s.rSeal):=by
 have hI:=ok.inv.num;have H:=Hd h;have c1:=h.nc.c1;have hfz:=h.nc.fz;have CL:=Hd (chosenList_any h hI.n1 hI.n7 (ok.coh gl) 6 s.round);have HML:=Hd ok.mine;rcases hcl:s.chosenList 6 s.round with _ | v
 ·have HE:=Hd (seal_none hcl);have HCL:=Hd hcl;clear hcl h;unfold pv iv at *;go_enter Tryz.func125,Tryz.ntmps125
  go_upto_region 2 with (go_at_call 171;refine CL.out.mono ?_;rintro e w1 ⟨he,hb⟩;unfold ChosenLE at he;rw [HCL.out] at he;obtain ⟨a,b,ao,n,cap,rfl⟩:=he;have HB:=Hd hb;clear hb)
  have HB1:=Hd (HB.out.alloc HB.out.size (.cells #[.int .i64 a,.string b,.slice ao n cap] 120));have d2:=(H.out.below HB1.out).nc.c2;by_cases h3:s.step=3
  ·rw [h3] at d2;go_wp2
   go_ret;rw [HE.out];exact ⟨rfl,HB1.out⟩
  have e3:(s.step == 3)=false:=by simpa using h3
  have e4:(s.step != 3)=true:=by simpa using h3
  clear h3;go_wp2
  go_ret;rw [HE.out];exact ⟨rfl,HB1.out⟩
 have HCL:=Hd hcl;have HSZ:=Hd (chosenList_sz ok.inv hcl).1;clear hcl h;unfold pv iv at *;go_enter Tryz.func125,Tryz.ntmps125
 go_upto_region 2 with (go_at_call 171;refine CL.out.mono ?_;rintro e w1 ⟨he,hb⟩;unfold ChosenLE at he;rw [HCL.out] at he;obtain ⟨u,rfl,sl,rfl,ao,cap2,rfl,hcap2,hrow2⟩:=he;have HLV:=Hd (show LRow R w1 (.slice ao v.list.length cap2) v.list from ⟨ao,cap2,rfl,hcap2,hrow2⟩);clear hcap2 hrow2;unfold iv;have HB:=Hd hb;clear hb)
 have HB1:=Hd (HB.out.alloc HB.out.size (.cells #[.int .i64 v.round,.string v.dig,.slice ao v.list.length cap2] 120));have HR1:=Hd (World.alloc_heap_new w1 (.cells #[.int .i64 v.round,.string v.dig,.slice ao v.list.length cap2] 120));have HLV1:=Hd (HLV.out.below (fun k hk=>Nat.lt_of_lt_of_le (H.out.lt k hk) HB.out.size) ((Below.refl w1.heap.size w1).alloc (Nat.le_refl _) (.cells #[.int .i64 v.round,.string v.dig,.slice ao v.list.length cap2] 120)));obtain ⟨wm,hwm⟩:∃wm,wm=w1.alloc (.cells #[.int .i64 v.round,.string v.dig,.slice ao v.list.length cap2] 120):=⟨_,rfl⟩;rw [←hwm] at HB1 HR1 HLV1 ⊢;clear hwm;have d2:=(H.out.below HB1.out).nc.c2;have dfz:=(H.out.below HB1.out).nc.fz;by_cases h3:s.step=3
 ·have HE:=Hd (seal_ok HCL.out h3);rw [h3] at d2;have d5:=(H.out.below HB1.out).nc.c5;clear h3 c1 hfz;obtain ⟨g,hg⟩:∃g,g=w1.heap.size:=⟨_,rfl⟩;rw [←hg] at HR1 ⊢;have HGG:=Hd hg;clear hg;have hgl:g<wm.heap.size:=(gE HR1.out).1;have hm1:NodeP (fun k=>R k∨k=g) wm x p s:=(H.out.below HB1.out).mono (fun k hk=>.inl hk) (fun k hk=>by
   rcases hk with hk | hk
   ·exact (H.out.below HB1.out).lt k hk
   subst hk;exact hgl)
  have HNL:=Hd (hm1.put_lock (g:=g) (v:=v) (.inr rfl) HR1.out (HLV1.out.mono (fun k hk=>.inl hk)));have HCG:=Hd (show Chg R w (wm.setCell ⟨x,5,none⟩ (pv g)) from (Chg.of_below HB1.out (fun k q1 q2=>by omega)).trans (Chg.set wm x 5 _ (.inl H.out.mem)));have HGR:=Hd (show Grows R (fun k=>R k∨k=g) w from ⟨fun k hk=>.inl hk,fun k hk=>by
   rcases hk with hk | hk
   ·exact .inl hk
   exact .inr (by rw [hk,HGG.out];exact HB.out.size)⟩)
  have CT:=Hd (cast_any HNL.out (show NumI ({s with lock:=some v}:StB) from ⟨hI.n1,hI.n7,hI.id0,hI.idn,hI.h0,hI.h1,hI.r0,hI.r1,hI.st1,hI.st4,hI.c0,hI.c1,hI.vr,fun v2 e=>by injection e with e;subst e;rw [(chosenList_sz ok.inv HCL.out).2.1];exact ⟨hI.r0,hI.r1⟩⟩) HML.out 5 (.inr rfl) v.dig HSZ.out 4);have v1:=cell_of_row wm g 1 _ _ _ HR1.out;have hne:g≠x:=fun e=>by
   have:=H.out.lt x H.out.mem;have:=HGG.out;have:=HB.out.size;omega
  simp at v1;clear hm1 hgl;unfold pv iv at CT;unfold pv at HNL HCG;go_wp2_with (go_at_call 173;refine CT.out.mono ?_;rintro e w3 ⟨rfl,ht⟩;have HT:=Hd (Turned.trans HCG.out HGR.out ht);clear ht)
  go_ret;rw [HE.out];exact ⟨rfl,HT.out⟩
 have HE:=Hd (seal_bad h3);have e3:(s.step == 3)=false:=by simpa using h3
 have e4:(s.step != 3)=true:=by simpa using h3
 clear h3;go_wp2
 go_ret;rw [HE.out];exact ⟨rfl,HB1.out⟩
end
end
section
open Go.RowKit
section
variable {R:Nat→Prop} {w:World} {x:Nat} {p:Ptr} {s:StB} {G:ByteArray→List ByteArray→Prop}
theorem follow_none (h:∀j:Nat,(j:Int)<99 - s.round→s.passed (99 - (j:Int))≤faultsN s.n):s.rFollow=none:=by
 unfold NS.rFollow;refine firstR_none (fun i hi=>?_);rw [if_neg (Int.not_lt.2 (h i (by omega)))]
theorem follow_at {r:Int} (hr:s.round<r) (h99:r≤99) (h:∀j:Nat,(j:Int)<99 - r→s.passed (99 - (j:Int))≤faultsN s.n) (hp:faultsN s.n<s.passed r):s.rFollow=some (({s with round:=r}:StB).cast 5 Dg.nil 4):=by
 unfold NS.rFollow;have e:99 - (((99 - r).toNat:Nat):Int)=r:=by omega
 refine firstR_at (k:=(99 - r).toNat) (fun i hi=>?_) ?_ (by omega)
 ·rw [if_neg (Int.not_lt.2 (h i (by omega)))]
 rw [e,if_pos hp]
theorem follow_any (h:NodeP R w x p s) (ok:Ok G s):Calls Tryz.prog 119 #[pv x] w (RuleE R w x s.rFollow):=by
 have hI:=ok.inv.num;have H:=Hd h;have r0:=hI.r0;have r1:=hI.r1;have FA:=Hd (fun W=>faults_any s.n W hI.n1 hI.n7);have PA:=Hd (fun (r:Int) W (hW:Below w.heap.size w W)=>(passed_any (h.below hW) ok.stand r).mono (fun e w' q=>show _∧Below w.heap.size w w' from ⟨q.1,hW.trans (q.2.mono hW.size)⟩));have HML:=Hd ok.mine;have HI:=Hd hI;have KEEP:=Hd (show ∀W,Below w.heap.size w W→W.cell? ⟨x,17,none⟩=some (.int .i64 s.n)∧Below w.heap.size w W from fun W hW=>⟨(h.below hW).nc.c17,hW⟩);obtain ⟨fn,hfn⟩:∃fn,fn=faultsN s.n:=⟨_,rfl⟩;have HFN:=Hd hfn;rw [←hfn] at FA;obtain ⟨rd,hrd⟩:∃rd,rd=s.round:=⟨_,rfl⟩;have HRD:=Hd hrd;rw [←hrd] at r0 r1;clear h hI hfn hrd ok;unfold pv at *;try unfold iv at *
 go_enter Tryz.func119,Tryz.ntmps119
 go_wp2_with fail
 go_loopw [3] (fun i wr=>∃r:Int,i = .int .i64 r∧rd≤r∧r≤99∧Below w.heap.size w wr∧∀j:Nat,(j:Int)<99 - r→s.passed (99 - (j:Int))≤faultsN s.n) (fun i _=>(intOf i - rd).toNat)
 case atStart=>exact ⟨99,rfl,by omega,by omega,Below.refl _ _,fun j hj=>by omega⟩
 case round=>
  obtain ⟨r,rfl,hr0,hr99,hb,hno⟩:=hrel;have HB:=Hd hb;have HNO:=Hd hno;have HN:=Hd (H.out.below hb);have d1:=HN.out.nc.c1;rw [←HRD.out] at d1;clear hb hno;obtain ⟨wk,rfl⟩:∃wk:World,wk=wr:=⟨_,rfl⟩;by_cases hlt:rd<r
  ·have d17:=HN.out.nc.c17;have PR:=Hd (PA.out r);obtain ⟨ps,hps⟩:∃ps,ps=s.passed r:=⟨_,rfl⟩;have HPS:=Hd hps;rw [←hps] at PR;clear hps;go_upto_region 4 with (fail)
   go_region_held3 (fun W=>W.cell? ⟨x,17,none⟩=some (.int .i64 s.n)∧Below w.heap.size w W)
    (first | (exact KEEP.out _ E1) | (exact KEEP.out _ HB.out.drew) | (go_split_ands;exact ⟨by assumption,by assumption⟩))
    (first
     | (go_at_call 115;refine (PR.out _ ?_).mono ?_;(go_split_ands;assumption);rintro e w2 ⟨rfl,hb⟩;have E1:=hb;clear hb)
     | (go_at_call 167;refine (FA.out _).mono ?_;rintro _ _ ⟨rfl,rfl⟩))
   have HE1:=Hd E1;clear E1 d1 d17;by_cases hp:fn<ps
   ·have HE:=Hd (show s.rFollow=some (({s with round:=r}:StB).cast 5 Dg.nil 4) from follow_at (by rw [←HRD.out];exact hlt) hr99 HNO.out (by rw [←HFN.out,←HPS.out];exact hp));have HN2:=Hd (H.out.below HE1.out);have f1:=HN2.out.nc.c1;have ffz:=HN2.out.nc.fz;have HNL:=Hd (fun W (hW:W=_)=>show NodeP R W x p {s with round:=r} from by rw [hW];exact HN2.out.set (s':={s with round:=r}) (p':=p) 1 (.int .i64 r) rfl (fun _ h=>h.same) (fun _ h=>h.same));go_wp2_with (go_at_call 173;refine (cast_any (HNL.out _ rfl) (show NumI ({s with round:=r}:StB) from ⟨HI.out.n1,HI.out.n7,HI.out.id0,HI.out.idn,HI.out.h0,HI.out.h1,by show 0≤r;omega,hr99,HI.out.st1,HI.out.st4,HI.out.c0,HI.out.c1,HI.out.vr,HI.out.lr⟩) HML.out 5 (.inr rfl) (ByteArray.mk #[]) szB_nil 4).mono ?_;rintro e w3 ⟨rfl,ht⟩;have HT:=Hd ht;clear ht)
    go_ret;rw [HE.out];exact ⟨rfl,Turned.after HE1.out (Turned.trans (Chg.set _ x 1 _ H.out.mem) (Grows.refl R _) HT.out)⟩
   have HNP:=Hd (show s.passed r≤faultsN s.n from by rw [←HFN.out,←HPS.out];exact Int.not_lt.1 hp);go_wp2
   go_roundw
   case rel=>
    refine ⟨r - 1,by go_num,by omega,by omega,HE1.out,fun j hj=>?_⟩;by_cases q:(j:Int)<99 - r
    ·exact HNO.out j q
    have:99 - (j:Int)=r:=by omega
    rw [this];exact HNP.out
   case measure=>simp [intOf];omega
  have hre:r=rd:=by omega
  subst hre;have HE:=Hd (show s.rFollow=none from follow_none (by rw [←HRD.out];exact HNO.out));go_wp2
  go_ret;rw [HE.out];exact ⟨rfl,HB.out⟩
def spr (s:StB) (r:Nat):Bool:=!(memD ((6:Int),(r:Int)) s.made) && !((s.most 6 (r:Int)).1.toList.isEmpty) && decide (faultsN s.n<(s.most 6 (r:Int)).2)
theorem spr_iff (s:StB) (r:Nat):spr s r=true↔(((6:Int),(r:Int))∉s.made∧(s.most 6 (r:Int)).1≠Dg.nil∧faultsN s.n<(s.most 6 (r:Int)).2):=by
 unfold spr;simp only [Bool.and_eq_true,Bool.not_eq_true',decide_eq_true_eq,memD_false,and_assoc];have e:(s.most 6 (r:Int)).1.toList.isEmpty=false↔(s.most 6 (r:Int)).1≠Dg.nil:=by
  constructor
  ·intro h q;rw [q] at h;exact absurd (h.symm.trans (show (ByteArray.mk #[]).toList.isEmpty=true from by simp)) (by decide)
  exact isEmpty_ne
 rw [e]
theorem spread_none (h:∀j:Nat,(j:Int)<s.round+1→spr s j=false):s.rSpread=none:=by
 unfold NS.rSpread;refine firstR_none (fun i hi=>?_);have:=h i (by omega);simp only;rw [if_neg (fun q=>by rw [(spr_iff s i).2 q] at this;cases this)]
theorem spread_at {k:Nat} (hk:(k:Int)<s.round+1) (h:∀j:Nat,j<k→spr s j=false) (hp:spr s k=true):s.rSpread=some (s.say (vote 6 (k:Int) (s.most 6 (k:Int)).1)):=by
 unfold NS.rSpread;refine firstR_at (k:=k) (fun i hi=>?_) ?_ (by omega)
 ·have:=h i hi;simp only;rw [if_neg (fun q=>by rw [(spr_iff s i).2 q] at this;cases this)]
 simp only;rw [if_pos ((spr_iff s k).1 hp)]
theorem spread_any (h:NodeP R w x p s) (ok:Ok G s):Calls Tryz.prog 117 #[pv x] w (RuleE R w x s.rSpread):=by
 have hI:=ok.inv.num;have H:=Hd h;have r0:=hI.r0;have r1:=hI.r1;have c1:=h.nc.c1;have FA:=Hd (fun W=>faults_any s.n W hI.n1 hI.n7);have MO:=Hd (fun (r:Int) W (hW:Below w.heap.size w W)=>(mostB_any (h.below hW).boxAt (by have:=hI.n1;omega) hI.n7 6 s.height r).mono (fun e w' q=>show e = .returned (.tuple #[.string (s.most 6 r).1,.int .i64 (s.most 6 r).2])∧Below w.heap.size w w' from ⟨q.1,hW.trans (q.2.mono hW.size)⟩));have HOK:=Hd ok;have HI:=Hd hI;have KEEP:=Hd (show ∀W,Below w.heap.size w W→W.cell? ⟨x,0,none⟩=some (.int .i64 s.height)∧W.cell? ⟨x,12,none⟩=some (.pointer (some ⟨p.box,0,none⟩))∧Below w.heap.size w W from fun W hW=>⟨(h.below hW).nc.c0,(h.below hW).nc.c12,hW⟩);obtain ⟨fn,hfn⟩:∃fn,fn=faultsN s.n:=⟨_,rfl⟩;have HFN:=Hd hfn;rw [←hfn] at FA;obtain ⟨rd,hrd⟩:∃rd,rd=s.round:=⟨_,rfl⟩;have HRD:=Hd hrd;rw [←hrd] at r0 r1 c1;clear h hI hfn hrd ok;unfold pv at *;try unfold iv at *
 go_enter Tryz.func117,Tryz.ntmps117
 go_wp2_with fail
 clear c1;go_loopw [12] (fun i wr=>∃k:Nat,i = .int .i64 (k:Int)∧(k:Int)≤rd+1∧Below w.heap.size w wr∧∀j:Nat,j<k→spr s j=false) (fun i _=>(rd+1 - intOf i).toNat)
 case atStart=>exact ⟨0,rfl,by omega,Below.refl _ _,fun j hj=>absurd hj (Nat.not_lt_zero _)⟩
 case round=>
  obtain ⟨k,rfl,hk,hb,hno⟩:=hrel;have HB:=Hd hb;have HNO:=Hd hno;have HN:=Hd (H.out.below hb);clear hb hno;obtain ⟨wk,rfl⟩:∃wk:World,wk=wr:=⟨_,rfl⟩;by_cases hlt:(k:Int)<rd+1
  ·have d0:=HN.out.nc.c0;have d12:=HN.out.nc.c12;have MK:=Hd (MO.out (k:Int));obtain ⟨md,hmd⟩:∃md,md=(s.most 6 (k:Int)).1:=⟨_,rfl⟩;obtain ⟨mc,hmc⟩:∃mc,mc=(s.most 6 (k:Int)).2:=⟨_,rfl⟩;have HSZ:=Hd (show szB md from by rw [hmd];exact most_sz HOK.out.inv 6 (k:Int));have HSP:=Hd (show spr s k=(!(memD ((6:Int),(k:Int)) s.made) && !(md.toList.isEmpty) && decide (fn<mc)) from by rw [hmd,hmc,HFN.out];rfl);have HMD:=Hd hmd;rw [←hmd,←hmc] at MK;clear hmd hmc;go_upto_region 4 with (fail)
   go_region_held3 (fun W=>W.cell? ⟨x,0,none⟩=some (.int .i64 s.height)∧W.cell? ⟨x,12,none⟩=some (.pointer (some ⟨p.box,0,none⟩))∧Below w.heap.size w W)
    (first | (exact KEEP.out _ E1) | (exact KEEP.out _ HB.out.drew) | (go_split_ands;exact ⟨by assumption,by assumption,by assumption⟩))
    (first
     | (go_at_call 172;refine (MK.out _ ?_).mono ?_;(go_split_ands;assumption);rintro e w2 ⟨rfl,hb⟩;have E1:=hb;clear hb))
   have HE1:=Hd E1;have HN1:=Hd (H.out.below E1);clear E1 d0 d12;have f15:=HN1.out.nc.c15;have f17:=HN1.out.nc.c17;have hlk:=HN1.out.maps.look_made 6 (k:Int);obtain ⟨wm,rfl⟩:∃wm:World,wm=w2:=⟨_,rfl⟩;rcases hm:memD ((6:Int),(k:Int)) s.made with _ | _
   ·rw [hm] at hlk HSP;rcases hem:md.toList.isEmpty with _ | _
    ·rw [hem] at HSP;by_cases hf:fn<mc
     ·have HSPT:=Hd (show spr s k=true from by rw [HSP.out];simp [hf]);have HE:=Hd (spread_at (by rw [←HRD.out];exact hlt) HNO.out HSPT.out);rw [←HMD.out] at HE;obtain ⟨s2,hs2⟩:∃s2,s2=s.say (vote 6 (k:Int) md):=⟨_,rfl⟩;have S:=Hd (say_any HN1.out (m:=vote 6 (k:Int) md) ⟨.slice none 0 0,rfl,LRow.nil R wm⟩ (Nat.zero_le _) HI.out HOK.out.mine (fun _=>say_okv HI.out (by simp [vote]) (by simp only [vote];omega) rfl rfl HSZ.out));rw [←hs2] at S HE;clear hs2 hm HSP HMD;unfold encM vote at S;unfold pv iv at S;go_wp2_with (first
       | (go_at_call 167;refine (FA.out _).mono ?_;rintro _ _ ⟨rfl,rfl⟩)
       | (go_at_call 108;refine S.out.mono ?_;rintro e w3 ⟨rfl,ht⟩;have HT:=Hd ht;clear ht))
      go_ret;rw [HE.out];exact ⟨rfl,Turned.after HE1.out HT.out⟩
     have HSPT:=Hd (show spr s k=false from by rw [HSP.out];simp [hf]);clear hm HSP HMD;go_wp2_with (first
      | (go_at_call 167;refine (FA.out _).mono ?_;rintro _ _ ⟨rfl,rfl⟩))
     go_roundw
     case rel=>
      refine ⟨k+1,by go_num,by omega,HE1.out,fun j hj=>?_⟩;rcases Nat.lt_succ_iff_lt_or_eq.1 hj with q | q
      ·exact HNO.out j q
      subst q;exact HSPT.out
     case measure=>simp [intOf];omega
    rw [hem] at HSP;have hmd:md=ByteArray.mk #[]:=toList_inj (by rw [List.isEmpty_iff.1 hem];simp);have HSPT:=Hd (show spr s k=false from by rw [HSP.out];simp);subst hmd;clear hm HSP HMD hem;go_wp2
    go_roundw
    case rel=>
     refine ⟨k+1,by go_num,by omega,HE1.out,fun j hj=>?_⟩;rcases Nat.lt_succ_iff_lt_or_eq.1 hj with q | q
     ·exact HNO.out j q
     subst q;exact HSPT.out
    case measure=>simp [intOf];omega
   rw [hm] at hlk HSP;have HSPT:=Hd (show spr s k=false from by rw [HSP.out];simp);clear hm HSP HMD;go_wp2
   go_roundw
   case rel=>
    refine ⟨k+1,by go_num,by omega,HE1.out,fun j hj=>?_⟩;rcases Nat.lt_succ_iff_lt_or_eq.1 hj with q | q
    ·exact HNO.out j q
    subst q;exact HSPT.out
   case measure=>simp [intOf];omega
  have hre:(k:Int)=rd+1:=by omega
  have HE:=Hd (show s.rSpread=none from spread_none (fun j hj=>HNO.out j (by rw [←HRD.out] at hj;omega)));go_wp2
  go_ret;rw [HE.out];exact ⟨rfl,HB.out⟩
theorem valid_none (h:∀j:Nat,(j:Int)<s.round - s.least→(s.chosenList 6 (s.round - (j:Int))).isNone=true):s.rValidate=none:=by
 unfold NS.rValidate;refine firstR_none (fun i hi=>?_);have:=h i (by omega);rw [Option.isNone_iff_eq_none.1 this]
theorem valid_at {r:Int} {v:ValB} (hr:s.least<r) (h99:r≤s.round) (h:∀j:Nat,(j:Int)<s.round - r→(s.chosenList 6 (s.round - (j:Int))).isNone=true) (hp:s.chosenList 6 r=some v):s.rValidate=some {s with valid:=some v}:=by
 unfold NS.rValidate;have e:s.round - (((s.round - r).toNat:Nat):Int)=r:=by omega
 refine firstR_at (k:=(s.round - r).toNat) (fun i hi=>?_) ?_ (by omega)
 ·have:=h i (by omega);rw [Option.isNone_iff_eq_none.1 this]
 rw [e,hp]
theorem validate_any (h:NodeP R w x p s) (ok:Ok G s) (gl:GLaw G):Calls Tryz.prog 118 #[pv x] w (RuleE R w x s.rValidate):=by
 have hI:=ok.inv.num;have H:=Hd h;have r0:=hI.r0;have r1:=hI.r1;have c1:=h.nc.c1;have c6:=h.nc.c6;have CL:=Hd (fun (r:Int) W (hW:Below w.heap.size w W)=>chosenList_any (h.below hW) hI.n1 hI.n7 (ok.coh gl) 6 r);have VP:=h.rest.valid;obtain ⟨le,hle⟩:∃le,le=s.least:=⟨_,rfl⟩;have HLE:=Hd hle;have hle0:-1≤le∧le≤99:=by
  rw [hle];unfold NS.least;rcases hv:s.valid with _ | v
  ·simp
  have:=hI.vr v hv;simp only;omega
 obtain ⟨le0,le1⟩:=hle0;have LV:(p.valid=none∧le = -1)∨∃g,p.valid=some g∧w.cell? ⟨g,0,none⟩=some (.int .i64 le):=by
  rw [hle];unfold NS.least;rcases hp:p.valid with _ | g
  ·rcases hv:s.valid with _ | v
   ·exact .inl ⟨rfl,rfl⟩
   rw [hp,hv] at VP;exact VP.elim
  rcases hv:s.valid with _ | v
  ·rw [hp,hv] at VP;exact VP.elim
  rw [hp,hv] at VP;obtain ⟨_,sl,hc,_⟩:=VP;exact .inr ⟨g,rfl,by rw [cell_of_row w g 0 _ _ _ hc];rfl⟩
 obtain ⟨rd,hrd⟩:∃rd,rd=s.round:=⟨_,rfl⟩;have HRD:=Hd hrd;rw [←hrd] at r0 r1 c1;clear h hI hle hrd ok VP;unfold pv at *;try unfold iv at *
 go_enter Tryz.func118,Tryz.ntmps118
 obtain ⟨vp,hvp⟩:∃vp,vp=po p.valid:=⟨_,rfl⟩;rw [←hvp] at c6;have LW:(vp = .pointer none∧le = -1)∨∃g,vp = .pointer (some ⟨g,0,none⟩)∧w.cell? ⟨g,0,none⟩=some (.int .i64 le):=by
  rw [hvp];rcases LV with ⟨e1,e2⟩ | ⟨g,e1,e2⟩
  ·exact .inl ⟨by rw [e1];rfl,e2⟩
  exact .inr ⟨g,by rw [e1];rfl,e2⟩
 clear LV hvp;have LB:∃b:Bool,(b=true↔vp≠.pointer none):=by
  rcases LW with ⟨rfl,_⟩ | ⟨g,rfl,_⟩
  ·exact ⟨false,by simp⟩
  exact ⟨true,by simp⟩
 obtain ⟨b,hb⟩:=LB;go_upto_region 2 with (fail)
 go_cut [12] (fun t wc=>t = .bool b∧wc=w)
 case first=>
  rcases LW with ⟨rfl,e2⟩ | ⟨g,rfl,e2⟩
  ·have:b=false:=by rcases b with _ | _;rfl;exact absurd rfl (hb.1 rfl)
   go_wp2_with fail
   go_meet;exact ⟨by rw [this],rfl⟩
  have:b=true:=hb.2 (by simp);go_wp2_with fail
  go_meet;exact ⟨by rw [this],rfl⟩
 case rest=>
 obtain ⟨rfl,rfl⟩:=hcut;obtain ⟨wv,rfl⟩:∃wv:World,wv=wc:=⟨_,rfl⟩;go_upto_if 12 with (fail)
 go_cut [3] (fun t wc=>t = .int .i64 le∧wc=wv)
 case first=>
  rcases LW with ⟨rfl,e2⟩ | ⟨g,rfl,e2⟩
  ·have hb0:b=false:=by rcases b with _ | _;rfl;exact absurd rfl (hb.1 rfl)
   subst hb0;go_wp2_with fail
   go_meet;exact ⟨by rw [e2],rfl⟩
  have hb0:b=true:=hb.2 (by simp);subst hb0;go_wp2_with fail
  go_meet;exact ⟨rfl,rfl⟩
 case rest=>
  obtain ⟨rfl,rfl⟩:=hcut;obtain ⟨w,rfl⟩:∃w:World,w=wc:=⟨_,rfl⟩;clear c6 LW hb;go_wp2_with fail
  go_loopw [4] (fun i wr=>∃r:Int,i = .int .i64 r∧-1≤r∧r≤rd∧(rd<le∨le≤r)∧Below w.heap.size w wr∧∀j:Nat,(j:Int)<rd - r→(s.chosenList 6 (rd - (j:Int))).isNone=true) (fun i _=>(intOf i - le).toNat)
  case atStart=>exact ⟨rd,rfl,by omega,by omega,by omega,Below.refl _ _,fun j hj=>by omega⟩
  case round=>
   obtain ⟨r,rfl,hr0,hr99,hrl,hb,hno⟩:=hrel;have HB:=Hd hb;have HNO:=Hd hno;clear hb hno;obtain ⟨wk,rfl⟩:∃wk:World,wk=wr:=⟨_,rfl⟩;by_cases hlt:le<r
   ·have CR:=Hd (CL.out r wk HB.out);rcases hcl:s.chosenList 6 r with _ | v
    ·have HCL:=Hd hcl;go_upto_region 7 with (fail)
     go_wp2_with (go_at_call 171;refine CR.out.mono ?_;rintro e w3 ⟨he,hb3⟩;unfold ChosenLE at he;rw [HCL.out] at he;obtain ⟨a,b,ao,n,cap,rfl⟩:=he;have HB3:=Hd hb3;clear hb3)
     go_roundw
     case rel=>
      refine ⟨r - 1,by go_num,by omega,by omega,by omega,(HB.out.trans (HB3.out.mono HB.out.size)).alloc (Nat.le_trans HB.out.size HB3.out.size) _,fun j hj=>?_⟩;by_cases q:(j:Int)<rd - r
      ·exact HNO.out j q
      have:rd - (j:Int)=r:=by omega
      rw [this,HCL.out];rfl
     case measure=>simp [intOf];omega
    have HCL:=Hd hcl;have HE:=Hd (show s.rValidate=some {s with valid:=some v} from valid_at (by rw [←HLE.out];exact hlt) (by rw [←HRD.out];exact hr99) (by rw [←HRD.out];exact HNO.out) hcl);clear hcl;go_upto_region 7 with (fail)
    go_upto_region 9 with (go_at_call 171;refine CR.out.mono ?_;rintro e w3 ⟨he,hb3⟩;unfold ChosenLE at he;rw [HCL.out] at he;obtain ⟨u,rfl,sl,rfl,ao,cap2,rfl,hcap2,hrow2⟩:=he;have HLV:=Hd (show LRow R w3 (.slice ao v.list.length cap2) v.list from ⟨ao,cap2,rfl,hcap2,hrow2⟩);clear hcap2 hrow2;unfold iv;have HB3:=Hd hb3;clear hb3)
    have HB4:=Hd (HB.out.trans (HB3.out.mono HB.out.size));have HB1:=Hd (HB4.out.alloc HB4.out.size (.cells #[.int .i64 v.round,.string v.dig,.slice ao v.list.length cap2] 120));have HR1:=Hd (World.alloc_heap_new w3 (.cells #[.int .i64 v.round,.string v.dig,.slice ao v.list.length cap2] 120));have HLV1:=Hd (HLV.out.below (fun k hk=>Nat.lt_of_lt_of_le (H.out.lt k hk) HB4.out.size) ((Below.refl w3.heap.size w3).alloc (Nat.le_refl _) (.cells #[.int .i64 v.round,.string v.dig,.slice ao v.list.length cap2] 120)));obtain ⟨wm,hwm⟩:∃wm,wm=w3.alloc (.cells #[.int .i64 v.round,.string v.dig,.slice ao v.list.length cap2] 120):=⟨_,rfl⟩;rw [←hwm] at HB1 HR1 HLV1 ⊢;clear hwm;have d6:=(H.out.below HB1.out).nc.c6;have dfz:=(H.out.below HB1.out).nc.fz;obtain ⟨g,hg⟩:∃g,g=w3.heap.size:=⟨_,rfl⟩;rw [←hg] at HR1 ⊢;have HGG:=Hd hg;clear hg;have hgl:g<wm.heap.size:=(gE HR1.out).1;have hm1:NodeP (fun k=>R k∨k=g) wm x p s:=(H.out.below HB1.out).mono (fun k hk=>.inl hk) (fun k hk=>by
     rcases hk with hk | hk
     ·exact (H.out.below HB1.out).lt k hk
     subst hk;exact hgl)
    have HNL:=Hd (hm1.put_valid (g:=g) (v:=v) (.inr rfl) HR1.out (HLV1.out.mono (fun k hk=>.inl hk)));have HCG:=Hd (show Chg R w (wm.setCell ⟨x,6,none⟩ (pv g)) from (Chg.of_below HB1.out (fun k q1 q2=>by omega)).trans (Chg.set wm x 6 _ (.inl H.out.mem)));have HGR:=Hd (show Grows R (fun k=>R k∨k=g) w from ⟨fun k hk=>.inl hk,fun k hk=>by
     rcases hk with hk | hk
     ·exact .inl hk
     exact .inr (by rw [hk,HGG.out];exact HB4.out.size)⟩)
    clear hm1 hgl;unfold pv at HNL HCG;go_wp2
    go_ret;rw [HE.out];exact ⟨rfl,_,_,HNL.out,HCG.out,HGR.out⟩
   have HE:=Hd (show s.rValidate=none from valid_none (fun j hj=>by
    rw [←HRD.out];rw [←HRD.out,←HLE.out] at hj;exact HNO.out j (by omega)))
   go_wp2
   go_ret;rw [HE.out];exact ⟨rfl,HB.out⟩
end
end
end Go.Proofs.YtifcdjmcoibblaaGreatDoor
