/- Msgo Anf Onw Onc -/
import Derived.Test.YtifcdjmcoibblaaGreatDoorLq37
import Derived.Test.YtifcdjmcoibblaaGreatDoorLq28
import Derived.StillTailTactics
import Derived.Test.YtifcdjmcoibblaaGreatDoorLq01
import Derived.Test.YtifcdjmcoibblaaGreatDoorLq34
import Derived.Test.YtifcdjmcoibblaaGreatDoorLq38
import Derived.Test.YtifcdjmcoibblaaGreatDoorLq36
set_option linter.unusedVariables false
set_option linter.unusedSimpArgs false
set_option linter.unusedSectionVars false
set_option maxRecDepth 100000
set_option maxHeartbeats 80000000
namespace Go.Proofs.YtifcdjmcoibblaaGreatDoor
section
open Go.RowKit
structure LawM (n t:Int) (m:MsgB):Prop where
 tt:m.to=t
 kind:m.kind=3∨m.kind=4∨m.kind=5∨m.kind=6
 f0:0≤m.frm
 f1:m.frm<n
 h0:0≤m.height
 h1:m.height≤1
 r0:0≤m.round
 r4:m.round≤4
 prop:m.kind=3→(∃j,j<4∧m.list=fam j∧m.dig=digV (fam j))∧-1≤m.valid∧m.valid<m.round
 vote:m.kind≠3→m.valid=0∧m.list = []∧(m.dig=Dg.nil∨∃j,j<4∧m.dig=digV (fam j))
def opV (kd A B C D x0 x1 x2 x3 x4 x5:Int) (xd:ByteArray) (xa:Option Addr) (xn xc:Nat):Value:=
 .agg #[.int .i64 kd,.int .i64 A,.int .i64 B,.int .i64 C,.int .i64 D,.int .i64 x0,.int .i64 x1,.int .i64 x2,.int .i64 x3,.int .i64 x4,.int .i64 x5,.string xd,.slice xa xn xc]
theorem tdiv_rng {c:Int} (k:Int) (h1:-9223372036854775808≤c) (h2:c≤9223372036854775807) (hk:2≤k):-9223372036854775807≤c.tdiv k∧c.tdiv k≤9223372036854775807:=by
 have e:c=k * c.tdiv k+c.tmod k:=(Int.mul_tdiv_add_tmod c k).symm;rcases Int.le_total 0 c with h | h
 ·have h3:=Int.tdiv_nonneg h (show 0≤k by omega);have h4:c.tdiv k≤c:=by
   rw [Int.tdiv_eq_ediv_of_nonneg h];exact Int.ediv_le_self k h
  omega
 have e2:c.tdiv k = -((-c).tdiv k):=by rw [Int.neg_tdiv,Int.neg_neg]
 have h3:=Int.tdiv_nonneg (show 0≤-c by omega) (show 0≤k by omega);have h4:(-c).tdiv k≤(-c) / 2:=by
  rw [Int.tdiv_eq_ediv_of_nonneg (by omega)];have h5:0≤(-c) / k:=Int.ediv_nonneg (by omega) (by omega);have h6:k * ((-c) / k)≤-c:=Int.mul_ediv_self_le (by omega);have h7:2 * ((-c) / k)≤k * ((-c) / k):=Int.mul_le_mul_of_nonneg_right hk h5;omega
 omega
theorem lrow_cell {R:Nat→Prop} {w:World} {v:Value} {l:List ByteArray} {mb off:Nat} {cs:Array Value} {f:Nat×Nat} (h:LRow R w v l) (hm:w.heap[mb]?=some (.cells cs 36 f)) (u:Value):LRow R (w.setCell ⟨mb,off,none⟩ u) v l:=
 h.kept (fun g cur fr hr hc=>Below.heap_setCell _ ⟨mb,off,none⟩ _ g (fun e=>by
  have e:g=mb:=e;subst e;rw [hm] at hc;injection hc with hc
  injection hc with _ hc _
  exact absurd hc (by decide)))
theorem lrow_cellN {w0 w:World} {v:Value} {l:List ByteArray} {mb off:Nat} {cs:Array Value} {f:Nat×Nat} (h:LRow (New w0 w) w v l) (hm:w.heap[mb]?=some (.cells cs 36 f)) (u:Value):LRow (New w0 (w.setCell ⟨mb,off,none⟩ u)) (w.setCell ⟨mb,off,none⟩ u) v l:=
 (lrow_cell h hm u).mono (fun k hk=>⟨hk.1,by simpa [World.setCell] using hk.2⟩)
theorem lrow_belowN {w0 w w':World} {v:Value} {l:List ByteArray} (h:LRow (New w0 w) w v l) (hb:Below w.heap.size w w'):LRow (New w0 w') w' v l:=
 (h.kept (fun g cur fr hr _=>hb.block g hr.2)).mono (fun k hk=>⟨hk.1,Nat.lt_of_lt_of_le hk.2 hb.size⟩)
section
variable (kd A B C D x0 x1 x2 x3 x4 x5:Int) (xd:ByteArray) (xa:Option Addr) (xn xc:Nat) (n t:Int) (w:World)
theorem message_any (hA:-9223372036854775808≤A∧A≤9223372036854775807) (hB:-9223372036854775808≤B∧B≤9223372036854775807) (hC:-9223372036854775808≤C∧C≤9223372036854775807) (hD:-9223372036854775808≤D∧D≤9223372036854775807) (hn:1≤n∧n≤7) (hG:Glob w) :
  Calls Tryz.prog 27 #[.int .i64 n,.int .i64 t,opV kd A B C D x0 x1 x2 x3 x4 x5 xd xa xn xc] w fun e w'=>∃m sl,e = .returned (.agg (encM m sl))∧LRow (New w w') w' sl m.list∧LawM n t m∧Below w.heap.size w w':=by
 obtain ⟨k1,hk1,pA⟩:=pickZ_nat A 4 (by omega);obtain ⟨N,hN⟩:∃N:Nat,n=(N:Int):=⟨n.toNat,by omega⟩;subst hN;obtain ⟨b1,hb1,pB⟩:=pickZ_nat B N (by omega);obtain ⟨c1,hc1,pC⟩:=pickZ_nat C 8 (by omega);have rC:=tdiv_rng 8 hC.1 hC.2 (by omega);obtain ⟨c8,hc8⟩:∃c8,C.tdiv 8=c8:=⟨_,rfl⟩;rw [hc8] at rC;obtain ⟨r1,hr1,pR⟩:=pickZ_nat c8 5 (by omega);obtain ⟨d1,hd1,pD⟩:=pickZ_nat D 5 (by omega);have rD:=tdiv_rng 5 hD.1 hD.2 (by omega);obtain ⟨d5,hd5⟩:∃d5,D.tdiv 5=d5:=⟨_,rfl⟩;rw [hd5] at rD;obtain ⟨v1,hv1,pV⟩:=pickZ_nat d5 (r1+1) (by omega);have rA:=tdiv_rng 4 hA.1 hA.2 (by omega);obtain ⟨a4,ha4⟩:∃a4,A.tdiv 4=a4:=⟨_,rfl⟩;rw [ha4] at rA;obtain ⟨g1,hg1,pG⟩:=pickZ_nat a4 3 (by omega);have PK:=Hd (show ∀(c n:Int) (q:Nat),-9223372036854775808≤c→c≤9223372036854775807→1≤n→n≤9223372036854775807→pickZ c n=(q:Int)→∀W,Calls Tryz.prog 14 #[.int .i64 c,.int .i64 n] W fun e w'=>e = .returned (.int .i64 (q:Int))∧w'=W from fun c n q c1 c2 n1 n2 hq W=>(pick_any c n W c1 c2 n1 n2).mono fun e w' q=>⟨by rw [q.1];exact congrArg _ (congrArg _ hq),q.2.symm⟩);have PA:=Hd (PK.out A 4 k1 hA.1 hA.2 (by omega) (by omega) pA);have PB:=Hd (PK.out B (N:Int) b1 hB.1 hB.2 (by omega) (by omega) pB);have PC:=Hd (PK.out C 8 c1 hC.1 hC.2 (by omega) (by omega) pC);have PR:=Hd (PK.out c8 5 r1 (by omega) (by omega) (by omega) (by omega) pR);have PD:=Hd (PK.out D 5 d1 hD.1 hD.2 (by omega) (by omega) pD);have PV:=Hd (PK.out d5 ((r1:Int)+1) v1 (by omega) (by omega) (by omega) (by omega) (by rw [←pV];rfl));have PG:=Hd (PK.out a4 3 g1 (by omega) (by omega) (by omega) (by omega) pG);have HGL:=Hd hG;obtain ⟨h1,hh1⟩:∃h1,((c1:Int)).tdiv 7=h1:=⟨_,rfl⟩;have rH:0≤h1∧h1≤1:=by
  rw [←hh1,Int.tdiv_eq_ediv_of_nonneg (by omega)];omega
 have k0:(0:Int)≤(k1:Int):=by omega
 have k3:(k1:Int)≤3:=by omega
 have b0:(0:Int)≤(b1:Int):=by omega
 have bN:(b1:Int)<(N:Int):=by omega
 have N7:(N:Int)≤7:=hn.2;have c0:(0:Int)≤(c1:Int):=by omega
 have c7:(c1:Int)≤7:=by omega
 have r0:(0:Int)≤(r1:Int):=by omega
 have r4:(r1:Int)≤4:=by omega
 have d0:(0:Int)≤(d1:Int):=by omega
 have d4:(d1:Int)≤4:=by omega
 have v0:(0:Int)≤(v1:Int):=by omega
 have v4:(v1:Int)≤(r1:Int):=by omega
 have g0:(0:Int)≤(g1:Int):=by omega
 have g2:(g1:Int)≤2:=by omega
 have HR:=Hd (And.intro hA (And.intro hB (And.intro hC hD)));obtain ⟨h10,h11⟩:=rH;clear hA hB hC hD pA pB pC pR pD pV pG PK hG hk1 hb1 hc1 hr1 hd1 hv1 hg1;obtain ⟨ob,hob⟩:∃ob,ob=w.heap.size:=⟨_,rfl⟩;have HOB:=Hd hob;clear hob;unfold opV;go_enter Tryz.func27,Tryz.ntmps27
 go_upto_region 1 with (fail)
 rw [←HOB.out];obtain ⟨wo,hwo⟩:∃wo,wo=w.alloc (.cells #[.int .i64 kd,.int .i64 A,.int .i64 B,.int .i64 C,.int .i64 D,.int .i64 x0,.int .i64 x1,.int .i64 x2,.int .i64 x3,.int .i64 x4,.int .i64 x5,.string xd,.slice xa xn xc] 52):=⟨_,rfl⟩;have HWO:=Hd (show wo.heap[ob]?=some (.cells #[.int .i64 kd,.int .i64 A,.int .i64 B,.int .i64 C,.int .i64 D,.int .i64 x0,.int .i64 x1,.int .i64 x2,.int .i64 x3,.int .i64 x4,.int .i64 x5,.string xd,.slice xa xn xc] 52 (0,0)) from by rw [hwo,HOB.out];exact World.alloc_heap_new w _);have HBO:=Hd (show Below w.heap.size w wo from by rw [hwo];exact (Below.refl _ w).alloc (Nat.le_refl _) _);have HSO:=Hd (show wo.heap.size=ob+1 from by rw [hwo,HOB.out];simp);rw [←hwo];have hso:=HSO.out;rw [←hso];clear hwo hso;obtain ⟨rb,hrb⟩:∃rb,rb=wo.heap.size:=⟨_,rfl⟩;have HRB:=Hd hrb;rw [←hrb];obtain ⟨wa,hwa⟩:∃wa,wa=wo.alloc (.cells #[.int .i64 0,.int .i64 0,.int .i64 0,.int .i64 0,.int .i64 0,.int .i64 0,.string (ByteArray.mk #[]),.slice none 0 0] 36):=⟨_,rfl⟩;have HBA:=Hd (show Below wo.heap.size wo wa from by rw [hwa];exact (Below.refl _ _).alloc (Nat.le_refl _) _);have HRR:=Hd (show wa.heap[rb]?=some (.cells #[.int .i64 0,.int .i64 0,.int .i64 0,.int .i64 0,.int .i64 0,.int .i64 0,.string (ByteArray.mk #[]),.slice none 0 0] 36 (0,0)) from by rw [hwa,hrb];exact World.alloc_heap_new wo _);rw [←hwa];clear hwa hrb;have HWA:=Hd (show wa.heap[ob]?=_ from (HBA.out.block ob (gE HWO.out).1).trans HWO.out);have HBW:=Hd (HBO.out.trans (HBA.out.mono HBO.out.size));have o1:=cell_of_row wa ob 1 _ _ _ HWA.out;have o2:=cell_of_row wa ob 2 _ _ _ HWA.out;have o3:=cell_of_row wa ob 3 _ _ _ HWA.out;simp at o1 o2 o3;have o1a:=cell_up o1 (.cells #[.int .i64 0,.int .i64 0,.int .i64 0,.int .i64 0,.int .i64 0,.int .i64 0,.string (ByteArray.mk #[]),.slice none 0 0] 36);have o2a:=cell_up o2 (.cells #[.int .i64 0,.int .i64 0,.int .i64 0,.int .i64 0,.int .i64 0,.int .i64 0,.string (ByteArray.mk #[]),.slice none 0 0] 36);have o3a:=cell_up o3 (.cells #[.int .i64 0,.int .i64 0,.int .i64 0,.int .i64 0,.int .i64 0,.int .i64 0,.string (ByteArray.mk #[]),.slice none 0 0] 36);have ew1:IntKind.wrap .i64 (3+(k1:Int))=3+(k1:Int):=by rw [IntKind.wrap_i64];omega
 have ew2:IntKind.wrap .i64 h1=h1:=by rw [IntKind.wrap_i64];omega
 have ew3:IntKind.wrap .i64 c8=c8:=by rw [IntKind.wrap_i64];omega
 obtain ⟨mb,hmb⟩:∃mb,mb=wa.heap.size:=⟨_,rfl⟩;have HMB:=Hd hmb;clear hmb;go_cut [7] (fun v wc=>v = .pointer (some ⟨mb,0,none⟩)∧wc.heap[mb]?=some (.cells #[.int .i64 (3+(k1:Int)),.int .i64 (b1:Int),.int .i64 t,.int .i64 h1,.int .i64 (r1:Int),.int .i64 0,.string (ByteArray.mk #[]),.slice none 0 0] 36 (0,0))∧Below wa.heap.size wa wc)
 case first=>
  have KEEP:=Hd (show ∀W,Below wa.heap.size wa W→W.cell? ⟨ob,1,none⟩=some (.int .i64 A)∧W.cell? ⟨ob,2,none⟩=some (.int .i64 B)∧W.cell? ⟨ob,3,none⟩=some (.int .i64 C)∧Below wa.heap.size wa W from fun W hW=>by
   have hr:=(hW.block ob (gE HWA.out).1).trans HWA.out;refine ⟨?_,?_,?_,hW⟩
   ·rw [cell_of_row W ob 1 _ _ _ hr];rfl
   ·rw [cell_of_row W ob 2 _ _ _ hr];rfl
   rw [cell_of_row W ob 3 _ _ _ hr];rfl)
  clear o1a o2a o3a;go_region_held3 (fun W=>W.cell? ⟨ob,1,none⟩=some (.int .i64 A)∧W.cell? ⟨ob,2,none⟩=some (.int .i64 B)∧W.cell? ⟨ob,3,none⟩=some (.int .i64 C)∧Below wa.heap.size wa W)
   (first | (exact KEEP.out _ (Below.refl _ wa).drew) | (exact KEEP.out _ ((Below.refl _ wa).drew.alloc (Nat.le_refl _) _)) | (exact KEEP.out _ ((((((((((Below.refl _ wa).drew.alloc (Nat.le_refl _) _).setCell (Nat.le_refl _) _).setCell (Nat.le_refl _) _).setCell (Nat.le_refl _) _).setCell (Nat.le_refl _) _).setCell (Nat.le_refl _) _).setCell (Nat.le_refl _) _).setCell (Nat.le_refl _) _).setCell (Nat.le_refl _) _)))
   (first
    | (go_at_call 14;(with_reducible refine (PA.out _).mono ?_);rintro e w9 ⟨rfl,rfl⟩)
    | (go_at_call 14;(with_reducible refine (PB.out _).mono ?_);rintro e w9 ⟨rfl,rfl⟩)
    | (go_at_call 14;(with_reducible refine (PC.out _).mono ?_);rintro e w9 ⟨rfl,rfl⟩)
    | (go_at_call 14;(with_reducible refine (PR.out _).mono ?_);rintro e w9 ⟨rfl,rfl⟩))
  all_goals (
   go_wp2_with fail
   go_meet;rw [HMB.out];exact ⟨rfl,World.alloc_heap_new wa _,((Below.refl _ wa).alloc (Nat.le_refl _) _).drew⟩)
 case rest=>
 obtain ⟨rfl,hmr,hbm⟩:=hcut;obtain ⟨w1,rfl⟩:∃w1:World,w1=wc:=⟨_,rfl⟩;have HM1:=Hd hmr;have HB1:=Hd (HBW.out.trans (hbm.mono HBW.out.size));have HW1:=Hd ((hbm.block ob (gE HWA.out).1).trans HWA.out);have HR1:=Hd ((hbm.block rb (gE HRR.out).1).trans HRR.out);have HMW:=Hd (show w.heap.size≤mb from by rw [HMB.out];exact HBW.out.size);have HMO:=Hd (show ob≠mb from fun e=>by
  have:=(gE HWA.out).1;rw [HMB.out] at e;omega)
 have HMR:=Hd (show rb≠mb from fun e=>by
  have:=(gE HRR.out).1;rw [HMB.out] at e;omega)
 clear o1 o2 o3 o1a o2a o3a hmr hbm HWA HRR HBW HBA;have o4:=cell_of_row w1 ob 4 _ _ _ HW1.out;simp at o4;have m0:=cell_of_row w1 mb 0 _ _ _ HM1.out;simp at m0;obtain ⟨j4,hj4⟩:∃j4,j4=d1 % 4:=⟨_,rfl⟩;have hj5:(d1:Int).tmod 4=(j4:Int):=by rw [hj4,Int.tmod_eq_emod_of_nonneg (by omega)];omega
 have HJ4:=Hd (show j4<4 from by rw [hj4];exact Nat.mod_lt _ (by decide));have HJD:=Hd (show d1<4→j4=d1 from fun h=>by rw [hj4];exact Nat.mod_eq_of_lt h);clear hj4;have j40:(0:Int)≤(j4:Int):=by omega
 have j44:(j4:Int)<4:=by have:=HJ4.out;omega
 go_upto_region 3 with (go_at_call 14;(with_reducible refine (PD.out _).mono ?_);rintro e wq ⟨rfl,hwq⟩;rw [hwq];clear hwq wq)
 obtain ⟨b3,hb3⟩:∃b3,b3=decide (k1=0):=⟨_,rfl⟩;have HB3:=Hd hb3;clear hb3;go_cut [32] (fun v wc=>v = .bool b3∧wc=w1)
 case first=>
  by_cases hk:k1=0
  ·have y1:((3+(k1:Int)) == 3)=true:=by simp;omega
   have HE:=Hd (show b3=true from by rw [HB3.out];exact decide_eq_true hk);go_wp2_with fail
   go_meet;exact ⟨by rw [HE.out],rfl⟩
  have y1:((3+(k1:Int)) == 3)=false:=by simp;omega
  have HE:=Hd (show b3=false from by rw [HB3.out];exact decide_eq_false hk);go_wp2_with fail
  go_meet;exact ⟨by rw [HE.out],rfl⟩
 case rest=>
 obtain ⟨rfl,hw⟩:=hcut;rw [hw];clear hw;go_upto_if 32 with (fail)
 go_cut [] (fun wc=>∃(fr vd:Int) (ls:List ByteArray) (ao:Option Addr) (cap:Nat),wc.heap[mb]?=some (.cells #[.int .i64 (3+(k1:Int)),.int .i64 fr,.int .i64 t,.int .i64 h1,.int .i64 (r1:Int),.int .i64 vd,.string (ByteArray.mk #[]),.slice ao ls.length cap] 36 (0,0))∧0≤fr∧fr<(N:Int)∧LRow (New w wc) wc (.slice ao ls.length cap) ls∧(b3=true→ls=fam j4∧-1≤vd∧vd<(r1:Int))∧(b3=false→vd=0∧ls = [])∧Below w.heap.size w wc∧wc.heap[ob]?=w1.heap[ob]?∧wc.heap[rb]?=w1.heap[rb]?)
 case first=>
  rcases b3 with _ | _
  ·go_wp2_with fail
   go_meet;exact ⟨(b1:Int),0,[],none,0,HM1.out,b0,bN,LRow.nil _ _,fun h=>(by cases h),fun _=>⟨rfl,rfl⟩,HB1.out,rfl,rfl⟩
  skip
  have o1:=cell_of_row w1 ob 1 _ _ _ HW1.out;simp at o1;have m0:=cell_of_row w1 mb 0 _ _ _ HM1.out;have m1:=cell_of_row w1 mb 1 _ _ _ HM1.out;have m2:=cell_of_row w1 mb 2 _ _ _ HM1.out;have m3:=cell_of_row w1 mb 3 _ _ _ HM1.out;have m4:=cell_of_row w1 mb 4 _ _ _ HM1.out;have m5:=cell_of_row w1 mb 5 _ _ _ HM1.out;have m6:=cell_of_row w1 mb 6 _ _ _ HM1.out;have m7:=cell_of_row w1 mb 7 _ _ _ HM1.out;have mf:=fun o=>frozen_of_row w1 mb o _ _ HM1.out;simp at m0 m1 m2 m3 m4 m5 m6 m7;have ew4:IntKind.wrap .i64 d5=d5:=by rw [IntKind.wrap_i64];omega
  go_upto_region 5 with (go_at_call 14;(with_reducible refine (PV.out _).mono ?_);rintro e wq ⟨rfl,hwq⟩;rw [hwq];clear hwq wq)
  obtain ⟨w2,hw2⟩:∃w2,w2=w1.setCell ⟨mb,5,none⟩ (.int .i64 ((v1:Int) - 1)):=⟨_,rfl⟩;have HM2:=Hd (show w2.heap[mb]?=some (.cells #[.int .i64 (3+(k1:Int)),.int .i64 (b1:Int),.int .i64 t,.int .i64 h1,.int .i64 (r1:Int),.int .i64 ((v1:Int) - 1),.string (ByteArray.mk #[]),.slice none 0 0] 36 (0,0)) from by rw [hw2];exact heap_setC HM1.out _);have HB2:=Hd (show Below w.heap.size w w2 from by rw [hw2];exact HB1.out.setCell HMW.out _);have HO2:=Hd (show w2.heap[ob]?=w1.heap[ob]? from by rw [hw2];exact Below.heap_setCell _ ⟨mb,5,none⟩ _ ob HMO.out);have HR2:=Hd (show w2.heap[rb]?=w1.heap[rb]? from by rw [hw2];exact Below.heap_setCell _ ⟨mb,5,none⟩ _ rb HMR.out);rw [←hw2];clear hw2 m0 m1 m2 m3 m4 m5 m6 m7 mf o1 o4;have HG2:=Hd (HGL.out.later HB2.out);have m0:=cell_of_row w2 mb 0 _ _ _ HM2.out;have m1:=cell_of_row w2 mb 1 _ _ _ HM2.out;have m2:=cell_of_row w2 mb 2 _ _ _ HM2.out;have m3:=cell_of_row w2 mb 3 _ _ _ HM2.out;have m4:=cell_of_row w2 mb 4 _ _ _ HM2.out;have m5:=cell_of_row w2 mb 5 _ _ _ HM2.out;have m6:=cell_of_row w2 mb 6 _ _ _ HM2.out;have m7:=cell_of_row w2 mb 7 _ _ _ HM2.out;have mf:=fun o=>frozen_of_row w2 mb o _ _ HM2.out;simp at m0 m1 m2 m3 m4 m5 m6 m7;go_upto_region 6 with (go_at_call 17;(with_reducible refine (lists_any _).mono ?_);rintro e w3 ⟨g,rfl,hb3,hl3⟩;obtain ⟨vl,c1,r1⟩:=hl3.cell j4 HJ4.out;rw [lst_fam HJ4.out] at r1;obtain ⟨aol,capl,rfl,_⟩:=id r1;have R3:=Hd r1;have B3:=Hd hb3;clear hb3 hl3 r1;have HM3:=Hd ((B3.out.block mb (gE HM2.out).1).trans HM2.out);clear m0 m1 m2 m3 m4 m5 m6 m7 mf;have m7:=cell_of_row w3 mb 7 _ _ _ HM3.out;have mf:=fun o=>frozen_of_row w3 mb o _ _ HM3.out;simp at m7)
  obtain ⟨w4,hw4⟩:∃w4,w4=w3.setCell ⟨mb,7,none⟩ (.slice aol (fam j4).length capl):=⟨_,rfl⟩;have HM4:=Hd (show w4.heap[mb]?=some (.cells #[.int .i64 (3+(k1:Int)),.int .i64 (b1:Int),.int .i64 t,.int .i64 h1,.int .i64 (r1:Int),.int .i64 ((v1:Int) - 1),.string (ByteArray.mk #[]),.slice aol (fam j4).length capl] 36 (0,0)) from by rw [hw4];exact heap_setC HM3.out _);have HB4:=Hd (show Below w.heap.size w w4 from by rw [hw4];exact (HB2.out.trans (B3.out.mono HB2.out.size)).setCell HMW.out _);have HO4:=Hd (show w4.heap[ob]?=w1.heap[ob]? from by
   rw [hw4,Below.heap_setCell _ ⟨mb,7,none⟩ _ ob HMO.out,B3.out.block ob (gE (HO2.out.trans HW1.out)).1];exact HO2.out)
  have HR4:=Hd (show w4.heap[rb]?=w1.heap[rb]? from by
   rw [hw4,Below.heap_setCell _ ⟨mb,7,none⟩ _ rb HMR.out,B3.out.block rb (gE (HR2.out.trans HR1.out)).1];exact HR2.out)
  have HL4:=Hd (show LRow (fun k=>New w w4 k∧k≠mb) w4 (.slice aol (fam j4).length capl) (fam j4) from by
   have hn:∀k,New w2 w3 k→k≠mb:=fun k hk e=>by
    have:=(gE HM2.out).1;have:=hk.1;omega
   refine (R3.out.kept (fun g cur fr hr _=>?_)).mono (fun k hk=>⟨⟨Nat.le_trans HB2.out.size hk.1,?_⟩,hn k hk⟩)
   ·rw [hw4];exact Below.heap_setCell _ ⟨mb,7,none⟩ _ g (hn g hr)
   rw [hw4];simpa [World.setCell] using hk.2)
  rw [←hw4];clear hw4 m7 mf;have o1:=cell_of_row w4 ob 1 _ _ _ (HO4.out.trans HW1.out);simp at o1;have m0:=cell_of_row w4 mb 0 _ _ _ HM4.out;have m1:=cell_of_row w4 mb 1 _ _ _ HM4.out;have m2:=cell_of_row w4 mb 2 _ _ _ HM4.out;have m3:=cell_of_row w4 mb 3 _ _ _ HM4.out;have m4:=cell_of_row w4 mb 4 _ _ _ HM4.out;have m5:=cell_of_row w4 mb 5 _ _ _ HM4.out;have m6:=cell_of_row w4 mb 6 _ _ _ HM4.out;have m7:=cell_of_row w4 mb 7 _ _ _ HM4.out;have mf:=fun o=>frozen_of_row w4 mb o _ _ HM4.out;simp at m0 m1 m2 m3 m4 m5 m6 m7;have ew5:IntKind.wrap .i64 a4=a4:=by rw [IntKind.wrap_i64];omega
  have hN0:¬(N:Int)=0:=by omega
  obtain ⟨fr,hfr⟩:∃fr,(h1+(r1:Int)).tmod (N:Int)=fr:=⟨_,rfl⟩;have rF:0≤fr∧fr<(N:Int):=by
   rw [←hfr,Int.tmod_eq_emod_of_nonneg (by omega)];exact ⟨Int.emod_nonneg _ (by omega),Int.emod_lt_of_pos _ (by omega)⟩
  obtain ⟨rF0,rF1⟩:=rF;by_cases hg:g1=0
  ·have y1:¬(0:Int)<(g1:Int):=by omega
   go_wp2_with (go_at_call 14;(with_reducible refine (PG.out _).mono ?_);rintro e wq ⟨rfl,hwq⟩;rw [hwq];clear hwq wq)
   go_meet;exact ⟨(b1:Int),(v1:Int) - 1,fam j4,aol,capl,HM4.out,b0,bN,HL4.out.mono (fun k hk=>hk.1),fun _=>⟨rfl,by omega,by omega⟩,fun h=>(by cases h),HB4.out,HO4.out,HR4.out⟩
  have y1:(0:Int)<(g1:Int):=by omega
  go_wp2_with (go_at_call 14;(with_reducible refine (PG.out _).mono ?_);rintro e wq ⟨rfl,hwq⟩;rw [hwq];clear hwq wq)
  go_meet;refine ⟨fr,(v1:Int) - 1,fam j4,aol,capl,heap_setC HM4.out _,rF0,rF1,?_,fun _=>⟨rfl,by omega,by omega⟩,fun h=>(by cases h),HB4.out.setCell HMW.out _,?_,?_⟩
  ·exact (HL4.out.kept (fun g cur fr hr _=>Below.heap_setCell _ ⟨mb,1,none⟩ _ g hr.2)).mono (fun k hk=>⟨hk.1.1,by simpa [World.setCell] using hk.1.2⟩)
  ·rw [Below.heap_setCell _ ⟨mb,1,none⟩ _ ob HMO.out];exact HO4.out
  rw [Below.heap_setCell _ ⟨mb,1,none⟩ _ rb HMR.out];exact HR4.out
 case rest=>
  obtain ⟨fr,vd,ls,ao,cap,hm5,f0,f1,hl5,hp5,hv5,hb5,ho5,hr5⟩:=hcut;obtain ⟨w5,rfl⟩:∃w5:World,w5=wc:=⟨_,rfl⟩;have HM5:=Hd hm5;have HB5:=Hd hb5;have HR5:=Hd hr5;have HL5:=Hd hl5;have HP5:=Hd (And.intro hp5 hv5);have HG5:=Hd (HGL.out.later hb5);have HLS:=Hd (show ls.length≤60∧ascS ls=true from by
   rcases b3 with _ | _
   ·rw [(hv5 rfl).2];exact ⟨Nat.zero_le _,by decide +kernel⟩
   rw [(hp5 rfl).1];exact ⟨fam_len,asc_fam (Nat.lt_of_lt_of_le HJ4.out (by decide))⟩)
  obtain ⟨ln,hln⟩:∃ln,ln=ls.length:=⟨_,rfl⟩;have HLN:=Hd hln;clear hm5 hb5 ho5 hr5 hl5 hp5 hv5;rw [←hln] at HM5 HL5;clear hln;go_upto_region 8 with (fail)
  obtain ⟨b4,hb4⟩:∃b4,b4=decide (d1<4):=⟨_,rfl⟩;have HB4:=Hd hb4;clear hb4;go_cut [62] (fun v wc=>v = .bool b4∧wc=w5)
  case first=>
   by_cases hd:d1<4
   ·have y1:(d1:Int)<4:=by omega
    have HE:=Hd (show b4=true from by rw [HB4.out];exact decide_eq_true hd);go_wp2_with fail
    go_meet;exact ⟨by rw [HE.out],rfl⟩
   have y1:¬(d1:Int)<4:=by omega
   have HE:=Hd (show b4=false from by rw [HB4.out];exact decide_eq_false hd);go_wp2_with fail
   go_meet;exact ⟨by rw [HE.out],rfl⟩
  case rest=>
  obtain ⟨rfl,hw⟩:=hcut;rw [hw];clear hw;go_upto_if 62 with (fail)
  go_cut [] (fun wc=>∃dg:ByteArray,wc.heap[mb]?=some (.cells #[.int .i64 (3+(k1:Int)),.int .i64 fr,.int .i64 t,.int .i64 h1,.int .i64 (r1:Int),.int .i64 vd,.string dg,.slice ao ln cap] 36 (0,0))∧(b4=true→dg=digV (fam d1))∧(b4=false→dg=Dg.nil)∧Below w.heap.size w wc∧LRow (New w wc) wc (.slice ao ln cap) ls∧wc.heap[rb]?=w5.heap[rb]?)
  case first=>
   rcases b4 with _ | _
   ·go_wp2_with fail
    go_meet;exact ⟨Dg.nil,HM5.out,fun h=>(by cases h),fun _=>rfl,HB5.out,HL5.out,rfl⟩
   have hd4:d1<4:=of_decide_eq_true HB4.out.symm;have y1:(d1:Int)<4:=by omega
   go_wp2_with (first
    | (go_at_call 17;(with_reducible refine (lists_any _).mono ?_);rintro e w7 ⟨g,rfl,hb7,hl7⟩;obtain ⟨vl,c1,r1⟩:=hl7.cell d1 hd4;rw [lst_fam hd4] at r1;obtain ⟨aol,capl,rfl,_⟩:=id r1;have B7:=Hd hb7;have DG:=Hd (show Calls Tryz.prog 26 #[.slice aol (fam d1).length capl] w7 fun e w'=>e = .returned (.string (digV (fam d1)))∧Below w7.heap.size w7 w' from by
      obtain ⟨a3,c3,he,_,hrow3⟩:=r1.row;injection he with e1 e2 e3
      subst e1 e3;rw [digV_asc (asc_fam (Nat.lt_of_lt_of_le hd4 (by decide)))];exact rdigest_any aol _ capl (fam d1) w7 rfl fam_len hrow3 (asc_fam (Nat.lt_of_lt_of_le hd4 (by decide))));clear hb7 hl7 r1)
    | (go_at_call 26;(with_reducible refine DG.out.mono ?_);rintro e w8 ⟨rfl,hb8⟩;have B8:=Hd (B7.out.trans (hb8.mono B7.out.size));have HM8:=Hd ((B8.out.block mb (gE HM5.out).1).trans HM5.out);clear hb8;have m6:=cell_of_row w8 mb 6 _ _ _ HM8.out;have mf:=fun o=>frozen_of_row w8 mb o _ _ HM8.out;simp at m6))
   go_meet;exact ⟨digV (fam d1),heap_setC HM8.out _,fun _=>rfl,fun h=>(by cases h),(HB5.out.trans (B8.out.mono HB5.out.size)).setCell HMW.out _,lrow_cellN (lrow_belowN HL5.out B8.out) HM8.out _,by
    rw [Below.heap_setCell _ ⟨mb,6,none⟩ _ rb HMR.out];exact B8.out.block rb (gE (HR5.out.trans HR1.out)).1⟩
  case rest=>
  obtain ⟨dg,hm6,hg6,hn6,hb6,hl6,hr6⟩:=hcut;obtain ⟨w6,rfl⟩:∃w6:World,w6=wc:=⟨_,rfl⟩;have HM6:=Hd hm6;have HD6:=Hd (And.intro hg6 hn6);have HB6:=Hd hb6;have HL6:=Hd hl6;have HR6:=Hd (hr6.trans (HR5.out.trans HR1.out));clear hm6 hg6 hn6 hb6 hl6 hr6;have m0:=cell_of_row w6 mb 0 _ _ _ HM6.out;simp at m0;go_upto_region 10 with (fail)
  obtain ⟨b5,hb5⟩:∃b5,b5=(b3 && decide (d1=4)):=⟨_,rfl⟩;have HB5':=Hd hb5;clear hb5;go_cut [8,75] (fun u v wc=>u = .int .i64 (d1:Int)∧v = .bool b5∧wc=w6)
  case first=>
   rcases b3 with _ | _
   ·have y1:((3+(k1:Int)) == 3)=false:=by
     have:=of_decide_eq_false HB3.out.symm;simp;omega
    have HE:=Hd (show b5=false from by rw [HB5'.out];rfl);go_wp2_with fail
    go_meet;exact ⟨rfl,by rw [HE.out],rfl⟩
   have y1:((3+(k1:Int)) == 3)=true:=by
    have:=of_decide_eq_true HB3.out.symm;simp;omega
   by_cases hd:d1=4
   ·have HD:=Hd hd;have y2:((d1:Int) == 4)=true:=by simp;omega
    have HE:=Hd (show b5=true from by rw [HB5'.out,decide_eq_true hd];rfl);go_wp2_with fail
    go_meet;exact ⟨(by first | rfl | (rw [HD.out];rfl)),by rw [HE.out],rfl⟩
   have y2:((d1:Int) == 4)=false:=by simp;omega
   have HE:=Hd (show b5=false from by rw [HB5'.out,decide_eq_false hd];rfl);go_wp2_with fail
   go_meet;exact ⟨rfl,by rw [HE.out],rfl⟩
  case rest=>
  obtain ⟨rfl,rfl,hw⟩:=hcut;rw [hw];clear hw m0;go_upto_if 75 with (fail)
  go_cut [] (fun wc=>∃dg2:ByteArray,wc.heap[mb]?=some (.cells #[.int .i64 (3+(k1:Int)),.int .i64 fr,.int .i64 t,.int .i64 h1,.int .i64 (r1:Int),.int .i64 vd,.string dg2,.slice ao ln cap] 36 (0,0))∧(b5=true→dg2=digV ls)∧(b5=false→dg2=dg)∧Below w.heap.size w wc∧LRow (New w wc) wc (.slice ao ln cap) ls∧wc.heap[rb]?=w6.heap[rb]?)
  case first=>
   rcases b5 with _ | _
   ·go_wp2_with fail
    go_meet;exact ⟨dg,HM6.out,fun h=>(by cases h),fun _=>rfl,HB6.out,HL6.out,rfl⟩
   have DG:=Hd (show Calls Tryz.prog 26 #[.slice ao ln cap] w6 fun e w'=>e = .returned (.string (digV ls))∧Below w6.heap.size w6 w' from by
    obtain ⟨a3,c3,he,_,hrow3⟩:=HL6.out.row;rw [HLN.out] at he;injection he with e1 e2 e3
    subst e1 e3;rw [HLN.out,digV_asc HLS.out.2];exact rdigest_any ao _ cap ls w6 rfl HLS.out.1 hrow3 HLS.out.2)
   have m7:=cell_of_row w6 mb 7 _ _ _ HM6.out;simp at m7;go_wp2_with (go_at_call 26;(with_reducible refine DG.out.mono ?_);rintro e w8 ⟨rfl,hb8⟩;have B8:=Hd hb8;have HM8:=Hd ((B8.out.block mb (gE HM6.out).1).trans HM6.out);clear hb8;have m6:=cell_of_row w8 mb 6 _ _ _ HM8.out;have mf:=fun o=>frozen_of_row w8 mb o _ _ HM8.out;simp at m6)
   go_meet;exact ⟨digV ls,heap_setC HM8.out _,fun _=>rfl,fun h=>(by cases h),(HB6.out.trans (B8.out.mono HB6.out.size)).setCell HMW.out _,lrow_cellN (lrow_belowN HL6.out B8.out) HM8.out _,by
    rw [Below.heap_setCell _ ⟨mb,6,none⟩ _ rb HMR.out];exact B8.out.block rb (gE HR6.out).1⟩
  case rest=>
  obtain ⟨dg2,hm7,hg7,hn7,hb7,hl7,hr7⟩:=hcut;obtain ⟨w7,rfl⟩:∃w7:World,w7=wc:=⟨_,rfl⟩;have HM7:=Hd hm7;have HD7:=Hd (And.intro hg7 hn7);have HB7:=Hd hb7;have HL7:=Hd hl7;have HR7:=Hd (hr7.trans HR6.out);have HLAW:=Hd (show LawM (N:Int) t (⟨3+(k1:Int),fr,t,h1,(r1:Int),vd,dg2,ls⟩:MsgB) from by
   refine ⟨rfl,by show 3+(k1:Int)=3∨3+(k1:Int)=4∨3+(k1:Int)=5∨3+(k1:Int)=6;omega,f0,f1,h10,h11,r0,r4,fun hk=>?_,fun hk=>?_⟩
   ·have hk:3+(k1:Int)=3:=hk;have e3:b3=true:=by rw [HB3.out];exact decide_eq_true (by omega)
    obtain ⟨p1,p2,p3⟩:=HP5.out.1 e3;refine ⟨⟨j4,HJ4.out,p1,?_⟩,p2,p3⟩;by_cases hd:d1=4
    ·have e5:b5=true:=by rw [HB5'.out,e3,decide_eq_true hd];rfl
     show dg2=_;rw [hg7 e5,p1]
    have hd4:d1<4:=by omega
    have e5:b5=false:=by rw [HB5'.out,e3,decide_eq_false hd];rfl
    show dg2=_;rw [hn7 e5,HD6.out.1 (by rw [HB4.out];exact decide_eq_true hd4),HJD.out hd4]
   have hk:¬ 3+(k1:Int)=3:=hk;have e3:b3=false:=by rw [HB3.out];exact decide_eq_false (by omega)
   obtain ⟨p1,p2⟩:=HP5.out.2 e3;have e5:b5=false:=by rw [HB5'.out,e3];rfl
   refine ⟨p1,p2,?_⟩;show dg2=_∨_;rw [hn7 e5];by_cases hd4:d1<4
   ·exact .inr ⟨d1,hd4,HD6.out.1 (by rw [HB4.out];exact decide_eq_true hd4)⟩
   exact .inl (HD6.out.2 (by rw [HB4.out];exact decide_eq_false hd4)))
  clear hm7 hg7 hn7 hb7 hl7 hr7;have e0:=cell_of_row w7 mb 0 _ _ _ HM7.out;have e1:=cell_of_row w7 mb 1 _ _ _ HM7.out;have e2:=cell_of_row w7 mb 2 _ _ _ HM7.out;have e3:=cell_of_row w7 mb 3 _ _ _ HM7.out;have e4:=cell_of_row w7 mb 4 _ _ _ HM7.out;have e5:=cell_of_row w7 mb 5 _ _ _ HM7.out;have e6:=cell_of_row w7 mb 6 _ _ _ HM7.out;have e7:=cell_of_row w7 mb 7 _ _ _ HM7.out;have g0':=cell_of_row w7 rb 0 _ _ _ HR7.out;have g1':=cell_of_row w7 rb 1 _ _ _ HR7.out;have g2':=cell_of_row w7 rb 2 _ _ _ HR7.out;have g3':=cell_of_row w7 rb 3 _ _ _ HR7.out;have g4':=cell_of_row w7 rb 4 _ _ _ HR7.out;have g5':=cell_of_row w7 rb 5 _ _ _ HR7.out;have g6':=cell_of_row w7 rb 6 _ _ _ HR7.out;have g7':=cell_of_row w7 rb 7 _ _ _ HR7.out;have gf:=fun o=>frozen_of_row w7 rb o _ _ HR7.out;simp at e0 e1 e2 e3 e4 e5 e6 e7 g0' g1' g2' g3' g4' g5' g6' g7';go_wp2
  have hrow:=set8 HR7.out (.int .i64 (3+(k1:Int))) (.int .i64 fr) (.int .i64 t) (.int .i64 h1) (.int .i64 (r1:Int)) (.int .i64 vd) (.string dg2) (.slice ao ln cap);have hbel:=below8 HB7.out (show w.heap.size≤rb by rw [HRB.out];exact HBO.out.size) (.int .i64 (3+(k1:Int))) (.int .i64 fr) (.int .i64 t) (.int .i64 h1) (.int .i64 (r1:Int)) (.int .i64 vd) (.string dg2) (.slice ao ln cap);obtain ⟨wf,hwf⟩:∃wf,wf=((((((((w7.setCell ⟨rb,0,none⟩ (.int .i64 (3+(k1:Int)))).setCell ⟨rb,1,none⟩ (.int .i64 fr)).setCell ⟨rb,2,none⟩ (.int .i64 t)).setCell ⟨rb,3,none⟩ (.int .i64 h1)).setCell ⟨rb,4,none⟩ (.int .i64 (r1:Int))).setCell ⟨rb,5,none⟩ (.int .i64 vd)).setCell ⟨rb,6,none⟩ (.string dg2)).setCell ⟨rb,7,none⟩ (.slice ao ln cap)):=⟨_,rfl⟩;rw [←hwf] at hrow hbel ⊢;have hoth:∀k,k≠rb→wf.heap[k]?=w7.heap[k]?:=fun k hk=>by rw [hwf];exact oth8 (.int .i64 (3+(k1:Int))) (.int .i64 fr) (.int .i64 t) (.int .i64 h1) (.int .i64 (r1:Int)) (.int .i64 vd) (.string dg2) (.slice ao ln cap) hk
  refine bodyPost_ret (results_cell_row rfl _ _ rb _ _ _ _ rfl hrow Tryz.underlying36 rfl (by kernel_rfl)) rfl ⟨⟨3+(k1:Int),fr,t,h1,(r1:Int),vd,dg2,ls⟩,.slice ao ln cap,rfl,?_,HLAW.out,hbel⟩;refine (HL7.out.kept (fun g cur fr hr hc=>hoth g (fun e=>by
   subst e;rw [HR7.out] at hc;injection hc with hc;injection hc with _ hc _;exact absurd hc (by decide)))).mono (fun k hk=>⟨hk.1,?_⟩)
  have:wf.heap.size=w7.heap.size:=by rw [hwf];simp [World.setCell]
  rw [this];exact hk.2
end
end
section
open Go.RowKit
theorem OutR.nth {Z:Nat→Prop} {wt W:World} {ao:Option Addr} {cap n:Nat} {ms:List MsgB} (h:OutR Z wt W (.slice ao n cap) ms) {q:Nat} {m:MsgB} (hq:ms[q]?=some m) :
  ∃b off lo lc,ao=some ⟨b,off,none⟩∧(∀(j:Nat) (u:Value),(encM m (.slice lo m.list.length lc)).toList[j]?=some u→W.cell? ⟨b,off+q * 8+j,none⟩=some u)∧LRow (NewZ Z wt W) W (.slice lo m.list.length lc) m.list:=by
 obtain ⟨sls,h1,h2,h3⟩:=h;have hz:(sls.zip ms).length=ms.length:=by rw [List.length_zip,h1.len,Nat.min_self]
 obtain ⟨ao2,cap2,e,hc,hrw⟩:=rowK_of_owns (enc:=encP) (l:=sls.zip ms) encP_len (by decide) h2;injection e with e1 e2 e3
 subst e1;have hl:=(List.getElem?_eq_some_iff.1 hq).1;have hs:q<sls.length:=by rw [h1.len];exact hl
 have hzq:(sls.zip ms)[q]?=some (sls[q],m):=by
  rw [List.getElem?_zip_eq_some];exact ⟨List.getElem?_eq_getElem hs,hq⟩
 obtain ⟨b,off,e4,_,hcell⟩:=hrw q _ hzq;have hr:=all2_zip h1 _ (List.mem_of_getElem? hzq);obtain ⟨lo,lc,e5,_⟩:=id hr;simp only at e5 hr;rw [e5] at hcell hr;exact ⟨b,off,lo,lc,e4,hcell,hr⟩
theorem same_rows (ao bo:Option Addr) (ca cb:Nat) (l:List ByteArray) (W:World) {Ra Rb:Nat→Prop} (hl:l.length≤60) (ha:LRow Ra W (.slice ao l.length ca) l) (hb:LRow Rb W (.slice bo l.length cb) l) :
  Calls Tryz.prog 22 #[.slice ao l.length ca,.slice bo l.length cb] W fun e w'=>e = .returned (.bool true)∧Below W.heap.size W w':=by
 obtain ⟨a2,c2,e1,_,hra⟩:=ha.row;obtain ⟨b2,d2,e2,_,hrb⟩:=hb.row;injection e1 with e1 _ _
 injection e2 with e2 _ _
 subst e1 e2;refine (same_any ao bo ca cb _ _ l l W rfl rfl (by omega) hra hrb).mono ?_;rintro e w' ⟨rfl,h⟩;refine ⟨?_,h⟩;unfold sameB;rw [decide_eq_true rfl]
structure Flk (G:ByteArray→List ByteArray→Prop) (base:Nat) (w1:World) (xs:List Nat) (ss:List StB) (Rs:Nat→Nat→Prop) (W:World):Prop where
 net:Net G base W xs ss Rs
 bel:Below base w1 W
 pos:0<base
 le:base≤w1.heap.size
 glob:Glob w1
section
variable {G:ByteArray→List ByteArray→Prop} {base:Nat} {w1 W W':World} {xs:List Nat} {ss ss':List StB} {Rs Rs':Nat→Nat→Prop}
theorem Flk.size (h:Flk G base w1 xs ss Rs W):base≤W.heap.size:=Nat.le_trans h.le h.bel.size
theorem Flk.gl (h:Flk G base w1 xs ss Rs W):Glob W:=by
 obtain ⟨t,ht⟩:=h.glob;exact ⟨t,(h.bel.block 0 h.pos).trans ht⟩
theorem Flk.sail (h:Flk G base w1 xs ss Rs W) (s:Sail G base W xs Rs W' ss' Rs'):Flk G base w1 xs ss' Rs' W':=
 ⟨s.net,h.bel.trans (s.chg.below h.size (fun k hk=>h.net.low hk)),h.pos,h.le,h.glob⟩
theorem Flk.later (h:Flk G base w1 xs ss Rs W) (hb:Below W.heap.size W W'):Flk G base w1 xs ss Rs W':=
 ⟨h.net.later hb,h.bel.trans (hb.mono h.size),h.pos,h.le,h.glob⟩
theorem Flk.nil {w1:World} (hp:0<w1.heap.size) (hG:Glob w1):Flk G w1.heap.size w1 [] [] (fun _ _=>False) w1:=⟨Net.nil _ _ _ _,Below.refl _ _,hp,Nat.le_refl _,hG⟩
theorem Flk.first {x y:Nat} {s t:StB} (h:Flk G base w1 [x,y] [s,t] Rs W):Flk G base w1 [x] [s] Rs W:=by
 have hn:=h.net;refine ⟨⟨rfl,fun i a b ha hb=>?_,fun a ha=>hn.fit a (by simp at ha;simp [ha]),fun i j k hi hj=>hn.dis i j k (by simp at hi ⊢;omega) (by simp at hj ⊢;omega),fun i k hi=>hn.lo i k (by simp at hi ⊢;omega)⟩,h.bel,h.pos,h.le,h.glob⟩;have hi:=(List.getElem?_eq_some_iff.1 ha).1;obtain rfl:i=0:=by simp at hi;exact hi
 exact hn.node 0 a b ha hb
theorem flk_new (h:Flk G base w1 xs ss Rs W) {id n:Int} (h1:1≤n) (h7:n≤7) (hi:0≤id) (hin:id<n) :
  Calls Tryz.prog 15 #[.int .i64 id,.int .i64 n] W fun e w'=>∃x Rs',e = .returned (.tuple #[pv x,.int .i64 0])∧Flk G base w1 (xs ++ [x]) (ss ++ [newS id n]) Rs' w'∧Below W.heap.size W w':=
 (nnew h.net h.size h1 h7 hi hin).mono fun e w' ⟨x,Rs',e1,h2,h3,h4⟩=>⟨x,Rs',e1,⟨h2,h.bel.trans (h3.mono h.size),h.pos,h.le,h.glob⟩,h3⟩
theorem nlearn {w:World} {i x:Nat} {s:StB} {R0:Nat→Prop} {v:Value} {l:List ByteArray} (gf:GFam G) (hN:Net G base w xs ss Rs) (hb:base≤w.heap.size) (hx:xs[i]?=some x) (hs:ss[i]?=some s) (hr:LRow R0 w v l) (h0:∀k,R0 k→k<w.heap.size) (hl:l.length≤60) (hG:Glob w) (hv:ascS l=true→G (digV l) l) (height:Int) :
  Calls Tryz.prog 36 #[pv x,iv height,v] w fun e w'=>e = .returned (errE (s.learn height (ascS l) (digV l) l).2)∧∃Rs',Sail G base w xs Rs w' (ss.set i (s.learn height (ascS l) (digV l) l).1) Rs':=by
 obtain ⟨p,hp⟩:=hN.node i x s hx hs;have hf:=hN.idx hx hs;refine (learn_any hp hr h0 hl hG height).mono ?_;rintro e w' ⟨rfl,h1⟩;obtain ⟨R',h2⟩:=h1.step;exact ⟨rfl,_,hN.sail hb hx h2 (hf.learn height hv)⟩
end
theorem late_idle {n:Int} (h4:4≤n) (h7:n≤7):getA 0 (newS (n - 1) n:StB).tick.1.decs=none:=by
 rw [rn_new,(rn_tick _).1];apply rn_undec;obtain rfl | rfl | rfl | rfl:n=4∨n=5∨n=6∨n=7:=by omega
 all_goals decide +kernel
theorem receive_ticks (s:StB) (m:MsgB) (ok:Bool):(s.receive m ok).ticks=s.ticks:=by
 unfold NS.receive;split
 ·rfl
 split
 ·rfl
 split
 ·obtain ⟨a,b,e⟩:=ask_same s m;rw [e]
 split
 ·rfl
 split
 ·exact (putVote_same s m).1.ticks
 split
 ·rfl
 split <;> rfl
theorem receives_ticks:∀(ms:List MsgB) (s:StB),(ms.foldl (fun s m=>s.receive m true) s).ticks=s.ticks
 | [],_=>rfl
 | m :: ms,s=>by rw [List.foldl_cons,receives_ticks ms,receive_ticks]
theorem late_quiet {n:Int} (h4:4≤n) (h7:n≤7):(newS (n - 1) n:StB).tick.2 = []:=by
 apply List.eq_nil_of_length_eq_zero;rw [rn_new,(rn_tick _).2];obtain rfl | rfl | rfl | rfl:n=4∨n=5∨n=6∨n=7:=by omega
 all_goals decide +kernel
def ansR (n i r:Int) (q:Nat):Int:=if q=0 then (if r % n=i then r+1 else r) else if 2≤(q:Int)∧(q:Int)<r+3 then (q:Int) - 2 else r
theorem answer_at {n i r:Int} {d:ByteArray} {l:List ByteArray} (hn:2≤n) (h0:0≤i) (h1:i<n) (hr:0≤r) (hr2:r<99) {site:Int} {q:Nat} {m:MsgB} (hq:((toldS i n d l:StB).answer site (0,r))[q]?=some m) :
  m.to=site∧m.round=ansR n i r q∧m.dig=d:=by
 rw [answer_eq] at hq;unfold ansR;rcases q with _ | _ | q
 ·simp at hq;subst hq;exact ⟨rfl,(claim_round hn h0 h1 hr hr2).2,rfl⟩
 ·simp at hq;subst hq;exact ⟨rfl,by rw [if_neg (by omega),if_neg (by omega)],rfl⟩
 simp only [List.append_assoc,List.cons_append,List.nil_append,List.getElem?_cons_succ] at hq;rw [if_neg (by omega)];by_cases hlt:q<(r+1).toNat
 ·rw [List.getElem?_append_left (by simpa using hlt)] at hq;rw [List.getElem?_map,List.getElem?_range hlt] at hq;simp at hq;subst hq;refine ⟨rfl,?_,rfl⟩;rw [if_pos (by omega)];show (q:Int)=_;omega
 rw [List.getElem?_append_right (by simp;omega)] at hq;have hz:q - ((List.range (r+1).toNat).map fun (k:Nat)=>(⟨6,i,site,0,(k:Int),0,d,default⟩:MsgB)).length=0:=by
  have:=(List.getElem?_eq_some_iff.1 hq).1;simp at this ⊢;omega
 rw [hz] at hq;simp at hq;subst hq;refine ⟨rfl,?_,rfl⟩;rw [if_neg (by omega)]
theorem lateV_ok {n i r:Int} (h4:4≤n) (h7:n≤7) (h0:0≤i) (h1:i<n - 1) (hr:0≤r) (hr2:r≤99):validB (lateV n i r:MsgB)=true:=by
 have hs:sitesB (lateV n i r:MsgB)=true:=by
  unfold sitesB siteB lateV;simp;omega
 have hv:voteOk (lateV n i r:MsgB)=true:=by
  unfold voteOk placedB lateV;simp;refine ⟨⟨⟨by omega,by omega⟩,rfl⟩,.inl ?_⟩;decide +kernel
 unfold validB;rw [hs,hv];have k1:(lateV n i r:MsgB).kind=4:=rfl;rw [k1];rfl
def mostO:Option Int→Int
 | none=>0
 | some r=>r
theorem mostO_max (o:Option Int) {r:Int} (hr:1≤r):mostO (maxO o r)=max (mostO o) r:=by
 rcases o with _ | a
 ·show r=max 0 r;omega
 rfl
theorem quesS_nil (id n:Int) (d:ByteArray) (l:List ByteArray):(quesS id n d l (quesOf n none):StB)=toldS id n d l:=rfl
end
section
open Go.RowKit
structure OpR where
 kd:Int
 a:Int
 b:Int
 c:Int
 d:Int
 x0:Int
 x1:Int
 x2:Int
 x3:Int
 x4:Int
 x5:Int
 xd:ByteArray
 xa:Option Addr
 xn:Nat
 xc:Nat
def OpR.cells (o:OpR):List Value:=[.int .i64 o.kd,.int .i64 o.a,.int .i64 o.b,.int .i64 o.c,.int .i64 o.d,.int .i64 o.x0,.int .i64 o.x1,.int .i64 o.x2,.int .i64 o.x3,.int .i64 o.x4,.int .i64 o.x5,.string o.xd,.slice o.xa o.xn o.xc]
def I64r (z:Int):Prop:=-9223372036854775808≤z∧z≤9223372036854775807
structure OpR.Ok (o:OpR):Prop where
 kd:I64r o.kd
 a:I64r o.a
 b:I64r o.b
 c:I64r o.c
 d:I64r o.d
def OpsAt (w:World) (b:Nat) (ao:Option Addr) (os:List OpR):Prop:=∀(j:Nat) o,os[j]?=some o→o.Ok∧∃g off,ao=some ⟨g,off,none⟩∧g<b∧∀(k:Nat) (u:Value),o.cells[k]?=some u→w.cell? ⟨g,off+j * 13+k,none⟩=some u
theorem OpsAt.later {w w':World} {b:Nat} {ao:Option Addr} {os:List OpR} (h:OpsAt w b ao os) (hb:Below b w w'):OpsAt w' b ao os:=fun j o ho=>by
 obtain ⟨h0,g,off,e,hg,hc⟩:=h j o ho;exact ⟨h0,g,off,e,hg,fun k u hu=>by rw [World.cell?_of_block (w:=w) (hb.block g hg)];exact hc k u hu⟩
structure OnW (base:Nat) (w1:World) (x:Nat) (s:StB) (Rx:Nat→Nat→Prop) (W:World) (nb:Nat) (n:Int) (cv:Value) (cs:List CastB) (br:Bool):Prop where
 flk:Flk GA base w1 [x] [s] Rx W
 nbA:Asd [x].length Rx W nb
 nbL:base≤nb
 row:W.heap[nb]?=some (.cells (netRow n 0 0 0 (.slice none 0 0) (.slice none 0 0) (.slice none 0 0) cv br) 50 (0,0))
 cst:CastsAt W cv cs
 cvA:∀g,cv.ownBlock=some g→Asd [x].length Rx W g∧base≤g
section
variable {base:Nat} {w1 W W':World} {x nb:Nat} {s s':StB} {Rx Rx':Nat→Nat→Prop} {n:Int} {cv:Value} {cs:List CastB} {br:Bool}
theorem OnW.sail (h:OnW base w1 x s Rx W nb n cv cs br) (hs:Sail GA base W [x] Rx W' [s'] Rx'):OnW base w1 x s' Rx' W' nb n cv cs br:=
 ⟨h.flk.sail hs,hs.asd h.nbA,h.nbL,(hs.blk h.nbA).trans h.row,h.cst.kept (fun g cur _ hg=>hs.blk (h.cvA g hg).1),fun g hg=>⟨hs.asd (h.cvA g hg).1,(h.cvA g hg).2⟩⟩
theorem OnW.later (h:OnW base w1 x s Rx W nb n cv cs br) (hb:Below W.heap.size W W'):OnW base w1 x s Rx W' nb n cv cs br:=
 ⟨h.flk.later hb,h.nbA.later hb.size,h.nbL,(hb.block nb h.nbA.1).trans h.row,h.cst.kept (fun g cur _ hg=>hb.block g (h.cvA g hg).1.1),fun g hg=>⟨(h.cvA g hg).1.later hb.size,(h.cvA g hg).2⟩⟩
theorem OnW.noted (h:OnW base w1 x s Rx W nb n cv cs br) {r:Bool×List CastB} (hd:Noted W nb n 0 0 0 (.slice none 0 0) (.slice none 0 0) (.slice none 0 0) cv r W'):∃cv',OnW base w1 x s Rx W' nb n cv' r.2 r.1∧Chg (fun k=>k=nb∨cv.ownBlock=some k) W W':=by
 obtain ⟨⟨cv',e1,e2,e3⟩,hc⟩:=hd;have hk:∀k,AllR [x].length Rx k→W'.heap[k]?=W.heap[k]?:=fun k hk=>hc.block k (h.flk.net.lt hk) (fun e=>by
  rcases e with e | e
  ·exact h.nbA.2 (e ▸ hk)
  exact (h.cvA k e).1.2 hk)
 have hbe:Below base W W':=hc.below h.flk.size (fun k e=>by
  rcases e with e | e
  ·rw [e];exact h.nbL
  exact (h.cvA k e).2)
 refine ⟨cv',⟨⟨h.flk.net.kept hk hc.size,h.flk.bel.trans hbe,h.flk.pos,h.flk.le,h.flk.glob⟩,h.nbA.later hc.size,h.nbL,e1,e2,fun g hg=>?_⟩,hc⟩;rcases e3 g hg with q | q
 ·exact ⟨(h.cvA g q).1.later hc.size,(h.cvA g q).2⟩
 refine ⟨⟨?_,fun hr=>?_⟩,Nat.le_trans h.flk.size q⟩
 ·rcases e2.2 with ⟨e,_⟩ | ⟨g2,c2,cur,e,_,hg2,_⟩
  ·rw [e] at hg;simp [Value.ownBlock] at hg
  rw [e] at hg;have:g2=g:=by simpa [Value.ownBlock] using hg
  exact this ▸ (gE hg2).1
 have:=h.flk.net.lt hr;omega
end
end
section
open Go.RowKit
def OnY (base:Nat) (w1:World) (x nb:Nat) (n:Int) (s:StB) (cs:List CastB) (br:Bool) (A:Nat→Prop) (W:World):Prop:=
 ∃Rx cv,OnW base w1 x s Rx W nb n cv cs br∧∀k,A k→Asd [x].length Rx W k∧base≤k∧k≠nb∧cv.ownBlock≠some k
def KeepA (A:Nat→Prop) (W W':World):Prop:=W.heap.size≤W'.heap.size∧∀k,A k→W'.heap[k]?=W.heap[k]?
theorem KeepA.refl (A:Nat→Prop) (W:World):KeepA A W W:=⟨Nat.le_refl _,fun _ _=>rfl⟩
theorem KeepA.trans {A B:Nat→Prop} {W W' W'':World} (h:KeepA A W W') (h2:KeepA B W' W'') (hs:∀k,A k→B k):KeepA A W W'':=⟨Nat.le_trans h.1 h2.1,fun k hk=>(h2.2 k (hs k hk)).trans (h.2 k hk)⟩
section
variable {base:Nat} {w1 W W':World} {x nb:Nat} {n:Int} {s s':StB} {cs:List CastB} {br:Bool} {A B:Nat→Prop}
theorem OnY.less (h:OnY base w1 x nb n s cs br A W) (hs:∀k,B k→A k):OnY base w1 x nb n s cs br B W:=by
 obtain ⟨Rx,cv,h1,h2⟩:=h;exact ⟨Rx,cv,h1,fun k hk=>h2 k (hs k hk)⟩
theorem OnY.lt (h:OnY base w1 x nb n s cs br A W) {k:Nat} (hk:A k):k<W.heap.size:=by
 obtain ⟨Rx,cv,h1,h2⟩:=h;exact (h2 k hk).1.1
theorem OnY.below (h:OnY base w1 x nb n s cs br A W):Below base w1 W:=by
 obtain ⟨Rx,cv,h1,_⟩:=h;exact h1.flk.bel
theorem OnY.size (h:OnY base w1 x nb n s cs br A W):base≤W.heap.size:=by
 obtain ⟨Rx,cv,h1,_⟩:=h;exact h1.flk.size
theorem OnY.gl (h:OnY base w1 x nb n s cs br A W):Glob W:=by
 obtain ⟨Rx,cv,h1,_⟩:=h;exact h1.flk.gl
theorem OnY.fit (h:OnY base w1 x nb n s cs br A W):Fit GA s:=by
 obtain ⟨Rx,cv,h1,_⟩:=h;exact h1.flk.net.idx (i:=0) (x:=x) (s:=s) rfl rfl
theorem OnY.keepB (h:OnY base w1 x nb n s cs br A W) (hb:Below W.heap.size W W'):KeepA A W W':=⟨hb.size,fun k hk=>hb.block k (h.lt hk)⟩
theorem OnY.later (h:OnY base w1 x nb n s cs br A W) (hb:Below W.heap.size W W'):OnY base w1 x nb n s cs br A W':=by
 obtain ⟨Rx,cv,h1,h2⟩:=h;exact ⟨Rx,cv,h1.later hb,fun k hk=>⟨(h2 k hk).1.later hb.size,(h2 k hk).2⟩⟩
theorem OnY.grow (h:OnY base w1 x nb n s cs br A W) (hb:Below W.heap.size W W'):OnY base w1 x nb n s cs br (fun k=>A k∨New W W' k) W':=by
 obtain ⟨Rx,cv,h1,h2⟩:=h;refine ⟨Rx,cv,h1.later hb,fun k hk=>?_⟩;rcases hk with hk | hk
 ·exact ⟨(h2 k hk).1.later hb.size,(h2 k hk).2⟩
 have hz:=hk.1;refine ⟨Asd.fresh h1.flk.net hk,Nat.le_trans h1.flk.size hz,fun e=>?_,fun e=>?_⟩
 ·have:=h1.nbA.1;omega
 have:=(h1.cvA k e).1.1;omega
theorem OnY.set (h:OnY base w1 x nb n s cs br A W) {b:Nat} (hb:A b) (i:Nat) (v:Value):OnY base w1 x nb n s cs br A (W.setCell ⟨b,i,none⟩ v)∧∀k,k≠b→(W.setCell ⟨b,i,none⟩ v).heap[k]?=W.heap[k]?:=by
 have ho:∀k,k≠b→(W.setCell ⟨b,i,none⟩ v).heap[k]?=W.heap[k]?:=fun k hk=>Below.heap_setCell _ ⟨b,i,none⟩ _ k hk;refine ⟨?_,ho⟩;obtain ⟨Rx,cv,h1,h2⟩:=h;have hA:=h2 b hb;have hz:(W.setCell ⟨b,i,none⟩ v).heap.size=W.heap.size:=by simp [World.setCell]
 refine ⟨Rx,cv,⟨⟨h1.flk.net.kept (fun k hk=>ho k (fun e=>hA.1.2 (e ▸ hk))) (by omega),h1.flk.bel.setCell hA.2.1 _,h1.flk.pos,h1.flk.le,h1.flk.glob⟩,h1.nbA.later (by omega),h1.nbL,?_,?_,fun g hg=>⟨(h1.cvA g hg).1.later (by omega),(h1.cvA g hg).2⟩⟩,fun k hk=>⟨(h2 k hk).1.later (by omega),(h2 k hk).2⟩⟩
 ·rw [ho nb (fun e=>hA.2.2.1 e.symm)];exact h1.row
 exact h1.cst.kept (fun g cur _ hg=>ho g (fun e=>hA.2.2.2 (e ▸ hg)))
theorem OnY.sail {Rx:Nat→Nat→Prop} {cv:Value} (h:OnW base w1 x s Rx W nb n cv cs br) (h2:∀k,A k→Asd [x].length Rx W k∧base≤k∧k≠nb∧cv.ownBlock≠some k) {Rx':Nat→Nat→Prop} (hs:Sail GA base W [x] Rx W' [s'] Rx') :
  OnY base w1 x nb n s' cs br A W'∧KeepA A W W':=
 ⟨⟨Rx',cv,h.sail hs,fun k hk=>⟨hs.asd (h2 k hk).1,(h2 k hk).2⟩⟩,hs.chg.size,fun k hk=>hs.blk (h2 k hk).1⟩
theorem z_round (h:OnY base w1 x nb n s cs br A W):Calls Tryz.prog 23 #[pv x] W fun e w'=>e = .returned (.int .i64 s.round)∧w'=W:=by
 obtain ⟨Rx,cv,h1,h2⟩:=h;exact nround (i:=0) h1.flk.net rfl rfl
theorem z_height (h:OnY base w1 x nb n s cs br A W):Calls Tryz.prog 24 #[pv x] W fun e w'=>e = .returned (.int .i64 s.height)∧w'=W:=by
 obtain ⟨Rx,cv,h1,h2⟩:=h;exact nheight (i:=0) h1.flk.net rfl rfl
theorem z_dec (h:OnY base w1 x nb n s cs br A W):Calls Tryz.prog 21 #[pv x,.int .i64 0] W fun e w'=>(∃u,e = .returned (.tuple #[u,.bool (s.isDec 0)])∧∀v,getA 0 s.decs=some v→LRow (New W w') w' u v.list)∧Below W.heap.size W w':=by
 obtain ⟨Rx,cv,h1,h2⟩:=h;refine (ndecided (i:=0) GA.gf h1.flk.net rfl rfl 0).mono ?_;rintro e w' ⟨hd,hb⟩;refine ⟨?_,hb⟩;unfold DecE at hd;have e0:s.isDec 0=(getA 0 s.decs).isSome:=rfl;rw [e0];rcases hg:getA 0 s.decs with _ | v
 ·rw [hg] at hd;exact ⟨_,hd,fun v hv=>by cases hv⟩
 rw [hg] at hd;obtain ⟨u,e1,e2⟩:=hd;exact ⟨u,e1,fun v' hv=>by cases hv;exact e2⟩
theorem z_tick (h:OnY base w1 x nb n s cs br A W) (hT:s.ticks≤1000000000000):Calls Tryz.prog 18 #[pv x] W fun e w'=>∃v A',e = .returned v∧(∀k,A k→A' k)∧OnY base w1 x nb n s.tick.1 cs br A' w'∧KeepA A W w'∧OutR (fun k=>¬A' k) W w' v s.tick.2:=by
 obtain ⟨Rx,cv,h1,h2⟩:=h;refine (ntick (i:=0) GA.gf h1.flk.net h1.flk.size rfl rfl hT).mono ?_;rintro e w' ⟨v,Rs',rfl,hs,ho⟩;obtain ⟨h3,h4⟩:=OnY.sail h1 h2 hs;refine ⟨v,fun k=>A k∨NewZ (AllR [x].length Rs') W w' k,rfl,fun k hk=>.inl hk,?_,h4,ho.other (fun k hk k1 k2=>?_)⟩
 ·refine ⟨Rs',cv,h1.sail hs,fun k hk=>?_⟩;rcases hk with hk | hk
  ·exact ⟨hs.asd (h2 k hk).1,(h2 k hk).2⟩
  have hz:=hk.1.1;refine ⟨⟨hk.1.2,hk.2⟩,Nat.le_trans h1.flk.size hz,fun e=>?_,fun e=>?_⟩
  ·have:=h1.nbA.1;omega
  have:=(h1.cvA k e).1.1;omega
 exact Classical.byContradiction fun q=>hk (.inr ⟨⟨k1,k2⟩,q⟩)
theorem z_accept (h:OnY base w1 x nb n s cs br A W) (d:ByteArray):Calls Tryz.prog 25 #[pv x,.string d] W fun e w'=>e = .returned (.tuple #[])∧OnY base w1 x nb n (s.accept d) cs br A w'∧KeepA A W w':=by
 obtain ⟨Rx,cv,h1,h2⟩:=h;refine (naccept (i:=0) h1.flk.net h1.flk.size rfl rfl d).mono ?_;rintro e w' ⟨rfl,Rs',hs⟩;exact ⟨rfl,OnY.sail h1 h2 hs⟩
theorem z_begin (h:OnY base w1 x nb n s cs br A W) {R0:Nat→Prop} {v:Value} {l:List ByteArray} (hr:LRow R0 W v l) (h0:∀k,R0 k→k<W.heap.size) (hl:l.length≤60) (hv:GA (digV l) l) :
  Calls Tryz.prog 16 #[pv x,.int .i64 0,v] W fun e w'=>(∃u,e = .returned u)∧OnY base w1 x nb n (s.begin 0 (ascS l) (digV l) l).1 cs br A w'∧KeepA A W w':=by
 obtain ⟨Rx,cv,h1,h2⟩:=h;refine (nbegin (i:=0) GA.gf h1.flk.net h1.flk.size rfl rfl hr h0 hl h1.flk.gl (fun _=>hv) 0).mono ?_;rintro e w' ⟨rfl,Rs',hs⟩;exact ⟨⟨_,rfl⟩,OnY.sail h1 h2 hs⟩
theorem z_recv (h:OnY base w1 x nb n s cs br A W) {R0:Nat→Prop} {v:Value} {m:MsgB} (hm:MsgV R0 W v m) (h0:∀k,R0 k→k<W.heap.size) (hl:m.list.length≤60) (hv:validB m=true→m.kind=3→GA m.dig m.list) :
  Calls Tryz.prog 20 #[pv x,v] W fun e w'=>e = .returned (.tuple #[])∧OnY base w1 x nb n (s.receive m (validB m)) cs br A w'∧KeepA A W w':=by
 obtain ⟨Rx,cv,h1,h2⟩:=h;refine (nrecv (i:=0) GA.gf h1.flk.net h1.flk.size rfl rfl hm h0 hl h1.flk.gl hv).mono ?_;rintro e w' ⟨rfl,Rs',hs⟩;exact ⟨rfl,OnY.sail h1 h2 hs⟩
theorem z_note (h:OnY base w1 x nb n s cs br A W) (m:MsgB) (ao:Option Addr) (cap:Nat) (hl:cs.length≤1000000000) :
  Calls Tryz.prog 28 #[pv nb,.agg (encM m (.slice ao m.list.length cap))] W fun e w'=>e = .returned (.tuple #[])∧OnY base w1 x nb n s (noteC false br cs m).2 (noteC false br cs m).1 A w'∧KeepA A W w':=by
 obtain ⟨Rx,cv,h1,h2⟩:=h;refine (note_any h1.row h1.cst hl (fun W' hb=>decided_none ((hb.block nb h1.nbA.1).trans h1.row) m.height)).mono ?_;rintro e w' ⟨rfl,hd⟩;obtain ⟨cv',h3,hc⟩:=h1.noted hd;have hk:∀k,A k→w'.heap[k]?=W.heap[k]?:=fun k hk=>hc.block k (h2 k hk).1.1 (fun e=>by
  rcases e with e | e
  ·exact (h2 k hk).2.2.1 e
  exact (h2 k hk).2.2.2 e)
 refine ⟨rfl,⟨Rx,cv',h3,fun k hk=>⟨(h2 k hk).1.later hc.size,(h2 k hk).2.1,(h2 k hk).2.2.1,fun e=>?_⟩⟩,hc.size,hk⟩;have q:=h3.cst;obtain ⟨⟨cv2,e1,e2,e3⟩,_⟩:=hd;have e4:cv2=cv':=by
  have:=h3.row;rw [e1] at this;injection this with this
  injection this with this _ _
  have:(netRow n 0 0 0 (.slice none 0 0) (.slice none 0 0) (.slice none 0 0) cv2 (noteC false br cs m).1)[7]?=(netRow n 0 0 0 (.slice none 0 0) (.slice none 0 0) (.slice none 0 0) cv' (noteC false br cs m).1)[7]?:=by rw [this]
  simpa [netRow] using this
 subst e4;rcases e3 k e with q2 | q2
 ·exact (h2 k hk).2.2.2 q2
 have:=(h2 k hk).1.1;omega
end
section
variable {D L:Type} [DecidableEq D] [Dg D] [DecidableEq L] [Inhabited L]
theorem noteGo_mono (over:Bool) (m:Msg D L):∀(cs:List (Cast D)),(noteGo over m true cs).1=true
 | []=>rfl
 | c :: cs=>by
  unfold noteGo;split
  ·exact noteGo_mono over m cs
  simp only [Bool.true_or];split
  ·rfl
  exact noteGo_mono over m cs
theorem noteC_mono (over:Bool) (cs:List (Cast D)) (m:Msg D L):(noteC over true cs m).1=true:=by
 unfold noteC;split
 ·rfl
 exact noteGo_mono over m cs
theorem noteC_len (over b:Bool) (cs:List (Cast D)) (m:Msg D L):(noteC over b cs m).2.length≤cs.length+1:=by
 unfold noteC;split
 ·simp
 simp only;split
 ·simp
 simp
theorem noteL_mono (over:Bool):∀(ms:List (Msg D L)) (cs:List (Cast D)),(noteL over (true,cs) ms).1=true
 | [],_=>rfl
 | m :: ms,cs=>by
  unfold noteL;split
  ·exact noteL_mono over ms cs
  have:noteC over true cs m=(true,(noteC over true cs m).2):=Prod.ext (noteC_mono over cs m) rfl;rw [this];exact noteL_mono over ms _
theorem noteL_len (over:Bool):∀(ms:List (Msg D L)) (x:Bool×List (Cast D)),(noteL over x ms).2.length≤x.2.length+ms.length
 | [],x=>by simp [noteL]
 | m :: ms,x=>by
  unfold noteL;refine Nat.le_trans (noteL_len over ms _) ?_;split
  ·simp
  have:=noteC_len over x.1 x.2 m;simp;omega
theorem noteL_append (over:Bool):∀(ms ns:List (Msg D L)) (x:Bool×List (Cast D)),noteL over x (ms ++ ns)=noteL over (noteL over x ms) ns
 | [],_,_=>rfl
 | m :: ms,ns,x=>by
  show noteL over _ (ms ++ ns)=_;rw [noteL_append over ms ns];rfl
end
theorem tick_lenO {s:StB} (hf:Fit GA s):s.tick.2.length≤4000:=by
 have ha:s.answers.length≤728:=by
  rw [answers_at];have h1:=flat_len hf.qi.q (sortI (s.ques.map (·.1)));have h2:=hf.qi.q.len;rw [sortI_len,List.length_map] at h1;omega
 by_cases hd:s.isDec s.height=true
 ·rw [tick_done hd];show s.answers.length≤_;omega
 rw [tick_open (by simpa using hd)];show (s.answers ++ _).length≤_;rw [List.length_append];have h1:=sends_len s.tk2 (s.tk2.mine.drop s.tkFrom);have h2:=(tk2_inv hf.ok.inv).num.n7;have h3:=(tk2_inv hf.ok.inv).mine_len;have h4:(s.tk2.mine.drop s.tkFrom).length≤400:=by rw [List.length_drop];omega
 have h5:s.tk2.n.toNat * (s.tk2.mine.drop s.tkFrom).length≤7 * 400:=Nat.mul_le_mul (by omega) h4;omega
end
end Go.Proofs.YtifcdjmcoibblaaGreatDoor
