/- Msgo Onw -/
import Derived.Test.YtifcdjmcoibblaaGreatDoorAq40
set_option linter.unusedVariables false
set_option linter.unusedSimpArgs false
set_option linter.unusedSectionVars false
set_option maxRecDepth 100000
set_option maxHeartbeats 80000000
namespace Go.Proofs.YtifcdjmcoibblaaGreatDoor
section
open Go.RowKit
structure Zt5 (n t:Int) (m:Z0k):Prop where
 tt:m.to=t
 kind:m.kind=3∨m.kind=4∨m.kind=5∨m.kind=6
 f0:0<=m.frm
 f1:m.frm<n
 h0:0<=m.height
 h1:m.height<=1
 r0:0<=m.round
 r4:m.round<=4
 prop:m.kind=3->(∃j,j<4∧m.list=fam j∧m.dig=Z0z (fam j))∧-1<=m.valid∧m.valid<m.round
 vote:m.kind≠3->m.valid=0∧m.list = []∧(m.dig=Dg.nil∨∃j,j<4∧m.dig=Z0z (fam j))
def opV (kd A B C D x0 x1 x2 x3 x4 x5:Int) (xd:ByteArray) (xa:Option Addr) (xn xc:Nat):Value:=
 .agg #[.int .i64 kd,.int .i64 A,.int .i64 B,.int .i64 C,.int .i64 D,.int .i64 x0,.int .i64 x1,.int .i64 x2,.int .i64 x3,.int .i64 x4,.int .i64 x5,.string xd,.slice xa xn xc]
theorem Z8q {c:Int} (k:Int) (h1:-9223372036854775808<=c) (h2:c<=9223372036854775807) (hk:2<=k):-9223372036854775807<=c.tdiv k∧c.tdiv k<=9223372036854775807:=by
 have e:c=k * c.tdiv k+c.tmod k:=(Int.mul_tdiv_add_tmod c k).symm;rcases Int.le_total 0 c with h | h
 ·have h3:=Int.tdiv_nonneg h (show 0<=k by omega);have h4:c.tdiv k<=c:=by
   rw [Int.tdiv_eq_ediv_of_nonneg h];exact Int.ediv_le_self k h
  omega
 have e2:c.tdiv k = -((-c).tdiv k):=by rw [Int.neg_tdiv,Int.neg_neg]
 have h3:=Int.tdiv_nonneg (show 0<=-c by omega) (show 0<=k by omega);have h4:(-c).tdiv k<=(-c) / 2:=by
  rw [Int.tdiv_eq_ediv_of_nonneg (by omega)];have h5:0<=(-c) / k:=Int.ediv_nonneg (by omega) (by omega);have h6:k * ((-c) / k)<=-c:=Int.mul_ediv_self_le (by omega);have h7:2 * ((-c) / k)<=k * ((-c) / k):=Int.mul_le_mul_of_nonneg_right hk h5;omega
 omega
theorem Zn4 {R:Nat->Prop} {w:World} {v:Value} {l:List ByteArray} {mb off:Nat} {cs:Array Value} {f:Nat×Nat} (h:Z0a R w v l) (hm:w.heap[mb]?=some (.cells cs 36 f)) (u:Value):Z0a R (w.setCell ⟨mb,off,none⟩ u) v l:=
 h.kept (λg cur fr hr hc=>Below.heap_setCell _ ⟨mb,off,none⟩ _ g (λe=>by
  have e:g=mb:=e;subst e;rw [hm] at hc;injection hc with hc
  injection hc with _ hc _
  exact absurd hc (by decide)))
theorem Zbl {w0 w:World} {v:Value} {l:List ByteArray} {mb off:Nat} {cs:Array Value} {f:Nat×Nat} (h:Z0a (New w0 w) w v l) (hm:w.heap[mb]?=some (.cells cs 36 f)) (u:Value):Z0a (New w0 (w.setCell ⟨mb,off,none⟩ u)) (w.setCell ⟨mb,off,none⟩ u) v l:=
 (Zn4 h hm u).mono (λk hk=>⟨hk.1,by simpa [World.setCell] using hk.2⟩)
theorem Z6l {w0 w w':World} {v:Value} {l:List ByteArray} (h:Z0a (New w0 w) w v l) (hb:Below w.heap.size w w'):Z0a (New w0 w') w' v l:=
 (h.kept (λg cur fr hr _=>hb.block g hr.2)).mono (λk hk=>⟨hk.1,Nat.lt_of_lt_of_le hk.2 hb.size⟩)
section
variable (kd A B C D x0 x1 x2 x3 x4 x5:Int) (xd:ByteArray) (xa:Option Addr) (xn xc:Nat) (n t:Int) (w:World)
theorem Zh2 (hA:-9223372036854775808<=A∧A<=9223372036854775807) (hB:-9223372036854775808<=B∧B<=9223372036854775807) (hC:-9223372036854775808<=C∧C<=9223372036854775807) (hD:-9223372036854775808<=D∧D<=9223372036854775807) (hn:1<=n∧n<=7) (hG:Glob w) :
  Calls Tryz.prog 27 #[.int .i64 n,.int .i64 t,opV kd A B C D x0 x1 x2 x3 x4 x5 xd xa xn xc] w λe w'=>∃m sl,e = .returned (.agg (Z0l m sl))∧Z0a (New w w') w' sl m.list∧Zt5 n t m∧Below w.heap.size w w':=by
 obtain ⟨k1,hk1,pA⟩:=Z10 A 4 (by omega);obtain ⟨N,hN⟩:∃N:Nat,n=(N:Int):=⟨n.toNat,by omega⟩;subst hN;obtain ⟨b1,hb1,pB⟩:=Z10 B N (by omega);obtain ⟨c1,hc1,pC⟩:=Z10 C 8 (by omega);have rC:=Z8q 8 hC.1 hC.2 (by omega);obtain ⟨c8,hc8⟩:∃c8,C.tdiv 8=c8:=⟨_,rfl⟩;rw [hc8] at rC;obtain ⟨r1,hr1,pR⟩:=Z10 c8 5 (by omega);obtain ⟨d1,hd1,pD⟩:=Z10 D 5 (by omega);have rD:=Z8q 5 hD.1 hD.2 (by omega);obtain ⟨d5,hd5⟩:∃d5,D.tdiv 5=d5:=⟨_,rfl⟩;rw [hd5] at rD;obtain ⟨v1,hv1,pV⟩:=Z10 d5 (r1+1) (by omega);have rA:=Z8q 4 hA.1 hA.2 (by omega);obtain ⟨a4,ha4⟩:∃a4,A.tdiv 4=a4:=⟨_,rfl⟩;rw [ha4] at rA;obtain ⟨g1,hg1,pG⟩:=Z10 a4 3 (by omega);have PK:=Hd (show ∀(c n:Int) (q:Nat),-9223372036854775808<=c->c<=9223372036854775807->1<=n->n<=9223372036854775807->Zai c n=(q:Int)->∀W,Calls Tryz.prog 14 #[.int .i64 c,.int .i64 n] W λe w'=>e = .returned (.int .i64 (q:Int))∧w'=W from λc n q c1 c2 n1 n2 hq W=>(Z2e c n W c1 c2 n1 n2).mono λe w' q=>⟨by rw [q.1];exact congrArg _ (congrArg _ hq),q.2.symm⟩);have PA:=Hd (PK.out A 4 k1 hA.1 hA.2 (by omega) (by omega) pA);have PB:=Hd (PK.out B (N:Int) b1 hB.1 hB.2 (by omega) (by omega) pB);have PC:=Hd (PK.out C 8 c1 hC.1 hC.2 (by omega) (by omega) pC);have PR:=Hd (PK.out c8 5 r1 (by omega) (by omega) (by omega) (by omega) pR);have PD:=Hd (PK.out D 5 d1 hD.1 hD.2 (by omega) (by omega) pD);have PV:=Hd (PK.out d5 ((r1:Int)+1) v1 (by omega) (by omega) (by omega) (by omega) (by rw [<-pV];rfl));have PG:=Hd (PK.out a4 3 g1 (by omega) (by omega) (by omega) (by omega) pG);have HGL:=Hd hG;obtain ⟨h1,hh1⟩:∃h1,((c1:Int)).tdiv 7=h1:=⟨_,rfl⟩;have rH:0<=h1∧h1<=1:=by
  rw [<-hh1,Int.tdiv_eq_ediv_of_nonneg (by omega)];omega
 have k0:(0:Int)<=(k1:Int):=by omega
 have k3:(k1:Int)<=3:=by omega
 have b0:(0:Int)<=(b1:Int):=by omega
 have bN:(b1:Int)<(N:Int):=by omega
 have N7:(N:Int)<=7:=hn.2;have c0:(0:Int)<=(c1:Int):=by omega
 have c7:(c1:Int)<=7:=by omega
 have r0:(0:Int)<=(r1:Int):=by omega
 have r4:(r1:Int)<=4:=by omega
 have d0:(0:Int)<=(d1:Int):=by omega
 have d4:(d1:Int)<=4:=by omega
 have v0:(0:Int)<=(v1:Int):=by omega
 have v4:(v1:Int)<=(r1:Int):=by omega
 have g0:(0:Int)<=(g1:Int):=by omega
 have g2:(g1:Int)<=2:=by omega
 have HR:=Hd (And.intro hA (And.intro hB (And.intro hC hD)));obtain ⟨h10,h11⟩:=rH;clear hA hB hC hD pA pB pC pR pD pV pG PK hG hk1 hb1 hc1 hr1 hd1 hv1 hg1;obtain ⟨ob,hob⟩:∃ob,ob=w.heap.size:=⟨_,rfl⟩;have HOB:=Hd hob;clear hob;unfold opV;go_enter Tryz.func27,Tryz.ntmps27
 go_upto_region 1 with (fail)
 rw [<-HOB.out];obtain ⟨wo,hwo⟩:∃wo,wo=w.alloc (.cells #[.int .i64 kd,.int .i64 A,.int .i64 B,.int .i64 C,.int .i64 D,.int .i64 x0,.int .i64 x1,.int .i64 x2,.int .i64 x3,.int .i64 x4,.int .i64 x5,.string xd,.slice xa xn xc] 52):=⟨_,rfl⟩;have HWO:=Hd (show wo.heap[ob]?=some (.cells #[.int .i64 kd,.int .i64 A,.int .i64 B,.int .i64 C,.int .i64 D,.int .i64 x0,.int .i64 x1,.int .i64 x2,.int .i64 x3,.int .i64 x4,.int .i64 x5,.string xd,.slice xa xn xc] 52 (0,0)) from by rw [hwo,HOB.out];exact World.alloc_heap_new w _);have HBO:=Hd (show Below w.heap.size w wo from by rw [hwo];exact (Below.refl _ w).alloc (Nat.le_refl _) _);have HSO:=Hd (show wo.heap.size=ob+1 from by rw [hwo,HOB.out];simp);rw [<-hwo];have hso:=HSO.out;rw [<-hso];clear hwo hso;obtain ⟨rb,hrb⟩:∃rb,rb=wo.heap.size:=⟨_,rfl⟩;have HRB:=Hd hrb;rw [<-hrb];obtain ⟨wa,hwa⟩:∃wa,wa=wo.alloc (.cells #[.int .i64 0,.int .i64 0,.int .i64 0,.int .i64 0,.int .i64 0,.int .i64 0,.string (ByteArray.mk #[]),.slice none 0 0] 36):=⟨_,rfl⟩;have HBA:=Hd (show Below wo.heap.size wo wa from by rw [hwa];exact (Below.refl _ _).alloc (Nat.le_refl _) _);have HRR:=Hd (show wa.heap[rb]?=some (.cells #[.int .i64 0,.int .i64 0,.int .i64 0,.int .i64 0,.int .i64 0,.int .i64 0,.string (ByteArray.mk #[]),.slice none 0 0] 36 (0,0)) from by rw [hwa,hrb];exact World.alloc_heap_new wo _);rw [<-hwa];clear hwa hrb;have HWA:=Hd (show wa.heap[ob]?=_ from (HBA.out.block ob (gE HWO.out).1).trans HWO.out);have HBW:=Hd (HBO.out.trans (HBA.out.mono HBO.out.size));have o1:=cell_of_row wa ob 1 _ _ _ HWA.out;have o2:=cell_of_row wa ob 2 _ _ _ HWA.out;have o3:=cell_of_row wa ob 3 _ _ _ HWA.out;simp at o1 o2 o3;have o1a:=Z0h o1 (.cells #[.int .i64 0,.int .i64 0,.int .i64 0,.int .i64 0,.int .i64 0,.int .i64 0,.string (ByteArray.mk #[]),.slice none 0 0] 36);have o2a:=Z0h o2 (.cells #[.int .i64 0,.int .i64 0,.int .i64 0,.int .i64 0,.int .i64 0,.int .i64 0,.string (ByteArray.mk #[]),.slice none 0 0] 36);have o3a:=Z0h o3 (.cells #[.int .i64 0,.int .i64 0,.int .i64 0,.int .i64 0,.int .i64 0,.int .i64 0,.string (ByteArray.mk #[]),.slice none 0 0] 36);have ew1:IntKind.wrap .i64 (3+(k1:Int))=3+(k1:Int):=by rw [IntKind.wrap_i64];omega
 have ew2:IntKind.wrap .i64 h1=h1:=by rw [IntKind.wrap_i64];omega
 have ew3:IntKind.wrap .i64 c8=c8:=by rw [IntKind.wrap_i64];omega
 obtain ⟨mb,hmb⟩:∃mb,mb=wa.heap.size:=⟨_,rfl⟩;have HMB:=Hd hmb;clear hmb;go_cut [7] (λv wc=>v = .pointer (some ⟨mb,0,none⟩)∧wc.heap[mb]?=some (.cells #[.int .i64 (3+(k1:Int)),.int .i64 (b1:Int),.int .i64 t,.int .i64 h1,.int .i64 (r1:Int),.int .i64 0,.string (ByteArray.mk #[]),.slice none 0 0] 36 (0,0))∧Below wa.heap.size wa wc)
 case first=>
  have KEEP:=Hd (show ∀W,Below wa.heap.size wa W->W.cell? ⟨ob,1,none⟩=some (.int .i64 A)∧W.cell? ⟨ob,2,none⟩=some (.int .i64 B)∧W.cell? ⟨ob,3,none⟩=some (.int .i64 C)∧Below wa.heap.size wa W from λW hW=>by
   have hr:=(hW.block ob (gE HWA.out).1).trans HWA.out;refine ⟨?_,?_,?_,hW⟩
   ·rw [cell_of_row W ob 1 _ _ _ hr];rfl
   ·rw [cell_of_row W ob 2 _ _ _ hr];rfl
   rw [cell_of_row W ob 3 _ _ _ hr];rfl)
  clear o1a o2a o3a;go_region_held3 (λW=>W.cell? ⟨ob,1,none⟩=some (.int .i64 A)∧W.cell? ⟨ob,2,none⟩=some (.int .i64 B)∧W.cell? ⟨ob,3,none⟩=some (.int .i64 C)∧Below wa.heap.size wa W)
   (first | (exact KEEP.out _ (Below.refl _ wa).drew) | (exact KEEP.out _ ((Below.refl _ wa).drew.alloc (Nat.le_refl _) _)) | (exact KEEP.out _ ((((((((((Below.refl _ wa).drew.alloc (Nat.le_refl _) _).setCell (Nat.le_refl _) _).setCell (Nat.le_refl _) _).setCell (Nat.le_refl _) _).setCell (Nat.le_refl _) _).setCell (Nat.le_refl _) _).setCell (Nat.le_refl _) _).setCell (Nat.le_refl _) _).setCell (Nat.le_refl _) _)))
   (first
    | (go_at_call 14;(with_reducible refine (PA.out _).mono ?_);rintro e w9 ⟨rfl,rfl⟩)
    | (go_at_call 14;(with_reducible refine (PB.out _).mono ?_);rintro e w9 ⟨rfl,rfl⟩)
    | (go_at_call 14;(with_reducible refine (PC.out _).mono ?_);rintro e w9 ⟨rfl,rfl⟩)
    | (go_at_call 14;(with_reducible refine (PR.out _).mono ?_);rintro e w9 ⟨rfl,rfl⟩))
  all_goals (
   go_wp2_with fail
   go_meet;rw [HMB.out];exact ⟨rfl,World.alloc_heap_new wa _,((Below.refl _ wa).alloc (Nat.le_refl _) _).drew⟩)
 case rest=>
 obtain ⟨rfl,hmr,hbm⟩:=hcut;obtain ⟨w1,rfl⟩:∃w1:World,w1=wc:=⟨_,rfl⟩;have HM1:=Hd hmr;have HB1:=Hd (HBW.out.trans (hbm.mono HBW.out.size));have HW1:=Hd ((hbm.block ob (gE HWA.out).1).trans HWA.out);have HR1:=Hd ((hbm.block rb (gE HRR.out).1).trans HRR.out);have HMW:=Hd (show w.heap.size<=mb from by rw [HMB.out];exact HBW.out.size);have HMO:=Hd (show ob≠mb from λe=>by
  have:=(gE HWA.out).1;rw [HMB.out] at e;omega)
 have HMR:=Hd (show rb≠mb from λe=>by
  have:=(gE HRR.out).1;rw [HMB.out] at e;omega)
 clear o1 o2 o3 o1a o2a o3a hmr hbm HWA HRR HBW HBA;have o4:=cell_of_row w1 ob 4 _ _ _ HW1.out;simp at o4;have m0:=cell_of_row w1 mb 0 _ _ _ HM1.out;simp at m0;obtain ⟨j4,hj4⟩:∃j4,j4=d1 % 4:=⟨_,rfl⟩;have hj5:(d1:Int).tmod 4=(j4:Int):=by rw [hj4,Int.tmod_eq_emod_of_nonneg (by omega)];omega
 have HJ4:=Hd (show j4<4 from by rw [hj4];exact Nat.mod_lt _ (by decide));have HJD:=Hd (show d1<4->j4=d1 from λh=>by rw [hj4];exact Nat.mod_eq_of_lt h);clear hj4;have j40:(0:Int)<=(j4:Int):=by omega
 have j44:(j4:Int)<4:=by have:=HJ4.out;omega
 go_upto_region 3 with (go_at_call 14;(with_reducible refine (PD.out _).mono ?_);rintro e wq ⟨rfl,hwq⟩;rw [hwq];clear hwq wq)
 obtain ⟨b3,hb3⟩:∃b3,b3=decide (k1=0):=⟨_,rfl⟩;have HB3:=Hd hb3;clear hb3;go_cut [32] (λv wc=>v = .bool b3∧wc=w1)
 case first=>
  by_cases hk:k1=0
  ·have y1:((3+(k1:Int)) == 3)=true:=by simp;omega
   have HE:=Hd (show b3=true from by rw [HB3.out];exact decide_eq_true hk);go_wp2_with fail
   go_meet;exact ⟨by rw [HE.out],rfl⟩
  have y1:((3+(k1:Int)) == 3)=false:=by simp;omega
  have HE:=Hd (show b3=false from by rw [HB3.out];exact decide_eq_false hk);go_wp2_with fail
  go_meet;exact ⟨by rw [HE.out],rfl⟩
 case rest=>
 obtain ⟨rfl,hw⟩:=hcut;rw [hw];clear hw;go_upto_if 32 with (fail)
 go_cut [] (λwc=>∃(fr vd:Int) (ls:List ByteArray) (ao:Option Addr) (cap:Nat),wc.heap[mb]?=some (.cells #[.int .i64 (3+(k1:Int)),.int .i64 fr,.int .i64 t,.int .i64 h1,.int .i64 (r1:Int),.int .i64 vd,.string (ByteArray.mk #[]),.slice ao ls.length cap] 36 (0,0))∧0<=fr∧fr<(N:Int)∧Z0a (New w wc) wc (.slice ao ls.length cap) ls∧(b3=true->ls=fam j4∧-1<=vd∧vd<(r1:Int))∧(b3=false->vd=0∧ls = [])∧Below w.heap.size w wc∧wc.heap[ob]?=w1.heap[ob]?∧wc.heap[rb]?=w1.heap[rb]?)
 case first=>
  rcases b3 with _ | _
  ·go_wp2_with fail
   go_meet;exact ⟨(b1:Int),0,[],none,0,HM1.out,b0,bN,Z0a.nil _ _,λh=>(by cases h),λ_=>⟨rfl,rfl⟩,HB1.out,rfl,rfl⟩
  skip
  have o1:=cell_of_row w1 ob 1 _ _ _ HW1.out;simp at o1;have m0:=cell_of_row w1 mb 0 _ _ _ HM1.out;have m1:=cell_of_row w1 mb 1 _ _ _ HM1.out;have m2:=cell_of_row w1 mb 2 _ _ _ HM1.out;have m3:=cell_of_row w1 mb 3 _ _ _ HM1.out;have m4:=cell_of_row w1 mb 4 _ _ _ HM1.out;have m5:=cell_of_row w1 mb 5 _ _ _ HM1.out;have m6:=cell_of_row w1 mb 6 _ _ _ HM1.out;have m7:=cell_of_row w1 mb 7 _ _ _ HM1.out;have mf:=λo=>frozen_of_row w1 mb o _ _ HM1.out;simp at m0 m1 m2 m3 m4 m5 m6 m7;have ew4:IntKind.wrap .i64 d5=d5:=by rw [IntKind.wrap_i64];omega
  go_upto_region 5 with (go_at_call 14;(with_reducible refine (PV.out _).mono ?_);rintro e wq ⟨rfl,hwq⟩;rw [hwq];clear hwq wq)
  obtain ⟨w2,hw2⟩:∃w2,w2=w1.setCell ⟨mb,5,none⟩ (.int .i64 ((v1:Int) - 1)):=⟨_,rfl⟩;have HM2:=Hd (show w2.heap[mb]?=some (.cells #[.int .i64 (3+(k1:Int)),.int .i64 (b1:Int),.int .i64 t,.int .i64 h1,.int .i64 (r1:Int),.int .i64 ((v1:Int) - 1),.string (ByteArray.mk #[]),.slice none 0 0] 36 (0,0)) from by rw [hw2];exact Z05 HM1.out _);have HB2:=Hd (show Below w.heap.size w w2 from by rw [hw2];exact HB1.out.setCell HMW.out _);have HO2:=Hd (show w2.heap[ob]?=w1.heap[ob]? from by rw [hw2];exact Below.heap_setCell _ ⟨mb,5,none⟩ _ ob HMO.out);have HR2:=Hd (show w2.heap[rb]?=w1.heap[rb]? from by rw [hw2];exact Below.heap_setCell _ ⟨mb,5,none⟩ _ rb HMR.out);rw [<-hw2];clear hw2 m0 m1 m2 m3 m4 m5 m6 m7 mf o1 o4;have HG2:=Hd (HGL.out.later HB2.out);have m0:=cell_of_row w2 mb 0 _ _ _ HM2.out;have m1:=cell_of_row w2 mb 1 _ _ _ HM2.out;have m2:=cell_of_row w2 mb 2 _ _ _ HM2.out;have m3:=cell_of_row w2 mb 3 _ _ _ HM2.out;have m4:=cell_of_row w2 mb 4 _ _ _ HM2.out;have m5:=cell_of_row w2 mb 5 _ _ _ HM2.out;have m6:=cell_of_row w2 mb 6 _ _ _ HM2.out;have m7:=cell_of_row w2 mb 7 _ _ _ HM2.out;have mf:=λo=>frozen_of_row w2 mb o _ _ HM2.out;simp at m0 m1 m2 m3 m4 m5 m6 m7;go_upto_region 6 with (go_at_call 17;(with_reducible refine (Z2f _).mono ?_);rintro e w3 ⟨g,rfl,hb3,hl3⟩;obtain ⟨vl,c1,r1⟩:=hl3.cell j4 HJ4.out;rw [Z4l HJ4.out] at r1;obtain ⟨aol,capl,rfl,_⟩:=id r1;have R3:=Hd r1;have B3:=Hd hb3;clear hb3 hl3 r1;have HM3:=Hd ((B3.out.block mb (gE HM2.out).1).trans HM2.out);clear m0 m1 m2 m3 m4 m5 m6 m7 mf;have m7:=cell_of_row w3 mb 7 _ _ _ HM3.out;have mf:=λo=>frozen_of_row w3 mb o _ _ HM3.out;simp at m7)
  obtain ⟨w4,hw4⟩:∃w4,w4=w3.setCell ⟨mb,7,none⟩ (.slice aol (fam j4).length capl):=⟨_,rfl⟩;have HM4:=Hd (show w4.heap[mb]?=some (.cells #[.int .i64 (3+(k1:Int)),.int .i64 (b1:Int),.int .i64 t,.int .i64 h1,.int .i64 (r1:Int),.int .i64 ((v1:Int) - 1),.string (ByteArray.mk #[]),.slice aol (fam j4).length capl] 36 (0,0)) from by rw [hw4];exact Z05 HM3.out _);have HB4:=Hd (show Below w.heap.size w w4 from by rw [hw4];exact (HB2.out.trans (B3.out.mono HB2.out.size)).setCell HMW.out _);have HO4:=Hd (show w4.heap[ob]?=w1.heap[ob]? from by
   rw [hw4,Below.heap_setCell _ ⟨mb,7,none⟩ _ ob HMO.out,B3.out.block ob (gE (HO2.out.trans HW1.out)).1];exact HO2.out)
  have HR4:=Hd (show w4.heap[rb]?=w1.heap[rb]? from by
   rw [hw4,Below.heap_setCell _ ⟨mb,7,none⟩ _ rb HMR.out,B3.out.block rb (gE (HR2.out.trans HR1.out)).1];exact HR2.out)
  have HL4:=Hd (show Z0a (λk=>New w w4 k∧k≠mb) w4 (.slice aol (fam j4).length capl) (fam j4) from by
   have hn:∀k,New w2 w3 k->k≠mb:=λk hk e=>by
    have:=(gE HM2.out).1;have:=hk.1;omega
   refine (R3.out.kept (λg cur fr hr _=>?_)).mono (λk hk=>⟨⟨Nat.le_trans HB2.out.size hk.1,?_⟩,hn k hk⟩)
   ·rw [hw4];exact Below.heap_setCell _ ⟨mb,7,none⟩ _ g (hn g hr)
   rw [hw4];simpa [World.setCell] using hk.2)
  rw [<-hw4];clear hw4 m7 mf;have o1:=cell_of_row w4 ob 1 _ _ _ (HO4.out.trans HW1.out);simp at o1;have m0:=cell_of_row w4 mb 0 _ _ _ HM4.out;have m1:=cell_of_row w4 mb 1 _ _ _ HM4.out;have m2:=cell_of_row w4 mb 2 _ _ _ HM4.out;have m3:=cell_of_row w4 mb 3 _ _ _ HM4.out;have m4:=cell_of_row w4 mb 4 _ _ _ HM4.out;have m5:=cell_of_row w4 mb 5 _ _ _ HM4.out;have m6:=cell_of_row w4 mb 6 _ _ _ HM4.out;have m7:=cell_of_row w4 mb 7 _ _ _ HM4.out;have mf:=λo=>frozen_of_row w4 mb o _ _ HM4.out;simp at m0 m1 m2 m3 m4 m5 m6 m7;have ew5:IntKind.wrap .i64 a4=a4:=by rw [IntKind.wrap_i64];omega
  have hN0:¬(N:Int)=0:=by omega
  obtain ⟨fr,hfr⟩:∃fr,(h1+(r1:Int)).tmod (N:Int)=fr:=⟨_,rfl⟩;have rF:0<=fr∧fr<(N:Int):=by
   rw [<-hfr,Int.tmod_eq_emod_of_nonneg (by omega)];exact ⟨Int.emod_nonneg _ (by omega),Int.emod_lt_of_pos _ (by omega)⟩
  obtain ⟨rF0,rF1⟩:=rF;by_cases hg:g1=0
  ·have y1:¬(0:Int)<(g1:Int):=by omega
   go_wp2_with (go_at_call 14;(with_reducible refine (PG.out _).mono ?_);rintro e wq ⟨rfl,hwq⟩;rw [hwq];clear hwq wq)
   go_meet;exact ⟨(b1:Int),(v1:Int) - 1,fam j4,aol,capl,HM4.out,b0,bN,HL4.out.mono (λk hk=>hk.1),λ_=>⟨rfl,by omega,by omega⟩,λh=>(by cases h),HB4.out,HO4.out,HR4.out⟩
  have y1:(0:Int)<(g1:Int):=by omega
  go_wp2_with (go_at_call 14;(with_reducible refine (PG.out _).mono ?_);rintro e wq ⟨rfl,hwq⟩;rw [hwq];clear hwq wq)
  go_meet;refine ⟨fr,(v1:Int) - 1,fam j4,aol,capl,Z05 HM4.out _,rF0,rF1,?_,λ_=>⟨rfl,by omega,by omega⟩,λh=>(by cases h),HB4.out.setCell HMW.out _,?_,?_⟩
  ·exact (HL4.out.kept (λg cur fr hr _=>Below.heap_setCell _ ⟨mb,1,none⟩ _ g hr.2)).mono (λk hk=>⟨hk.1.1,by simpa [World.setCell] using hk.1.2⟩)
  ·rw [Below.heap_setCell _ ⟨mb,1,none⟩ _ ob HMO.out];exact HO4.out
  rw [Below.heap_setCell _ ⟨mb,1,none⟩ _ rb HMR.out];exact HR4.out
 case rest=>
  obtain ⟨fr,vd,ls,ao,cap,hm5,f0,f1,hl5,hp5,hv5,hb5,ho5,hr5⟩:=hcut;obtain ⟨w5,rfl⟩:∃w5:World,w5=wc:=⟨_,rfl⟩;have HM5:=Hd hm5;have HB5:=Hd hb5;have HR5:=Hd hr5;have HL5:=Hd hl5;have HP5:=Hd (And.intro hp5 hv5);have HG5:=Hd (HGL.out.later hb5);have HLS:=Hd (show ls.length<=60∧Z1f ls=true from by
   rcases b3 with _ | _
   ·rw [(hv5 rfl).2];exact ⟨Nat.zero_le _,by decide +kernel⟩
   rw [(hp5 rfl).1];exact ⟨Z2x,Z3z (Nat.lt_of_lt_of_le HJ4.out (by decide))⟩)
  obtain ⟨ln,hln⟩:∃ln,ln=ls.length:=⟨_,rfl⟩;have HLN:=Hd hln;clear hm5 hb5 ho5 hr5 hl5 hp5 hv5;rw [<-hln] at HM5 HL5;clear hln;go_upto_region 8 with (fail)
  obtain ⟨b4,hb4⟩:∃b4,b4=decide (d1<4):=⟨_,rfl⟩;have HB4:=Hd hb4;clear hb4;go_cut [62] (λv wc=>v = .bool b4∧wc=w5)
  case first=>
   by_cases hd:d1<4
   ·have y1:(d1:Int)<4:=by omega
    have HE:=Hd (show b4=true from by rw [HB4.out];exact decide_eq_true hd);go_wp2_with fail
    go_meet;exact ⟨by rw [HE.out],rfl⟩
   have y1:¬(d1:Int)<4:=by omega
   have HE:=Hd (show b4=false from by rw [HB4.out];exact decide_eq_false hd);go_wp2_with fail
   go_meet;exact ⟨by rw [HE.out],rfl⟩
  case rest=>
  obtain ⟨rfl,hw⟩:=hcut;rw [hw];clear hw;go_upto_if 62 with (fail)
  go_cut [] (λwc=>∃dg:ByteArray,wc.heap[mb]?=some (.cells #[.int .i64 (3+(k1:Int)),.int .i64 fr,.int .i64 t,.int .i64 h1,.int .i64 (r1:Int),.int .i64 vd,.string dg,.slice ao ln cap] 36 (0,0))∧(b4=true->dg=Z0z (fam d1))∧(b4=false->dg=Dg.nil)∧Below w.heap.size w wc∧Z0a (New w wc) wc (.slice ao ln cap) ls∧wc.heap[rb]?=w5.heap[rb]?)
  case first=>
   rcases b4 with _ | _
   ·go_wp2_with fail
    go_meet;exact ⟨Dg.nil,HM5.out,λh=>(by cases h),λ_=>rfl,HB5.out,HL5.out,rfl⟩
   have hd4:d1<4:=of_decide_eq_true HB4.out.symm;have y1:(d1:Int)<4:=by omega
   go_wp2_with (first
    | (go_at_call 17;(with_reducible refine (Z2f _).mono ?_);rintro e w7 ⟨g,rfl,hb7,hl7⟩;obtain ⟨vl,c1,r1⟩:=hl7.cell d1 hd4;rw [Z4l hd4] at r1;obtain ⟨aol,capl,rfl,_⟩:=id r1;have B7:=Hd hb7;have DG:=Hd (show Calls Tryz.prog 26 #[.slice aol (fam d1).length capl] w7 λe w'=>e = .returned (.string (Z0z (fam d1)))∧Below w7.heap.size w7 w' from by
      obtain ⟨a3,c3,he,_,hrow3⟩:=r1.row;injection he with e1 e2 e3
      subst e1 e3;rw [Z5o (Z3z (Nat.lt_of_lt_of_le hd4 (by decide)))];exact Z4i aol _ capl (fam d1) w7 rfl Z2x hrow3 (Z3z (Nat.lt_of_lt_of_le hd4 (by decide))));clear hb7 hl7 r1)
    | (go_at_call 26;(with_reducible refine DG.out.mono ?_);rintro e w8 ⟨rfl,hb8⟩;have B8:=Hd (B7.out.trans (hb8.mono B7.out.size));have HM8:=Hd ((B8.out.block mb (gE HM5.out).1).trans HM5.out);clear hb8;have m6:=cell_of_row w8 mb 6 _ _ _ HM8.out;have mf:=λo=>frozen_of_row w8 mb o _ _ HM8.out;simp at m6))
   go_meet;exact ⟨Z0z (fam d1),Z05 HM8.out _,λ_=>rfl,λh=>(by cases h),(HB5.out.trans (B8.out.mono HB5.out.size)).setCell HMW.out _,Zbl (Z6l HL5.out B8.out) HM8.out _,by
    rw [Below.heap_setCell _ ⟨mb,6,none⟩ _ rb HMR.out];exact B8.out.block rb (gE (HR5.out.trans HR1.out)).1⟩
  case rest=>
  obtain ⟨dg,hm6,hg6,hn6,hb6,hl6,hr6⟩:=hcut;obtain ⟨w6,rfl⟩:∃w6:World,w6=wc:=⟨_,rfl⟩;have HM6:=Hd hm6;have HD6:=Hd (And.intro hg6 hn6);have HB6:=Hd hb6;have HL6:=Hd hl6;have HR6:=Hd (hr6.trans (HR5.out.trans HR1.out));clear hm6 hg6 hn6 hb6 hl6 hr6;have m0:=cell_of_row w6 mb 0 _ _ _ HM6.out;simp at m0;go_upto_region 10 with (fail)
  obtain ⟨b5,hb5⟩:∃b5,b5=(b3 && decide (d1=4)):=⟨_,rfl⟩;have HB5':=Hd hb5;clear hb5;go_cut [8,75] (λu v wc=>u = .int .i64 (d1:Int)∧v = .bool b5∧wc=w6)
  case first=>
   rcases b3 with _ | _
   ·have y1:((3+(k1:Int)) == 3)=false:=by
     have:=of_decide_eq_false HB3.out.symm;simp;omega
    have HE:=Hd (show b5=false from by rw [HB5'.out];rfl);go_wp2_with fail
    go_meet;exact ⟨rfl,by rw [HE.out],rfl⟩
   have y1:((3+(k1:Int)) == 3)=true:=by
    have:=of_decide_eq_true HB3.out.symm;simp;omega
   by_cases hd:d1=4
   ·have HD:=Hd hd;have y2:((d1:Int) == 4)=true:=by simp;omega
    have HE:=Hd (show b5=true from by rw [HB5'.out,decide_eq_true hd];rfl);go_wp2_with fail
    go_meet;exact ⟨(by first | rfl | (rw [HD.out];rfl)),by rw [HE.out],rfl⟩
   have y2:((d1:Int) == 4)=false:=by simp;omega
   have HE:=Hd (show b5=false from by rw [HB5'.out,decide_eq_false hd];rfl);go_wp2_with fail
   go_meet;exact ⟨rfl,by rw [HE.out],rfl⟩
  case rest=>
  obtain ⟨rfl,rfl,hw⟩:=hcut;rw [hw];clear hw m0;go_upto_if 75 with (fail)
  go_cut [] (λwc=>∃dg2:ByteArray,wc.heap[mb]?=some (.cells #[.int .i64 (3+(k1:Int)),.int .i64 fr,.int .i64 t,.int .i64 h1,.int .i64 (r1:Int),.int .i64 vd,.string dg2,.slice ao ln cap] 36 (0,0))∧(b5=true->dg2=Z0z ls)∧(b5=false->dg2=dg)∧Below w.heap.size w wc∧Z0a (New w wc) wc (.slice ao ln cap) ls∧wc.heap[rb]?=w6.heap[rb]?)
  case first=>
   rcases b5 with _ | _
   ·go_wp2_with fail
    go_meet;exact ⟨dg,HM6.out,λh=>(by cases h),λ_=>rfl,HB6.out,HL6.out,rfl⟩
   have DG:=Hd (show Calls Tryz.prog 26 #[.slice ao ln cap] w6 λe w'=>e = .returned (.string (Z0z ls))∧Below w6.heap.size w6 w' from by
    obtain ⟨a3,c3,he,_,hrow3⟩:=HL6.out.row;rw [HLN.out] at he;injection he with e1 e2 e3
    subst e1 e3;rw [HLN.out,Z5o HLS.out.2];exact Z4i ao _ cap ls w6 rfl HLS.out.1 hrow3 HLS.out.2)
   have m7:=cell_of_row w6 mb 7 _ _ _ HM6.out;simp at m7;go_wp2_with (go_at_call 26;(with_reducible refine DG.out.mono ?_);rintro e w8 ⟨rfl,hb8⟩;have B8:=Hd hb8;have HM8:=Hd ((B8.out.block mb (gE HM6.out).1).trans HM6.out);clear hb8;have m6:=cell_of_row w8 mb 6 _ _ _ HM8.out;have mf:=λo=>frozen_of_row w8 mb o _ _ HM8.out;simp at m6)
   go_meet;exact ⟨Z0z ls,Z05 HM8.out _,λ_=>rfl,λh=>(by cases h),(HB6.out.trans (B8.out.mono HB6.out.size)).setCell HMW.out _,Zbl (Z6l HL6.out B8.out) HM8.out _,by
    rw [Below.heap_setCell _ ⟨mb,6,none⟩ _ rb HMR.out];exact B8.out.block rb (gE HR6.out).1⟩
  case rest=>
  obtain ⟨dg2,hm7,hg7,hn7,hb7,hl7,hr7⟩:=hcut;obtain ⟨w7,rfl⟩:∃w7:World,w7=wc:=⟨_,rfl⟩;have HM7:=Hd hm7;have HD7:=Hd (And.intro hg7 hn7);have HB7:=Hd hb7;have HL7:=Hd hl7;have HR7:=Hd (hr7.trans HR6.out);have HLAW:=Hd (show Zt5 (N:Int) t (⟨3+(k1:Int),fr,t,h1,(r1:Int),vd,dg2,ls⟩:Z0k) from by
   refine ⟨rfl,by show 3+(k1:Int)=3∨3+(k1:Int)=4∨3+(k1:Int)=5∨3+(k1:Int)=6;omega,f0,f1,h10,h11,r0,r4,λhk=>?_,λhk=>?_⟩
   ·have hk:3+(k1:Int)=3:=hk;have e3:b3=true:=by rw [HB3.out];exact decide_eq_true (by omega)
    obtain ⟨p1,p2,p3⟩:=HP5.out.1 e3;refine ⟨⟨j4,HJ4.out,p1,?_⟩,p2,p3⟩;by_cases hd:d1=4
    ·have e5:b5=true:=by rw [HB5'.out,e3,decide_eq_true hd];rfl
     show dg2=_;rw [hg7 e5,p1]
    have hd4:d1<4:=by omega
    have e5:b5=false:=by rw [HB5'.out,e3,decide_eq_false hd];rfl
    show dg2=_;rw [hn7 e5,HD6.out.1 (by rw [HB4.out];exact decide_eq_true hd4),HJD.out hd4]
   have hk:¬ 3+(k1:Int)=3:=hk;have e3:b3=false:=by rw [HB3.out];exact decide_eq_false (by omega)
   obtain ⟨p1,p2⟩:=HP5.out.2 e3;have e5:b5=false:=by rw [HB5'.out,e3];rfl
   refine ⟨p1,p2,?_⟩;show dg2=_∨_;rw [hn7 e5];by_cases hd4:d1<4
   ·exact .inr ⟨d1,hd4,HD6.out.1 (by rw [HB4.out];exact decide_eq_true hd4)⟩
   exact .inl (HD6.out.2 (by rw [HB4.out];exact decide_eq_false hd4)))
  clear hm7 hg7 hn7 hb7 hl7 hr7;have e0:=cell_of_row w7 mb 0 _ _ _ HM7.out;have e1:=cell_of_row w7 mb 1 _ _ _ HM7.out;have e2:=cell_of_row w7 mb 2 _ _ _ HM7.out;have e3:=cell_of_row w7 mb 3 _ _ _ HM7.out;have e4:=cell_of_row w7 mb 4 _ _ _ HM7.out;have e5:=cell_of_row w7 mb 5 _ _ _ HM7.out;have e6:=cell_of_row w7 mb 6 _ _ _ HM7.out;have e7:=cell_of_row w7 mb 7 _ _ _ HM7.out;have g0':=cell_of_row w7 rb 0 _ _ _ HR7.out;have g1':=cell_of_row w7 rb 1 _ _ _ HR7.out;have g2':=cell_of_row w7 rb 2 _ _ _ HR7.out;have g3':=cell_of_row w7 rb 3 _ _ _ HR7.out;have g4':=cell_of_row w7 rb 4 _ _ _ HR7.out;have g5':=cell_of_row w7 rb 5 _ _ _ HR7.out;have g6':=cell_of_row w7 rb 6 _ _ _ HR7.out;have g7':=cell_of_row w7 rb 7 _ _ _ HR7.out;have gf:=λo=>frozen_of_row w7 rb o _ _ HR7.out;simp at e0 e1 e2 e3 e4 e5 e6 e7 g0' g1' g2' g3' g4' g5' g6' g7';go_wp2
  have hrow:=Zrq HR7.out (.int .i64 (3+(k1:Int))) (.int .i64 fr) (.int .i64 t) (.int .i64 h1) (.int .i64 (r1:Int)) (.int .i64 vd) (.string dg2) (.slice ao ln cap);have hbel:=Zej HB7.out (show w.heap.size<=rb by rw [HRB.out];exact HBO.out.size) (.int .i64 (3+(k1:Int))) (.int .i64 fr) (.int .i64 t) (.int .i64 h1) (.int .i64 (r1:Int)) (.int .i64 vd) (.string dg2) (.slice ao ln cap);obtain ⟨wf,hwf⟩:∃wf,wf=((((((((w7.setCell ⟨rb,0,none⟩ (.int .i64 (3+(k1:Int)))).setCell ⟨rb,1,none⟩ (.int .i64 fr)).setCell ⟨rb,2,none⟩ (.int .i64 t)).setCell ⟨rb,3,none⟩ (.int .i64 h1)).setCell ⟨rb,4,none⟩ (.int .i64 (r1:Int))).setCell ⟨rb,5,none⟩ (.int .i64 vd)).setCell ⟨rb,6,none⟩ (.string dg2)).setCell ⟨rb,7,none⟩ (.slice ao ln cap)):=⟨_,rfl⟩;rw [<-hwf] at hrow hbel ⊢;have hoth:∀k,k≠rb->wf.heap[k]?=w7.heap[k]?:=λk hk=>by rw [hwf];exact Zt0 (.int .i64 (3+(k1:Int))) (.int .i64 fr) (.int .i64 t) (.int .i64 h1) (.int .i64 (r1:Int)) (.int .i64 vd) (.string dg2) (.slice ao ln cap) hk
  refine bodyPost_ret (results_cell_row rfl _ _ rb _ _ _ _ rfl hrow Tryz.underlying36 rfl (by kernel_rfl)) rfl ⟨⟨3+(k1:Int),fr,t,h1,(r1:Int),vd,dg2,ls⟩,.slice ao ln cap,rfl,?_,HLAW.out,hbel⟩;refine (HL7.out.kept (λg cur fr hr hc=>hoth g (λe=>by
   subst e;rw [HR7.out] at hc;injection hc with hc;injection hc with _ hc _;exact absurd hc (by decide)))).mono (λk hk=>⟨hk.1,?_⟩)
  have:wf.heap.size=w7.heap.size:=by rw [hwf];simp [World.setCell]
  rw [this];exact hk.2
end
end
section
open Go.RowKit
structure OpR where
 kd:Int
 a:Int
 b:Int
 c:Int
 d:Int
 x0:Int
 x1:Int
 x2:Int
 x3:Int
 x4:Int
 x5:Int
 xd:ByteArray
 xa:Option Addr
 xn:Nat
 xc:Nat
def OpR.cells (o:OpR):List Value:=[.int .i64 o.kd,.int .i64 o.a,.int .i64 o.b,.int .i64 o.c,.int .i64 o.d,.int .i64 o.x0,.int .i64 o.x1,.int .i64 o.x2,.int .i64 o.x3,.int .i64 o.x4,.int .i64 o.x5,.string o.xd,.slice o.xa o.xn o.xc]
def Zru (z:Int):Prop:=-9223372036854775808<=z∧z<=9223372036854775807
structure OpR.Ok (o:OpR):Prop where
 kd:Zru o.kd
 a:Zru o.a
 b:Zru o.b
 c:Zru o.c
 d:Zru o.d
def Zh3 (w:World) (b:Nat) (ao:Option Addr) (os:List OpR):Prop:=∀(j:Nat) o,os[j]?=some o->o.Ok∧∃g off,ao=some ⟨g,off,none⟩∧g<b∧∀(k:Nat) (u:Value),o.cells[k]?=some u->w.cell? ⟨g,off+j * 13+k,none⟩=some u
theorem Zh3.later {w w':World} {b:Nat} {ao:Option Addr} {os:List OpR} (h:Zh3 w b ao os) (hb:Below b w w'):Zh3 w' b ao os:=λj o ho=>by
 obtain ⟨h0,g,off,e,hg,hc⟩:=h j o ho;exact ⟨h0,g,off,e,hg,λk u hu=>by rw [World.cell?_of_block (w:=w) (hb.block g hg)];exact hc k u hu⟩
structure OnW (base:Nat) (w1:World) (x:Nat) (s:StB) (Rx:Nat->Nat->Prop) (W:World) (nb:Nat) (n:Int) (cv:Value) (cs:List Z7f) (br:Bool):Prop where
 flk:Flk GA base w1 [x] [s] Rx W
 nbA:Asd [x].length Rx W nb
 nbL:base<=nb
 row:W.heap[nb]?=some (.cells (Z1b n 0 0 0 (.slice none 0 0) (.slice none 0 0) (.slice none 0 0) cv br) 50 (0,0))
 cst:Z1k W cv cs
 cvA:∀g,cv.ownBlock=some g->Asd [x].length Rx W g∧base<=g
section
variable {base:Nat} {w1 W W':World} {x nb:Nat} {s s':StB} {Rx Rx':Nat->Nat->Prop} {n:Int} {cv:Value} {cs:List Z7f} {br:Bool}
end
end
end Go.Proofs.YtifcdjmcoibblaaGreatDoor
