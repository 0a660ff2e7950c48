/- Lkw -/
import Derived.Test.YtifcdjmcoibblaaGreatDoorLq42
import Derived.Test.YtifcdjmcoibblaaGreatDoorLq39
import Derived.Test.YtifcdjmcoibblaaGreatDoorLq01
import Derived.Deep.CutBlock
import Derived.Deep.RegionHeld3
import Derived.BigQuiet
set_option linter.unusedVariables false
set_option linter.unusedSimpArgs false
set_option linter.unusedSectionVars false
set_option maxRecDepth 100000
set_option maxHeartbeats 80000000
namespace Go.Proofs.YtifcdjmcoibblaaGreatDoor
section
open Go.RowKit
theorem digest_fam {wl w:World} {v:Value} {j:Nat} (hj:j<4) (r1:LRow (New w wl) wl v (fam j)):Calls Tryz.prog 26 #[v] wl fun e w'=>e = .returned (.string (digV (fam j)))∧Below wl.heap.size wl w':=by
 obtain ⟨a3,c3,rfl,_,hrow3⟩:=r1.row;rw [digV_asc (asc_fam (Nat.lt_of_lt_of_le hj (by decide)))];exact rdigest_any a3 _ c3 (fam j) wl rfl fam_len hrow3 (asc_fam (Nat.lt_of_lt_of_le hj (by decide)))
theorem digest_GA {R:Nat→Prop} {W:World} {u:Value} {v:ValB} (hg:GA v.dig v.list) (hr:LRow R W u v.list):Calls Tryz.prog 26 #[u] W fun e w'=>e = .returned (.string v.dig)∧Below W.heap.size W w':=by
 obtain ⟨ha,hd⟩:=GA.gf.val _ _ hg;have hl:=GA.law.len _ _ hg;obtain ⟨a3,c3,rfl,_,hrow3⟩:=hr.row;rw [hd,digV_asc ha];exact rdigest_any a3 _ c3 v.list W rfl hl hrow3 ha
def LkV (w:World) (o:Option ValB) (u:Value) (w':World):Prop:=∀v,o=some v→LRow (New w w') w' u v.list
theorem y_lockV {base:Nat} {w1 W:World} {x nb:Nat} {n:Int} {s:StB} {cs:List BoxE} {A:Nat→Prop} (h:OnZ base w1 x nb n s cs A W):Calls Tryz.prog 31 #[pv x] W fun e w'=>(∃u,e = .returned (.tuple #[.int .i64 (lockR s),u])∧LkV W s.lock u w')∧Below W.heap.size W w':=by
 refine (y_lock h).mono ?_;rintro e w' ⟨hl,hb⟩;refine ⟨?_,hb⟩;unfold LockE at hl;unfold lockR;rcases hs:s.lock with _ | v
 ·rw [hs] at hl;exact ⟨_,hl,fun v hv=>by cases hv⟩
 rw [hs] at hl;obtain ⟨u,e1,e2⟩:=hl;exact ⟨u,e1,fun v' hv=>by cases hv;exact e2⟩
theorem OnZ.start {base:Nat} {w1 W:World} {x:Nat} {n:Int} {s:StB} {Rx:Nat→Nat→Prop} (h:Flk GA base w1 [x] [s] Rx W):OnZ base w1 x W.heap.size n s [] (fun _=>False) (W.alloc (.cells #[.int .i64 n,.slice none 0 0] 134)):=by
 have hb:Below W.heap.size W (W.alloc (.cells #[.int .i64 n,.slice none 0 0] 134)):=(Below.refl _ _).alloc (Nat.le_refl _) _;have hr:=World.alloc_heap_new W (.cells #[.int .i64 n,.slice none 0 0] 134);exact ⟨Rx,.slice none 0 0,⟨h.later hb,⟨(gE hr).1,fun hk=>by have:=h.net.lt hk;omega⟩,h.size,hr,RowB.nil _,fun g hg=>by simp [Value.ownBlock] at hg⟩,fun k hk=>hk.elim⟩
theorem GivM.pick {m:MsgB} (h:GivM m) (n:Int) (l:List (Bal×ByteArray)):(if validB m=true∧m.kind≠3∧m.frm<n then addB l m else l)=(if m.frm≠m.to∧m.kind≠3∧m.frm<n then addB l m else l):=by
 by_cases hk:m.kind=3
 ·rw [if_neg (fun q=>q.2.1 hk),if_neg (fun q=>q.2.1 hk)]
 by_cases hf:m.frm=m.to
 ·rw [if_neg (fun q=>by rw [h.valid hk,hf] at q;simpa using q.1),if_neg (fun q=>q.1 hf)]
 by_cases hn:m.frm<n
 ·rw [if_pos ⟨by rw [h.valid hk];simpa using hf,hk,hn⟩,if_pos ⟨hf,hk,hn⟩]
 rw [if_neg (fun q=>hn q.2.2),if_neg (fun q=>hn q.2.2)]
theorem boxT_step (l:List (Bal×ByteArray)) (ms:List MsgB) (i:Nat) (m:MsgB) (hm:ms[i]?=some m):boxT l (ms.take (i+1))=if m.kind≠3 then addB (boxT l (ms.take i)) m else boxT l (ms.take i):=by
 obtain ⟨hl,he⟩:=List.getElem?_eq_some_iff.1 hm;unfold boxT;rw [List.take_succ_eq_append_getElem hl,he,List.filter_append,List.foldl_append];by_cases h:m.kind≠3
 ·rw [if_pos h,List.filter_cons,if_pos (by simpa using h)];rfl
 rw [if_neg h,List.filter_cons,if_neg (by simpa using h)];rfl
theorem lk_recv {me N:Int} {s:StB} {l:List (Bal×ByteArray)} {m:MsgB} (h:LkI szB GA me N s l) (hl:LawM N me m) (hga:m.kind=3→GA m.dig m.list) (n7:N≤7) (me0:0≤me) (me7:me<7) :
  LkI szB GA me N (s.receive {m with height:=0} (validB {m with height:=0})) (if m.frm≠m.to∧m.kind≠3∧m.frm<N then addB l {m with height:=0} else l):=by
 have q:=LkI.receive h (m:={m with height:=0}) (ok:=validB {m with height:=0}) rfl hl.tt (fun a b=>(okM_of_valid a b).1) (fun a b=>(okM_of_valid a b).2) (fun _ b=>hga b) (fun a=>?_) ?_
 ·rw [GivM.pick (GivM.law hl n7 me0 me7)] at q;exact q
 ·unfold validB sitesB siteB at a;simp at a;exact ⟨a.1.1.1.1,a.1.2⟩
 show m.kind=3∨m.kind=4∨m.kind=6∨m.kind=5;have:=hl.kind;omega
section
variable (site n:Int) (w:World) (ao:Option Addr) (cap:Nat) (os:List OpR)
theorem lockedL_any (hn1:-9223372036854775808≤n) (hn2:n≤9223372036854775807) (hk1:-9223372036854775808≤site) (hk2:site≤9223372036854775807) (hlen:os.length≤9223372036854775807) (hrow:OpsAt w w.heap.size ao os) (hG:Glob w) :
  Calls Tryz.prog 5 #[.int .i64 site,.int .i64 n,.slice ao os.length cap] w fun e w'=>e = .returned (.bool true)∧Below w.heap.size w w':=by
 have HGL:=Hd hG;have SN:=Hd (sane_any w hG);obtain ⟨N1,hN1,hpn⟩:=pickZ_nat n 4 (by omega);obtain ⟨N,hN⟩:∃N:Nat,N=4+N1:=⟨_,rfl⟩;obtain ⟨me,hme,hpk⟩:=pickZ_nat site N (by omega);have PN:=Hd (show ∀W,Calls Tryz.prog 14 #[.int .i64 n,.int .i64 4] W fun e w'=>e = .returned (.int .i64 (N1:Int))∧w'=W from fun W=>(pick_any n 4 W hn1 hn2 (by omega) (by omega)).mono fun e w' q=>⟨by rw [q.1];exact congrArg _ (congrArg _ hpn),q.2.symm⟩);have PK:=Hd (show ∀W,Calls Tryz.prog 14 #[.int .i64 site,.int .i64 (N:Int)] W fun e w'=>e = .returned (.int .i64 (me:Int))∧w'=W from fun W=>(pick_any site (N:Int) W hk1 hk2 (by omega) (by omega)).mono fun e w' q=>⟨by rw [q.1];exact congrArg _ (congrArg _ hpk),q.2.symm⟩);have nn1:(N1:Int)<4:=by omega
 have ew0:IntKind.wrap .i64 (4+(N1:Int))=(N:Int):=by rw [IntKind.wrap_i64];omega
 have n1:1≤(N:Int):=by omega
 have n4:4≤(N:Int):=by omega
 have n7:(N:Int)≤7:=by omega
 have me0:(0:Int)≤(me:Int):=by omega
 have meN:(me:Int)<(N:Int):=by omega
 have HROW:=Hd hrow;obtain ⟨len,hln⟩:∃len,len=os.length:=⟨_,rfl⟩;have HLN:=Hd hln;rw [←hln] at hlen ⊢;have len0:(0:Int)≤(len:Int):=by omega
 have len9:(len:Int)≤9223372036854775807:=by omega
 clear hG hpn hpk hN hrow hln hlen hme hN1;go_enter Tryz.func5,Tryz.ntmps5
 go_upto_region 3 with (first
  | (go_at_call 13;(with_reducible refine SN.out.mono ?_);rintro e w1 ⟨rfl,hb1⟩;have HB1:=Hd hb1;clear hb1)
  | (go_at_call 14;(with_reducible refine (PN.out _).mono ?_);rintro e wq ⟨rfl,hwq⟩;rw [hwq];clear hwq wq))
 clear SN;have HG1:=Hd (show Glob w1 from by
  obtain ⟨t,ht⟩:=HGL.out;exact ⟨t,(HB1.out.block 0 (gE ht).1).trans ht⟩)
 have HP1:=Hd (show 0<w1.heap.size from by
  obtain ⟨t,ht⟩:=HG1.out;exact (gE ht).1)
 have HR1:=Hd (show OpsAt w1 w1.heap.size ao os from fun j z hz=>by
  obtain ⟨h0,g,off,e,hg,hc⟩:=(HROW.out.later HB1.out) j z hz;exact ⟨h0,g,off,e,Nat.lt_of_lt_of_le hg HB1.out.size,hc⟩)
 have NW:=Hd (flk_new (G:=GA) (Flk.nil HP1.out HG1.out) (id:=(me:Int)) (n:=(N:Int)) n1 n7 me0 meN);unfold pv at NW;go_upto_region 7 with (first
  | (go_at_call 14;(with_reducible refine (PK.out _).mono ?_);rintro e wq ⟨rfl,hwq⟩;rw [hwq];clear hwq wq)
  | (go_at_call 15;(with_reducible refine NW.out.mono ?_);rintro e w2 ⟨x,R2,rfl,h2,hb2⟩;have F2:=Hd (show Flk GA w1.heap.size w1 [x] [newS (me:Int) (N:Int)] R2 w2 from h2);clear h2 hb2))
 have NB:=Hd (show Calls Tryz.prog 29 #[.int .i64 (N:Int)] w2 fun e w'=>∃bb,e = .returned (.pointer (some ⟨bb,0,none⟩))∧OnZ w1.heap.size w1 x bb (N:Int) (newS (me:Int) (N:Int)) [] (fun _=>False) w' from (rnewBox_any (N:Int) w2 n1 n7).mono fun e w' q=>⟨w2.heap.size,q.1,by rw [q.2];exact OnZ.start F2.out⟩);go_upto_region 8 with (go_at_call 29;(with_reducible refine NB.out.mono ?_);rintro e w3 ⟨nb,rfl,hy3⟩;have HY3:=Hd hy3;clear hy3)
 clear NB F2 NW PK PN;go_wp2_with fail
 go_loopw [12] (fun iv wr=>∃(j:Nat) (s:StB) (cs:List BoxE),j≤len∧j≤80∧iv = .int .i64 (j:Int)∧OnZ w1.heap.size w1 x nb (N:Int) s cs (fun _=>False) wr∧LkI szB GA (me:Int) (N:Int) s (plainL cs)∧s.ticks≤13 * j∧cs.length≤52000 * j) (fun iv _=>80 - (intOf iv).toNat)
 case atStart=>exact ⟨0,newS (me:Int) (N:Int),[],Nat.zero_le _,Nat.zero_le _,rfl,HY3.out,LkI.start szB_nil GA me0 meN n7,(by show (0:Int)≤_;omega),Nat.zero_le _⟩
 case round=>
  clear HY3;obtain ⟨j,s,cs,hj,hj8,rfl,hy,ho,ht,hc⟩:=hrel;have HY:=Hd hy;have HO:=Hd ho;have HT:=Hd ht;have HC:=Hd hc;have j0:(0:Int)≤(j:Int):=by omega
  clear hy ho ht hc;by_cases hjn:j<len
  ·have j1:(j:Int)<(len:Int):=by omega
   by_cases hj80:j<80
   ·have j2:(j:Int)<80:=by omega
    obtain ⟨o,hoj⟩:∃o,os[j]?=some o:=⟨os[j]'(by rw [←HLN.out];exact hjn),List.getElem?_eq_getElem _⟩;obtain ⟨hok,g,off,rfl,hgl,hoc⟩:=(HR1.out.later HY.out.below) j o hoj;have HOK:=Hd hok;have e0:=hoc 0 _ rfl;have e1:=hoc 1 _ rfl;have e2:=hoc 2 _ rfl;have e3:=hoc 3 _ rfl;have e4:=hoc 4 _ rfl;have e5:=hoc 5 _ rfl;have e6:=hoc 6 _ rfl;have e7:=hoc 7 _ rfl;have e8:=hoc 8 _ rfl;have e9:=hoc 9 _ rfl;have e10:=hoc 10 _ rfl;have e11:=hoc 11 _ rfl;have e12:=hoc 12 _ rfl;simp only [Nat.add_zero] at e0;clear hoc hok hgl;go_upto_region 12 with (fail)
    obtain ⟨ob,hob⟩:∃ob,ob=wr.heap.size:=⟨_,rfl⟩;obtain ⟨wo,hwo⟩:∃wo,wo=wr.alloc (.cells #[.int .i64 o.kd,.int .i64 o.a,.int .i64 o.b,.int .i64 o.c,.int .i64 o.d,.int .i64 o.x0,.int .i64 o.x1,.int .i64 o.x2,.int .i64 o.x3,.int .i64 o.x4,.int .i64 o.x5,.string o.xd,.slice o.xa o.xn o.xc] 52):=⟨_,rfl⟩;have HRO:=Hd (show wo.heap[ob]?=some (.cells #[.int .i64 o.kd,.int .i64 o.a,.int .i64 o.b,.int .i64 o.c,.int .i64 o.d,.int .i64 o.x0,.int .i64 o.x1,.int .i64 o.x2,.int .i64 o.x3,.int .i64 o.x4,.int .i64 o.x5,.string o.xd,.slice o.xa o.xn o.xc] 52 (0,0)) from by rw [hwo,hob];exact World.alloc_heap_new wr _);have HBO:=Hd (show Below wr.heap.size wr wo from by rw [hwo];exact (Below.refl _ wr).alloc (Nat.le_refl _) _);have HOB:=Hd (show New wr wo ob from ⟨Nat.le_of_eq hob.symm,(gE HRO.out).1⟩);rw [←hob,←hwo];clear hwo hob e0 e1 e2 e3 e4 e5 e6 e7 e8 e9 e10 e11 e12;have HYO:=Hd (show OnZ w1.heap.size w1 x nb (N:Int) s cs (fun k=>k=ob) wo from (HY.out.grow HBO.out).less (fun k hk=>by
     rw [hk];exact .inr HOB.out))
    obtain ⟨q,hq12,hq⟩:=pickZ_nat o.kd 12 (by omega);have PQ:=Hd (show ∀W,Calls Tryz.prog 14 #[.int .i64 o.kd,.int .i64 12] W fun e w'=>e = .returned (.int .i64 (q:Int))∧w'=W from fun W=>(pick_any o.kd 12 W HOK.out.kd.1 HOK.out.kd.2 (by omega) (by omega)).mono fun e w' h=>⟨by rw [h.1];exact congrArg _ (congrArg _ hq),h.2.symm⟩);have q0:(0:Int)≤(q:Int):=by omega
    have q12:(q:Int)<12:=by omega
    clear hq;have o0:=cell_of_row wo ob 0 _ _ _ HRO.out;simp at o0;clear HBO;go_cut [65] from 63 to 65 (fun t wc=>t = .int .i64 (q:Int)∧wc=wo)
    case first=>
     go_wp2_with (go_at_call 14;(with_reducible refine (PQ.out _).mono ?_);rintro e wq ⟨rfl,hwq⟩;rw [hwq];clear hwq wq)
     go_meet;exact ⟨rfl,rfl⟩
    case rest=>
    obtain ⟨rfl,hw⟩:=hcut;rw [hw];clear hw o0;go_upto_block 2 with (fail)
    have HOL:=Hd ((gE HRO.out).1);have RR:=Hd (show ∀W:World,W.heap[ob]?=wo.heap[ob]?→W.cell? ⟨ob,1,none⟩=some (.int .i64 o.a)∧W.cell? ⟨ob,2,none⟩=some (.int .i64 o.b)∧W.cell? ⟨ob,4,none⟩=some (.int .i64 o.d) from fun W hW=>by
     have hr:=hW.trans HRO.out;refine ⟨?_,?_,?_⟩
     ·rw [cell_of_row W ob 1 _ _ _ hr];rfl
     ·rw [cell_of_row W ob 2 _ _ _ hr];rfl
     rw [cell_of_row W ob 4 _ _ _ hr];rfl)
    obtain ⟨jd,hjd,hpd⟩:=pickZ_nat o.d 4 (by omega);have PD:=Hd (show ∀W,Calls Tryz.prog 14 #[.int .i64 o.d,.int .i64 4] W fun e w'=>e = .returned (.int .i64 (jd:Int))∧w'=W from fun W=>(pick_any o.d 4 W HOK.out.d.1 HOK.out.d.2 (by omega) (by omega)).mono fun e w' h=>⟨by rw [h.1];exact congrArg _ (congrArg _ hpd),h.2.symm⟩);have HJD:=Hd hjd;have jd0:(0:Int)≤(jd:Int):=by omega
    have jd4:(jd:Int)<4:=by omega
    clear hpd;by_cases h0:q=0
    ·have y0:((q:Int) == 0)=true:=by simp;omega
     as_aux_lemma=>
      clear h0;go_upto_region 35 with (fail)
      refine hst (S:=fun W=>W.cell? ⟨ob,4,none⟩=some (.int .i64 o.d)) (by kernel_rfl) ((RR.out _ rfl).2.2) (fun _ _ _ _ _ h=>h) (fun HQ hHeld=>?_);refine hyq (i:=0) (v:=?v1) HQ hHeld ?h1 ?r1
      case h1=>(intro w hSw;(try dsimp only at hSw);go_simp;try with_reducible rfl)
      try simp only [Act.put,zz]
      refine hyq (i:=2) (v:=?v2) HQ hHeld ?h2 ?r2
      case h2=>(intro w hSw;(try dsimp only at hSw);go_simp;try with_reducible rfl)
      try simp only [Act.put,zz]
      refine hyq (i:=3) (v:=?v3) HQ hHeld ?h3 ?r3
      case h3=>(intro w hSw;(try dsimp only at hSw);go_simp;try with_reducible rfl)
      try simp only [Act.put,zz]
      refine wpAnyH_ready (rs:=[1]) (by kernel_rfl) (by simp) ?_;refine AllReadyH.cons (o:=_) rfl (fun K hK=>?_) AllReadyH.nil;go_simp;go_at_call 17
      (with_reducible refine (lists_any _).mono ?_)
      rintro e wl ⟨gl,rfl,hbl,hll⟩;obtain ⟨vl,c1,r1⟩:=hll.cell jd HJD.out;rw [lst_fam HJD.out] at r1;have BL:=Hd ((Below.refl _ wo).drew.trans hbl);have ROW:=Hd (BL.out.block ob HOL.out);have BG:=Hd (y_begin (HYO.out.later BL.out) r1 (fun k hk=>hk.2) fam_len (GA.fam (Nat.lt_of_lt_of_le HJD.out (by decide))));unfold pv at BG;clear hll r1 hbl;clear hHeld;go_wp2_with fail
      refine hK.out _ _ ((RR.out _ ROW.out).2.2) (fun hHeld=>?_);clear hK K;try simp only [Act.put,zz]
      refine wpAnyH_ready (rs:=[4]) (by kernel_rfl) (by simp) ?_;refine AllReadyH.cons (o:=_) rfl (fun K hK=>?_) AllReadyH.nil;go_simp;go_at_call 14
      (with_reducible refine (PD.out _).mono ?_)
      rintro e wq ⟨rfl,hwq⟩;rw [hwq];clear hwq wq;clear hHeld;go_wp2_with fail
      refine hK.out _ _ ((RR.out _ ROW.out).2.2) (fun hHeld=>?_);clear hK K;try simp only [Act.put,zz]
      refine hyq (i:=5) (v:=?v4) HQ hHeld ?h4 ?r4
      case h4=>(intro w hSw;(try dsimp only at hSw);go_simp;try with_reducible rfl)
      try simp only [Act.put,zz]
      refine wpAnyH_ready (rs:=[6]) (by kernel_rfl) (by simp) ?_;refine AllReadyH.cons (o:=_) rfl (fun K hK=>?_) AllReadyH.nil;go_simp;clear hHeld;go_wp2_with fail
      refine hK.out _ _ ((RR.out _ ROW.out).2.2) (fun hHeld=>?_);clear hK K;try simp only [Act.put,zz]
      refine wpAnyH_ready (rs:=[7]) (by kernel_rfl) (by simp) ?_;refine AllReadyH.cons (o:=_) rfl (fun K hK=>?_) AllReadyH.nil;go_simp;go_at_call 16
      (with_reducible refine BG.out.mono ?_)
      rintro e w8 ⟨⟨u8,rfl⟩,hy8,hk8⟩;have HY8:=Hd hy8;have HK8:=Hd hk8;have ROW8:=Hd ((hk8.2 ob rfl).trans ROW.out);clear hy8 hk8;clear hHeld;go_wp2_with fail
      refine hK.out _ _ ((RR.out _ ROW8.out).2.2) (fun hHeld=>?_);clear hK K;try simp only [Act.put,zz]
      refine wpAnyH_done (by kernel_rfl) ?_ _;go_wp2_with fail
      go_roundw
      case rel=>
       have b1:=LkI.begin (GFam.sz GA.gf) HO.out (ascS (fam jd)) (d:=digV (fam jd)) (x:=fam jd) (fun _=>GA.fam (Nat.lt_of_lt_of_le HJD.out (by decide)));obtain ⟨ow,ac,b4⟩:=begin_zero s HO.out.o.height (ascS (fam jd)) (digV (fam jd)) (fam jd);refine ⟨j+1,_,cs,by omega,by omega,by go_num,HY8.out.less (fun k hk=>hk.elim),b1,?_,?_⟩
       ·rw [b4];have:=HT.out;show s.ticks≤_;omega
       have:=HC.out;omega
      case measure=>simp [intOf];omega
    have y0:((q:Int) == 0)=false:=by simp;omega
    by_cases h3:q=3
    ·have y1:((q:Int) == 3)=true:=by simp;omega
     as_aux_lemma=>
      clear h0 h3;go_upto_region 37 with (fail)
      refine hst (S:=fun W=>W.cell? ⟨ob,4,none⟩=some (.int .i64 o.d)) (by kernel_rfl) ((RR.out _ rfl).2.2) (fun _ _ _ _ _ h=>h) (fun HQ hHeld=>?_);refine hyq (i:=0) (v:=?v5) HQ hHeld ?h5 ?r5
      case h5=>(intro w hSw;(try dsimp only at hSw);go_simp;try with_reducible rfl)
      try simp only [Act.put,zz]
      refine hyq (i:=2) (v:=?v6) HQ hHeld ?h6 ?r6
      case h6=>(intro w hSw;(try dsimp only at hSw);go_simp;try with_reducible rfl)
      try simp only [Act.put,zz]
      refine hyq (i:=3) (v:=?v7) HQ hHeld ?h7 ?r7
      case h7=>(intro w hSw;(try dsimp only at hSw);go_simp;try with_reducible rfl)
      try simp only [Act.put,zz]
      refine wpAnyH_ready (rs:=[1]) (by kernel_rfl) (by simp) ?_;refine AllReadyH.cons (o:=_) rfl (fun K hK=>?_) AllReadyH.nil;go_simp;go_at_call 17
      (with_reducible refine (lists_any _).mono ?_)
      rintro e wl ⟨gl,rfl,hbl,hll⟩;obtain ⟨vl,c1,r1⟩:=hll.cell jd HJD.out;rw [lst_fam HJD.out] at r1;have BL:=Hd ((Below.refl _ wo).drew.trans hbl);have ROW:=Hd (BL.out.block ob HOL.out);have DG:=Hd (digest_fam HJD.out r1);clear hll r1 hbl;clear hHeld;go_wp2_with fail
      refine hK.out _ _ ((RR.out _ ROW.out).2.2) (fun hHeld=>?_);clear hK K;try simp only [Act.put,zz]
      refine wpAnyH_ready (rs:=[4]) (by kernel_rfl) (by simp) ?_;refine AllReadyH.cons (o:=_) rfl (fun K hK=>?_) AllReadyH.nil;go_simp;go_at_call 14
      (with_reducible refine (PD.out _).mono ?_)
      rintro e wq ⟨rfl,hwq⟩;rw [hwq];clear hwq wq;clear hHeld;go_wp2_with fail
      refine hK.out _ _ ((RR.out _ ROW.out).2.2) (fun hHeld=>?_);clear hK K;try simp only [Act.put,zz]
      refine hyq (i:=5) (v:=?v8) HQ hHeld ?h8 ?r8
      case h8=>(intro w hSw;(try dsimp only at hSw);go_simp;try with_reducible rfl)
      try simp only [Act.put,zz]
      refine wpAnyH_ready (rs:=[6]) (by kernel_rfl) (by simp) ?_;refine AllReadyH.cons (o:=_) rfl (fun K hK=>?_) AllReadyH.nil;go_simp;clear hHeld;go_wp2_with fail
      refine hK.out _ _ ((RR.out _ ROW.out).2.2) (fun hHeld=>?_);clear hK K;try simp only [Act.put,zz]
      refine wpAnyH_ready (rs:=[7]) (by kernel_rfl) (by simp) ?_;refine AllReadyH.cons (o:=_) rfl (fun K hK=>?_) AllReadyH.nil;go_simp;go_at_call 26
      (with_reducible refine DG.out.mono ?_)
      rintro e w9 ⟨rfl,hb9⟩;have BM:=Hd (BL.out.trans (hb9.mono BL.out.size));have ROW9:=Hd (BM.out.block ob HOL.out);have BG:=Hd (y_accept (HYO.out.later BM.out) (digV (fam jd)));unfold pv at BG;clear hb9;clear hHeld;go_wp2_with fail
      refine hK.out _ _ ((RR.out _ ROW9.out).2.2) (fun hHeld=>?_);clear hK K;try simp only [Act.put,zz]
      refine wpAnyH_ready (rs:=[8]) (by kernel_rfl) (by simp) ?_;refine AllReadyH.cons (o:=_) rfl (fun K hK=>?_) AllReadyH.nil;go_simp;go_at_call 25
      (with_reducible refine BG.out.mono ?_)
      rintro e w8 ⟨rfl,hy8,hk8⟩;have HY8:=Hd hy8;have HK8:=Hd hk8;have ROW8:=Hd ((hk8.2 ob rfl).trans ROW9.out);clear hy8 hk8;clear hHeld;go_wp2_with fail
      refine hK.out _ _ ((RR.out _ ROW8.out).2.2) (fun hHeld=>?_);clear hK K;try simp only [Act.put,zz]
      refine wpAnyH_done (by kernel_rfl) ?_ _;go_wp2_with fail
      go_roundw
      case rel=>
       refine ⟨j+1,_,cs,by omega,by omega,by go_num,HY8.out.less (fun k hk=>hk.elim),LkI.accept HO.out _ HY8.out.fit.ok.inv,?_,?_⟩
       ·have:=HT.out;show s.ticks≤_;omega
       have:=HC.out;omega
      case measure=>simp [intOf];omega
    have y1:((q:Int) == 3)=false:=by simp;omega
    by_cases h47:4≤q∧q≤7
    ·have t0:=HOK.out;as_aux_lemma=>
      have MS:=Hd (message_any o.kd o.a o.b o.c o.d o.x0 o.x1 o.x2 o.x3 o.x4 o.x5 o.xd o.xa o.xn o.xc (N:Int) (me:Int) wo t0.a t0.b t0.c t0.d ⟨n1,n7⟩ HYO.out.gl);unfold opV at MS;have o0:=cell_of_row wo ob 0 _ _ _ HRO.out;have o1:=cell_of_row wo ob 1 _ _ _ HRO.out;have o2:=cell_of_row wo ob 2 _ _ _ HRO.out;have o3:=cell_of_row wo ob 3 _ _ _ HRO.out;have o4:=cell_of_row wo ob 4 _ _ _ HRO.out;have o5:=cell_of_row wo ob 5 _ _ _ HRO.out;have o6:=cell_of_row wo ob 6 _ _ _ HRO.out;have o7:=cell_of_row wo ob 7 _ _ _ HRO.out;have o8:=cell_of_row wo ob 8 _ _ _ HRO.out;have o9:=cell_of_row wo ob 9 _ _ _ HRO.out;have o10:=cell_of_row wo ob 10 _ _ _ HRO.out;have o11:=cell_of_row wo ob 11 _ _ _ HRO.out;have o12:=cell_of_row wo ob 12 _ _ _ HRO.out;simp at o0 o1 o2 o3 o4 o5 o6 o7 o8 o9 o10 o11 o12;obtain ⟨g4,hg4⟩:∃b,((q:Int) == 4)=b:=⟨_,rfl⟩;obtain ⟨g5,hg5⟩:∃b,((q:Int) == 5)=b:=⟨_,rfl⟩;obtain ⟨g6,hg6⟩:∃b,((q:Int) == 6)=b:=⟨_,rfl⟩;have z7:g4=false→g5=false→g6=false→((q:Int) == 7)=true:=fun a b c=>by
       rw [←hg4] at a;rw [←hg5] at b;rw [←hg6] at c;simp at a b c ⊢;omega
      have H47:=Hd h47;have Z7:=Hd z7;clear t0 h0 h3 h47 z7;go_upto_region 38 with (fail)
      go_cut [199] from 199 to 200 (fun t wc=>t = .bool g4∧wc=wo)
      case first=>
       go_wp2_with fail
       go_meet;exact ⟨rfl,rfl⟩
      case rest=>
      obtain ⟨rfl,hw⟩:=hcut;rw [hw];clear hw;go_upto_if 199 with (fail)
      go_cut [199] from 199 to 203 (fun t wc=>t = .bool true∧wc=wo)
      case first=>
       have Z7:=Z7.out;rcases g4 with _ | _
       ·rcases g5 with _ | _
        ·rcases g6 with _ | _
         ·have z8:=Z7 rfl rfl rfl;clear Z7;go_wp2_with fail
          go_meet;exact ⟨rfl,rfl⟩
         clear Z7;go_wp2_with fail
         go_meet;exact ⟨rfl,rfl⟩
        clear Z7;go_wp2_with fail
        go_meet;exact ⟨rfl,rfl⟩
       clear Z7;go_wp2_with fail
       go_meet;exact ⟨rfl,rfl⟩
      case rest=>
      obtain ⟨rfl,hw⟩:=hcut;rw [hw];clear hw Z7 hg4 hg5 hg6;go_upto_region 43 with (go_at_call 27;(with_reducible refine MS.out.mono ?_);rintro e w6 ⟨m,sl,rfl,hl6,hlaw,hb6⟩;obtain ⟨aol,capl,rfl,_⟩:=id hl6;have HL6:=Hd hl6;have HLAW:=Hd hlaw;have HB6:=Hd hb6;unfold encM iv;clear hl6 hlaw hb6)
      clear o0 o1 o2 o3 o4 o5 o6 o7 o8 o9 o10 o11 o12 MS;obtain ⟨mb,hmb⟩:∃mb,mb=w6.heap.size:=⟨_,rfl⟩;obtain ⟨w7,hw7⟩:∃w7,w7=w6.alloc (.cells #[.int .i64 m.kind,.int .i64 m.frm,.int .i64 m.to,.int .i64 m.height,.int .i64 m.round,.int .i64 m.valid,.string m.dig,.slice aol m.list.length capl] 36):=⟨_,rfl⟩;have HR7:=Hd (show w7.heap[mb]?=some (.cells #[.int .i64 m.kind,.int .i64 m.frm,.int .i64 m.to,.int .i64 m.height,.int .i64 m.round,.int .i64 m.valid,.string m.dig,.slice aol m.list.length capl] 36 (0,0)) from by rw [hw7,hmb];exact World.alloc_heap_new w6 _);have HB7:=Hd (show Below w6.heap.size w6 w7 from by rw [hw7];exact (Below.refl _ w6).alloc (Nat.le_refl _) _);have HMB:=Hd (show w6.heap.size≤mb∧mb<w7.heap.size from ⟨Nat.le_of_eq hmb.symm,(gE HR7.out).1⟩);rw [←hmb,←hw7];clear hmb hw7;have m3:=cell_of_row w7 mb 3 _ _ _ HR7.out;have mf:=fun o=>frozen_of_row w7 mb o _ _ HR7.out;simp at m3;have HB27:=Hd (HB6.out.trans (HB7.out.mono HB6.out.size));have HY7:=Hd ((HYO.out.grow HB27.out).set (b:=mb) (.inr ⟨Nat.le_trans HB6.out.size HMB.out.1,HMB.out.2⟩) 3 (.int .i64 0));go_upto_region 44 with (fail)
      obtain ⟨w8,hw8⟩:∃w8,w8=w7.setCell ⟨mb,3,none⟩ (.int .i64 0):=⟨_,rfl⟩;have HR8:=Hd (show w8.heap[mb]?=some (.cells #[.int .i64 m.kind,.int .i64 m.frm,.int .i64 m.to,.int .i64 0,.int .i64 m.round,.int .i64 m.valid,.string m.dig,.slice aol m.list.length capl] 36 (0,0)) from by rw [hw8];exact heap_setC HR7.out _);have HB8:=Hd (show Below wo.heap.size wo w8 from by rw [hw8];exact HB27.out.setCell (Nat.le_trans HB6.out.size HMB.out.1) _);have HL8:=Hd (show LRow (fun k=>k<w8.heap.size) w8 (.slice aol m.list.length capl) m.list from by
       have hz:w8.heap.size=w7.heap.size:=by rw [hw8];simp [World.setCell]
       refine (HL6.out.kept (w':=w8) (fun g cur fr hr _=>?_)).mono (fun k hk=>?_)
       ·rw [hw8,Below.heap_setCell _ ⟨mb,3,none⟩ _ g (fun e=>by
         have e:g=mb:=e;have:=hr.2;have:=HMB.out.1;omega)]
        exact HB7.out.block g hr.2
       have:=hk.2;have:=HB7.out.size;show k<w8.heap.size;omega)
      have HS8:=Hd (show w6.heap.size≤w8.heap.size from by rw [hw8];have:=HB7.out.size;simpa [World.setCell] using this);have HKG:=Hd (show ∀g,g<w6.heap.size→g≠mb→w8.heap[g]?=w6.heap[g]? from fun g hg hne=>by
       rw [hw8,Below.heap_setCell _ ⟨mb,3,none⟩ _ g hne];exact HB7.out.block g hg)
      have HY8:=Hd (show OnZ w1.heap.size w1 x nb (N:Int) s cs (fun k=>k=ob∨New wo w7 k) w8 from by rw [hw8];exact HY7.out.1);rw [←hw8];clear hw8 m3 mf;have m0:=cell_of_row w8 mb 0 _ _ _ HR8.out;have m1:=cell_of_row w8 mb 1 _ _ _ HR8.out;have m2:=cell_of_row w8 mb 2 _ _ _ HR8.out;have m3:=cell_of_row w8 mb 3 _ _ _ HR8.out;have m4:=cell_of_row w8 mb 4 _ _ _ HR8.out;have m5:=cell_of_row w8 mb 5 _ _ _ HR8.out;have m6:=cell_of_row w8 mb 6 _ _ _ HR8.out;have m7:=cell_of_row w8 mb 7 _ _ _ HR8.out;simp at m0 m1 m2 m3 m4 m5 m6 m7;have HGA:=Hd (show (m.kind=3→GA m.dig m.list)∧m.list.length≤60 from by
       refine ⟨fun hk=>?_,?_⟩
       ·obtain ⟨⟨i,hi,a1,a2⟩,_⟩:=HLAW.out.prop hk;rw [a1,a2];exact GA.fam (Nat.lt_of_lt_of_le hi (by decide))
       by_cases hk:m.kind=3
       ·obtain ⟨⟨i,hi,a1,a2⟩,_⟩:=HLAW.out.prop hk;rw [a1];exact fam_len
       rw [(HLAW.out.vote hk).2.1];exact Nat.zero_le _)
      have HL9:=Hd (show LRow (New wo w6) w8 (.slice aol m.list.length capl) m.list from HL6.out.kept (w':=w8) (fun g cur fr hr hg=>by
       have hne:g≠mb:=fun e=>by have:=hr.2;have:=HMB.out.1;omega
       exact HKG.out g hr.2 hne))
      have DEC:=Hd (y_dec HY8.out);unfold pv at DEC;rw [HO.out.un] at DEC;clear m0 m1 m2 m3 m4 m5 m6 m7;go_upto_region 45 with (go_at_call 21;(with_reducible refine DEC.out.mono ?_);rintro e w9 ⟨⟨u9,rfl,hu9⟩,hb9⟩;have HB9:=Hd hb9;clear hu9 hb9)
      have HY9:=Hd (HY8.out.later HB9.out);have HR9:=Hd ((HB9.out.block mb (gE HR8.out).1).trans HR8.out);have HL10:=Hd (show LRow (New wo w6) w9 (.slice aol m.list.length capl) m.list from HL9.out.kept (w':=w9) (fun g cur fr hr hg=>HB9.out.block g (Nat.lt_of_lt_of_le hr.2 HS8.out)));have RV:=Hd (y_recv HY9.out (m:={m with height:=0}) (v:=.agg (encM {m with height:=0} (.slice aol m.list.length capl))) ⟨_,rfl,HL10.out⟩ (fun k hk=>Nat.lt_of_lt_of_le hk.2 (Nat.le_trans HS8.out HB9.out.size)) HGA.out.2 (fun _=>HGA.out.1));unfold encM iv pv at RV;obtain ⟨m0,m1,m2,m3,m4,m5,m6,m7,mfz⟩:=MRow.of (m:={m with height:=0}) HR9.out;go_upto_region 46 with (go_at_call 20;(with_reducible refine RV.out.mono ?_);rintro e w10 ⟨rfl,hy10,hk10⟩;have HY10:=Hd hy10;have HK10:=Hd hk10;clear hy10 hk10)
      clear m0 m1 m2 m3 m4 m5 m6 m7 mfz;have HMA:=Hd (show New wo w7 mb from ⟨Nat.le_trans HB6.out.size HMB.out.1,HMB.out.2⟩);have HR10:=Hd ((HK10.out.2 mb (.inr HMA.out)).trans HR9.out);have HL11:=Hd (show LRow (New wo w6) w10 (.slice aol m.list.length capl) m.list from HL10.out.kept (w':=w10) (fun g cur fr hr hg=>HK10.out.2 g (.inr ⟨hr.1,Nat.lt_of_lt_of_le hr.2 HB7.out.size⟩)));have HGV:=Hd (GivM.law HLAW.out n7 me0 (by omega));have HLK:=Hd (lk_recv HO.out HLAW.out HGA.out.1 n7 me0 (by omega));have AD:=Hd (y_add HY10.out (m:={m with height:=0}) HL11.out (fun k hk=>Nat.lt_of_lt_of_le hk.2 (Nat.le_trans HS8.out (Nat.le_trans HB9.out.size HK10.out.1))) HGV.out (by have:=HC.out;omega));have HTI:=Hd (show (s.receive {m with height:=0} (validB {m with height:=0})).ticks≤13 * ((j:Int)+1) from by rw [receive_ticks];have:=HT.out;omega);unfold encM iv pv at AD;obtain ⟨m0,m1,m2,m3,m4,m5,m6,m7,mfz⟩:=MRow.of (m:={m with height:=0}) HR10.out;obtain ⟨tf,htf⟩:∃tf,(m.frm != (me:Int))=tf:=⟨_,rfl⟩;have HTF:=Hd htf;go_cut [224] from 217 to 224 (fun t wc=>t = .bool tf∧wc=w10)
      case first=>
       go_wp2_with fail
       go_meet;exact ⟨by first | rfl | rw [htf],rfl⟩
      case rest=>
      obtain ⟨rfl,hw⟩:=hcut;rw [hw];clear hw htf;rcases tf with _ | _
      ·have HNO:=Hd (show ¬(m.frm≠m.to∧m.kind≠3∧m.frm<(N:Int)) from fun q=>by
        have e:=HTF.out;rw [HLAW.out.tt] at q;exact q.1 (by simpa using e))
       go_wp2_with fail
       go_roundw
       case rel=>
        refine ⟨j+1,_,cs,by omega,by omega,by go_num,HY10.out.less (fun k hk=>hk.elim),?_,by have:=HTI.out;omega,by have:=HC.out;omega⟩;have q:=HLK.out;rw [if_neg HNO.out] at q;exact q
       case measure=>simp [intOf];omega
      go_wp2_with (go_at_call 30;(with_reducible refine AD.out.mono ?_);rintro e w11 ⟨⟨b11,rfl⟩,cs',p1,p2,hy11,hk11⟩;have HP1:=Hd p1;have HP2:=Hd p2;have HY11:=Hd hy11;clear p1 p2 hy11 hk11)
      go_roundw
      case rel=>
       refine ⟨j+1,_,cs',by omega,by omega,by go_num,HY11.out.less (fun k hk=>hk.elim),?_,by have:=HTI.out;omega,by have:=HC.out;have:=HP2.out;omega⟩;rw [HP1.out];exact HLK.out
      case measure=>simp [intOf];omega
    have y4:((q:Int) == 4)=false:=by simp;omega
    have y5:((q:Int) == 5)=false:=by simp;omega
    have y6:((q:Int) == 6)=false:=by simp;omega
    have y7:((q:Int) == 7)=false:=by simp;omega
    obtain ⟨pa,hpa4,hpa⟩:=pickZ_nat o.a 4 (by omega);obtain ⟨pb,hpb5,hpb⟩:=pickZ_nat o.b 5 (by omega);have PA:=Hd (show ∀W,Calls Tryz.prog 14 #[.int .i64 o.a,.int .i64 4] W fun e w'=>e = .returned (.int .i64 (pa:Int))∧w'=W from fun W=>(pick_any o.a 4 W HOK.out.a.1 HOK.out.a.2 (by omega) (by omega)).mono fun e w' h=>⟨by rw [h.1];exact congrArg _ (congrArg _ hpa),h.2.symm⟩);have PB:=Hd (show ∀W,Calls Tryz.prog 14 #[.int .i64 o.b,.int .i64 5] W fun e w'=>e = .returned (.int .i64 (pb:Int))∧w'=W from fun W=>(pick_any o.b 5 W HOK.out.b.1 HOK.out.b.2 (by omega) (by omega)).mono fun e w' h=>⟨by rw [h.1];exact congrArg _ (congrArg _ hpb),h.2.symm⟩);obtain ⟨P,hP⟩:∃P,P=pa * pb:=⟨_,rfl⟩;have P12:P≤12:=by
     rw [hP];exact Nat.le_trans (Nat.mul_le_mul (show pa≤3 by omega) (show pb≤4 by omega)) (by decide)
    have mP:(pa:Int) * (pb:Int)=(P:Int):=by rw [hP];exact (Int.natCast_mul pa pb).symm
    have ewP:IntKind.wrap .i64 (P:Int)=(P:Int):=by rw [IntKind.wrap_i64];omega
    clear h0 h3 h47 hpa hpb hP hpa4 hpb5;go_wp2_with fail
    go_loopw [17] (fun kv wk=>∃(k:Nat) (s1:StB) (cs1:List BoxE),k≤P+1∧kv = .int .i64 (k:Int)∧OnZ w1.heap.size w1 x nb (N:Int) s1 cs1 (fun a=>a=ob) wk∧LkI szB GA (me:Int) (N:Int) s1 (plainL cs1)∧s1.ticks≤13 * j+k∧cs1.length≤52000 * j+4000 * k∧KeepA (fun a=>a=ob) wo wk) (fun kv _=>P+1 - (intOf kv).toNat)
    case atStart=>exact ⟨0,s,cs,Nat.zero_le _,rfl,HYO.out,HO.out,by have:=HT.out;omega,by have:=HC.out;omega,KeepA.refl _ _⟩
    case round=>
     obtain ⟨k,s1,cs1,hk,rfl,hy1,ho1,ht1,hc1,hk1⟩:=hrel;have HY1:=Hd hy1;have HO1:=Hd ho1;have HN1:=Hd (And.intro ht1 hc1);have HK1:=Hd hk1;have k0:(0:Int)≤(k:Int):=by omega
     clear hy1 ho1 ht1 hc1 hk1;have ROW1:=Hd (HK1.out.2 ob rfl);by_cases hkP:k≤P
     ·have k1:(k:Int)≤(P:Int):=by omega
      go_upto_region 14 with (fail)
      go_cut [74] from 66 to 74 (fun t wc=>t = .bool true∧Below wr.heap.size wr wc)
      case first=>
       go_region_held3 (fun W=>W.cell? ⟨ob,1,none⟩=some (.int .i64 o.a)∧W.cell? ⟨ob,2,none⟩=some (.int .i64 o.b))
        (first | (exact ⟨(RR.out _ ROW1.out).1,(RR.out _ ROW1.out).2.1⟩) | assumption)
        (first
         | (go_at_call 14;(with_reducible refine (PA.out _).mono ?_);rintro e wq ⟨rfl,rfl⟩)
         | (go_at_call 14;(with_reducible refine (PB.out _).mono ?_);rintro e wq ⟨rfl,rfl⟩))
       all_goals (
        go_wp2_with fail
        go_meet;exact ⟨rfl,(Below.refl _ _).drew⟩)
      case rest=>
      obtain ⟨rfl,hbk⟩:=hcut;obtain ⟨wk,rfl⟩:∃wk:World,wk=wc:=⟨_,rfl⟩;have HYK:=Hd (HY1.out.later hbk);have HKK:=Hd (HK1.out.trans (HY1.out.keepB hbk) (fun a h=>h));have LK1:=Hd (y_lockV HYK.out);obtain ⟨rl,hrl⟩:∃rl,rl=lockR s1:=⟨_,rfl⟩;rw [←hrl] at LK1;have HRL:=Hd hrl;unfold pv at LK1;clear hbk ROW1 hrl;go_upto_region 17 with (go_at_call 31;(with_reducible refine LK1.out.mono ?_);rintro e wl ⟨⟨ul,rfl,hul⟩,hbl⟩;have HUL:=Hd hul;have HBL:=Hd hbl;clear hul hbl)
      have HYL:=Hd (HYK.out.grow HBL.out);have TK:=Hd (y_tick HYL.out (by have:=HN1.out.1;omega));unfold pv at TK;go_upto_region 18 with (go_at_call 18;(with_reducible refine TK.out.mono ?_);rintro e wt ⟨v7,A2,rfl,hA2,hy2,hk2,ho2⟩;obtain ⟨ao7,cap7,rfl⟩:=out_slice ho2;have HA2:=Hd hA2;have HYT:=Hd hy2;have HKT:=Hd hk2;have HOT:=Hd ho2;clear hA2 hy2 hk2 ho2)
      have DEC3:=Hd (y_dec HYT.out);unfold pv at DEC3;obtain ⟨d3,hd3⟩:∃d3,s1.tick.1.isDec 0=d3:=⟨_,rfl⟩;rw [hd3] at DEC3;have HD3:=Hd hd3;obtain ⟨nm,hnm⟩:∃nm,nm=s1.tick.2.length:=⟨_,rfl⟩;have HNM:=Hd hnm;have nm0:(0:Int)≤(nm:Int):=by omega
      have nm9:(nm:Int)≤4000:=by have:=tick_lenO HYK.out.fit;omega
      rw [←hnm] at HOT ⊢;clear hd3 hnm;go_upto_region 19 with (go_at_call 21;(with_reducible refine DEC3.out.mono ?_);rintro e w10 ⟨⟨u10,rfl,hu10⟩,hb10⟩;have HB10:=Hd hb10;clear hu10 hb10)
      have HY10:=Hd (HYT.out.later HB10.out);rcases d3 with _ | _
      ·have HTK:=Hd (LkI.tick HO1.out (by omega) HD3.out);have HFIT:=Hd (show ∀m∈s1.tick.2,OutM szB GA (me:Int) (N:Int) m from fun m hm=>by
        have q:=Fit.out GA.gf HYK.out.fit m hm;rw [HO1.out.o.id,HO1.out.o.nn] at q;exact q)
       obtain ⟨ms,hms⟩:∃ms,ms=s1.tick.2:=⟨_,rfl⟩;have HMS:=Hd hms;rw [←hms] at HOT HNM HTK HFIT;clear hms;have HO10:=Hd (HOT.out.later HB10.out);have HUT:=Hd (show ∀v,s1.lock=some v→LRow (fun g=>A2 g∧g<w10.heap.size) w10 ul v.list from fun v hv=>
        (((HUL.out v hv).kept (w':=wt) (fun g cur fr hr _=>HKT.out.2 g (.inr hr))).kept (w':=w10) (fun g cur fr hr _=>HB10.out.block g (HYT.out.lt (HA2.out g (.inr hr))))).mono (fun g hr=>⟨HA2.out g (.inr hr),HY10.out.lt (HA2.out g (.inr hr))⟩))
       go_wp2_with fail
       go_loopw [23] (fun jv wj=>∃(i:Nat) (cs2:List BoxE),i≤nm∧jv = .int .i64 (i:Int)∧OnZ w1.heap.size w1 x nb (N:Int) s1.tick.1 cs2 A2 wj∧plainL cs2=boxT (plainL cs1) (ms.take i)∧cs2.length≤cs1.length+i∧KeepA A2 w10 wj) (fun jv _=>nm - (intOf jv).toNat)
       case atStart=>exact ⟨0,cs1,Nat.zero_le _,rfl,HY10.out,by rw [List.take_zero];rfl,by omega,KeepA.refl _ _⟩
       case round=>
        obtain ⟨i,cs2,hi,rfl,hyi,hpi,hli,hki⟩:=hrel;have HYI:=Hd hyi;have HPI:=Hd hpi;have HLI:=Hd hli;have HKI:=Hd hki;have i0:(0:Int)≤(i:Int):=by omega
        clear hyi hpi hli hki;by_cases hin:i<nm
        ·have i1:(i:Int)<(nm:Int):=by omega
         obtain ⟨m,hm⟩:∃m,ms[i]?=some m:=⟨ms[i]'(by rw [←HNM.out];exact hin),List.getElem?_eq_getElem _⟩;have OM:=HFIT.out m (List.mem_of_getElem? hm);have GV:=GivM.out OM me0 meN n7;have hor:=HO10.out.kept (W':=wr) HKI.out.1 (fun k _ _ hz=>HKI.out.2 k (Classical.not_not.1 hz));obtain ⟨b,off,lo,lc,rfl,hce,hlr⟩:=hor.nth hm;have e0:=hce 0 _ rfl;have e1:=hce 1 _ rfl;have e2:=hce 2 _ rfl;have e3:=hce 3 _ rfl;have e4:=hce 4 _ rfl;have e5:=hce 5 _ rfl;have e6:=hce 6 _ rfl;have e7:=hce 7 _ rfl;simp only [Nat.add_zero] at e0;unfold iv at e0 e1 e2 e3 e4 e5;have AD:=Hd (y_add HYI.out hlr (fun c hc=>hc.1.2) GV (by have:=HN1.out.2;have:=HLI.out;omega));have HEQ:=Hd (show (if m.frm≠m.to∧m.kind≠3∧m.frm<(N:Int) then addB (plainL cs2) m else plainL cs2)=boxT (plainL cs1) (ms.take (i+1)) from by
          rw [boxT_step _ _ _ _ hm,HPI.out];have h1:=OM.frm;have h2:=OM.tm;by_cases hk:m.kind=3
          ·rw [if_neg (fun q=>q.2.1 hk),if_neg (fun q=>q hk)]
          rw [if_pos ⟨by omega,hk,by omega⟩,if_pos hk])
         unfold encM iv pv at AD;clear OM GV hor hce hlr hm;go_wp2_with (go_at_call 30;(with_reducible refine AD.out.mono ?_);rintro e w11 ⟨⟨b11,rfl⟩,cs3,p1,p2,hy11,hk11⟩;have HP1:=Hd (p1.trans HEQ.out);have HP2:=Hd p2;have HY11:=Hd hy11;have HK11:=Hd hk11;clear p1 p2 hy11 hk11)
         go_roundw
         case rel=>exact ⟨i+1,cs3,by omega,by go_num,HY11.out,HP1.out,by have:=HLI.out;have:=HP2.out;omega,HKI.out.trans HK11.out (fun _ h=>h)⟩
         case measure=>simp [intOf];omega
        have i1:¬(i:Int)<(nm:Int):=by omega
        have HPE:=Hd (show plainL cs2=boxT (plainL cs1) ms from by
         have q:=HPI.out;rw [List.take_of_length_le (by rw [←HNM.out];omega)] at q;exact q)
        rw [←HPE.out] at HTK;obtain ⟨w11,rfl⟩:∃w11:World,w11=wr:=⟨_,rfl⟩;have HO11:=Hd (show OutR (fun k=>¬A2 k) wl w11 (.slice ao7 nm cap7) ms from HO10.out.kept (W':=w11) HKI.out.1 (fun k _ _ hz=>HKI.out.2 k (Classical.not_not.1 hz)));have HUE:=Hd (show ∀v,s1.lock=some v→LRow (fun g=>A2 g∧g<w10.heap.size) w11 ul v.list from fun v hv=>(HUT.out v hv).kept (w':=w11) (fun g cur fr hr _=>HKI.out.2 g hr.1));have HL2:=Hd (show cs2.length≤1000000000 from by have:=HN1.out.2;have:=HLI.out;omega);have RN:=Hd (show ∀W,Below w11.heap.size w11 W→Calls Tryz.prog 23 #[.pointer (some ⟨x,0,none⟩)] W fun e w'=>e = .returned (.int .i64 s1.tick.1.round)∧w'=W from fun W hW=>y_round (HYI.out.later hW));obtain ⟨rd,hrd⟩:∃rd,rd=s1.tick.1.round:=⟨_,rfl⟩;rw [←hrd] at RN;obtain ⟨fN,hfN⟩:∃fN,fN=faultsN (N:Int):=⟨_,rfl⟩;have HFN:=Hd hfN;have FA:=Hd (show ∀W,Calls Tryz.prog 33 #[.int .i64 (N:Int)] W fun e w'=>e = .returned (.int .i64 fN)∧w'=W from fun W=>by rw [hfN];exact rfaults_any _ W n1 n7);clear hrd hfN;go_wp2_with fail
        go_loopw [24] (fun jv wj=>∃i:Nat,i≤nm∧jv = .int .i64 (i:Int)∧Below w11.heap.size w11 wj) (fun jv _=>nm - (intOf jv).toNat)
        case atStart=>exact ⟨0,Nat.zero_le _,rfl,Below.refl _ _⟩
        case round=>
         obtain ⟨i2,hi2,rfl,hbj⟩:=hrel;have HBJ:=Hd hbj;have i20:(0:Int)≤(i2:Int):=by omega
         clear hbj;by_cases hin2:i2<nm
         ·have i21:(i2:Int)<(nm:Int):=by omega
          obtain ⟨m,hm⟩:∃m,ms[i2]?=some m:=⟨ms[i2]'(by rw [←HNM.out];exact hin2),List.getElem?_eq_getElem _⟩;have HMM:=Hd (List.mem_of_getElem? hm);obtain ⟨b,off,lo,lc,rfl,hce,hlr⟩:=(HO11.out.later HBJ.out).nth hm;have e0:=hce 0 _ rfl;have e1:=hce 1 _ rfl;have e2:=hce 2 _ rfl;have e3:=hce 3 _ rfl;have e4:=hce 4 _ rfl;have e5:=hce 5 _ rfl;have e6:=hce 6 _ rfl;have e7:=hce 7 _ rfl;simp only [Nat.add_zero] at e0;unfold iv at e0 e1 e2 e3 e4 e5;clear hce hlr hm;go_upto_region 29 with (fail)
          obtain ⟨mb,hmb⟩:∃mb,mb=wr.heap.size:=⟨_,rfl⟩;obtain ⟨wa,hwa⟩:∃wa,wa=wr.alloc (.cells #[.int .i64 m.kind,.int .i64 m.frm,.int .i64 m.to,.int .i64 m.height,.int .i64 m.round,.int .i64 m.valid,.string m.dig,.slice lo m.list.length lc] 36):=⟨_,rfl⟩;have HRA:=Hd (show wa.heap[mb]?=some (.cells #[.int .i64 m.kind,.int .i64 m.frm,.int .i64 m.to,.int .i64 m.height,.int .i64 m.round,.int .i64 m.valid,.string m.dig,.slice lo m.list.length lc] 36 (0,0)) from by rw [hwa,hmb];exact World.alloc_heap_new wr _);have HBA:=Hd (show Below wr.heap.size wr wa from by rw [hwa];exact (Below.refl _ wr).alloc (Nat.le_refl _) _);have HBM:=Hd (HBJ.out.trans (HBA.out.mono HBJ.out.size));rw [←hmb,←hwa];clear hmb hwa e0 e1 e2 e3 e4 e5 e6 e7;have up:∀W,Below wa.heap.size wa W→Below w11.heap.size w11 W:=fun W hW=>HBM.out.trans (hW.mono HBM.out.size);have KEEP:=Hd (show ∀W,Below wa.heap.size wa W→W.cell? ⟨mb,0,none⟩=some (.int .i64 m.kind)∧W.cell? ⟨mb,4,none⟩=some (.int .i64 m.round)∧W.cell? ⟨mb,6,none⟩=some (.string m.dig)∧Below wa.heap.size wa W from fun W hW=>by
           obtain ⟨c0,c1,c2,c3,c4,c5,c6,c7,fz⟩:=MRow.of (w:=W) ((hW.block mb (gE HRA.out).1).trans HRA.out);exact ⟨c0,c4,c6,hW⟩)
          have RND:=Hd (show ∀W,Below wa.heap.size wa W→Calls Tryz.prog 23 #[.pointer (some ⟨x,0,none⟩)] W fun e w'=>e = .returned (.int .i64 rd)∧w'=W from fun W hW=>RN.out W (up W hW));have DGK0:=Hd (show ∀v,s1.lock=some v→∀W,Below wa.heap.size wa W→Calls Tryz.prog 26 #[ul] W fun e w'=>e = .returned (.string v.dig)∧Below wa.heap.size wa w' from fun v hv W hW=>by
           have hr:=(HUE.out v hv).kept (w':=W) (fun g cur fr hr _=>(up W hW).block g (Nat.lt_of_lt_of_le hr.2 HKI.out.1));exact (digest_GA (HO1.out.o.g.lg v hv) hr).mono fun e w' q=>⟨q.1,hW.trans (q.2.mono hW.size)⟩)
          have KYS0:=Hd (show 0≤rl→rl<100→(∃k:Int,rl≤k∧0≤k∧k≤99∧fN<countB (plainL cs2) 6 0 k m.dig)→∀W,Below wa.heap.size wa W→Calls Tryz.prog 32 #[.pointer (some ⟨nb,0,none⟩),.int .i64 rl,.string m.dig] W fun e w'=>(∃q:Int,e = .returned (.int .i64 q)∧decide (q≤fN)=false)∧Below wa.heap.size wa w' from fun h0 h1 hex W hW=>by
           refine (y_keys (HYI.out.later (up W hW)) HL2.out rl m.dig h0 h1).mono ?_;rintro e w' ⟨⟨q,rfl,hq⟩,hb⟩;obtain ⟨kk,q1,q2,q3,q4⟩:=hex;exact ⟨⟨q,rfl,by have:=hq kk q1 q3;exact decide_eq_false (by omega)⟩,hW.trans (hb.mono hW.size)⟩)
          clear up;go_cut [154] from 113 to 154 (fun t wc=>t = .bool false∧Below wa.heap.size wa wc)
          case first=>
           obtain ⟨c0,c1,c2,c3,c4,c5,c6,c7,fz⟩:=MRow.of HRA.out;by_cases z1:m.kind=4
           ·have y1:(m.kind == 4)=true:=by rw [z1];rfl
            have HZ1:=Hd z1;clear z1;by_cases z2:m.round=rd
            ·have y2:(m.round == rd)=true:=by rw [z2];exact beq_self_eq_true _
             clear z2;by_cases z3:0≤rl
             ·have y3:decide (0≤rl)=true:=decide_eq_true z3;by_cases z4:rl<m.round
              ·have y4:decide (rl<m.round)=true:=decide_eq_true z4;rcases z5:m.dig.toList.isEmpty with _ | _
               ·have HLV:=Hd (show ∃v,s1.lock=some v∧v.round=rl from by
                 have e:=HRL.out;unfold lockR at e;rcases hs:s1.lock with _ | v
                 ·rw [hs] at e;simp only at e;omega
                 rw [hs] at e;exact ⟨v,rfl,e.symm⟩)
                obtain ⟨v,hv,hvr⟩:=HLV.out;have DGK:=Hd (DGK0.out v hv);by_cases z6:m.dig=v.dig
                ·rw [←z6] at DGK;clear z3 z4 z6 hv hvr c1 c2 c3 c5 c7;refine region29F wa mb x nb (N:Int) rl rd m.kind m.round fN m.dig m.dig ul _ _ _ _ _ _ _ _ _ _ _ _ _ _ _ _ _ _ _ _ _ _ _ _ _ _ _ _ _ _ _ _ _ _ _ _ _ _ _ _ _ _ _ _ _ _ _ _ _ _ _ _ _ _ _ _ _ _ _ _ _ _ _ _ _ _ _ _ _ _ _ _ _ _ _ _ _ _ _ _ _ _ _ _ _ _ _ _ _ _ _ _ _ _ _ _ _ _ _ _ _ _ _ _ _ _ _ _ _ _ _ _ _ _ _ _ _ _ _ _ _ _ _ _ _ _ _ _ _ _ _ _ _ _ _ _ _ _ _ _ _ _ _ _ _ _ _ _ _ _ _ _ _ _ _ _ _ _ _ _ _ _ _ _ _ _ _ _ _ _ _ _ _ _ _ _ _ _ _ _ _ _ _ _ _ _ _ _ _ _ _ _ _ _ _ _ _ _ _ _ _ _ _ _ _ _ _ _ _ _ _ _ _ _ _ _ _ _ _ _ _ _ _ (fun _ _ _ _ _ h=>h) ?_ KEEP RND DGK y1 y2 y3 y4 z5 rfl;intro u113 u114 u115 u116 u117 u118 u119 u120 u121 u122 u123 u124 u125 u126 u127 u128 u129 u130 u131 u132 u133 u134 u135 u136 u137 u138 u139 u140 u141 u142 u143 u144 u145 u146 u147 u148 u149 u150 u151 u152 u153 W hb;go_wp2_with fail
                 go_meet;exact ⟨rfl,hb⟩
                have x1:(m.dig.toList == v.dig.toList)=false:=beq_ne z6;have x2:(m.dig.toList != v.dig.toList)=true:=by rw [bne,x1];rfl
                have KYS:=Hd (KYS0.out z3 (by
                 have:=HO1.out.lk.lr v hv;have:=HO1.out.o.inv.num.lr v hv;omega) (by
                 have q:=HTK.out.2.pre m (by rw [←HMS.out];exact HMM.out) v hv HZ1.out (fun e=>by
                  rw [e,show (Dg.nil:ByteArray).toList = [] from by show (ByteArray.mk #[]).toList = [];simp] at z5;cases z5) (by omega) z6
                 rw [hvr,←HFN.out] at q;exact q))
                clear z3 z4 z6 hv hvr c1 c2 c3 c5 c7;refine region29G wa mb x nb (N:Int) rl rd m.kind m.round fN m.dig v.dig ul _ _ _ _ _ _ _ _ _ _ _ _ _ _ _ _ _ _ _ _ _ _ _ _ _ _ _ _ _ _ _ _ _ _ _ _ _ _ _ _ _ _ _ _ _ _ _ _ _ _ _ _ _ _ _ _ _ _ _ _ _ _ _ _ _ _ _ _ _ _ _ _ _ _ _ _ _ _ _ _ _ _ _ _ _ _ _ _ _ _ _ _ _ _ _ _ _ _ _ _ _ _ _ _ _ _ _ _ _ _ _ _ _ _ _ _ _ _ _ _ _ _ _ _ _ _ _ _ _ _ _ _ _ _ _ _ _ _ _ _ _ _ _ _ _ _ _ _ _ _ _ _ _ _ _ _ _ _ _ _ _ _ _ _ _ _ _ _ _ _ _ _ _ _ _ _ _ _ _ _ _ _ _ _ _ _ _ _ _ _ _ _ _ _ _ _ _ _ _ _ _ _ _ _ _ _ _ _ _ _ _ _ _ _ _ _ _ _ _ _ _ _ _ (fun _ _ _ _ _ h=>h) ?_ KEEP RND DGK KYS FA y1 y2 y3 y4 z5 x1 x2;intro u113 u114 u115 u116 u117 u118 u119 u120 u121 u122 u123 u124 u125 u126 u127 u128 u129 u130 u131 u132 u133 u134 u135 u136 u137 u138 u139 u140 u141 u142 u143 u144 u145 u146 u147 u148 u149 u150 u151 u152 u153 W hb;go_wp2_with fail
                go_meet;exact ⟨rfl,hb⟩
               go_quiet ((go_at_call 23;exact Calls.quiet_of_same (RND.out _ (below_drewN (Below.refl _ _) _))))
               go_wp2
               go_meet;exact ⟨rfl,below_drewN (Below.refl _ _) _⟩
              have y4:decide (rl<m.round)=false:=decide_eq_false z4;go_quiet ((go_at_call 23;exact Calls.quiet_of_same (RND.out _ (below_drewN (Below.refl _ _) _))))
              go_wp2
              go_meet;exact ⟨rfl,below_drewN (Below.refl _ _) _⟩
             have y3:decide (0≤rl)=false:=decide_eq_false z3;go_quiet ((go_at_call 23;exact Calls.quiet_of_same (RND.out _ (below_drewN (Below.refl _ _) _))))
             go_wp2
             go_meet;exact ⟨rfl,below_drewN (Below.refl _ _) _⟩
            have y2:(m.round == rd)=false:=by simpa using z2
            clear z2;go_quiet ((go_at_call 23;exact Calls.quiet_of_same (RND.out _ (below_drewN (Below.refl _ _) _))))
            go_wp2
            go_meet;exact ⟨rfl,below_drewN (Below.refl _ _) _⟩
           have y1:(m.kind == 4)=false:=by simpa using z1
           clear z1;go_quiet (fail)
           go_wp2
           go_meet;exact ⟨rfl,below_drewN (Below.refl _ _) _⟩
          case rest=>
          obtain ⟨rfl,hb12⟩:=hcut;have HB12:=Hd (HBM.out.trans (hb12.mono HBM.out.size));clear hb12;go_wp2_with fail
          go_roundw
          case rel=>exact ⟨i2+1,by omega,by go_num,HB12.out⟩
          case measure=>simp [intOf];omega
         have i21:¬(i2:Int)<(nm:Int):=by omega
         have HYJ:=Hd (HYI.out.later HBJ.out);have LK2:=Hd (y_lockV HYJ.out);obtain ⟨rq,hrq⟩:∃rq,rq=lockR s1.tick.1:=⟨_,rfl⟩;rw [←hrq] at LK2;unfold pv at LK2;have hup:¬rq<rl:=by
          have:=HTK.out.2.up;rw [←HRL.out,←hrq] at this;omega
         have HRQ:=Hd hrq;have rl1:-1≤rl:=by
          rw [HRL.out];unfold lockR;rcases hs:s1.lock with _ | v
          ·exact Int.le_refl _
          have:=(HO1.out.o.inv.num.lr v hs).1;show -1≤v.round;omega
         clear hrq;go_upto_region 32 with (go_at_call 31;(with_reducible refine LK2.out.mono ?_);rintro e wl2 ⟨⟨ul2,rfl,hul2⟩,hbl2⟩;have HUL2:=Hd hul2;have HBL2:=Hd hbl2;clear hul2 hbl2)
         have HYM:=Hd (HYJ.out.later HBL2.out);go_cut [177] from 160 to 177 (fun t wc=>t = .bool false∧Below wl2.heap.size wl2 wc)
         case first=>
          by_cases z1:rl<rq
          ·obtain ⟨v,hv,hvr⟩:∃v,s1.tick.1.lock=some v∧v.round=rq:=by
            have e:=HRQ.out;unfold lockR at e;rcases hs:s1.tick.1.lock with _ | v
            ·rw [hs] at e;simp only at e;omega
            rw [hs] at e;exact ⟨v,rfl,e.symm⟩
           have DG2:=Hd (digest_GA (HTK.out.1.o.g.lg v hv) (HUL2.out v hv));have HQU:=Hd (show decide (countB (plainL cs2) 6 0 rq v.dig<quorumN (N:Int))=false from by
            have:=HTK.out.2.quo v hv;rw [hvr] at this;exact decide_eq_false (by omega))
           have CT2:=Hd (show ∀W,Below wl2.heap.size wl2 W→Calls Tryz.prog 34 #[.pointer (some ⟨nb,0,none⟩),.int .i64 6,.int .i64 0,.int .i64 rq,.string v.dig] W fun e w'=>e = .returned (.int .i64 (countB (plainL cs2) 6 0 rq v.dig))∧Below wl2.heap.size wl2 w' from fun W hW=>(y_count (HYM.out.later hW) HL2.out 6 0 rq v.dig).mono fun e w' q=>⟨q.1,hW.trans (q.2.mono hW.size)⟩);have QU:=Hd (show ∀W,Calls Tryz.prog 35 #[.int .i64 (N:Int)] W fun e w'=>e = .returned (.int .i64 (quorumN (N:Int)))∧w'=W from fun W=>rquorum_any _ W n1 n7);obtain ⟨cq,hcq⟩:∃cq,cq=countB (plainL cs2) 6 0 rq v.dig:=⟨_,rfl⟩;obtain ⟨qn,hqn⟩:∃qn,qn=quorumN (N:Int):=⟨_,rfl⟩;rw [←hcq] at CT2 HQU;rw [←hqn] at QU HQU;have y9:=HQU.out;clear hcq hqn hv hvr;go_wp2_with (first
            | (go_at_call 26;(with_reducible refine DG2.out.mono ?_);rintro e w13 ⟨rfl,hb13⟩;have CT3:=Hd (CT2.out _ hb13);clear hb13)
            | (go_at_call 34;(with_reducible refine CT3.out.mono ?_);rintro e w14 ⟨rfl,hb14⟩;have HB14:=Hd hb14;clear hb14)
            | (go_at_call 35;(with_reducible refine (QU.out _).mono ?_);rintro e wq ⟨rfl,hwq⟩;rw [hwq];clear hwq wq))
           go_meet;exact ⟨by first | rfl | (simp [y9];omega) | simp [y9],HB14.out⟩
          go_wp2_with fail
          go_meet;exact ⟨by first | rfl | (simp;omega),Below.refl _ _⟩
         case rest=>
         obtain ⟨rfl,hb15⟩:=hcut;have HY15:=Hd (HYM.out.later hb15);have HKE:=Hd (show KeepA (fun a=>a=ob) wo wc from
          (((HKK.out.trans (HYK.out.keepB HBL.out) (fun a h=>h)).trans HKT.out (fun a h=>.inl h)).trans (((HYT.out.keepB HB10.out).trans HKI.out (fun _ h=>h)).trans (((HYI.out.keepB HBJ.out).trans (HYJ.out.keepB HBL2.out) (fun _ h=>h)).trans (HYM.out.keepB hb15) (fun _ h=>h)) (fun _ h=>h)) (fun a h=>HA2.out a (.inl h))))
         clear hb15;go_wp2_with fail
         go_roundw
         case rel=>
          have u1:=(tick_keep HO1.out.o.inv).ticks;obtain ⟨u2,u3⟩:=HN1.out;have u4:=HLI.out;refine ⟨k+1,s1.tick.1,cs2,by omega,by go_num,HY15.out.less (fun a h=>HA2.out a (.inl h)),?_,by omega,by omega,HKE.out⟩;rw [HPE.out];have q:=HTK.out.1;rw [HPE.out] at q;exact q
         case measure=>simp [intOf];omega
      go_wp2_with fail
      go_ret;exact ⟨rfl,HB1.out.trans (HY10.out.below.mono HB1.out.size)⟩
     have k1:¬(k:Int)≤(P:Int):=by omega
     go_upto_region 14 with (fail)
     go_region_held3 (fun W=>W.cell? ⟨ob,1,none⟩=some (.int .i64 o.a)∧W.cell? ⟨ob,2,none⟩=some (.int .i64 o.b))
      (first | (exact ⟨(RR.out _ ROW1.out).1,(RR.out _ ROW1.out).2.1⟩) | assumption)
      (first
       | (go_at_call 14;(with_reducible refine (PA.out _).mono ?_);rintro e wq ⟨rfl,rfl⟩)
       | (go_at_call 14;(with_reducible refine (PB.out _).mono ?_);rintro e wq ⟨rfl,rfl⟩))
     all_goals (
      go_wp2_with fail
      go_roundw
      case rel=>
       obtain ⟨t1,t2⟩:=HN1.out;exact ⟨j+1,s1,cs1,by omega,by omega,by go_num,(HY1.out.later (Below.refl _ _).drew).less (fun a h=>h.elim),HO1.out,by omega,by omega⟩
      case measure=>simp [intOf];omega)
   have j2:¬(j:Int)<80:=by omega
   go_wp2_with fail
   go_ret;exact ⟨rfl,HB1.out.trans (HY.out.below.mono HB1.out.size)⟩
  have j1:¬(j:Int)<(len:Int):=by omega
  go_wp2_with fail
  go_ret;exact ⟨rfl,HB1.out.trans (HY.out.below.mono HB1.out.size)⟩
end
end
end Go.Proofs.YtifcdjmcoibblaaGreatDoor
