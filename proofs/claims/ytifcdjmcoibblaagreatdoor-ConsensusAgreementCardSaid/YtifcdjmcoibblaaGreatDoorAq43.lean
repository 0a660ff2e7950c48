/- Rsm Shk Kyv -/
import Derived.Test.YtifcdjmcoibblaaGreatDoorAq42
import Derived.Shelf.SlSortCmp.NoneTotal
set_option linter.unusedVariables false
set_option linter.unusedSimpArgs false
set_option linter.unusedSectionVars false
set_option maxRecDepth 100000
set_option maxHeartbeats 80000000
namespace Go.Proofs.YtifcdjmcoibblaaGreatDoor
section
open Go.RowKit
def Za0 (k:Int×ByteArray):List Value:=[.int .i64 k.1,.string k.2]
theorem Zf6 {W:World} {ko:Option Addr} {kc n:Nat} {ks:List (Int×ByteArray)} (hn:n=ks.length) (hl:n<=1000) (hr:Z1l 2 Za0 W ko ks) {r:Int} (hk:Z0t r Zcv (-1) ks=true) :
  Calls Tryz.prog 107 #[.slice ko n kc,.int .i64 r] W λe w'=>e = .returned (.bool true)∧Below W.heap.size W w':=by
 have HR:=Hd hr;have HK:=Hd hk;have HN:=Hd hn;have n9:(n:Int)<=1000:=by omega
 clear hr hk hn;go_enter Tryz.func107,Tryz.ntmps107
 go_wp2_with fail
 go_loopw [10,5] (λiv lv wr=>∃(j:Nat) (last:Int),j<=n∧iv = .int .i64 (j:Int)∧lv = .int .i64 last∧Z0t r Zcv last (ks.drop j)=true∧Below W.heap.size W wr) (λiv _ _=>n - (intOf iv).toNat)
 case atStart=>exact ⟨0,-1,Nat.zero_le _,rfl,rfl,HK.out,Below.refl _ _⟩
 case round=>
  obtain ⟨j,last,hj,rfl,rfl,ha,hb⟩:=hrel;have HB:=Hd hb;have j0:(0:Int)<=(j:Int):=by omega
  by_cases hjn:j<n
  ·have j1:(j:Int)<(n:Int):=by omega
   obtain ⟨k,hkj⟩:∃k,ks[j]?=some k:=⟨_,List.getElem?_eq_getElem (by rw [<-HN.out];exact hjn)⟩;obtain ⟨b,off,rfl,hbl,hc⟩:=HR.out j k hkj;obtain ⟨h1,h2⟩:=List.getElem?_eq_some_iff.1 hkj;rw [List.drop_eq_getElem_cons h1,h2] at ha;unfold Z0t at ha;split at ha
   ·cases ha
   rename_i q
   simp only [not_or,Int.not_le,Bool.not_eq_false] at q;obtain ⟨q1,q2,q3⟩:=q;have HA:=Hd ha;have k0:wr.cell? ⟨b,off+j * 2,none⟩=some (.int .i64 k.1):=by
    rw [World.cell?_of_block (w:=W) (w':=wr) (a:=⟨b,off+j * 2,none⟩) (hb.block b hbl)];exact hc 0 _ rfl
   have k1:wr.cell? ⟨b,off+j * 2+1,none⟩=some (.string k.2):=by
    rw [World.cell?_of_block (w:=W) (w':=wr) (a:=⟨b,off+j * 2+1,none⟩) (hb.block b hbl)];exact hc 1 _ rfl
   have d1:decide (k.1<=last)=false:=decide_eq_false (by omega);have d2:decide (r<=k.1)=false:=decide_eq_false (by omega);have q4:k.2.size=32:=by unfold Zcv at q3;simpa using q3
   have s1:((k.2.size:Int) == 32)=true:=by rw [q4];rfl
   have s2:((k.2.size:Int) != 32)=false:=by rw [bne,s1];rfl
   have HBA:=Hd (show Below W.heap.size W (wr.alloc (.cells #[.int .i64 k.1,.string k.2] 102)) from hb.alloc hb.size _);clear ha hb hkj hbl hc h1 h2 q1 q2 q3 q4;go_wp2_with fail
   go_roundw
   case rel=>exact ⟨j+1,k.1,by omega,by go_num,rfl,HA.out,HBA.out⟩
   case measure=>simp [intOf];omega
  have j1:¬(j:Int)<(n:Int):=by omega
  clear ha hb;go_wp2_with fail
  go_ret;exact ⟨rfl,HB.out⟩
theorem Zmu {s:StB} (h:Zac s):∀ks:List (Int×ByteArray),Zac (Z30 s ks):=by
 intro ks;have key:∀(ks:List (Int×ByteArray)) (s:StB),Zac s->Zac (Z30 s ks):=by
  intro ks;induction ks with
  | nil=>intro s h;exact h
  | cons k ks ih=>
   intro s h;obtain ⟨hb,e1,e2,e3,e4,e5⟩:=Z0j s (vote 6 k.1 k.2:Z0k);refine ih _ ⟨by rw [hb.n];exact h.n1,by rw [hb.n];exact h.n7,by rw [hb.id];exact h.id0,by rw [hb.id,hb.n];exact h.idn,by rw [hb.height];exact h.h0,by rw [hb.height];exact h.h1,by rw [e1];exact h.r0,by rw [e1];exact h.r1,by rw [e2];exact h.st1,by rw [e2];exact h.st4,by rw [e3];exact h.c0,by rw [e3,hb.ticks];exact h.c1,by rw [hb.valid];exact h.vr,by rw [hb.lock];exact h.lr⟩
 exact key ks s h
theorem Zmv (s:StB) (a b:List (Int×ByteArray)):Z30 s (a ++ b)=Z30 (Z30 s a) b:=by
 unfold Z30;rw [List.foldl_append]
structure Zrt (s:StB) (height round locked:Int) (l:List ByteArray) (ks:List (Int×ByteArray)):Prop where
 asc:Z1f l=true
 h0:0<=height
 h1:height<1200
 r0:0<=round
 r1:round<100
 l0:-1<=locked
 l1:locked<round
 le:locked<0->l = []
 ks:Z0t round Zcv (-1) ks=true
 dec:s.isDec height=false
 up:s.height<height∨(s.height=height∧s.round<round)
def Zju (s:StB) (height round locked:Int) (l:List ByteArray):StB:=
 if 0<=locked then {s.moved height round with lock:=some ⟨locked,Z0z l,l⟩,valid:=some ⟨locked,Z0z l,l⟩,acc:=[Z0z l]} else s.moved height round
theorem Zrt.eq {s:StB} {height round locked:Int} {l:List ByteArray} {ks:List (Int×ByteArray)} (c:Zrt s height round locked l ks):Z12 s height round locked l ks=(Z30 (Zju s height round locked l) ks,true):=by
 have hle:¬(locked<0∧l.isEmpty=false):=λq=>by rw [c.le q.1] at q;exact absurd q.2 (by decide)
 have h0:=c.h0;have h1:=c.h1;have r0:=c.r0;have r1:=c.r1;have l0:=c.l0;have l1:=c.l1;have up:=c.up;unfold Z12 NS.resume;rw [if_neg (by
  rw [c.asc];simp only [not_or];exact ⟨by simp,by omega,by omega,by omega,by omega,by omega,by omega,hle⟩),if_neg (by
  rw [c.ks,c.dec];simp;omega)]
 rfl
section
variable {R R0:Nat->Prop} {w:World} {x:Nat} {p:Ptr} {s:StB}
theorem Zgx {v:Value} {l:List ByteArray} (h:Z00 R w x p s) (hv:Z0a R0 w v l) (h0:∀k,R0 k->k<w.heap.size) (hl:l.length<=60) (hG:Glob w) (hI:Zac s) {height round locked:Int} {ko:Option Addr} {kc n:Nat} {ks:List (Int×ByteArray)} (hn:n=ks.length) (hkl:n<=100) (hr:Z1l 2 Za0 w ko ks) (hra:∀g off,ko=some ⟨g,off,none⟩->ks≠[]->¬R g) (c:Zrt s height round locked l ks) :
  Calls Tryz.prog 59 #[pv x,iv height,iv round,iv locked,v,.slice ko n kc] w λe w'=>e = .returned (.int .i64 0)∧Z06 R w x (Z12 s height round locked l ks).1 w':=by
 have H:=Hd h;have HC:=Hd c;have HKR:=Hd hr;have HRA:=Hd hra;have HN:=Hd hn;have NV:=Hd (Z56 hv h0 hl hG locked);rw [c.asc] at NV;obtain ⟨la,lc,rfl,_⟩:=id hv;obtain ⟨ll,hll⟩:∃ll,ll=l.length:=⟨_,rfl⟩;rw [<-hll] at NV hl ⊢;have HLL:=Hd hll;have ll0:(0:Int)<=(ll:Int):=by omega
 have ll9:(ll:Int)<=60:=by omega
 have n9:(n:Int)<=100:=by omega
 obtain ⟨dv,hdv⟩:∃dv,dv=Z0z l:=⟨_,rfl⟩;rw [<-hdv] at NV;have HDV:=Hd hdv;have a1:decide (height<0)=false:=decide_eq_false (by have:=c.h0;omega);have a2:decide (1200<=height)=false:=decide_eq_false (by have:=c.h1;omega);have a3:decide (round<0)=false:=decide_eq_false (by have:=c.r0;omega);have a4:decide (100<=round)=false:=decide_eq_false (by have:=c.r1;omega);have a5:decide (locked < -1)=false:=decide_eq_false (by have:=c.l0;omega);have a6:decide (round<=locked)=false:=decide_eq_false (by have:=c.l1;omega);have a7:decide (height<s.height)=false:=decide_eq_false (by have:=c.up;omega);have HI:=Hd hI;have HRZ:=Hd (show Z12 s height round locked l ks=(Z30 (Zju s height round locked l) ks,true) from c.eq);clear h c hr hra hn hv hG hI hll hdv;unfold pv iv at *;go_enter Tryz.func59,Tryz.ntmps59
 go_upto_region 4 with (go_at_call 62;refine NV.out.mono ?_;rintro e w1 ⟨u,rfl,hrow,hb⟩;obtain ⟨ao,cap,rfl,hcap,hrw⟩:=hrow;have HLV:=Hd (show Z0a (New w w1) w1 (.slice ao l.length cap) l from ⟨ao,cap,rfl,hcap,hrw⟩);have HB1:=Hd hb;clear hb hcap hrw)
 rw [<-HLL.out] at HLV ⊢;obtain ⟨w3,hw3⟩:∃w3,w3=w1.alloc (.cells #[.int .i64 locked,.string dv,.slice ao ll cap] 120):=⟨_,rfl⟩;have HB3:=Hd (show Below w.heap.size w w3 from by rw [hw3];exact HB1.out.alloc HB1.out.size _);have HB13:=Hd (show Below w1.heap.size w1 w3 from by rw [hw3];exact (Below.refl _ _).alloc (Nat.le_refl _) _);have HVR:=Hd (show w3.heap[w1.heap.size]?=some (.cells #[.int .i64 locked,.string dv,.slice ao ll cap] 120 (0,0)) from by rw [hw3];exact World.alloc_heap_new w1 _);have HS3:=Hd (show w3.heap.size=w1.heap.size+1 from by rw [hw3];simp);rw [<-hw3];clear hw3;obtain ⟨vb,hvb⟩:∃vb,vb=w1.heap.size:=⟨_,rfl⟩;have HVB:=Hd hvb;rw [<-hvb] at HVR ⊢;clear hvb;have HL3:=Hd (show Z0a (New w w3) w3 (.slice ao ll cap) l from (HLV.out.kept (λg cur fr hr _=>HB13.out.block g hr.2)).mono (λk hk=>⟨hk.1,by have:=hk.2;have:=HS3.out;omega⟩));have HN3:=Hd (H.out.below HB3.out);have HVN:=Hd (show New w w3 vb from ⟨by rw [HVB.out];exact HB1.out.size,by rw [HVB.out,HS3.out];omega⟩);have IS:=Hd (show ∀W,Below w3.heap.size w3 W->Calls Tryz.prog 63 #[.pointer (some ⟨x,0,none⟩),.int .i64 height] W λe w'=>e = .returned (.bool false)∧Below w3.heap.size w3 w' from λW hW=>by
  have:=Z1a (HN3.out.below hW) height;rw [HC.out.dec] at this;exact this.mono λe w' q=>⟨q.1,hW.trans (q.2.mono hW.size)⟩)
 have AK:=Hd (Zf6 (W:=w3) (kc:=kc) HN.out (by omega) (λj k hk=>by
  obtain ⟨b,off,e,hb,hc⟩:=HKR.out j k hk;exact ⟨b,off,e,Nat.lt_of_lt_of_le hb HB3.out.size,λi u hu=>by rw [World.cell?_of_block (w:=w) (w':=w3) (a:=⟨b,off+j * 2+i,none⟩) (HB3.out.block b hb)];exact hc i u hu⟩) HC.out.ks)
 go_upto_region 11 with (fail)
 go_cut [25] from 25 to 47 (λt wc=>t = .bool false∧wc=w3)
 case first=>
  by_cases hlk:locked<0
  ·have b1:decide (locked<0)=true:=decide_eq_true hlk;have b3:ll=0:=by rw [HLL.out,HC.out.le hlk];rfl
   have b2:decide ((0:Int)<(ll:Int))=false:=decide_eq_false (by omega);have b4:decide (0<ll)=false:=decide_eq_false (by omega);clear b3;go_wp2_with fail
   go_meet;exact ⟨rfl,rfl⟩
  have b1:decide (locked<0)=false:=decide_eq_false hlk;go_wp2_with fail
  go_meet;exact ⟨rfl,rfl⟩
 case rest=>
 obtain ⟨rfl,hw⟩:=hcut;rw [hw];clear hw a1 a2 a3 a4 a5 a6;have KP:=Hd (show ∀W,Below w3.heap.size w3 W->W.cell? ⟨x,0,none⟩=some (.int .i64 s.height)∧W.cell? ⟨x,1,none⟩=some (.int .i64 s.round) from λW hW=>⟨(HN3.out.below hW).nc.c0,(HN3.out.below hW).nc.c1⟩);go_upto_region 16 with (first
  | (go_at_call 107;(with_reducible refine AK.out.mono ?_);rintro e w4 ⟨rfl,hb4⟩;have HB4:=Hd hb4;clear hb4)
  | (go_at_call 63;(with_reducible refine (IS.out _ HB4.out).mono ?_);rintro e w5 ⟨rfl,hb5⟩;have HB5:=Hd hb5;obtain ⟨c0,c1⟩:=KP.out _ hb5;clear hb5))
 go_cut [48] from 48 to 78 (λt wc=>t = .bool false∧wc=w5)
 case first=>
  by_cases he:height=s.height
  ·have b1:(height == s.height)=true:=by rw [he];exact beq_self_eq_true _
   have b2:decide (round<=s.round)=false:=decide_eq_false (by have:=HC.out.up;omega);clear he;go_wp2_with fail
   go_meet;exact ⟨rfl,rfl⟩
  have b1:(height == s.height)=false:=by simpa using he
  go_wp2_with fail
  go_meet;exact ⟨rfl,rfl⟩
 case rest=>
 obtain ⟨rfl,hw⟩:=hcut;rw [hw];clear hw c0 c1 a7;obtain ⟨st,hpre⟩:=(HN3.out.below HB5.out).pre;have MV:=Hd (Zce hpre HI.out.n1 HI.out.n7 height round s ⟨rfl,rfl,rfl,rfl,rfl⟩);unfold pv iv at MV;clear hpre;go_upto_region 19 with (go_at_call 61;refine MV.out.mono ?_;rintro e w6 ⟨rfl,p2,R2,hn2,hc2,hg2⟩;have HN6:=Hd hn2;have HC6:=Hd hc2;have HG6:=Hd hg2;clear hn2 hc2 hg2)
 have hvR:¬R vb:=λq=>by have:=H.out.lt vb q;have:=HVN.out.1;omega
 have hs35:=HB5.out.size;have hs56:=HC6.out.size;have hs03:=HB3.out.size;have HNW:=Hd (show Z00 (λk=>R2 k∨New w w3 k) w6 x p2 (s.moved height round) from HN6.out.mono (λk hk=>.inl hk) (λk hk=>by
  rcases hk with hk | hk
  ·exact HN6.out.lt k hk
  have:=hk.2;omega))
 have HRV:=Hd (show (R2 vb∨New w w3 vb) from .inr HVN.out);have HVW:=Hd (show w6.heap[vb]?=some (.cells #[.int .i64 locked,.string dv,.slice ao ll cap] 120 (0,0)) from (HC6.out.block vb (Nat.lt_of_lt_of_le HVN.out.2 hs35) hvR).trans ((HB5.out.block vb HVN.out.2).trans HVR.out));have HLW:=Hd (show Z0a (λk=>R2 k∨New w w3 k) w6 (.slice ao ll cap) l from ((HL3.out.below (λk hk=>hk.2) HB5.out).kept (λg cur fr hr _=>HC6.out.block g (Nat.lt_of_lt_of_le hr.2 hs35) (λq=>by have:=H.out.lt g q;have:=hr.1;omega))).mono (λk hk=>.inr hk));have HCR:=Hd (show Chg R w w6 from (Chg.of_below (HB3.out.trans (HB5.out.mono HB3.out.size)) (λk q1 q2=>by omega)).trans (HC6.out.mono (λk _ hk=>.inl hk)));have HGW:=Hd (show Z2b R (λk=>R2 k∨New w w3 k) w from ⟨λk hk=>.inl (HG6.out.1 k hk),λk hk=>by
  rcases hk with hk | hk
  ·rcases HG6.out.2 k hk with q | q
   ·exact .inl q
   exact .inr (by omega)
  exact .inr hk.1⟩)
 have HNE:=Hd (show vb≠x from λe=>by
  have q1:=H.out.lt x H.out.mem;have q2:=HVN.out.1;omega)
 clear hvR hs35 hs56 hs03;obtain ⟨bk,hbk⟩:∃bk,bk=decide (0<=locked):=⟨_,rfl⟩;have HBK:=Hd hbk;go_cut [84] from 83 to 84 (λt wc=>t = .bool bk∧wc=w6)
 case first=>
  rcases bk with _ | _
  ·have hb:decide (0<=locked)=false:=hbk.symm;clear hbk;go_wp2_with fail
   go_meet;exact ⟨rfl,rfl⟩
  have hb:decide (0<=locked)=true:=hbk.symm;clear hbk;go_wp2_with fail
  go_meet;exact ⟨rfl,rfl⟩
 case rest=>
 obtain ⟨rfl,hw⟩:=hcut;rw [hw];clear hw hbk;go_upto_if 84 with (fail)
 go_cut [] from 85 to 99 (λwc=>Z06 R w x (Zju s height round locked l) wc)
 case first=>
  rcases bk with _ | _
  ·have HE:=Hd (show Zju s height round locked l=s.moved height round from if_neg (of_decide_eq_false HBK.out.symm));go_wp2_with fail
   go_meet;rw [HE.out];exact ⟨p2,_,HNW.out,HCR.out,HGW.out⟩
  have HE:=Hd (show Zju s height round locked l = {s.moved height round with lock:=some ⟨locked,dv,l⟩,valid:=some ⟨locked,dv,l⟩,acc:=Z2j dv (s.moved height round).acc} from by
   unfold Zju;rw [if_pos (of_decide_eq_true HBK.out.symm),HDV.out];rfl)
  have HNL1:=Hd (HNW.out.put_lock (g:=vb) (v:=⟨locked,dv,l⟩) HRV.out HVW.out HLW.out);have f5:=HNW.out.nc.c5;have f6:=HNW.out.nc.c6;have ffz:=HNW.out.nc.fz;unfold pv at HNL1;have HVL1:=Hd (show (w6.setCell ⟨x,5,none⟩ (.pointer (some ⟨vb,0,none⟩))).heap[vb]?=some (.cells #[.int .i64 locked,.string dv,.slice ao ll cap] 120 (0,0)) from by rw [Below.heap_setCell w6 ⟨x,5,none⟩ _ vb HNE.out];exact HVW.out);have HLL1:=Hd (show Z0a (λk=>R2 k∨New w w3 k) (w6.setCell ⟨x,5,none⟩ (.pointer (some ⟨vb,0,none⟩))) (.slice ao ll cap) l from HLW.out.kept (λg cur fr _ hg=>Below.heap_setCell w6 ⟨x,5,none⟩ _ g (λe=>by
   have e:g=x:=e;subst e;rw [HNW.out.node] at hg;injection hg with hg
   injection hg with _ hg _
   exact absurd hg (by decide))))
  have HNL:=Hd (HNL1.out.put_valid (g:=vb) (v:=⟨locked,dv,l⟩) HRV.out HVL1.out HLL1.out);unfold pv at HNL;obtain ⟨wl,hwl⟩:∃wl,wl=(w6.setCell ⟨x,5,none⟩ (.pointer (some ⟨vb,0,none⟩))).setCell ⟨x,6,none⟩ (.pointer (some ⟨vb,0,none⟩)):=⟨_,rfl⟩;have HVL:=Hd (show wl.heap[vb]?=some (.cells #[.int .i64 locked,.string dv,.slice ao ll cap] 120 (0,0)) from by rw [hwl,Below.heap_setCell _ ⟨x,6,none⟩ _ vb HNE.out];exact HVL1.out);have HCW:=Hd (show Chg (λk=>R2 k∨New w w3 k) w6 wl from by rw [hwl];exact (Chg.set w6 x 5 _ HNW.out.mem).trans (Chg.set _ x 6 _ (.inl HNW.out.mem)));rw [<-hwl] at HNL;go_upto_region 21 with (fail)
  rw [<-hwl];clear hwl f5 f6 ffz;obtain ⟨ob,hup,hnf⟩:=HNL.out.drew.lay_acc dv;have HNF:=Hd hnf;have f8:=HNL.out.nc.c8;have v1:=cell_of_row wl vb 1 _ _ _ HVL.out;have HAM:=Hd (HNL.out.maps.own p2.acc (by simp [Ptr.maps]));simp at v1;clear hnf;go_region
  all_goals (
   go_wp2
   go_meet;rw [HE.out];refine ⟨_,(λk=>R2 k∨New w w3 k),HNF.out,?_,HGW.out⟩;exact HCR.out.trans ((HCW.out.trans (((Chg.drew (λk=>R2 k∨New w w3 k) wl).trans ((Chg.put wl.drew p2.acc ob HAM.out).mono (λk _ hk=>.inl hk))).mono (λk _ hk=>.inl hk))).mono (λk _ hk=>HGW.out.2 k hk)))
 case rest=>
 obtain ⟨w7,rfl⟩:∃w7:World,w7=wc:=⟨_,rfl⟩;have HT7:=Hd hcut;have HN0:=Hd (show Zac (Zju s height round locked l) from by
  have h0:=HC.out.h0;have h1:=HC.out.h1;have r0:=HC.out.r0;have r1:=HC.out.r1;have l1:=HC.out.l1;have b:=HI.out;unfold Zju;split
  ·rename_i q
   exact ⟨b.n1,b.n7,b.id0,b.idn,h0,h1,r0,by show round<=99;omega,by show (1:Int)<=1;decide,by show (1:Int)<=4;decide,Int.le_refl 0,Int.le_refl 0,λv hv=>(by cases hv;exact ⟨q,by show locked<=99;omega⟩),λv hv=>(by cases hv;exact ⟨q,by show locked<=99;omega⟩)⟩
  exact ⟨b.n1,b.n7,b.id0,b.idn,h0,h1,r0,by show round<=99;omega,by show (1:Int)<=1;decide,by show (1:Int)<=4;decide,Int.le_refl 0,Int.le_refl 0,λv hv=>(by cases hv),λv hv=>(by cases hv)⟩)
 have HM0:=Hd (show (Zju s height round locked l).mine = [] from by unfold Zju;split <;> rfl);clear hcut HNW HVW HLW HCR HGW HN6 HC6 HG6 MV IS AK KP HB4 HB5;go_wp2_with fail
 go_loopw [102] (λiv wr=>∃j:Nat,j<=n∧iv = .int .i64 (j:Int)∧Z06 R w x (Z30 (Zju s height round locked l) (ks.take j)) wr) (λiv _=>n - (intOf iv).toNat)
 case atStart=>exact ⟨0,Nat.zero_le _,rfl,HT7.out⟩
 case round=>
  obtain ⟨j,hj,rfl,ht⟩:=hrel;have HTJ:=Hd ht;have j0:(0:Int)<=(j:Int):=by omega
  by_cases hjn:j<n
  ·have j1:(j:Int)<(n:Int):=by omega
   obtain ⟨k,hkj⟩:∃k,ks[j]?=some k:=⟨_,List.getElem?_eq_getElem (by rw [<-HN.out];exact hjn)⟩;obtain ⟨b,off,rfl,hbl,hc⟩:=HKR.out j k hkj;have hnR:¬R b:=HRA.out b off rfl (λe=>by rw [e] at hkj;cases hkj);have hcg:Chg R w wr:=by obtain ⟨_,_,_,a,_⟩:=ht;exact a
   have k0:wr.cell? ⟨b,off+j * 2,none⟩=some (.int .i64 k.1):=hcg.cell (hc 0 _ rfl) hnR;have k1:wr.cell? ⟨b,off+j * 2+1,none⟩=some (.string k.2):=hcg.cell (hc 1 _ rfl) hnR;have HTK:=Hd (show ks.take (j+1)=ks.take j ++ [k] from by
    obtain ⟨h1,h2⟩:=List.getElem?_eq_some_iff.1 hkj;rw [List.take_succ_eq_append_getElem h1,h2])
   have HKG:=Hd (show 0<=k.1∧k.1<=99∧k.2.size=32 from by
    have key:∀(l:List (Int×ByteArray)) (last:Int),-1<=last->Z0t round Zcv last l=true->∀k∈l,0<=k.1∧k.1<round∧k.2.size=32:=by
     intro l;induction l with
     | nil=>intro _ _ _ k hk;cases hk
     | cons y l ih=>
      intro last hlast ha k hk;unfold Z0t at ha;split at ha
      ·cases ha
      rename_i q
      simp only [not_or,Int.not_le,Bool.not_eq_false] at q;rcases List.mem_cons.1 hk with rfl | hk
      ·exact ⟨by omega,q.2.1,by have:=q.2.2;unfold Zcv at this;simpa using this⟩
      exact ih y.1 (by omega) ha k hk
    obtain ⟨a,b,c⟩:=key ks (-1) (Int.le_refl _) HC.out.ks k (List.mem_of_getElem? hkj);have:=HC.out.r1;exact ⟨a,by omega,c⟩)
   have SAY:=Hd (show ∀W,Below wr.heap.size wr W->Calls Tryz.prog 108 #[.pointer (some ⟨x,0,none⟩),.agg #[.int .i64 6,.int .i64 0,.int .i64 0,.int .i64 0,.int .i64 k.1,.int .i64 0,.string k.2,.slice none 0 0]] W λe w'=>e = .returned (.tuple #[])∧Z06 R w x (Z30 (Zju s height round locked l) (ks.take (j+1))) w' from λW hW=>by
    obtain ⟨pj,Rj,hnj,hback⟩:=(HTJ.out.then hW).node;have hnum:=Zmu HN0.out (ks.take j);have hmine:(Z30 (Zju s height round locked l) (ks.take j)).mine.length<=1000:=by
     rw [(Z5u (ks.take j) _).2.2.2.2.1,HM0.out,List.nil_append,List.length_map,List.length_take,<-HN.out];omega
    have q:=Z9i (v:=.agg (Z0l (vote 6 k.1 k.2:Z0k) (.slice none 0 0))) hnj ⟨_,rfl,Z0a.nil _ _⟩ (Nat.zero_le _) hnum hmine (λ_=>Zcj hnum (.inr (.inr rfl)) ⟨HKG.out.1,HKG.out.2.1⟩ rfl rfl (.inr HKG.out.2.2));refine q.mono ?_;rintro e w' ⟨rfl,ht⟩;refine ⟨rfl,hback _ _ ?_⟩;rw [HTK.out,Zmv];exact ht)
   clear ht hkj hbl hc hnR hcg;go_upto_region 25 with (fail)
   obtain ⟨wa,hwa⟩:∃wa,wa=wr.alloc (.cells #[.int .i64 k.1,.string k.2] 102):=⟨_,rfl⟩;have HBA:=Hd (show Below wr.heap.size wr wa from by rw [hwa];exact (Below.refl _ _).alloc (Nat.le_refl _) _);have q0:=cell_of_row wa wr.heap.size 0 _ _ _ (show wa.heap[wr.heap.size]?=some (.cells #[.int .i64 k.1,.string k.2] 102 (0,0)) from by rw [hwa];exact World.alloc_heap_new wr _);have q1:=cell_of_row wa wr.heap.size 1 _ _ _ (show wa.heap[wr.heap.size]?=some (.cells #[.int .i64 k.1,.string k.2] 102 (0,0)) from by rw [hwa];exact World.alloc_heap_new wr _);simp at q0 q1;rw [<-hwa];clear hwa k0 k1;go_wp2_with (go_at_call 108;(with_reducible refine (SAY.out _ HBA.out).mono ?_);rintro e w8 ⟨rfl,ht8⟩;have HT8:=Hd ht8;clear ht8)
   go_roundw
   case rel=>exact ⟨j+1,by omega,by go_num,HT8.out⟩
   case measure=>simp [intOf];omega
  have j1:¬(j:Int)<(n:Int):=by omega
  have HEND:=Hd (show Z06 R w x (Z12 s height round locked l ks).1 wr from by
   rw [HRZ.out];have:=HTJ.out;rw [List.take_of_length_le (by rw [<-HN.out];omega)] at this;exact this)
  clear ht;go_wp2_with fail
  go_ret;exact ⟨rfl,HEND.out⟩
end
end
end Go.Proofs.YtifcdjmcoibblaaGreatDoor
namespace Go.Proofs
open Go.Shelf
def Tryz.sortK_ren : Go.Shelf.Ren := ⟨fun | 6 => 97 | 15 => 160 | 14 => 159 | 28 => 215 | 29 => 216 | 20 => 207 | 21 => 208 | 22 => 209 | 23 => 210 | 24 => 211 | 25 => 212 | 26 => 213 | 27 => 214 | 46 => 242 | 47 => 243 | 48 => 244 | 49 => 245 | 50 => 246 | 57 => 279 | n => n, fun | 22 => 90 | 24 => 102 | 25 => 152 | 3 => 3 | 39 => 184 | 0 => 0 | 53 => 170 | 55 => 209 | 4 => 4 | 46 => 260 | 45 => 259 | 50 => 264 | 5 => 5 | 9 => 9 | 66 => 289 | 70 => 248 | 76 => 307 | 77 => 308 | n => n, fun | n => n⟩
theorem Tryz.sortK : Go.Proofs.SlLaysF0.n6 Tryz.prog Tryz.sortK_ren := {
 mixed := by kernel_rfl
 f6 := ⟨Tryz.f97.name, by decide, Tryz.func97.trans (congrArg some (by kernel_rfl))⟩
 f14 := ⟨Tryz.f159.name, by decide, Tryz.func159.trans (congrArg some (by kernel_rfl))⟩
 f15 := Tryz.func160.trans (congrArg some (by kernel_rfl))
 f20 := ⟨Tryz.f207.name, by decide, Tryz.func207.trans (congrArg some (by kernel_rfl))⟩
 f21 := ⟨Tryz.f208.name, by decide, Tryz.func208.trans (congrArg some (by kernel_rfl))⟩
 f22 := ⟨Tryz.f209.name, by decide, Tryz.func209.trans (congrArg some (by kernel_rfl))⟩
 f23 := ⟨Tryz.f210.name, by decide, Tryz.func210.trans (congrArg some (by kernel_rfl))⟩
 f24 := ⟨Tryz.f211.name, by decide, Tryz.func211.trans (congrArg some (by kernel_rfl))⟩
 f25 := ⟨Tryz.f212.name, by decide, Tryz.func212.trans (congrArg some (by kernel_rfl))⟩
 f26 := ⟨Tryz.f213.name, by decide, Tryz.func213.trans (congrArg some (by kernel_rfl))⟩
 f27 := ⟨Tryz.f214.name, by decide, Tryz.func214.trans (congrArg some (by kernel_rfl))⟩
 f28 := Tryz.func215.trans (congrArg some (by kernel_rfl))
 f29 := Tryz.func216.trans (congrArg some (by kernel_rfl))
 f46 := ⟨Tryz.f242.name, by decide, Tryz.func242.trans (congrArg some (by kernel_rfl))⟩
 f47 := Tryz.func243.trans (congrArg some (by kernel_rfl))
 f48 := Tryz.func244.trans (congrArg some (by kernel_rfl))
 f49 := ⟨Tryz.f245.name, by decide, Tryz.func245.trans (congrArg some (by kernel_rfl))⟩
 f50 := ⟨Tryz.f246.name, by decide, Tryz.func246.trans (congrArg some (by kernel_rfl))⟩
 f57 := ⟨Tryz.f279.name, by decide, Tryz.func279.trans (congrArg some (by kernel_rfl))⟩
 t0 := Tryz.underlying0
 a0 := Tryz.isAgg0
 z0 := Tryz.sizeOf0
 v0 := Tryz.zeroValue0
 t3 := Tryz.underlying3
 a3 := Tryz.isAgg3
 z3 := Tryz.sizeOf3
 v3 := Tryz.zeroValue3
 t4 := Tryz.underlying4
 a4 := Tryz.isAgg4
 z4 := Tryz.sizeOf4
 v4 := Tryz.zeroValue4
 t5 := Tryz.underlying5
 a5 := Tryz.isAgg5
 z5 := Tryz.sizeOf5
 v5 := Tryz.zeroValue5
 t9 := Tryz.underlying9
 a9 := Tryz.isAgg9
 z9 := Tryz.sizeOf9
 v9 := Tryz.zeroValue9
 t22 := Tryz.underlying90
 a22 := Tryz.isAgg90
 z22 := Tryz.sizeOf90
 v22 := Tryz.zeroValue90
 t25 := Tryz.underlying152
 a25 := Tryz.isAgg152
 z25 := Tryz.sizeOf152
 v25 := Tryz.zeroValue152
 t39 := Tryz.underlying184
 a39 := Tryz.isAgg184
 z39 := Tryz.sizeOf184
 v39 := Tryz.zeroValue184
 t45 := Tryz.underlying259
 a45 := Tryz.isAgg259
 z45 := Tryz.sizeOf259
 v45 := Tryz.zeroValue259
 t46 := Tryz.underlying260
 a46 := Tryz.isAgg260
 z46 := Tryz.sizeOf260
 v46 := Tryz.zeroValue260
 t50 := Tryz.underlying264
 a50 := Tryz.isAgg264
 z50 := Tryz.sizeOf264
 v50 := Tryz.zeroValue264
 t53 := Tryz.underlying170
 a53 := Tryz.isAgg170
 z53 := Tryz.sizeOf170
 v53 := Tryz.zeroValue170
 t55 := Tryz.underlying209
 a55 := Tryz.isAgg209
 z55 := Tryz.sizeOf209
 v55 := Tryz.zeroValue209
 t66 := Tryz.underlying289
 a66 := Tryz.isAgg289
 z66 := Tryz.sizeOf289
 v66 := Tryz.zeroValue289
 t70 := Tryz.underlying248
 a70 := Tryz.isAgg248
 z70 := Tryz.sizeOf248
 v70 := Tryz.zeroValue248
 t76 := Tryz.underlying307
 a76 := Tryz.isAgg307
 z76 := Tryz.sizeOf307
 v76 := Tryz.zeroValue307
 t77 := Tryz.underlying308
 a77 := Tryz.isAgg308
 z77 := Tryz.sizeOf308
 v77 := Tryz.zeroValue308 }
end Go.Proofs
namespace Go.Proofs.YtifcdjmcoibblaaGreatDoor
section
open Go.RowKit Go.Shelf Go.Sort
abbrev KyF:=Fin 100×ByteArray
def toK (k:KyF):Int×ByteArray:=((k.1.val:Int),k.2)
def Z4f (k:KyF):List Value:=Za0 (toK k)
theorem Z7i (k:KyF):(Z4f k).length=2:=rfl
theorem Zmw (k:KyF):∀v∈Z4f k,v.oneCell'=true:=by
 intro v hv;simp [Z4f,Za0] at hv;rcases hv with rfl | rfl <;> rfl
def cfK (x y:KyF):Int:=(x.1.val:Int) - (y.1.val:Int)
theorem Zcy (x y:KyF):ltOf cfK x y=decide (x.1.val<y.1.val):=by
 unfold ltOf cfK;rw [Bool.eq_iff_iff];simp only [decide_eq_true_eq];omega
theorem swoK:Go.Sort.SWO (ltOf cfK) where
 irrefl x:=by rw [Zcy];simp
 trans x y z h1 h2:=by rw [Zcy] at *;simp at *;omega
 ntrans x y z h1 h2:=by rw [Zcy] at *;simp at *;omega
theorem Zty (W:World) (A B:Obj):(W.alloc A).alloc B=grow (W.drewN 0) #[A,B]:=by
 rw [alloc_eq_grow,alloc_eq_grow,grow_grow];rfl
theorem Zpd (x y:KyF) (W:World):Calls Tryz.prog 98 #[.agg (Z4f x).toArray,.agg (Z4f y).toArray] W λe w'=>e = .returned (.int .i64 (cfK x y))∧∃q os',w'=grow (W.drewN q) os':=by
 obtain ⟨⟨a,ha⟩,d⟩:=x;obtain ⟨⟨b,hb⟩,c⟩:=y;unfold Z4f Za0 toK cfK;dsimp only;have ew:IntKind.wrap .i64 ((a:Int) - (b:Int))=(a:Int) - (b:Int):=by rw [IntKind.wrap_i64];omega
 go_enter Tryz.func98,Tryz.ntmps98
 go_wp2
 go_ret;exact ⟨rfl,0,_,Zty W _ _⟩
theorem Zpe (blk off size:Nat) (w:World):CmpLays Tryz.prog 98 #[] Z4f 2 cfK blk off size w:=
 λ_ _ _ _ x y=>Zpd x y _
def Z31 (l:List KyF):Prop:=l.Pairwise λx y=>x.1.val<y.1.val
theorem Zbi:∀{a b:List KyF},a.Perm b->Z31 a->Z31 b->a=b
 | [],b,h,_,_=>by have:=h.length_eq;simp at this;exact (List.eq_nil_of_length_eq_zero this.symm).symm
 | x :: a,[],h,_,_=>by have:=h.length_eq;simp at this
 | x :: a,y :: b,h,ha,hb=>by
  unfold Z31 at ha hb;rw [List.pairwise_cons] at ha hb;have hxy:x=y:=by
   have h1:x∈y :: b:=h.mem_iff.1 (List.mem_cons_self ..);have h2:y∈x :: a:=h.mem_iff.2 (List.mem_cons_self ..);rcases List.mem_cons.1 h1 with e | h1
   ·exact e
   rcases List.mem_cons.1 h2 with e | h2
   ·exact e.symm
   have:=hb.1 x h1;have:=ha.1 y h2;omega
  subst hxy;rw [Zbi (h.cons_inv) ha.2 hb.2]
theorem Zjv {L S:List KyF} (hp:L.Perm S) (hS:Z31 S) {d':Array KyF} (h1:Go.Sort.PermIn 0 L.toArray.size L.toArray d') (h2:Go.Sort.SortedIn (ltOf cfK) 0 L.toArray.size d'):d'=S.toArray:=by
 obtain ⟨hsz,_,hperm⟩:=h1;have e1:d'.extract 0 L.toArray.size=d':=by rw [<-hsz];exact Array.extract_size
 rw [e1,Array.extract_size] at hperm;have hperm':d'.toList.Perm S:=by simpa using hperm.trans (by simpa using hp)
 have:d'.toList=S:=by
  refine Zbi hperm' ?_ hS;unfold Z31;rw [List.pairwise_iff_getElem];intro i j hi hj hij;have hi':i<d'.size:=by simpa using hi
  have hj':j<d'.size:=by simpa using hj
  have h3:=h2 i j (Nat.zero_le _) hij (by omega);rw [getElem!_pos d' j hj',getElem!_pos d' i hi',Zcy,decide_eq_false_iff_not] at h3;simp only [Array.getElem_toList];have m1:d'[i]∈S:=hperm'.mem_iff.1 (by simp);have m2:d'[j]∈S:=hperm'.mem_iff.1 (by simp);have nd:d'.toList.Nodup:=hperm'.nodup_iff.2 (List.Pairwise.imp (λ{u v} h e=>by subst e;omega) hS);have hne:d'[i]≠d'[j]:=λe=>by
   have:=(List.pairwise_iff_getElem.1 nd) i j hi hj hij;simp only [Array.getElem_toList] at this;exact this e
  refine Classical.byContradiction λhn=>?_;have he:d'[i].1.val=d'[j].1.val:=by omega
  obtain ⟨p,hp',ep⟩:=List.getElem_of_mem m1;obtain ⟨q,hq',eq⟩:=List.getElem_of_mem m2;rcases Nat.lt_trichotomy p q with h | h | h
  ·have:=(List.pairwise_iff_getElem.1 hS) p q hp' hq' h;rw [ep,eq] at this;omega
  ·subst h;rw [ep] at eq;exact hne eq
  have:=(List.pairwise_iff_getElem.1 hS) q p hq' hp' h;rw [ep,eq] at this;omega
 rw [<-this]
theorem Zmx (blk cap:Nat) (L S:List KyF) (w:World) (hp:L.Perm S) (hS:Z31 S) (hH:Go.Sort.HoldsK Z4f 2 w blk 0 L.toArray) (hblk:blk<w.heap.size) (hsz:L.length<4611686018427387904) :
  Calls Tryz.prog 97 #[.slice (some ⟨blk,0,none⟩) L.length cap,.func (.func 98) #[] #[]] w λe w'=>
   e = .returned (.tuple #[])∧Z1l 2 Z4f w' (some ⟨blk,0,none⟩) S∧Chg (λk=>k=blk) w w':=by
 have eg:∀args w,(callFunc 98 args).run Tryz.prog w = .ok (.enter 98 args) w:=enters_of Tryz.func98 (by kernel_rfl) rfl;refine (AnyQ.slices_SortFunc Tryz.sortK 2 Tryz.isAgg102 Tryz.sizeOf102 Z4f (λ_=>rfl) (λx v hv=>Zmw x v hv) cfK swoK 98 #[] blk 0 cap L.toArray w eg (Zpe blk 0 _ w) hH hblk hsz).mono ?_;rintro e w' ⟨he,d',n,os,h1,h2,hw⟩;have hd:=Zjv hp hS h1 h2;subst hd;have hlen:S.length=L.length:=hp.length_eq.symm;have hH':=holdsK_sortWorldK_c Z4f 2 w blk 0 L.toArray S.toArray n os hH hblk (by simp [hlen]);rw [<-hw] at hH';refine ⟨he,λi x hx=>⟨blk,0,rfl,?_,λj v hv=>?_⟩,?_⟩
 ·rw [hw];exact Nat.lt_of_lt_of_le hblk (size_sortWorldK_c Z4f 2 w blk 0 n _ os)
 ·have hi:i<S.toArray.size:=by simpa using (List.getElem?_eq_some_iff.1 hx).1
  have hj:j<2:=by have:=(List.getElem?_eq_some_iff.1 hv).1;rw [Z7i] at this;exact this
  have:=(hH'.cell (i:=i) (c:=j) hi hj).1;rw [this];have e1:S.toArray[i]! = x:=by
   obtain ⟨q1,q2⟩:=List.getElem?_eq_some_iff.1 hx;simp [q1,q2]
  rw [e1];obtain ⟨q1,q2⟩:=List.getElem?_eq_some_iff.1 hv;simp [q1,q2]
 rw [hw];refine ⟨rfl,rfl,rfl,size_sortWorldK_c Z4f 2 w blk 0 n _ os,λk hk hn=>?_⟩;unfold sortWorldK;rw [Go.Sort.heap_grow_old _ _ (by unfold Go.Sort.putRowK;rw [Go.Sort.size_putRow];exact hk)];unfold Go.Sort.putRowK Go.Sort.putRow Go.Sort.mapBlock;simp only [Array.getElem?_modify];rw [if_neg (λh=>hn h.symm)];rfl
theorem Zjw (p:Option Addr) (cap:Nat) (w:World) :
  Calls Tryz.prog 97 #[.slice p 0 cap,.func (.func 98) #[] #[]] w λe w'=>e = .returned (.tuple #[])∧w'=w:=
 AnyF.slices_SortFunc_none Tryz.sortK p cap _ w
end
end Go.Proofs.YtifcdjmcoibblaaGreatDoor
