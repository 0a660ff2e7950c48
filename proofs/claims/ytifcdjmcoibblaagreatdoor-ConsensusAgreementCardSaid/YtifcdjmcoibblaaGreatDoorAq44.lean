/- Kyn Nxr -/
import Derived.Test.YtifcdjmcoibblaaGreatDoorAq43
import Derived.Test.YtifcdjmcoibblaaGreatDoorAq41
set_option linter.unusedVariables false
set_option linter.unusedSimpArgs false
set_option linter.unusedSectionVars false
set_option maxRecDepth 100000
set_option maxHeartbeats 80000000
namespace Go.Proofs.YtifcdjmcoibblaaGreatDoor
section
open Go.RowKit
def kf (ms:List Z0k):List (Int×ByteArray):=ms.filterMap λm=>if m.kind=6 then some (m.round,m.dig) else none
theorem Zmy {ms:List Z0k} {j:Nat} {m:Z0k} (h:ms[j]?=some m):kf (ms.take (j+1))=kf (ms.take j) ++ (if m.kind=6 then [(m.round,m.dig)] else []):=by
 obtain ⟨h1,h2⟩:=List.getElem?_eq_some_iff.1 h;unfold kf;rw [List.take_succ_eq_append_getElem h1,List.filterMap_append,h2];by_cases hk:m.kind=6
 ·rw [if_pos hk];simp [hk]
 rw [if_neg hk];simp [hk]
def Zpz (a:KyF):List KyF->List KyF
 | []=>[a]
 | y :: l=>if a.1.val<=y.1.val then a :: y :: l else y :: Zpz a l
theorem Zi9 (a:KyF):∀l:List KyF,(Zpz a l).map toK=Zh6 (toK a) (l.map toK)
 | []=>rfl
 | y :: l=>by
  unfold Zpz;rw [List.map_cons];unfold Zh6;by_cases c:a.1.val<=y.1.val
  ·rw [if_pos c,if_pos (show (toK a).1<=(toK y).1 from by unfold toK;omega)];rfl
  rw [if_neg c,if_neg (show ¬(toK a).1<=(toK y).1 from by unfold toK;simp only;omega),List.map_cons,Zi9 a l]
theorem Za1 (a:KyF):∀l:List KyF,(a :: l).Perm (Zpz a l)
 | []=>List.Perm.refl _
 | y :: l=>by
  unfold Zpz;split
  ·exact List.Perm.refl _
  exact (List.Perm.swap y a l).trans ((Za1 a l).cons y)
theorem Za2 (a:KyF):∀l:List KyF,Z31 l->(∀y∈l,y.1.val≠a.1.val)->Z31 (Zpz a l)
 | [],_,_=>List.pairwise_singleton _ _
 | y :: l,h,hn=>by
  unfold Z31 at h;rw [List.pairwise_cons] at h;have hy:=hn y (List.mem_cons_self ..);unfold Zpz;split
  ·rename_i c
   unfold Z31;refine List.pairwise_cons.2 ⟨λz hz=>?_,List.pairwise_cons.2 h⟩;rcases List.mem_cons.1 hz with rfl | hz
   ·omega
   have:=h.1 z hz;omega
  rename_i c
  unfold Z31;refine List.pairwise_cons.2 ⟨λz hz=>?_,Za2 a l h.2 (λz hz=>hn z (List.mem_cons_of_mem _ hz))⟩;rcases List.mem_cons.1 ((Za1 a l).mem_iff.2 hz) with rfl | hz
  ·omega
  exact h.1 z hz
theorem Zf7:∀L:List KyF,((L.map toK).map (·.1)).Nodup->∃S:List KyF,S.map toK=(L.map toK).foldr Zh6 []∧L.Perm S∧Z31 S
 | [],_=>⟨[],rfl,List.Perm.refl _,List.Pairwise.nil⟩
 | a :: L,h=>by
  rw [List.map_cons,List.map_cons,List.nodup_cons] at h;obtain ⟨S,h1,h2,h3⟩:=Zf7 L h.2;refine ⟨Zpz a S,?_,(h2.cons a).trans (Za1 a S),Za2 a S h3 (λy hy e=>h.1 ?_)⟩
  ·rw [Zi9,h1];rfl
  refine List.mem_map.2 ⟨toK y,List.mem_map_of_mem (h2.mem_iff.2 hy),?_⟩;unfold toK;simp only;omega
theorem Zpf {w:World} {ko:Option Addr} {S:List KyF} (h:Z1l 2 Z4f w ko S):Z1l 2 Za0 w ko (S.map toK):=by
 intro i y hy;rw [List.getElem?_map,Option.map_eq_some_iff] at hy;obtain ⟨x,hx,rfl⟩:=hy;exact h i x hx
theorem Zal {w:World} {base e g cap:Nat} {L:List KyF} (h:w.ownsRow base e 2 (.slice (some ⟨g,0,none⟩) L.length cap) L.length (L.flatMap Z4f)):Go.Sort.HoldsK Z4f 2 w g 0 L.toArray:=by
 obtain ⟨ao,cap',hv,_,hr⟩:=Z0n Z7i (by decide) h;simp only [Value.slice.injEq] at hv;obtain ⟨rfl,_,_⟩:=hv;have hf:∀o,w.frozen? ⟨g,o,none⟩=false:=λo=>by
  obtain ⟨_,h | ⟨g',c',cur,e',_,hb,_⟩⟩:=h
  ·cases h.1
  cases e';simp [World.frozen?,hb]
 intro j hj;rw [Go.Sort.size_flatK] at hj;rw [Go.Sort.get_flatK _ _ _ _ hj];have hj':j / 2<L.length:=by simp at hj;omega
 refine ⟨?_,hf _⟩;obtain ⟨b,off,e1,_,hc⟩:=hr (j / 2) L[j / 2] (List.getElem?_eq_getElem hj');cases e1;have hlt:j % 2<(Z4f L[j / 2]).length:=by rw [Z7i];omega
 have:=hc (j % 2) _ (List.getElem?_eq_getElem hlt);have e2:0+j / 2 * 2+j % 2=0+j:=by omega
 rw [e2] at this;rw [this];have e3:L.toArray[j / 2]! = L[j / 2]:=by simp [hj']
 rw [e3];simp [hlt]
def zKy:Value:=.agg #[.int .i64 0,.string ByteArray.empty]
theorem Tryz.infoKey:(Tryz.prog.info? 102).map (λi=>(i.zero,i.size,i.bytes))=some (some zKy,2,24):=by kernel_rfl
section
variable {R:Nat->Prop} {w:World} {x:Nat} {p:Ptr} {s:StB}
theorem Z00.mine_nth (h:Z00 R w x p s):∃ao cap,p.mine = .slice ao s.mine.length cap∧∀(q:Nat) (m:Z0k),s.mine[q]?=some m ->
  ∃b off lo lc,ao=some ⟨b,off,none⟩∧b<w.heap.size∧∀(j:Nat) (u:Value),(Z0l m (.slice lo m.list.length lc)).toList[j]?=some u->w.cell? ⟨b,off+q * 8+j,none⟩=some u:=by
 obtain ⟨sls,h1,h2⟩:=h.rest.mine.1;have hz:(sls.zip s.mine).length=s.mine.length:=by rw [List.length_zip,h1.len,Nat.min_self]
 obtain ⟨ao,cap,e,hc,hrw⟩:=Z0n (enc:=Zr3) (l:=sls.zip s.mine) Zcp (by decide) h2;rw [hz] at e;refine ⟨ao,cap,e,λq m hq=>?_⟩;have hl:=(List.getElem?_eq_some_iff.1 hq).1;have hs:q<sls.length:=by rw [h1.len];exact hl
 have hzq:(sls.zip s.mine)[q]?=some (sls[q],m):=by
  rw [List.getElem?_zip_eq_some];exact ⟨List.getElem?_eq_getElem hs,hq⟩
 obtain ⟨b,off,e4,hb,hcell⟩:=hrw q _ hzq;have hr:=Z8o h1 _ (List.mem_of_getElem? hzq);obtain ⟨lo,lc,e5,_⟩:=id hr;simp only at e5 hr;rw [e5] at hcell;exact ⟨b,off,lo,lc,e4,hb,hcell⟩
theorem Zpg (h:Z00 R w x p s) (hm:Zic s) (hl:s.mine.length<=1000):Calls Tryz.prog 47 #[pv x] w λe w'=>
  ∃ko kc,e = .returned (.slice ko s.keys.length kc)∧Z1l 2 Za0 w' ko s.keys∧Below w.heap.size w w'∧∀g off,ko=some ⟨g,off,none⟩->w.heap.size<=g:=by
 obtain ⟨mao,mcap,hmv,hcell⟩:=h.mine_nth;have HCE:=Hd hcell;have c14:=h.nc.c14;rw [hmv] at c14;have HM:=Hd hm;have HKN:=Hd (show ((kf s.mine).map (·.1)).Nodup from Z87 _ (by rw [<-hm.made];exact hm.nodup));obtain ⟨ms,hms⟩:∃ms,ms=s.mine:=⟨_,rfl⟩;obtain ⟨ks,hks⟩:∃ks,ks=s.keys:=⟨_,rfl⟩;have HKS:=Hd (show ks=(kf ms).foldr Zh6 [] from by rw [hks,hms];rfl);have HRG:=Hd (show ∀m∈ms,0<=m.round∧m.round<=99 from by rw [hms];exact λm q=>(hm.rng m q).2.2);obtain ⟨n,hn⟩:∃n,n=ms.length:=⟨_,rfl⟩;rw [<-hks];rw [<-hms] at c14 HCE hl HKN;rw [<-hn] at c14 hl;have HNN:=Hd hn;have x0:=h.nc.c0;have xfz:=h.nc.fz;clear h hm hcell hmv hms hks hn;unfold pv;go_enter Tryz.func47,Tryz.ntmps47
 go_wp2_with fail
 go_loopw [13,2] (λiv v wr=>∃(j:Nat) (L:List KyF),j<=n∧iv = .int .i64 (j:Int)∧L.map toK=kf (ms.take j)∧L.length<=j∧wr.ownsRow w.heap.size 102 2 v L.length (L.flatMap Z4f)∧Below w.heap.size w wr) (λiv _ _=>n - (intOf iv).toNat)
 case atStart=>exact ⟨0,[],Nat.zero_le _,rfl,rfl,Nat.le_refl _,World.ownsRow_nil _ _ _ _,by first | exact Below.refl _ _ | exact (Below.refl _ _).drew | exact below_drewN (Below.refl _ _) _⟩
 case round=>
  obtain ⟨j,L,hj,rfl,hL,hLj,hrow,hb⟩:=hrel;have HB:=Hd hb;have HL:=Hd hL;have HLJ:=Hd hLj;have HRO:=Hd hrow;have j0:(0:Int)<=(j:Int):=by omega
  clear hL hLj hb;obtain ⟨vao,vcap,rfl,hvc,_⟩:=Z0n Z7i (by decide) hrow;clear hrow;obtain ⟨l,hll⟩:∃l,l=L.length:=⟨_,rfl⟩;have HLL:=Hd hll;rw [<-hll] at HLJ HRO hvc ⊢;clear hll;by_cases hjn:j<n
  ·have j1:(j:Int)<(n:Int):=by omega
   obtain ⟨m,hmj⟩:∃m,ms[j]?=some m:=⟨_,List.getElem?_eq_getElem (by rw [<-HNN.out];exact hjn)⟩;have HMJ:=Hd hmj;obtain ⟨b,off,lo,lc,rfl,hbl,hce⟩:=HCE.out j m hmj;have HC2:=Hd (show ∀(k:Nat) (u:Value),(Z0l m (.slice lo m.list.length lc)).toList[k]?=some u->wr.cell? ⟨b,off+j * 8+k,none⟩=some u from λk u hu=>by
    rw [World.cell?_of_block (w:=w) (HB.out.block b hbl)];exact hce k u hu)
   have e0:=HC2.out 0 _ rfl;have e1:=HC2.out 1 _ rfl;have e2:=HC2.out 2 _ rfl;have e3:=HC2.out 3 _ rfl;have e4:=HC2.out 4 _ rfl;have e5:=HC2.out 5 _ rfl;have e6:=HC2.out 6 _ rfl;have e7:=HC2.out 7 _ rfl;simp only [Nat.add_zero] at e0;unfold iv at e0 e1 e2 e3 e4 e5;clear hce hmj hbl;go_upto_region 6 with (fail)
   obtain ⟨mb,hmb⟩:∃mb,mb=wr.heap.size:=⟨_,rfl⟩;obtain ⟨wa,hwa⟩:∃wa,wa=wr.alloc (.cells #[.int .i64 m.kind,.int .i64 m.frm,.int .i64 m.to,.int .i64 m.height,.int .i64 m.round,.int .i64 m.valid,.string m.dig,.slice lo m.list.length lc] 36):=⟨_,rfl⟩;have HRA:=Hd (show wa.heap[mb]?=some (.cells #[.int .i64 m.kind,.int .i64 m.frm,.int .i64 m.to,.int .i64 m.height,.int .i64 m.round,.int .i64 m.valid,.string m.dig,.slice lo m.list.length lc] 36 (0,0)) from by rw [hwa,hmb];exact World.alloc_heap_new wr _);have HBA:=Hd (show Below wr.heap.size wr wa from by rw [hwa];exact (Below.refl _ wr).alloc (Nat.le_refl _) _);rw [<-hmb,<-hwa];clear hmb hwa e0 e1 e2 e3 e4 e5 e6 e7;have HBM:=Hd (HB.out.trans (HBA.out.mono HB.out.size));obtain ⟨c0,c1,c2,c3,c4,c5,c6,c7,fz⟩:=Z1y.of HRA.out;have HSZ:=Hd HB.out.size;by_cases z1:m.kind=6
   ·have y1:(m.kind == 6)=true:=by rw [z1];rfl
    have HZ:=Hd z1;clear z1;have HRM:=Hd (HRG.out m (List.mem_of_getElem? HMJ.out));obtain ⟨ti,hti,hz0,hz1,hz2⟩:=info_parts Tryz.infoKey;obtain ⟨wb,hwb⟩:∃wb,wb=wa.alloc (.cells #[.int .i64 m.round,.string m.dig] 102):=⟨_,rfl⟩;have HBB:=Hd (show Below wa.heap.size wa wb from by rw [hwb];exact (Below.refl _ wa).alloc (Nat.le_refl _) _);have OW:=Hd (show wb.ownsRow w.heap.size 102 2 (.slice vao l vcap) l (L.flatMap Z4f) from
     Z07 HRO.out (λg _ hlt=>(HBB.out.block g (Nat.lt_of_lt_of_le hlt HBA.out.size)).trans (HBA.out.block g hlt)))
    have NEW:=Hd (show ∀j u,([.int .i64 m.round,.string m.dig]:List Value)[j]?=some u->wb.cell? ((⟨wa.heap.size,0,none⟩:Addr).add j)=some u from by rw [hwb];exact Z0w wa [.int .i64 m.round,.string m.dig] _ _ rfl);have HWB:=Hd hwb;clear hwb;go_wp2_with (rw [<-HWB.out];refine Z0m rfl (.tmp 20) (.tmp 26) 90 (by rfl) w.heap.size 102 ti zKy 2 24 Tryz.underlying90 hti hz0 hz1 hz2 (by rfl) (by decide) (.slice vao l vcap) l (L.flatMap Z4f) (by rfl) OW.out ⟨wa.heap.size,0,none⟩ 1 1 [.int .i64 m.round,.string m.dig] (by rfl) (by rfl) NEW.out (by intro u hu;simp at hu;rcases hu with rfl | rfl <;> rfl) (by unfold maxLen;have:=HLJ.out;omega) (by have:=HLJ.out;omega) (by have:=HSZ.out;have:=HBA.out.size;have:=HBB.out.size;omega) (l+1) rfl ?_;intro v2 w2 o2 g2 l2;have O2:=Hd o2;have G2:=Hd g2;clear o2 g2 l2)
    go_roundw
    case rel=>
     obtain ⟨r,hr⟩:∃r:Nat,m.round=(r:Int):=⟨m.round.toNat,by have:=HRM.out.1;omega⟩;have hr1:r<100:=by have:=HRM.out.2;omega
     refine ⟨j+1,L ++ [(⟨r,hr1⟩,m.dig)],by omega,by go_num,?_,by rw [List.length_append,<-HLL.out];simp;exact HLJ.out,?_,?_⟩
     ·rw [Zmy HMJ.out,if_pos HZ.out,List.map_append,HL.out,hr];rfl
     ·rw [List.length_append,<-HLL.out,List.flatMap_append];have:=O2.out;rw [hr] at this;exact this
     exact Zdo (HBM.out.trans (HBB.out.mono (Nat.le_trans HSZ.out HBA.out.size))) (Nat.le_refl _) OW.out G2.out
    case measure=>simp [intOf];omega
   have y1:(m.kind == 6)=false:=by simpa using z1
   go_wp2_with fail
   go_roundw
   case rel=>
    refine ⟨j+1,L,by omega,by go_num,?_,by rw [<-HLL.out];have:=HLJ.out;omega,?_,?_⟩
    ·rw [Zmy HMJ.out,if_neg z1,List.append_nil];exact HL.out
    ·rw [<-HLL.out];first
      | exact Z07 HRO.out (λg _ hlt=>HBA.out.block g hlt)
      | exact Z07 HRO.out (λg _ hlt=>HBA.out.drew.block g hlt)
    first | exact HBM.out | exact HBM.out.drew
   case measure=>simp [intOf];omega
  have j1:¬(j:Int)<(n:Int):=by omega
  obtain ⟨S,hS1,hS2,hS3⟩:=Zf7 L (by rw [HL.out,List.take_of_length_le (by rw [<-HNN.out];omega)];exact HKN.out);rw [HL.out,List.take_of_length_le (by rw [<-HNN.out];omega),<-HKS.out] at hS1;have HS1:=Hd hS1;have HPM:=Hd hS2;have hlen:ks.length=l:=by rw [<-hS1,List.length_map,HLL.out];exact hS2.length_eq.symm
  have row:=HRO.out;obtain ⟨_,hnil | ⟨g,cap',cur,hv,hbase,hb,h1,h2,h3,h4⟩⟩:=row
  ·simp only [Value.slice.injEq] at hnil;obtain ⟨⟨rfl,hl0,rfl⟩,hk0⟩:=hnil;have hks0:ks = []:=List.eq_nil_of_length_eq_zero (by omega);rw [hl0];clear hS1 hS2 hS3;go_wp2_with (go_at_call 97;refine (Zjw none 0 _).mono ?_;rintro e w' ⟨rfl,rfl⟩)
   go_ret;rw [hks0];exact ⟨none,0,rfl,Z1l.nil _ _ _ _,HB.out,λg off e=>by cases e⟩
  simp only [Value.slice.injEq] at hv;obtain ⟨rfl,_,rfl⟩:=hv;have HSO:=Hd (Zmx g vcap L S wr hS2 hS3 (Zal (by have:=HRO.out;rw [HLL.out] at this;exact this)) (gE hb).1 (by have:=HLJ.out;have:=HLL.out;omega));rw [<-HLL.out] at HSO;have HGB:=Hd hbase;clear hb h1 h2 h3 h4 hS1 hS2 hS3 hvc;go_wp2_with (go_at_call 97;refine HSO.out.mono ?_;rintro e w7 ⟨rfl,hrow7,hch7⟩;have R7:=Hd hrow7;have C7:=Hd hch7;clear hrow7 hch7)
  go_ret;refine ⟨some ⟨g,0,none⟩,vcap,by rw [hlen];rfl,?_,HB.out.trans (C7.out.below HB.out.size (λj h=>by rw [h];exact HGB.out)),λg' off e=>by cases e;exact HGB.out⟩;rw [<-HS1.out];exact Zpf R7.out
end
end
section
open Go.RowKit
def Z32 (base:Nat) (w1:World) (nb gn nc:Nat) (cur:Array Value) (xs:List Nat) (y:Nat) (st:Z0g) (t:StB) (A:Nat->Prop) (W:World):Prop:=
 ∃Rs qv fv cv qs,Z4o base w1 nb gn nc cur xs.length (xs ++ [y]) (st.ss ++ [t]) Rs qv fv cv qs st A W
section
variable {base:Nat} {w1 W W':World} {nb gn nc:Nat} {cur:Array Value} {xs:List Nat} {st:Z0g} {A B:Nat->Prop} {y:Nat} {t:StB}
theorem Z0q.new (h:Z0q base w1 nb gn nc cur xs st A W) (h8:xs.length<=7) {id n:Int} (h1:1<=n) (h7:n<=7) (hi:0<=id) (hin:id<n) :
  Calls Tryz.prog 15 #[.int .i64 id,.int .i64 n] W λe w'=>∃y,e = .returned (.tuple #[pv y,.int .i64 0])∧Z32 base w1 nb gn nc cur xs y st (Z42 id n) A w'∧Below W.heap.size W w':=by
 obtain ⟨Rs,qv,fv,cv,qs,h⟩:=h;have hlen:=h.len;refine (Zt4 h.flk.net h.flk.size h1 h7 hi hin).mono ?_;rintro e w' ⟨y,Rs',rfl,hN,hb,hg⟩;have h2:=h.later hb;have asd:∀k,Asd xs.length Rs W k->Asd (xs ++ [y]).length Rs' w' k:=λk hk=>⟨Nat.lt_of_lt_of_le hk.1 hb.size,λhr=>by
  rcases hg k hr with q | q
  ·exact hk.2 q
  have:=hk.1;omega⟩
 refine ⟨y,rfl,⟨Rs',qv,fv,cv,qs,⟨hN,h2.flk.bel,h.flk.pos,h.flk.le,h.flk.glob⟩,by simp,by simp;omega,?_,h2.row,h2.ptr,λi x hi hx=>?_,h2.que,h2.qst,λp hp=>?_,h2.fat,h2.cst,λk hk=>⟨asd k (h.own k hk).1,(h.own k hk).2⟩,λk hk=>⟨asd k (h.bes k hk).1,(h.bes k hk).2⟩⟩,hb⟩
 ·rw [List.take_append_of_le_length (by omega),Z3t hlen]
 ·rw [List.getElem?_append_left hi] at hx;exact h.at' i x hi hx
 exact ((h.ql p hp).kept (λg _ _ hg2 _=>hb.block g hg2.1)).mono asd
theorem Z32.len (h:Z32 base w1 nb gn nc cur xs y st t A W):xs.length=st.ss.length:=by
 obtain ⟨Rs,qv,fv,cv,qs,h⟩:=h;have:=h.len;simp at this;exact this
theorem Z32.lt (h:Z32 base w1 nb gn nc cur xs y st t A W) {k:Nat} (hk:A k):k<W.heap.size:=by
 obtain ⟨Rs,qv,fv,cv,qs,h⟩:=h;exact h.lt hk
theorem Z32.keepB (h:Z32 base w1 nb gn nc cur xs y st t A W) (hb:Below W.heap.size W W'):Z0d A W W':=⟨hb.size,λk hk=>hb.block k (h.lt hk)⟩
theorem Z32.later (h:Z32 base w1 nb gn nc cur xs y st t A W) (hb:Below W.heap.size W W'):Z32 base w1 nb gn nc cur xs y st t A W':=by
 obtain ⟨Rs,qv,fv,cv,qs,h⟩:=h;exact ⟨Rs,qv,fv,cv,qs,h.later hb⟩
theorem Z32.fit (h:Z32 base w1 nb gn nc cur xs y st t A W):Fit GB t:=by
 obtain ⟨Rs,qv,fv,cv,qs,h⟩:=h;exact h.flk.net.fit t (by simp)
theorem Z32.cells (h:Z32 base w1 nb gn nc cur xs y st t A W):W.cell? ⟨nb,0,none⟩=some (.int .i64 (st.n:Int))∧W.cell? ⟨nb,2,none⟩=some (.slice (some ⟨gn,0,none⟩) xs.length nc):=by
 obtain ⟨Rs,qv,fv,cv,qs,h⟩:=h;refine ⟨?_,?_⟩ <;> (rw [cell_of_row W nb _ _ _ _ h.row];rfl)
theorem Z32.ptr (h:Z32 base w1 nb gn nc cur xs y st t A W):W.heap[gn]?=some (.cells cur 25 (0,0)):=by
 obtain ⟨Rs,qv,fv,cv,qs,h⟩:=h;exact h.ptr
theorem Z33 {α:Type} (l:List α) (a:α) {n:Nat} (h:n=l.length):(l ++ [a])[n]?=some a:=by subst h;simp
theorem Zph {α:Type} (l:List α) (a b:α) {n:Nat} (h:n=l.length):(l ++ [a]).set n b=l ++ [b]:=by subst h;simp
theorem Z4o.sailP {Rs Rs':Nat->Nat->Prop} {qv fv cv:Value} {qs:List Z6o} {t':StB} (h:Z4o base w1 nb gn nc cur xs.length (xs ++ [y]) (st.ss ++ [t]) Rs qv fv cv qs st A W) (hs:Z6i GB base W (xs ++ [y]) Rs W' ((st.ss ++ [t]).set xs.length t') Rs'):Z32 base w1 nb gn nc cur xs y st t' A W'∧Z0d A W W':=by
 have hlen:xs.length=st.ss.length:=by have:=h.len;simp at this;exact this
 rw [Zph _ _ _ hlen] at hs;obtain ⟨h1,h2⟩:=h.sail hs;rw [List.take_append_of_le_length (by omega),Z3t hlen] at h1;exact ⟨⟨Rs',qv,fv,cv,qs,h1⟩,h2⟩
variable {i x:Nat} {s:StB}
theorem Zd7 {α:Type} {l:List α} {a b:α} {i:Nat} (h:l[i]?=some a):(l ++ [b])[i]?=some a:=by rw [List.getElem?_append_left (List.getElem?_eq_some_iff.1 h).1];exact h
theorem Z32.round (h:Z32 base w1 nb gn nc cur xs y st t A W) (hx:xs[i]?=some x) (hs:st.ss[i]?=some s):Calls Tryz.prog 23 #[pv x] W λe w'=>e = .returned (.int .i64 s.round)∧w'=W:=by
 obtain ⟨Rs,qv,fv,cv,qs,h⟩:=h;exact Zsg h.flk.net (Zd7 hx) (Zd7 hs)
theorem Z32.height (h:Z32 base w1 nb gn nc cur xs y st t A W) (hx:xs[i]?=some x) (hs:st.ss[i]?=some s):Calls Tryz.prog 24 #[pv x] W λe w'=>e = .returned (.int .i64 s.height)∧w'=W:=by
 obtain ⟨Rs,qv,fv,cv,qs,h⟩:=h;exact Zgo h.flk.net (Zd7 hx) (Zd7 hs)
theorem Z32.dec (h:Z32 base w1 nb gn nc cur xs y st t A W) (hx:xs[i]?=some x) (hs:st.ss[i]?=some s) (k:Int):Calls Tryz.prog 21 #[pv x,.int .i64 k] W λe w'=>(∃u,e = .returned (.tuple #[u,.bool (s.isDec k)])∧∀v,Z02 k s.decs=some v->Z0a (New W w') w' u v.list)∧Below W.heap.size W w':=by
 obtain ⟨Rs,qv,fv,cv,qs,h⟩:=h;refine (Z7d GB.gf h.flk.net (Zd7 hx) (Zd7 hs) k).mono ?_;rintro e w' ⟨hd,hb⟩;refine ⟨?_,hb⟩;unfold Zt3 at hd;have e0:s.isDec k=(Z02 k s.decs).isSome:=rfl;rw [e0];rcases hg:Z02 k s.decs with _ | v
 ·rw [hg] at hd;exact ⟨_,hd,λv hv=>by cases hv⟩
 rw [hg] at hd;obtain ⟨u,e1,e2⟩:=hd;exact ⟨u,e1,λv' hv=>by cases hv;exact e2⟩
theorem Z32.lock (h:Z32 base w1 nb gn nc cur xs y st t A W) (hx:xs[i]?=some x) (hs:st.ss[i]?=some s):Calls Tryz.prog 31 #[pv x] W λe w'=>(∃u,e = .returned (.tuple #[.int .i64 (Z1w s),u])∧Z0a (New W w') w' u (Z20 s))∧Below W.heap.size W w':=by
 obtain ⟨Rs,qv,fv,cv,qs,h⟩:=h;refine (Zsf (i:=i) GB.gf h.flk.net (Zd7 hx) (Zd7 hs)).mono ?_;rintro e w' ⟨hl,hb⟩;refine ⟨?_,hb⟩;unfold Zmf at hl;unfold Z1w Z20;rcases hs:s.lock with _ | v
 ·rw [hs] at hl;exact ⟨_,hl,Z0a.nil _ _⟩
 rw [hs] at hl;obtain ⟨u,e1,e2⟩:=hl;exact ⟨u,e1,e2⟩
theorem Z32.keys (h:Z32 base w1 nb gn nc cur xs y st t A W) (hx:xs[i]?=some x) (hs:st.ss[i]?=some s) (hl:s.mine.length<=1000):Calls Tryz.prog 47 #[pv x] W λe w'=>
  ∃ko kc,e = .returned (.slice ko s.keys.length kc)∧Z1l 2 Za0 w' ko s.keys∧Below W.heap.size W w'∧∀g off,ko=some ⟨g,off,none⟩->W.heap.size<=g:=by
 obtain ⟨Rs,qv,fv,cv,qs,h⟩:=h;obtain ⟨p,hp⟩:=h.flk.net.node i x s (Zd7 hx) (Zd7 hs);exact Zpg hp (h.flk.net.fit s (List.mem_append_left _ (List.mem_of_getElem? hs))).ok.inv.min hl
theorem Z32.learn (h:Z32 base w1 nb gn nc cur xs y st t A W) {R0:Nat->Prop} {v:Value} {l:List ByteArray} (hr:Z0a R0 W v l) (h0:∀k,R0 k->k<W.heap.size) (hl:l.length<=60) (hv:Z1f l=true->GB (Z0z l) l) (k:Int) :
  Calls Tryz.prog 36 #[pv y,.int .i64 k,v] W λe w'=>e = .returned (Zlm (t.learn k (Z1f l) (Z0z l) l).2)∧Z32 base w1 nb gn nc cur xs y st (t.learn k (Z1f l) (Z0z l) l).1 A w'∧Z0d A W w':=by
 have hlen:=h.len;obtain ⟨Rs,qv,fv,cv,qs,h⟩:=h;refine (Zsj (i:=xs.length) GB.gf h.flk.net h.flk.size (Z33 _ _ rfl) (Z33 _ _ hlen) hr h0 hl h.flk.gl hv k).mono ?_;rintro e w' ⟨rfl,Rs',hs⟩;exact ⟨rfl,h.sailP hs⟩
theorem Z32.begin (h:Z32 base w1 nb gn nc cur xs y st t A W) {R0:Nat->Prop} {v:Value} {l:List ByteArray} (hr:Z0a R0 W v l) (h0:∀k,R0 k->k<W.heap.size) (hl:l.length<=60) (hv:GB (Z0z l) l) (k:Int) :
  Calls Tryz.prog 16 #[pv y,.int .i64 k,v] W λe w'=>e = .returned (Zlm (t.begin k (Z1f l) (Z0z l) l).2)∧Z32 base w1 nb gn nc cur xs y st (t.begin k (Z1f l) (Z0z l) l).1 A w'∧Z0d A W w':=by
 have hlen:=h.len;obtain ⟨Rs,qv,fv,cv,qs,h⟩:=h;refine (Zew (i:=xs.length) GB.gf h.flk.net h.flk.size (Z33 _ _ rfl) (Z33 _ _ hlen) hr h0 hl h.flk.gl (λ_=>hv) k).mono ?_;rintro e w' ⟨rfl,Rs',hs⟩;exact ⟨rfl,h.sailP hs⟩
theorem Z32.grow (h:Z32 base w1 nb gn nc cur xs y st t A W) (hb:Below W.heap.size W W'):Z32 base w1 nb gn nc cur xs y st t (λk=>A k∨New W W' k) W':=by
 obtain ⟨Rs,qv,fv,cv,qs,h⟩:=h;exact ⟨Rs,qv,fv,cv,qs,h.grow hb⟩
theorem Z32.less (h:Z32 base w1 nb gn nc cur xs y st t A W) (hs:∀k,B k->A k):Z32 base w1 nb gn nc cur xs y st t B W:=by
 obtain ⟨Rs,qv,fv,cv,qs,h⟩:=h;exact ⟨Rs,qv,fv,cv,qs,h.less hs⟩
theorem Z32.resume (h:Z32 base w1 nb gn nc cur xs y st t A W) {R0:Nat->Prop} {v:Value} {l:List ByteArray} (hr:Z0a R0 W v l) (h0:∀k,R0 k->k<W.heap.size) (hl:l.length<=60) {height round locked:Int} {ko:Option Addr} {kc n:Nat} {ks:List (Int×ByteArray)} (hn:n=ks.length) (hkl:n<=100)
  (hk:Z1l 2 Za0 W ko ks) (hka:∀g off,ko=some ⟨g,off,none⟩->ks≠[]->A g) (c:Zrt t height round locked l ks) (hf:Fit GB (Z12 t height round locked l ks).1) :
  Calls Tryz.prog 59 #[pv y,.int .i64 height,.int .i64 round,.int .i64 locked,v,.slice ko n kc] W λe w'=>e = .returned (.int .i64 0)∧Z32 base w1 nb gn nc cur xs y st (Z12 t height round locked l ks).1 A w'∧Z0d A W w':=by
 have hlen:=h.len;have hnum:=h.fit.ok.inv.num;obtain ⟨Rs,qv,fv,cv,qs,h⟩:=h;obtain ⟨p,hp⟩:=h.flk.net.node xs.length y t (Z33 _ _ rfl) (Z33 _ _ hlen);refine (Zgx hp hr h0 hl h.flk.gl hnum hn hkl hk (λg off e hne hR=>(h.bes g (hka g off e hne)).1.2 ⟨xs.length,by simp,hR⟩) c).mono ?_;rintro e w' ⟨rfl,h1⟩;obtain ⟨R',h2⟩:=h1.step;exact ⟨rfl,h.sailP (h.flk.net.sail (i:=xs.length) h.flk.size (Z33 _ _ rfl) h2 hf)⟩
theorem Z32.put (h:Z32 base w1 nb gn nc cur xs y st t A W) (hi:i<xs.length):Z0q base w1 nb gn nc (cur.setIfInBounds i (pv y)) (xs.set i y) (st.set i t) A (W.setCell ⟨gn,i,none⟩ (pv y))∧Z0d A W (W.setCell ⟨gn,i,none⟩ (pv y)):=by
 have hlen:=h.len;obtain ⟨Rs,qv,fv,cv,qs,h⟩:=h;have e:(xs.set i y).length=xs.length:=by simp
 have ea:(xs ++ [y]).length=xs.length+1:=by simp
 have ho:∀k,k≠gn->(W.setCell ⟨gn,i,none⟩ (pv y)).heap[k]?=W.heap[k]?:=λk hk=>Below.heap_setCell _ ⟨gn,i,none⟩ _ k hk;have hz:(W.setCell ⟨gn,i,none⟩ (pv y)).heap.size=W.heap.size:=by simp [World.setCell]
 have hgn:=h.own gn (.inr (.inl rfl));have hN:=h.flk.net.kept (w':=W.setCell ⟨gn,i,none⟩ (pv y)) (λk hk=>ho k (λq=>hgn.1.2 (q ▸ hk))) (by omega);have all:∀k,Z7b xs.length (λj=>Rs (if j=i then xs.length else j)) k->Z7b (xs ++ [y]).length Rs k:=λk ⟨j,hj,hr⟩=>⟨_,by rw [ea];split <;> omega,hr⟩;have asd:∀k,Asd (xs ++ [y]).length Rs W k->Asd xs.length (λj=>Rs (if j=i then xs.length else j)) (W.setCell ⟨gn,i,none⟩ (pv y)) k:=λk hk=>⟨by rw [hz];exact hk.1,λhr=>hk.2 (all k hr)⟩;have hne:∀(g:Nat) (cc:Array Value) (tt:Nat) (f:Nat×Nat),W.heap[g]?=some (.cells cc tt f)->tt≠25->(W.setCell ⟨gn,i,none⟩ (pv y)).heap[g]?=W.heap[g]?:=λg cc tt f hg hn=>ho g (Z0p hg h.ptr hn);have own:∀{v:Value} {b ty size n:Nat} {l:List Value},W.ownsRow b ty size v n l->ty≠25->(W.setCell ⟨gn,i,none⟩ (pv y)).ownsRow b ty size v n l:=λhw hn=>Z07 hw (λg hg _=>by
  obtain ⟨cc,hc⟩:=Z1e hw hg;exact hne g cc _ _ hc hn)
 refine ⟨⟨λj=>Rs (if j=i then xs.length else j),qv,fv,cv,qs,?_⟩,by rw [hz];exact Nat.le_refl _,λk hk=>ho k (λq=>(h.bes k hk).2.2 (.inr (.inl q)))⟩;rw [e];refine ⟨⟨⟨by rw [e,hlen];exact (List.length_set ..).symm,λj x s hx hs=>?_,λs hs=>?_,λa b k ha hb hn hr=>?_,λa k ha hr=>?_⟩,h.flk.bel.setCell hgn.2 _,h.flk.pos,h.flk.le,h.flk.glob⟩,by rw [e];exact Nat.le_refl _,by rw [e];have:=h.h8;rw [ea] at this;omega,?_,(hne nb _ _ _ h.row (by decide)).trans h.row,Z05 h.ptr _,λj x hj hx=>?_,own h.que (by decide),h.qst,λp hp=>?_,own h.fat (by decide),own h.cst (by decide),λk hk=>?_,λk hk=>?_⟩
 ·by_cases q:j=i
  ·subst q;rw [if_pos rfl];rw [List.getElem?_set_self hi] at hx;have hs':(st.ss.set j t)[j]?=some s:=hs;rw [List.getElem?_set_self (by omega)] at hs';cases hx;cases hs';exact hN.node xs.length y t (Z33 _ _ rfl) (Z33 _ _ hlen)
  rw [if_neg q];rw [List.getElem?_set_ne (λc=>q c.symm)] at hx;have hs':(st.ss.set i t)[j]?=some s:=hs;rw [List.getElem?_set_ne (λc=>q c.symm)] at hs';exact hN.node j x s (Zd7 hx) (Zd7 hs')
 ·rcases List.mem_or_eq_of_mem_set (show s∈st.ss.set i t from hs) with q | rfl
  ·exact hN.fit s (List.mem_append_left _ q)
  exact hN.fit s (by simp)
 ·rw [e] at ha hb;refine hN.dis _ _ k ?_ ?_ ?_ hr
  ·rw [ea];split <;> omega
  ·rw [ea];split <;> omega
  split <;> split <;> omega
 ·rw [e] at ha;exact hN.lo _ k (by rw [ea];split <;> omega) hr
 ·rw [Z3t];show xs.length=(st.ss.set i t).length;rw [List.length_set];exact hlen
 ·have hci:i<cur.size:=(gE (h.at' i (xs[i]'hi) hi (Zd7 (List.getElem?_eq_getElem hi)))).1;by_cases q:j=i
  ·subst q;rw [List.getElem?_set_self hi] at hx;cases hx;simp [Array.getElem?_setIfInBounds,hci]
  rw [List.getElem?_set_ne (λc=>q c.symm)] at hx;rw [Array.getElem?_setIfInBounds_ne (λc=>q c.symm)];exact h.at' j x hj (Zd7 hx)
 ·rw [e];exact ((h.ql p hp).kept (λg cc f _ hc=>hne g cc _ f hc (by decide))).mono asd
 ·rw [e];exact ⟨asd k (h.own k hk).1,(h.own k hk).2⟩
 rw [e];exact ⟨asd k (h.bes k hk).1,(h.bes k hk).2⟩
end
end
end Go.Proofs.YtifcdjmcoibblaaGreatDoor
