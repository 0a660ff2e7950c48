/- Nrc Rst Bgn Age -/
import Derived.Test.YtifcdjmcoibblaaGreatDoorAq44
import Derived.Test.YtifcdjmcoibblaaGreatDoorAq47
set_option linter.unusedVariables false
set_option linter.unusedSimpArgs false
set_option linter.unusedSectionVars false
set_option maxRecDepth 100000
set_option maxHeartbeats 80000000
namespace Go.Proofs.YtifcdjmcoibblaaGreatDoor
section
open Go.RowKit
theorem Za9 {r:Int} {f:ByteArray->Bool}:∀(ks:List (Int×ByteArray)) (last:Int),last<r->Z0t r f last ks=true->(ks.length:Int)<=r - 1 - last
 | [],last,hl,_=>by simp;omega
 | k :: ks,last,hl,h=>by
  unfold Z0t at h;split at h
  ·cases h
  rename_i q
  simp only [not_or] at q;have:=Za9 ks k.1 (by omega) h;rw [List.length_cons];omega
structure RstC (n i:Nat) (old:StB):Prop where
 h0:0<=old.height
 h1:old.height<1199
 r0:0<=old.round
 ml:old.mine.length<=1000
 dg:∀k v,Z02 k old.decs=some v->GB (Z0z v.list) v.list∧v.list.length<=60
 up:old.isDec old.height=true->Zrt (Z24 n i old) (old.height+1) 0 (-1) [] []∧Fit GB (Z12 (Z24 n i old) (old.height+1) 0 (-1) [] []).1
 on:old.isDec old.height=false->old.round<4->Zrt (Z24 n i old) old.height (old.round+1) (Z1w old) (Z20 old) old.keys∧Fit GB (Z12 (Z24 n i old) old.height (old.round+1) (Z1w old) (Z20 old) old.keys).1∧(Z20 old).length<=60∧old.keys.length<=100
section
variable {H F N:Nat} {V:Zez ByteArray} {E:Zf0 ByteArray} {w:Z0g}
theorem AgN.rstC (a:AgN H F N V E w) (h3:2 * F<H) (hN:N=H+F) (h7:N<=7) {i:Nat} (hi:i<H) {old:StB} (hs:w.ss[i]?=some old) (hh:old.height<1199):RstC w.n i old:=by
 have hl:=a.agr.loc i hi;rw [Z2z hs] at hl;have ho:=a.nodeAt hs;have hn:=ho.fit.ok.inv.num;have hh00:=hn.h0;obtain ⟨D,eD,hD⟩:=Zi8 ho (n:=w.n) (i:=i) (λk v hv=>(hl.dec k v hv).2);have hfit:Fit GB (Z24 w.n i old):=Z9z ho (by rw [a.n];omega) (by rw [a.n];exact h7) _;have dz:∀k,old.isDec k=false->(Z24 w.n i old).isDec k=false:=λk hk=>by
  rw [eD];unfold NS.isDec at hk ⊢;show (Z02 k D).isSome=false;rw [hD.g];rcases hq:Z02 k old.decs with _ | u
  ·rfl
  rw [hq] at hk;cases hk
 have hq:(Z24 w.n i old).ques = []:=by rw [eD];rfl
 have e1:(Z24 w.n i old).height=0:=by rw [eD];rfl
 have e2:(Z24 w.n i old).round=0:=by rw [eD];rfl
 refine ⟨hh00,hh,hn.r0,Nat.le_trans ho.fit.ok.inv.mine_len (by omega),λk v hv=>?_,λhd=>⟨⟨rfl,by omega,by omega,by omega,by omega,by omega,by omega,λ_=>rfl,rfl,?_,.inl (by rw [e1];omega)⟩,Z5v hfit hq _ _ _ (.inr (by decide)) _⟩,λhd hr4=>?_⟩
 ·have g:=ho.fit.ok.gi.dg _ (Z0r hv);rw [(GB.gf.val _ _ g).2] at g;exact ⟨g,GB.law.len _ _ g⟩
 ·refine dz _ ?_;unfold NS.isDec;rcases hq:Z02 (old.height+1) old.decs with _ | u
  ·rfl
  have:=(hl.dec _ _ hq).2;omega
 have hlk:∀v,old.lock=some v->0<=v.round∧v.round<=old.round∧GB v.dig v.list:=λv hv=>by
  refine ⟨(hn.lr v hv).1,?_,ho.fit.ok.gi.lg v hv⟩;rcases hl.lockr v hv with q | q <;> omega
 have hasc:Z1f (Z20 old)=true:=by
  unfold Z20;rcases hv:old.lock with _ | v
  ·rfl
  exact (GB.gf.val _ _ (hlk v hv).2.2).1
 have hlr:-1<=Z1w old∧Z1w old<=old.round:=by
  unfold Z1w;have:=hn.r0;rcases hv:old.lock with _ | v
  ·simp only;omega
  have:=hlk v hv;simp only;omega
 have hle:Z1w old<0->Z20 old = []:=by
  unfold Z1w Z20;rcases hv:old.lock with _ | v
  ·intro _;rfl
  have:=hlk v hv;simp only;omega
 have hks:Z0t (old.round+1) Zcv (-1) old.keys=true:=Zbh ho.fit.ok.inv.min (λm hm hk=>by
  refine ⟨by have:=ho.kr m hm hk;omega,?_⟩;have hv:=hl.mineV m hm (by omega);rw [hk] at hv;have hne:=(a.agr.kq _ _ _ _ hv).1;rcases ((ho.fit.ok.gi.mg m hm).vote (by omega)).2.2 with q | q
  ·exfalso;apply hne;exact Classical.byContradiction λc=>by rw [Z5k c] at q;cases q
  unfold Zcv;simpa using q)
 have hGl:GB (Z0z (Z20 old)) (Z20 old)∨Z1w old<0:=by
  unfold Z20 Z1w;rcases hv:old.lock with _ | v
  ·right;simp
  left
  have g:=(hlk v hv).2.2;rw [(GB.gf.val _ _ g).2] at g;exact g
 have hkl:=Za9 old.keys (-1) (by have:=hn.r0;omega) hks;refine ⟨⟨hasc,hh00,by omega,by have:=hn.r0;omega,by omega,hlr.1,by omega,hle,hks,dz _ hd,?_⟩,Z5v hfit hq _ _ _ hGl _,?_,by omega⟩
 ·rw [e1,e2];have:=hn.r0;omega
 unfold Z20;rcases hv:old.lock with _ | v
 ·simp
 exact GB.law.len _ _ (hlk v hv).2.2
theorem Z2i.restart (n:Num H F N) (g:Z2i H F N w) (i:Nat) (hh:∀s∈w.ss,s.height<1199):Z2i H F N (w.restart i):=by
 obtain ⟨V,E,a⟩:=g;exact ⟨V,E,a.restart n.h3 n.hN n.n7 i hh⟩
end
end
section
open Go.RowKit
section
variable {base:Nat} {w1 W W':World} {nb gn nc:Nat} {cur:Array Value} {xs:List Nat} {st:Z0g} {A B:Nat->Prop} {y:Nat} {t:StB} {H F N:Nat}
theorem Z32.node (h:Z32 base w1 nb gn nc cur xs y st t A W) {i x:Nat} (hx:xs[i]?=some x):W.cell? ⟨gn,i,none⟩=some (.pointer (some ⟨x,0,none⟩)):=by
 obtain ⟨Rs,qv,fv,cv,qs,h⟩:=h;exact h.node (List.getElem?_eq_some_iff.1 hx).1 (Zd7 hx)
theorem Z32.drop (h:Z32 base w1 nb gn nc cur xs y st t A W):Z0q base w1 nb gn nc cur xs st A W:=by
 have hlen:=h.len;obtain ⟨Rs,qv,fv,cv,qs,h⟩:=h;have ea:(xs ++ [y]).length=xs.length+1:=by simp
 have hN:=h.flk.net;have asd:∀k,Asd (xs ++ [y]).length Rs W k->Asd xs.length Rs W k:=λk hk=>⟨hk.1,λ⟨j,hj,hr⟩=>hk.2 ⟨j,by omega,hr⟩⟩;refine ⟨Rs,qv,fv,cv,qs,⟨⟨hlen,λi x s hx hs=>hN.node i x s (Zd7 hx) (Zd7 hs),λs hs=>hN.fit s (List.mem_append_left _ hs),λi j k hi hj=>hN.dis i j k (by omega) (by omega),λi k hi=>hN.lo i k (by omega)⟩,h.flk.bel,h.flk.pos,h.flk.le,h.flk.glob⟩,Nat.le_refl _,by have:=h.h8;omega,(Z3t hlen).symm,h.row,h.ptr,λi x hi hx=>h.at' i x hi (Zd7 hx),h.que,h.qst,λp hp=>(h.ql p hp).mono asd,h.fat,h.cst,λk hk=>⟨asd k (h.own k hk).1,(h.own k hk).2⟩,λk hk=>⟨asd k (h.bes k hk).1,(h.bes k hk).2⟩⟩
theorem Zh1 (n:Num H F N) (h:Z0q base w1 nb gn nc cur xs st A W) (g:Z2i H F N st) {i:Nat} (hi:i<H) (hh:∀s∈st.ss,s.height<1199) :
  Calls Tryz.prog 104 #[pv nb,.int .i64 (i:Int)] W λe w'=>e = .returned (.tuple #[])∧∃cur' xs',Z0q base w1 nb gn nc cur' xs' (st.restart i) A w'∧Z0d A W w':=by
 have hn:st.n=N:=by obtain ⟨V,E,a⟩:=g;exact a.n
 have hl:xs.length=H:=by rw [h.len];exact g.len
 have n1:=n.hN;have n2:=n.n7;have n3:=n.n4;obtain ⟨x,hx⟩:∃x,xs[i]?=some x:=⟨_,List.getElem?_eq_getElem (by omega)⟩;obtain ⟨old,hs⟩:∃s,st.ss[i]?=some s:=⟨_,List.getElem?_eq_getElem (by rw [<-h.len];omega)⟩;have RC:RstC st.n i old:=by
  obtain ⟨V,E,a⟩:=g;exact a.rstC n.h3 n.hN n.n7 hi hs (hh old (List.mem_of_getElem? hs))
 have HRC:=Hd RC;have HXS:=Hd hx;have HSS:=Hd hs;have HX:=Hd h;obtain ⟨xl,hxl⟩:∃xl,xl=xs.length:=⟨_,rfl⟩;have HXL:=Hd hxl;have i0:(0:Int)<=(i:Int):=by omega
 have i1:(i:Int)<(xl:Int):=by omega
 have HIL:=Hd (show i<xs.length from by omega);have xl8:(xl:Int)<=7:=by omega
 obtain ⟨hgt,hhg⟩:∃hgt,hgt=old.height:=⟨_,rfl⟩;have HHG:=Hd hhg;have hg0:0<=hgt:=by rw [hhg];exact RC.h0
 have hg1:hgt<1199:=by rw [hhg];exact RC.h1
 obtain ⟨rnd,hrd⟩:∃rnd,rnd=old.round:=⟨_,rfl⟩;have HRD:=Hd hrd;have hr0:0<=rnd:=by rw [hrd];exact RC.r0
 have c0:=h.cells.1;have c2:=h.cells.2.2.1;rw [<-hxl] at c2;have nx:=h.node hx;obtain ⟨nn,hnn⟩:∃nn,nn=st.n:=⟨_,rfl⟩;have NW:=Hd (h.new (by omega) (id:=(i:Int)) (n:=(nn:Int)) (by omega) (by omega) i0 (by omega));rw [<-hnn] at c0;have HNN:=Hd hnn;have HRS:=Hd (show st.restart i=match Z2s st.n i old with | none=>st | some x=>st.set i x from by unfold Z0g.restart;rw [hs];rfl);unfold pv at nx NW ⊢;clear h g n hh hn hl n1 n2 n3 hx hs RC hhg hrd hxl hnn;go_enter Tryz.func104,Tryz.ntmps104
 go_upto_region 3 with (go_at_call 15;(with_reducible refine NW.out.mono ?_);rintro e wn ⟨y,rfl,hnp,hbn⟩;have HNP:=Hd hnp;have HBN:=Hd hbn;clear hnp hbn)
 have HKN:=Hd (HX.out.keepB HBN.out);have HT1:=Hd (show ∀W2,Below wn.heap.size wn W2->Calls Tryz.prog 24 #[.pointer (some ⟨x,0,none⟩)] W2 λe w'=>e = .returned (.int .i64 hgt)∧w'=W2 from λW2 hW=>by
  have:=(HNP.out.later hW).height HXS.out HSS.out;rw [<-HHG.out] at this;exact this)
 obtain ⟨t0,ht0⟩:∃t0:StB,t0=Z42 (i:Int) (nn:Int):=⟨_,rfl⟩;rw [<-ht0] at HNP;have HT0:=Hd ht0;clear ht0 c0 c2 nx NW;obtain ⟨m,hm⟩:∃m:Nat,(m:Int)=hgt+1:=⟨(hgt+1).toNat,by omega⟩;have HM:=Hd hm;have HAG:=Hd (show Z24 st.n i old=Z3e old t0 m from by
  unfold Z24;rw [<-HHG.out,<-HNN.out,<-HT0.out];congr 1
  have:=HM.out;omega)
 go_wp2_with (go_at_call 24;(with_reducible refine (HT1.out _ (Below.refl _ _)).mono ?_);rintro e wq ⟨rfl,hwq⟩;rw [hwq];clear hwq wq)
 go_loopw [8] (λjv wk=>∃j:Nat,j<=m∧jv = .int .i64 (j:Int)∧Z32 base w1 nb gn nc cur xs y st (Z3e old t0 j) A wk∧Z0d A W wk) (λjv _=>m - (intOf jv).toNat)
 case atStart=>exact ⟨0,Nat.zero_le _,rfl,HNP.out,HKN.out⟩
 case round=>
  clear HNP HT1 HKN;obtain ⟨j,hj,rfl,hnp,hkp⟩:=hrel;have HN:=Hd hnp;have HK:=Hd hkp;have j0:(0:Int)<=(j:Int):=by omega
  clear hnp hkp;by_cases hjm:j<m
  ·have j1:(j:Int)<=hgt:=by omega
   have ewj:IntKind.wrap .i64 ((j:Int)+1)=(j:Int)+1:=by rw [IntKind.wrap_i64];omega
   rcases hv:Z02 (j:Int) old.decs with _ | v
   ·have DC:=Hd (show Calls Tryz.prog 21 #[.pointer (some ⟨x,0,none⟩),.int .i64 (j:Int)] wr λe w'=>(∃u,e = .returned (.tuple #[u,.bool false]))∧Below wr.heap.size wr w' from
     (HN.out.dec HXS.out HSS.out (j:Int)).mono λe w' ⟨⟨u,h1,_⟩,h2⟩=>⟨⟨u,by rw [h1];unfold NS.isDec;rw [hv];rfl⟩,h2⟩)
    have HL:=Hd (show Z3e old t0 (j+1)=Z3e old t0 j from by
     show Z4e old _ _=_;unfold Z4e;rw [hv])
    clear hv;go_wp2_with (go_at_call 21;(with_reducible refine DC.out.mono ?_);rintro e w3 ⟨⟨u3,rfl⟩,hb3⟩;have HB3:=Hd hb3;clear hb3)
    go_roundw
    case rel=>exact ⟨j+1,by omega,by go_num,by rw [HL.out];exact HN.out.later HB3.out,HK.out.trans (HN.out.keepB HB3.out) (λ_ q=>q)⟩
    case measure=>simp [intOf];omega
   have DC:=Hd (show Calls Tryz.prog 21 #[.pointer (some ⟨x,0,none⟩),.int .i64 (j:Int)] wr λe w'=>(∃u,e = .returned (.tuple #[u,.bool true])∧Z0a (New wr w') w' u v.list)∧Below wr.heap.size wr w' from
    (HN.out.dec HXS.out HSS.out (j:Int)).mono λe w' ⟨⟨u,h1,h2⟩,h3⟩=>⟨⟨u,by rw [h1];unfold NS.isDec;rw [hv];rfl,h2 v hv⟩,h3⟩)
   have HL:=Hd (show Z3e old t0 (j+1)=((Z3e old t0 j).learn (j:Int) (Z1f v.list) (Z0z v.list) v.list).1 from by
    show Z4e old _ _=_;unfold Z4e;rw [hv])
   have HVG:=Hd (HRC.out.dg _ _ hv);clear hv;go_wp2_with (first
    | (go_at_call 21;(with_reducible refine DC.out.mono ?_);rintro e w3 ⟨⟨u3,rfl,hl3⟩,hb3⟩;have HB3:=Hd hb3;have HN3:=Hd (HN.out.later hb3);have LN:=Hd (HN3.out.learn hl3 (λk hk=>hk.2) HVG.out.2 (λ_=>HVG.out.1) (j:Int));unfold pv at LN;clear hb3 hl3)
    | (go_at_call 36;(with_reducible refine LN.out.mono ?_);rintro e w4 ⟨rfl,hn4,hk4⟩;have HN4:=Hd hn4;have HK4:=Hd hk4;clear hn4 hk4))
   go_roundw
   case rel=>exact ⟨j+1,by omega,by go_num,by rw [HL.out];exact HN4.out,(HK.out.trans (HN.out.keepB HB3.out) (λ_ q=>q)).trans HK4.out (λ_ q=>q)⟩
   case measure=>simp [intOf];omega
  have j1:¬(j:Int)<=hgt:=by omega
  have hjm:j=m:=by omega
  subst hjm;rw [<-HAG.out] at HN;obtain ⟨t1,ht1⟩:∃t1,t1=Z24 st.n i old:=⟨_,rfl⟩;have HT1:=Hd ht1;rw [<-ht1] at HN;obtain ⟨d,hd⟩:∃d,d=old.isDec hgt:=⟨_,rfl⟩;have HD:=Hd hd;have DC:=Hd (HN.out.dec HXS.out HSS.out hgt);rw [<-hd] at DC;unfold pv at DC;clear ht1 hd;go_upto_region 11 with (go_at_call 21;(with_reducible refine DC.out.mono ?_);rintro e w3 ⟨⟨u3,rfl,_⟩,hb3⟩;have HB3:=Hd hb3;clear hb3)
  have HN3:=Hd (HN.out.later HB3.out);have HK3:=Hd (HK.out.trans (HN.out.keepB HB3.out) (λ_ q=>q));clear DC HN HK;have ew1:IntKind.wrap .i64 (hgt+1)=hgt+1:=by rw [IntKind.wrap_i64];omega
  rcases d with _ | _
  ·have hd0:old.isDec old.height=false:=by rw [<-HHG.out];exact HD.out.symm
   have RN:=Hd (show Calls Tryz.prog 23 #[.pointer (some ⟨x,0,none⟩)] w3 λe w'=>e = .returned (.int .i64 rnd)∧w'=w3 from by
    have:=HN3.out.round HXS.out HSS.out;rw [<-HRD.out] at this;exact this)
   by_cases hr4:rnd<4
   ·have y4:decide (rnd<4)=true:=decide_eq_true hr4;have hr5:old.round<4:=by rw [<-HRD.out];exact hr4
    have HON:=Hd (HRC.out.on hd0 hr5);have HRE:=Hd (show st.restart i=st.set i ((Z12 (Z24 st.n i old) old.height (old.round+1) (Z1w old) (Z20 old) old.keys).1.begin old.height (Z1f (Z40 i old.height)) (Z0z (Z40 i old.height)) (Z40 i old.height)).1 from by
     rw [HRS.out];unfold Z2s;rw [if_neg (by rw [hd0];simp),if_pos hr5])
    have LKC:=Hd (HN3.out.lock HXS.out HSS.out);have ew2:IntKind.wrap .i64 (rnd+1)=rnd+1:=by rw [IntKind.wrap_i64];omega
    obtain ⟨r,hr⟩:∃r:Nat,r=(((i:Int)+hgt) % 3).toNat:=⟨_,rfl⟩;have r3:r<3:=by omega
    have hr2:((i:Int)+hgt).tmod 3=(r:Int):=by rw [Int.tmod_eq_emod_of_nonneg (by omega)];omega
    have ew3:IntKind.wrap .i64 ((i:Int)+hgt)=(i:Int)+hgt:=by rw [IntKind.wrap_i64];omega
    have r0:(0:Int)<=(r:Int):=by omega
    have r4:(r:Int)<4:=by omega
    have HR:=Hd (show Z40 i old.height=fam r from by rw [<-HHG.out];unfold Z40;rw [hr]);have HR3:=Hd r3;rw [HR.out] at HRE;rw [<-HHG.out,<-HRD.out,<-HT1.out] at HON HRE;obtain ⟨lr,hlr⟩:∃lr,lr=Z1w old:=⟨_,rfl⟩;obtain ⟨ll,hll⟩:∃ll,ll=Z20 old:=⟨_,rfl⟩;rw [<-hlr,<-hll] at HON HRE LKC;unfold pv at LKC;have KEY:=Hd (show ∀W2,Below w3.heap.size w3 W2->Calls Tryz.prog 47 #[.pointer (some ⟨x,0,none⟩)] W2 λe w'=>∃ko kc,e = .returned (.slice ko old.keys.length kc)∧Z1l 2 Za0 w' ko old.keys∧Below W2.heap.size W2 w'∧∀g off,ko=some ⟨g,off,none⟩->W2.heap.size<=g from λW2 hW=>
     (HN3.out.later hW).keys HXS.out HSS.out HRC.out.ml)
    have RND:=Hd (show ∀W2,Below w3.heap.size w3 W2->Calls Tryz.prog 23 #[.pointer (some ⟨x,0,none⟩)] W2 λe w'=>e = .returned (.int .i64 rnd)∧w'=W2 from λW2 hW=>by
     have:=(HN3.out.later hW).round HXS.out HSS.out;rw [<-HRD.out] at this;exact this)
    obtain ⟨kl,hkl⟩:∃kl,kl=old.keys.length:=⟨_,rfl⟩;have HKL:=Hd hkl;rw [<-hkl] at KEY;clear hr r3 hlr hll hd0 hr5 hkl;go_upto_region 15 with (first
     | (go_at_call 23;(with_reducible refine RN.out.mono ?_);rintro e wq ⟨rfl,hwq⟩;rw [hwq];clear hwq wq)
     | (go_at_call 31;(with_reducible refine LKC.out.mono ?_);rintro e w5 ⟨⟨u5,rfl,hl5⟩,hb5⟩;have HB5:=Hd hb5;have HL5:=Hd hl5;clear hb5 hl5))
    have HN5:=Hd (HN3.out.later HB5.out);clear LKC RN;have KRS:=Hd (show ∀(ko:Option Addr) (kc:Nat) (w6:World),Z1l 2 Za0 w6 ko old.keys->Below w5.heap.size w5 w6->(∀g off,ko=some ⟨g,off,none⟩->w5.heap.size<=g)->Calls Tryz.prog 59 #[.pointer (some ⟨y,0,none⟩),.int .i64 hgt,.int .i64 (rnd+1),.int .i64 lr,u5,.slice ko kl kc] w6 λe w'=>e = .returned (.int .i64 0)∧Z32 base w1 nb gn nc cur xs y st (Z12 t1 hgt (rnd+1) lr ll old.keys).1 (λk=>A k∨New w5 w6 k) w'∧Z0d (λk=>A k∨New w5 w6 k) w6 w' from λko kc w6 hk6 hb6 hg6=>by
     refine (HN5.out.grow hb6).resume (HL5.out.kept (w':=w6) (λk _ _ hk _=>hb6.block k hk.2)) (λk hk=>Nat.lt_of_lt_of_le hk.2 hb6.size) HON.out.2.2.1 HKL.out (by have:=HKL.out;have:=HON.out.2.2.2;omega) hk6 (λg off e hne=>.inr ⟨hg6 g off e,?_⟩) HON.out.1 HON.out.2.1;obtain ⟨k0,hk0⟩:∃k0,old.keys[0]?=some k0:=⟨_,List.getElem?_eq_getElem (List.length_pos_iff.2 hne)⟩;obtain ⟨b,off2,e2,hlt,_⟩:=hk6 0 k0 hk0;rw [e] at e2;cases e2;exact hlt)
    go_upto_region 16 with (first
     | (go_at_call 23;(with_reducible refine (RND.out _ HB5.out).mono ?_);rintro e wq ⟨rfl,hwq⟩;rw [hwq];clear hwq wq)
     | (go_at_call 47;(with_reducible refine (KEY.out _ HB5.out).mono ?_);rintro e w6 ⟨ko,kc,rfl,hk6,hb6,hg6⟩;have HB6:=Hd hb6;have RS:=Hd (KRS.out ko kc w6 hk6 hb6 hg6);clear hk6 hb6 hg6)
     | (go_at_call 59;(with_reducible refine RS.out.mono ?_);rintro e w7 ⟨rfl,hn7,hk7⟩;have HN7:=Hd (hn7.less (λk hk=>.inl hk));have HK7:=Hd (hk7.2);have HK8:=Hd hk7.1;clear hn7 hk7))
    have HKR:=Hd (show Z0d A W w7 from HK3.out.trans ((HN3.out.keepB HB5.out).trans ((HN5.out.keepB HB6.out).trans ⟨HK8.out,λk hk=>HK7.out k (.inl hk)⟩ (λ_ q=>q)) (λ_ q=>q)) (λ_ q=>q));clear RS RND KEY;go_upto_region 17 with (first
     | (go_at_call 17;(with_reducible refine (Z2f _).mono ?_);rintro e wl ⟨gl,rfl,hbl,hll⟩;obtain ⟨vl,c1,r1⟩:=hll.cell r (Nat.lt_of_lt_of_le HR3.out (by decide));rw [Z4l (Nat.lt_of_lt_of_le HR3.out (by decide))] at r1;have BL:=Hd hbl;have BG:=Hd ((HN7.out.later hbl).begin r1 (λk hk=>hk.2) Z2x (GB.fam (Nat.lt_of_lt_of_le HR3.out (by decide))) hgt);unfold pv at BG;clear hbl hll r1)
     | (go_at_call 16;(with_reducible refine BG.out.mono ?_);rintro e w9 ⟨rfl,hn9,hk9⟩;have HN9:=Hd hn9;have HK9:=Hd hk9;clear hn9 hk9))
    have c2:=HN9.out.cells.2;rw [<-HXL.out] at c2;have fz:=λo=>frozen_of_row w9 gn o _ _ HN9.out.ptr;have nx:=HN9.out.node HXS.out;have HFIN:=Hd (HN9.out.put HIL.out);go_wp2_with fail
    refine bodyPost_end (results_none rfl _ _ _) rfl ?_;exact ⟨rfl,_,_,by rw [HRE.out];exact HFIN.out.1,HKR.out.trans (((HN7.out.keepB BL.out).trans HK9.out (λ_ q=>q)).trans HFIN.out.2 (λ_ q=>q)) (λ_ q=>q)⟩
   have y4:decide (rnd<4)=false:=decide_eq_false hr4;have HRE:=Hd (show st.restart i=st from by
    rw [HRS.out];unfold Z2s;rw [if_neg (by rw [hd0];simp),if_neg (by rw [<-HRD.out];exact hr4)])
   go_wp2_with (go_at_call 23;(with_reducible refine RN.out.mono ?_);rintro e wq ⟨rfl,hwq⟩;rw [hwq];clear hwq wq)
   refine bodyPost_ret (results_none rfl _ _ _) rfl ?_;exact ⟨rfl,cur,xs,by rw [HRE.out];exact HN3.out.drop,HK3.out⟩
  have hd1:old.isDec old.height=true:=by rw [<-HHG.out];exact HD.out.symm
  have HUP:=Hd (HRC.out.up hd1);have HRE:=Hd (show st.restart i=st.set i (Z12 (Z24 st.n i old) (old.height+1) 0 (-1) [] []).1 from by
   rw [HRS.out];unfold Z2s;rw [if_pos hd1])
  rw [<-HHG.out,<-HT1.out] at HUP HRE;have RS:=Hd (HN3.out.resume (R0:=λ_=>False) (Z0a.nil _ _) (λk hk=>hk.elim) (Nat.zero_le _) (ko:=none) (kc:=0) (n:=0) rfl (Nat.zero_le _) (Z1l.nil _ _ _ _) (λg off e=>by cases e) HUP.out.1 HUP.out.2);unfold pv at RS;clear hd1;go_upto_region 17 with (go_at_call 59;(with_reducible refine RS.out.mono ?_);rintro e w7 ⟨rfl,hn7,hk7⟩;have HN7:=Hd hn7;have HK7:=Hd hk7;clear hn7 hk7)
  have c2:=HN7.out.cells.2;rw [<-HXL.out] at c2;have fz:=λo=>frozen_of_row w7 gn o _ _ HN7.out.ptr;have nx:=HN7.out.node HXS.out;have HFIN:=Hd (HN7.out.put HIL.out);go_wp2_with fail
  refine bodyPost_end (results_none rfl _ _ _) rfl ?_;exact ⟨rfl,_,_,by rw [HRE.out];exact HFIN.out.1,HK3.out.trans (HK7.out.trans HFIN.out.2 (λ_ q=>q)) (λ_ q=>q)⟩
end
end
section
open Go.RowKit
theorem Zaa (i n:Int) (d:ByteArray) (l:List ByteArray):((Z42 i n:StB).begin 0 true d l).2=true∧((Z42 i n:StB).begin 0 true d l).1.ticks=0∧((Z42 i n:StB).begin 0 true d l).1.height=0:=⟨rfl,rfl,rfl⟩
structure Zne (N:Nat) (st st':Z0g) (j:Nat):Prop where
 n:st'.n=st.n
 last:st'.last=st.last
 now:st'.now=st.now
 q:st'.q=st.q
 fates:st'.fates=st.fates
 cs:st'.cs=st.cs
 len:st'.ss.length=st.ss.length
 new:∀i s,j<=i->st'.ss[i]?=some s->s=Z42 (i:Int) (N:Int)
 old:∀s∈st'.ss,s.ticks=0∧s.height=0
section
variable {base:Nat} {w1 W W':World} {nb gn nc:Nat} {cur:Array Value} {xs:List Nat} {st:Z0g} {A B:Nat->Prop} {H F N:Nat}
theorem Zne.next {st':Z0g} {j:Nat} (h:Zne N st st' j) {s:StB} (hs:s.ticks=0∧s.height=0):Zne N st (st'.set j s) (j+1):=by
 refine ⟨h.n,h.last,h.now,h.q,h.fates,h.cs,?_,λi u hi hu=>?_,λu hu=>?_⟩
 ·show (st'.ss.set j s).length=_;rw [List.length_set];exact h.len
 ·have hu:(st'.ss.set j s)[i]?=some u:=hu;rw [List.getElem?_set_ne (by omega)] at hu;exact h.new i u (by omega) hu
 rcases List.mem_or_eq_of_mem_set (show u∈st'.ss.set j s from hu) with q | rfl
 ·exact h.old u q
 exact hs
theorem Zn2 (h:Z0q base w1 nb gn nc cur xs st A W) (g:Z2i H F N st) (h7:H<=7) (hb:Zne N st st 0) :
  Calls Tryz.prog 52 #[pv nb] W λe w'=>e = .returned (.bool true)∧∃st',Z2i H F N st'∧Zne N st st' H∧Z0q base w1 nb gn nc cur xs st' A w'∧Z0d A W w':=by
 have hl:xs.length=H:=by rw [h.len];exact g.len
 have HG:=Hd g;have HBS:=Hd hb;have HX:=Hd h;obtain ⟨xl,hxl⟩:∃xl,xl=xs.length:=⟨_,rfl⟩;have HXL:=Hd hxl;have HXH:=Hd (show xl=H from by omega);have xl8:(xl:Int)<=7:=by omega
 have n2:=h.cells.2.2.1;rw [<-hxl] at n2;clear h g hl hb hxl;unfold pv;go_enter Tryz.func52,Tryz.ntmps52
 clear n2;go_wp2_with fail
 go_loopw [3] (λjv wk=>∃(j:Nat) (s1:Z0g),j<=xl∧jv = .int .i64 (j:Int)∧Z2i H F N s1∧Zne N st s1 j∧Z0q base w1 nb gn nc cur xs s1 A wk∧Z0d A W wk) (λjv _=>xl - (intOf jv).toNat)
 case atStart=>exact ⟨0,st,Nat.zero_le _,rfl,HG.out,HBS.out,HX.out,Z0d.refl _ _⟩
 case round=>
  obtain ⟨j,s1,hj,rfl,hg1,hb1,hnx,hkp⟩:=hrel;have HG1:=Hd hg1;have HB1:=Hd hb1;have HN:=Hd hnx;have HK:=Hd hkp;have j0:(0:Int)<=(j:Int):=by omega
  have n2:=hnx.cells.2.2.1;rw [<-HXL.out] at n2;clear hg1 hb1 hnx hkp;by_cases hjl:j<xl
  ·have j1:(j:Int)<(xl:Int):=by omega
   have hjx:j<xs.length:=by rw [<-HXL.out];exact hjl
   obtain ⟨x,hx⟩:∃x,xs[j]?=some x:=⟨_,List.getElem?_eq_getElem hjx⟩;obtain ⟨s,hs⟩:∃s,s1.ss[j]?=some s:=⟨_,List.getElem?_eq_getElem (by rw [<-HN.out.len];exact hjx)⟩;have HXS:=Hd hx;have HSS:=Hd hs;have hsn:s=Z42 (j:Int) (N:Int):=HB1.out.new j s (Nat.le_refl _) hs;have HSN:=Hd hsn;obtain ⟨r,hr⟩:∃r:Nat,r=((j:Int) % 3).toNat:=⟨_,rfl⟩;have r3:r<3:=by omega
   have hr2:(j:Int).tmod 3=(r:Int):=by rw [Int.tmod_eq_emod_of_nonneg (by omega)];omega
   have r0:(0:Int)<=(r:Int):=by omega
   have r4:(r:Int)<4:=by omega
   have HR:=Hd (show Z40 j 0=fam r from by unfold Z40;rw [hr,Int.add_zero]);have HR3:=Hd r3;have HAS:=Hd (show Z1f (fam r)=true from by rw [<-HR.out];exact (GB.gf.val _ _ (Z4p j 0).2).1);have HGN:=Hd (show Z2i H F N (s1.set j (s.begin 0 (Z1f (fam r)) (Z0z (fam r)) (fam r)).1)∧Zne N st (s1.set j (s.begin 0 (Z1f (fam r)) (Z0z (fam r)) (fam r)).1) (j+1)∧(s.begin 0 (Z1f (fam r)) (Z0z (fam r)) (fam r)).2=true from by
    obtain ⟨V,E,a⟩:=HG1.out;have h1:=a.begins (i:=j) (by rw [<-HXH.out];exact hjl) hs 0 (Z4p j 0).1 (Z4p j 0).2;rw [HR.out] at h1;rw [HAS.out] at h1 ⊢;rw [hsn] at h1 ⊢;exact ⟨⟨V,E,h1⟩,HB1.out.next ⟨(Zaa _ _ _ _).2.1,(Zaa _ _ _ _).2.2⟩,(Zaa _ _ _ _).1⟩)
   obtain ⟨s2,hs2⟩:∃s2,s2=(s.begin 0 (Z1f (fam r)) (Z0z (fam r)) (fam r)).1:=⟨_,rfl⟩;have HS2:=Hd hs2;rw [<-hs2] at HGN;have nx:=HN.out.node hx;unfold pv at nx;have SK:=Hd (show ∀W2,Z0q base w1 nb gn nc cur xs s1 A W2->W2.cell? ⟨nb,2,none⟩=some (.slice (some ⟨gn,0,none⟩) xl nc)∧W2.cell? ⟨gn,j,none⟩=some (.pointer (some ⟨x,0,none⟩)) from λW2 h2=>by
    have a:=h2.cells.2.2.1;have b:=h2.node HXS.out;rw [<-HXL.out] at a;exact ⟨a,b⟩)
   have SK2:=Hd (show ∀W2,Z0q base w1 nb gn nc cur xs (s1.set j s2) A W2->W2.cell? ⟨nb,2,none⟩=some (.slice (some ⟨gn,0,none⟩) xl nc)∧W2.cell? ⟨gn,j,none⟩=some (.pointer (some ⟨x,0,none⟩)) from λW2 h2=>by
    have a:=h2.cells.2.2.1;have b:=h2.node HXS.out;rw [<-HXL.out] at a;exact ⟨a,b⟩)
   clear hx hs hsn hr r3 hs2 hjx;go_upto_region 4 with (fail)
   refine wp_region_held_drew (S:=λW2=>W2.cell? ⟨nb,2,none⟩=some (.slice (some ⟨gn,0,none⟩) xl nc)∧W2.cell? ⟨gn,j,none⟩=some (.pointer (some ⟨x,0,none⟩))) (by kernel_rfl) (SK.out _ (HN.out.later (Below.refl _ wr).drew)) (λhHeld=>?_);refine hyw (i:=0) hHeld ?_;try simp only [Act.put,zz]
   refine hyw (i:=1) hHeld ?_;try simp only [Act.put,zz]
   refine hyw (i:=2) hHeld ?_;try simp only [Act.put,zz]
   refine hyw (i:=3) hHeld ?_;try simp only [Act.put,zz]
   refine hyw (i:=4) hHeld ?_;try simp only [Act.put,zz]
   refine hyw (i:=5) hHeld ?_;try simp only [Act.put,zz]
   refine hyw (i:=6) hHeld ?_;try simp only [Act.put,zz]
   refine hyw (i:=8) hHeld ?_;try simp only [Act.put,zz]
   refine hyw (i:=9) hHeld ?_;try simp only [Act.put,zz]
   refine wpAnyH_ready (rs:=[7]) (by kernel_rfl) (by simp) ?_;refine AllReadyH.cons (o:=_) rfl (λK hK=>?_) AllReadyH.nil;go_simp;go_at_call 17
   (with_reducible refine (Z2f _).mono ?_)
   rintro e wl ⟨gl,rfl,hbl,hll⟩;obtain ⟨vl,c1,r1⟩:=hll.cell r (Nat.lt_of_lt_of_le HR3.out (by decide));rw [Z4l (Nat.lt_of_lt_of_le HR3.out (by decide))] at r1;have BL:=Hd ((Below.refl _ wr).drew.trans hbl);have HNL:=Hd (HN.out.later BL.out);have BG:=Hd (HNL.out.begin HXS.out HSS.out r1 (λk hk=>hk.2) Z2x (GB.fam (Nat.lt_of_lt_of_le HR3.out (by decide))) 0);rw [HGN.out.2.2,<-HS2.out] at BG;unfold pv Zlm at BG;clear hbl hll r1;clear hHeld;go_wp2_with fail
   refine hK.out _ _ (SK.out _ HNL.out) (λhHeld=>?_);clear hK K;try simp only [Act.put,zz]
   refine hyw (i:=10) hHeld ?_;try simp only [Act.put,zz]
   refine wpAnyH_ready (rs:=[11]) (by kernel_rfl) (by simp) ?_;refine AllReadyH.cons (o:=_) rfl (λK hK=>?_) AllReadyH.nil;go_simp;clear hHeld;go_wp2_with fail
   refine hK.out _ _ (SK.out _ HNL.out) (λhHeld=>?_);clear hK K;try simp only [Act.put,zz]
   refine wpAnyH_ready (rs:=[12]) (by kernel_rfl) (by simp) ?_;refine AllReadyH.cons (o:=_) rfl (λK hK=>?_) AllReadyH.nil;go_simp;go_at_call 16
   (with_reducible refine BG.out.mono ?_)
   rintro e w5 ⟨rfl,hn5,hk5⟩;have HN5:=Hd hn5;have HK5:=Hd hk5;clear hn5 hk5;clear hHeld;go_wp2_with fail
   refine hK.out _ _ (SK2.out _ HN5.out) (λhHeld=>?_);clear hK K;try simp only [Act.put,zz]
   refine hyw (i:=13) hHeld ?_;try simp only [Act.put,zz]
   refine wpAnyH_done (by kernel_rfl) ?_ _;go_wp2_with fail
   go_roundw
   case rel=>exact ⟨j+1,_,by omega,by go_num,HGN.out.1,HGN.out.2.1,HN5.out,(HK.out.trans (HN.out.keepB BL.out) (λ_ q=>q)).trans HK5.out (λ_ q=>q)⟩
   case measure=>simp [intOf];omega
  have j1:¬(j:Int)<(xl:Int):=by omega
  have hjh:j=H:=by rw [<-HXH.out];omega
  have HFIN:=Hd (show Z2i H F N s1∧Zne N st s1 H∧Z0q base w1 nb gn nc cur xs s1 A wr∧Z0d A W wr from ⟨HG1.out,hjh ▸ HB1.out,HN.out,HK.out⟩);clear hjh;go_wp2_with fail
  go_ret;exact ⟨rfl,s1,HFIN.out⟩
end
end
section
open Go.RowKit
section
variable {base:Nat} {w1 W W':World} {nb gn nc:Nat} {cur:Array Value} {xs:List Nat} {st:Z0g} {A B:Nat->Prop} {H F N:Nat}
theorem Z88 {wo w3 W2:World} {u:Value} {l:List ByteArray} (h:Z0a (New wo w3) w3 u l) (hb:Below w3.heap.size w3 W2):Z0a (New wo W2) W2 u l:=
 (h.kept (w':=W2) (λk _ _ hk _=>hb.block k hk.2)).mono (λk hk=>⟨hk.1,Nat.lt_of_lt_of_le hk.2 hb.size⟩)
theorem Zn3 (h:Z0q base w1 nb gn nc cur xs st A W) (g:Z2i H F N st) (h3:2 * F<H) (hl0:0<=st.last) (hl1:st.last<=1000) :
  Calls Tryz.prog 54 #[pv nb] W λe w'=>e = .returned (.bool true)∧Below W.heap.size W w':=by
 have HX:=Hd h;have HAG:=Hd (show ∀s∈st.ss,∀t∈st.ss,∀(k:Int) (u v:Z4x),Z02 k s.decs=some u->Z02 k t.decs=some v->u.list=v.list∧u.list≠fam 3 from by
  obtain ⟨V,E,a⟩:=g;exact λs hs t ht k u v h1 h2=>a.agree h3 hs ht h1 h2)
 have HLN:=Hd (show ∀s∈st.ss,∀(k:Int) (v:Z4x),Z02 k s.decs=some v->v.list.length<=60 from by
  obtain ⟨V,E,a⟩:=g;exact λs hs k v hv=>GB.law.len _ _ ((a.node s hs).fit.ok.gi.dg _ (Z0r hv)))
 obtain ⟨xl,hxl⟩:∃xl,xl=xs.length:=⟨_,rfl⟩;have HXL:=Hd hxl;have xl8:(xl:Int)<=8:=by have:=h.h8;omega
 obtain ⟨la,hla⟩:∃la,la=st.last:=⟨_,rfl⟩;rw [<-hla] at hl0 hl1;obtain ⟨m,hm⟩:∃m:Nat,(m:Int)=la+1:=⟨(la+1).toNat,by omega⟩;have CE:=Hd (show ∀W2,Below W.heap.size W W2->W2.cell? ⟨nb,2,none⟩=some (.slice (some ⟨gn,0,none⟩) xl nc)∧W2.cell? ⟨nb,3,none⟩=some (.int .i64 la) from λW2 hW=>by
  have:=(h.later hW).cells;exact ⟨by rw [hxl];exact this.2.2.1,by rw [hla];exact this.2.2.2.1⟩)
 clear h g hxl hla h3;unfold pv;go_enter Tryz.func54,Tryz.ntmps54
 go_wp2_with fail
 go_loopw [3] (λjv wk=>∃j:Nat,j<=m∧jv = .int .i64 (j:Int)∧Below W.heap.size W wk) (λjv _=>m - (intOf jv).toNat)
 case atStart=>exact ⟨0,Nat.zero_le _,rfl,Below.refl _ _⟩
 case round=>
  obtain ⟨j,hj,rfl,hb⟩:=hrel;have HB:=Hd hb;have j0:(0:Int)<=(j:Int):=by omega
  have n3:=(CE.out _ hb).2;clear hb;by_cases hjm:j<m
  ·have j1:(j:Int)<=la:=by omega
   obtain ⟨wo,rfl⟩:∃wo:World,wo=wr:=⟨_,rfl⟩;have HWO:=Hd HB.out.size;go_wp2_with fail
   go_loopw [6,4,5] (λiv lv fv wk=>∃i:Nat,i<=xl∧iv = .int .i64 (i:Int)∧Below wo.heap.size wo wk∧(fv = .bool false∨(fv = .bool true∧∃s∈st.ss,∃v,Z02 (j:Int) s.decs=some v∧Z0a (New wo wk) wk lv v.list))) (λiv _ _ _=>xl - (intOf iv).toNat)
   case atStart=>exact ⟨0,Nat.zero_le _,rfl,Below.refl _ _,.inl rfl⟩
   case round=>
    clear n3;obtain ⟨i,hi,rfl,hbi,hfst⟩:=hrel;have HBI:=Hd hbi;have HFS:=Hd hfst;have HBW:=Hd (HB.out.trans (hbi.mono HWO.out));have HNI:=Hd (HX.out.later HBW.out);have i0:(0:Int)<=(i:Int):=by omega
    have n2:=(CE.out _ HBW.out).1;clear hbi hfst;by_cases hil:i<xl
    ·have i1:(i:Int)<(xl:Int):=by omega
     obtain ⟨x,hx⟩:∃x,xs[i]?=some x:=⟨_,List.getElem?_eq_getElem (by rw [<-HXL.out];exact hil)⟩;obtain ⟨s,hs⟩:∃s,st.ss[i]?=some s:=⟨_,List.getElem?_eq_getElem (by rw [<-HX.out.len,<-HXL.out];exact hil)⟩;have HSM:=Hd (List.mem_of_getElem? hs);have nx:=HNI.out.node hx;have DC0:=Hd (HNI.out.dec hx hs (j:Int));unfold pv at nx DC0;clear hx hs;rcases hv:Z02 (j:Int) s.decs with _ | v
     ·have DC:=Hd (DC0.out.mono (R':=λe w'=>(∃u,e = .returned (.tuple #[u,.bool false]))∧Below _ _ w') λe w' ⟨⟨u,h1,_⟩,h2⟩=>⟨⟨u,by rw [h1];unfold NS.isDec;rw [hv];rfl⟩,h2⟩);clear DC0 hv;go_wp2_with (go_at_call 21;(with_reducible refine DC.out.mono ?_);rintro e w3 ⟨⟨u3,rfl⟩,hb3⟩;have HB3:=Hd hb3;clear hb3)
      go_roundw
      case rel=>
       refine ⟨i+1,by omega,by go_num,HBI.out.trans (HB3.out.mono HBI.out.size),?_⟩;rcases HFS.out with q | ⟨q,s0,h0,v0,h1,h2⟩
       ·exact .inl q
       exact .inr ⟨q,s0,h0,v0,h1,Z88 h2 HB3.out⟩
      case measure=>simp [intOf];omega
     have DC:=Hd (DC0.out.mono (R':=λe w'=>(∃u,e = .returned (.tuple #[u,.bool true])∧Z0a (New _ w') w' u v.list)∧Below _ _ w') λe w' ⟨⟨u,h1,h2⟩,h3⟩=>⟨⟨u,by rw [h1];unfold NS.isDec;rw [hv];rfl,h2 v hv⟩,h3⟩);have HVV:=Hd hv;have HNF:=Hd (decide_eq_false (HAG.out s HSM.out s HSM.out _ v v hv hv).2);have HL6:=Hd (HLN.out s HSM.out _ v hv);clear DC0 hv;rcases HFS.out with rfl | ⟨rfl,s0,h0,v0,h1,h2⟩
     ·go_wp2_with (first
       | (go_at_call 21;(with_reducible refine DC.out.mono ?_);rintro e w3 ⟨⟨u3,rfl,hl3⟩,hb3⟩;have HB3:=Hd hb3;have HL3:=Hd hl3;clear hb3 hl3)
       | (go_at_call 17;(with_reducible refine (Z2f _).mono ?_);rintro e wl ⟨gl,rfl,hbl,hll⟩;obtain ⟨vl,c1,r1⟩:=hll.cell 3 (by decide);rw [Z4l (by decide)] at r1;have BL:=Hd hbl;have SM:=Hd (Z5w (Z88 HL3.out hbl) r1 (by have:=HL6.out;omega));rw [HNF.out] at SM;clear hbl hll r1)
       | (go_at_call 22;(with_reducible refine SM.out.mono ?_);rintro e w6 ⟨rfl,hb6⟩;have HB6:=Hd hb6;clear hb6))
      go_roundw
      case rel=>
       have b36:=BL.out.trans (HB6.out.mono BL.out.size);refine ⟨i+1,by omega,by go_num,HBI.out.trans ((HB3.out.trans (b36.mono HB3.out.size)).mono HBI.out.size),.inr ⟨rfl,s,HSM.out,v,HVV.out,?_⟩⟩;exact (Z88 HL3.out b36).mono (λk hk=>⟨Nat.le_trans HBI.out.size hk.1,hk.2⟩)
      case measure=>simp [intOf];omega
     have HL0:=Hd h2;have HEQ:=Hd (decide_eq_true (HAG.out s HSM.out s0 h0 _ v v0 HVV.out h1).1);clear h0 h1 h2;go_wp2_with (first
      | (go_at_call 21;(with_reducible refine DC.out.mono ?_);rintro e w3 ⟨⟨u3,rfl,hl3⟩,hb3⟩;have HB3:=Hd hb3;have HL3:=Hd hl3;have SM0:=Hd (Z5w hl3 (Z88 HL0.out hb3) (by have:=HL6.out;omega));rw [HEQ.out] at SM0;clear hb3 hl3)
      | (go_at_call 17;(with_reducible refine (Z2f _).mono ?_);rintro e wl ⟨gl,rfl,hbl,hll⟩;obtain ⟨vl,c1,r1⟩:=hll.cell 3 (by decide);rw [Z4l (by decide)] at r1;have BL:=Hd (HB5.out.trans (hbl.mono HB5.out.size));have SM:=Hd (Z5w (Z88 HL3.out BL.out) r1 (by have:=HL6.out;omega));rw [HNF.out] at SM;clear hbl hll r1)
      | (go_at_call 22;(with_reducible refine SM0.out.mono ?_);rintro e w5 ⟨rfl,hb5⟩;have HB5:=Hd hb5;clear hb5 SM0)
      | (go_at_call 22;(with_reducible refine SM.out.mono ?_);rintro e w6 ⟨rfl,hb6⟩;have HB6:=Hd hb6;clear hb6))
     go_roundw
     case rel=>
      have b36:=BL.out.trans (HB6.out.mono BL.out.size);refine ⟨i+1,by omega,by go_num,HBI.out.trans ((HB3.out.trans (b36.mono HB3.out.size)).mono HBI.out.size),.inr ⟨rfl,s,HSM.out,v,HVV.out,?_⟩⟩;exact (Z88 HL3.out b36).mono (λk hk=>⟨Nat.le_trans HBI.out.size hk.1,hk.2⟩)
     case measure=>simp [intOf];omega
    have i1:¬(i:Int)<(xl:Int):=by omega
    go_wp2_with fail
    go_roundw
    case rel=>exact ⟨j+1,by omega,by go_num,HBW.out⟩
    case measure=>simp [intOf];omega
  have j1:¬(j:Int)<=la:=by omega
  go_wp2_with fail
  go_ret;exact ⟨rfl,HB.out⟩
end
end
end Go.Proofs.YtifcdjmcoibblaaGreatDoor
