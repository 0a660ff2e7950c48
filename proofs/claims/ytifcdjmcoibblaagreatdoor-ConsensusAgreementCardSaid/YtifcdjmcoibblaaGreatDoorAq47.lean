/- Tck All -/
import Derived.Test.YtifcdjmcoibblaaGreatDoorAq46
set_option linter.unusedVariables false
set_option linter.unusedSimpArgs false
set_option linter.unusedSectionVars false
set_option maxRecDepth 100000
set_option maxHeartbeats 80000000
namespace Go.Proofs.YtifcdjmcoibblaaGreatDoor
section
open Go.RowKit
section
variable {base:Nat} {w1 W W':World} {nb gn nc:Nat} {cur:Array Value} {xs:List Nat} {st:Z0g} {A B:Nat->Prop}
theorem Zib (h:Z0q base w1 nb gn nc cur xs st A W) {i:Nat} {s:StB} (hs:st.ss[i]?=some s) {K:Nat} (hc:Cap st K) (hK:K<=400000000) (hT:s.ticks<=1000000000) (hh:s.height<1199) (hl0:0<=st.last) (hl1:st.last<=1000) :
  Calls Tryz.prog 103 #[pv nb,.int .i64 (i:Int)] W λe w'=>e = .returned (.tuple #[])∧Z0q base w1 nb gn nc cur xs (st.tickS i s) A w'∧Z0d A W w':=by
 have hil:i<xs.length:=by rw [h.len];exact (List.getElem?_eq_some_iff.1 hs).1
 obtain ⟨x,hx⟩:∃x,xs[i]?=some x:=⟨_,List.getElem?_eq_getElem hil⟩;have HX:=Hd h;have HXS:=Hd hx;have HSS:=Hd hs;have HIL:=Hd hil;have HCAP:=Hd hc;have HTI:=Hd hT;have HFT:=Hd (h.fit (List.mem_of_getElem? hs));obtain ⟨hgt,hhg⟩:∃hgt,hgt=s.height:=⟨_,rfl⟩;have HHG:=Hd hhg;have hg0:0<=hgt:=by rw [hhg];exact HFT.out.ok.inv.num.h0
 have hg1:hgt<1199:=by rw [hhg];exact hh
 obtain ⟨xl,hxl⟩:∃xl,xl=xs.length:=⟨_,rfl⟩;have HXL:=Hd hxl;have xl8:(xl:Int)<=8:=by have:=h.h8;omega
 have i0:(0:Int)<=(i:Int):=by omega
 have i1:(i:Int)<(xl:Int):=by omega
 have n2:=h.cells.2.2.1;rw [<-hxl] at n2;have nx:=h.node hx;have AK:=Hd (h.asked hx hs);obtain ⟨s1,hs1⟩:∃s1,s1=Z2n s s.asked:=⟨_,rfl⟩;have HS1:=Hd hs1;have HJA:=Hd (show Z8f s s.asked.length=s1 from by rw [hs1];exact Zd0 s rfl);have HH1:=Hd (show s1.height=hgt from by rw [<-HJA.out,hhg];exact (Z7k s _).1);unfold pv at nx AK ⊢;clear h hs hx hil hc hT hhg hh hxl hs1;go_enter Tryz.func103,Tryz.ntmps103
 go_upto_region 2 with (go_at_call 38;(with_reducible refine AK.out.mono ?_);rintro e wA ⟨⟨v16,rfl,hrl⟩,hbA⟩;obtain ⟨aao,acap,rfl⟩:=Zbf hrl;have HRL:=Hd hrl;have HBA:=Hd hbA;clear hrl hbA)
 obtain ⟨la,hla⟩:∃la,la=s.asked.length:=⟨_,rfl⟩;have HLA:=Hd hla;have la9:(la:Int)<=1000:=by have:=Zjx HFT.out;omega
 rw [<-hla] at HRL HJA ⊢;have HXA:=Hd (HX.out.grow HBA.out);obtain ⟨A2,hA2⟩:∃A2:Nat->Prop,A2=λk=>A k∨New W wA k:=⟨_,rfl⟩;have HA2:=Hd hA2;rw [<-hA2] at HXA;have HKA:=Hd (HX.out.keepB HBA.out);clear n2 nx AK hla hA2;go_wp2_with fail
 go_loopw [6] (λkv wk=>∃j:Nat,j<=la∧kv = .int .i64 (j:Int)∧Z0q base w1 nb gn nc cur xs (st.set i (Z8f s j)) A2 wk∧Z0d A2 wA wk) (λkv _=>la - (intOf kv).toNat)
 case atStart=>exact ⟨0,Nat.zero_le _,rfl,by show Z0q base w1 nb gn nc cur xs (st.set i s) A2 wA;rw [st.set_same HSS.out];exact HXA.out,Z0d.refl _ _⟩
 case round=>
  clear HXA;obtain ⟨j,hj,rfl,hnx,hkp⟩:=hrel;have HN:=Hd hnx;have HK:=Hd hkp;have j0:(0:Int)<=(j:Int):=by omega
  clear hnx hkp;by_cases hjl:j<la
  ·have j1:(j:Int)<(la:Int):=by omega
   obtain ⟨l,hl⟩:∃l,s.asked[j]?=some l:=⟨s.asked[j]'(by rw [<-HLA.out];exact hjl),List.getElem?_eq_getElem _⟩;obtain ⟨g,u,rfl,hcu,hlr,hg1,hg2⟩:=HRL.out.nth hl;have HGB:=Hd (Zmt HFT.out l (List.mem_of_getElem? hl));have HGN:=Hd (show A2 g from by rw [HA2.out];exact .inr ⟨hg1,hg2⟩);have cu:wr.cell? ⟨g,j,none⟩=some u:=by
    rw [World.cell?_of_block (w:=wA) (w':=wr) (a:=⟨g,j,none⟩) (HK.out.2 g HGN.out)];exact hcu
   have HLW:=Hd (show Z0a A2 wr u l from (hlr.kept (w':=wr) (λg' cur fr hr _=>HK.out.2 g' (by rw [HA2.out];exact .inr hr))).mono (λk hk=>by rw [HA2.out];exact .inr hk));have HAN:=Hd (Zfb hl);have HGL:=Hd (HN.out.lt HGN.out);obtain ⟨b5,hb5⟩:∃b5,b5=decide (l=fam 3):=⟨_,rfl⟩;have HB5:=Hd hb5;have SK:=Hd (show ∀W2,Below wr.heap.size wr W2->W2.cell? ⟨g,j,none⟩=some u from λW2 hW=>by
    rw [World.cell?_of_block (w:=wr) (hW.block g HGL.out)];exact cu)
   clear hl hcu hlr hg1 hg2 hb5;go_upto_region 5 with (fail)
   go_cut [36] from 28 to 36 (λt wc=>t = .bool (!b5)∧Below wr.heap.size wr wc)
   case first=>
    refine wp_region_held_drew (S:=λW2=>W2.cell? ⟨g,j,none⟩=some u) (by kernel_rfl) (SK.out _ (Below.refl _ wr).drew) (λhHeld=>?_);refine hyw (i:=0) hHeld ?_;try simp only [Act.put,zz]
    refine hyw (i:=1) hHeld ?_;try simp only [Act.put,zz]
    refine hyw (i:=2) hHeld ?_;try simp only [Act.put,zz]
    refine hyw (i:=3) hHeld ?_;try simp only [Act.put,zz]
    refine wpAnyH_ready (rs:=[4]) (by kernel_rfl) (by simp) ?_;refine AllReadyH.cons (o:=_) rfl (λK hK=>?_) AllReadyH.nil;go_simp;go_at_call 17
    (with_reducible refine (Z2f _).mono ?_)
    rintro e wl ⟨gl,rfl,hbl,hll⟩;obtain ⟨vl,c1,r1⟩:=hll.cell 3 (by decide);rw [Z4l (by decide)] at r1;have BL:=Hd ((Below.refl _ wr).drew.trans hbl);have SM:=Hd (Z5w (HLW.out.kept (w':=wl) (λk _ _ hk _=>BL.out.block k (HN.out.lt hk))) r1 (Nat.le_trans (GB.law.len _ _ HGB.out) (by decide)));rw [<-HB5.out] at SM;clear hll r1 hbl;clear hHeld;go_wp2_with fail
    refine hK.out _ _ (SK.out _ BL.out) (λhHeld=>?_);clear hK K;try simp only [Act.put,zz]
    refine hyw (i:=5) hHeld ?_;try simp only [Act.put,zz]
    refine wpAnyH_ready (rs:=[6]) (by kernel_rfl) (by simp) ?_;refine AllReadyH.cons (o:=_) rfl (λK hK=>?_) AllReadyH.nil;go_simp;clear hHeld;go_wp2_with fail
    refine hK.out _ _ (SK.out _ BL.out) (λhHeld=>?_);clear hK K;try simp only [Act.put,zz]
    refine wpAnyH_ready (rs:=[7]) (by kernel_rfl) (by simp) ?_;refine AllReadyH.cons (o:=_) rfl (λK hK=>?_) AllReadyH.nil;go_simp;go_at_call 22
    (with_reducible refine SM.out.mono ?_)
    rintro e w9 ⟨rfl,hb9⟩;have BM:=Hd (BL.out.trans (hb9.mono BL.out.size));clear hb9;clear hHeld;go_wp2_with fail
    refine hK.out _ _ (SK.out _ BM.out) (λhHeld=>?_);clear hK K;try simp only [Act.put,zz]
    refine hyw (i:=8) hHeld ?_;try simp only [Act.put,zz]
    refine wpAnyH_done (by kernel_rfl) ?_ _;go_wp2_with fail
    go_meet;exact ⟨rfl,BM.out⟩
   case rest=>
   obtain ⟨rfl,hbk⟩:=hcut;obtain ⟨wk,rfl⟩:∃wk:World,wk=wc:=⟨_,rfl⟩;have HBK:=Hd hbk;have HNK:=Hd (HN.out.later hbk);have HKK:=Hd (HK.out.trans (HN.out.keepB hbk) (λ_ q=>q));have ck:=SK.out _ hbk;clear hbk cu;rcases b5 with _ | _
   ·have DG:=Hd (show ∀W2,Below wk.heap.size wk W2->Calls Tryz.prog 26 #[u] W2 λe w'=>e = .returned (.string (Z0z l))∧Below wk.heap.size wk w' from λW2 hW=>
     (Zh0 (GB.gf.val _ _ HGB.out).1 (GB.law.len _ _ HGB.out) (HLW.out.kept (w':=W2) (λk _ _ hk _=>(hW.block k (HNK.out.lt hk)).trans (HBK.out.block k (HN.out.lt hk))))).mono λe w' q=>⟨q.1,hW.trans (q.2.mono hW.size)⟩)
    obtain ⟨dl,hdl⟩:∃dl,dl=Z0z l:=⟨_,rfl⟩;rw [<-hdl] at DG;have AC:=Hd (show ∀W2,Below wk.heap.size wk W2->Calls Tryz.prog 25 #[.pointer (some ⟨x,0,none⟩),.string dl] W2 λe w'=>e = .returned (.tuple #[])∧Z0q base w1 nb gn nc cur xs (st.set i (Z8f s (j+1))) A2 w'∧Z0d A2 wA w' from λW2 hW=>by
     have h1:=HNK.out.later hW;have h2:=h1.accept HXS.out (st.set_get (by rw [<-HX.out.len];exact HIL.out)) dl;rw [Z0g.set_set,hdl] at h2;rw [HAN.out,if_neg (of_decide_eq_false HB5.out.symm)];rw [hdl];refine h2.mono ?_;rintro e w' ⟨rfl,a1,a2⟩;exact ⟨rfl,a1,(HKK.out.trans (HNK.out.keepB hW) (λ_ q=>q)).trans a2 (λ_ q=>q)⟩)
    clear hdl;go_wp2_with (first
     | (go_at_call 26;(with_reducible refine (DG.out _ (Below.refl _ _)).mono ?_);rintro e w3 ⟨rfl,hb3⟩;have HB3:=Hd hb3;clear hb3)
     | (go_at_call 25;(with_reducible refine (AC.out _ HB3.out).mono ?_);rintro e w4 ⟨rfl,hn4,hk4⟩;have HN4:=Hd hn4;have HK4:=Hd hk4;clear hn4 hk4))
    go_roundw
    case rel=>exact ⟨j+1,by omega,by go_num,HN4.out,HK4.out⟩
    case measure=>simp [intOf];omega
   go_wp2_with fail
   go_roundw
   case rel=>exact ⟨j+1,by omega,by go_num,by rw [HAN.out,if_pos (of_decide_eq_true HB5.out.symm)];exact HNK.out,HKK.out⟩
   case measure=>simp [intOf];omega
  have j1:¬(j:Int)<(la:Int):=by omega
  have hjl:j=la:=by omega
  subst hjl;rw [HJA.out] at HN;have HIN:=Hd (show i<st.ss.length from by rw [<-HX.out.len];exact HIL.out);have hht:∀(w:World) (t:StB),Z0q base w1 nb gn nc cur xs (st.set i t) A2 w->∀W2,Below w.heap.size w W2->Calls Tryz.prog 24 #[.pointer (some ⟨x,0,none⟩)] W2 λe w'=>e = .returned (.int .i64 t.height)∧w'=W2:=λw t hn W2 hW=>(hn.later hW).height HXS.out (st.set_get HIN.out);have HTT:=Hd hht;have HT1:=Hd (hht _ _ HN.out);have DC1:=Hd (HN.out.dec HXS.out (st.set_get HIN.out) s1.height);rw [HH1.out] at HT1 DC1;obtain ⟨d1,hd1⟩:∃d1,d1=s1.isDec hgt:=⟨_,rfl⟩;rw [<-hd1] at DC1;have HD1:=Hd hd1;unfold pv at DC1;clear hht hd1 j0 j1 hjl hj;go_upto_region 8 with (first
   | (go_at_call 24;(with_reducible refine (HT1.out _ (Below.refl _ _)).mono ?_);rintro e wq ⟨rfl,hwq⟩;rw [hwq];clear hwq wq)
   | (go_at_call 21;(with_reducible refine DC1.out.mono ?_);rintro e w3 ⟨⟨u3,rfl,_⟩,hb3⟩;have HB3:=Hd hb3;clear hb3))
  have HN3:=Hd (HN.out.later HB3.out);have HK3:=Hd (HK.out.trans (HN.out.keepB HB3.out) (λ_ q=>q));have HT3:=Hd (HTT.out _ _ HN3.out);rw [HH1.out] at HT3;have n3:w3.cell? ⟨nb,3,none⟩=some (.int .i64 st.last):=HN3.out.cells.2.2.2.1;obtain ⟨bl,hbl⟩:∃bl,bl=decide (hgt<st.last):=⟨_,rfl⟩;have HBL:=Hd hbl;clear HN HK HT1 DC1 hbl;go_cut [60] from 51 to 60 (λt wc=>t = .bool (d1 && bl)∧Below w3.heap.size w3 wc)
  case first=>
   have hbl:=HBL.out.symm;rcases d1 with _ | _
   ·go_quiet (fail)
    go_wp2
    go_meet;exact ⟨rfl,below_drewN (Below.refl _ _) _⟩
   go_quiet ((go_at_call 24;exact Calls.quiet_of_same (HT3.out _ (below_drewN (Below.refl _ _) _))))
   go_wp2
   go_meet;exact ⟨rfl,below_drewN (Below.refl _ _) _⟩
  case rest=>
  obtain ⟨rfl,hbk⟩:=hcut;obtain ⟨w4,rfl⟩:∃w4:World,w4=wc:=⟨_,rfl⟩;have HN4:=Hd (HN3.out.later hbk);have HK4:=Hd (HK3.out.trans (HN3.out.keepB hbk) (λ_ q=>q));have HT4:=Hd (HTT.out _ _ HN4.out);rw [HH1.out] at HT4;obtain ⟨b8,hb8⟩:∃b8,b8=(d1 && bl):=⟨_,rfl⟩;have HB8:=Hd (show b8=decide (s1.isDec s1.height=true∧s1.height<st.last) from by
   rw [hb8,HD1.out,HBL.out,HH1.out];rcases s1.isDec hgt with _ | _ <;> simp)
  rw [<-hb8];clear hbk n3 hb8 HN3 HK3 HT3;go_upto_if 60 with (fail)
  go_cut [] from 61 to 74 (λwc=>Z0q base w1 nb gn nc cur xs (st.set i (Z1s st.last i s)) A2 wc∧Z0d A2 wA wc)
  case first=>
   rcases b8 with _ | _
   ·have HE:=Hd (show Z1s st.last i s=s1 from by
     unfold Z1s Zbe;rw [<-HS1.out,if_neg (of_decide_eq_false HB8.out.symm)])
    go_wp2_with fail
    go_meet;exact ⟨by rw [HE.out];exact HN4.out,HK4.out⟩
   obtain ⟨r,hr⟩:∃r:Nat,r=(((i:Int)+(hgt+1)) % 3).toNat:=⟨_,rfl⟩;have r3:r<3:=by omega
   have hr2:((i:Int)+hgt+1).tmod 3=(r:Int):=by rw [Int.tmod_eq_emod_of_nonneg (by omega)];omega
   have ew1:IntKind.wrap .i64 (hgt+1)=hgt+1:=by rw [IntKind.wrap_i64];omega
   have ew2:IntKind.wrap .i64 ((i:Int)+hgt)=(i:Int)+hgt:=by rw [IntKind.wrap_i64];omega
   have ew3:IntKind.wrap .i64 ((i:Int)+hgt+1)=(i:Int)+hgt+1:=by rw [IntKind.wrap_i64];omega
   have r0:(0:Int)<=(r:Int):=by omega
   have r4:(r:Int)<4:=by omega
   have HR:=Hd (show Z40 i (hgt+1)=fam r from by unfold Z40;rw [hr]);have HR3:=Hd r3;have HE:=Hd (show Z1s st.last i s=(s1.begin (hgt+1) (Z1f (fam r)) (Z0z (fam r)) (fam r)).1 from by
    unfold Z1s Zbe;rw [<-HS1.out,if_pos (of_decide_eq_true HB8.out.symm),HH1.out,HR.out])
   clear hr r3;go_wp2_with (first
    | (go_at_call 24;(with_reducible refine (HT4.out _ (Below.refl _ _)).mono ?_);rintro e wq ⟨rfl,hwq⟩;rw [hwq];clear hwq wq)
    | (go_at_call 24;(with_reducible refine (HT4.out _ BL.out).mono ?_);rintro e wq ⟨rfl,hwq⟩;rw [hwq];clear hwq wq)
    | (go_at_call 17;(with_reducible refine (Z2f _).mono ?_);rintro e wl ⟨gl,rfl,hbl,hll⟩;obtain ⟨vl,c1,r1⟩:=hll.cell r (Nat.lt_of_lt_of_le HR3.out (by decide));rw [Z4l (Nat.lt_of_lt_of_le HR3.out (by decide))] at r1;have BL:=Hd hbl;have BG:=Hd ((HN4.out.later hbl).begin HXS.out (st.set_get HIN.out) r1 (λk hk=>hk.2) Z2x (GB.fam (Nat.lt_of_lt_of_le HR3.out (by decide))) (hgt+1));unfold pv at BG;rw [Z0g.set_set] at BG;clear hbl hll r1)
    | (go_at_call 16;(with_reducible refine BG.out.mono ?_);rintro e w5 ⟨rfl,hn5,hk5⟩;have HN5:=Hd hn5;have HK5:=Hd hk5;clear hn5 hk5))
   go_meet;exact ⟨by rw [HE.out];exact HN5.out,(HK4.out.trans (HN4.out.keepB BL.out) (λ_ q=>q)).trans HK5.out (λ_ q=>q)⟩
  case rest=>
  obtain ⟨hn5,hk5⟩:=hcut;obtain ⟨w5,rfl⟩:∃w5:World,w5=wc:=⟨_,rfl⟩;obtain ⟨s2,hs2⟩:∃s2,s2=Z1s st.last i s:=⟨_,rfl⟩;rw [<-hs2] at hn5;have HS2:=Hd hs2;have HN5:=Hd hn5;have HK5:=Hd hk5;have HT2:=Hd (show s2.ticks<=1000000000 from by rw [hs2];rcases Za6 st.last i s with q | q <;> (have:=HTI.out;omega));have HF2:=Hd (hn5.fit (List.mem_of_getElem? (st.set_get HIN.out)));have HT5:=Hd (HTT.out _ _ hn5);have DC5:=Hd (hn5.dec HXS.out (st.set_get HIN.out) s2.height);obtain ⟨h2,hh2⟩:∃h2,h2=s2.height:=⟨_,rfl⟩;obtain ⟨d2,hd2⟩:∃d2,d2=s2.isDec s2.height:=⟨_,rfl⟩;rw [<-hd2,<-hh2] at DC5;rw [<-hh2] at HT5;have HH2:=Hd hh2;have HD2:=Hd hd2;unfold pv at DC5;clear hn5 hk5 hs2 hh2 hd2 HN4 HK4 HT4 HBL HB8 HD1;go_upto_region 11 with (first
   | (go_at_call 24;(with_reducible refine (HT5.out _ (Below.refl _ _)).mono ?_);rintro e wq ⟨rfl,hwq⟩;rw [hwq];clear hwq wq)
   | (go_at_call 21;(with_reducible refine DC5.out.mono ?_);rintro e w6 ⟨⟨u6,rfl,_⟩,hb6⟩;have HB6:=Hd hb6;clear hb6))
  have HN6:=Hd (HN5.out.later HB6.out);have HK6:=Hd (HK5.out.trans (HN5.out.keepB HB6.out) (λ_ q=>q));have TK:=Hd (HN6.out.tick HXS.out (st.set_get HIN.out) (by have:=HT2.out;omega));rw [Z0g.set_set] at TK;unfold pv at TK;obtain ⟨s3,hs3⟩:∃s3,s3=s2.tick.1:=⟨_,rfl⟩;obtain ⟨ms,hms⟩:∃ms,ms=s2.tick.2:=⟨_,rfl⟩;rw [<-hs3,<-hms] at TK;have HH3:=Hd (show s3.height=h2 from by rw [hs3,HH2.out];exact (Z38 HF2.out.ok.inv).height);have HOM:=Hd (show ∀m∈ms,Zro szB GB s2.id s2.n m from by rw [hms];exact HF2.out.out GB.gf);have HTS:=Hd (show st.tickS i s=ms.foldl (Z0g.put d2 h2 i) (st.set i s3) from by
   unfold Z0g.tickS;rw [<-HS2.out,<-hs3,<-hms,<-HD2.out,HH3.out])
  obtain ⟨lm,hlm⟩:∃lm,lm=ms.length:=⟨_,rfl⟩;have HLM:=Hd hlm;have lm9:(lm:Int)<=4000:=by rw [hlm,hms];have:=Zf9 HF2.out;omega
  clear hs3 hms hlm HN5 HK5 HT5 DC5 HT2 HS2 HH2 HD2;go_upto_region 12 with (go_at_call 18;(with_reducible refine TK.out.mono ?_);rintro e wt ⟨v7,A3,rfl,hA3,hn7,hk7,ho7⟩;obtain ⟨ao7,cap7,rfl⟩:=Z9s ho7;have HA3:=Hd hA3;have HN7:=Hd hn7;have HK7:=Hd hk7;have HO7:=Hd ho7;clear hA3 hn7 hk7 ho7)
  rw [<-HLM.out] at HO7 ⊢;clear TK;obtain ⟨mi,hmi⟩:∃mi:Int,mi=1 - min (i:Int) 1:=⟨_,rfl⟩;have HMI:=Hd hmi;have mi0:0<=mi∧mi<=1:=by rw [hmi];omega
  clear hmi;have HC0:=Hd (HCAP.out.set i s3);obtain ⟨S0,hS0⟩:∃S0,S0=st.set i s3:=⟨_,rfl⟩;have HSP:=Hd (show ∀l:List Z0k,(l.foldl (Z0g.put d2 h2 i) S0).ss=st.ss.set i s3 from by
   intro l;have:∀(l:List Z0k) (w:Z0g),(l.foldl (Z0g.put d2 h2 i) w).ss=w.ss:=by
    intro l;induction l with
    | nil=>intro w;rfl
    | cons m l ih=>intro w;rw [List.foldl_cons,ih];exact (w.put_ss d2 h2 i m).1
   rw [this,hS0];rfl)
  rw [<-hS0] at HN7 HTS HC0;clear hS0;go_wp2_with fail
  go_loopw [12] (λkv wk=>∃j:Nat,j<=lm∧kv = .int .i64 (j:Int)∧Z0q base w1 nb gn nc cur xs ((ms.take j).foldl (Z0g.put d2 h2 i) S0) A3 wk∧Z0d A3 wt wk) (λkv _=>lm - (intOf kv).toNat)
  case atStart=>exact ⟨0,Nat.zero_le _,rfl,HN7.out,Z0d.refl _ _⟩
  case round=>
   clear HN7;obtain ⟨j,hj,rfl,hnx,hkp⟩:=hrel;have HN:=Hd hnx;have HK:=Hd hkp;have j0:(0:Int)<=(j:Int):=by omega
   clear hnx hkp;by_cases hjl:j<lm
   ·have j1:(j:Int)<(lm:Int):=by omega
    obtain ⟨m,hm⟩:∃m,ms[j]?=some m:=⟨ms[j]'(by rw [<-HLM.out];exact hjl),List.getElem?_eq_getElem _⟩;have HOMM:=Hd (HOM.out m (List.mem_of_getElem? hm));have HNE:=Hd (show (ms.take (j+1)).foldl (Z0g.put d2 h2 i) S0=((ms.take j).foldl (Z0g.put d2 h2 i) S0).put d2 h2 i m from by
     obtain ⟨q1,q2⟩:=List.getElem?_eq_some_iff.1 hm;rw [List.take_succ_eq_append_getElem q1,q2,List.foldl_append];rfl)
    have HCJ:=Hd (show Cap ((ms.take j).foldl (Z0g.put d2 h2 i) S0) (K+8000) from (Cap.puts (ms.take j) HC0.out).mono (by rw [List.length_take,<-HLM.out];omega));obtain ⟨SJ,hSJ⟩:∃SJ,SJ=(ms.take j).foldl (Z0g.put d2 h2 i) S0:=⟨_,rfl⟩;have HSS3:=Hd (show SJ.ss[i]?=some s3 from by rw [hSJ,HSP.out,List.getElem?_set_self HIN.out]);have HSL:=Hd (show SJ.ss.length=st.ss.length from by rw [hSJ,HSP.out,List.length_set]);rw [<-hSJ] at HN HNE HCJ;have hor:=HO7.out.kept (W':=wr) HK.out.1 (λk _ _ hz=>HK.out.2 k (Classical.not_not.1 hz));obtain ⟨b,off,lo,lc,rfl,hce,hlr⟩:=hor.nth hm;have HLR:=Hd (show Z0a A3 wr (.slice lo m.list.length lc) m.list from hlr.mono (λk hk=>Classical.not_not.1 hk.2));have HBA3:=Hd (show A3 b from by
     obtain ⟨_,_,_,h3⟩:=HO7.out;exact Classical.not_not.1 (h3 b rfl))
    have HBL:=Hd (show b<wr.heap.size from World.block_lt_of_cell? _ _ (hce 0 _ rfl));have HCE:=Hd (show ∀W2,Below wr.heap.size wr W2->∀(k:Nat) (u:Value),(Z0l m (.slice lo m.list.length lc)).toList[k]?=some u->W2.cell? ⟨b,off+j * 8+k,none⟩=some u from λW2 hW k u hu=>by
     rw [World.cell?_of_block (w:=wr) (hW.block b HBL.out)];exact hce k u hu)
    have HTR:=Hd (show ∀W2,Below wr.heap.size wr W2->Calls Tryz.prog 24 #[.pointer (some ⟨x,0,none⟩)] W2 λe w'=>e = .returned (.int .i64 h2)∧w'=W2 from λW2 hW=>by
     have:=(HN.out.later hW).height HXS.out HSS3.out;rw [HH3.out] at this;exact this)
    have e2:=hce 2 _ rfl;have e3:=hce 3 _ rfl;unfold iv at e2 e3;obtain ⟨b15,hb15⟩:∃b15,b15=decide (d2=false∧m.height=h2∧m.to=mi):=⟨_,rfl⟩;have HB15:=Hd hb15;clear hm hSJ hor hce hlr hb15;go_upto_region 15 with (fail)
    go_cut [112] from 90 to 112 (λt wc=>t = .bool b15∧Below wr.heap.size wr wc)
    case first=>
     rcases d2 with _ | _
     ·by_cases z1:m.height=h2
      ·have y1:(m.height == h2)=true:=by rw [z1];exact beq_self_eq_true _
       have hmi:=HMI.out.symm;by_cases z2:m.to=mi
       ·have y2:(m.to == mi)=true:=by rw [z2];exact beq_self_eq_true _
        have HE:=Hd (show b15=true from by rw [HB15.out];exact decide_eq_true ⟨rfl,z1,z2⟩);clear z1 z2;go_quiet ((go_at_call 24;exact Calls.quiet_of_same (HTR.out _ (below_drewN (Below.refl _ _) _))))
        go_wp2
        go_meet;exact ⟨by rw [HE.out],below_drewN (Below.refl _ _) _⟩
       have y2:(m.to == mi)=false:=by simpa using z2
       have HE:=Hd (show b15=false from by rw [HB15.out];exact decide_eq_false (λq=>z2 q.2.2));clear z1 z2;go_quiet ((go_at_call 24;exact Calls.quiet_of_same (HTR.out _ (below_drewN (Below.refl _ _) _))))
       go_wp2
       go_meet;exact ⟨by rw [HE.out],below_drewN (Below.refl _ _) _⟩
      have y1:(m.height == h2)=false:=by simpa using z1
      have HE:=Hd (show b15=false from by rw [HB15.out];exact decide_eq_false (λq=>z1 q.2.1));clear z1;go_quiet ((go_at_call 24;exact Calls.quiet_of_same (HTR.out _ (below_drewN (Below.refl _ _) _))))
      go_wp2
      go_meet;exact ⟨by rw [HE.out],below_drewN (Below.refl _ _) _⟩
     have HE:=Hd (show b15=false from by rw [HB15.out];exact decide_eq_false (λq=>by cases q.1));go_quiet (fail)
     go_wp2
     go_meet;exact ⟨by rw [HE.out],below_drewN (Below.refl _ _) _⟩
    case rest=>
    obtain ⟨rfl,hbk⟩:=hcut;obtain ⟨wk,rfl⟩:∃wk:World,wk=wc:=⟨_,rfl⟩;have HBK:=Hd hbk;have HNK:=Hd (HN.out.later hbk);have HKK:=Hd (HK.out.trans (HN.out.keepB hbk) (λ_ q=>q));have HLK:=Hd (HLR.out.kept (w':=wk) (λk _ _ hk _=>hbk.block k (HN.out.lt hk)));clear hbk e2 e3;obtain ⟨SN,hSN⟩:∃SN,SN=(if d2=false∧m.height=h2∧m.to=1 - min (i:Int) 1 then SJ.note m else SJ):=⟨_,rfl⟩;have HSN:=Hd hSN;have HSN2:=Hd (show SN.ss=SJ.ss∧SN.q=SJ.q∧SN.fates=SJ.fates∧SN.now=SJ.now from by rw [hSN];split <;> exact ⟨rfl,rfl,rfl,rfl⟩);clear hSN;go_upto_if 112 with (fail)
    go_cut [] from 113 to 118 (λwc=>Z0q base w1 nb gn nc cur xs SN A3 wc∧Z0d A3 wk wc)
    case first=>
     rcases b15 with _ | _
     ·have HE:=Hd (show SN=SJ from by
       have:=of_decide_eq_false HB15.out.symm;rw [HMI.out] at this;rw [HSN.out,if_neg this])
      go_wp2_with fail
      go_meet;exact ⟨by rw [HE.out];exact HNK.out,Z0d.refl _ _⟩
     have HE:=Hd (show SN=SJ.note m from by
      have:=of_decide_eq_true HB15.out.symm;rw [HMI.out] at this;rw [HSN.out,if_pos this])
     have NT:=Hd (HNK.out.note m lo lc (by have:=HCJ.out.cs;omega));have e0:=HCE.out wk HBK.out 0 _ rfl;have e1:=HCE.out wk HBK.out 1 _ rfl;have e2:=HCE.out wk HBK.out 2 _ rfl;have e3:=HCE.out wk HBK.out 3 _ rfl;have e4:=HCE.out wk HBK.out 4 _ rfl;have e5:=HCE.out wk HBK.out 5 _ rfl;have e6:=HCE.out wk HBK.out 6 _ rfl;have e7:=HCE.out wk HBK.out 7 _ rfl;simp only [Nat.add_zero] at e0;unfold iv at e0 e1 e2 e3 e4 e5;unfold Z0l iv pv at NT;go_wp2_with (go_at_call 28;(with_reducible refine NT.out.mono ?_);rintro e w8 ⟨rfl,hn8,hk8⟩;have HN8:=Hd hn8;have HK8:=Hd hk8;clear hn8 hk8)
     go_meet;exact ⟨by rw [HE.out];exact HN8.out,HK8.out⟩
    case rest=>
    obtain ⟨hn9,hk9⟩:=hcut;obtain ⟨w9,rfl⟩:∃w9:World,w9=wc:=⟨_,rfl⟩;have HN9:=Hd hn9;have HK9:=Hd hk9;have HK9T:=Hd (HKK.out.trans hk9 (λ_ q=>q));have HL9:=Hd (HLK.out.kept (w':=w9) (λk _ _ hk _=>hk9.2 k hk));have HC9:=Hd (show ∀W2,Below w9.heap.size w9 W2->∀(k:Nat) (u:Value),(Z0l m (.slice lo m.list.length lc)).toList[k]?=some u->W2.cell? ⟨b,off+j * 8+k,none⟩=some u from λW2 hW k u hu=>by
     rw [World.cell?_of_block (w:=wk) (w':=W2) (a:=⟨b,off+j * 8+k,none⟩) ((hW.block b (Nat.lt_of_lt_of_le (HNK.out.lt HBA3.out) hk9.1)).trans (hk9.2 b HBA3.out))];exact HCE.out wk HBK.out k u hu)
    clear hn9 hk9;have e2:=HC9.out w9 (Below.refl _ _) 2 _ rfl;unfold iv at e2;have n2:=HN9.out.cells.2.2.1;rw [<-HXL.out] at n2;have d0:decide (0<=m.to)=true:=decide_eq_true HOMM.out.t0;obtain ⟨b17,hb17⟩:∃b17,b17=decide (m.to<(xl:Int)):=⟨_,rfl⟩;have HB17:=Hd hb17;have HNX2:=Hd (show SJ.put d2 h2 i m=if b17=true then SN.send m else SN from by
     unfold Z0g.put;simp only;rw [<-HSN.out,hb17];by_cases q:m.to<(xl:Int)
     ·rw [if_pos ⟨HOMM.out.t0,by rw [HSL.out,<-HX.out.len,<-HXL.out];exact q⟩,if_pos (decide_eq_true q)]
     rw [if_neg (λc=>q (by have:=c.2;rw [HSL.out,<-HX.out.len,<-HXL.out] at this;exact this)),if_neg (by simpa using q)])
    clear hb17;go_upto_region 17 with (fail)
    go_cut [137] from 119 to 137 (λt wc=>t = .bool b17∧Below w9.heap.size w9 wc)
    case first=>
     have hb17:=HB17.out.symm;rcases b17 with _ | _
     ·go_quiet (fail)
      go_wp2
      go_meet;exact ⟨rfl,below_drewN (Below.refl _ _) _⟩
     go_quiet (fail)
     go_wp2
     go_meet;exact ⟨rfl,below_drewN (Below.refl _ _) _⟩
    case rest=>
    obtain ⟨rfl,hbs⟩:=hcut;obtain ⟨ws,rfl⟩:∃ws:World,ws=wc:=⟨_,rfl⟩;have HNS:=Hd (HN9.out.later hbs);have HKS:=Hd (HK9T.out.trans (HN9.out.keepB hbs) (λ_ q=>q));rcases b17 with _ | _
    ·go_wp2_with fail
     go_roundw
     case rel=>exact ⟨j+1,by omega,by go_num,by rw [HNE.out,HNX2.out];exact HNS.out,HKS.out⟩
     case measure=>simp [intOf];omega
    have SD:=Hd (HNS.out.send (m:=m) (ao:=lo) (cap:=lc) (HL9.out.kept (w':=ws) (λk _ _ hk _=>hbs.block k (HN9.out.lt hk))) (by rw [HSN2.out.2.1];have:=HCJ.out.q;omega) (by rw [HSN2.out.2.2.1];exact HCJ.out.f) (by rw [HSN2.out.2.2.1];exact HCJ.out.fr) (by rw [HSN2.out.2.2.2];exact HCJ.out.n0) (by rw [HSN2.out.2.2.2];exact HCJ.out.n1));have e0:=HC9.out ws hbs 0 _ rfl;have e1:=HC9.out ws hbs 1 _ rfl;have e2:=HC9.out ws hbs 2 _ rfl;have e3:=HC9.out ws hbs 3 _ rfl;have e4:=HC9.out ws hbs 4 _ rfl;have e5:=HC9.out ws hbs 5 _ rfl;have e6:=HC9.out ws hbs 6 _ rfl;have e7:=HC9.out ws hbs 7 _ rfl;simp only [Nat.add_zero] at e0;unfold iv at e0 e1 e2 e3 e4 e5;unfold Z0l iv pv at SD;clear n2 hbs;go_wp2_with (go_at_call 161;(with_reducible refine SD.out.mono ?_);rintro e w8 ⟨rfl,hn8,hk8⟩;have HN8:=Hd hn8;have HK8:=Hd hk8;clear hn8 hk8)
    go_roundw
    case rel=>exact ⟨j+1,by omega,by go_num,by rw [HNE.out,HNX2.out];exact HN8.out,HKS.out.trans HK8.out (λ_ q=>q)⟩
    case measure=>simp [intOf];omega
   have j1:¬(j:Int)<(lm:Int):=by omega
   have HEND:=Hd (show Z0q base w1 nb gn nc cur xs (st.tickS i s) A wr∧Z0d A W wr from by
    have e:ms.take j=ms:=List.take_of_length_le (by rw [<-HLM.out];omega);have h1:=HN.out;rw [e,<-HTS.out] at h1;have s12:∀k,A k->A2 k:=λk hk=>by rw [HA2.out];exact .inl hk
    exact ⟨h1.less (λk hk=>HA3.out k (s12 k hk)),HKA.out.trans ((HK6.out.trans HK7.out (λ_ q=>q)).trans HK.out (λk q=>HA3.out k q)) s12⟩)
   go_wp2_with fail
   refine bodyPost_end (results_none rfl _ _ _) rfl ?_;exact ⟨rfl,HEND.out⟩
end
end
section
open Go.RowKit
structure Lim (st:Z0g) (K T G:Nat):Prop where
 cap:Cap st K
 tk:∀s∈st.ss,s.ticks<=(T:Int)
 ht:∀s∈st.ss,s.height<=(G:Int)
 l0:0<=st.last
 l1:st.last<=(G:Int)
theorem Lim.mono {st:Z0g} {K T G K' T' G':Nat} (h:Lim st K T G) (a:K<=K') (b:T<=T') (c:G<=G'):Lim st K' T' G':=
 ⟨h.cap.mono a,λs hs=>by have:=h.tk s hs;omega,λs hs=>by have:=h.ht s hs;omega,h.l0,by have:=h.l1;omega⟩
theorem Zn1 {dec:Bool} {h:Int} {i:Nat}:∀(ms:List Z0k) (w:Z0g),(ms.foldl (Z0g.put dec h i) w).ss=w.ss∧(ms.foldl (Z0g.put dec h i) w).n=w.n∧(ms.foldl (Z0g.put dec h i) w).last=w.last∧(ms.foldl (Z0g.put dec h i) w).now=w.now
 | [],w=>⟨rfl,rfl,rfl,rfl⟩
 | m :: ms,w=>by
  obtain ⟨a,b,c,d⟩:=Zn1 (dec:=dec) (h:=h) (i:=i) ms (w.put dec h i m);obtain ⟨e,f,g,k⟩:=w.put_ss dec h i m;rw [List.foldl_cons];exact ⟨a.trans e,b.trans f,c.trans g,d.trans k⟩
theorem Zfc (last:Int) (i:Nat) (s:StB):(Z1s last i s).height=s.height∨(Z1s last i s).height<=last:=by
 have h:=(Z7k s s.asked.length).1;rw [Zd0 s rfl] at h;unfold Z1s Zbe;split
 ·rename_i q
  unfold NS.begin;split
  ·exact .inl h
  split
  ·exact .inl h
  split
  ·right
   show (Z2n s s.asked).height+1<=last;omega
  exact .inl h
 exact .inl h
theorem Zd1 (w:Z0g) (i:Nat) (s:StB):(w.tickS i s).ss=w.ss.set i (Z1s w.last i s).tick.1∧(w.tickS i s).n=w.n∧(w.tickS i s).last=w.last∧(w.tickS i s).now=w.now:=by
 unfold Z0g.tickS;exact Zn1 _ _
theorem Lim.tickS {st:Z0g} {K T G:Nat} (h:Lim st K T G) {i:Nat} {s:StB} (hs:st.ss[i]?=some s) (hf:Fit GB (Z1s st.last i s)):Lim (st.tickS i s) (K+8000) (T+1) G:=by
 obtain ⟨e1,e2,e3,e4⟩:=Zd1 st i s;have hm:=List.mem_of_getElem? hs;have hk:=Z38 hf.ok.inv;refine ⟨?_,λt ht=>?_,λt ht=>?_,by rw [e3];exact h.l0,by rw [e3];exact h.l1⟩
 ·unfold Z0g.tickS;exact (Cap.puts _ (h.cap.set i _)).mono (by have:=Zf9 hf;omega)
 ·rw [e1] at ht;rcases List.mem_or_eq_of_mem_set ht with q | rfl
  ·have:=h.tk t q;omega
  have h1:=hk.ticks;have h2:=h.tk s hm;rcases Za6 st.last i s with q | q <;> omega
 rw [e1] at ht;rcases List.mem_or_eq_of_mem_set ht with q | rfl
 ·exact h.ht t q
 rw [hk.height];have h2:=h.ht s hm;have h3:=h.l1;rcases Zfc st.last i s with q | q <;> omega
theorem Za7 {P:StB->Prop} (hP:∀s m,P s->P (s.receive m (Z04 m))):∀(l:List (Z0k×Int)) (ss:List StB),(∀s∈ss,P s)->∀s∈l.foldl (λss p=>Z9v ss p.1) ss,P s
 | [],_,h=>h
 | p :: l,ss,h=>by
  rw [List.foldl_cons];refine Za7 hP l _ (λs hs=>?_);unfold Z9v at hs;split at hs
  ·rename_i t ht
   rcases List.mem_or_eq_of_mem_set hs with q | rfl
   ·exact h s q
   exact hP t _ (h t (List.mem_of_getElem? ht))
  exact h s hs
theorem Lim.deliver {st:Z0g} {K T G:Nat} (h:Lim st K T G):Lim st.deliver K T G:=
 ⟨⟨Nat.le_trans (List.length_filter_le _ _) h.cap.q,h.cap.cs,h.cap.f,h.cap.fr,h.cap.n0,h.cap.n1⟩,
  Za7 (P:=λs=>s.ticks<=(T:Int)) (λs m q=>by rw [Z7g];exact q) _ _ h.tk,
  Za7 (P:=λs=>s.height<=(G:Int)) (λs m q=>by rw [(Z3r s m (Z04 m)).1];exact q) _ _ h.ht,h.l0,h.l1⟩
theorem Lim.later {st:Z0g} {K T G:Nat} (h:Lim st K T G) {t:Int} (h0:0<=t) (h1:t<=1000000000000):Lim {st with now:=t} K T G:=
 ⟨⟨h.cap.q,h.cap.cs,h.cap.f,h.cap.fr,h0,h1⟩,h.tk,h.ht,h.l0,h.l1⟩
def Z2i (H F N:Nat) (st:Z0g):Prop:=∃V E,AgN H F N V E st
structure Num (H F N:Nat):Prop where
 h3:2 * F<H
 hN:N=H+F
 hf:Z03 (N:Int)=(F:Int)
 n4:4<=N
 n7:N<=7
section
variable {H F N:Nat} {st:Z0g} {K T G:Nat}
theorem Z2i.tick (n:Num H F N) (g:Z2i H F N st) (i:Nat):Z2i H F N (st.tick i):=by
 obtain ⟨V,E,a⟩:=g;exact a.tick n.h3 n.hN n.hf i
theorem Z2i.deliver (g:Z2i H F N st):Z2i H F N st.deliver:=by
 obtain ⟨V,E,a⟩:=g;exact ⟨V,E,a.deliver⟩
theorem Z2i.later (g:Z2i H F N st) (t:Int):Z2i H F N {st with now:=t}:=by
 obtain ⟨V,E,a⟩:=g;exact ⟨V,E,a.later t⟩
theorem Z2i.len (g:Z2i H F N st):st.ss.length=H:=by
 obtain ⟨V,E,a⟩:=g;exact a.len
theorem Z2i.ready (n:Num H F N) (g:Z2i H F N st) {i:Nat} {s:StB} (hs:st.ss[i]?=some s):Fit GB (Z1s st.last i s):=by
 obtain ⟨V,E,a⟩:=g;have hi:i<H:=by rw [<-a.len];exact (List.getElem?_eq_some_iff.1 hs).1
 exact ((a.ready hi hs).nodeAt (st.set_get (by rw [a.len];exact hi))).fit
theorem Z2i.ticks (n:Num H F N) (g:Z2i H F N st):∀k,Z2i H F N (st.ticks k)
 | 0=>g
 | k+1=>(g.ticks n k).tick n k
theorem Lim.tick (n:Num H F N) (g:Z2i H F N st) (h:Lim st K T G) (i:Nat):Lim (st.tick i) (K+8000) (T+1) G:=by
 unfold Z0g.tick;rcases hs:st.ss[i]? with _ | s
 ·exact h.mono (by omega) (by omega) (Nat.le_refl _)
 exact h.tickS hs (g.ready n hs)
theorem Lim.ticks (n:Num H F N) (g:Z2i H F N st) (h:Lim st K T G):∀k,Lim (st.ticks k) (K+8000 * k) (T+k) G
 | 0=>h
 | k+1=>by
  have:=(h.ticks n g k).tick n (g.ticks n k) k;exact this.mono (by omega) (by omega) (Nat.le_refl _)
theorem Z2i.all (n:Num H F N) (g:Z2i H F N st):Z2i H F N st.all:=(g.later (st.now+1)).deliver.ticks n _
theorem Lim.all (n:Num H F N) (g:Z2i H F N st) (h:Lim st K T G) (hn:st.now+1<=1000000000000):Lim st.all (K+64000) (T+8) G:=by
 have h1:=(h.later (t:=st.now+1) (by have:=h.cap.n0;omega) hn).deliver;have g1:=(g.later (st.now+1)).deliver;have hl:({st with now:=st.now+1}:Z0g).deliver.ss.length<=8:=by rw [g1.len];have:=n.hN;have:=n.n7;omega
 exact (h1.ticks n g1 _).mono (by omega) (by omega) (Nat.le_refl _)
theorem Za8 (st:Z0g):∀k,(st.ticks k).now=st.now∧(st.ticks k).last=st.last∧(st.ticks k).n=st.n∧(st.ticks k).ss.length=st.ss.length
 | 0=>⟨rfl,rfl,rfl,rfl⟩
 | k+1=>by
  obtain ⟨a,b,c,d⟩:=Za8 st k;show ((st.ticks k).tick k).now=_∧((st.ticks k).tick k).last=_∧((st.ticks k).tick k).n=_∧((st.ticks k).tick k).ss.length=_;unfold Z0g.tick;rcases (st.ticks k).ss[k]? with _ | s
  ·exact ⟨a,b,c,d⟩
  obtain ⟨e,f,g,h⟩:=Zd1 (st.ticks k) k s;exact ⟨h.trans a,g.trans b,f.trans c,by rw [e,List.length_set];exact d⟩
theorem Zrj (st:Z0g):st.all.now=st.now+1∧st.all.last=st.last∧st.all.n=st.n:=by
 obtain ⟨a,b,c,_⟩:=Za8 ({st with now:=st.now+1}:Z0g).deliver ({st with now:=st.now+1}:Z0g).deliver.ss.length;exact ⟨a,b,c⟩
end
section
variable {base:Nat} {w1 W W':World} {nb gn nc:Nat} {cur:Array Value} {xs:List Nat} {st:Z0g} {A B:Nat->Prop} {H F N K T G:Nat}
theorem Z0q.time (h:Z0q base w1 nb gn nc cur xs st A W) (t:Int):Z0q base w1 nb gn nc cur xs {st with now:=t} A (W.setCell ⟨nb,4,none⟩ (.int .i64 t))∧Z0d A W (W.setCell ⟨nb,4,none⟩ (.int .i64 t)):=by
 obtain ⟨Rs,qv,fv,cv,qs,h⟩:=h;have ho:∀(g:Nat) (cur:Array Value) (t2:Nat),W.heap[g]?=some (Obj.cells cur t2 (0,0))->t2≠50->(W.setCell ⟨nb,4,none⟩ (.int .i64 t)).heap[g]?=W.heap[g]?:=λg cur t2 hg hn=>Below.heap_setCell _ ⟨nb,4,none⟩ _ g (λe=>Z0p hg h.row hn e);obtain ⟨h1,h2⟩:=h.turn (B:=A) (W':=W.setCell ⟨nb,4,none⟩ (.int .i64 t)) (st':={st with now:=t}) (qv':=qv) (fv':=fv) (cv':=cv) (qs':=qs) (Chg.set _ nb 4 _ (.inl rfl)) (Z05 h.row _) rfl
  (Z09 h.que (λg cur _ hc=>ho g cur _ hc (by decide))) h.qst (λp hp=>.inl hp) (Z09 h.fat (λg cur _ hc=>ho g cur _ hc (by decide))) (Z09 h.cst (λg cur _ hc=>ho g cur _ hc (by decide))) (λk hk=>hk) (λk hk=>.inl hk)
 exact ⟨⟨Rs,qv,fv,cv,qs,h1⟩,h2⟩
theorem Z0q.frozen (h:Z0q base w1 nb gn nc cur xs st A W) (o:Nat):W.frozen? ⟨nb,o,none⟩=false:=by
 obtain ⟨qv,fv,cv,hr⟩:=h.row;exact frozen_of_row W nb o _ _ hr
theorem Z0q.deliver (h:Z0q base w1 nb gn nc cur xs st A W) (g:Z2i H F N st) (hc:Cap st K) (hK:K<=100000000000) :
  Calls Tryz.prog 102 #[pv nb] W λe w'=>e = .returned (.tuple #[])∧Z0q base w1 nb gn nc cur xs st.deliver A w'∧Z0d A W w':=by
 have hl:xs.length=H:=by rw [h.len];exact g.len
 obtain ⟨V,E,a⟩:=g;exact Zgz h (λp hp=>⟨⟨(a.q p hp).t0,by rw [hl];exact (a.q p hp).t1⟩,(a.q p hp).len,(a.q p hp).g⟩) (Nat.le_trans hc.q hK)
theorem Zrk (n:Num H F N) (h:Z0q base w1 nb gn nc cur xs st A W) (g:Z2i H F N st) (hL:Lim st K T G) (hK:K<=300000000) (hT:T<=100000000) (hG:G<=1000) (hn:st.now<=1000000000) :
  Calls Tryz.prog 56 #[pv nb] W λe w'=>e = .returned (.tuple #[])∧Z0q base w1 nb gn nc cur xs st.all A w'∧Z0d A W w':=by
 have HN:=Hd n;obtain ⟨t,ht⟩:∃t,t=st.now:=⟨_,rfl⟩;have t0:0<=t:=by rw [ht];exact hL.cap.n0
 have t9:t<=1000000000:=by rw [ht];exact hn
 have ew1:IntKind.wrap .i64 (t+1)=t+1:=by rw [IntKind.wrap_i64];omega
 have n4:=h.cells.2.2.2.2.1;rw [<-ht] at n4;have fz:=λo=>h.frozen o;obtain ⟨S1,hS1⟩:∃S1:Z0g,S1 = {st with now:=st.now+1}:=⟨_,rfl⟩;have HB1:=Hd (h.time (t+1));have HG1:=Hd (show Z2i H F N S1 from by rw [hS1];exact g.later _);have HL1:=Hd (show Lim S1 K T G from by rw [hS1];exact hL.later (by have:=hL.cap.n0;omega) (by omega));rw [ht,<-hS1] at HB1;rw [<-ht] at HB1;have HALL:=Hd (show st.all=S1.deliver.ticks S1.deliver.ss.length from by rw [hS1];rfl);have DL:=Hd (HB1.out.1.deliver HG1.out HL1.out.cap (by omega));obtain ⟨wd,hwd⟩:∃wd,wd=W.setCell ⟨nb,4,none⟩ (.int .i64 (t+1)):=⟨_,rfl⟩;obtain ⟨S2,hS2⟩:∃S2:Z0g,S2=S1.deliver:=⟨_,rfl⟩;have HG2:=Hd (show Z2i H F N S2 from by rw [hS2];exact HG1.out.deliver);have HL2:=Hd (show Lim S2 K T G from by rw [hS2];exact HL1.out.deliver);rw [<-hS2] at HALL DL;obtain ⟨xl,hxl⟩:∃xl,xl=xs.length:=⟨_,rfl⟩;have HXL:=Hd hxl;have xl8:(xl:Int)<=8:=by have:=h.h8;omega
 unfold pv at DL ⊢;rw [<-hwd] at DL;have HWD:=Hd hwd;clear h g hL hn hS1 hS2 ht n hxl hwd;go_enter Tryz.func56,Tryz.ntmps56
 go_upto_region 1 with (fail)
 rw [<-HWD.out];clear n4 fz;go_upto_region 2 with (go_at_call 102;(with_reducible refine DL.out.mono ?_);rintro e w2 ⟨rfl,hn2,hk2⟩;have HN2:=Hd hn2;have HK2:=Hd hk2;clear hn2 hk2)
 have HKW:=Hd (show Z0d A W w2 from by have:=HB1.out.2;rw [<-HWD.out] at this;exact this.trans HK2.out (λ_ q=>q));go_wp2_with fail
 go_loopw [2] (λkv wk=>∃j:Nat,j<=xl∧kv = .int .i64 (j:Int)∧Z0q base w1 nb gn nc cur xs (S2.ticks j) A wk∧Z0d A W wk) (λkv _=>xl - (intOf kv).toNat)
 case atStart=>exact ⟨0,Nat.zero_le _,rfl,HN2.out,HKW.out⟩
 case round=>
  obtain ⟨j,hj,rfl,hnx,hkp⟩:=hrel;have HNJ:=Hd hnx;have HKJ:=Hd hkp;have j0:(0:Int)<=(j:Int):=by omega
  have n2:=hnx.cells.2.2.1;rw [<-HXL.out] at n2;clear hnx hkp;by_cases hjl:j<xl
  ·have j1:(j:Int)<(xl:Int):=by omega
   obtain ⟨s,hs⟩:∃s,(S2.ticks j).ss[j]?=some s:=⟨_,List.getElem?_eq_getElem (by rw [<-HNJ.out.len,<-HXL.out];exact hjl)⟩;have LJ:=HL2.out.ticks HN.out HG2.out j;have hm:=List.mem_of_getElem? hs;have TK:=Hd (Zib HNJ.out hs (K:=K+64000) (LJ.cap.mono (by omega)) (by omega) (by have:=LJ.tk s hm;omega) (by have:=LJ.ht s hm;omega) LJ.l0 (by have:=LJ.l1;omega));have HE:=Hd (show (S2.ticks j).tickS j s=S2.ticks (j+1) from by
    show _=(S2.ticks j).tick j;unfold Z0g.tick;rw [hs])
   unfold pv at TK;clear LJ hm hs;go_wp2_with (go_at_call 103;(with_reducible refine TK.out.mono ?_);rintro e w4 ⟨rfl,hn4,hk4⟩;have HN4:=Hd hn4;have HK4:=Hd hk4;clear hn4 hk4)
   go_roundw
   case rel=>exact ⟨j+1,by omega,by go_num,by rw [<-HE.out];exact HN4.out,HKJ.out.trans HK4.out (λ_ q=>q)⟩
   case measure=>simp [intOf];omega
  have j1:¬(j:Int)<(xl:Int):=by omega
  have HEND:=Hd (show Z0q base w1 nb gn nc cur xs st.all A wr∧Z0d A W wr from by
   have e:S2.ss.length=j:=by
    have h1:=HNJ.out.len;rw [(Za8 S2 j).2.2.2] at h1;have:=HXL.out;omega
   rw [HALL.out,e];exact ⟨HNJ.out,HKJ.out⟩)
  go_wp2_with fail
  refine bodyPost_end (results_none rfl _ _ _) rfl ?_;exact ⟨rfl,HEND.out⟩
end
end
end Go.Proofs.YtifcdjmcoibblaaGreatDoor
