/- Asd Ntx -/
import Derived.Test.YtifcdjmcoibblaaGreatDoorAq40
set_option linter.unusedVariables false
set_option linter.unusedSimpArgs false
set_option linter.unusedSectionVars false
set_option maxRecDepth 100000
set_option maxHeartbeats 80000000
namespace Go.Proofs.YtifcdjmcoibblaaGreatDoor
section
open Go.RowKit
theorem Tryz.infoSS:(Tryz.prog.info? 30).map (λi=>(i.zero,i.size,i.bytes))=some (some (.slice none 0 0),1,24):=by kernel_rfl
section
variable {D L:Type} [Dg D]
theorem Z3s (props:List (Int×Msg D L)):∀(ks:List Int) (a b:List D),(∀d,d∈a↔d∈b)->Z28 props ks a=Z28 props ks b
 | [],_,_,_=>rfl
 | r :: ks,a,b,h=>by
  unfold Z28;rcases Z02 r props with _ | m
  ·exact Z3s props ks a b h
  simp only;by_cases hm:m.dig∈a
  ·rw [if_pos hm,if_pos ((h _).1 hm)];exact Z3s props ks a b h
  rw [if_neg hm,if_neg (λq=>hm ((h _).2 q))];rw [Z3s props ks (m.dig :: a) (m.dig :: b) (λd=>by simp [h d])]
end
def Zgv (w W:World) (v:Value) (ls:List (List ByteArray)):Prop:=∃sls,All2 (λu l=>Z0a (New w W) W u l) sls ls∧W.ownsRow w.heap.size 30 1 v ls.length sls
theorem Zgv.nil (w W:World):Zgv w W (.slice none 0 0) []:=⟨[],.nil,World.ownsRow_nil _ _ _ _⟩
theorem Zgv.later {w W W':World} {v:Value} {ls:List (List ByteArray)} (h:Zgv w W v ls) (hb:Below W.heap.size W W'):Zgv w W' v ls:=by
 obtain ⟨sls,h1,h2⟩:=h;exact ⟨sls,h1.mono (λa b q=>(q.kept (λg cur fr hr _=>hb.block g hr.2)).mono (λk hk=>⟨hk.1,Nat.lt_of_lt_of_le hk.2 hb.size⟩)),Z07 h2 (λg _ hl=>hb.block g hl)⟩
theorem Zbf {w W:World} {v:Value} {ls:List (List ByteArray)} (h:Zgv w W v ls):∃ao cap,v = .slice ao ls.length cap:=by
 obtain ⟨sls,h1,h2⟩:=h;rcases h2.2 with ⟨e,h0⟩ | ⟨g,c,_,e,_⟩
 ·exact ⟨none,0,by rw [e,h0]⟩
 exact ⟨_,_,e⟩
theorem All2.same {α β:Type} {r:α->β->Prop} {l:List α} {m:List β} (h:All2 r l m):∀(q:Nat) a b,l[q]?=some a->m[q]?=some b->r a b:=by
 induction h with
 | nil=>intro q a b h1;simp at h1
 | cons h1 _ ih=>
  intro q a b e1 e2;cases q with
  | zero=>
   simp at e1 e2;subst e1 e2;exact h1
  | succ q=>exact ih q a b (by simpa using e1) (by simpa using e2)
theorem Zgv.nth {w W:World} {ao:Option Addr} {n cap:Nat} {ls:List (List ByteArray)} (h:Zgv w W (.slice ao n cap) ls) {q:Nat} {l:List ByteArray} (hq:ls[q]?=some l) :
  ∃g u,ao=some ⟨g,0,none⟩∧W.cell? ⟨g,q,none⟩=some u∧Z0a (New w W) W u l∧w.heap.size<=g∧g<W.heap.size:=by
 obtain ⟨sls,h1,h2⟩:=h;have hl:=(List.getElem?_eq_some_iff.1 hq).1;have hs:q<sls.length:=by rw [h1.len];exact hl
 rcases h2.2 with ⟨e,h0⟩ | ⟨g,c2,cur,e,hb,hg,_,_,_,ht⟩
 ·omega
 injection e with e1 e2 e3
 refine ⟨g,sls[q],e1,?_,?_,hb,(gE hg).1⟩
 ·have h3:(cur.toList.take (ls.length * 1))[q]?=some sls[q]:=by rw [ht];exact List.getElem?_eq_getElem hs
  rw [List.getElem?_take_of_lt (by omega),Array.getElem?_toList] at h3;rw [cell_of_row W g q cur _ _ hg];exact h3
 exact h1.same q _ _ (List.getElem?_eq_getElem hs) hq
theorem Zmq {w wr wb w5 wz w6:World} {v v5 v6:Value} {sb:Nat} {ls:List (List ByteArray)} {l:List ByteArray} {sls:List Value}
  (hA:All2 (λu l=>Z0a (New w wr) wr u l) sls ls) (hown:wr.ownsRow w.heap.size 30 1 v ls.length sls) (h5:Z0a (New wb w5) w5 v5 l) (h0:w.heap.size<=wr.heap.size) (hb:wr.heap.size<=wb.heap.size) (hs5:wb.heap.size<=w5.heap.size) (hz:w5.heap.size<=wz.heap.size)
  (hsb:∃es clk,wr.heap[sb]?=some (.map es clk)) (hk:∀k,k<wr.heap.size->k≠sb->wz.heap[k]?=wr.heap[k]?) (hk5:∀k,k<w5.heap.size->wz.heap[k]?=w5.heap[k]?)
  (own6:w6.ownsRow w.heap.size 30 1 v6 (ls.length+1) (sls ++ [v5])) (gr:wz.grownBy w6 v.ownBlock):Zgv w w6 v6 (ls ++ [l]):=by
 have hg6:=gr.size;have hvb:∀g,v.ownBlock=some g->g<wr.heap.size∧∃cur,wr.heap[g]?=some (.cells cur 30 (0,0)):=λg hg=>by
  rcases hown.2 with ⟨e,_⟩ | ⟨g2,c2,cur,e,_,hg2,_⟩
  ·rw [e] at hg;simp [Value.ownBlock] at hg
  rw [e] at hg;have:g2=g:=by simpa [Value.ownBlock] using hg
  subst this;exact ⟨(gE hg2).1,cur,hg2⟩
 refine ⟨sls ++ [v5],All2.app (hA.mono (λa b q=>(q.kept (λg cur fr hr hc=>?_)).mono (λk hk=>⟨hk.1,by have:=hk.2;omega⟩))) (.cons ((h5.kept (λg cur fr hr hc=>?_)).mono (λk hk=>⟨by have:=hk.1;omega,by have:=hk.2;omega⟩)) .nil),by simpa using own6⟩
 ·have hne:g≠sb:=λe=>by
   obtain ⟨es,clk,hm⟩:=hsb;rw [e,hm] at hc;cases hc
  rw [gr.block g (by have:=hr.2;omega) (λe=>by
   obtain ⟨_,cur2,h2⟩:=hvb g e.symm;rw [h2] at hc;injection hc with hc
   injection hc with _ hc _
   exact absurd hc (by decide))]
  exact hk g hr.2 hne
 rw [gr.block g (by have:=hr.2;omega) (λe=>by
  have:=(hvb g e.symm).1;have:=hr.1;omega)]
 exact hk5 g hr.2
theorem Zmr {R:Nat->Prop} {w:World} {x:Nat} {p:Ptr} {s:StB} (h:Z00 R w x p s) (hpl:s.props.length<=1000) (hll:∀k m,Z02 k s.props=some m->m.list.length<=1000) :
  Calls Tryz.prog 38 #[pv x] w λe w'=>(∃v,e = .returned v∧Zgv w w' v s.asked)∧Below w.heap.size w w':=by
 have H:=Hd h;have HLL:=Hd hll;obtain ⟨dn,hdn⟩:∃dn,dn=s.isDec s.height:=⟨_,rfl⟩;have IS:=Hd (Z1a h s.height);rw [<-hdn] at IS;have HDN:=Hd hdn;have c0:=h.nc.c0;have hfz:=h.nc.fz;unfold pv at IS;unfold iv at IS;obtain ⟨ks,hks⟩:∃ks,ks=Z2h (s.props.map (·.1)):=⟨_,rfl⟩;have HKS:=Hd hks;obtain ⟨nk,hnk⟩:∃nk,nk=ks.length:=⟨_,rfl⟩;have HNK:=Hd hnk;have nk0:(0:Int)<=(nk:Int):=by omega
 have hkl:ks.length=s.props.length:=by rw [hks,Z3b];simp
 have nk9:(nk:Int)<=1000:=by omega
 obtain ⟨L,hL,hA⟩:=h.maps.props;have HPL:=Hd hL;obtain ⟨lv,hlv,hlk⟩:∃lv:List (Int×Value),L=lv.map Z9w∧lv.map (·.1)=s.props.map (·.1):=by
  clear hL HPL IS H HLL hnk hkl hks hpl hll h HKS HNK;generalize s.props=ps at hA;induction hA with
  | nil=>exact ⟨[],rfl,rfl⟩
  | cons h1 _ ih=>
   obtain ⟨lv,e1,e2⟩:=ih;rename_i a b la lb _
   exact ⟨(b.1,a.2) :: lv,by rw [List.map_cons,<-e1];unfold Z9w;rw [show (Value.int .i64 b.1)=a.1 from h1.1.symm],by rw [List.map_cons,List.map_cons,e2]⟩
 have HLV:=Hd hlk;rw [hlv] at HPL;have SRK:=Hd (λW bx (hm:Z01 W p.props (lv.map Z9w)) (hb:W.cell? ⟨bx,0,none⟩=some (.map (some p.props)))=>(callsIn_wide.1 (Zgu 5 bx p.props lv W (by
   have:=congrArg List.length hlk;rw [List.length_map,List.length_map] at this;omega) hm hb)).mono (λe w' q=>show ∃v,e = .returned v∧w'.ownsRow W.heap.size 3 1 v nk (ks.map (Value.int .i64))∧Below W.heap.size W w' from by
    have e1:lv.length=nk:=by
     have:=congrArg List.length hlk;rw [List.length_map,List.length_map] at this;omega
    rw [hks,<-hlk,<-e1];exact q))
 clear hL hA hlv hlk hks hnk hkl hpl hll h hdn;unfold pv;go_enter Tryz.func38,Tryz.ntmps38
 go_upto_region 1 with (fail)
 go_cut [17] (λt wc=>t = .bool dn∧Below w.heap.size w wc)
 case first=>
  go_wp2_with (go_at_call 63;(with_reducible refine IS.out.mono ?_);rintro e w1 ⟨rfl,hb1⟩;have HB1:=Hd hb1;clear hb1)
  go_meet;exact ⟨rfl,HB1.out⟩
 case rest=>
 obtain ⟨rfl,hb1⟩:=hcut;obtain ⟨w1,rfl⟩:∃w1:World,w1=wc:=⟨_,rfl⟩;have HB1:=Hd hb1;clear hb1 IS c0;rcases dn with _ | _
 ·have HAS:=Hd (show s.asked=Z28 s.props ks s.acc from by unfold NS.asked;rw [<-HDN.out,HKS.out];rfl);have N1:=Hd (H.out.below HB1.out);have c8:=N1.out.nc.c8;have CL:=Hd (Zjt N1.out.maps.acc);unfold pv at *;go_upto_region 4 with (go_at_call 82;(with_reducible refine CL.out.mono ?_);rintro e w2 ⟨rfl,hm2,hb2⟩;have HM2:=Hd hm2;have HB2':=Hd hb2;clear hm2 hb2)
  obtain ⟨sb,hsb⟩:∃sb,sb=w1.heap.size:=⟨_,rfl⟩;have HSB:=Hd (show w.heap.size<=sb from by rw [hsb];exact HB1.out.size);have HB2:=Hd (HB1.out.trans (HB2'.out.mono HB1.out.size));rw [<-hsb] at HM2 ⊢;clear hsb c8 CL;have N2:=Hd (H.out.below HB2.out);have c9:=N2.out.nc.c9;have MM:=Hd (show Z01 (w2.alloc (.cells #[.map (some p.props)] 110)) p.props (lv.map Z9w) from HPL.out.kept ((HB2.out.alloc HB2.out.size _).block p.props HPL.out.lt));go_upto_region 5 with (first
   | (go_at_call 84;refine (Zmo p.props _).mono ?_;rintro e w3 ⟨rfl,rfl⟩)
   | (go_at_call 83;go_loud (refine (SRK.out _ _ MM.out (Z0c _ _ _ _ _ rfl _ rfl)).mono ?_;rintro e w3 ⟨kv,rfl,hrow,hbl⟩;have HRW:=Hd hrow;have HBL:=Hd hbl;obtain ⟨kao,kcap,rfl,_,_⟩:=Z0n (enc:=Z5y) (l:=ks) Z4c (by decide) (by rw [Zcm];exact hrow);rw [<-HNK.out] at HRW ⊢;clear hrow hbl)))
  have HB3:=Hd (show Below w.heap.size w w3 from (HB2.out.alloc HB2.out.size _).trans (HBL.out.mono (by have:=HB2.out.size;simp;omega)));have HM3:=Hd (show Z01 w3 sb (s.acc.map Z63) from (HM2.out.kept (Below.heap_alloc _ _ _ HM2.out.lt)).kept (HBL.out.block sb (by have:=HM2.out.lt;simp;omega)));have HS3:=Hd (show sb<w3.heap.size from HM3.out.lt);have HKC:=Hd (show ∀j k,ks[j]?=some k->∃g,kao=some ⟨g,0,none⟩∧g<w3.heap.size∧(∃cur,w3.heap[g]?=some (.cells cur 3 (0,0)))∧w3.cell? ⟨g,j,none⟩=some (.int .i64 k) from λj k hj=>by
   have hl:=(List.getElem?_eq_some_iff.1 hj).1;rcases HRW.out.2 with ⟨e,h0⟩ | ⟨g,c2,cur,e,hb,hg,_,_,_,ht⟩
   ·rw [<-HNK.out] at hl;omega
   injection e with e1 e2 e3
   refine ⟨g,e1,(gE hg).1,⟨cur,hg⟩,?_⟩;have h3:(cur.toList.take (nk * 1))[j]?=some (.int .i64 k):=by rw [ht,List.getElem?_map,hj];rfl
   rw [List.getElem?_take_of_lt (by rw [HNK.out];omega),Array.getElem?_toList] at h3;rw [cell_of_row w3 g j cur _ _ hg];exact h3)
  clear c9 MM HRW HBL SRK N2 HM2 N1 HB2' HB2;go_wp2_with fail
  go_loopw [32,2] (λiv ov wr=>∃(j:Nat) (sd:List ByteArray) (outl:List (List ByteArray)),j<=nk∧iv = .int .i64 (j:Int)∧Z01 wr sb (sd.map Z63)∧Zgv w wr ov outl∧outl.length<=j∧Chg (λk=>w.heap.size<=k) w3 wr∧(∀g,kao=some ⟨g,0,none⟩->wr.heap[g]?=w3.heap[g]?)∧(∀g,ov.ownBlock=some g->g≠sb)∧Z28 s.props ks s.acc=outl ++ Z28 s.props (ks.drop j) sd) (λiv _ _=>nk - (intOf iv).toNat)
  case atStart=>exact ⟨0,s.acc,[],Nat.zero_le _,rfl,HM3.out,Zgv.nil _ _,Nat.zero_le _,Chg.refl _ _,λ_ _=>rfl,λg hg=>by simp [Value.ownBlock] at hg,rfl⟩
  case round=>
   obtain ⟨j,sd,outl,hj,rfl,hsd,hro,hol,hch,hkk,hob,heq⟩:=hrel;obtain ⟨oao,ocap,rfl⟩:=Zbf hro;have j0:(0:Int)<=(j:Int):=by omega
   have HBR:=Hd (HB3.out.trans (hch.below HB3.out.size (λk hk=>hk)));have HSD:=Hd hsd;have HRO:=Hd hro;have HOL:=Hd hol;have HCH:=Hd hch;have HKK:=Hd hkk;have HOB:=Hd hob;have HEQ:=Hd heq;clear hsd hro hol hch hkk hob heq;by_cases hjn:j<nk
   ·have j1:(j:Int)<(nk:Int):=by omega
    obtain ⟨r,hr⟩:∃r,ks[j]?=some r:=⟨ks[j]'(by rw [<-HNK.out];exact hjn),List.getElem?_eq_getElem _⟩;obtain ⟨g,rfl,hgl,⟨gcur,hgc⟩,hkc⟩:=HKC.out j r hr;have HDR:=Hd (show ks.drop j=r :: ks.drop (j+1) from by
     obtain ⟨h1,h2⟩:=List.getElem?_eq_some_iff.1 hr;rw [List.drop_eq_getElem_cons h1,h2])
    have HGW:=Hd (HKK.out g rfl);have HGI:=Hd hgc;rw [<-World.cell?_of_block (w:=w3) (w':=wr) (a:=⟨g,j,none⟩) HGW.out] at hkc;have NR:=Hd (H.out.below HBR.out);obtain ⟨m,hgm⟩:∃m,Z02 r s.props=some m:=by
     rcases e:Z02 r s.props with _ | m
     ·rw [Z6p] at e;refine absurd (Z9k (l:=s.props.map (·.1)) ?_) e;rw [<-HKS.out];exact List.mem_of_getElem? hr
     exact ⟨m,rfl⟩
    have HGM:=Hd hgm;obtain ⟨vm,hvm,hlk⟩:∃v,Z8d R wr v m∧(Instr.lookup 110 (.map (some p.props)) (.int .i64 r) false).run Tryz.prog wr = .ok v wr:=by
     rcases NR.out.maps.look_props r false with ⟨e,_⟩ | ⟨u,v,e,hv,hl⟩
     ·rw [hgm] at e;cases e
     rw [hgm] at e;cases e;exact ⟨v,hv,hl⟩
    obtain ⟨sl,rfl,mao,mcap,rfl,hcp,hrw⟩:=hvm;have HLR:=Hd (show Z0a R wr (.slice mao m.list.length mcap) m.list from ⟨mao,mcap,rfl,hcp,hrw⟩);have c9:=NR.out.nc.c9;unfold Z0l iv at hlk;clear hr hgm hcp hrw hgc;go_upto_region 8 with (fail)
    obtain ⟨mb,hmb⟩:∃mb,mb=wr.heap.size:=⟨_,rfl⟩;obtain ⟨wa,hwa⟩:∃wa,wa=wr.alloc (.cells #[.int .i64 m.kind,.int .i64 m.frm,.int .i64 m.to,.int .i64 m.height,.int .i64 m.round,.int .i64 m.valid,.string m.dig,.slice mao m.list.length mcap] 36):=⟨_,rfl⟩;have HRA:=Hd (show wa.heap[mb]?=some (.cells #[.int .i64 m.kind,.int .i64 m.frm,.int .i64 m.to,.int .i64 m.height,.int .i64 m.round,.int .i64 m.valid,.string m.dig,.slice mao m.list.length mcap] 36 (0,0)) from by rw [hwa,hmb];exact World.alloc_heap_new wr _);have HBA:=Hd (show Below wr.heap.size wr wa from by rw [hwa];exact (Below.refl _ wr).alloc (Nat.le_refl _) _);have HMB:=Hd (show wr.heap.size<=mb∧mb<wa.heap.size from ⟨Nat.le_of_eq hmb.symm,(gE HRA.out).1⟩);rw [<-hmb,<-hwa];clear hmb hwa hkc hlk c9;obtain ⟨c0,c1,c2,c3,c4,c5,c6,c7,fz⟩:=Z1y.of HRA.out;have HSL:=Hd (show sb<wr.heap.size from HSD.out.lt);have HSA:=Hd (show Z01 wa sb (sd.map Z63) from HSD.out.kept (HBA.out.block sb HSL.out));have hls:(Instr.lookup 109 (.map (some sb)) (.string m.dig) false).run Tryz.prog wa = .ok (.bool (Zaw m.dig sd)) wa:=by
     have:=HSA.out.lookup (P:=Tryz.prog) Zpn Tryz.underlying109 (Z6w wa _) ⟨m.dig,rfl⟩ (zB wa) false;refine this.trans ?_;rw [<-Z8h (ek:=.string) Z4z Z4y];rfl
    obtain ⟨ts,hts⟩:∃ts,Zaw m.dig sd=ts:=⟨_,rfl⟩;rw [hts] at hls;have HTS:=Hd hts;clear hts;rcases ts with _ | _
    ·have HNM:=Hd (Z2m.1 HTS.out);have HE:=Hd (show Z28 s.props ks s.acc=(outl ++ [m.list]) ++ Z28 s.props (ks.drop (j+1)) (Z2j m.dig sd) from by
      rw [HEQ.out,HDR.out];conv=>lhs;arg 2;unfold Z28
      rw [HGM.out];simp only;rw [if_neg HNM.out,List.append_assoc,Z3s s.props _ (m.dig :: sd) (Z2j m.dig sd) (λd=>by
       unfold Z2j;rw [if_neg HNM.out];simp [or_comm])]
      rfl)
     have HLL2:=Hd (HLL.out r m HGM.out);go_upto_region 10 with (refine Z14 _ rfl (.tmp 48) (.tmp 50) (.const (.bool true)) 109 (by rfl) 9 4 Tryz.underlying109 Zpn sb _ (by rfl) HSA.out (Z6w _ _) (.string m.dig) (.bool true) (by rfl) (by rfl) ⟨m.dig,rfl⟩ ?_;intro ob hob;have HO:=Hd hob;clear hob)
     obtain ⟨wb,hwb⟩:∃wb,wb=wa.putObj sb ob:=⟨_,rfl⟩;have HSB2:=Hd (show Z01 wb sb ((Z2j m.dig sd).map Z63) from by
      have h3:=HO.out;rw [Z6v (ek:=.string) Z4z Z4y] at h3;rw [hwb];exact h3)
     have HPB:=Hd (show (∀k,k≠sb->wb.heap[k]?=wa.heap[k]?)∧wb.heap.size=wa.heap.size from by
      rw [hwb];exact ⟨λk hk=>World.putObj_heap_other hk,by simp [World.putObj]⟩)
     have HCB:=Hd (show Chg (λk=>k=sb) wa wb from by rw [hwb];exact Chg.put wa sb ob rfl);rw [<-hwb];clear hwb HO hls;have HMR:=Hd (show wb.heap[mb]?=some (.cells #[.int .i64 m.kind,.int .i64 m.frm,.int .i64 m.to,.int .i64 m.height,.int .i64 m.round,.int .i64 m.valid,.string m.dig,.slice mao m.list.length mcap] 36 (0,0)) from (HPB.out.1 mb (by have:=HMB.out.1;have:=HSL.out;omega)).trans HRA.out);clear c0 c1 c2 c3 c4 c5 c6 c7 fz;have c7:=(Z1y.of HMR.out).c7;have HLB:=Hd (show Z0a R wb (.slice mao m.list.length mcap) m.list from HLR.out.kept (w':=wb) (λg cur fr hr _=>by
      have:=H.out.lt g hr;have:=HSB.out;rw [HPB.out.1 g (by omega)];exact HBA.out.block g (by have:=HBR.out.size;omega)))
     have CN:=Hd (Z3a HLB.out HLL2.out);obtain ⟨sls,hA,hown⟩:=HRO.out;have HAL:=Hd hA;have HOW:=Hd hown;have HVB:=Hd (show ∀g',(Value.slice oao outl.length ocap).ownBlock=some g'->w.heap.size<=g'∧g'<wr.heap.size∧∃cur,wr.heap[g']?=some (.cells cur 30 (0,0)) from λg' hg=>by
      rcases hown.2 with ⟨e,_⟩ | ⟨g2,c2,cur,e,hb,hg2,_⟩
      ·rw [e] at hg;simp [Value.ownBlock] at hg
      rw [e] at hg;have:g2=g':=by simpa [Value.ownBlock] using hg
      subst this;exact ⟨hb,(gE hg2).1,cur,hg2⟩)
     have HKB:=Hd (show ∀k,k<wr.heap.size->k≠sb->wb.heap[k]?=wr.heap[k]? from λk hk hne=>(HPB.out.1 k hne).trans (HBA.out.block k hk));have HWB:=Hd (show wr.heap.size<=wb.heap.size from by have:=HPB.out.2;have:=HBA.out.size;omega);obtain ⟨ti,hti,hz0,hz1,hz2⟩:=info_parts Tryz.infoSS;clear hA hown;go_wp2_with (first
      | (go_at_call 67;(with_reducible refine CN.out.mono ?_);rintro e w5 ⟨v5,rfl,hr5,hb5⟩;obtain ⟨ao5,cap5,rfl,_⟩:=id hr5;have HR5:=Hd hr5;have HB5:=Hd hb5;have HB6:=Hd ((Below.refl _ w5).alloc (Nat.le_refl _) (.cells #[.slice ao5 m.list.length cap5] 30));have OW5:=Hd (show (w5.alloc (.cells #[.slice ao5 m.list.length cap5] 30)).ownsRow w.heap.size 30 1 (.slice oao outl.length ocap) outl.length sls from Z07 HOW.out (λg' hg hlt=>(HB6.out.block g' (by have:=HWB.out;have:=hb5.size;omega)).trans ((hb5.block g' (by have:=HWB.out;omega)).trans (HKB.out g' hlt (HOB.out g' hg)))));clear hr5 hb5)
      | (refine Z0m rfl (.tmp 51) (.tmp 55) 31 (by rfl) w.heap.size 30 ti (.slice none 0 0) 1 24 Tryz.underlying31 hti hz0 hz1 hz2 (by rfl) (by decide) (.slice oao outl.length ocap) outl.length sls (by rfl) OW5.out ⟨w5.heap.size,0,none⟩ 1 1 [.slice ao5 m.list.length cap5] (by rfl) (by rfl) (Z0w w5 [.slice ao5 m.list.length cap5] _ _ rfl) (by intro u hu;simp at hu;subst hu;rfl) (by unfold maxLen;have:=HOL.out;omega) (by have:=HOL.out;omega) (by have:=HB6.out.size;have:=HB5.out.size;have:=HWB.out;have:=HBR.out.size;omega) (outl.length+1) rfl ?_;intro v6 w6 own6 gr6 loc6;have OWN6:=Hd own6;have GR6:=Hd gr6;have LOC6:=Hd loc6;clear own6 gr6 loc6))
     have HZ:=Hd (show ∀k,k<wr.heap.size->k≠sb->(w5.alloc (.cells #[.slice ao5 m.list.length cap5] 30)).heap[k]?=wr.heap[k]? from λk hk hne=>(HB6.out.block k (by have:=HWB.out;have:=HB5.out.size;omega)).trans ((HB5.out.block k (by have:=HWB.out;omega)).trans (HKB.out k hk hne)));obtain ⟨es,clk,hsm,_⟩:=id HSD.out;have HRL:=Hd (Zmq HAL.out HOW.out HR5.out HBR.out.size HWB.out HB5.out.size HB6.out.size ⟨es,clk,hsm⟩ HZ.out (λk hk=>HB6.out.block k hk) OWN6.out GR6.out);have HS6:=Hd (show Z01 w6 sb ((Z2j m.dig sd).map Z63) from ((HSB2.out.kept (HB5.out.block sb (by have:=HWB.out;have:=HSL.out;omega))).kept (HB6.out.block sb (by have:=HWB.out;have:=HB5.out.size;have:=HSL.out;omega))).kept (GR6.out.block sb (by have:=HB6.out.size;have:=HWB.out;have:=HB5.out.size;have:=HSL.out;omega) (λe=>HOB.out sb e.symm rfl)));have HC6:=Hd (show Chg (λk=>w.heap.size<=k) w3 w6 from
      HCH.out.trans (((Chg.of_below (C:=λk=>w.heap.size<=k) HBA.out (λk h1 h2=>absurd h1 (by omega))).trans ((HCB.out.mono (λk _ h=>.inl (by rw [h];exact HSB.out))).trans (((Chg.of_below (C:=λk=>w.heap.size<=k) HB5.out (λk h1 h2=>absurd h1 (by omega))).trans (((Chg.of_below (C:=λk=>w.heap.size<=k) HB6.out (λk h1 h2=>absurd h1 (by omega))).trans (Chg.grown GR6.out (λk e=>.inl (HVB.out k e).1))).mono (λk _ h=>.inl h))).mono (λk _ h=>.inl (.inl h))))).mono (λk _ h=>.inl h)))
     have HG6:=Hd (show ∀g',some (⟨g,0,none⟩:Addr)=some ⟨g',0,none⟩->w6.heap[g']?=w3.heap[g']? from λg' e=>by
      cases e;have hgw:=HGW.out.trans HGI.out;have hlt:=(gE hgw).1;rw [GR6.out.block g (by have:=HB6.out.size;have:=HWB.out;have:=HB5.out.size;omega) (λe=>by
       obtain ⟨_,_,cur2,h2⟩:=HVB.out g e.symm;rw [hgw] at h2;injection h2 with h2
       injection h2 with _ h2 _
       exact absurd h2 (by decide))]
      rw [HZ.out g hlt (λe=>by rw [<-e,hgw] at hsm;cases hsm)];exact HGW.out)
     have HO6:=Hd (show ∀g',v6.ownBlock=some g'->g'≠sb from λg' hg=>by
      rcases LOC6.out g' hg with q | q
      ·exact HOB.out g' q
      have:=HB6.out.size;have:=HWB.out;have:=HB5.out.size;have:=HSL.out;omega)
     clear hsm;go_roundw
     case rel=>exact ⟨j+1,Z2j m.dig sd,outl ++ [m.list],by omega,by go_num,HS6.out,HRL.out,by rw [List.length_append];have:=HOL.out;simp;omega,HC6.out,HG6.out,HO6.out,HE.out⟩
     case measure=>simp [intOf];omega
    have HE:=Hd (show Z28 s.props ks s.acc=outl ++ Z28 s.props (ks.drop (j+1)) sd from by
     rw [HEQ.out,HDR.out];conv=>lhs;arg 2;unfold Z28
     rw [HGM.out];simp only;rw [if_pos (Z46.1 HTS.out)])
    go_wp2_with fail
    go_roundw
    case rel=>exact ⟨j+1,sd,outl,by omega,by go_num,HSA.out,HRO.out.later HBA.out,by have:=HOL.out;omega,HCH.out.trans ((Chg.of_below (C:=λk=>w.heap.size<=k) HBA.out (λk h1 h2=>absurd h1 (by omega))).mono (λk _ h=>.inl h)),λg' hg'=>(HBA.out.block g' (by
     have:=(HKK.out g' hg');cases hg';exact (gE (this.trans HGI.out)).1)).trans (HKK.out g' hg'),HOB.out,HE.out⟩
    case measure=>simp [intOf];omega
   have j1:¬(j:Int)<(nk:Int):=by omega
   have HE:=Hd (show outl=s.asked from by
    rw [HAS.out,HEQ.out,List.drop_of_length_le (by rw [<-HNK.out];omega)];show outl=outl ++ [];rw [List.append_nil])
   go_wp2_with fail
   go_ret;exact ⟨⟨_,rfl,by rw [<-HE.out];exact HRO.out⟩,HBR.out⟩
 have HAS:=Hd (show s.asked = [] from by unfold NS.asked;rw [<-HDN.out];rfl);go_wp2_with fail
 go_ret;exact ⟨⟨_,rfl,by rw [HAS.out];exact Zgv.nil _ _⟩,HB1.out⟩
end
section
open Go.RowKit
def Z0q (base:Nat) (w1:World) (nb gn nc:Nat) (cur:Array Value) (xs:List Nat) (st:Z0g) (A:Nat->Prop) (W:World):Prop:=
 ∃Rs qv fv cv qs,Z4o base w1 nb gn nc cur xs.length xs st.ss Rs qv fv cv qs st A W
section
variable {base:Nat} {w1 W W':World} {nb gn nc:Nat} {cur:Array Value} {xs:List Nat} {st:Z0g} {A B:Nat->Prop}
theorem Z0q.less (h:Z0q base w1 nb gn nc cur xs st A W) (hs:∀k,B k->A k):Z0q base w1 nb gn nc cur xs st B W:=by
 obtain ⟨Rs,qv,fv,cv,qs,h⟩:=h;exact ⟨Rs,qv,fv,cv,qs,h.less hs⟩
theorem Z0q.lt (h:Z0q base w1 nb gn nc cur xs st A W) {k:Nat} (hk:A k):k<W.heap.size:=by
 obtain ⟨Rs,qv,fv,cv,qs,h⟩:=h;exact h.lt hk
theorem Z0q.len (h:Z0q base w1 nb gn nc cur xs st A W):xs.length=st.ss.length:=by
 obtain ⟨Rs,qv,fv,cv,qs,h⟩:=h;exact h.len
theorem Z0q.h8 (h:Z0q base w1 nb gn nc cur xs st A W):xs.length<=8:=by
 obtain ⟨Rs,qv,fv,cv,qs,h⟩:=h;exact h.h8
theorem Z0q.below (h:Z0q base w1 nb gn nc cur xs st A W):Below base w1 W:=by
 obtain ⟨Rs,qv,fv,cv,qs,h⟩:=h;exact h.flk.bel
theorem Z0q.gl (h:Z0q base w1 nb gn nc cur xs st A W):Glob W:=by
 obtain ⟨Rs,qv,fv,cv,qs,h⟩:=h;exact h.flk.gl
theorem Z0q.keepB (h:Z0q base w1 nb gn nc cur xs st A W) (hb:Below W.heap.size W W'):Z0d A W W':=⟨hb.size,λk hk=>hb.block k (h.lt hk)⟩
theorem Z0q.later (h:Z0q base w1 nb gn nc cur xs st A W) (hb:Below W.heap.size W W'):Z0q base w1 nb gn nc cur xs st A W':=by
 obtain ⟨Rs,qv,fv,cv,qs,h⟩:=h;exact ⟨Rs,qv,fv,cv,qs,h.later hb⟩
theorem Z0q.grow (h:Z0q base w1 nb gn nc cur xs st A W) (hb:Below W.heap.size W W'):Z0q base w1 nb gn nc cur xs st (λk=>A k∨New W W' k) W':=by
 obtain ⟨Rs,qv,fv,cv,qs,h⟩:=h;exact ⟨Rs,qv,fv,cv,qs,h.grow hb⟩
theorem Z0q.set (h:Z0q base w1 nb gn nc cur xs st A W) {b:Nat} (hb:A b) {cc:Array Value} {t:Nat} {x:Nat×Nat} (hg:W.heap[b]?=some (.cells cc t x)) (ht:t≠9) (i:Nat) (v:Value):Z0q base w1 nb gn nc cur xs st A (W.setCell ⟨b,i,none⟩ v):=by
 obtain ⟨Rs,qv,fv,cv,qs,h⟩:=h;exact ⟨Rs,qv,fv,cv,qs,h.set hb hg ht i v⟩
theorem Z0q.row (h:Z0q base w1 nb gn nc cur xs st A W):∃qv fv cv,W.heap[nb]?=some (.cells (Z1b (st.n:Int) (Z03 st.n) st.last st.now (.slice (some ⟨gn,0,none⟩) xs.length nc) qv fv cv st.br) 50 (0,0)):=by
 obtain ⟨Rs,qv,fv,cv,qs,h⟩:=h;exact ⟨qv,fv,cv,h.row⟩
theorem Z0q.cells (h:Z0q base w1 nb gn nc cur xs st A W):W.cell? ⟨nb,0,none⟩=some (.int .i64 (st.n:Int))∧W.cell? ⟨nb,1,none⟩=some (.int .i64 (Z03 st.n))∧W.cell? ⟨nb,2,none⟩=some (.slice (some ⟨gn,0,none⟩) xs.length nc)∧W.cell? ⟨nb,3,none⟩=some (.int .i64 st.last)∧W.cell? ⟨nb,4,none⟩=some (.int .i64 st.now)∧W.cell? ⟨nb,8,none⟩=some (.bool st.br):=by
 obtain ⟨qv,fv,cv,h⟩:=h.row;refine ⟨?_,?_,?_,?_,?_,?_⟩ <;> (rw [cell_of_row W nb _ _ _ _ h];rfl)
theorem Z0q.node (h:Z0q base w1 nb gn nc cur xs st A W) {i x:Nat} (hx:xs[i]?=some x):W.cell? ⟨gn,i,none⟩=some (pv x):=by
 obtain ⟨Rs,qv,fv,cv,qs,h⟩:=h;exact h.node (List.getElem?_eq_some_iff.1 hx).1 hx
theorem Z0q.fit (h:Z0q base w1 nb gn nc cur xs st A W) {s:StB} (hs:s∈st.ss):Fit GB s:=by
 obtain ⟨Rs,qv,fv,cv,qs,h⟩:=h;exact h.flk.net.fit s hs
theorem Z3t {α:Type} {l:List α} {n:Nat} (h:n=l.length):l.take n=l:=by subst h;exact List.take_length
theorem Z4o.sailX {Rs Rs':Nat->Nat->Prop} {qv fv cv:Value} {qs:List Z6o} {zs':List StB} (h:Z4o base w1 nb gn nc cur xs.length xs st.ss Rs qv fv cv qs st A W) (hs:Z6i GB base W xs Rs W' zs' Rs'):Z0q base w1 nb gn nc cur xs {st with ss:=zs'} A W'∧Z0d A W W':=by
 obtain ⟨h1,h2⟩:=h.sail hs;rw [Z3t h1.len] at h1;exact ⟨⟨Rs',qv,fv,cv,qs,h1⟩,h2⟩
variable {i x:Nat} {s:StB}
theorem Z0q.height (h:Z0q base w1 nb gn nc cur xs st A W) (hx:xs[i]?=some x) (hs:st.ss[i]?=some s):Calls Tryz.prog 24 #[pv x] W λe w'=>e = .returned (.int .i64 s.height)∧w'=W:=by
 obtain ⟨Rs,qv,fv,cv,qs,h⟩:=h;exact Zgo h.flk.net hx hs
theorem Z0q.dec (h:Z0q base w1 nb gn nc cur xs st A W) (hx:xs[i]?=some x) (hs:st.ss[i]?=some s) (k:Int):Calls Tryz.prog 21 #[pv x,.int .i64 k] W λe w'=>(∃u,e = .returned (.tuple #[u,.bool (s.isDec k)])∧∀v,Z02 k s.decs=some v->Z0a (New W w') w' u v.list)∧Below W.heap.size W w':=by
 obtain ⟨Rs,qv,fv,cv,qs,h⟩:=h;refine (Z7d GB.gf h.flk.net hx hs k).mono ?_;rintro e w' ⟨hd,hb⟩;refine ⟨?_,hb⟩;unfold Zt3 at hd;have e0:s.isDec k=(Z02 k s.decs).isSome:=rfl;rw [e0];rcases hg:Z02 k s.decs with _ | v
 ·rw [hg] at hd;exact ⟨_,hd,λv hv=>by cases hv⟩
 rw [hg] at hd;obtain ⟨u,e1,e2⟩:=hd;exact ⟨u,e1,λv' hv=>by cases hv;exact e2⟩
theorem Z0q.tick (h:Z0q base w1 nb gn nc cur xs st A W) (hx:xs[i]?=some x) (hs:st.ss[i]?=some s) (hT:s.ticks<=1000000000000):Calls Tryz.prog 18 #[pv x] W λe w'=>∃v A',e = .returned v∧(∀k,A k->A' k)∧Z0q base w1 nb gn nc cur xs (st.set i s.tick.1) A' w'∧Z0d A W w'∧Z4g (λk=>¬A' k) W w' v s.tick.2:=by
 obtain ⟨Rs,qv,fv,cv,qs,h⟩:=h;refine (Zr7 (i:=i) GB.gf h.flk.net h.flk.size hx hs hT).mono ?_;rintro e w' ⟨v,Rs',rfl,hs,ho⟩;obtain ⟨h3,h4⟩:=h.sail hs;rw [Z3t h3.len] at h3;refine ⟨v,λk=>A k∨Zk2 (Z7b xs.length Rs') W w' k,rfl,λk hk=>.inl hk,⟨Rs',qv,fv,cv,qs,⟨h3.flk,h3.hl,h3.h8,h3.hss,h3.row,h3.ptr,h3.at',h3.que,h3.qst,h3.ql,h3.fat,h3.cst,h3.own,λk hk=>?_⟩⟩,h4,ho.other (λk hk k1 k2=>?_)⟩
 ·rcases hk with hk | hk
  ·exact h3.bes k hk
  refine ⟨⟨hk.1.2,hk.2⟩,Nat.le_trans h.flk.size hk.1.1,λq=>?_⟩;have:=(h.own k q).1.1;have:=hk.1.1;omega
 exact Classical.byContradiction λq=>hk (.inr ⟨⟨k1,k2⟩,q⟩)
theorem Z0q.accept (h:Z0q base w1 nb gn nc cur xs st A W) (hx:xs[i]?=some x) (hs:st.ss[i]?=some s) (d:ByteArray):Calls Tryz.prog 25 #[pv x,.string d] W λe w'=>e = .returned (.tuple #[])∧Z0q base w1 nb gn nc cur xs (st.set i (s.accept d)) A w'∧Z0d A W w':=by
 obtain ⟨Rs,qv,fv,cv,qs,h⟩:=h;refine (Zr9 (i:=i) h.flk.net h.flk.size hx hs d).mono ?_;rintro e w' ⟨rfl,Rs',hs⟩;exact ⟨rfl,h.sailX hs⟩
theorem Z0q.begin (h:Z0q base w1 nb gn nc cur xs st A W) (hx:xs[i]?=some x) (hs:st.ss[i]?=some s) {R0:Nat->Prop} {v:Value} {l:List ByteArray} (hr:Z0a R0 W v l) (h0:∀k,R0 k->k<W.heap.size) (hl:l.length<=60) (hv:GB (Z0z l) l) (k:Int) :
  Calls Tryz.prog 16 #[pv x,.int .i64 k,v] W λe w'=>e = .returned (Zlm (s.begin k (Z1f l) (Z0z l) l).2)∧Z0q base w1 nb gn nc cur xs (st.set i (s.begin k (Z1f l) (Z0z l) l).1) A w'∧Z0d A W w':=by
 obtain ⟨Rs,qv,fv,cv,qs,h⟩:=h;refine (Zew (i:=i) GB.gf h.flk.net h.flk.size hx hs hr h0 hl h.flk.gl (λ_=>hv) k).mono ?_;rintro e w' ⟨rfl,Rs',hs⟩;exact ⟨rfl,h.sailX hs⟩
theorem Z0q.recv (h:Z0q base w1 nb gn nc cur xs st A W) (hx:xs[i]?=some x) (hs:st.ss[i]?=some s) {R0:Nat->Prop} {v:Value} {m:Z0k} (hm:Z8d R0 W v m) (h0:∀k,R0 k->k<W.heap.size) (hl:m.list.length<=60) (hv:Z04 m=true->m.kind=3->GB m.dig m.list) :
  Calls Tryz.prog 20 #[pv x,v] W λe w'=>e = .returned (.tuple #[])∧Z0q base w1 nb gn nc cur xs (st.set i (s.receive m (Z04 m))) A w'∧Z0d A W w':=by
 obtain ⟨Rs,qv,fv,cv,qs,h⟩:=h;refine (Zr8 (i:=i) GB.gf h.flk.net h.flk.size hx hs hm h0 hl h.flk.gl hv).mono ?_;rintro e w' ⟨rfl,Rs',hs⟩;exact ⟨rfl,h.sailX hs⟩
end
end
end Go.Proofs.YtifcdjmcoibblaaGreatDoor
